import Derived.Test.YtpaniebomegnbaaGreatM10
set_option maxHeartbeats 8000000
set_option maxRecDepth 20000
namespace Go.Proofs.YtpaniebomegnbaaGreat
open Go Go.RowKit Coup
theorem yL.mono{Yv:List tZ->VE}{q N lo:Nat}{H:HS}{V:Nat->Pg}{k:Nat}{dec:tZ->Bool}{Q:tZ->Prop}{kf:Nat}{caps:List Value}{L L0:List Nat}{w w0:World}(h:yL Yv q N lo H V k dec Q kf caps L w)(hL:∀ b∈L,b∈L0)(hW:nC lo L w w0):yL Yv q N lo H V k dec Q kf caps L0 w0:=
 λvs v bl M L' xs a c1 c c2 W e f g=>h vs v bl M L' xs a c1 c c2 W e (λb hb=>f b (hL b hb)) (hW.ll g hL)
section
variable {Yv:List tZ->VE}[hYT:∀ vs,nz (Yv vs)]{q tb hb N lo:Nat}{H:HS}{fl L:List Nat}{V:Nat->Pg}{k:Nat}{dec:tZ->Bool}{Q:tZ->Prop}{kf:Nat}{caps:List Value}{l:Nat}{t:Tr l}{w:World}
theorem ztC {gs gm gd gn gt:Nat} {L0:List Nat} {w0:World} (hdo:yL Yv q N lo H V k dec Q kf caps L0 w0) (hcan:vC Tryz.prog kf=true) (hgm:lo<=gm)
  (hrs0:row w0 gs [.map (some gm)] 169) (hgs:gs∈L0) (hrd0:row w0 gd [.func (.func kf) #[] caps.toArray] 91) (hgd:gd∈L0)
  (hrn0:row w0 gn [.func (.func 103) #[] [VA gs,VA gd,VA gn,VA gt].toArray] 170) (hgn:gn∈L0)
  (hrt0:row w0 gt [VA tb] 37) (hgt:gt∈L0) (hrb0:row w0 tb [VA q,VA hb] 50) (htb:tb<lo\/tb∈L0):∀ l,VI Yv q N lo H V k dec Q L0 w0 gs gm gd gn gt l
 |0=>W_ (λa e=>dB) hdo hcan hgm hrs0 hgs hrd0 hgd hrn0 hgn hrt0 hgt hrb0 htb
 |l+1=>W_ (λa e=>by cases e;exact ztC hdo hcan hgm hrs0 hgs hrd0 hgd hrn0 hgn hrt0 hgt hrb0 htb l) hdo hcan hgm hrs0 hgs hrd0 hgd hrn0 hgn hrt0 hgt hrb0 htb
theorem Cq(h:Two (GZ q N (nQ H) V k) (Yv []) lo L w)(hR:TR q tb hb N lo L H fl l t w)(hnd:(om l t).Nodup)(hQ:∀ v∈tq dec l t [] [],Q v)(hdo:yL Yv q N lo H V k dec Q kf caps L w)(hcan:vC Tryz.prog kf=true):
  CQ 37 [VA tb, .func (.func kf) #[] caps.toArray] w (λr w'=>r= .tuple #[]/\Two (GZ q N (nQ H) V k) (Yv (tq dec l t [] [])) lo L w'/\nC lo L w w'):=by
 have a:=nC.refl lo L w;have P:=h;have g5:=h.lo;have c4:=h.lt;have c5:([]:List tZ).length+(tq dec l t [] []).length<=2048:=by
  have F:=RP dec l t [] [];have G:=EG N 0 (om l t) hnd λn c6=>by
   have c7:=hR.ti.rg n c6;have Q:=hR.ti.fN;omega
  have g6:=hR.ti.n2;simp only[aY];omega
 have c8:vC Tryz.prog 103=true:=by kernel_rfl
 refine nZ (rs:=[]) (n:=17) Tryz.func37 rfl rfl Tryz.ntmps37 dA rfl<|ny<|nK<|qi ([_]) rfl<|λj w2 c9 m a4=>?_
 replace P:=P.nL a4 c9 m.lt;replace a:=a.new a4;refine nK<|qi ([_]) rfl<|λp g7 d0 u X=>?_
 replace P:=P.nL X d0 u.lt;replace a:=a.new X;replace m:=m.new X;refine qx ?_;have a5:=P;refine nK<|QA (k:=3) (N)<|λs d1 d2 b2 Y=>?_
 replace a:=a.new Y;replace m:=m.new Y;replace u:=u.new Y;have y:=a5.nL Y d2 b2.lt;have r:MapAt Tryz.prog 3 d1 s N (zi []):=by
  have e:zi []=λ_=>none:=by funext i;exact if_neg (bq)
  rw[e];exact b2
 refine nK<|oD ([Value.map none]) dA<|λc g8 Z z R=>?_
 have d3:j<c:=ae m.lt Z;have d4:p<c:=ae u.lt Z;have d5:s<c:=ae r.lt Z;replace a:=a.new R;replace m:=m.new R;replace u:=u.new R;replace y:=y.nL R Z z.lt;replace r:=r.new R;refine nT<|pQ z<|λg9 z S=>?_
 replace a:=a.oq S;replace m:=m.only S (ai d3);replace u:=u.only S (ai d4);replace y:=y.only S eG;replace r:=r.only S (ai d5);refine qx<|nK<|oD ([Value.nilFunc]) dA<|λf h0 T C I=>?_
 have d6:j<f:=ae m.lt T;have d7:p<f:=ae u.lt T;have d8:s<f:=ae r.lt T;have d9:c<f:=ae z.lt T;replace a:=a.new I;replace m:=m.new I;replace u:=u.new I;replace y:=y.nL I T C.lt;replace r:=r.new I;replace z:=z.new I;refine qx<|mZ (uV)<|nT<|pQ C<|λJ C K=>?_
 replace a:=a.oq K;replace m:=m.only K (ai d6);replace u:=u.only K (ai d7);replace y:=y.only K eG;replace r:=r.only K (ai d8);replace z:=z.only K (ai d9);refine nk ?_;have e0:row J c [.map (some s)] 169:=z;have e1:row J p [.func (.func kf) #[] caps.toArray] 91:=u;have e2:row J j [VA tb] 37:=m;have e3:row J f [.func (.func 103) #[] [VA c,VA p,VA f,VA j].toArray] 170:=C;have a0:=hR.ll a;have A:=a0.r;have a1:=a0.rh;have e4:=wB (wB y (g:=hb) (hR.hb.imp id λh=>by simp[h]) a1.lt) (g:=tb) (hR.tb.imp id λh=>by simp[h]) A.lt;have M:Two (GZ q N (nQ H) V k) (Yv []) lo (s::tb::hb::f::c::p::j::L) J:=e4.weak λb hb=>by
  simp only[ak]at hb |-;rcases hb with h|h|h|h|h|h|h|h<;>simp[h]
 have h1:=a4.size;have h2:=X.size;have U:∀ b∈L,b∈tb::hb::f::c::p::j::L:=λb hb=>by simp[hb]
 have e5:=ztC (hdo.mono U a) hcan dB e0 ig e1 ig e3 ig e2 ig A (.inr (aK ..)) l;have e6:s∉tb::hb::f::c::p::j::L:=λO=>by
  simp only[ak]at O;have F:=hR.r.lt;have G:=hR.rh.lt;have c7:=a5.lt p ig;have Q:=a5.lt j ig;rcases O with h|h|h|h|h|h|h
  .omega
  .omega
  .omega
  .omega
  .omega
  .omega
  .have:=c4 s h
   omega
 have e7:=fun(w':World) (F:Two (GZ q N (nQ H) V k) (Yv []) lo (s::tb::hb::f::c::p::j::L) w') (G:row w' hb [VA q] 201) (Q:MapAt Tryz.prog 3 w' s N (zi []))=>(Na hb F a0.ok G (.inr ig)).to λv w2 ⟨a6,a7,a2⟩=>(show v=VB (t.n:Int)/\Two (GZ q N (nQ H) V k) (Yv []) lo (s::tb::hb::f::c::p::j::L) w2/\MapAt Tryz.prog 3 w2 s N (zi [])/\nC lo (tb::hb::f::c::p::j::L) w' w2 from⟨by rw[a6,a0.rt],a7,Q.nD a2.kp (pG (.inr (aK ..))),a2.weak (ax _) λb hb=>aj _ hb⟩)
 have e8:=fun(w':World) (F:Two (GZ q N (nQ H) V k) (Yv []) lo (s::tb::hb::f::c::p::j::L) w') (G:row w' tb [VA q,VA hb] 50) (Q:MapAt Tryz.prog 3 w' s N (zi []))=>(OJ tb hb F G hR.ti.page.1 (x:=nX l t) rfl hR.ti.page.2 (hR.ti.zZ hR.sd)).to λv w2 ⟨xs,bl,a6,a7,a2,e9,b3⟩=>(show ∃ (xs:List Value) (bl:List Nat),v=Value.agg xs.toArray/\qC w2 bl xs (nX l t)/\(∀ b∈bl,w'.heap.size<=b)/\Two (GZ q N (nQ H) V k) (Yv []) lo (bl++s::tb::hb::f::c::p::j::L) w2/\MapAt Tryz.prog 3 w2 s N (zi [])/\nC lo (tb::hb::f::c::p::j::L) w' w2 from⟨xs,bl,a6,a7,a2,e9,Q.nD b3.kp (pG (.inr (aK ..))),b3.weak (ax _) λb hb=>aj _ hb⟩)
 have D:=nC.refl lo (tb::hb::f::c::p::j::L) J;refine vX (lo) ((tb::hb::f::c::p::j::L)) dA ?_;intro f0 B a8 f1;replace a:=a.new B;replace m:=m.new B;replace r:=r.new B;replace C:=C.new B;replace M:=M.new B;replace A:=A.new B;replace a1:=a1.new B;replace D:=D.new B;have b4:=m;have f2:=C;have f3:=A;refine nR 0 (λw' E=>nH (f2.kL E))<|nR 1 (λw' E=>nH (b4.kL E))<|nR 2 (λw' E=>nH (b4.kL E))<|nu 3 (oo rfl)<|nu 4 (nG 1)<|nR 5 (λw' E=>nH (f3.kL E))<|oh 6 dA<|qw rfl rfl (oz dA rfl) (e7 f0 M a1 r) ?_
 rintro _ b5 ⟨rfl,M,r,a3⟩;replace a:=a.ll a3 U;replace D:=D.ll a3 (λb hb=>hb);have b6:=f1.vv a8 a3.wk;refine⟨b6,?_⟩;replace A:=A.nD a3.kp eu;refine oh 7 dA ?_;obtain⟨W8,f4⟩:=aa (b5);have f5:=r.lt;have b7:=M.lt;refine qw rfl rfl (oz dA rfl) (e8 b5 M A r) ?_;rintro _ f6 ⟨f7,a9,rfl,f8,b0,f9,r,b1⟩;replace a:=a.ll b1 U;replace D:=D.ll b1 (λb hb=>hb);have b8:=b6.vv a8 b1.wk;refine⟨b8,?_⟩;refine oh 8 dA ?_;rw[f4]at b0 f5 b7;have g0:∀ b∈a9,lo<=b/\b∉tb::hb::f::c::p::j::L:=λb hb=>by
  have F:=b0 b hb;refine⟨dB,λO=>?_⟩;have G:=b7 b (aj _ O);omega
 have g1:s∉a9++tb::hb::f::c::p::j::L:=λO=>by
  rcases ay.1 O with h|h
  .have:=b0 s h
   omega
  .exact e6 h
 have g2:=e5 t [] [] [] [] (tb::hb::f::c::p::j::L) a9 f7 none 0 none 0 f6 c5 (λb hb=>hb) D hR.ti hR.sd (λn _=>bq) hnd hQ f8 (nM.nil _ _ _) (λg o e=>nomatch e) (nM.nil _ _ _) (λg o e=>nomatch e) f9 r g1 g0;refine qw rfl rfl (uH c8 rfl rfl) (g2) ?_;rintro _ h3 ⟨rfl,S2,g3,r,_,b9⟩;replace a:=a.ll b9 U;have g4:=b8.vv a8 b9.wk;refine⟨g4,?_⟩;refine pq dA<|zS [] trivial ?_
 exact⟨rfl,g3.weak λb hb=>aj _ (U b hb),a⟩
end
structure Jf(ga:Nat)(bl:List Nat)(u:Value)(cs:List (Key × V3))(w:World):Prop where
 r:row w ga [u] 83
 v:∃ vs,og w 0 90 4 u cs.length vs/\rD w bl vs cs
instance(ga:Nat)(bl:List Nat)(u:Value)(cs:List (Key × V3)):Kept (ga::(u.ownBlock.toList++bl)) (Jf ga bl u cs):=
 ⟨fun {w w' M} ⟨c,vs,f,h⟩ k a=>⟨c.nD k (a _ ig),vs,f.nD k λg i e=>a g kH i,h.nD k λb hb=>a b jX⟩⟩
def BB(Y:VE)(ga n:Nat)(cs:List (Key × V3)):VE:=λw C=>∃ u bl,(∀ b∈u.ownBlock.toList,b≠ga/\b∉bl)/\ga∉bl/\cs.length<=n/\yF Y (ga::(u.ownBlock.toList++bl)) (Jf ga bl u cs) w C
instance(Y:VE)[nz Y](ga n:Nat)(cs:List (Key × V3)):nz (BB Y ga n cs):=
 ⟨fun⟨u,bl,a,c,e,f⟩ k g=>⟨u,bl,a,c,e,nz.nD f k g⟩,fun⟨_,_,_,_,_,h⟩ b hb=>nz.lt h b hb⟩
section
variable {X Y:VE}{lo ga n:Nat}{L:List Nat}{cs:List (Key × V3)}{w:World}
theorem ztD(h:Two X (BB Y ga n cs) lo L w):∃ u bl,Two X Y lo ((ga::(u.ownBlock.toList++bl))++L) w/\Jf ga bl u cs w/\(∀ b∈ga::(u.ownBlock.toList++bl),lo<=b/\b∉L)/\(∀ b∈u.ownBlock.toList,b≠ga/\b∉bl)/\ga∉bl/\cs.length<=n:=by
 obtain⟨⟨B,C,e,⟨u,bl,f,g,i,j⟩,k,l⟩,m,o⟩:=h;obtain⟨a,b,c⟩:=Vz (Y:=Y) (F:=Jf ga bl u cs) (X:=X) (bl:=ga::(u.ownBlock.toList++bl)) (lo:=lo) (L:=L) (w:=w) ⟨⟨B,C,e,j,k,l⟩,m,o⟩;exact⟨u,bl,a,b,c,f,g,i⟩
theorem Wq{u:Value}{bl:List Nat}(h:Two X Y lo ((ga::(u.ownBlock.toList++bl))++L) w)(hF:Jf ga bl u cs w)(hl:∀ b∈ga::(u.ownBlock.toList++bl),lo<=b/\b∉L)(h1:∀ b∈u.ownBlock.toList,b≠ga/\b∉bl)(h2:ga∉bl)(h3:cs.length<=n):Two X (BB Y ga n cs) lo L w:=by
 obtain⟨⟨B,C,a,b,c,d⟩,e,f⟩:=UV h hF hl;exact⟨⟨B,C,a,⟨u,bl,h1,h2,h3,b⟩,c,d⟩,e,f⟩
end
def allA(fr be:Key)(vs:List tZ):List (Key × V3):=vs.flatMap (Am fr be)
theorem ZM(fr be:Key)(vs:List tZ)(v:tZ):allA fr be (vs++[v])=allA fr be vs++Am fr be v:=by
 unfold allA;rw[bR];exact congrArg _<|aR _
def zg(fr be:Key)(v:tZ)(i:Nat):List (Key × V3):=if v.1.lv=0 then xx (v.1.cs.take i) fr be else[]
def JU(fr be:Key)(v:tZ)(c:Key × V3):Bool:=decide (v.1.lv=0) && (decide (pW fr c.1) && decide (rR c.1 be))
theorem ztE{fr be:Key}{v:tZ}{i:Nat}{c:Key × V3}(h:v.1.cs[i]?=some c):zg fr be v (i+1)=zg fr be v i++if JU fr be v c=true then[c]else[]:=by
 unfold zg JU
 by_cases a:v.1.lv=0
 .rw[if_pos a,if_pos a,decide_eq_true a,fD]
  unfold xx;rw[bf,h,fq]
  congr 1
  show List.filter _ [c]=_;rw[dE]
  rfl
 .rw[if_neg a,if_neg a,decide_eq_false a,fo];rfl
theorem JO{fr be:Key}{x:MN}{a b:Key}{c:Key × V3}(h1:x.lv=0)(h2:pW fr c.1):JU fr be (x,a,b) c=decide (rR c.1 be):=by
 unfold JU;rw[decide_eq_true (show(x,a,b).1.lv=0 from h1),decide_eq_true h2];rfl
theorem Ka{fr be:Key}{x:MN}{a b:Key}{c:Key × V3}(h:x.lv≠0\/¬pW fr c.1):JU fr be (x,a,b) c=false:=by
 unfold JU;rcases h with h|h
 .rw[decide_eq_false (show¬(x,a,b).1.lv=0 from h)];rfl
 .rw[decide_eq_false h,fo,eO]
theorem ztF{α:Type}(ks:List (Key × α))(lo hi:Key):(xx ks lo hi).length<=ks.length:=gG ..
theorem Ug(fr be:Key)(v:tZ)(i:Nat):(zg fr be v i).length<=i:=by
 unfold zg
 split
 .exact ag (ztF ..) kJ
 .simp
theorem Yo{fr be:Key}{v:tZ}(hd:xQ fr be v=true):zg fr be v v.1.cs.length=Am fr be v:=by
 unfold zg Am;rw[dF]
 by_cases a:v.1.lv=0
 .rw[if_pos a,if_pos ⟨hd,a⟩]
 .rw[if_neg a,if_neg λc=>a c.2]
theorem Pn{a b:Key}:pW a b↔0<=sU b a:=by unfold pW pM;omega
theorem zvx{a b:Key}:pW a b↔sU a b<=0:=by
 unfold pW pM;rw[Yi a b];omega
section
variable {Y:VE}[hYT:nz Y]{q N lo:Nat}{H:HS}{V:Nat->Pg}{k:Nat}{L:List Nat}{w:World}
theorem La{fr be:Key}{x:MN}{a b:Key}(h1:be≠[])(h2:0<=sU a be):xQ fr be (x,a,b)=false:=by
 unfold xQ;rw[decide_eq_true (show be≠[]/\pW be a from⟨h1,Pn.2 h2⟩)];rfl
theorem TA{fr be:Key}{x:MN}{a b:Key}(h:¬(be≠[]/\0<=sU a be)):xQ fr be (x,a,b)=!decide (b≠[]/\sU b fr<=0):=by
 unfold xQ;rw[decide_eq_false (show¬(be≠[]/\pW be a)from λc=>h ⟨c.1,Pn.1 c.2⟩),gW]
 congr 1
 exact decide_eq_decide.2<|and_congr_right λ_=>zvx
theorem VM{k:Key}(h:0<(k.length:Int)):k≠[]:=λe=>by rw[e]at h;exact absurd h iT
theorem Di{k:Key}(h:¬0<(k.length:Int)):k=[]:=bH dB
theorem QE {gb gf ga:Nat} {be fr:Key} {pb pf:Option Addr} {cb cf:Nat} (hrb:row w gb [.slice pb be.length cb] 23) (hgb:gb∈L) (hrf:row w gf [.slice pf fr.length cf] 23) (hgf:gf∈L)
   (hbe:nM w pb be.length 1 (bv be)) (hbL:∀ g o,pb=some ⟨g,o,none⟩->g<lo\/g∈L) (hfr:nM w pf fr.length 1 (bv fr)) (hfL:∀ g o,pf=some ⟨g,o,none⟩->g<lo\/g∈L):
   yL (λvs=>BB Y ga (123*vs.length) (allA fr be vs)) q N lo H V k (xQ fr be) (λv=>v.1.cs.length<=123) 38 [VA gb,VA gf,VA ga] L w:=by
 rintro vs ⟨x,a,b⟩ bl M L' xs h9 c1 i0 c2 W n3 i1 Z i2 e8 e9 f0 i3 f1 n4 d1 n5 f;dsimp only at i2 e8 f0 f1 d1 |-;obtain⟨u,E,f2,⟨d2,f3,f4,f5⟩,a4,f6,d3,n6⟩:=ztD f;obtain⟨p,R,n7,rfl,i4,i5,i6,n8⟩:=e8;have n9:=vQ x p R;have o0:=wV x p R;have o1:=nC.refl lo (M++L') W;have F:=hrb.kl Z (.inr hgb);have G:=hrf.kl Z (.inr hgf);have f7:=hbe.rQ Z hbL;have d4:=hfr.rQ Z hfL;have l:=Below.refl W.heap.size W;have o2:=f.lo;have o3:maxLen=9223372036854775807:=by decide
 have b2:∀ b∈L,b∈M++L':=λb hb=>aB _ (i1 b hb)
 refine nZ (rs:=[.tmp 9]) (n:=66) Tryz.func38 rfl rfl Tryz.ntmps38 dA rfl<|ny<|nK<|qi (oQ x p R) rfl<|λC f8 d5 y d6=>?_
 replace F:=F.new d6;replace G:=G.new d6;replace l:=l.acc d6;refine nA<|nk<|nI<|wO (λ_:Unit=>[(31, .bool (!xQ fr be (x,a,b))),(6,VA C),(1, .slice h9 a.length c1),(2, .slice i0 b.length c2),(3,VA gb),(4,VA gf),(5,VA ga)]) (λ_ w'=>row w' C (oQ x p R) 87/\VD W w') ?_ ?_
 ·
  refine nO<|mZ (oK rfl (Ld.ru F dA rfl))<|mZ (oV (e:=5) (sz:=1) dA rfl rfl)<|mZ (rz rfl rfl)<|ng<|sZ 15 rfl (λd7=>?_)<|λd7=>?_
  ·
   refine nE<|ng<|nE<|mZ (oK rfl (Ld.ru F dA rfl))<|nE<|nP (Ik f8 (f1.new l) (f7.new l)) ?_
   rintro _ i7 ⟨rfl,b3⟩;replace F:=F.new b3;replace G:=G.new b3;replace y:=y.new b3;replace l:=l.acc b3;refine nE<|mZ (tV rfl rfl)<|mZ (pK rfl)<|ng<|sZ 21 rfl (λd8=>?_)<|λd8=>?_
   ·
    refine nN<|nN<|nN<|nN<|uK rfl<|uK rfl<|uK rfl<|uK rfl<|nN<|mZ (pK rfl)<|oI<|oM ⟨(),⟨congrArg Value.bool ?_,rfl,rfl,rfl,rfl,rfl,rfl,rfl⟩,y,l⟩
    rw[La (VM d7) (by simpa using d8)];rfl
   ·
    have a5:¬(be≠[]/\0<=sU a be):=λf=>absurd f.2 (by simpa using d8)
    refine nE<|ng<|nE<|mZ (oV (e:=5) (sz:=1) dA rfl rfl)<|nE<|mZ (rz rfl rfl)<|nE<|ng<|sZ 25 rfl (λS=>?_)<|λS=>?_
    ·
     refine nE<|ng<|nE<|mZ (oK rfl (Ld.ru G dA rfl))<|nE<|nP (Ik i7 (d1.new l) (d4.new l)) ?_
     rintro _ i8 ⟨rfl,I⟩;replace F:=F.new I;replace G:=G.new I;replace y:=y.new I;replace l:=l.acc I;refine nE<|mZ (EH rfl rfl)<|nE<|mZ (pK rfl)<|mZ (oP rfl)<|oI<|oM ⟨(),⟨congrArg Value.bool ?_,rfl,rfl,rfl,rfl,rfl,rfl,rfl⟩,y,l⟩;rw[TA a5,jh];exact decide_eq_decide.2 ⟨λf=>⟨VM S,f⟩,λf=>f.2⟩
    ·
     refine nN<|nN<|nN<|nN<|nE<|mZ (oP rfl)<|mZ (oP rfl)<|oI<|oM ⟨(),⟨congrArg Value.bool ?_,rfl,rfl,rfl,rfl,rfl,rfl,rfl⟩,y,l⟩
     rw[TA a5,jh];exact(decide_eq_false λf=>f.1 (Di S)).symm
  ·
   have a5:¬(be≠[]/\0<=sU a be):=λf=>f.1 (Di d7)
   refine nN<|nN<|nN<|nN<|mZ (oP rfl)<|ng<|nE<|ng<|nE<|mZ (oV (e:=5) (sz:=1) dA rfl rfl)<|nE<|mZ (rz rfl rfl)<|nE<|ng<|sZ 25 rfl (λS=>?_)<|λS=>?_
   ·
    refine nE<|ng<|nE<|mZ (oK rfl (Ld.ru G dA rfl))<|nE<|nP (Ik f8 (d1.new l) (d4.new l)) ?_
    rintro _ i8 ⟨rfl,I⟩;replace F:=F.new I;replace G:=G.new I;replace y:=y.new I;replace l:=l.acc I;refine nE<|mZ (EH rfl rfl)<|nE<|mZ (pK rfl)<|mZ (oP rfl)<|oI<|oM ⟨(),⟨congrArg Value.bool ?_,rfl,rfl,rfl,rfl,rfl,rfl,rfl⟩,y,l⟩;rw[TA a5,jh];exact decide_eq_decide.2 ⟨λf=>⟨VM S,f⟩,λf=>f.2⟩
   ·
    refine nN<|nN<|nN<|nN<|nE<|mZ (oP rfl)<|mZ (oP rfl)<|oI<|oM ⟨(),⟨congrArg Value.bool ?_,rfl,rfl,rfl,rfl,rfl,rfl,rfl⟩,y,l⟩
    rw[TA a5,jh];exact(decide_eq_false λf=>f.1 (Di S)).symm
 ·
  rintro _ o4 w1 ⟨y,O⟩;have i9:=f2.lt;have f9:∀ b∈(ga::(u.ownBlock.toList++E))++(M++L'),b≠C:=λb hb e=>by
    have o5:=i9 b hb;have o6:=d5;omega
  have j0:=y.lt;have g0:nC lo (M++L') W w1:=nC.of_below O;have g1:=f2.nL O d5 j0;refine xy rfl (λd9=>?_)<|λd9=>?_
  ·
   refine lY ?_;have a0:xQ fr be (x,a,b)=false:=by simpa using d9
   refine⟨congrArg Value.bool a0.symm,?_,g0.weak (ax _) λb hb=>aB _ hb⟩;have j1:Am fr be (x,a,b)=[]:=by unfold Am;rw[if_neg λf=>by rw[a0]at f;exact dX f.1]
   rw[ZM,j1,aR,aA];exact Wq (u:=u) (bl:=E) (g1.weak λb hb=>by
     simp only[bL,ak,ay]at hb |-;rcases hb with f|(f|f)|f<;>simp[f]) ⟨d2.new O,f3,Coup.og.new f4 O,f5.new O⟩ (λb hb=>⟨(a4 b hb).1,λh=>(a4 b hb).2 (aB _ h)⟩) f6 d3 dB
  ·
   have a0:xQ fr be (x,a,b)=true:=by simpa using d9
   have a6:=a4 ga ig;have g2:=d2.new O;have o7:=g2.lt;have o8:=d5;have o9:=d2.lt;have g3:∀ b∈bl,b<lo\/b∈M++L':=λb hb=>.inr (e9 b hb)
   have j2:Two (GZ q N (nQ H) V k) Y lo (u.ownBlock.toList++(C::ga::(E++(M++L')))) w1:=g1.weak λb hb=>by
     simp only[bL,ak,ay]at hb |-;rcases hb with f|f|f|f|f|f<;>simp[f]
   refine nU<|nJ<|nI<|ny<|mZ (nG 2)<|mZ (nH y)<|mZ (oV (e:=90) (sz:=4) dA rfl rfl)<|ng<|nk<|pE ?_
   refine qY (α:=Nat × Value × List Value) (0,u,f3) (λs=>[(35,VB (s.1:Nat)),(33, .slice p x.cs.length R),(34,VB (x.cs.length:Nat)),(6,VA C),(3,VA gb),(4,VA gf),(5,VA ga)])
     (λs w'=>s.1<=x.cs.length/\row w' ga [s.2.1] 83/\og w' 0 90 4 s.2.1 (allA fr be vs++zg fr be (x,a,b) s.1).length s.2.2/\rD w' (E++M) s.2.2 (allA fr be vs++zg fr be (x,a,b) s.1)/\(∀ b∈s.2.1.ownBlock.toList,lo<=b/\b≠ga/\b≠C/\b∉E/\b∉M++L')/\Two (GZ q N (nQ H) V k) Y lo (s.2.1.ownBlock.toList++(C::ga::(E++(M++L')))) w'/\row w' C (oQ x p R) 87/\nC lo (M++L') W w') (λs=>x.cs.length - s.1)
     VF ⟨aC _,g2,?_,?_,λb hb=>?_,j2,y,g0⟩ ?_
   · have D:zg fr be (x,a,b) 0=[]:=bH (Nat.le_zero.1 (Ug ..))
     dsimp only;rw[D,aR];exact Coup.og.new f4 O
   · have D:zg fr be (x,a,b) 0=[]:=bH (Nat.le_zero.1 (Ug ..))
     dsimp only;rw[D,aR];exact(f5.new O).mono λb hb=>aF _ hb
   · have D:=a4 b (aj _ (aF _ hb))
     have g4:=f6 b hb;exact⟨D.1,g4.1,f9 b (aF _ (aj _ (aF _ hb))),g4.2,D.2⟩
   rintro⟨i,b4,e0⟩ p0 w2 ⟨j3,e1,b5,b6,A,b7,T,P⟩;dsimp only at j3 e1 b5 b6 A b7;have J:=(hrb.kl Z (.inr hgb)).kl P (.inr (b2 _ hgb));have a1:=(hrf.kl Z (.inr hgf)).kl P (.inr (b2 _ hgf));have j4:=f7.rQ P λg o e=>(hbL g o e).imp id (b2 g)
   have j5:=d4.rQ P λg o e=>(hfL g o e).imp id (b2 g)
   have j6:=i4.rQ P λg o e=>g3 g (i6 g o e)
   have j7:=i5.nD P.kp λb hb=>pG (g3 b hb)
   have r:=Below.refl w2.heap.size w2;have j8:=T;refine ny<|mZ (pI rfl rfl)<|nk<|nI<|oZ rfl (λj9=>?_)<|λj9=>?_
   ·
    refine lN ?_;have e2:∃ c,x.cs[i]?=some c:=⟨_,aG dB⟩;obtain⟨c,g5⟩:=e2;have e2:=j7.ld j6 rfl g5;obtain⟨k0,op,K,Q,k7,k8,k9⟩:=e2;subst k7;obtain⟨_,_,l0,e3,g6,l1⟩:=k8;cases l0;have l2:=zt K Q c;have p1:(pV K Q c).length=4:=rfl;refine nO<|mZ (qZ (e:=90) (sz:=4) dA rfl rfl i (by rfl) dB)<|mZ (oK rfl (k9 _ r))<|nK<|oD ([VC,VB 0,VB 0,VB 0]) dA<|λa7 p2 b8 B b9=>?_
    have l3:=ag r.size b8;have l4:C<a7:=ae T.lt b8;have l5:gb<a7:=ae J.lt b8;have l6:gf<a7:=ae a1.lt b8;replace T:=T.new b9;replace J:=J.new b9;replace a1:=a1.new b9;replace r:=r.acc b9;refine nT<|oC 4 (pV K Q c) B<|λl7 B c4=>?_
    replace T:=T.only c4 (ai l4);replace J:=J.only c4 (ai l5);replace a1:=a1.only c4 (ai l6);replace r:=c4.below r l3;refine nk<|wO (λ_:Unit=>[(60, .bool (JU fr be (x,a,b) c)),(11,VA a7),(35,VB (i:Nat)),(33, .slice (some ⟨k0,op,none⟩) x.cs.length R),(34,VB (x.cs.length:Nat)),(6,VA C),(3,VA gb),(4,VA gf),(5,VA ga)]) (λ_ w'=>row w' a7 (pV K Q c) 90/\VD w2 w') ?_ ?_
    ·
     refine nO<|mZ (nG 1)<|mZ (nH T)<|mZ (qB rfl rfl)<|ng<|sZ 42 rfl (λl8=>?_)<|λl8=>?_
     ·
      refine nE<|mZ (nG 0)<|nE<|mZ (nH B)<|nE<|mZ (nH a1)<|nE<|nP (Ik l7 (e3.new r) (j5.new r)) ?_
      rintro _ l9 ⟨rfl,e4⟩;replace J:=J.new e4;replace B:=B.new e4;replace r:=r.acc e4;refine nE<|mZ (tV rfl rfl)<|mZ (pK rfl)<|ng<|sZ 49 rfl (λc5=>?_)<|λc5=>?_
      ·
       refine nE<|mZ (nH J)<|nE<|mZ (oV (e:=5) (sz:=1) dA rfl rfl)<|nE<|mZ (qB rfl rfl)<|nE<|ng<|sZ 53 rfl (λg7=>?_)<|λg7=>?_
       ·
        refine nN<|nN<|nN<|nN<|nN<|nE<|mZ (pK rfl)<|mZ (pK rfl)<|oI<|oM ⟨(),⟨congrArg Value.bool ?_,rfl,rfl,rfl,rfl,rfl,rfl,rfl,rfl,rfl⟩,B,r⟩
        rw[JO dB (Pn.2 (by simpa using c5))];exact(decide_eq_true (show rR c.1 be from .inl (bH dB))).symm
       ·
        refine nE<|mZ (nG 0)<|nE<|mZ (nH B)<|nE<|mZ (nH J)<|nE<|nP (Ik l9 (e3.new r) (j4.new r)) ?_
        rintro _ p3 ⟨rfl,g8⟩;replace B:=B.new g8;replace r:=r.acc g8;refine nE<|mZ (pI rfl rfl)<|nE<|mZ (oP rfl)<|mZ (pK rfl)<|oI<|oM ⟨(),⟨congrArg Value.bool ?_,rfl,rfl,rfl,rfl,rfl,rfl,rfl,rfl,rfl⟩,B,r⟩;rw[JO dB (Pn.2 (by simpa using c5))];exact decide_eq_decide.2 ⟨λf=>.inr f,λf=>f.resolve_left λe=>g7 kZ⟩
      ·
       refine nN<|nN<|nN<|nN<|uK rfl<|uK rfl<|uK rfl<|uK rfl<|uK rfl<|nN<|mZ (oP rfl)<|oI<|oM ⟨(),⟨congrArg Value.bool ?_,rfl,rfl,rfl,rfl,rfl,rfl,rfl,rfl,rfl⟩,B,r⟩
       exact(Ka (.inr λf=>c5 (by simpa using Pn.1 f))).symm
     ·
      refine nN<|nN<|nN<|nN<|nN<|mZ (oP rfl)<|ng<|nN<|nN<|nN<|nN<|uK rfl<|uK rfl<|uK rfl<|uK rfl<|uK rfl<|nN<|mZ (oP rfl)<|oI<|oM ⟨(),⟨congrArg Value.bool ?_,rfl,rfl,rfl,rfl,rfl,rfl,rfl,rfl,rfl⟩,B,r⟩
      exact(Ka (.inl dB)).symm
    ·
     rintro _ p4 p5 ⟨B,U⟩;have p6:=b7.lt;have a2:=b7.new U;have a8:=e1.new U;have c6:=Coup.og.new b5 U;have c7:=b6.new U;have c8:=P.new U;have c9:=j8.new U;have p7:(allA fr be vs++zg fr be (x,a,b) i).length<=260000:=by
       rw[aA];have:=Ug fr be (x,a,b) i;omega
     have a3:=ztE (fr:=fr) (be:=be) (v:=(x,a,b)) g5;have p8:=B.lt;have e5:=e3.new U;refine xy rfl (λa9=>?_)<|λa9=>?_
     ·
      refine nO<|mZ (nH a8)<|mZ (pz 4 B)<|nK<|tT (e:=90) (.agg (pV K Q c).toArray) (pV K Q c) ([VC,VB 0,VB 0,VB 0]) 4 dA dA rfl rfl iw ⟨iT,iT⟩<|λp9 q0 m0 g9 X=>?_
      replace a8:=a8.new X;replace c6:=c6.new X;replace c7:=c7.new X;replace e5:=e5.new X;replace a2:=a2.nL X m0 g9.lt;replace c8:=c8.new X;replace c9:=c9.new X;have m1:=a2.lt;have q1:=a2.lo;have m2:=g9.tY (m:=1) (sz:=4) rfl dB;refine nK<|tu (e:=90) (sz:=4) (bytes:=48) (z:=.agg ([VC,VB 0,VB 0,VB 0]).toArray) dA rfl dA rfl iT rfl c6 rfl m2 l2 jB dB (λq2=>dB)<|λq3 nV e6 m3 h0=>?_
      have h1:World.grownBy _ nV b4.ownBlock:=m3;have b0:=Kp.rU h1;have m4:=a2.Mg (u:=b4) (λb hb=>aj _ (aF _ hb)) h1 h0 e6;obtain⟨h2,h3,rfl⟩:=e6.form;have e7:=a8.nD b0 (λh=>(A ga h).2.1 rfl);have m5:=c9.nD b0 (λh=>(A C h).2.2.1 rfl);have m6:=(c7.nD b0 λb hb h=>(ay.1 hb).elim (A b h).2.2.2.1 λf=>(A b h).2.2.2.2 (aF _ f));have m7:=e5.nD b0 λg o e h=>(A g h).2.2.2.2 (e9 g (g6 g o e))
      have m8:=c8.nD b0 λb h=>.inl ⟨(A b h).1,(A b h).2.2.2.2⟩
      have h4:∀ j∈(Value.slice h2 ((allA fr be vs++zg fr be (x,a,b) i).length+1) h3).ownBlock.toList,lo<=j/\j≠ga/\j≠C/\j∉E/\j∉M++L':=λj hb=>by
        rcases h0 j (ah.1 hb)with f|f
        .exact A j<|ah.2 f
        .have d0:=λh5 (m9:h5∈C::ga::(E++(M++L')))=>m1 h5 (aj _ (aB _ m9))
         refine⟨dB,λe=>?_,λe=>?_,λh=>?_,λh=>?_⟩
         .have:=d0 ga ig;omega
         .have:=d0 C ig;omega
         .have:=d0 j (by simp[h]);omega
         .have:=d0 j (aj _ (aj _ (aB _ h)));omega
      have n0:=e6;refine nT<|pQ e7<|λq4 e7 h6=>?_
      have b1:=Kp.rJ h6;have n1:x.lv=0:=by
        unfold JU at a9;have D:=(Bool.and_eq_true_iff.1 a9).1;exact of_decide_eq_true D
      have h7:∀ g o,K=some ⟨g,o,none⟩->g∈E++M:=λg o e=>aB _ (f0 n1 g (g6 g o e))
      have h8:∀ j∈E++M,j∉[ga]:=λj t h=>by
        rw[aJ.1 h]at t;rcases ay.1 t with f|f
        .exact d3 f
        .exact a6.2<|aF _ f
      rw[if_pos a9]at a3;refine oI<|pO<|nJ<|nO<|mZ (oJ rfl rfl (Coup.nV dB))<|ng<|oI<|oM ⟨(i+1, .slice h2 ((allA fr be vs++zg fr be (x,a,b) i).length+1) h3,e0++pV K Q c),by dsimp only;omega,VF,by dsimp only;omega,e7,?_,?_,h4,?_,m5.nD b1 λh=>f9 ga ig (aJ.1 h).symm,m8.nD b1 λj h=>.inl (by rw[aJ.1 h];exact a6)⟩
      · dsimp only
        rw[a3,<-aH,show(allA fr be vs++zg fr be (x,a,b) i++[c]).length=(allA fr be vs++zg fr be (x,a,b) i).length+1 from aA];exact Coup.og.nD n0 b1 λj h e=>(h4 j (ah.2 e)).2.1 (aJ.1 h)
      · dsimp only
        rw[a3,<-aH];exact(m6.nD b1 h8).snoc ⟨K,Q,rfl,m7.nD b1 λg o e=>h8 g (h7 g o e),h7,l1⟩
      · dsimp only
        exact(m4.only h6 (.inr ig)).weak λj t=>by
         rcases ay.1 t with f|f
         .exact aF _ f
         .exact aB _<|aj _<|aB _ f
     ·
      refine nU<|pO<|nJ<|nO<|mZ (oJ rfl rfl (Coup.nV dB))<|ng<|oI ?_
      rw[if_neg (by rw[a9];exact dX),aR]at a3;refine oM ⟨(i+1,b4,e0),by dsimp only;omega,VF,by dsimp only;omega,a8,by dsimp only;rw[a3];exact c6,by dsimp only;rw[a3];exact c7,A,a2,c9,c8⟩
   ·
    refine mi ?_;have n2:i=x.cs.length:=by omega
    rw[n2,Yo a0]at b5 b6;refine⟨congrArg Value.bool a0.symm,?_,P.weak (ax _) λj t=>aB _ t⟩;rw[ZM,aA];refine Wq (u:=b4) (bl:=E++M) (b7.weak λj t=>?_) ⟨e1,e0,b5,b6⟩ (λj t=>?_) (λj t=>⟨(A j t).2.1,λh=>?_⟩) (λh=>?_) ?_
    · simp only[bL,ak,ay]at t |-
      rcases t with f|(f|f|f)|f<;>simp[f]
    · simp only[ak,ay]at t
      rcases t with f|f|f|f
      · rw[f];exact⟨a6.1,λh=>a6.2 (aB _ h)⟩
      · exact⟨(A j f).1,λh=>(A j f).2.2.2.2 (aB _ h)⟩
      · have D:=a4 j lh
        exact⟨D.1,λh=>D.2 (aB _ h)⟩
      · exact i3 j f
    · rcases ay.1 h with f|f
      · exact(A j t).2.2.2.1 f
      · exact(A j t).2.2.2.2 (aF _ f)
    · rcases ay.1 h with f|f
      · exact d3 f
      · exact a6.2<|aF _ f
    · rw[aA]
      have D:(Am fr be (x,a,b)).length<=x.cs.length:=by rw[<-Yo a0];exact Ug ..
      simp only[aD,aY];omega
end
theorem Yh{N:Nat}{H:HS}(dec:tZ->Bool):∀ {l:Nat} {t:Tr l} {a b:Key},yh N H l t->qJ l t a b->∀ v∈tq dec l t a b,v.1.cs.length<=123
 |0,t,a,b,ht,hs,v,hv=>by
  rw[tq]at hv;rw[aJ.1 hv];exact(ht.zZ hs).few
 |l+1,t,a,b,ht,hs,v,hv=>by
  rw[tq]at hv;rcases ak.1 hv with c|c
  .rw[c];exact(ht.zZ hs).few
  .split at c
   .obtain⟨x,i,j⟩:=bG.1 c
    obtain⟨A,f,B,g,k,m,o⟩:=Oi (α:=Val (l+1)) (v:=x.1) (a:=x.2.1) (b:=x.2.2) i;have h:=ht.kid (x:=f) (by rw[g];simp);have e:=hs.2.2.2.2 A f B g;rw[<-m,<-o]at e;rw[k]at h e;exact Yh dec h e v j
   .cases c
section
variable {Y:VE}[hYT:nz Y]{q tb hb N lo:Nat}{L:List Nat}{V:Nat->Pg}{k:Nat}{H:HS}{fl:List Nat}{l:Nat}{t:Tr l}{w:World}
theorem OB {gt gb gf ga:Nat} {be fr:Key} {pb pf:Option Addr} {cb cf:Nat} (h:Two (GZ q N (nQ H) V k) (BB Y ga 0 []) lo L w) (hR:TR q tb hb N lo L H fl l t w) (hnd:(om l t).Nodup) (hrt:row w gt [VA tb] 37) (hgt:gt∈L)
  (hrb:row w gb [.slice pb be.length cb] 23) (hgb:gb∈L) (hrf:row w gf [.slice pf fr.length cf] 23) (hgf:gf∈L)
  (hbe:nM w pb be.length 1 (bv be)) (hbL:∀ g o,pb=some ⟨g,o,none⟩->g<lo\/g∈L) (hfr:nM w pf fr.length 1 (bv fr)) (hfL:∀ g o,pf=some ⟨g,o,none⟩->g<lo\/g∈L):
  Calls Tryz.prog 36 [VA gt,VA gb,VA gf,VA ga].toArray w
   (qb λr w'=>∃ n cs,cs.map Ar=xx (oO l t) fr be/\n<=260000/\Two (GZ q N (nQ H) V k) (BB Y ga n cs) lo L w'/\nC lo L w w'):=by
 have a:=QE (Y:=Y) (q:=q) (N:=N) (H:=H) (V:=V) (k:=k) (ga:=ga) hrb hgb hrf hgf hbe hbL hfr hfL;have c:Two (GZ q N (nQ H) V k) (BB Y ga (123*([]:List tZ).length) (allA fr be [])) lo L w:=h;have e:=Cq (Yv:=λvs=>BB Y ga (123*vs.length) (allA fr be vs)) c hR hnd (Yh (xQ fr be) hR.ti hR.sd) a dA;have m:=RP (xQ fr be) l t [] [];have o:=EG N 0 (om l t) hnd λn f=>by
  have p:=hR.ti.rg n f;have r:=hR.ti.fN;omega
 have s:=hR.ti.n2;have g:=Yz (lo:=fr) (hi:=be) hR.sd;refine nZ (rs:=[]) (n:=7) Tryz.func36 rfl rfl Tryz.ntmps36 dA rfl<|nO<|mZ (nH hrt)<|mZ (uV)<|nP (e) ?_
 rintro _ u ⟨rfl,i,j⟩;refine mf ?_;exact⟨_,_,g,dB,i,j⟩
theorem allT (h:Two (GZ q N (nQ H) V k) Y lo L w) (hR:TR q tb hb N lo L H fl l t w) (hnd:(om l t).Nodup) {be fr:Key} {pb pf:Option Addr} {cb cf:Nat}
  (hbe:nM w pb be.length 1 (bv be)) (hbL:∀ g o,pb=some ⟨g,o,none⟩->g<lo\/g∈L) (hfr:nM w pf fr.length 1 (bv fr)) (hfL:∀ g o,pf=some ⟨g,o,none⟩->g<lo\/g∈L):
  Calls Tryz.prog 10 [VA tb, .slice pf fr.length cf, .slice pb be.length cb].toArray w
   (qb λr w'=>∃ ga u bl cs,r= .func (.func 40) #[] [VA ga].toArray/\cs.map Ar=xx (oO l t) fr be/\cs.length<=260000/\Two (GZ q N (nQ H) V k) Y lo ((ga::(u.ownBlock.toList++bl))++L) w'/\Jf ga bl u cs w'/\(∀ b∈ga::(u.ownBlock.toList++bl),lo<=b/\b∉L)/\nC lo L w w'):=by
 have a:=nC.refl lo L w;have j:=h;have b5:=h.lt;have b6:=h.lo;have a3:∀ (W:World) (L2:List Nat) (p r s f:Nat),Two (GZ q N (nQ H) V k) (BB Y f 0 []) lo L2 W->(∀ b∈L,b∈L2)->p∈L2->r∈L2->s∈L2->nC lo L w W->row W p [VA tb] 37->row W r [.slice pf fr.length cf] 23->row W s [.slice pb be.length cb] 23->
   Calls Tryz.prog 35 [VA tb,VC, .bool true, .func (.func 36) #[] [VA p,VA s,VA r,VA f].toArray].toArray W
   (qb λv w'=>v=VB 0/\(∃ n cs,cs.map Ar=xx (oO l t) fr be/\n<=260000/\Two (GZ q N (nQ H) V k) (BB Y f n cs) lo L2 w')/\nC lo L2 W w'):=λW L2 p r s f D E G I J P m y A=>by
  have Z:=(hR.ll P).mono E;refine(Uo tb hb D Z.r (kp:=none) (kn:=0) (kc:=0) 36 [VA p,VA s,VA r,VA f] dA
   (λG' Y'=>G'=nQ H/\∃ n cs,cs.map Ar=xx (oO l t) fr be/\n<=260000/\Y'=BB Y f n cs) (λe G' Y'=>False)
   (λG' Y' ⟨_,_,_,_,_,e⟩=>by subst e;infer_instance) (λe G' Y' h=>h.elim) λL' w' B C a4=>?_).to λv w' h=>?_
  .have a5:=(Z.ll C).mono B
   have K:=(hbe.rQ P hbL).rQ C λg o e=>(hbL g o e).imp id (E g)
   have a6:=(hfr.rQ P hfL).rQ C λg o e=>(hfL g o e).imp id (E g)
   exact(OB a4 a5 hnd (m.kl C (.inr G)) (B _ G) (A.kl C (.inr J)) (B _ J) (y.kl C (.inr I)) (B _ I) K (λg o e=>(hbL g o e).imp id λz=>B g (E g z)) a6 (λg o e=>(hfL g o e).imp id λz=>B g (E g z))).toP λv w2 ⟨n,cs,Q,D,R,S⟩=>⟨_,_,⟨rfl,n,cs,Q,D,rfl⟩,R,S⟩
  .rcases h with⟨G',Y',⟨rfl,n,cs,Q,D,rfl⟩,R,S,a7⟩|⟨e,G',Y',h,_⟩
   .exact⟨R,⟨n,cs,Q,D,S⟩,a7⟩
   .exact h.elim
 refine nZ (rs:=[.tmp 6]) (n:=15) Tryz.func10 rfl rfl Tryz.ntmps10 dA rfl<|ny<|nK<|qi ([_]) rfl<|λp b7 G m K=>?_
 replace j:=j.nL K G m.lt;replace a:=a.new K;refine nK<|qi ([_]) rfl<|λr b8 I y T=>?_
 replace j:=j.nL T I y.lt;replace a:=a.new T;replace m:=m.new T;refine nK<|qi ([_]) rfl<|λs b9 J A M=>?_
 replace j:=j.nL M J A.lt;replace a:=a.new M;replace m:=m.new M;replace y:=y.new M;refine oG ?_;have a8:=j.lt;have c4:=j.lo;refine nK<|oD ([VC]) dA<|λf U a0 a1 F=>?_
 replace j:=j.nL F a0 a1.lt;replace a:=a.new F;replace m:=m.new F;replace y:=y.new F;replace A:=A.new F;refine qx<|mZ (nH m)<|mZ (uV) ?_
 have a9:row U f [VC] 83:=a1;have X:Two (GZ q N (nQ H) V k) (BB Y f 0 []) lo (s::r::p::L) U:=Wq (u:=VC) (bl:=[]) j ⟨a9,[],xV _ _ _ _,⟨rfl,λi c h=>by cases h⟩⟩ (λb hb=>by
  have e:b=f:=aJ.1 hb;have c5:=a0;refine⟨dB,λz=>?_⟩;have c6:=a8 b z;omega) (λb hb=>by cases hb) (λh=>by cases h) (ax _)
 have O:∀ b∈L,b∈s::r::p::L:=λb hb=>by simp[hb]
 refine qA rfl (oz dA rfl) (a3 U (s::r::p::L) p r s f X O ig ig ig a m y A) ?_;rintro _ c7 ⟨rfl,⟨n,cs,b0,c8,X⟩,b1⟩;replace a:=a.ll b1 O;refine nA<|nk<|nI<|ny<|ng<|mZ (pJ rfl rfl)<|nk<|qg rfl (iT)<|nU<|nJ<|ny<|mZ (uV)<|nA<|nk<|nY<|ou [_] ⟨rfl,trivial⟩ ?_
 have b2:=ztD X;obtain⟨u,bl,b3,b4,a2,_,_,c9⟩:=b2;exact⟨f,u,bl,cs,rfl,b0,dB,b3.weak (λb hb=>(ay.1 hb).elim (aF _) λh=>aB _ (O b h)),b4,λb hb=>⟨(a2 b hb).1,λz=>(a2 b hb).2 (O b z)⟩,a⟩
end
def Ps(cs:List (Key × V3))(_:Unit)(k:Nat)(v:List Value)(W:World)(_ Fr _:List Nat):Prop:=∃ c p cc,cs[k]?=some c/\v=[.slice p c.1.length cc, .agg #[VB (c.2.1:Int),VB (c.2.2.1:Int)]]/\og W 0 5 1 (.slice p c.1.length cc) c.1.length (bv c.1)/\(Value.slice p c.1.length cc).ownBlock.toList=Fr
theorem OP{X:VE}[hX:nz X]{lo:Nat}(ga:Nat)(bl:List Nat)(u:Value)(cs:List (Key × V3))(w:World)(hA:Jf ga bl u cs w)(hk:∀ c∈cs,c.1.length<=300)(hn:cs.length<=260000):
   DX Tryz.prog 40 [VA ga] cs.length (Ps cs) (λ_ _ _=>True) (ga::(u.ownBlock.toList++bl)) X lo w:=by
 intro α Y hYT E b1 J Jx W L G b2 e6 b3 S a b4 b5;obtain⟨b6,xs,T,U⟩:=hA;have b7:row W ga [u] 83:=(G ga ig).2.trans b6;obtain⟨s,y,rfl⟩:=T.form;have e7:=Below.refl W.heap.size W;refine nZ (rs:=[]) (n:=20) Tryz.func40 rfl rfl Tryz.ntmps40 dA rfl<|ny<|mZ (nH b7)<|mZ (oV (e:=90) (sz:=4) dA rfl rfl)<|ng<|nk<|pE ?_
 have V:∀ b∈ga::((Value.slice s cs.length y).ownBlock.toList++bl),W.heap[b]?=w.heap[b]?:=λb hb=>(G b hb).2
 have z:=λb hb=>(G b hb).1
 obtain⟨m,Z⟩:=aa (ga::((Value.slice s cs.length y).ownBlock.toList++bl));have a0:ga∈m/\(∀ b∈(Value.slice s cs.length y).ownBlock.toList,b∈m)/\∀ b∈bl,b∈m:=by rw[<-Z];exact⟨ig,λb hb=>by simp[hb],λb hb=>by simp[hb]⟩
 rw[Z]at V z b3 S;have a1:=T.sl;refine qY (α:=Nat × α) (0,a) (λk=>[(0, .func (.yield b1) #[] #[]),(5, .slice s cs.length y),(6,VB (cs.length:Int)),(7,VB (k.1:Int))])
   (λk w'=>k.1<=cs.length/\Two X Y lo (E k.2++L) w'/\J () k.1 k.2 w'/\(∀ b∈m,w'.heap[b]?=w.heap[b]?)/\W.heap.size<=w'.heap.size) (λk=>cs.length - k.1)
   VF ⟨aC _,b4,b5 () W trivial (nC.refl _ _ _),V,ax _⟩ ?_
 rintro⟨i,a2⟩ f p ⟨e8,H,a3,I,b8⟩;dsimp only at*;have h:=Below.refl p.heap.size p;have K:=H.lt;refine ny<|mZ (pI rfl rfl)<|nk<|nI<|oZ rfl (λb9=>?_)<|λb9=>?_
 ·
  refine lN ?_;have q:∃ c,cs[i]?=some c:=⟨_,aG dB⟩;obtain⟨c,M⟩:=q;have q:=U.at_ i c M;obtain⟨A,N,c4,c5,c6,e9⟩:=q;have q:=a1.some dB;obtain⟨O,os,rfl,f0⟩:=q;have c7:nM p (some ⟨O,os,none⟩) cs.length 4 xs:=nM.same a1 (I O (a0.2.1 O (by simp[Value.ownBlock])));have c8:nM p A c.1.length 1 (bv c.1):=nM.Ja c5 λg o e=>I g (a0.2.2 g (c6 g o e))
  have f1:=U.len;have a4:=Ld.zu (P:=Tryz.prog) (t:=90) (j:=i*4) (k:=4) c7 dA dA dB;rw[c4]at a4;have f2:=zt A N c;have f3:=hk c (aO M);have c9:(pV A N c).length=4:=rfl;refine nO<|mZ (qZ (e:=90) (sz:=4) dA rfl rfl (i) dB dB)<|mZ (oK rfl (a4))<|nK<|oD ([VC,VB 0,VB 0,VB 0]) dA<|λf4 f5 d0 r d1=>?_
  have d2:=ag h.size d0;replace h:=h.acc d1;refine nT<|oC 4 (pV A N c) r<|λf6 r d3=>?_
  replace h:=d3.below h d2;refine nk<|nI<|qH [] dA ?_
  intro d4 a5 d5;replace r:=r.new a5;replace h:=h.acc a5;have a6:=r;refine nu 0 (nS)<|nu 1 (nG 0)<|nR 2 (λw' Q=>nH (a6.kq Q))<|nu 4 (nG 1)<|nR 5 (λw' Q=>oK rfl (Ld.za (off:=1) (k:=2) (a6.kq Q) dA dA (by rw[c9];decide)))<|oh 3 dA ?_
  have d6:=h.size;refine qw rfl rfl (oz dA rfl) (RY d4 (c8.new h) (uf _) dB) ?_;rintro _ a7 ⟨B,C,rfl,a8,a9⟩;have d7:=d5.add0 a9;refine⟨d7,?_⟩;replace h:=h.acc a9;refine Il ?_;have f7:=h.size;obtain⟨Fr,b0⟩:=aa ((Value.slice B c.1.length C).ownBlock.toList);have D:∀ b∈Fr,p.heap.size<=b/\b<(a7).heap.size:=λb hb=>by
    rw[<-b0]at hb;have F:=a8.lt b (ah.1 hb);exact⟨ag d6 F.1,F.2⟩
  have d8:=S () i [.slice B c.1.length C, .agg #[VB (c.2.1:Int),VB (c.2.2.1:Int)]] a2 a7 m Fr dB ⟨c,B,C,M,rfl,og.mono a8 (aC _),b0⟩ (λb hb=>.inl hb) (λb hb=>⟨ag b8 (D b hb).1,λR=>by
    have F:=K b (aB _ (z b R));have d9:=(D b hb).1;omega,λR=>by
    have F:=K b (aF _ R);have d9:=(D b hb).1;omega⟩) ((H.Dc h D).weak λb hb=>by
     simp only[ay]at hb |-;rcases hb with l|l|l|l
     .exact .inl l
     .exact .inr<|.inr<|z b l
     .exact .inr<|.inl l
     .exact .inr (.inr l)) (b2 () _ _ _ _ a3 (nC.of_below h))
  refine BV (i:=6) dA rfl<|zmg (vl:=[.slice B c.1.length C, .agg #[VB (c.2.1:Int),VB (c.2.2.1:Int)]]) rfl rfl d8 ?_
  rintro e f8 (⟨rfl,⟨e0,e1,e2⟩,e3,f9⟩|⟨rfl,e4⟩)
  · refine⟨_,rfl,?_⟩
    refine ZR (i:=7) dA rfl (sj rfl)<|L_ dA<|nJ<|Nu rfl<|nU<|pO<|nJ<|nO<|mZ (oJ rfl rfl (show IntKind.i64.wrap ((i:Int)+1)=((i+1:Nat):Int) by rw[nV dB];omega))<|ng<|oI<|oM ⟨(i+1,e0),by show cs.length - (i+1)<cs.length - i;omega,VF,by show i+1<=_;omega,e1.weak (λb hb=>by simp only[ay]at hb |-;exact .inr hb),e2,λb hb=>(e3 b hb).trans ((h.block b (K b (aB _ (z b hb)))).trans (I b hb)),dB⟩
  · refine⟨_,rfl,?_⟩
    refine ZR (i:=7) dA rfl (sj rfl)<|L_ dA<|nJ<|BP rfl (rfl)<|nY<|sS<|qy<|zH<|sS<|ou [] trivial ?_
    exact .inr e4
 ·
  refine qL<|qK<|rq<|qO<|zS [] trivial ?_
  have e5:i=cs.length:=by omega
  exact .inl ⟨(),a2,H,e5▸a3⟩
theorem znv{α:Type}(ks:List (Key × α)):xx ks [] []=ks:=by
 unfold xx;refine iZ.2 λx _=>?_
 rw[decide_eq_true (vF x.1),decide_eq_true (show rR x.1 []from .inl rfl)];rfl
theorem Zn{rows:List (Key × (Nat × Nat))}{cs:List (Key × V3)}(h:cs.map Ar=rows){n:Nat}(hr:∀ r∈rows,r.1.length<=n):∀ c∈cs,c.1.length<=n:=λc a=>hr (Ar c) (h▸iP a)
def Dg(X Y:VE)(lo:Nat)(L:List Nat)(w:World)(tv fv bv_:Value)(rows:List (Key × (Nat × Nat))):Prop:=∀ w',nC lo L w w'->∀ L',Two X Y lo L' w'->(∀ b∈L,b∈L')->CQ 10 [tv,fv,bv_] w' (λr w2=>∃ ga u bl cs,r= .func (.func 40) #[] [VA ga].toArray/\cs.map Ar=rows/\cs.length<=260000/\Two X Y lo ((ga::(u.ownBlock.toList++bl))++L') w2/\Jf ga bl u cs w2/\(∀ b∈ga::(u.ownBlock.toList++bl),lo<=b/\b∉L')/\nC lo L' w' w2)
section
variable {X Y:VE}[hXT:nz X][hYT:nz Y]{lo:Nat}{L:List Nat}{w:World}
theorem Rz(rows:List (Key × (Nat × Nat)))(tv:Value)(htv:∃ a,tv= .pointer a)(h:Two X Y lo L w)(hall:Dg X Y lo L w tv (VC) (VC) rows)(hkeys:∀ r∈rows,r.1.length<=300):
  CQ 17 [tv] w (λv w'=>v=VB (rows.length:Int)/\Two X Y lo L w'/\nC lo L w w'):=by
 have g:=nC.refl lo L w;have y:=h;have b7:=h.lo;have b8:=h.lt;obtain⟨b9,rfl⟩:=htv;refine nZ (rs:=[.cell 2 3]) (n:=10) Tryz.func17 rfl rfl Tryz.ntmps17 dA rfl<|ny<|nK<|oD ([VB 0]) dA<|λl w2 K a M=>?_
 replace y:=y.nL M K a.lt;replace g:=g.new M;refine nk<|nI<|ny<|ng ?_
 have N:∀ b∈L,b∈l::L:=λb hb=>aj _ hb
 refine nP (hall w2 g _ y N) ?_;rintro _ s ⟨ga,u,bl,cs,rfl,O,a0,z,a1,P,Q⟩;replace g:=g.ll Q N;replace a:=a.kl Q;refine nk<|pE ?_
 obtain⟨a2,a3⟩:=aa (ga::(u.ownBlock.toList++bl));have R:DX Tryz.prog 40 [VA ga] cs.length (Ps cs) (λ_ _ _=>True) (ga::(u.ownBlock.toList++bl)) X lo s:=OP (X:=X) (lo:=lo) ga bl u cs s a1 (Zn O hkeys) a0;have a4:cs.length=rows.length:=by rw[<-O,aP]
 rw[a3]at z P R;have a5:=z.lt;obtain⟨Dm,S⟩:=aa ((s).heap.size);obtain⟨L2,t⟩:=aa (a2++l::L);have a6:Two X Y lo L2 s:=by rw[<-t];exact z
 have A:l∈L2:=by rw[<-t];simp
 have B:∀ b∈L,b∈L2:=λb hb=>by rw[<-t];simp[hb]
 have a7:=a5 l ig;have a8:=g.size;have c4:=K;rw[S]at a7 a8;refine XA (τ:=Unit) (m:=cs.length) (V:=Ps cs) (T0:=λ_ _ _=>True) (ps:=[5,6]) (L:=L2) (X:=X) (Y:=Y) (α:=Unit) (λ_=>[]) (Dm+1) [Dm] (λa9 h=>by rw[show a9=none from h,<-S];exact RX _ _) rfl dA R (λ_ i v _ _ _ _ C=>by obtain⟨_,_,_,_,rfl,_⟩:=C;rfl) dA ig (λb hb=>by rw[<-t];exact aF _ hb)
  (λ_ j _ w'=>j<=cs.length/\row w' l [VB (j:Int)] 3/\nC lo L w w') (λ_ _=>False)
  ?_ ?_ (λ_ _ _ h=>h.elim) (λ_ _ _ h=>h.elim) (λ_ _ _ _ _ b hb=>by cases hb) () (show Two _ Y lo ([]++L2) _ from a6) ?_ ?_ ?_ (λc W' h=>h.elim)
 .rintro _ j _ W W' ⟨D,E,F⟩ q
  exact⟨D,E.kl q (.inr kW),F.ll q λb hb=>by simp[B b hb]⟩
 .rintro _ j _ W W' ⟨D,E,F⟩ r
  exact⟨D,E.only r dB,F.only r kM⟩
 .intro _ W' _ q
  exact⟨aC _,a.kl q (.inr kW),g.ll q λb hb=>by simp[B b hb]⟩
 .rintro _ j v _ W1 T Fr b0 C b1 c5 f ⟨c6,o,k⟩ c7
  obtain⟨c,p,c8,c9,rfl,_,_⟩:=C;have b2:=Below.refl W1.heap.size W1;have b3:∀ b∈T,b≠l:=λb hb e=>by
   subst e;rcases b1 b hb with h|h
   .exact(P b h).2 ig
   .omega
  refine nU<|⟨rfl,b2,λW2 G _=>?_⟩
  replace o:=o.only G dB;replace k:=k.only G kM;replace f:=f.only G (.inr ig);have b4:=nC.refl lo ((Dm+1)::Dm::T) W2;refine pE<|nO<|mZ (nH o)<|mZ (oJ rfl rfl (show IntKind.i64.wrap ((j:Int)+1)=((j+1:Nat):Int) by rw[nV dB];omega))<|nT<|pQ o<|λd0 o b5=>?_
  have H:=b5;refine oI<|pO ?_
  exact⟨b4.only H (.inr ⟨dB,λU=>by simp only[ak,bL,aU]at U;rcases U with h|h|h;omega;omega;exact b3 _ h rfl⟩),(),(f.only H (.inr kW)).weak (λb hb=>aB _ hb),b0,o,k.only H kM⟩
 .rintro _ _ W f ⟨_,a,k⟩ b6
  have I:AP W Dm:=⟨b6 Dm ig⟩;replace f:Two X Y lo (Dm::L2) W:=f;refine pO<|nJ<|ny<|mZ (nH a)<|nT<|pQ a<|λZ a J=>?_
  replace k:=k.only J jo;replace I:=I.only J dB;replace f:=f.only J eG;refine nk<|nY<|OM [_] Dm I.d ⟨⟨_,rfl,Ld.ru (a.only (EA _) dB) dA rfl⟩,trivial⟩ ?_
  have r:Only Dm Z (World.putObj Z Dm (.deferred none)):=EA _;exact⟨by rw[<-a4];rfl,(f.only r (.inr ig)).weak (λb hb=>by simp[B b hb]),k.only r kM⟩
end
section
variable {Y:VE}{q tb hb N lo:Nat}{L:List Nat}{V:Nat->Pg}{k:Nat}{H:HS}{fl:List Nat}{l:Nat}{t:Tr l}{w:World}
theorem CV [nz Y](hR:TR q tb hb N lo L H fl l t w)(hnd:(om l t).Nodup){fr be:Key}{pf pb:Option Addr}{cf cb:Nat}(hbe:nM w pb be.length 1 (bv be))(hbL:∀ g o,pb=some ⟨g,o,none⟩->g<lo\/g∈L)(hfr:nM w pf fr.length 1 (bv fr))(hfL:∀ g o,pf=some ⟨g,o,none⟩->g<lo\/g∈L):
  Dg (GZ q N (nQ H) V k) Y lo L w (VA tb) (.slice pf fr.length cf) (.slice pb be.length cb) (xx (oO l t) fr be):=λw' a L' f c=>
 allT f ((hR.ll a).mono c) hnd (hbe.rQ a hbL) (λg o e=>(hbL g o e).imp id (c g)) (hfr.rQ a hfL) λg o e=>(hfL g o e).imp id (c g)
theorem Mx [nz Y](h:Two (GZ q N (nQ H) V k) Y lo L w)(hR:TR q tb hb N lo L H fl l t w)(hnd:(om l t).Nodup):
  CQ 17 [VA tb] w (λv w'=>v=VB ((oO l t).length:Int)/\Two (GZ q N (nQ H) V k) Y lo L w'/\nC lo L w w'):=by
 have a:=CV (Y:=Y) (V:=V) (k:=k) hR hnd (fr:=[]) (be:=[]) (pf:=none) (pb:=none) (cf:=0) (cb:=0) (nM.nil _ _ _) (λg o e=>nomatch e) (nM.nil _ _ _) λg o e=>nomatch e
 rw[znv]at a;exact Rz _ _ ⟨_,rfl⟩ h a λr hr=>ag (hR.sd.rows r hr).1.2 dB
end
end Go.Proofs.YtpaniebomegnbaaGreat
namespace Go.Proofs.YtpaniebomegnbaaGreat
open Go Go.RowKit Go.Shelf Coup
def LG(r:Nat)(v:tZ):Prop:=(v.1.cs=[]->v.1.n=r/\v.1.lv=0)/\(v.1.n=r->v.1.lv≠0->2<=v.1.cs.length)/\∀ c∈v.1.cs,c.1=[]\/pW v.2.1 c.1/\rR c.1 v.2.2
theorem RJ:∀ {l:Nat} {t:Tr l} {a b:Key},qJ l t a b->∀ c∈(nX l t).cs,c.1=[]\/pW a c.1/\rR c.1 b
 |0,t,a,b,hs,c,hc=>by
  obtain⟨x,g,rfl⟩:=bg.1 hc;have f:=hs.2.1 x g;exact .inr ⟨f.2.1,f.2.2.1⟩
 |l+1,t,a,b,hs,c,hc=>by
  obtain⟨x,g,rfl⟩:=bg.1 hc;obtain⟨A,B,e⟩:=dG g
  by_cases h:A=[]
  .obtain⟨k,r,i,j⟩:=hs.1
   rw[h,aU,i]at e;cases e;exact .inl j
  .have f:=hs.2.2.1 A x B e h
   exact .inr ⟨f.2.1.pW,f.2.2⟩
theorem CR(dec:tZ->Bool):∀ {l:Nat} {t:Tr l} {a b:Key},qJ l t a b->wD l t->∀ v∈tq dec l t a b,v.1.cs≠[]/\v.1.n∈om l t/\∀ c∈v.1.cs,c.1=[]\/pW v.2.1 c.1/\rR c.1 v.2.2
 |0,t,a,b,hs,hf,v,hv=>by
  rw[tq]at hv;rw[aJ.1 hv];exact⟨λe=>hf (jJ.1 e),vH,RJ hs⟩
 |l+1,t,a,b,hs,hf,v,hv=>by
  rw[tq]at hv;rcases ak.1 hv with c|c
  .rw[c]
   refine⟨λe=>?_,vH,RJ hs⟩;obtain⟨z,r,f,j⟩:=hs.1;have g:t.ks=[]:=jJ.1 e;rw[f]at g;cases g
  .split at c
   .obtain⟨x,p,q⟩:=bG.1 c
    obtain⟨A,h,B,k,f,g,s⟩:=Oi (α:=Val (l+1)) (v:=x.1) (a:=x.2.1) (b:=x.2.2) p;have i:=hs.2.2.2.2 A h B k;have m:h∈t.ks:=by rw[k];simp
    have o:=hf h m;rw[<-g,<-s]at i;rw[f]at i o;obtain⟨u,j,y⟩:=CR dec i o v q;refine⟨u,?_,y⟩;rw[zq];exact aj _<|bG.2 ⟨h,m,by rw[f];exact j⟩
   .cases c
theorem FR(dec:tZ->Bool):∀ {l:Nat} {t:Tr l},qJ l t [] []->Tn l t->(om l t).Nodup->∀ v∈tq dec l t [] [],LG t.n v
 |0,t,hs,hr,hn,v,hv=>by
  rw[tq]at hv;rw[aJ.1 hv];exact⟨λ_=>⟨rfl,rfl⟩,λ_ c=>absurd rfl c,RJ hs⟩
 |l+1,t,hs,hr,hn,v,hv=>by
  rw[tq]at hv;rcases ak.1 hv with c|c
  .rw[c]
   have i:(nX (l+1) t).cs.length=t.ks.length:=aP _;refine⟨λe=>?_,λ_ _=>by have:=hr.1;show 2<=(nX (l+1) t).cs.length;omega,RJ hs⟩;have j:=hr.1;have g:(nX (l+1) t).cs=[]:=e;rw[g]at i;simp at i;omega
  .split at c
   .obtain⟨x,q,r⟩:=bG.1 c
    obtain⟨A,f,B,k,m,s,u⟩:=Oi (α:=Val (l+1)) (v:=x.1) (a:=x.2.1) (b:=x.2.2) q;have h:=hs.2.2.2.2 A f B k;have o:f∈t.ks:=by rw[k];simp
    have p:=hr.2 f o;rw[<-s,<-u]at h;rw[m]at h p;obtain⟨y,j,g⟩:=CR dec h p v r;refine⟨λe=>absurd e y,λe=>?_,g⟩;exfalso;rw[zq]at hn;refine(cB.1 hn).1 (bG.2 ⟨f,o,?_⟩);rw[<-e,m];exact j
   .cases c
def Ji(l:List Int):List Int:=l.mergeSort λx a=>decide (x<=a)
theorem ztH(l:List Int):(Ji l).length=l.length:=List.length_mergeSort _
theorem MW{w:World}{base e n c:Nat}{p:Option Addr}{zs:List Int}(h:og w base e 1 (.slice p n c) n (iv zs))(hn2:n<=1000000):
  CQ 55 [.slice p n c] w (λv w'=>v= .tuple #[]/\og w' base e 1 (.slice p n c) n (iv (Ji zs))/\Kp (Value.slice p n c).ownBlock.toList w w'):=by
 have z:zs.length=n:=by have r:(iv zs).length=n*1:=h.1;unfold iv at r;rw[aP]at r;omega
 rcases h.2 with⟨l,P⟩|⟨g,a,Q,s,l,hb,m,A,B,C,R⟩
 .cases l
  have D:zs=[]:=bH dB;subst D;refine(AnyM.slices_Sort_int_none Tryz.Ta none 0 w).mono ?_;rintro e w' ⟨rfl,rfl⟩;have e:Ji []=[]:=List.mergeSort_nil;exact⟨_,rfl,rfl,by rw[e];exact h,Kp.of_below (Below.refl _ _)⟩
 .cases l
  have S:maxLen=9223372036854775807:=by decide
  have E:=(aX.1 m).1;subst z;have F:Go.Sort.Holds (Value.int .i64) w g a zs.toArray:=λj G=>by
   have t:j<zs.length:=by simpa using G
   have H:(iv zs)[j]?=some (VB zs.toArray[j]!):=by
    unfold iv;rw[aV,aG t,dP,List.getElem!_toArray,getElem!_pos zs j t]
   exact⟨(Coup.og.sl h).cell j H,by simp[World.frozen?,m]⟩
  refine(AnyM.slices_Sort_int Tryz.Ta g a c zs w F E ?_).mono ?_
  .omega
  rintro e w' ⟨rfl,n,os,rfl⟩;obtain⟨ds,o⟩:=aa (Ji zs);have I:ds.length=zs.length:=by rw[<-o];exact ztH zs
  obtain⟨X,hX⟩:=aa (Go.Sort.putRow (Value.int .i64) (Go.Sort.ahead w n) g a ds.toArray);have J:Go.Sort.grow (Go.Sort.putRow (Value.int .i64) (Go.Sort.ahead w n) g a (zs.mergeSort λx p=>decide (x<=p)).toArray) os=Go.Sort.grow X os:=by
   have K:(zs.mergeSort λx p=>decide (x<=p))=ds:=o;rw[K,hX]
  have T:X.heap.size=w.heap.size:=by rw[<-hX];exact Go.Sort.size_putRow _ _ _ _ _
  have L:∀ i,i≠g->X.heap[i]?=w.heap[i]?:=λi f=>by
   rw[<-hX];show(w.heap.modify g _)[i]?=_;rw[ja,if_neg (bT f)]
  have M:X.heap[g]?=some (.cells (Go.Sort.putCells (Value.int .i64) a ds.toArray s) e (0,0)):=by
   rw[<-hX];show(w.heap.modify g _)[g]?=_;rw[ja,if_pos rfl,m];rfl
  have q:X.os=w.os/\X.tape=w.tape/\X.output=w.output:=by rw[<-hX];exact VF
  rw[J,o];have u:=λi (f:i<X.heap.size)=>Go.Sort.heap_grow_old X os f
  refine⟨_,rfl,rfl,⟨by unfold iv;simp[I], .inr ⟨g,a,c,_,rfl,hb,(u g dB).trans M,A,B,?_,?_⟩⟩,q.1,q.2.1,q.2.2,?_,λi f N=>(u i dB).trans (L i λe=>N (by rw[e];exact aJ.2 rfl))⟩
  .simpa [Go.Sort.putCells]using C
  .refine dI λk=>?_
   unfold iv;rw[bD,bC,aV,Array.getElem?_toList]
   by_cases U:k<zs.length
   .rw[if_pos dB]
    have O:a+k<s.size:=by omega
    simp only[Go.Sort.putCells,Array.getElem?_mapIdx,Array.getElem?_eq_getElem O,dP,eQ,List.getElem!_toArray];have y:k<ds.length:=by omega
    rw[if_pos ⟨dB,dB⟩,show a+k - a=k by omega,aG y,getElem!_pos ds k y];rfl
   .rw[if_neg dB,bK dB];rfl
  .rw[Go.Sort.size_grow];omega
end Go.Proofs.YtpaniebomegnbaaGreat
namespace Go.Proofs.YtpaniebomegnbaaGreat
open Go Go.RowKit Coup
abbrev CG(ns:List Nat):List Int:=ns.map λn:Nat=>(n:Int)
structure PX(ga:Nat)(u:Value)(ns:List Nat)(w:World):Prop where
 r:row w ga [u] 54
 v:og w 0 3 1 u ns.length (iv (CG ns))
instance(ga:Nat)(u:Value)(ns:List Nat):Kept (ga::u.ownBlock.toList) (PX ga u ns):=
 ⟨fun {w w' M} ⟨c,f⟩ k a=>⟨c.nD k (a _ ig),f.nD k λg h e=>a g kH h⟩⟩
def BA(Y:VE)(ga n:Nat)(ns:List Nat):VE:=λw C=>∃ u,(∀ b∈u.ownBlock.toList,b≠ga)/\ns.length<=n/\yF Y (ga::u.ownBlock.toList) (PX ga u ns) w C
instance(Y:VE)[nz Y](ga n:Nat)(ns:List Nat):nz (BA Y ga n ns):=
 ⟨fun⟨u,a,c,e⟩ k f=>⟨u,a,c,nz.nD e k f⟩,fun⟨_,_,_,g⟩ b hb=>nz.lt g b hb⟩
section
variable {X Y:VE}{lo ga n:Nat}{L:List Nat}{ns:List Nat}{w:World}
theorem ztI(h:Two X (BA Y ga n ns) lo L w):∃ u,Two X Y lo ((ga::u.ownBlock.toList)++L) w/\PX ga u ns w/\(∀ b∈ga::u.ownBlock.toList,lo<=b/\b∉L)/\(∀ b∈u.ownBlock.toList,b≠ga)/\ns.length<=n:=by
 obtain⟨⟨B,C,e,⟨u,f,g,i⟩,j,k⟩,l,m⟩:=h;obtain⟨a,b,c⟩:=Vz (Y:=Y) (F:=PX ga u ns) (X:=X) (bl:=ga::u.ownBlock.toList) (lo:=lo) (L:=L) (w:=w) ⟨⟨B,C,e,i,j,k⟩,l,m⟩;exact⟨u,a,b,c,f,g⟩
theorem zp9{u:Value}(h:Two X Y lo ((ga::u.ownBlock.toList)++L) w)(hF:PX ga u ns w)(hl:∀ b∈ga::u.ownBlock.toList,lo<=b/\b∉L)(h1:∀ b∈u.ownBlock.toList,b≠ga)(h2:ns.length<=n):Two X (BA Y ga n ns) lo L w:=by
 obtain⟨⟨B,C,a,b,c,d⟩,e,f⟩:=UV h hF hl;exact⟨⟨B,C,a,⟨u,h1,h2,b⟩,c,d⟩,e,f⟩
end
section
variable {Y:VE}[hYT:nz Y]{q N lo:Nat}{H:HS}{V:Nat->Pg}{k:Nat}{L:List Nat}{w:World}
theorem OC{gr ga rn:Nat}(hrr:row w gr [VB (rn:Int)] 3)(hgr:gr∈L):
   yL (λvs=>BA Y ga vs.length (vs.map λv=>v.1.n)) q N lo H V k (λ_=>true) (λv=>LG rn v/\v.1.cs.length<=123) 54 [VA gr,VA ga] L w:=by
 rintro vs ⟨x,a,b⟩ bl M L' xs C c1 D c2 W f5 f6 c5 ⟨c6,c7⟩ S f7 c8 f8 T f9 U g0 h;obtain⟨V,X,Y⟩:=c6;dsimp only at V X Y c7 S c8 T U |-;obtain⟨u,Z,⟨c9,d0⟩,a0,a1,g1⟩:=ztI h;obtain⟨p,o,g2,rfl,d1,d2,g3,g4⟩:=S;have g5:=vQ x p o;have g6:=wV x p o;have E:=hrr.kl c5 (.inr hgr);have f:=Below.refl W.heap.size W;have g7:=h.lo;have g8:maxLen=9223372036854775807:=by decide
 have g9:=Z.lt;refine nZ (rs:=[.tmp 8]) (n:=85) Tryz.func54 rfl rfl Tryz.ntmps54 dA rfl<|ny<|nK<|qi (oQ x p o) rfl<|λq h0 h1 g a2=>?_
 replace E:=E.new a2;replace f:=f.acc a2;refine nA<|nk<|wO (λ_:Unit=>[(9, .bool (decide ((x.n:Int)=(rn:Int)))),(5,VA q),(1, .slice C a.length c1),(2, .slice D b.length c2),(3,VA gr),(4,VA ga)]) (λ_ w'=>row w' q (oQ x p o) 87/\VD W w') ?_ ?_
 ·
  refine nO<|mZ (nG 0)<|mZ (nH g)<|mZ (oK rfl (Ld.ru E dA rfl))<|mZ (qB rfl rfl)<|nA<|oI<|oM ⟨(),VF,g,f⟩
 ·
  clear g f;rintro _ h2 w1 ⟨g,f⟩;refine wO (λ_:Unit=>[(10, .bool false),(5,VA q),(1, .slice C a.length c1),(2, .slice D b.length c2),(4,VA ga)]) (λ_ w'=>row w' q (oQ x p o) 87/\VD W w') ?_ ?_
  ·
   refine nO<|mZ (nG 2)<|mZ (nH g)<|mZ (oV (e:=90) (sz:=4) dA rfl rfl)<|mZ (qB rfl rfl)<|ng<|sZ 21 rfl (λd3=>?_)<|λd3=>?_
   ·
    refine nE ?_;have F:x.cs=[]:=bH dB;have s:=V F;obtain⟨h3,h4⟩:=s;refine ng<|nE<|ng<|Ng 23 rfl ((decide_eq_true dB))<|nE<|mZ (nG 1)<|nE<|mZ (nH g)<|nE<|mZ (qB rfl rfl)<|nE<|mZ (pK rfl)<|nE<|mZ (sj rfl)<|mZ (pK rfl)<|ng<|Ru 30 rfl (dB)<|nE<|ng<|nE<|ng<|Ng 32 rfl ((decide_eq_true dB))<|nE<|mZ (nG 1)<|nE<|mZ (nH g)<|nE<|mZ (rz rfl rfl)<|nE<|mZ (pK rfl)<|nE<|ng<|uy 37 rfl (dB)<|nN<|nN<|nN<|nN<|nE<|mZ (oP rfl)<|mZ (oP rfl)<|nA<|oI<|oM ⟨(),VF,g,f⟩
   ·
    refine nN<|nN<|uK rfl<|uK rfl<|uK rfl<|nN<|nN<|mZ (oP rfl)<|ng<|nE<|ng<|nE<|ng<|Kg 32 rfl (λa3=>?_)<|λa3=>?_
    ·
     refine nE<|mZ (nG 1)<|nE<|mZ (nH g)<|nE<|mZ (rz rfl rfl)<|nE<|mZ (pK rfl)<|nE<|ng<|sZ 37 rfl (λd4=>?_)<|λd4=>?_
     ·
      refine nE<|mZ (nG 2)<|nE<|mZ (nH g)<|nE<|mZ (oV (e:=90) (sz:=4) dA rfl rfl)<|nE<|mZ (pI rfl rfl)<|nE<|mZ (pK rfl)<|mZ (oP rfl)<|nA<|oI ?_
      have h5:=of_decide_eq_true a3;have h6:=X dB dB;refine oM ⟨(),⟨congrArg Value.bool (decide_eq_false dB),rfl,rfl,rfl,rfl,rfl⟩,g,f⟩
     ·
      refine nN<|nN<|nN<|nN<|nE<|mZ (oP rfl)<|mZ (oP rfl)<|nA<|oI<|oM ⟨(),VF,g,f⟩
    ·
     refine nN<|nN<|nN<|nE<|mZ (oP rfl)<|nE<|ng<|nN<|nN<|nN<|nN<|nE<|mZ (oP rfl)<|mZ (oP rfl)<|nA<|oI<|oM ⟨(),VF,g,f⟩
  ·
   clear g f;rintro _ h7 w2 ⟨g,f⟩;refine nI<|ny<|mZ (nG 2)<|mZ (nH g)<|mZ (oV (e:=90) (sz:=4) dA rfl rfl)<|ng<|nk<|pE ?_
   refine qY (α:=Nat) 0 (λi=>[(47,VB (i:Nat)),(45, .slice p x.cs.length o),(46,VB (x.cs.length:Nat)),(10, .bool false),(5,VA q),(1, .slice C a.length c1),(2, .slice D b.length c2),(4,VA ga)])
     (λi w'=>i<=x.cs.length/\row w' q (oQ x p o) 87/\VD W w') (λi=>x.cs.length - i)
     VF ⟨aC _,g,f⟩ ?_
   clear g f;rintro i h8 d5 ⟨h9,g,f⟩;refine ny<|mZ (pI rfl rfl)<|nk<|nI<|oZ rfl (λd6=>?_)<|λd6=>?_
   ·
    refine lN ?_;have s:∃ c,x.cs[i]?=some c:=⟨_,aG dB⟩;obtain⟨c,a4⟩:=s;have s:=d2.ld d1 rfl a4;obtain⟨i0,op,G,H,d7,F,d8⟩:=s;subst d7;obtain⟨_,_,d9,a5,i1,i2⟩:=F;cases d9;have i3:=zt G H c;have i4:(pV G H c).length=4:=rfl;have e0:=Y c (aO a4);refine nO<|mZ (qZ (e:=90) (sz:=4) dA rfl rfl i (by rfl) dB)<|mZ (oK rfl (d8 _ f))<|nK<|oD ([VC,VB 0,VB 0,VB 0]) dA<|λe1 i5 a6 r a7=>?_
    have e2:=ag f.size a6;have e3:q<e1:=ae g.lt a6;replace g:=g.new a7;replace f:=f.acc a7;refine nT<|oC 4 (pV G H c) r<|λe4 r a8=>?_
    replace g:=g.only a8 (ai e3);replace f:=a8.below f e2;refine nk<|nO<|ng<|ng<|SN 52 rfl (rfl)<|nE<|mZ (nG 0)<|nE<|mZ (nH r)<|nE<|mZ (oV (e:=5) (sz:=1) dA rfl rfl)<|nE<|mZ (rz rfl rfl)<|nE<|ng<|sZ 57 rfl (λI=>?_)<|λI=>?_
    ·
     refine nE ?_;have a9:=e0.resolve_left λe=>by rw[e]at I;exact absurd I iT
     refine mZ (nG 0)<|nE<|mZ (nH r)<|nE<|ng<|nE<|nP (Ik e4 (a5.new f) (T.new f)) ?_
     rintro _ e5 ⟨rfl,J⟩;replace g:=g.new J;replace r:=r.new J;replace f:=f.acc J;refine nE<|mZ (pI rfl rfl)<|nE<|ng<|uy 63 rfl ((λh=>a9.1 h))<|nE<|ng<|nE<|mZ (oV (e:=5) (sz:=1) dA rfl rfl)<|nE<|mZ (rz rfl rfl)<|nE<|ng<|sZ 67 rfl (λK=>?_)<|λK=>?_
     ·
      refine nE<|mZ (nG 0)<|nE<|mZ (nH r)<|nE<|ng<|nE<|nP (Ik e5 (a5.new f) (U.new f)) ?_
      rintro _ i6 ⟨rfl,b0⟩;replace g:=g.new b0;replace f:=f.acc b0;refine nE<|mZ (tV rfl rfl)<|nE<|mZ (pK rfl)<|nE<|mZ (oP rfl)<|nE<|mZ (pK rfl)<|mZ (oP rfl)<|nA<|oI<|pO<|nJ<|nO<|mZ (oJ rfl rfl (show IntKind.i64.wrap ((i:Int)+1)=((i+1:Nat):Int) by rw[nV dB];omega))<|ng<|oI ?_;have e6:¬sU c.1 b>=0:=λh=>by
       rcases a9.2 with e|e
       .rw[e]at K;exact absurd K iT
       .unfold pM at e;omega
      refine oM ⟨i+1,dB,⟨rfl,rfl,rfl,congrArg Value.bool (decide_eq_false e6),rfl,rfl,rfl,rfl,rfl⟩,dB,g,f⟩
     ·
      refine nN<|nN<|nN<|nN<|nN<|nE<|mZ (oP rfl)<|nE<|mZ (oP rfl)<|nE<|mZ (pK rfl)<|mZ (oP rfl)<|nA<|oI<|pO<|nJ<|nO<|mZ (oJ rfl rfl (show IntKind.i64.wrap ((i:Int)+1)=((i+1:Nat):Int) by rw[nV dB];omega))<|ng<|oI<|oM ⟨i+1,dB,VF,dB,g,f⟩
    ·
     refine nN<|nN<|nN<|nN<|nN<|nN<|uK rfl<|uK rfl<|uK rfl<|uK rfl<|uK rfl<|uK rfl<|uK rfl<|uK rfl<|uK rfl<|uK rfl<|nN<|nE<|mZ (oP rfl)<|mZ (oP rfl)<|nA<|oI<|pO<|nJ<|nO<|mZ (oJ rfl rfl (show IntKind.i64.wrap ((i:Int)+1)=((i+1:Nat):Int) by rw[nV dB];omega))<|ng<|oI<|oM ⟨i+1,dB,VF,dB,g,f⟩
   ·
    have L:=a0 ga ig;have A:=c9.new f;have N:=Coup.og.new d0 f;have t:=Z.new f;have b1:=λb (hb:b∈u.ownBlock.toList)=>a0 b jX
    have O:nC lo (M++L') W d5:=nC.of_below f;refine qL<|qK<|rq<|qO<|nJ<|nI<|ny<|ng<|nk<|ui rfl (rfl)<|nU<|nJ<|ny<|mZ (nH A)<|mZ (nG 0)<|mZ (nH g)<|nK<|tT (e:=3) (VB (x.n:Int)) ([VB (x.n:Int)]) ([VB 0]) 1 dA dA rfl rfl rfl ⟨iT,iT⟩<|λi7 i8 e7 b2 B=>?_
    replace A:=A.new B;replace N:=N.new B;replace t:=t.nL B e7 b2.lt;replace O:=O.new B;have e8:=b2.tY (m:=1) (sz:=1) rfl dB;have b3:=t.lt;have i9:=t.lo;refine nK<|tu (e:=3) (sz:=1) (bytes:=8) (z:=VB 0) dA rfl dA rfl iT rfl N rfl e8 kD jB dB (λj0=>dB)<|λj1 j2 P b4 b5=>?_
    have b6:=Kp.rU b4;have e9:=t.Mg (u:=u) (λb hb=>by simp[hb]) b4 b5 P;obtain⟨b7,b8,rfl⟩:=P.form;have Q:=A.nD b6 (λk=>(a1 ga k) rfl);have f0:=O.nD b6 λb k=>.inl (b1 b k)
    have R:∀ j∈(Value.slice b7 ((vs.map λv=>v.1.n).length+1) b8).ownBlock.toList,lo<=j/\j≠ga/\j∉M++L':=λj hb=>by
      rcases b5 j (ah.1 hb)with h|h
      .have y:=b1 j (ah.2 h)
       exact⟨y.1,a1 j (ah.2 h),y.2⟩
      .have j3:=b3 ga ig
       refine⟨dB,dB,λk=>?_⟩;have:=b3 j (by simp only[ay,ak]at k |-;rcases k with h|h<;>simp[h]);omega
    have f1:=P;refine nT<|pQ Q<|λj4 Q b9=>?_
    have c4:=Kp.rJ b9;have f2:=e9.only b9 (.inr ig);refine mI ?_;have f3:(vs++[(x,a,b)]).map (λv=>v.1.n)=vs.map (λv=>v.1.n)++[x.n]:=by rw[bJ];rfl
    have f4:iv (CG (vs.map (λv=>v.1.n)++[x.n]))=iv (CG (vs.map λv=>v.1.n))++[VB (x.n:Int)]:=by unfold iv CG;rw[bJ,bJ];rfl
    refine⟨rfl,?_,(f0.nD c4 λj k=>.inl (by rw[aJ.1 k];exact L)).weak (ax _) λj l=>aB _ l⟩;rw[f3,aA];refine zp9 (u:=.slice b7 ((vs.map λv=>v.1.n).length+1) b8) (f2.weak λj l=>?_) ⟨Q,?_⟩ (λj l=>?_) (λj l=>(R j l).2.1) (by rw[aA,aP];exact ax _)
    · simp only[bL,ak,ay]at l |-
      rcases l with h|h|h
      .simp[h]
      .exact .inl h
      .simp[h]
    · rw[f4,aA]
      exact Coup.og.mono (Coup.og.nD f1 c4 λj k e=>(R j (ah.2 e)).2.1 (aJ.1 k))<|aC _
    · rcases ak.1 l with h|h
      .rw[h];exact⟨L.1,λk=>L.2 (aB _ k)⟩
      .have y:=R j h
       exact⟨y.1,λk=>y.2.2 (aB _ k)⟩
end
section
variable {Y:VE}[hYT:nz Y]{q tb hb N lo:Nat}{L:List Nat}{V:Nat->Pg}{k:Nat}{H:HS}{fl:List Nat}{l:Nat}{t:Tr l}{w:World}
theorem PK{gt ga:Nat}(h:Two (GZ q N (nQ H) V k) (BA Y ga 0 []) lo L w)(hR:TR q tb hb N lo L H fl l t w)(hrf:Tn l t)(hnd:(om l t).Nodup)(hrt:row w gt [VA tb] 37)(hgt:gt∈L):
  Calls Tryz.prog 53 [VA gt,VA ga].toArray w
   (qb λr w'=>∃ n,n<=260000/\Two (GZ q N (nQ H) V k) (BA Y ga n (om l t)) lo L w'/\nC lo L w w'):=by
 have a:=nC.refl lo L w;have c:=h;have g:=λw' (r:nC lo L w w') (s:Two (GZ q N (nQ H) V k) (BA Y ga 0 []) lo L w')=>Na hb s hR.ok (hR.rh.kl r hR.hb) hR.hb
 have E:=RP (λ_=>true) l t [] [];have F:=EG N 0 (om l t) hnd λn u=>by
  have G:=hR.ti.rg n u;have I:=hR.ti.fN;omega
 have J:=hR.ti.n2;rw[hR.rt]at g;refine nZ (rs:=[]) (n:=11) Tryz.func53 rfl rfl Tryz.ntmps53 dA rfl<|ny<|mZ (oK rfl (Ld.ru (hrt.kl a (.inr hgt)) dA rfl))<|mZ (oo rfl)<|mZ (nG 1)<|mZ (oK rfl (Ld.ru (hR.r.kl a hR.tb) dA rfl))<|nP (g w a c) ?_
 rintro _ K ⟨rfl,c,y⟩;replace a:=a.ll y (λb hb=>hb);have M:=a.size;refine nK<|oD ([VB 0]) dA<|λi w2 z e j=>?_
 replace c:=c.nL j z e.lt;replace a:=a.new j;refine nT<|pQ e<|λO e m=>?_
 replace c:=c.only m eG;replace a:=a.oq m;refine nk<|nO<|mZ (oK rfl (Ld.ru (hrt.kl a (.inr hgt)) dA rfl))<|mZ (uV) ?_
 have f:∀ b∈L,b∈i::L:=λb hb=>aj _ hb
 have A:=OC (Y:=Y) (q:=q) (N:=N) (H:=H) (V:=V) (k:=k) (lo:=lo) (L:=i::L) (ga:=ga) e (aK ..);have B:∀ v∈tq (λ_=>true) l t [] [],LG t.n v/\v.1.cs.length<=123:=λv o=>⟨FR _ hR.sd hrf hnd v o,Yh _ hR.ti hR.sd v o⟩
 have C:=Cq (Yv:=λvs=>BA Y ga vs.length (vs.map λv=>v.1.n)) c ((hR.ll a).mono f) hnd B A dA;refine nP (C) ?_;rintro _ P ⟨rfl,p,D⟩;replace a:=a.ll D f;refine mf ?_;rw[YV]at p;exact⟨_,dB,p.weak f,a⟩
end
end Go.Proofs.YtpaniebomegnbaaGreat
namespace Go.Proofs.YtpaniebomegnbaaGreat
open Go Go.RowKit Coup Go.ChangeShapes Go.WideShapes Go.Deep
def tU(N:Nat)(p:Nat->Bool):List Nat:=(List.range N).filter p
theorem Ve(N:Nat)(p:Nat->Bool):tU (N+1) p=tU N p++if p N then[N]else[]:=by
 unfold tU;rw[fQ,fq]
 by_cases a:p N<;>simp[a]
theorem Pk{N i:Nat}(p:Nat->Bool)(h:i<=N):∃ r,tU N p=tU i p++r:=by
 induction N with
 |zero=>exact⟨[],by rw[show i=0 by omega,aR]⟩
 |succ N ih=>
  by_cases e:i=N+1
  .exact⟨[],by rw[e,aR]⟩
  .obtain⟨r,hr⟩:=ih dB
   exact⟨r++if p N then[N]else[],by rw[Ve,hr,aH]⟩
theorem Rx{N i:Nat}{p:Nat->Bool}(h:i<N)(hp:p i=true):(tU N p)[(tU i p).length]?=some i:=by
 obtain⟨r,hr⟩:=Pk p (show i+1<=N by omega);rw[hr,Ve,if_pos hp,aH];simp
theorem DN(N:Nat)(p:Nat->Bool):(tU N p).length<=N:=by
 unfold tU;have:=gG p (List.range N)
 rwa [gH]at this
theorem Fv{N:Nat}{p:Nat->Bool}{ns:List Nat}(hn:ns.Nodup)(h:∀ n,n∈ns↔n<N/\p n=true):Ji (CG ns)=CG (tU N p)/\ns.length=(tU N p).length:=by
 have e:ns.Perm (tU N p):=(jg hn (List.Pairwise.filter p List.nodup_range)).2 λn=>by
  rw[h n];rw[dU,bZ]
 refine⟨List.Perm.eq_of_pairwise (le:=(· <=·)) (λa b _ _ f g=>Int.le_antisymm f g) ?_ ?_ ((List.mergeSort_perm _ _).trans (e.map _)),e.length_eq⟩
 .exact(List.pairwise_mergeSort (le:=λx i:Int=>decide (x<=i)) (λa b c f g=>by simp only[decide_eq_true_eq]at*;omega) (λa b=>by rw[jq,decide_eq_true_eq,decide_eq_true_eq];omega) _).imp fun {a b} h=>by simpa using h
 .exact List.Pairwise.map _ (R:=(· <·)) (λa b h=>dB)<|List.Pairwise.filter p List.pairwise_lt_range
def Aj(H:HS)(n:Nat):Bool:=decide (Bd H n=3)
theorem TS.sorted{N:Nat}{H:HS}{fl rl:List Nat}{R:Nat->Nat->Prop}{P:Nat->Nat->List Nat}{B:Nat->Nat->List UInt8}{A:List (Nat × Nat)}{l:Nat}{t:Tr l}(h:TS N H fl rl R P B A l t):Ji (CG (om l t))=CG (tU N (Aj H))/\(om l t).length=(tU N (Aj H)).length:=by
 obtain⟨Gv,a,f⟩:=h.hm;have i:=a.hi.ok.fN;refine Fv h.tr.nd λn=>?_
 rw[<-f.mem_iff,a.g3 n];unfold Aj;rw[decide_eq_true_eq]
 constructor
 .intro e
  have g:=a.gf n ((a.g3 n).2 e);refine⟨dB,?_⟩;unfold Bd;rw[if_neg dB,if_pos g.2,e];rfl
 .rintro⟨_,c⟩
  unfold Bd at c
  split at c
  .omega
  .split at c
   .omega
   .omega
structure Dp where
 kind:Int
 b:Key
 a1:Int
 a2:Int
def EF(W:World)(a:Dp)(cs:List Value):Prop:=∃ q cp,cs=[VB a.kind, .slice q a.b.length cp,VB a.a1,VB a.a2]/\nM W q a.b.length 1 (bv a.b)
theorem Iu{H:Type}{enc:TypeId × Value->H}{W:World}{base:Nat}{spare:Nat->Bool}{held:Bool}:NW enc Tryz.prog W base spare held 30 (fun(a:Int × Int) cs=>cs=[VB a.1,VB a.2]):=λp cs x f=>by
 obtain⟨g,m,e⟩:=zpp Tryz.underlying30 f;have q:cs.length=2:=g.trans dA;obtain⟨_,h⟩:=Pv e 0 0 1 rfl rfl dA;obtain⟨_,j⟩:=Pv e 1 1 1 rfl rfl dA;obtain⟨a,k,_⟩:=Sc dA _ _ _ h;obtain⟨b,o,_⟩:=Sc dA _ _ _ j;refine⟨(a,b),?_⟩;have c:=PW cs 0 1;have k1:=PW cs 1 1;rw[k]at c;rw[o,cK (l:=cs) (i:=1+1) dB,aR]at k1;rw[k1]at c;rw[bV]at c;exact c
theorem Iq{H:Type}{enc:TypeId × Value->H}{W:World}{base:Nat}{spare:Nat->Bool}{held:Bool}:NW enc Tryz.prog W base spare held 32 (EF W):=λC cs x h=>by
 obtain⟨j,m,f⟩:=zpp Tryz.underlying32 h;have D:cs.length=4:=j.trans dA;obtain⟨_,o⟩:=Pv f 0 0 1 rfl rfl dA;obtain⟨_,p⟩:=Pv f 1 1 1 rfl rfl dA;obtain⟨_,r⟩:=Pv f 2 2 2 rfl rfl dA;obtain⟨a,s,_⟩:=Sc dA _ _ _ o;obtain⟨R,q,t,y,E,z⟩:=zrY (e:=5) (n:=1) dA dA (Sc (k:=.u8) dA) _ _ _ p;obtain⟨u,A⟩:=Iu _ _ _ r;obtain⟨l,g,B⟩:=zrZ z;refine⟨⟨a,l,u.1,u.2⟩,q,t,?_,by rw[g];exact B⟩;have c:=PW cs 0 1;have k1:=PW cs 1 1;have k2:=PW cs 2 2;rw[s]at c;rw[y]at k1;rw[A,cK (l:=cs) (i:=2+2) dB,aR]at k2;rw[k2]at k1;rw[k1]at c;rw[bV]at c;rw[g];exact c
theorem ztJ{H:Type}{enc:TypeId × Value->H}{W:World}{a:Option Addr}{len cap:Nat}{d:DataW H}{p:List MemPlace}(h:DataW.Trod enc Tryz.prog W 0 (λ_=>true) true 22 (.slice a len cap) d p):(∃ R,yE (EF W) W 4 a len R)/\len<=cap:=
 Im dA dA Iq h
theorem EF.below{w w':World}{a:Dp}{cs:List Value}(h:EF w a cs)(hb:VD w w'):EF w' a cs:=by
 obtain⟨q,a,c,e⟩:=h;exact⟨q,a,c,e.below hb (ax _)⟩
theorem ztK{w w':World}{p:Option Addr}{n:Nat}{R:List Dp}(h:yE (EF w) w 4 p n R)(hb:VD w w'):yE (EF w') w' 4 p n R:=h.to hb λ_ _ a=>a.below hb
theorem Oy(p:Option Addr)(n cp most:Nat)(R:List Dp)(w:World)(h:yE (EF w) w 4 p n R)(hm:most<=1000):
   CQ 6 [.slice p n cp,VB (most:Int)] w (λv w'=>∃ B:Bool,v= .bool B/\(B=true->n<=most)/\w=w'):=by
 have o:=h.max;have r:maxLen=9223372036854775807:=by decide
 refine nZ (rs:=[.tmp 4]) (n:=28) Tryz.func6 rfl rfl Tryz.ntmps6 dA rfl<|ny<|nA<|nk<|nI<|ny<|nA<|nk<|pE ?_
 refine qY (α:=Nat) 0 (λi=>[(5,VB (i:Nat)),(0, .slice p n cp),(1,VB (most:Int))]) (λi w'=>i<=n/\i<=most+1/\w=w') (λi=>n - i)
   VF ⟨aC _,aC _,rfl⟩ ?_
 rintro i f s ⟨t,u,rfl⟩;refine nI<|ny<|ng<|ng<|mZ (oV (e:=32) (sz:=4) dA rfl rfl)<|mZ (pI rfl rfl)<|ng<|sZ 10 rfl (λj=>?_)<|λj=>?_
 ·
  refine nE<|ng<|nE<|ng<|nE<|mZ (EH rfl rfl)<|mZ (pK rfl)<|nk<|oZ rfl (λc=>?_)<|λc=>?_
  ·
   refine lN ?_;have g:=h.get (i:=i) dB;obtain⟨a,k⟩:=g;have g:=h.some dB;obtain⟨y,op,rfl,_⟩:=g;have c:=h.el k;obtain⟨cs,⟨q,c1,rfl,z⟩,A,l⟩:=c;refine nO<|ng<|ng<|mZ (qZ (e:=32) (sz:=4) dA rfl rfl i dB dB)<|mZ (nG 1)<|mZ (oK rfl (Ld.one dA (l 1 _ rfl)))<|mZ (oV (e:=5) (sz:=1) dA rfl rfl)<|mZ (rz rfl rfl)<|nk<|oZ rfl (λm=>?_)<|λm=>?_
   ·
    refine ny<|nA<|nk<|nY<|sS<|qy<|zH<|sS<|qy<|ou [_] ⟨rfl,trivial⟩ ?_
    exact⟨false,rfl,ig,rfl⟩
   ·
    refine nU<|pO<|nJ<|nO<|ng<|mZ (oJ rfl rfl (show IntKind.i64.wrap ((i:Int)+1)=((i+1:Nat):Int) by rw[nV dB];omega))<|nA<|oI<|oM ⟨i+1,dB,⟨by go_num,rfl,rfl,rfl⟩,dB,dB,rfl⟩
  ·
   refine qL<|qK<|rq<|qO<|nJ<|ny<|ng<|mZ (oV (e:=32) (sz:=4) dA rfl rfl)<|ng<|mZ (EH rfl rfl)<|nA<|nk<|nY<|ou [_] ⟨rfl,trivial⟩ ?_
   exact⟨decide ((n:Int)<=(most:Int)),rfl,λhb=>by have:=of_decide_eq_true hb;omega,rfl⟩
 ·
  refine nN<|nN<|nN<|mZ (oP rfl)<|nk<|ui rfl (rfl)<|qL<|qK<|rq<|qO<|nJ<|ny<|ng<|mZ (oV (e:=32) (sz:=4) dA rfl rfl)<|ng<|mZ (EH rfl rfl)<|nA<|nk<|nY<|ou [_] ⟨rfl,trivial⟩ ?_
  exact⟨decide ((n:Int)<=(most:Int)),rfl,λhb=>by have:=of_decide_eq_true hb;omega,rfl⟩
end Go.Proofs.YtpaniebomegnbaaGreat
namespace Go.Proofs.YtpaniebomegnbaaGreat
open Go Go.RowKit Coup
section
variable {Y:VE}[hYT:nz Y]{q jb mw N lo:Nat}{L:List Nat}{G0 V:Nat->Pg}{k:Nat}{H:HS}{fl:List Nat}{R:Nat->Nat->Prop}{P:Nat->Nat->List Nat}{B:Nat->Nat->List UInt8}{w:World}
theorem II(g:Nat)(h:JH q jb mw N G0 V k H fl (rH Y g [VC] 54) lo L w)(hI:HI N H fl [] R P B [])(hF:Full H [] R)(h3:∀ n,1<=n->n<H.F.fresh->(H.S n).kind<=3):
   Calls Tryz.prog 137 [VA jb,VA g].toArray w
     (qb λ_ w'=>∃ gs,JH q jb mw N G0 V k H fl (yF Y [g,gs] (Ue N H g gs)) lo L w'/\nC lo L w w'):=by
 obtain⟨s,f2,f3⟩:=h.cell;have l1:=h.n48;have U:=h.ok;have c5:=U.fN;have l2:=h.lo';obtain⟨G,c6,e1⟩:=h.ex;have B:=Nw e1;obtain⟨c,c7⟩:=uq B;obtain⟨l3,l4⟩:=c7.jl;have l5:=nC.refl lo L w;have I:=Below.refl w.heap.size w;have c8:=c7.vR;have l6:=s.lt;have l7:jb≠g:=λe=>by
   have t:=Ab (uq e1).choose_spec.p;exact t.2.2 kH
 have f4:=λL' w' (f5:Two (GZ q N G V k) Y lo L' w')=>JX f5
 have hp:=c7.p;have f6:=U.f1;have f7:=U.liF c6;have f8:=hI.rk.li U c6;have f9:=λw'=>DC (q:=q) (jb:=jb) (mw:=mw) (lo:=lo) (G0:=G0) (V:=V) (k0:=k) f7 c5 w'
 have g0:=λw'=>DC (q:=q) (jb:=jb) (mw:=mw) (lo:=lo) (G0:=G0) (V:=V) (k0:=k) f8 c5 w'
 obtain⟨fr,c9⟩:=aa (H.F.fresh);refine nZ (rs:=[]) (n:=77) Tryz.func137 rfl rfl Tryz.ntmps137 dA rfl<|ny<|nK<|qi ([_]) rfl<|λC w2 d0 u a3=>?_
 have g1:g<C:=ae s.lt d0;replace B:=B.nL a3 d0 u.lt;replace hp:=hp.nL a3 d0 u.lt;replace c8:=c8.new a3;replace s:=s.new a3;replace I:=I.acc a3;refine qx<|mZ (nH u)<|mZ (oo rfl)<|mZ (nG 5)<|mZ (nH c8)<|nP (f4 _ w2 hp) ?_
 rintro _ l8 ⟨rfl,a9⟩;replace B:=B.new a9;replace s:=s.new a9;replace u:=u.new a9;replace I:=I.acc a9;refine nK<|WP (e:=3) N [VB 0] 1 8 (VB 0) dA dA ⟨_,rfl,rfl⟩ ⟨_,rfl,rfl⟩ ig ig dB dB<|λp l9 d1 Z b0=>?_
 have b1:g<p:=ae s.lt d1;have d2:C<p:=ae u.lt d1;replace B:=B.nL b0 d1 Z.lt;replace s:=s.new b0;replace u:=u.new b0;replace I:=I.acc b0;have m0:=I.size;have d3:=nC.of_below (lo:=lo) (L:=L) I;refine nT<|pQ s<|λm1 s b2=>?_
 replace B:=B.only b2 eG;replace u:=u.only b2 (bu g1);replace Z:=Z.only b2 (bu b1);replace d3:=d3.only b2 jo;refine nk<|nI<|ny<|nA<|nk<|pE ?_
 rw[Ha]at Z;have m2:=u.lt;have m3:=Z.lt;have g2:p∉L:=λK=>by have:=h.lo'.2 _ K;omega
 refine qY (α:=Nat) 1 (λn=>[(1,VA g),(2,VA C),(3,VB (n:Int))])
   (λn w'=>1<=n/\n<=fr/\Two (JZ q jb mw N G0 G V k H.F) Y lo (p::C::g::L) w'/\row w' g [.slice (some ⟨p,0,none⟩) N N] 54/\row w' C [VA jb] 126/\row w' p (iv (uL N (AU n))) 3/\nC lo L w w') (λn=>fr - n)
   VF ⟨ax _,by show 1<=fr;rw[<-c9];exact f6,B,s,u,Z,d3⟩ ?_
 rintro n f m4 ⟨g3,m5,y,j,l,a,o⟩;dsimp only at*;have m6:=UJ N (AU n);have m7:fr<=N:=by rw[<-c9];exact c5
 have M:=uq y;obtain⟨m8,g4⟩:=M;have g5:=g4.vR;refine nI<|ny<|ng<|mZ (nH l)<|mZ (oo rfl)<|mZ (nG 0)<|mZ (nG 0)<|mZ (nH g5)<|mZ (pI rfl rfl)<|nk<|oZ rfl (λg6=>?_)<|λg6=>?_
 ·
  refine nU<|nJ<|nI<|pE<|nO<|mZ (nH j)<|ng<|mZ (uX (e:=3) dA rfl rfl n dB dB)<|nT<|pQ a<|λg7 a b3=>?_
  replace y:=y.only b3 eG;replace j:=j.only b3 (ai b1);replace l:=l.only b3 (ai d2);replace o:=o.only b3 jo;replace a:row g7 p ((iv (uL N (AU n))).set (0+n) (VB 3)) 3:=a;rw[aZ,XQ,WC dB,Py g3]at a;refine oI<|pO<|nJ<|nO<|ng<|mZ (oJ rfl rfl (Coup.nV dB))<|nA<|oI<|oM ⟨n+1,by show fr - (n+1)<fr - n;omega,VF,by show 1<=n+1;omega,by show n+1<=fr;omega,y,j,l,a,o⟩
 ·
  have g8:n=fr:=by omega
  rw[g8]at a;have m9:=UJ N (AU fr);refine qL<|qK<|rq<|qO<|nJ<|ny<|mZ (nH j)<|mZ (uX (e:=3) dA rfl rfl (0) dB dB)<|nT<|pQ a<|λg9 a b4=>?_
  replace y:=y.only b4 eG;replace j:=j.only b4 (ai b1);replace l:=l.only b4 (ai d2);replace o:=o.only b4 jo;replace a:row g9 p ((iv (uL N (AU fr))).set (0+0) (VB 4)) 3:=a;rw[aZ,XQ,WC dB]at a;refine nk<|nI<|nI ?_
  have M:=uq y;obtain⟨n0,h0⟩:=M;have d4:=h0.vR;refine qH [] dA ?_;intro h1 a0 h2;replace y:=y.new a0;replace j:=j.new a0;replace l:=l.new a0;replace a:=a.new a0;replace o:=o.new a0;replace d4:=d4.new a0;have e2:=l;have h4:=d4;refine nR 0 (λw' z=>nH (e2.kq z))<|nR 1 (λw' z=>nH (e2.kq z))<|nu 2 (oo rfl)<|nu 3 (nG 0)<|nu 4 (nG 1)<|nR 5 (λw' z=>nH (h4.kq z))<|oh 6 dA ?_
  have n1:=j.lt;have n2:=l.lt;have n3:=a.lt;refine qw rfl rfl (oz dA rfl) (f9 h1) ?_;rintro _ e3 ⟨e4,e5,e6,rfl,b5,a1,h5⟩;have y:=y.Dc a1 b5;have h6:=h2.add0 a1;refine⟨h6,?_⟩;replace j:=j.new a1;replace l:=l.new a1;replace a:=a.new a1;replace o:=o.new a1;refine pq dA<|nJ<|pE ?_
  have h7:uL N (xK (AU fr) [0] 4)=uL N (xK (CP H) (fl.take 0) 0):=Ti λi _=>by
    unfold xK AU CP;rw[c9]
    by_cases e:i=0
    · simp[e]
    · simp[e]
  rw[h7]at a;have n4:=b5 e4 ig;have h8:=b5 e5 ig;have n5:=b5 e6 ig;have n6:=j.lt;have n7:=l.lt;have n8:=a.lt;have n9:=o.size;obtain⟨D,h9⟩:=aa ((e3).heap.size);obtain⟨L0,b6⟩:=aa ([e4,e5,e6]++p::C::g::L);have a4:Two (JZ q jb mw N G0 G V k H.F) Y lo L0 e3:=by rw[<-b6];exact y
  have e7:∀ b∈L,b∈L0:=λb hb=>by rw[<-b6];simp[hb]
  have a5:p∈L0/\C∈L0/\g∈L0:=by rw[<-b6];simp
  refine zm1 (ps:=[40,41]) (L:=L0) (X:=JZ q jb mw N G0 G V k H.F) (Y:=Y) (α:=Unit) (λ_=>[]) D h9 (λ_ h=>h) rfl dA h5 (λv E=>by unfold Bu at E;obtain⟨m,_,rfl⟩:=bg.1 E;rfl) dA ig (λb hb=>by rw[<-b6];exact aF _ hb)
    (λi _ w'=>i<=fl.length/\row w' g [.slice (some ⟨p,0,none⟩) N N] 54/\row w' C [VA jb] 126/\row w' p (iv (uL N (xK (CP H) (fl.take i) 0))) 3/\nC lo L w w') (λ_ _=>False)
    ?_ ?_ (λ_ _ _ h=>h.elim) (λ_ _ _ h=>h.elim) (λ_ _ _ _ b hb=>by cases hb) () a4 ⟨aC _,j,l,a,o⟩ ?_ ?_ (λc W' h=>h.elim)
  · rintro i _ W W' ⟨O,t,h3,P,Q⟩ r
    exact⟨O,t.kl r (.inr (by simp[a5])),h3.kl r (.inr (by simp[a5])),P.kl r (.inr (by simp[a5])),Q.ll r λb hb=>by simp[e7 b hb]⟩
  · rintro i _ W W' ⟨O,t,h3,P,Q⟩ F
    exact⟨O,t.only F dB,h3.only F dB,P.only F dB,Q.only F kM⟩
  · rintro o0 i v _ W1 b7 E i0 _ b8 ⟨o1,j,l,a,o⟩ o2
    obtain⟨m,K,rfl⟩:∃ m,fl[i]?=some m/\v=[VB (m:Int), .agg (bv (oW (H.S m))).toArray]:=by
      unfold Bu at E;rw[aV]at E;have M:=df.1 E;obtain⟨m,K,e⟩:=M;exact⟨m,K,e.symm⟩
    have o3:i<fl.length:=(aL.1 K).1;have o4:=U.fk m (aO K);have o5:=UJ N (xK (CP H) (fl.take i) 0);have i1:=Below.refl W1.heap.size W1;refine nO<|nA<|oI<|⟨rfl,i1,λW2 a6=>?_⟩
    replace b8:=b8.only a6 (.inr ig);replace j:=j.only a6 dB;replace l:=l.only a6 dB;replace a:=a.only a6 dB;replace o:=o.only a6 kM;refine pE<|nO<|mZ (nH j)<|ng<|mZ (uX (e:=3) dA rfl rfl (m) dB dB)<|nT<|pQ a<|λi2 a b9=>?_
    replace j:=j.only b9 (ai b1);replace l:=l.only b9 (ai d2);replace o:=o.only b9 jo;replace a:row i2 p ((iv (uL N (xK (CP H) (fl.take i) 0))).set (0+m) (VB 0)) 3:=a;rw[aZ,XQ,WC dB]at a;have e8:=b9;refine oI<|pO ?_
    have i3:uL N (xK (xK (CP H) (fl.take i) 0) [m] 0)=uL N (xK (CP H) (fl.take (i+1)) 0):=Ti λx _=>by
      unfold xK;rw[bf,K]
      by_cases e:x=m<;>simp[e]
    rw[i3]at a;have i4:p∉(D+1)::D::b7:=λa2=>by
      simp only[ak]at a2;rcases a2 with h|h|h
      .omega
      .omega
      .rcases i0 p h with t|t
       .simp only[ak,bq,or_false]at t
        omega
       .omega
    have o6:=b8.lo;exact⟨(nC.refl lo _ W2).only e8 (.inr ⟨dB,i4⟩),(),b8.only e8 (.inr (by simp[a5])),dB,j,l,a,o⟩
  · rintro _ W J ⟨_,j,l,a,o⟩ i5
    have i6:(Bu H.S fl).length=fl.length:=by unfold Bu;rw[aP]
    rw[i6,dF]at a;have R:AP W D:=⟨i5⟩;have J:Two (JZ q jb mw N G0 G V k H.F) Y lo (D::L0) W:=J;have M:=uq J;obtain⟨o7,i7⟩:=M;have d5:=i7.vR;refine pO<|nJ<|nI<|qH [] dA ?_
    intro i8 S i9;replace j:=j.new S;replace l:=l.new S;replace a:=a.new S;replace o:=o.new S;replace R:=R.new S;replace J:=J.new S;replace d5:=d5.new S;have e9:=l;have j0:=d5;refine nR 0 (λw' z=>nH (e9.kq z))<|nR 1 (λw' z=>nH (e9.kq z))<|nu 2 (oo rfl)<|nu 3 (nG 0)<|nu 4 (nG 3)<|nR 5 (λw' z=>nH (j0.kq z))<|oh 6 dA ?_
    have o8:=j.lt;have o9:=l.lt;have p0:=a.lt;have p1:=R.lt;refine qw rfl rfl (oz dA rfl) (g0 i8) ?_;rintro _ f0 ⟨d6,d7,d8,rfl,a7,T,j1⟩;have J:=J.Dc T a7;have j2:=i9.add0 T;refine⟨j2,?_⟩;replace j:=j.new T;replace l:=l.new T;replace a:=a.new T;replace o:=o.new T;replace R:=R.new T;refine pq dA<|nJ<|pE ?_
    have p2:=a7 d6 ig;have p3:=a7 d7 ig;have p4:=a7 d8 ig;have p5:=j.lt;have p6:=l.lt;have p7:=a.lt;have p8:=R.lt;have p9:=o.size;obtain⟨E0,j3⟩:=aa ((f0).heap.size);obtain⟨E1,j4⟩:=aa (E0+1);obtain⟨L1,c4⟩:=aa ([d6,d7,d8]++D::L0);have j5:Two (JZ q jb mw N G0 G V k H.F) Y lo L1 f0:=by rw[<-c4];exact J
    have d9:∀ b∈L,b∈L1:=λb hb=>by rw[<-c4];simp[e7 b hb]
    have A:p∈L1/\C∈L1/\g∈L1/\D∈L1:=by rw[<-c4];simp[a5]
    have h8:∀ b∈[d6,d7,d8],D<b/\p<b:=λb hb=>by
      have:=a7 b hb;omega
    refine Zo (τ:=Unit) (m:=(Bu H.S []).length) (V:=λ_ k v _ b7 j6=>(Bu H.S [])[k]?=some v/\∀ b∈j6,b∉b7) (T0:=λ_ _ _=>True) (ps:=[52,53]) (L:=L1) (X:=JZ q jb mw N G0 G V k H.F) (Y:=Y) (α:=Unit) (λ_=>[]) E1 [E0] (λj7 h=>by rw[show j7=none from h,<-j4,<-j3];exact RX _ _) rfl dA (zV.v j1) (λ_ i v _ _ _ E=>by have:=aO E.1;unfold Bu at this;obtain⟨m,_,rfl⟩:=bg.1 this;rfl) dA ig (λb hb=>by rw[<-c4];exact aF _ hb)
      (λ_ i _ w'=>i<=0/\row w' g [.slice (some ⟨p,0,none⟩) N N] 54/\row w' C [VA jb] 126/\row w' p (iv (uL N (Bb (CP H) [(fl,0)]))) 3/\nC lo L w w'/\AP w' D) (λ_ _=>False)
      ?_ ?_ (λ_ _ _ h=>h.elim) (λ_ _ _ h=>h.elim) (λ_ _ _ _ _ b hb=>by cases hb) () (show Two _ Y lo ([]++L1) _ from j5) ?_ ?_ ?_ (λc W' h=>h.elim)
    · rintro _ i _ W W' ⟨O,t,h3,P,Q,e0⟩ r
      exact⟨O,t.kl r (.inr kW),h3.kl r (.inr kW),P.kl r (.inr kW),Q.ll r (λb hb=>by simp[d9 b hb]),e0.nD r.kp (pG (.inr kW))⟩
    · rintro _ i _ W W' ⟨O,t,h3,P,Q,e0⟩ F
      exact⟨O,t.only F dB,h3.only F dB,P.only F dB,Q.only F kM,e0.only F dB⟩
    · intro _ W' _ a8
      exact⟨aC _,j.kl a8 (.inr kW),l.kl a8 (.inr kW),a.kl a8 (.inr kW),o.ll a8 (λb hb=>by simp[d9 b hb]),R.nD a8.kp (pG (.inr kW))⟩
    · rintro _ i v _ W1 b7 q0 ⟨E,_⟩
      cases E
    · rintro _ _ W a4 ⟨_,j8,q1,f1,j9,k7⟩ k8
      have k9:=k8 E0 ig;replace a4:Two (JZ q jb mw N G0 G V k H.F) Y lo (E0::L1) W:=a4;have l0:BC W [E0,D]:=⟨λx a2=>by rcases ak.1 a2 with rfl|a2;exact k9;rw[aJ.1 a2];exact k7.d,by simp;omega⟩;rw[show uL N (Bb (CP H) [(fl,0)])=uL N (Bd H)from Ti λn _=>hI.uses hF h3 n]at f1;refine pO<|zs6 [E0,D] l0 rfl λq2 r=>⟨[],trivial,p,⟨U,G,c6,UV ((a4.nD r λb hb=>?_).weak λb hb=>?_) ⟨j8.nD r jY,f1.nD r jY⟩ λb hb=>?_⟩,j9.nD r λb hb=>?_⟩
      .rcases ak.1 hb with h|h
       .exact .inr (by simp[h])
       .exact .inr (by rw[aJ.1 h];simp[A])
      .simp only[bL,aU,ak]at hb |-
       rcases hb with h|h|h
       .simp[h,A]
       .simp[h,A]
       .simp[d9 b h]
      .simp only[ak,bq,or_false]at hb
       rcases hb with h|h
       .rw[h];exact⟨f2,f3⟩
       .rw[h];exact⟨dB,g2⟩
      .simp only[ak,bq,or_false]at hb
       right;omega
end
section
variable {Y:VE}[hYT:nz Y]{q N lo:Nat}{L:List Nat}{V:Nat->Pg}{k:Nat}{H:HS}{fl:List Nat}{R:Nat->Nat->Prop}{P:Nat->Nat->List Nat}{B:Nat->Nat->List UInt8}{w:World}
theorem QU(hb:Nat)(h:Two (GZ q N (nQ H) V k) Y lo L w)(hI:HI N H fl [] R P B [])(hF:Full H [] R)(h3:∀ n,1<=n->n<H.F.fresh->(H.S n).kind<=3)(hr:row w hb [VA q] 201)(hbL:hb<lo\/hb∈L):
  CQ 77 [VA hb] w (λv w'=>∃ gs,v= .slice (some ⟨gs,0,none⟩) N N/\row w' gs (iv (uL N (Bd H))) 3/\lo<=gs/\gs∉L/\Two (GZ q N (nQ H) V k) Y lo (gs::L) w'/\nC lo L w w'):=by
 have a:=nC.refl lo L w;have m:∀ g W,row W hb [VA q] 201->Two (GZ q N (nQ H) V k) (rH Y g [VC] 54) lo L W->Calls Tryz.prog 72 [VA hb, .func (.func 137) #[] [VA g].toArray].toArray W
   (qb λv w'=>v=VB 0/\nC lo L W w'/\∃ gs,Two (GZ q N (nQ H) V k) (yF Y [g,gs] (Ue N H g gs)) lo L w'):=λg W hr h=>by
  refine(LX hb h hI.ok hr 137 [VA g] dA (λH' f Y'=>H'=H/\∃ gs,Y'=yF Y [g,gs] (Ue N H g gs))
   (λe Y'=>False) (λH' f Y' ⟨_,_,e⟩=>by subst e;infer_instance) (λe Y' h=>h.elim) (λH' f Y' ⟨e,_⟩=>by rw[e];exact ax _) λjb mw L' w' D E o=>?_).to λv w' h=>?_
  .exact(II g o hI hF h3).toP λv w2 ⟨gs,p,h3⟩=>⟨H,fl,_,⟨rfl,gs,rfl⟩,p,h3⟩
  .rcases h with⟨H',f,Y',⟨rfl,gs,rfl⟩,F,h3,r,i⟩|⟨e,Y',h,_⟩
   .exact⟨h3,i,gs,r⟩
   .exact h.elim
 refine nZ (rs:=[.tmp 2]) (n:=11) Tryz.func77 rfl rfl Tryz.ntmps77 dA rfl<|ny<|oG ?_
 have s:=h;refine nK<|oD ([VC]) dA<|λt u y z j=>?_
 replace a:=a.new j;replace hr:=hr.new j;have i:=Tg s j z y;refine qx<|ng<|mZ (uV)<|nP (m t u hr i) ?_
 rintro _ G ⟨rfl,A,gs,B⟩;replace a:=a.ll A (λb hb=>hb);refine nA<|nk<|nI<|ny<|ng<|mZ (pJ rfl rfl)<|nk<|qg rfl (iT)<|nU<|nJ<|ny ?_;have c:=Vz B;have C:=c.2.1.1;refine mZ (nH C)<|nA<|nk<|nY<|ou [_] ⟨rfl,trivial⟩ ?_;have l:=c.2.2 gs ig;exact⟨gs,rfl,c.2.1.2,l.1,l.2,c.1.weak (λb hb=>by simp only[bL,aU,ak]at hb |-;rcases hb with h|h<;>simp[h]),a⟩
end
section
variable {Y:VE}[hYT:nz Y]{q tb hb N lo:Nat}{L:List Nat}{V:Nat->Pg}{k:Nat}{H:HS}{fl:List Nat}{l:Nat}{t:Tr l}{w:World}
theorem Qh(h:Two (GZ q N (nQ H) V k) Y lo L w)(hR:TR q tb hb N lo L H fl l t w)(hrf:Tn l t)(hnd:(om l t).Nodup):
  Calls Tryz.prog 15 [VA tb].toArray w
   (qb λr w'=>∃ p c,r= .tuple #[.slice p (om l t).length c,VB 0]/\og w' 0 3 1 (.slice p (om l t).length c) (om l t).length (iv (Ji (CG (om l t))))/\(∀ b∈(Value.slice p (om l t).length c).ownBlock.toList,lo<=b/\b∉L)/\Two (GZ q N (nQ H) V k) Y lo ((Value.slice p (om l t).length c).ownBlock.toList++L) w'/\nC lo L w w'):=by
 have i:=nC.refl lo L w;have o:=h;have T:=h.lt;have b7:=h.lo;have U:∀ (W:World) (L2:List Nat) (f a:Nat),Two (GZ q N (nQ H) V k) (BA Y a 0 []) lo L2 W->(∀ b∈L,b∈L2)->f∈L2->nC lo L w W->row W f [VA tb] 37->
   Calls Tryz.prog 35 [VA tb,VC, .bool true, .func (.func 53) #[] [VA f,VA a].toArray].toArray W
   (qb λv w'=>v=VB 0/\(∃ n,n<=260000/\Two (GZ q N (nQ H) V k) (BA Y a n (om l t)) lo L2 w')/\nC lo L2 W w'):=λW L2 f a B X p Z j=>by
  have K:=(hR.ll Z).mono X;refine(Uo tb hb B K.r (kp:=none) (kn:=0) (kc:=0) 53 [VA f,VA a] dA
   (λG' Y'=>G'=nQ H/\∃ n,n<=260000/\Y'=BA Y a n (om l t)) (λe G' Y'=>False)
   (λG' Y' ⟨_,_,_,e⟩=>by subst e;infer_instance) (λe G' Y' h=>h.elim) λL' w' M O a0=>?_).to λv w' h=>?_
  .have a1:=(K.ll O).mono M
   exact(PK a0 a1 hrf hnd (j.kl O (.inr p)) (M _ p)).toP λv w2 ⟨n,C,B,D⟩=>⟨_,_,⟨rfl,n,C,rfl⟩,B,D⟩
  .rcases h with⟨G',Y',⟨rfl,n,C,rfl⟩,D,a2,a3⟩|⟨e,G',Y',h,_⟩
   .exact⟨D,⟨n,C,a2⟩,a3⟩
   .exact h.elim
 obtain⟨m,c⟩:=aa ((om l t).length);refine nZ (rs:=[.cell 2 54, .tmp 3]) (n:=13) Tryz.func15 rfl rfl Tryz.ntmps15 dA rfl<|ny<|nK<|qi ([_]) rfl<|λf w1 p j E=>?_
 replace o:=o.nL E p j.lt;replace i:=i.new E;have b8:=j.lt;refine nK<|oD ([VC]) dA<|λa w2 r P F=>?_
 replace o:=o.nL F r P.lt;replace i:=i.new F;replace j:=j.new F;refine oG<|mZ (nH j)<|mZ (uV) ?_
 have b9:=o.lo;have c4:=E.size;have a4:row w2 a [VC] 54:=P;have G:Two (GZ q N (nQ H) V k) (BA Y a 0 []) lo (f::L) w2:=zp9 (u:=VC) o ⟨a4,xV _ _ _ _⟩ (λb hb=>by
  have e:b=a:=aJ.1 hb;have c5:=r;refine⟨dB,λc=>?_⟩;have c6:=p;rcases ak.1 c with h|h
  .omega
  .have:=T b h
   omega) (λb hb=>by cases hb) (ax _)
 have Q:∀ b∈L,b∈f::L:=λb hb=>aj _ hb
 refine nP (U w2 (f::L) f a G Q (aK ..) i j) ?_;rintro _ a5 ⟨rfl,⟨n,c7,G⟩,a6⟩;replace i:=i.ll a6 Q;refine nA<|nk<|nI<|ny<|ng<|mZ (pJ rfl rfl)<|nk<|qg rfl (iT)<|nU<|nJ<|nI ?_
 have a7:=ztI G;obtain⟨u,a8,⟨R,I⟩,s,S,a9⟩:=a7;rw[c]at I a9;obtain⟨y,z,rfl⟩:=I.form;have b0:=(MW I dB).to λv w2 ⟨b1,b2,k⟩=>(show v=Value.tuple #[]/\og w2 0 3 1 (.slice y m z) m (iv (Ji (CG (om l t))))/\Two (GZ q N (nQ H) V _) Y lo ((a::(Value.slice y m z).ownBlock.toList)++f::L) w2/\row w2 a [.slice y m z] 54/\nC lo L a5 w2 from⟨b1,b2,a8.nD k λb hb=>.inr (aF _ (aj _ hb)),R.nD k λc=>S a c rfl,(nC.refl lo L _).nD k λb hb=>.inl ⟨(s b (aj _ hb)).1,λc=>(s b (aj _ hb)).2 (aj _ c)⟩⟩)
 refine nO<|mZ (nH R)<|nP b0 ?_
 rintro _ c8 ⟨rfl,b3,b4,A,b5⟩;replace i:=i.ll b5 (λb hb=>hb);refine qx<|mZ (nH A)<|nT<|pQ A<|λc9 A b6=>?_
 have J:=b6;refine nA<|nk<|nY<|ou [_,_] ⟨⟨_,rfl,Ld.ru A dA rfl⟩,rfl,trivial⟩ ?_
 have r:=s a (aK ..);rw[c];exact⟨y,z,rfl,Coup.og.nD b3 (Kp.rJ J) (λg c e=>S g (ah.2 e) (aJ.1 c)),λb hb=>⟨(s b (aj _ hb)).1,λc=>(s b (aj _ hb)).2 (aj _ c)⟩,(b4.only J (.inr ig)).weak (λb hb=>by
  rcases ay.1 hb with h|h
  .exact aF _<|aj _ h
  .exact aB _ (aj _ h)),i.only J (.inr ⟨r.1,λc=>r.2 (aj _ c)⟩)⟩
end
section
variable {Y:VE}[hYT:nz Y]{q tb hb N lo:Nat}{L:List Nat}{V:Nat->Pg}{k:Nat}{H:HS}{fl rl:List Nat}{R:Nat->Nat->Prop}{P:Nat->Nat->List Nat}{B:Nat->Nat->List UInt8}{A:List (Nat × Nat)}{l:Nat}{t:Tr l}{w:World}
theorem ztL(h:Two (GZ q N (nQ H) V k) Y lo L w)(hR:TR q tb hb N lo L H fl l t w)(hS:TS N H fl rl R P B [] l t):
   CQ 26 [VA hb,VA tb] w (λv w'=>v= .bool true/\Two (GZ q N (nQ H) V k) Y lo L w'/\nC lo L w w'):=by
 have j:=nC.refl lo L w;have a6:maxLen=9223372036854775807:=by decide
 have z:=Qh h hR hS.tr.rt hS.tr.nd;obtain⟨F,G⟩:=hS.sorted;obtain⟨Gv,l,_⟩:=hS.hm;have a7:=hS.nb;have I:rl=[]:=List.eq_nil_iff_forall_not_mem.2 λn a=>by
   obtain⟨s,J⟩:=l.Qr a;cases(l.ra n s).1 J
 subst I;have K:=λW A (M:Two (GZ q N (nQ H) V k) Y lo A W) (O:nC lo L w W) (P:∀ b∈L,b∈A)=>QU hb M l.hi l.full (λn _ _=>l.k3 n) (hR.rh.kl O hR.hb) (hR.hb.imp id (P hb))
 rw[F,G]at z;have a8:=DN N (Aj H);have Q:∀ i,i<N->(uL N (Bd H))[i]?=some (Bd H i):=λi t=>by unfold uL;rw[aV,eH t];rfl
 refine nZ (rs:=[.tmp 4]) (n:=50) Tryz.func26 rfl rfl Tryz.ntmps26 dA rfl<|ny<|oG<|ng<|nP z ?_
 rintro _ R ⟨p,c,rfl,S,a9,T,U⟩;replace j:=j.lq U;refine ng<|mZ (nW rfl rfl)<|mZ (nW rfl rfl)<|nA<|oG<|ng ?_;have m:=S.sl;have X:∀ g o,p=some ⟨g,o,none⟩->g<lo\/g∈(Value.slice p (tU N (Aj H)).length c).ownBlock.toList++L:=λg o e=>.inr (aF _ (by rw[e];exact aJ.2 rfl))
 have B:∀ b∈L,b∈(Value.slice p (tU N (Aj H)).length c).ownBlock.toList++L:=λb hb=>aB _ hb
 refine nP (K R _ T j B) ?_;rintro _ C ⟨Z,rfl,a0,b0,b1,a1,D⟩;replace j:=j.ll D B;replace m:=m.rQ D X;refine oG<|nA<|nk<|nI<|ny<|nA<|nk<|pE ?_
 obtain⟨W0,b2⟩:=aa (C);refine qY (α:=Nat × Nat) (0,0) (λs=>[(9,VB (s.1:Nat)),(8,VB (s.2:Nat)),(7, .slice (some ⟨Z,0,none⟩) N N),(5, .slice p (tU N (Aj H)).length c),(6,VB 0)]) (λs w'=>s.1<=N/\s.2=(tU s.1 (Aj H)).length/\C=w') (λs=>N - s.1)
   VF ⟨aC _,rfl,rfl⟩ ?_
 rintro⟨i,n⟩ f b3 ⟨t,a,rfl⟩;dsimp only at t a;have b4:=DN i (Aj H);have r:=Ve i (Aj H);refine nI<|ny<|ng<|ng<|mZ (oV (e:=3) (sz:=1) dA rfl rfl)<|mZ (pI rfl rfl)<|nk<|oZ rfl (λa2=>?_)<|λa2=>?_
 ·
  refine nU<|nJ<|nI<|pE<|nI<|ny<|ng<|ng<|mZ (uX (e:=3) dA rfl rfl i dB dB)<|mZ (oK rfl (Ld.ru a0 dA (show(iv (uL N (Bd H)))[0+i]?=some (VB (Bd H i)) by rw[aZ,WN,Q i dB];rfl)))<|mZ (pJ rfl rfl)<|nk<|oZ rfl (λu=>?_)<|λu=>?_
  ·
   refine qL<|qK<|qO<|nJ<|nO<|ng<|mZ (oJ rfl rfl (show IntKind.i64.wrap ((i:Int)+1)=((i+1:Nat):Int) by rw[nV dB];omega))<|nA<|oI ?_
   rw[if_neg (by unfold Aj;simpa using u),aR]at r;refine oM ⟨(i+1,n),by show N - (i+1)<N - i;omega,VF,by show i+1<=N;omega,by show n=_;rw[r];exact a,rfl⟩
  ·
   have E:Aj H i=true:=by unfold Aj;simpa using u
   have y:=Rx (N:=N) dB E;rw[<-a]at y;have b5:=(aL.1 y).1;have a3:(iv (CG (tU N (Aj H))))[n]?=some (VB (i:Int)):=by rw[WN,aV,y];rfl
   have a4:=m.some dB;obtain⟨b6,b7,rfl,_⟩:=a4;refine nU<|nJ<|nI<|ny<|ng<|ng<|mZ (oV (e:=3) (sz:=1) dA rfl rfl)<|mZ (tV rfl rfl)<|ng<|uy 32 rfl (dB)<|nE<|ng<|nE<|ng<|nE<|mZ (uX (e:=3) dA rfl rfl (n) dB dB)<|nE<|mZ (oK rfl (Ld.sl1 m dA a3))<|nE<|ng<|nE<|mZ (pJ rfl rfl)<|mZ (oP rfl)<|nk<|qg rfl (ig)<|nU<|nJ<|nO<|ng<|mZ (oJ rfl rfl (show IntKind.i64.wrap ((n:Int)+1)=((n+1:Nat):Int) by rw[nV dB];omega))<|nA<|oI<|pO<|nJ<|nO<|ng<|mZ (oJ rfl rfl (show IntKind.i64.wrap ((i:Int)+1)=((i+1:Nat):Int) by rw[nV dB];omega))<|nA<|oI ?_
   rw[if_pos E]at r;refine oM ⟨(i+1,n+1),by show N - (i+1)<N - i;omega,VF,by show i+1<=N;omega,by show n+1=_;rw[r,aA,a];rfl,rfl⟩
 ·
  have a5:i=N:=by omega
  rw[a5]at a;refine qL<|qK<|rq<|qO<|nJ<|ny<|ng<|mZ (qB rfl rfl)<|ng<|zT 44 rfl (ig)<|nE<|ng<|nE<|ng<|nE<|mZ (oV (e:=3) (sz:=1) dA rfl rfl)<|nE<|mZ (qB rfl rfl)<|mZ (pK rfl)<|nA<|nk<|nY<|ou [_] ⟨rfl,trivial⟩ ?_
  exact⟨congrArg Value.bool (decide_eq_true dB),a1.weak (λb hb=>aj _ (aB _ hb)),j⟩
end
theorem ztM{c:tK}{f:Nat}:∀ {m a:Nat},(∀ n,f<=n->n<a+m->c n=none)->(uo c a m).length<=f - a
 |0,a,h=>aC _
 |m+1,a,h=>by
  have i:=ztM (c:=c) (f:=f) (m:=m) (a:=a+1) λn e j=>h n e dB
  rw[uo]
  split
  .rename_i b hb
   have k:¬f<=a:=λg=>by rw[h a g dB]at hb;cases hb
   rw[aD];omega
  .omega
theorem zvy(P:Pl):(uO P).2.G.size=P.G.size:=by
 have hr:(uA P).2.G.size=P.G.size:=by
  unfold uA
  split
  .exact(RV P).2.1
  .rfl
 have a:=WT (uA P).2.D (uA P).2.G (qf P);have hp:(uI (uA P).2 (qf P)).G.size=P.G.size:=a.2.trans hr;have c:=OI (qf P) (uI (uA P).2 (qf P));unfold uO
 split
 .rfl
 .split
  .rfl
  .split
   .rfl
   .split
    .split
     .exact(congrArg Lg.size c.2.1).trans hp
     .exact hp
    .exact hr
def Dw(N:Nat)(G V:Nat->Pg):Nat->Pg:=λn=>if n<N then G n else V n
theorem PG.zJ{P:Pl}{N:Nat}{G V:Nat->Pg}{k:Nat}(h:PG P N G V k)(hk:k<=900000)(hN:N<=2048){f:Nat}(hf:f<=60)(hG:∀ n,f<=n->n<N->G n=V n):(uO P).1=0/\PG (uO P).2 N G (Dw N G V) (k+1):=by
 have j:=h.n;have k:=h.s;obtain⟨c1,c2,c3,o,l⟩:=h.i.zJ hk dB;have r:(qf P).length<=f:=by
  unfold qf;rw[aP];refine ztM (a:=0) λn p i=>?_
  cases hc:P.ch n with
  |none=>rfl
  |some b=>exact absurd (hG n p dB) (h.c n b dB hc)
 have g:(uO P).1=0:=by
  refine o dB ?_;rw[k];unfold vO
  split
  .rw[aW]
   unfold qN qE;omega
  .omega
 have q:AB P V=Dw N G V:=by
  funext n
  unfold AB Dw;rw[j]
  split
  .rename_i c;exact h.g n c
  .rfl
 unfold XV at c1;rw[if_pos g,q]at c1;refine⟨g,c1,c2.trans j,λn c=>?_,(zvy P).trans k,λn b c hb=>?_⟩
 .unfold Dw
  rw[if_pos c]
  by_cases hr:0<(qf P).length
  .rw[l g hr];rfl
  .have e:uO P=(0,P):=by unfold uO;rw[if_pos dB]
   rw[e];show(P.ch n).getD (G n)=G n;have i:=h.g n c;cases hc:P.ch n with
   |none=>rfl
   |some b=>rw[hc]at i;exact i
 .exfalso
  by_cases hr:0<(qf P).length
  .rw[l g hr]at hb;cases hb
  .have e:uO P=(0,P):=by unfold uO;rw[if_pos dB]
   rw[e]at hb;have m:(⟨(n:Int),b⟩:Ch)∈qf P:=bg.2 ⟨(n,b),Qs hb (aC _) dB,rfl⟩;rw[bH (show(qf P).length=0 by omega)]at m;cases m
theorem Gr{Y:VE}[nz Y]{q N lo:Nat}{L:List Nat}{G V:Nat->Pg}{k:Nat}{w:World}(h:Two (GZ q N G V k) Y lo L w)(hk:k<=900000){f:Nat}(hf:f<=60)(hG:∀ n,f<=n->n<N->G n=V n):
  CQ 32 [VA q] w (λv w'=>v=VB 0/\Two (GZ q N G (Dw N G V) (k+1)) Y lo L w'/\nC lo L w w'):=by
 have g:=(ER h).1;obtain⟨P,f,i⟩:=Ot h;obtain⟨e,hp⟩:=f.zJ hk g hf hG;exact(Ir i f.i).to λv w' ⟨a,b,c⟩=>⟨by rw[a,e],Um hp b,c⟩
def T0:Tr 0:=⟨1,[]⟩
def HG:HS:=⟨Us F0,qG H0.S 1 (sJ 3)⟩
def HW:HS:=⟨HG.F,qG HG.S 1 (yn 0 T0)⟩
def HT:HS:=zQ HW 1
theorem WL{N:Nat}(h:2<=N):vM N H0 3=some (1,HG):=by
 unfold vM;rw[if_neg iT,if_neg (by show¬1=N;omega)]
 rfl
theorem JI{N:Nat}(h2:2<=N):∃ fl,HM N HG fl [] (λ_ _=>False) (λ_ _=>[]) (λ_ _=>[]) [] [1]/\HM N HW fl [] (λ_ _=>False) (λ_ _=>[]) (λ_ _=>[]) [] [1]:=by
 obtain⟨e,f⟩:=Sr (SQ (N:=N) dB) iT (WL h2);have a:=(HM.Mh (N:=N) dB).give f;have g:Good (yn 0 T0):=by
  rw[<-CW];exact GK (lv:=0) (cs:=[]) (λc h=>by cases h) iT
 exact⟨e,a,a.KP (n:=1) ig g rfl⟩
theorem Eu{N:Nat}(h2:2<=N)(hN:N<=250):∃ fl,TS N HT fl [] (λ_ _=>False) (λ_ _=>[]) (λ_ _=>[]) [] 0 T0:=by
 obtain⟨a,_,c⟩:=JI h2;have e:=c.root (n:=1) dB;exact⟨a,⟨_,e,gM _⟩,⟨⟨List.Pairwise.nil,(λx f=>by cases f),iT⟩,trivial,by simp[om,T0],(show qG HG.S 1 (yn 0 T0) 1=yn 0 T0 from uU ..)⟩,rfl,hN⟩
section
variable {Y:VE}[hYT:nz Y]{q tb hb N lo:Nat}{L:List Nat}{G V:Nat->Pg}{k:Nat}{H:HS}{fl:List Nat}{l:Nat}{t:Tr l}{w:World}
theorem Jo(h:Two (GZ q N (nQ H) V k) Y lo L w)(hH:rC N H fl)(hrh:row w hb [VA q] 201)(hhb:hb<lo\/hb∈L):
  CQ 68 [VA q,VA hb] w (λv w'=>v=VB 0/\Two (GZ q N (nQ H) V k) Y lo L w'/\nC lo L w w'):=by
 have o:=ER h;have g:=λL' w' (e:Two (GZ q N (nQ H) V k) Y lo L' w')=>JX e
 have i:=λw' (j:nC lo L w w') (e:Two (GZ q N (nQ H) V k) Y lo L w')=>Nj hb 0 0 e hH (.inl iT) (hrh.kl j hhb) hhb
 have a:=nC.refl lo L w;have c:=h;refine nZ (rs:=[.tmp 4]) (n:=15) Tryz.func68 rfl rfl Tryz.ntmps68 dA rfl<|ny<|nA<|nk<|nI<|ny<|ng<|nP (g _ w c) ?_
 rintro _ l ⟨rfl,f⟩;replace a:=a.new f;replace c:=c.new f;refine mZ (qB rfl rfl)<|nk<|qg rfl (dB)<|nU<|nJ<|nI<|ny<|ng<|mZ (BF [VB 0,VB 0] dA)<|nP (i l a c) ?_;rintro _ p ⟨rfl,c,m⟩;replace a:=a.ll m (λb hb=>hb);refine oG<|ng<|mZ (pJ rfl rfl)<|nk<|qg rfl (iT)<|nU<|nJ<|ny<|nA<|nk<|nY<|ou [_] ⟨rfl,trivial⟩ ?_;exact⟨rfl,c,a⟩
theorem FJ(h:Two (GZ q N (nQ H0) V k) Y lo L w)(hrh:row w hb [VA q] 201)(hhb:hb<lo\/hb∈L):
  CQ 21 [VA q,VA hb] w (λv w'=>v=VB 0/\Two (GZ q N (nQ HT) V k) Y lo L w'/\nC lo L w w'):=by
 have a6:=ER h;have a:=nC.refl lo L w;have f:=h;obtain⟨a7,a8,H⟩:=JI (N:=N) dB;have t:=SQ (N:=N) dB;have I:=λw' (m:nC lo L w w') (i:Two (GZ q N (nQ H0) V k) Y lo L w')=>Jo (hb:=hb) i t (hrh.kl m hhb) hhb
 have y:=λw' (m:nC lo L w w') (i:Two (GZ q N (nQ H0) V k) Y lo L w')=>Na hb i t (hrh.kl m hhb) hhb
 have J:=λw' (m:nC lo L w w') (i:Two (GZ q N (nQ H0) V k) Y lo L w')=>(Kk hb i t (hrh.kl m hhb) hhb).to λv w2 ⟨l,j⟩=>(show v=Value.tuple #[VB 1,VB 0]/\Two (GZ q N (nQ HG) V k) Y lo L w2/\nC lo L w' w2 from by
  rcases l with⟨a9,H2,b0,e,_,p,r⟩|⟨e,_⟩
  .rw[WL dB]at e;cases e;exact⟨p,r,j⟩
  .rw[WL dB]at e;cases e)
 have z:=λw'=>(Ai (bl:=[]) (xs:=[VB 1,VB 0,VC]) (x:=nX 0 T0) w' ⟨none,0,[],rfl,nM.nil _ _ _,rD.nil _ _,(λg o e=>nomatch e),ax _⟩ iT (λc u=>by cases u)).to λv w2 ⟨l,j⟩=>(show v=Value.tuple #[.agg (bv (oW (yn 0 T0))).toArray, .bool true]/\VD w' w2 from⟨by
  rw[l,show uM (nX 0 T0).lv (nX 0 T0).cs=true from by decide,if_pos rfl,CW],j⟩)
 have A:Good (yn 0 T0):=by
  rw[<-CW];exact GK (lv:=0) (cs:=[]) (λc u=>by cases u) iT
 have B:=vk A;have C:=λL' w' (i:Two (GZ q N (nQ HG) V k) Y lo L' w')=>(Dy i 1 dB (Aq _ A.size)).to λv w2 ⟨l,j,p⟩=>(show v=VB 0/\Two (GZ q N (nQ HW) V k) Y lo L' w2/\nC lo L' w' w2 from⟨l,by rw[TF iT iT]at j;exact j,p⟩)
 have K:=λL' w' (M:∀ b∈L,b∈L') (m:nC lo L w w') (i:Two (GZ q N (nQ HW) V k) Y lo L' w')=>(UF hb 1 i H.hi.ok (hrh.kl m hhb) (hhb.imp id (M hb))).to λv w' h=>(show v=VB 0/\Two (GZ q N (nQ HT) V k) Y lo L' w'/\nC lo L' _ w' from by
  obtain⟨l,j,p⟩:=h;have O:zf N (1:Int)=0:=if_neg dB;rw[O]at l j;rcases j with⟨_,r⟩|⟨r,_⟩
  .exact⟨l,r,p⟩
  .exact absurd rfl r)
 obtain⟨Z,D⟩:=aa (oW (yn 0 T0));rw[D]at B;simp only[D]at z C;generalize nQ HG=b1 at*;generalize nQ HW=b2 at*;generalize nQ HT=b3 at*;have P:H0.F.root=0:=rfl;have Q:∀ g:Nat,∀ b∈L,b∈g::L:=λg b hb=>aj _ hb
 rw[P]at y;refine nZ (rs:=[.tmp 4]) (n:=44) Tryz.func21 rfl rfl Tryz.ntmps21 dA rfl<|ny<|nA<|nk<|nI<|ny<|ng<|ng<|nP (I w a f) ?_
 rintro _ R ⟨rfl,f,S⟩;replace a:=a.ll S (λb hb=>hb);refine oG<|ng<|mZ (pJ rfl rfl)<|nk<|qg rfl (iT)<|nU<|nJ<|nI<|ny<|ng<|nP (y R a f) ?_;rintro _ T ⟨rfl,f,U⟩;replace a:=a.ll U (λb hb=>hb);refine mZ (pJ rfl rfl)<|nk<|qg rfl (iT)<|nU<|nJ<|ny<|ng<|nP (J T a f) ?_;rintro _ X ⟨rfl,f,a0⟩;replace a:=a.ll a0 (λb hb=>hb);refine ng<|mZ (nW rfl rfl)<|mZ (nW rfl rfl)<|nA<|nA<|nk<|nI<|ny<|ng<|mZ (pJ rfl rfl)<|nk<|qg rfl (iT)<|nU<|nJ<|ny<|ng<|mZ (Ay (VB 1) [VB 1,VB 0,VC] rfl dA)<|nP (z X) ?_;rintro _ b4 ⟨rfl,E⟩;replace f:=f.new E;replace a:=a.new E;refine lV ?_;have b5:=a.size;refine nK<|oD (List.replicate 512 (Value.int .u8 0)) dA<|λb6 b7 a1 s F=>?_
 replace f:=f.nL F a1 s.lt;replace a:=a.new F;refine nT<|oC 512 (bv Z) s<|λa2 s G=>?_
 replace f:=f.only G eG;replace a:=a.oq G;refine nA<|nk<|nI<|ny<|ng<|ng<|mZ (oK rfl (Ld.qI (k:=512) s dA dA B))<|nP (C _ a2 f) ?_
 rintro _ a3 ⟨rfl,f,a4⟩;replace a:=a.ll a4 (λb hb=>aj _ hb);refine oG<|ng<|mZ (pJ rfl rfl)<|nk<|qg rfl (iT)<|nU<|nJ<|ny<|ng<|ng<|nP (K _ a3 (Q _) a f) ?_;rintro _ b8 ⟨rfl,f,a5⟩;replace a:=a.ll a5 (λb hb=>aj _ hb);refine lZ ?_;exact⟨rfl,f.weak λb hb=>aj _ hb,a⟩
end
section
variable {Y:VE}[hYT:nz Y]{q tb hb N lo:Nat}{L:List Nat}{G V:Nat->Pg}{k:Nat}{H:HS}{fl:List Nat}{l:Nat}{t:Tr l}{w:World}
theorem MU{g7 g3:Nat}(h:Two (GZ q N (nQ H) V k) Y lo L w)(hR:TR q tb hb N lo L H fl l t w)(hr7:row w g7 [VA tb] 37)(hg7:g7∈L)(hr3:row w g3 [VA hb] 36)(hg3:g3∈L):
  CQ 69 [VA g7,VA g3] w (λ_ w'=>Two (GZ q N (nQ H) V k) Y lo L w'/\nC lo L w w'):=by
 have hr:=hR.r;have f:=hR.rh;have a:Two (GZ q N (nQ H) V k) Y lo (tb::hb::g7::g3::L) w:=wB (wB (wB (wB h (.inr hg3) hr3.lt) (.inr (aj _ hg7)) hr7.lt) (hR.hb.imp id λg=>aj _ (aj _ g)) f.lt) (hR.tb.imp id λg=>aj _ (aj _ (aj _ g))) hr.lt;have c:=nC.refl lo (tb::hb::g7::g3::L) w;have u:∀ w' L',Two (GZ q N (nQ H) V k) Y lo L' w'->row w' hb [VA q] 201->(hb<lo\/hb∈L')->CQ 51 [VA hb] w' (λv w2=>v=VB (t.n:Int)/\Two (GZ q N (nQ H) V k) Y lo L' w2/\nC lo L' w' w2):=λw' L' i j y=>by
  have:=Na hb i hR.ok j y;rw[hR.rt]at this;exact this
 have z:=λw' L' (i:Two (GZ q N (nQ H) V k) Y lo L' w') (j:row w' tb [VA q,VA hb] 50)=>OJ tb hb i j hR.ti.page.1 (x:=nX l t) rfl hR.ti.page.2 (hR.ti.zZ hR.sd)
 refine nZ (rs:=[]) (n:=6) Tryz.func69 rfl rfl Tryz.ntmps69 dA rfl<|vX lo ((tb::hb::g7::g3::L)) dA ?_
 intro A e p B;replace a:=a.new e;replace c:=c.new e;replace hr:=hr.new e;replace f:=f.new e;replace hr7:=hr7.new e;replace hr3:=hr3.new e;have C:=hr7;have D:=hr3;refine nR 0 (λw' m=>nH (C.kL m))<|nR 1 (λw' m=>nH (D.kL m))<|oh 2 dA<|qw rfl rfl (oz dA rfl) (u A _ a f ig) ?_
 rintro _ E ⟨rfl,a,o⟩;have r:=B.vv p o.wk;refine⟨r,?_⟩;replace c:=c.lq o;replace hr:=hr.kl o;refine oh 3 dA<|qw rfl rfl (oz dA rfl) (z E _ a hr) ?_;rintro _ G ⟨xs,bl,rfl,I,J,a,s⟩;have F:=r.vv p s.wk;refine⟨F,?_⟩;replace c:=c.lq s;refine pq dA<|zS [] trivial ?_;exact⟨a.weak λb hb=>by simp[hb],c.weak (ax _) λb hb=>by simp[hb]⟩
theorem Qc(h:Two (GZ q N (nQ H) V k) Y lo L w)(hok:rC N H fl)(hrh:row w hb [VA q] 201)(hhb:hb<lo\/hb∈L)(hti:yh N H l t)(hsd:qJ l t [] [])(hrt:H.F.root=t.n):
  CQ 20 [VA q,VA hb] w (λv w'=>∃ tb,v= .tuple #[VA tb,VB 0]/\row w' tb [VA q,VA hb] 50/\w.heap.size<=tb/\Two (GZ q N (nQ H) V k) Y lo (tb::L) w'/\nC lo L w w'):=by
 have a:=nC.refl lo L w;have f:=h;have K:=λL' w' (p:∀ b∈L,b∈L') (z:nC lo L w w') (M:Two (GZ q N (nQ H) V k) Y lo L' w')=>Jo (hb:=hb) M hok (hrh.kl z hhb) (hhb.imp id (p hb))
 have O:∀ (W:World) (L2:List Nat) (tb g i:Nat),Two (GZ q N (nQ H) V k) Y lo L2 W->(∀ b∈L,b∈L2)->tb∈L2->g∈L2->i∈L2->nC lo L w W->row W tb [VA q,VA hb] 50->row W g [VA tb] 37->row W i [VA hb] 36->
   Calls Tryz.prog 35 [VA tb,VC, .bool true, .func (.func 69) #[] [VA g,VA i].toArray].toArray W
   (qb λv w'=>v=VB 0/\Two (GZ q N (nQ H) V k) Y lo L2 w'/\nC lo L2 W w'):=λW L2 tb g i A P Q o r z R j c=>by
  have E:TR q tb hb N lo L2 H fl l t W:=⟨hok,R, .inr Q,hrh.kl z hhb,hhb.imp id (P hb),hti,hsd,hrt⟩;refine(Uo tb hb A E.r (kp:=none) (kn:=0) (kc:=0) 69 [VA g,VA i] dA
   (λG' Y'=>G'=nQ H/\Y'=Y) (λe G' Y'=>False)
   (λG' Y' ⟨_,e⟩=>by subst e;infer_instance) (λe G' Y' h=>h.elim) λL' w' p B S=>?_).to λv w' h=>?_
  .have T:=(E.ll B).mono p
   exact(MU S T (j.kl B (.inr o)) (p _ o) (c.kl B (.inr r)) (p _ r)).toP λv w2 ⟨U,A⟩=>⟨_,_,⟨rfl,rfl⟩,U,A⟩
  .rcases h with⟨G',Y',⟨rfl,rfl⟩,X,Z,a0⟩|⟨e,G',Y',h,_⟩
   .exact⟨X,Z,a0⟩
   .exact h.elim
 refine nZ (rs:=[.tmp 4, .tmp 5]) (n:=26) Tryz.func20 rfl rfl Tryz.ntmps20 dA rfl<|ny<|nK<|qi ([_]) rfl<|λi a1 r c F=>?_
 replace f:=f.nL F r c.lt;replace a:=a.new F;refine nA<|nA<|nk<|nI<|ny<|ng<|mZ (nH c) ?_
 have G:∀ b∈L,b∈i::L:=λb hb=>aj _ hb
 refine nP (K _ a1 G a f) ?_;rintro _ a6 ⟨rfl,f,I⟩;replace a:=a.ll I G;replace c:=c.kl I;refine oG<|ng<|mZ (pJ rfl rfl)<|nk<|qg rfl (iT)<|nU<|nJ<|ny<|ng<|mZ (nH c)<|mZ (AC (VA q) (VA hb) [VA q,VA hb] rfl rfl dA) ?_
 have a7:=a.size;refine nK<|qi ([VA q,VA hb]) rfl<|λs a8 a2 m C=>?_
 replace f:=f.nL C a2 m.lt;replace c:=c.new C;replace a:=a.new C;refine nK<|oD ([Value.pointer none]) dA<|λg a9 o j u=>?_
 have a3:i<g:=ae c.lt o;have a4:s<g:=ae m.lt o;replace f:=f.nL u o j.lt;replace c:=c.new u;replace a:=a.new u;replace m:=m.new u;refine nT<|pQ j<|λa5 j y=>?_
 replace f:=f.only y eG;replace c:=c.only y (ai a3);replace a:=a.oq y;replace m:=m.only y (ai a4);refine nk<|nI<|ny<|mZ (nH j)<|mZ (uV) ?_
 have J:∀ b∈L,b∈g::s::i::L:=λb hb=>by simp[hb]
 refine qA rfl (oz dA rfl) (O a5 _ s g i f J ig ig ig a m j c) ?_;rintro _ b0 ⟨rfl,f,D⟩;replace a:=a.ll D J;replace m:=m.kl D;replace j:=j.kl D;refine oG<|ng<|mZ (pJ rfl rfl)<|nk<|qg rfl (iT)<|nU<|nJ<|ny<|mZ (nH j)<|nA<|nA<|nk<|nY<|ou [_,_] ⟨rfl,rfl,trivial⟩ ?_
 exact⟨s,rfl,m,dB,f.weak λb hb=>by simp only[ak]at hb |-;rcases hb with h|h<;>simp[h],a⟩
end
section
variable {Y:VE}[hYT:nz Y]{lo:Nat}{L:List Nat}{w:World}
theorem Vi{n:Nat}(h:2<=n):nQ HT n=uQ:=by
 unfold nQ;rw[if_neg dB,if_neg (by show¬n<2;omega)]
theorem ztN(h:Two Y None lo L w)(pages:Nat)(hp4:4<=pages)(hp:pages<=240):
  CQ 19 [VB (pages:Int)] w (λv w'=>∃ q hb tb V,v= .tuple #[VA q,VA hb,VA tb, .bool true]/\Two (GZ q pages (nQ HT) V 3) Y lo (tb::hb::L) w'/\row w' hb [VA q] 201/\row w' tb [VA q,VA hb] 50/\w.heap.size<=hb/\w.heap.size<=tb/\nC lo L w w'):=by
 have a:=nC.refl lo L w;have y:=VJ (w:=w) (1+400+4*pages) dB dB;rw[show((1+400+4*pages:Nat):Int)=401+4*(pages:Int) by omega]at y;have m:=λg w' (c:Two (DZ g (xe (1+400+4*pages))) Y lo L w')=>Fj c 400 ⟨dB,dB⟩ ((zms (n:=1+400+4*pages) dB).weak dB)
 have z:=CS (pages:=pages) (s:=400) dB dB;have H:vN (1+400+4*pages) 400=pages:=z;simp only[Oq,show Int.toNat 400=400 from rfl,H,if_neg (show¬pages<4 by omega)]at m;obtain⟨I,J,b4⟩:=Tf (pages:=pages) (s:=400) dB dB dB;obtain⟨K,b5,b6,b7⟩:=zpB (pages:=pages) (s:=400) dB dB dB;obtain⟨c1,c2⟩:=zuO (pages:=pages) (s:=400) 30 dB dB dB;have M:(EX pages 400 30).n=pages:=(Yd (pages:=pages) (s:=400) 30 dB dB dB).2.2.1;have O:PG (EX pages 400 30) pages (λ_=>uQ) (λ_=>uQ) 2:=⟨FZ dB dB dB dB dB dB,M,λn b8=>rfl,rfl,λn b _ h=>nomatch h⟩;have P:=λg w' (c:Two (DZ g (xX pages 400)) Y lo L w')=>(Nv c 400 30 (by rw[J,z];omega) ⟨dB,dB⟩ K (yD I.short dB) c1).to λv A ⟨C,k⟩=>(show(∃ q,v=Value.tuple #[VA q,VB 0]/\Two (GZ q pages (λ_=>uQ) (λ_=>uQ) 2) Y lo L A)/\nC lo L w' A from by
  rw[c2]at C;rcases C with⟨p,_⟩|⟨_,x,q,mc,md,cv,e,j⟩
  .exact absurd rfl p
  .exact⟨⟨q,e,Um O (zpv j)⟩,k⟩)
 have Q:yT (Dz (xe (1+400+4*pages)) 400 pages) 400=xX pages 400:=rfl;rw[Q]at m;generalize xX pages 400=D1 at*;obtain⟨b9,l⟩:=Eu (N:=pages) dB dB;have R:=λq w' (c:Two (GZ q pages (λ_=>uQ) (λ_=>uQ) 2) Y lo L w')=>Fp c
 have S:=λq w' (c:Two (GZ q pages (nQ H0) (λ_=>uQ) 2) Y lo L w')=>Qp c (SQ dB)
 have T:=λq hb w' (c:Two (GZ q pages (nQ H0) (λ_=>uQ) 2) Y lo (hb::L) w') hr=>FJ (hb:=hb) c hr (.inr (aK ..))
 have U:=λq hb w' (c:Two (GZ q pages (nQ HT) (λ_=>uQ) 2) Y lo (hb::L) w')=>Gr c dB (f:=2) dB λn p _=>Vi p
 have X:=λq hb V w' (c:Two (GZ q pages (nQ HT) V 3) Y lo (hb::L) w') hr=>Qc (hb:=hb) c l.ok hr (.inr (aK ..)) l.ti l.tr.snd_ l.rt
 generalize nQ HT=c4 at*;generalize nQ H0=P0 at*;refine nZ (rs:=[.tmp 2, .tmp 3, .tmp 4, .tmp 5]) (n:=69) Tryz.func19 rfl rfl Tryz.ntmps19 dA rfl<|ny<|nA<|nA<|nA<|oG<|ng<|mZ (yR rfl rfl (Coup.nV dB))<|mZ (oJ rfl rfl (Coup.nV dB))<|nP (y) ?_
 rintro _ Z ⟨g,B,rfl,hX,a0,D⟩;have r:=(h.add (Y:=DZ g (xe (1+400+4*pages))) D hX a0).swap;replace a:=a.new D;refine ng<|mZ (nW rfl rfl)<|mZ (nW rfl rfl)<|nA<|nA<|nk<|nI<|ny<|ng<|mZ (pJ rfl rfl)<|ng<|uy 23 rfl (ig)<|nE<|ng<|nE<|nP (m g Z r) ?_;rintro _ a1 ⟨rfl,r,a2⟩;replace a:=a.lq a2;refine nE<|mZ (pJ rfl rfl)<|mZ (oP rfl)<|nk<|qg rfl (ig)<|nU<|nJ<|ny<|ng<|nP (P g a1 r) ?_;rintro _ a3 ⟨⟨q,rfl,j⟩,a4⟩;replace a:=a.lq a4;refine ng<|mZ (nW rfl rfl)<|mZ (nW rfl rfl)<|nA<|nA<|nk<|nI<|ny<|ng<|mZ (pJ rfl rfl)<|ng<|uy 35 rfl (ig)<|nE<|ng<|nE<|nP (R q a3 j) ?_;rintro _ a5 ⟨rfl,j,a6⟩;replace a:=a.lq a6;refine nE<|mZ (pJ rfl rfl)<|mZ (oP rfl)<|nk<|qg rfl (ig)<|nU<|nJ<|ny<|ng ?_;have c5:=a.size;refine nP (S q a5 j) ?_;rintro _ a7 ⟨hb,rfl,i,c6,t,a8⟩;replace a:=a.lq a8;refine ng<|mZ (nW rfl rfl)<|mZ (nW rfl rfl)<|nA<|nA<|nk<|nI<|ny<|ng<|mZ (pJ rfl rfl)<|ng<|uy 47 rfl (ig)<|nE<|ng<|nE<|ng<|nE ?_;have u:∀ b∈L,b∈hb::L:=λb hb=>aj _ hb
 refine nP (T q hb a7 t i) ?_;rintro _ a9 ⟨rfl,t,E⟩;replace a:=a.ll E u;replace i:=i.nD E.kp eu;refine nE<|mZ (pJ rfl rfl)<|mZ (oP rfl)<|ng<|uy 53 rfl (ig)<|nE<|ng<|nE<|nP (U q hb a9 t) ?_
 rintro _ b0 ⟨rfl,b1,F⟩;replace a:=a.ll F u;replace i:=i.nD F.kp eu;refine nE<|mZ (pJ rfl rfl)<|mZ (oP rfl)<|nk<|qg rfl (ig)<|nU<|nJ<|ny<|ng<|ng ?_;have c7:=a.size;refine nP (X q hb _ b0 b1 i) ?_;rintro _ c8 ⟨tb,rfl,b2,c9,b3,G⟩;replace a:=a.ll G u;replace i:=i.nD G.kp eu;refine ng<|mZ (nW rfl rfl)<|mZ (nW rfl rfl)<|nA<|oG<|ng<|ng<|ng<|ng<|mZ (qB rfl rfl)<|nA<|nA<|nA<|nA<|nk<|nY<|ou [_,_,_,_] ⟨rfl,rfl,rfl,rfl,trivial⟩ ?_;exact⟨q,hb,tb,_,rfl,b3,i,b2,dB,dB,a⟩
end
end Go.Proofs.YtpaniebomegnbaaGreat
namespace Coup
open Go Go.RowKit
section
variable {P:Program}{ρ:Env}{w:World}{d:Option Nat}{ty:TypeId}{pos:String}{af:Array Edge}{gd:Option (Nat × Bool)}
theorem Hw{t t':Nat}{x y:Operand}{a b:List UInt8}(hx:ev ρ x=strOf a)(hy:ev ρ y=strOf b):
  (execOp (ev ρ) ⟨d, .binOp .geq t x y t',ty,pos,af,gd⟩).run P w= .ok (.value (.bool (!Op.bytesLess a b))) w:=by
 have:Op.bytesLess (⟨a.toArray⟩:ByteArray).toList (⟨b.toArray⟩:ByteArray).toList=Op.bytesLess a b:=by
  rw[ByteArray.toList_eq,ByteArray.toList_eq]
 simp only[execOp,hx,hy,strOf,eqGuard,binOp,Op.stringOp,this];simp[Result.andThen]
end
end Coup
namespace Go.Proofs.YtpaniebomegnbaaGreat
open Go Go.RowKit Coup
theorem YL:∀ (a b:Key),Op.bytesLess a b=decide (pM a b)
 |[],[]=>by rw[decide_eq_false (pM.irrefl _)];rfl
 |[],_::_=>by rw[decide_eq_true (Nn (jL _ _))];rfl
 |_::_,[]=>by rw[decide_eq_false (zkV _)];rfl
 |x::s,y::t=>by
  have f:=YL s t;have e:sU (x::s) (y::t)=if x<y then -1 else if y<x then 1 else sU s t:=by rw[sU]
  have g:decide (pM (x::s) (y::t))=decide ((if x<y then -1 else if y<x then 1 else sU s t)<0):=decide_eq_decide.2 (by unfold pM;rw[e]);have h:decide (pM s t)=decide (sU s t<0):=rfl;rw[Op.bytesLess,f,g,h]
  by_cases a:x<y
  .rw[if_pos a,decide_eq_true a,Bool.true_or];rfl
  .rw[if_neg a,decide_eq_false a,gW]
   by_cases c:y<x
   .have i:(x == y)=false:=by
     rw[beq_eq_false_iff_ne];intro e;subst e;exact a c
    rw[if_pos c,i,fo];rfl
   .have e:=Tj a c
    rw[if_neg c,e,beq_self_eq_true,fD]
section
variable {α:Type}
def Br(x:Key × α)(s:List (Key × α) × Bool)(y:Key × α):List (Key × α) × Bool:=
 ((if y.1≠x.1 then(if s.2=false/\pW x.1 y.1 then s.1++[x]else s.1)++[y]else if s.2=false/\pW x.1 y.1 then s.1++[x]else s.1),s.2 || decide (pW x.1 y.1))
theorem XY{x:Key × α}:∀ {l o:List (Key × α)},(∀ y∈l,pM x.1 y.1)->l.foldl (Br x) (o,true)=(o++l,true)
 |[],o,h=>by rw[aR];rfl
 |y::l,o,h=>by
  have a:Br x (o,true) y=(o++[y],true):=by
   unfold Br;dsimp only;rw[if_pos (h y ig).ne.symm,if_neg (λe=>by cases e.1),Bool.true_or]
  rw[gQ,a,XY (λc f=>h c lh),aH];rfl
theorem zqb{x:Key × α}:∀ {l o:List (Key × α)},tN l->(λs:List (Key × α) × Bool=>if s.2=true then s.1 else s.1++[x]) (l.foldl (Br x) (o,false))=o++uY l x
 |[],o,h=>rfl
 |y::l,o,h=>by
  have g:=dL.1 h;rw[gQ]
  by_cases a:pM y.1 x.1
  .have e:Br x (o,false) y=(o++[y],false):=by
    unfold Br;dsimp only;rw[if_pos a.ne,if_neg (λe=>e.2 a),decide_eq_false (λe:pW x.1 y.1=>e a)];rfl
   rw[e,zqb g.2];unfold uY;rw[dE,if_pos (decide_eq_true a),dE,if_neg (by rw[decide_eq_true_eq];exact a.asymm)];simp
  .by_cases i:y.1=x.1
   .have e:Br x (o,false) y=(o++[x],true):=by
     unfold Br;dsimp only;rw[if_neg (λe=>e i),if_pos ⟨rfl,a⟩,decide_eq_true (show pW x.1 y.1 from a)];rfl
    rw[e,XY λc f=>i▸g.1 c f];dsimp only;rw[if_pos rfl];unfold uY;rw[dE,if_neg (by rw[decide_eq_true_eq];exact a),dE,if_neg (by rw[decide_eq_true_eq,i];exact pM.irrefl _),GN (λc f=>decide_eq_false (i▸g.1 c f).asymm),filter_all (λc f=>decide_eq_true (i▸g.1 c f))];simp
   .have j:=NR a i
    have e:Br x (o,false) y=(o++[x]++[y],true):=by
     unfold Br;dsimp only;rw[if_pos i,if_pos ⟨rfl,a⟩,decide_eq_true (show pW x.1 y.1 from a)];rfl
    rw[e,XY λc f=>j.trans (g.1 c f)];dsimp only;rw[if_pos rfl];unfold uY;rw[dE,if_neg (by rw[decide_eq_true_eq];exact a),dE,if_pos (decide_eq_true j),GN (λc f=>decide_eq_false (j.trans (g.1 c f)).asymm),filter_all (λc f=>decide_eq_true (j.trans (g.1 c f)))];simp
end
theorem zq4{α:Type}{l:List (Key × α)}{k:Key}{i:Nat}{y:Key × α}(h:l[i]?=some y):rY (l.take (i+1)) k=rY (l.take i) k++if y.1=k then[]else[y]:=by
 rw[bf,h,LH]
 congr 1
 unfold rY;rw[fV,dE]
 by_cases e:y.1=k
 .rw[if_pos e,if_neg kH];rfl
 .rw[if_neg e,if_pos kH];rfl
theorem zvz{α:Type}{l:List (Key × α)}{k:Key}:(rY l k).length<l.length↔∃ r∈l,r.1=k:=by
 unfold rY;rw[List.length_filter_lt_length_iff_exists]
 constructor
 .rintro⟨x,a,c⟩
  exact⟨x,a,by simpa using c⟩
 .rintro⟨x,a,c⟩
  exact⟨x,a,by simpa using c⟩
abbrev Rw:=List (Key × (Nat × Nat))
def vz(q:Option Addr)(qc:Nat)(r:Key × (Nat × Nat)):List Value:=[.slice q r.1.length qc,VB (r.2.1:Int),VB (r.2.2:Int)]
theorem Yj(q:Option Addr)(qc:Nat)(r:Key × (Nat × Nat)):∀ v∈vz q qc r,v.oneCell'=true:=λv a=>by
 simp only[vz,ak,bq,or_false]at a;rcases a with rfl|rfl|rfl<;>rfl
def Rq(S:Nat->Prop)(w:World)(xs:List Value)(r:Key × (Nat × Nat)):Prop:=∃ q qc,xs=vz q qc r/\nM w q r.1.length 1 (bv r.1)/\∀ g o,q=some ⟨g,o,none⟩->S g
theorem KU{vs:List Value}{r:Key × (Nat × Nat)}{q:Option Addr}{qc i:Nat}(h:(vs.drop (i*3)).take 3=vz q qc r):vs[i*3]?=some (.slice q r.1.length qc):=by
 have a:=congrArg (λl:List Value=>l[0]?) h;rw[jO dB,bC]at a;exact a
structure uw(S:Nat->Prop)(w:World)(vs:List Value)(rs:Rw):Prop where
 len:vs.length=rs.length*3
 at_:∀ i r,rs[i]?=some r->Rq S w ((vs.drop (i*3)).take 3) r
namespace uw
variable {S S':Nat->Prop}{w w':World}{vs xs:List Value}{rs:Rw}{r:Key × (Nat × Nat)}
theorem _root_.Go.Proofs.YtpaniebomegnbaaGreat.Rq.nD{M:List Nat}(h:Rq S w xs r)(k:Kp M w w')(hM:∀ b,S b->b∉M):Rq S w' xs r:=by
 obtain⟨q,c,f,i,a⟩:=h;exact⟨q,c,f,i.nD k λg o e=>hM g (a g o e),a⟩
theorem nil:uw S w [] []:=⟨rfl,λi r a=>by cases a⟩
theorem nD{M:List Nat}(h:uw S w vs rs)(k:Kp M w w')(hM:∀ b,S b->b∉M):uw S w' vs rs:=⟨h.len,λi r a=>(h.at_ i r a).nD k hM⟩
theorem new(h:uw S w vs rs)(hb:VD w w'):uw S w' vs rs:=h.nD (M:=[]) (Kp.of_below hb) ig
theorem mono(h:uw S w vs rs)(hS:∀ b,S b->S' b):uw S' w vs rs:=⟨h.len,λi r a=>let ⟨q,qc,h1,h2,h3⟩:=h.at_ i r a;⟨q,qc,h1,h2,λg o e=>hS g (h3 g o e)⟩⟩
theorem snoc(h:uw S w vs rs)(hc:Rq S w xs r):uw S w (vs++xs) (rs++[r]):=by
 obtain⟨p,e,rfl,f⟩:=hc;have c:=h.len;refine⟨by rw[aA,aA,c];show _+3=(_+1)*3;omega,λi d a=>?_⟩
 by_cases g:i<rs.length
 .rw[bF g]at a
  rw[dS dB,eX lu];exact h.at_ i d a
 .rw[bB dB]at a
  obtain rfl:i=rs.length:=by
   have:=(aL.1 a).1;simp at this;omega
  rw[bO]at a;cases a;rw[<-c,dK];exact⟨p,e,rfl,f⟩
theorem ld{p:Option Addr}{n i:Nat}(hc:uw S w vs rs)(h:nM w p n 3 vs)(hn:n=rs.length)(hi:rs[i]?=some r):∃ g o q qc,p=some ⟨g,o,none⟩/\vs[i*3]?=some (.slice q r.1.length qc)/\nM w q r.1.length 1 (bv r.1)/\(∀ g o,q=some ⟨g,o,none⟩->S g)/\∀ w',VD w w'->Ld Tryz.prog w' 70 ⟨g,o+i*3,none⟩ (.agg (vz q qc r).toArray):=by
 have f:=(aL.1 hi).1;obtain⟨g,o,rfl,l⟩:=h.some dB;obtain⟨q,qc,a,c,e⟩:=hc.at_ i r hi;refine⟨g,o,q,qc,rfl,KU a,c,e,λw' hb=>?_⟩;have m:=hc.len;have:=Ld.zu (P:=Tryz.prog) (t:=70) (j:=i*3) (k:=3) (h.new hb) dA dA dB;rw[a]at this;exact this
end uw
section
variable {S:Nat->Prop}{w:World}{p pk:Option Addr}{n c ck:Nat}{vs:List Value}{rs:Rw}{key:Key}
theorem zvA(u:Nat × Nat)(hs:nM w p n 3 vs)(hr:uw S w vs rs)(hn:n=rs.length)(hn2:n<=100000)(hk:nM w pk key.length 1 (bv key))(hkS:∀ g o,pk=some ⟨g,o,none⟩->S g)(hSw:∀ b,S b->b<w.heap.size)(hrk:tN rs):
   Calls Tryz.prog 24 [.slice p n c, .slice pk key.length ck, .agg #[VB (u.1:Int),VB (u.2:Int)]].toArray w
     (qb λv w'=>∃ vs',og w' w.heap.size 70 3 v (uY rs (key,u)).length vs'/\uw S w' vs' (uY rs (key,u))/\VD w w'):=by
 have f:=Below.refl w.heap.size w;have g5:maxLen=9223372036854775807:=by decide
 have b8:=Yj pk ck (key,u);have b9:(vz pk ck (key,u)).length=3:=rfl;have c4:=zqb (x:=(key,u)) (o:=[]) hrk;rw[aU]at c4;refine nZ (rs:=[.tmp 6]) (n:=60) Tryz.func24 rfl rfl Tryz.ntmps24 dA rfl<|ny<|nK<|qi ([VB (u.1:Int),VB (u.2:Int)]) rfl<|λH g6 g7 F e0=>?_
 replace f:=f.acc e0;refine oG<|oG<|nA<|oI<|nJ<|nI<|ny<|nA<|nk<|pE ?_
 refine qY (α:=Nat × Bool × Rw × Value × List Value) (0,false,[],VC,[]) (λs=>[(9,VB (s.1:Nat)),(0, .slice p n c),(1, .slice pk key.length ck),(7,s.2.2.2.1),(8, .bool s.2.1),(5,VA H)])
   (λs w'=>s.1<=n/\(s.2.2.1,s.2.1)=(rs.take s.1).foldl (Br (key,u)) ([],false)/\s.2.2.1.length<=2*s.1/\og w' (H+1) 70 3 s.2.2.2.1 s.2.2.1.length s.2.2.2.2/\uw S w' s.2.2.2.2 s.2.2.1/\row w' H [VB (u.1:Int),VB (u.2:Int)] 30/\VD w w') (λs=>n - s.1)
   VF ⟨aC _,rfl,aC _,xV _ _ _ _,uw.nil,F,f⟩ ?_
 clear F f;rintro⟨i,C,o,U,os⟩ g8 w1 ⟨e1,V,c5,I,M,F,f⟩;dsimp only at e1 V c5 I M;have X:=Below.refl w1.heap.size w1;have c6:=I;have e2:=M;have e3:=F;have e4:=f;obtain⟨r,c7⟩:=aa (rs.getD i ([],(0,0)));have P:∃ D,(if C=false/\pW key r.1 then o++[(key,u)]else o)=D:=⟨_,rfl⟩;obtain⟨D,N⟩:=P;obtain⟨Y,a8⟩:=aa ((C || decide (pW key r.1)));refine nI<|ny<|ng<|ng<|mZ (oV (e:=70) (sz:=3) dA rfl rfl)<|mZ (pI rfl rfl)<|nk<|oZ rfl (λe5=>?_)<|λe5=>?_
 ·
  refine nU<|nJ<|nI<|pE<|wO (λs:Value × List Value=>[(7,s.1),(8, .bool Y),(9,VB (i:Nat)),(0, .slice p n c),(1, .slice pk key.length ck),(5,VA H)]) (λs w'=>og w' (H+1) 70 3 s.1 D.length s.2/\uw S w' s.2 D/\row w' H [VB (u.1:Int),VB (u.2:Int)] 30/\VD w w') ?_ ?_
  ·
   refine wO (λ_:Unit=>[(28, .bool (decide (C=false/\pW key r.1))),(9,VB (i:Nat)),(0, .slice p n c),(1, .slice pk key.length ck),(7,U),(8, .bool C),(5,VA H)]) (λ_ w'=>VD w1 w') ?_ ?_
   ·
    have Z:rs[i]?=some r:=by rw[<-c7,bI,aG dB];rfl
    have P:=hr.ld hs hn Z;obtain⟨e6,op,q,O,rfl,a9,a0,c8,c9⟩:=P;refine qH [] dA ?_;intro g9 d0 h0;replace f:=f.acc d0;replace X:=X.acc d0;have b0:=f;refine nu 0 (nS)<|nu 1 (sj rfl)<|nu 2 (nS)<|zrh 18 rfl (λhp=>?_)<|λhp=>?_
    ·
     refine nu 3 (nS)<|nu 4 (nS)<|nu 5 (qZ (e:=70) (sz:=3) dA rfl rfl i dB dB)<|nu 6 (nG 0)<|nR 7 (λw' h=>oK rfl (Ld.sl1 (off:=op) (j:=i*3) (hs.new (b0.nD h eD)) dA a9))<|nR 8 (λw' h=>Jz (e:=5) (l:=r.1) dA dA dA rfl (a0.new (b0.nD h eD)))<|nu 9 (nS)<|nR 10 (λw' h=>Jz (e:=5) (l:=key) dA dA dA rfl (hk.new (b0.nD h eD)))<|nu 11 (Hw rfl rfl)<|nu 12 (pK rfl)<|pq dA<|oM ⟨(),⟨congrArg Value.bool ?_,rfl,rfl,rfl,rfl,rfl,rfl,rfl⟩,X⟩
     have b1:C=false:=by simpa using hp
     rw[YL,b1]
     by_cases a1:pM r.1 key
     · rw[decide_eq_true a1,decide_eq_false λe=>e.2 a1];rfl
     · rw[decide_eq_false a1,decide_eq_true ⟨rfl,a1⟩];rfl
    ·
     refine oU 3 dA rfl<|oU 4 dA rfl<|oU 5 dA rfl<|oU 6 dA rfl<|oU 7 dA rfl<|oU 8 dA rfl<|oU 9 dA rfl<|oU 10 dA rfl<|oU 11 dA rfl<|nu 12 (oP rfl)<|pq dA<|oM ⟨(),⟨congrArg Value.bool ?_,rfl,rfl,rfl,rfl,rfl,rfl,rfl⟩,X⟩
     have b1:C=true:=by simpa using hp
     rw[b1,decide_eq_false λe=>Bool.noConfusion e.1]
   ·
    rintro _ h1 w2 a2;have J:=Coup.og.new c6 a2;have Q:=e2.new a2;have E:=e3.new a2;have K:=e4.acc a2;have e7:=J;have h2:=E.lt;have h3:=Q;refine xy rfl (λt=>?_)<|λt=>?_
    ·
     refine nI ?_;replace t:=of_decide_eq_true t;refine nO<|ng<|ng<|mZ (oK rfl (Ld.qI (k:=2) E dA dA rfl))<|mZ (AC (.slice pk key.length ck) (.agg #[VB (u.1:Int),VB (u.2:Int)]) (vz pk ck (key,u)) rfl rfl dA)<|nK<|tT (e:=70) (.agg (vz pk ck (key,u)).toArray) (vz pk ck (key,u)) ([VC,VB 0,VB 0]) 3 dA dA rfl rfl iw ⟨iT,iT⟩<|λh4 h5 h6 d1 a3=>?_
     replace E:=E.new a3;replace J:=J.new a3;replace Q:=Q.new a3;replace K:=K.acc a3;have e8:=d1.tY (m:=1) (sz:=3) b9 dB;have h7:=d1.lt;have h8:=E.lt;have e9:=Q;refine nK<|tu (e:=70) (sz:=3) (bytes:=40) (z:=.agg ([VC,VB 0,VB 0]).toArray) dA rfl dA rfl iT rfl J rfl e8 b8 jB dB (λd2=>dB)<|λf0 h9 f1 b2 i0=>?_
     replace E:=E.own J b2 dB;replace K:=K.own J b2 dB;have R:=Kp.rU b2;have T:∀ b,S b->b∉U.ownBlock.toList:=λb hb a=>by
       have d3:=(e7.lt b (ah.1 a)).1;have d4:=hSw b hb;omega
     refine nA<|nk<|nO<|nA<|oI<|oM ⟨(f0,os++vz pk ck (key,u)),⟨rfl,congrArg Value.bool ?_,rfl,rfl,rfl,rfl,rfl⟩,?_,?_,E,K⟩
     · rw[<-a8,decide_eq_true t.2,Bool.or_true]
     · rw[<-N,if_pos t,aA];exact f1
     · rw[<-N,if_pos t]
       exact(e9.nD R T).snoc ⟨pk,ck,rfl,hk.new K,hkS⟩
    ·
     refine nU ?_;replace t:=of_decide_eq_false t;refine oM ⟨(U,os),⟨rfl,congrArg Value.bool ?_,rfl,rfl,rfl,rfl,rfl⟩,?_,?_,E,K⟩
     · rw[<-a8]
       cases C with
       |true=>rfl
       |false=>rw[decide_eq_false λf2=>t ⟨rfl,f2⟩];rfl
     · rw[<-N,if_neg t];exact J
     · rw[<-N,if_neg t];exact Q
  ·
   rintro⟨d5,d6⟩ i1 i2 ⟨A,G,B,y⟩;have Z:rs[i]?=some r:=by rw[<-c7,bI,aG dB];rfl
   have f3:rs.take (i+1)=rs.take i++[r]:=by rw[bf,Z];rfl
   have P:=hr.ld hs hn Z;obtain⟨e6,op,q,O,rfl,a9,a0,c8,c9⟩:=P;have a4:((if r.1≠key then D++[r]else D),Y)=(rs.take (i+1)).foldl (Br (key,u)) ([],false):=by
     rw[f3,fG,<-V,<-N,<-a8];rfl
   have i3:D.length<=2*i+1:=by
     rw[<-N]
     split
     · rw[aA];exact Nat.succ_le_succ c5
     · omega
   dsimp only at A G;have f4:=A;have i4:=G;have i5:=B.lt;refine nI<|qH [] dA ?_
   intro i6 a5 i7;replace B:=B.new a5;replace A:=A.new a5;replace G:=G.new a5;replace y:=y.acc a5;have b3:=y;refine nu 0 (nS)<|nu 1 (nS)<|nu 2 (qZ (e:=70) (sz:=3) dA rfl rfl (i) dB dB)<|nu 3 (nG 0)<|nR 4 (λw' h=>oK rfl (Ld.sl1 (off:=op) (j:=i*3) (hs.new (b3.nD h eD)) dA a9))<|nR 5 (λw' h=>Jz (e:=5) (l:=r.1) dA dA dA rfl (a0.new (b3.nD h eD)))<|nu 6 (nS)<|nR 7 (λw' h=>Jz (e:=5) (l:=key) dA dA dA rfl (hk.new (b3.nD h eD)))<|nu 8 (XW rfl rfl)<|pq dA<|nJ<|SC rfl (λb4=>?_)<|λb4=>?_
   ·
    refine nO<|ng<|ng<|ng<|mZ (qZ (e:=70) (sz:=3) dA rfl rfl i dB dB)<|mZ (oK rfl (c9 _ y))<|nK<|tT (e:=70) (.agg (vz q O r).toArray) (vz q O r) ([VC,VB 0,VB 0]) 3 dA dA rfl rfl iw ⟨iT,iT⟩<|λi8 i9 j0 d7 a6=>?_
    replace B:=B.new a6;replace A:=A.new a6;replace G:=G.new a6;replace y:=y.acc a6;have f5:=d7.tY (m:=1) (sz:=3) rfl dB;have j1:=d7.lt;have j2:=B.lt;have f6:=G;have f7:=Yj q O r;refine nK<|tu (e:=70) (sz:=3) (bytes:=40) (z:=.agg ([VC,VB 0,VB 0]).toArray) dA rfl dA rfl iT rfl A rfl f5 f7 jB dB (λd2=>dB)<|λf8 j3 f9 b5 j4=>?_
    replace B:=B.own A b5 dB;replace y:=y.own A b5 dB;have R:=Kp.rU b5;have T:∀ b,S b->b∉d5.ownBlock.toList:=λb hb a=>by
      have d3:=(f4.lt b (ah.1 a)).1;have d4:=hSw b hb;omega
    refine mX ?_;rw[if_pos b4]at a4;have g0:=(f6.nD R T).snoc ⟨q,O,rfl,a0.new y,c8⟩;refine oM ⟨(i+1,Y,D++[r],f8,d6++vz q O r),by dsimp only;omega,VF,by dsimp only;omega,a4,?_,?_,g0,B,y⟩
    · dsimp only;rw[aA];show _+1<=_;omega
    · dsimp only;rw[aA];exact f9
   ·
    refine mY ?_;rw[if_neg (by simpa using b4)]at a4;refine oM ⟨(i+1,Y,D,d5,d6),by dsimp only;omega,VF,by dsimp only;omega,a4,by dsimp only;omega,A,G,B,y⟩
 ·
  refine qL<|qK<|rq<|qO<|nJ<|nI<|ny<|ng<|mZ (sj rfl)<|nk ?_
  have g1:i=n:=by omega
  rw[g1,hn,dF]at V;have L:=congrArg (λs:Rw × Bool=>if s.2=true then s.1 else s.1++[(key,u)]) V;replace L:=L.trans c4;dsimp only at L;refine Ki rfl (λb6=>?_)<|λb6=>?_
  ·
   refine nO<|ng<|ng<|mZ (oK rfl (Ld.qI (k:=2) F dA dA rfl))<|mZ (AC (.slice pk key.length ck) (.agg #[VB (u.1:Int),VB (u.2:Int)]) (vz pk ck (key,u)) rfl rfl dA)<|nK<|tT (e:=70) (.agg (vz pk ck (key,u)).toArray) (vz pk ck (key,u)) ([VC,VB 0,VB 0]) 3 dA dA rfl rfl iw ⟨iT,iT⟩<|λj5 j6 j7 d8 a7=>?_
   replace F:=F.new a7;replace I:=I.new a7;replace M:=M.new a7;replace f:=f.acc a7;have g2:=d8.tY (m:=1) (sz:=3) b9 dB;have j8:=d8.lt;have j9:=F.lt;have g3:=M;refine nK<|tu (e:=70) (sz:=3) (bytes:=40) (z:=.agg ([VC,VB 0,VB 0]).toArray) dA rfl dA rfl iT rfl I rfl g2 b8 jB dB (λd2=>dB)<|λk0 k7 g4 d9 k8=>?_
   replace f:=f.own I d9 dB;have R:=Kp.rU d9;have T:∀ b,S b->b∉U.ownBlock.toList:=λb hb a=>by
     have d3:=(c6.lt b (ah.1 a)).1;have d4:=hSw b hb;omega
   refine oG<|ng<|nA<|nk<|nY<|ou [_] ⟨rfl,trivial⟩ ?_
   have b7:C=false:=by simpa using b6
   rw[b7,if_neg dX]at L;rw[<-L];exact⟨_,by rw[aA];exact og.mono g4 dB,(g3.nD R T).snoc ⟨pk,ck,rfl,hk.new f,hkS⟩,f⟩
  ·
   refine nU<|nJ<|ny<|ng<|nA<|nk<|nY<|ou [_] ⟨rfl,trivial⟩ ?_
   have b7:C=true:=by simpa using b6
   rw[if_pos b7]at L;rw[<-L];exact⟨_,og.mono I dB,M,f⟩
end
section
variable {S:Nat->Prop}{w:World}{p pk:Option Addr}{n c ck:Nat}{vs:List Value}{rs:Rw}{key:Key}
theorem ztP(hs:nM w p n 3 vs)(hr:uw S w vs rs)(hn:n=rs.length)(hn2:n<=100000)(hk:nM w pk key.length 1 (bv key))(hSw:∀ b,S b->b<w.heap.size):
   Calls Tryz.prog 25 [.slice p n c, .slice pk key.length ck].toArray w
    (qb λv w'=>∃ v1 vs',v= .tuple #[v1, .bool (decide (∃ r∈rs,r.1=key))]/\og w' w.heap.size 70 3 v1 (rY rs key).length vs'/\uw S w' vs' (rY rs key)/\VD w w'):=by
 have f:=Below.refl w.heap.size w;have a5:maxLen=9223372036854775807:=by decide
 have N:decide (((rY rs key).length:Int)<(n:Int))=decide (∃ r∈rs,r.1=key):=decide_eq_decide.2 (by rw[<-zvz,hn];omega);refine nZ (rs:=[.tmp 4, .tmp 5]) (n:=36) Tryz.func25 rfl rfl Tryz.ntmps25 dA rfl<|ny<|nA<|oG<|nA<|nk<|nI<|ny<|nA<|nk<|pE ?_
 refine qY (α:=Nat × Value × List Value) (0,VC,[]) (λs=>[(7,VB (s.1:Nat)),(0, .slice p n c),(1, .slice pk key.length ck),(6,s.2.1)])
   (λs w'=>s.1<=n/\og w' w.heap.size 70 3 s.2.1 (rY (rs.take s.1) key).length s.2.2/\uw S w' s.2.2 (rY (rs.take s.1) key)/\VD w w') (λs=>n - s.1)
   VF ⟨aC _,xV _ _ _ _,uw.nil,f⟩ ?_
 clear f;rintro⟨i,H,os⟩ a6 w1 ⟨O,h,t,f⟩;dsimp only at O h t;have I:=h;have P:(rY (rs.take i) key).length<=i:=ag (gG ..) kJ;obtain⟨o,B⟩:=aa (rY (rs.take i) key);rw[B]at h t P;have I:=h;refine nI<|ny<|ng<|ng<|mZ (oV (e:=70) (sz:=3) dA rfl rfl)<|mZ (pI rfl rfl)<|nk<|oZ rfl (λQ=>?_)<|λQ=>?_
 ·
  refine lN ?_;have C:∃ r,rs[i]?=some r:=⟨_,aG dB⟩;obtain⟨r,J⟩:=C;have C:=hr.ld hs hn J;obtain⟨a7,op,q,y,rfl,R,K,T,U⟩:=C;have u:=zq4 (k:=key) J;rw[B]at u;refine qH [] dA ?_;intro a8 D a9;replace h:=h.new D;replace t:=t.new D;replace f:=f.acc D;have E:=f;refine nu 0 (nS)<|nu 1 (nS)<|nu 2 (qZ (e:=70) (sz:=3) dA rfl rfl i dB dB)<|nu 3 (nG 0)<|nR 4 (λw' A=>oK rfl (Ld.sl1 (off:=op) (j:=i*3) (hs.new (E.nD A eD)) dA R))<|nR 5 (λw' A=>Jz (e:=5) (l:=r.1) dA dA dA rfl (K.new (E.nD A eD)))<|nu 6 (nS)<|nR 7 (λw' A=>Jz (e:=5) (l:=key) dA dA dA rfl (hk.new (E.nD A eD)))<|nu 8 (XW rfl rfl)<|pq dA<|nJ<|SC rfl (λF=>?_)<|λF=>?_
  ·
   refine nO<|ng<|ng<|ng<|mZ (qZ (e:=70) (sz:=3) dA rfl rfl i dB dB)<|mZ (oK rfl (U _ f))<|nK<|tT (e:=70) (.agg (vz q y r).toArray) (vz q y r) ([VC,VB 0,VB 0]) 3 dA dA rfl rfl iw ⟨iT,iT⟩<|λb0 b1 b2 L G=>?_
   replace h:=h.new G;replace t:=t.new G;replace f:=f.acc G;have V:=L.tY (m:=1) (sz:=3) rfl dB;have X:=Yj q y r;have b3:=L.lt;have b4:=f.size;have Y:=t;refine nK<|tu (e:=70) (sz:=3) (bytes:=40) (z:=.agg ([VC,VB 0,VB 0]).toArray) dA rfl dA rfl iT rfl h rfl V X jB dB (λb5=>dB)<|λZ b6 a0 M b7=>?_
   replace f:=f.own h M dB;have a1:=Kp.rU M;have a2:∀ b,S b->b∉H.ownBlock.toList:=λb hb a=>by
    have b8:=(I.lt b (ah.1 a)).1;have b9:=hSw b hb;omega
   refine mX ?_;have a3:=(Y.nD a1 a2).snoc ⟨q,y,rfl,K.new f,T⟩;rw[if_neg (by simpa using F)]at u;refine oM ⟨(i+1,Z,os++vz q y r),by dsimp only;omega,VF,by dsimp only;omega,?_,?_,f⟩
   .dsimp only;rw[u,aA];exact a0
   .dsimp only;rw[u];exact a3
  ·
   refine mY ?_;rw[if_pos (by simpa using F),aR]at u;refine oM ⟨(i+1,H,os),by dsimp only;omega,VF,by dsimp only;omega,by dsimp only;rw[u];exact h,by dsimp only;rw[u];exact t,f⟩
 ·
  have a4:i=n:=by omega
  rw[a4,hn,dF]at B;rw[<-B]at h t;obtain⟨pv,cv,rfl⟩:=h.form;refine qL<|qK<|rq<|qO<|nJ<|ny<|ng<|ng<|mZ (oV (e:=70) (sz:=3) dA rfl rfl)<|ng<|mZ (oV (e:=70) (sz:=3) dA rfl rfl)<|mZ (pI rfl rfl)<|nA<|nA<|nk<|nY<|ou [_,_] ⟨rfl,rfl,trivial⟩ ?_
  exact⟨_,os,congrArg (λb=>Value.tuple #[_, .bool b]) N,h,t,f⟩
end
theorem JQ{r:Key × (Nat × Nat)}{vs:List Value}{q:Option Addr}{qc i:Nat}(h:(vs.drop (i*3)).take 3=vz q qc r):(vs.drop (i*3+1)).take 2=[VB (r.2.1:Int),VB (r.2.2:Int)]:=by
 have a:=congrArg (λl:List Value=>l.drop 1) h;rw[fw,dR]at a;exact a
def AY(zs:List Int):List Value:=zs.map (.int .u8)
theorem KH(l:List UInt8):bv l=AY (l.map λb=>(b.toNat:Int)):=by
 unfold AY;rw[dJ];rfl
theorem He{zs:List Int}{i:Nat}{z:Int}(h:i<zs.length):splice (AY zs) i [.int .u8 z]=AY (zs.set i z):=by
 refine dI λk=>?_
 have f:(AY zs).length=zs.length:=aP _;rw[OG (by rw[f];show i+1<=_;omega)];unfold AY;rw[aV,aV,ek]
 by_cases a:k<i
 .rw[if_pos a,if_neg dB]
 .rw[if_neg a]
  by_cases c:k=i
  .subst c
   rw[if_pos (by show k<k+1;omega),if_pos rfl,if_pos h,bO];rfl
  .rw[if_neg (by show¬k<i+1;omega),if_neg (λe=>c e.symm)]
section
variable {X Y:VE}[hXT:nz X][hYT:nz Y]{lo:Nat}{L:List Nat}{w:World}
theorem KI (rows:Rw) (tv fv bv_:Value) {pw:Option Addr} {nw cw:Nat} {vsw:List Value} (h:Two X Y lo L w)
  (hall:Dg X Y lo L w tv fv bv_ rows)
  (hkeys:∀ r∈rows,r.1.length<=300) (hw:nM w pw nw 3 vsw) (hre:uw (λb=>b<lo\/b∈L) w vsw rows) (hn:nw=rows.length) (hpw:∀ g o,pw=some ⟨g,o,none⟩->g<lo\/g∈L):
  CQ 12 [tv,fv,bv_, .slice pw nw cw,VB 0] w (λv w'=>v= .bool true/\Two X Y lo L w'/\nC lo L w w'):=by
 have B:=nC.refl lo L w;have F:=h;have l7:=h.lo;have l8:=h.lt;refine nZ (rs:=[.cell 10 4]) (n:=72) Tryz.func12 rfl rfl Tryz.ntmps12 dA rfl<|ny<|nK<|qi ([.slice pw nw cw]) rfl<|λM l9 g0 f e1=>?_
 replace F:=F.nL e1 g0 f.lt;replace B:=B.new e1;refine nK<|qi ([VB 0]) rfl<|λN m0 g1 y c7=>?_
 replace F:=F.nL c7 g1 y.lt;replace B:=B.new c7;replace f:=f.new c7;have m1:=B.size;refine nK<|oD ([Value.bool false]) dA<|λO m2 g2 r b0=>?_
 replace F:=F.nL b0 g2 r.lt;replace B:=B.new b0;replace f:=f.new b0;replace y:=y.new b0;refine qx ?_;have m3:=B.size;refine nK<|oD ([VB 0]) dA<|λC m4 b1 A a4=>?_
 have e2:M<C:=ae f.lt b1;have e3:N<C:=ae y.lt b1;have e4:O<C:=ae r.lt b1;replace F:=F.nL a4 b1 A.lt;replace B:=B.new a4;replace f:=f.new a4;replace y:=y.new a4;replace r:=r.new a4;refine nT<|pQ A<|λg3 A a5=>?_
 replace F:=F.only a5 eG;replace B:=B.oq a5;replace f:=f.only a5 (ai e2);replace y:=y.only a5 (ai e3);replace r:=r.only a5 (ai e4);refine qx<|ng<|ng<|ng ?_
 have e5:∀ b∈L,b∈C::O::N::M::L:=λb hb=>by simp[hb]
 refine nP (hall g3 B _ F e5) ?_;rintro _ b2 ⟨ga,u,bl,cs,rfl,c8,g4,c9,g5,e6,a6⟩;replace B:=B.ll a6 e5;replace f:=f.kl a6;replace y:=y.kl a6;replace r:=r.kl a6;replace A:=A.kl a6;refine nA<|nk<|nI<|ny<|ng<|mZ (zu8 dA rfl)<|nk<|ui rfl (rfl)<|nU<|nJ<|nI<|ny<|ng<|nk<|pE ?_
 obtain⟨g6,g7⟩:=aa (ga::(u.ownBlock.toList++bl));have e7:DX Tryz.prog 40 [VA ga] cs.length (Ps cs) (λ_ _ _=>True) (ga::(u.ownBlock.toList++bl)) X lo b2:=OP (X:=X) (lo:=lo) ga bl u cs b2 g5 (Zn c8 hkeys) g4;have m5:cs.length=rows.length:=by rw[<-c8,aP]
 rw[g7]at c9 e6 e7;have b3:=c9.lt;obtain⟨Dm,e8⟩:=aa ((b2).heap.size);obtain⟨L2,b4⟩:=aa (g6++(C::O::N::M::L));have g8:Two X Y lo L2 b2:=by rw[<-b4];exact c9
 have Q:M∈L2/\N∈L2/\O∈L2/\C∈L2:=by rw[<-b4];simp
 have d0:∀ b∈L,b∈L2:=λb hb=>by rw[<-b4];simp[hb]
 have g9:=b3 M ig;have h0:=b3 N ig;have h1:=b3 O ig;have h2:=b3 C ig;have h3:=B.size;rw[e8]at g9 h0 h1 h2 h3;refine XA (τ:=Unit) (m:=cs.length) (V:=Ps cs) (T0:=λ_ _ _=>True) (ps:=[23,24]) (L:=L2) (X:=X) (Y:=Y) (α:=Unit) (λ_=>[]) (Dm+1) [Dm] (λh4 h=>by rw[show h4=none from h,<-e8];exact RX _ _) rfl dA e7 (λ_ i v _ _ _ _ d1=>by obtain⟨_,_,_,_,rfl,_⟩:=d1;rfl) dA ig (λb hb=>by rw[<-b4];exact aF _ hb)
  (λ_ j _ w'=>j<=cs.length/\row w' M [.slice pw nw cw] 40/\row w' N [VB 0] 3/\row w' O [.bool false] 4/\row w' C [VB (j:Int)] 3/\nC lo L w w') (λ_ _=>False)
  ?_ ?_ (λ_ _ _ h=>h.elim) (λ_ _ _ h=>h.elim) (λ_ _ _ _ _ b hb=>by cases hb) () (show Two _ Y lo ([]++L2) _ from g8) ?_ ?_ ?_ (λc W' h=>h.elim)
 .rintro _ j _ W W' ⟨b5,I,G,J,E,d2⟩ H
  exact⟨b5,I.kl H (.inr lm),G.kl H (.inr lm),J.kl H (.inr lm),E.kl H (.inr lm),d2.ll H λb hb=>by simp[d0 b hb]⟩
 .rintro _ j _ W W' ⟨b5,I,G,J,E,d2⟩ S
  exact⟨b5,I.only S dB,G.only S dB,J.only S dB,E.only S dB,d2.only S kM⟩
 .intro _ W' _ H
  exact⟨aC _,f.kl H (.inr lm),y.kl H (.inr lm),r.kl H (.inr lm),A.kl H (.inr lm),B.ll H λb hb=>by simp[d0 b hb]⟩
 .clear f y r A
  rintro _ j v _ W1 Z Fr h5 d1 h6 e9 K ⟨m6,f,y,r,A,R⟩ m7;obtain⟨c,p,d3,h7,rfl,b6,f0⟩:=d1;have D:=Below.refl W1.heap.size W1;have h8:∀ b∈Z,b≠M/\b≠N/\b≠O/\b≠C:=λb hb=>by
    rcases h6 b hb with h|h
    · have a1:=(e6 b h).2
      simp only[ak,not_or]at a1;exact⟨a1.2.2.2.1,a1.2.2.1,a1.2.1,a1.1⟩
    · exact⟨dB,dB,dB,dB⟩
  refine ny<|nA<|nk<|nO<|nK<|oD ([VB 0,VB 0]) dA<|λm8 m9 h9 T i0=>?_
  have i1:=ag D.size h9;replace D:=D.acc i0;refine nT<|oC 2 ([VB (c.2.1:Int),VB (c.2.2.1:Int)]) T<|λn0 T i2=>?_
  replace D:=i2.below D i1;refine oI<|⟨rfl,D,λW2 U _=>?_⟩
  have f1:∀ b∈Fr,Dm+1<b/\b∉Z:=λb hb=>⟨(e9 b hb).1,(e9 b hb).2.1⟩
  have b7:rows[j]?=some (Ar c):=by rw[<-c8,aV,h7];rfl
  have i3:=hkeys _ (aO b7);have n1:=(aL.1 b7).1;have a7:=hre.ld hw hn b7;obtain⟨f2,op,q,n2,i4,i5,i6,i7,n3⟩:=a7;have i8:=JQ (hre.at_ j _ b7).choose_spec.choose_spec.1;have n4:=hre.len;subst i4;have n5:∀ b∈Fr,b<W1.heap.size:=λb hb=>K.lt b jX
  replace f:=(f.new D).only U dB;replace y:=(y.new D).only U dB;replace r:=(r.new D).only U dB;replace A:=(A.new D).only U dB;replace T:=T.only U dB;replace b6:=(Coup.og.new b6 D).nD (Kp.rJ U) (λg a e=>by
    have b5:=(f1 g (by rw[<-f0];exact ah.2 e)).1;have a1:=aJ.1 a;omega)
  replace R:=(R.new D).only U kM;replace K:=(K.new D).only U (.inr ig);have i9:=nC.refl lo ((Dm+1)::Dm::Z) W2;have a0:=Below.refl W2.heap.size W2;have j0:=hw.rQ R hpw;have j1:=i6.rQ R i7;have f3:=j0;have j2:=j1;have j3:=b6.sl;have j4:∀ w',VD W2 w'->Ld Tryz.prog w' 30 ⟨f2,op+(j*3+1),none⟩ (.agg #[VB (c.2.1:Int),VB (c.2.2.1:Int)]):=λw' hb=>by
    have:=Ld.zu (P:=Tryz.prog) (t:=30) (j:=j*3+1) (k:=2) (f3.new hb) dA dA dB;rw[i8]at this;exact this
  refine pE<|nI<|nI<|qH [] dA ?_
  intro n6 a2 n7;replace T:=T.new a2;replace f:=f.new a2;replace y:=y.new a2;replace r:=r.new a2;replace A:=A.new a2;replace a0:=a0.acc a2;have j5:=T;have d4:=f;have d5:=A;have b8:=a0;refine nR 0 (λw' z=>nH (d5.kq z))<|nR 1 (λw' z=>nH (d4.kq z))<|nu 2 (oV (e:=70) (sz:=3) dA rfl rfl)<|nu 3 (tV rfl rfl)<|nu 4 (nS)<|Ap 29 rfl (dB)<|nu 5 (nS)<|nR 6 (λw' z=>Jz (e:=5) (l:=c.1) dA dA dA rfl (j3.new (b8.nD z eD)))<|nR 7 (λw' z=>nH (d4.kq z))<|nR 8 (λw' z=>nH (d5.kq z))<|nu 9 (qZ (e:=70) (sz:=3) dA rfl rfl (j) dB dB)<|nu 10 (nG 0)<|nR 11 (λw' z=>oK rfl (Ld.sl1 (off:=op) (j:=j*3) (f3.new (b8.nD z eD)) dA i5))<|nR 12 (λw' z=>Jz (e:=5) (l:=c.1) dA dA dA rfl (j2.new (b8.nD z eD)))<|nu 13 (XW rfl rfl)<|nu 14 (oP rfl)<|nu 15 (nS)<|TM 40 rfl (ig)<|nR 16 (λw' z=>oK rfl (Ld.qI (k:=2) (j5.kq z) dA dA rfl))<|nR 17 (λw' z=>nH (d4.kq z))<|nR 18 (λw' z=>nH (d5.kq z))<|nu 19 (qZ (e:=70) (sz:=3) dA rfl rfl (j) dB dB)<|nu 20 (nG 1)<|nR 21 (λw' z=>oK rfl (j4 _ (b8.nD z eD))) ?_
  refine nu 22 (VH (k0:=.i64) (k1:=.i64) dA rfl rfl)<|nu 23 (oP rfl)<|pq dA<|nJ<|Ee rfl (ig)<|nU<|nJ<|nI<|ny<|nA<|nk<|pE ?_
  have j6:=K.new a0;have j7:=R.new a0;have j8:=i9.new a0;have f4:=Coup.og.new b6 a0;rw[KH]at f4;have n8:w.heap.size<=C:=by omega
  have n9:c.1.length<=300:=i3;have j9:C∉(Dm+1)::Dm::Z:=λa=>by
    simp only[ak]at a;rcases a with h|h|h
    · omega
    · omega
    · exact(h8 _ h).2.2.2 rfl
  refine qY (α:=Nat × List Int) (0,c.1.map λb=>(b.toNat:Int)) (λs=>[(15,VB (s.1:Nat)),(13, .slice p c.1.length d3),(8,VA M),(9,VA N),(10,VA O),(11,VA C)])
    (λs w'=>s.1<=c.1.length/\og w' 0 5 1 (.slice p c.1.length d3) c.1.length (AY s.2)/\Two X Y lo (Fr++(Z++([]++(Dm+1)::([Dm]++L2)))) w'/\nC lo L w w'/\nC lo ((Dm+1)::Dm::Z) W2 w'/\row w' M [.slice (some ⟨f2,op,none⟩) nw cw] 40/\row w' N [VB 0] 3/\row w' O [.bool false] 4/\row w' C [VB (j:Int)] 3) (λs=>c.1.length - s.1)
    VF ⟨aC _,f4,j6,j7,j8,f,y,r,A⟩ ?_
  clear f y r A T;rintro⟨i,a3⟩ o0 d6 ⟨k7,b9,f5,f6,f7,I,G,J,E⟩;dsimp only at k7 b9;have k8:a3.length=c.1.length:=by have h:=b9.1;unfold AY at h;rw[aP]at h;omega
  have o1:=Below.refl d6.heap.size d6;have o2:(AY a3).length=c.1.length:=by unfold AY;rw[aP,k8]
  refine nI<|ny<|ng<|ng<|mZ (oV (e:=5) (sz:=1) dA rfl rfl)<|mZ (pI rfl rfl)<|nk<|oZ rfl (λk9=>?_)<|λk9=>?_
  ·
   refine nU<|nJ<|nI<|pE ?_
   have a7:=b9.form' dB;obtain⟨c4,ok,ck,l0,_⟩:=a7;cases l0;have f8:c4∈Fr:=by rw[<-f0];exact ah.2 rfl
   have l1:=f1 c4 f8;have a7:∃ a8,a3[i]?=some a8:=⟨_,aG dB⟩;obtain⟨a8,l2⟩:=a7;have l3:(AY a3)[i]?=some (.int .u8 a8):=by unfold AY;rw[aV,l2];rfl
   have c5:qU d6 0 5 1 c4 ok c.1.length d3 (AY a3):=b9;have l4:=c5.sl;refine nO<|ng<|ng<|ng<|ng<|mZ (uX (e:=5) dA rfl rfl (i) dB dB)<|mZ (oK rfl (Ld.sl1 (off:=ok) (j:=i) l4 dA l3))<|mZ (oJ rfl rfl rfl)<|mZ (uX (e:=5) dA rfl rfl (i) dB dB)<|nT<|Jj ([.int .u8 (IntKind.u8.wrap (a8+1))]) (i) c5 rfl rfl dA kI kD<|λo3 c5 a9=>?_
   replace I:=I.only a9 dB;replace G:=G.only a9 dB;replace J:=J.only a9 dB;replace E:=E.only a9 dB;have d7:=a9;refine oI<|pO<|nJ<|nO<|ng<|mZ (oJ rfl rfl (show IntKind.i64.wrap ((i:Int)+1)=((i+1:Nat):Int) by rw[nV dB];omega))<|nA<|oI ?_
   have l5:c4∉(Dm+1)::Dm::Z:=λa=>by
     simp only[ak]at a;rcases a with h|h|h
     · omega
     · omega
     · exact l1.2 h
   refine oM ⟨(i+1,a3.set i (IntKind.u8.wrap (a8+1))),by dsimp only;omega,VF,by dsimp only;omega,?_,f5.only d7 (.inr (aF _ f8)),f6.only d7 kM,f7.only d7 (.inr ⟨dB,l5⟩),I,G,J,E⟩;dsimp only;rw[<-He dB];exact c5
  ·
   refine qL<|qK<|rq<|qO<|nJ<|ny<|mZ (nH E)<|mZ (oJ rfl rfl (show IntKind.i64.wrap ((j:Int)+1)=((j+1:Nat):Int) by rw[nV dB];omega))<|nT<|pQ E<|λo4 E c6=>?_
   replace I:=I.only c6 (ai e2);replace G:=G.only c6 (ai e3);replace J:=J.only c6 (ai e4);have d8:=c6;refine qx<|mZ (nH E)<|mZ (nH G)<|mZ (qB rfl rfl)<|nk<|qg rfl (dB)<|nU<|pO ?_
   exact⟨f7.only d8 (.inr ⟨dB,j9⟩),(),(f5.only d8 (.inr lm)).weak (λb hb=>aB _ hb),h5,I,G,J,E,f6.only d8 kM⟩
 .clear f y r A
  rintro _ _ W K ⟨_,f,y,r,A,R⟩ l6;have d9:AP W Dm:=⟨l6 Dm ig⟩;replace K:Two X Y lo (Dm::L2) W:=K;refine pO<|nJ<|ny<|mZ (nH A)<|mZ (nH f)<|mZ (oV (e:=70) (sz:=3) dA rfl rfl)<|mZ (qB rfl rfl)<|nT<|pQ r<|λf9 r e0=>?_
  replace R:=R.only e0 jo;replace d9:=d9.only e0 dB;replace K:=K.only e0 eG;refine nk<|nY<|OM [_] Dm d9.d ⟨⟨_,rfl,Ld.ru (r.only (EA _) dB) dA rfl⟩,trivial⟩ ?_
  have S:Only Dm f9 (World.putObj f9 Dm (.deferred none)):=EA _;exact⟨congrArg Value.bool (decide_eq_true dB),(K.only S (.inr ig)).weak (λb hb=>by simp[d0 b hb]),R.only S kM⟩
end
theorem HM.PE{N:Nat}{H:HS}{fl rl:List Nat}{R:Nat->Nat->Prop}{P:Nat->Nat->List Nat}{B:Nat->Nat->List UInt8}{Gv:List Nat}(h:HM N H fl rl R P B [] Gv):uD N H+Gv.length+1=N:=by
 have p:=h.hi.ok.f1;have q:=h.hi.ok.fN;have j:(fl++Gv).Nodup:=bU.2 ⟨h.hi.ok.nd,h.gn,λa k b hb e=>by
  have c:=(h.hi.ok.fk a k).2.2;have i:=(h.g3 b).1 hb;rw[e,i]at c;cases c⟩
 have r:fl.length+Gv.length=H.F.fresh - 1:=by
  have hp:=((jg (List.nodup_range' (s:=1) (n:=H.F.fresh - 1)) j).2 λn=>?_).length_eq
  .rw[List.length_range',aA]at hp;omega
  .rw[dw,ay]
   constructor
   .rintro⟨c,i⟩
    have t:=h.k3 n
    by_cases l:(H.S n).kind=3
    .exact .inr<|(h.g3 n).2 l
    have u:(H.S n).kind≠1:=λe=>by
     obtain⟨s,o⟩:=h.Qr (h.hi.c1 n c dB e);have:=(h.ra n s).1 o;cases this
    have y:(H.S n).kind≠2:=λe=>by
     rcases h.hi.c2 n c dB e with f|⟨m,s,f,_⟩
     .cases f
     .have:=(h.ra m s).1 f;cases this
    exact .inl<|h.hi.c0 n c dB dB
   .rintro(g|g)
    .have:=h.hi.ok.fk n g
     omega
    .have:=h.gf n g
     omega
 have:=h.hi.ok.fm;unfold uD;omega
theorem YM:∀ {l:Nat} {t:Tr l} {a b:Key},qJ l t a b->wD l t->oO l t≠[]
 |0,_,_,_,_,h=>h
 |l+1,t,a,b,hs,h=>λe=>by
  obtain⟨x,r,c,_⟩:=hs.1;have g:=YM (hs.2.2.2.2 [] x r c) (h x (by rw[c];simp));have f:(t.ks.flatMap λx=>oO l x.2)=[]:=e;rw[c,bP]at f;exact g (jI.1 f).1
namespace TS
variable {N:Nat}{H:HS}{fl rl:List Nat}{R:Nat->Nat->Prop}{P:Nat->Nat->List Nat}{B:Nat->Nat->List UInt8}{A:List (Nat × Nat)}{l:Nat}{t:Tr l}
theorem Cu(h:TS N H fl rl R P B [] l t):uD N H+(om l t).length+1=N:=by
 obtain⟨Gv,a,c⟩:=h.hm;rw[<-c.length_eq];exact a.PE
theorem flat(h:TS N H fl rl R P B A l t)(hr:oO l t=[]):l=0:=by
 cases l with
 |zero=>rfl
 |succ l=>exact absurd hr (YM h.tr.snd_ h.tr.rt.2)
theorem zx{q tb hb lo:Nat}{L:List Nat}{w:World}(h:TS N H fl rl R P B A l t)(hr:row w tb [VA q,VA hb] 50)(htb:tb<lo\/tb∈L)(hrh:row w hb [VA q] 201)(hhb:hb<lo\/hb∈L):TR q tb hb N lo L H fl l t w:=
 ⟨h.ok,hr,htb,hrh,hhb,h.ti,h.tr.snd_,h.rt⟩
end TS
theorem XP{x:MN}{c:Key × V3}(h:uM x.lv (qo x.cs c)=true):wo [x] c []=0:=by
 unfold wo zL;rw[show[x].reverse=[x]from rfl,yo,if_pos h,qV,if_pos h];rfl
theorem Xf {H H':HS} {fl':List Nat} {R:Nat->Nat->Prop} {P:Nat->Nat->List Nat} {B:Nat->Nat->List UInt8} {t:Tr 0} {l':Nat} {t':Tr l'} {key:Key} {u:Nat × Nat} (hr:uD 5 H=3) (hf:uM 0 (qo (toM 0 t.ks) (key,(u.1,u.2,0)))=true) {rl:List Nat}
  (hS:TS 5 H' fl' rl R P B [] l' t') (hp:Ri 5 H 0 t key u H' l' t'):uD 5 H'=3/\l'=0:=by
 have a:=hp.room;have c:wo (uj 0 t key) (key,(u.1,u.2,0)) []=0:=XP (x:=nX 0 t) hf;rw[c,dx,hr]at a;have e:=hS.Cu;have f:=RQ hS.tr.snd_;exact⟨a,dB⟩
section
variable {Y:VE}{q tb hb lo:Nat}{L:List Nat}{V:Nat->Pg}{k:Nat}{H:HS}{fl rl:List Nat}{R:Nat->Nat->Prop}{P:Nat->Nat->List Nat}{B:Nat->Nat->List UInt8}{t:Tr 0}{w:World}
theorem KZ [nz Y] {rows:Rw} (key:Key) (u:Nat × Nat) (h:Two (GZ q 5 (nQ H) V k) Y lo L w) (hS:TS 5 H fl rl R P B [] 0 t) (hrm:uD 5 H=3) (hks:oO 0 t=rows) (hr:row w tb [VA q,VA hb] 50) (htb:tb<lo\/tb∈L) (hrh:row w hb [VA q] 201) (hhb:hb<lo\/hb∈L)
  {pk:Option Addr} {ck n:Nat} (hn:n=key.length) (hkey:nM w pk n 1 (bv key)) (hkL:∀ g o,pk=some ⟨g,o,none⟩->g<lo\/g∈L) (hkk:qR key) (hu1:u.1<2147483648) (hu2:u.2<65536) (hf:uM 0 (qo (rows.map λx=>(x.1,(x.2.1,x.2.2,0))) (key,(u.1,u.2,0)))=true):
  CQ 16 [VA tb, .slice pk n ck, .agg #[VB (u.1:Int),VB (u.2:Int)]] w (λv w'=>(v=VB 0/\∃ (H':HS) (fl':List Nat) (t':Tr 0),TS 5 H' fl' rl R P B [] 0 t'/\uD 5 H'=3/\oO 0 t'=uY rows (key,u)/\Two (GZ q 5 (nQ H') V k) Y lo L w')/\nC lo L w w'):=by
 subst hn;have i:TR q tb hb 5 lo L H fl 0 t w:=hS.zx hr htb hrh hhb;refine(OV h i hS (u.1:Int) (u.2:Int) hkey λ_=>hkL).to λv w' ⟨j,k⟩=>⟨?_,k⟩
 rcases j with⟨a,H',fl',l',t',e,_,r,s,_,_,f,hp,l⟩|⟨e,_,g|⟨_,_,_,g⟩,_⟩
 .obtain rfl:a=u:=Prod.ext dB dB
  have m:uM 0 (qo (toM 0 t.ks) (key,(a.1,a.2,0)))=true:=by
   have o:toM 0 t.ks=rows.map λx=>(x.1,(x.2.1,x.2.2,0)):=by rw[<-hks];rfl
   rw[o];exact hf
  obtain⟨p,rfl⟩:=Xf hrm m f hp;exact⟨e,H',fl',t',f,p,by rw[hp.row,hks],l⟩
 .exfalso
  rcases g.2 with c|c
  .exact c hkk
  .unfold Io at c;omega
 .omega
end
section
variable {Y:VE}{q tb hb N lo:Nat}{L:List Nat}{V:Nat->Pg}{k:Nat}{H:HS}{fl:List Nat}{l:Nat}{t:Tr l}{w:World}
theorem Jr [nz Y] {fr be:Key} {pf pb pw:Option Addr} {cf cb cw nf nb nw:Nat} {vsw:List Value} (rows:Rw) (h:Two (GZ q N (nQ H) V k) Y lo L w) (hR:TR q tb hb N lo L H fl l t w) (hnd:(om l t).Nodup) (hnf:nf=fr.length) (hnb:nb=be.length)
  (hbe:nM w pb nb 1 (bv be)) (hbL:∀ g o,pb=some ⟨g,o,none⟩->g<lo\/g∈L) (hfr:nM w pf nf 1 (bv fr)) (hfL:∀ g o,pf=some ⟨g,o,none⟩->g<lo\/g∈L) (hrows:xx (oO l t) fr be=rows)
  (hw:nM w pw nw 3 vsw) (hre:uw (λb=>b<lo\/b∈L) w vsw rows) (hn:nw=rows.length) (hpw:∀ g o,pw=some ⟨g,o,none⟩->g<lo\/g∈L):
  CQ 12 [VA tb, .slice pf nf cf, .slice pb nb cb, .slice pw nw cw,VB 0] w (λv w'=>v= .bool true/\Two (GZ q N (nQ H) V k) Y lo L w'/\nC lo L w w'):=by
 subst hnf;subst hnb;refine KI rows _ _ _ h ?_ (λr hr=>?_) hw hre hn hpw
 .rw[<-hrows]
  exact CV hR hnd hbe hbL hfr hfL
 .rw[<-hrows]at hr
  exact ag (hR.sd.rows r (dU.1 hr).1).1.2 dB
theorem Qe [nz Y]{rl:List Nat}{R:Nat->Nat->Prop}{P:Nat->Nat->List Nat}{B:Nat->Nat->List UInt8}{A:List (Nat × Nat)}{t:Tr 0}{rows:Rw}{key:Key}{pk:Option Addr}{ck n:Nat}(h:Two (GZ q N (nQ H) V k) Y lo L w)(hR:TR q tb hb N lo L H fl 0 t w)(hS:TS N H fl rl R P B A 0 t)(hks:oO 0 t=rows)(hn:n=key.length)(hkey:nM w pk n 1 (bv key))(hkL:∀ g o,pk=some ⟨g,o,none⟩->g<lo\/g∈L)(hkk:qR key)(hm:∃ u,(key,u)∈rows):
  CQ 13 [VA tb, .slice pk n ck] w (λv w'=>(v=VB 0/\∃ (H':HS) (fl':List Nat) (t':Tr 0),TS N H' fl' rl R P B A 0 t'/\oO 0 t'=rY rows key/\Two (GZ q N (nQ H') V k) Y lo L w')/\nC lo L w w'):=by
 subst hn;refine(Js h hR hS hkey λ_=>hkL).to λv w' ⟨c,f⟩=>⟨?_,f⟩
 rcases c with⟨u,H',fl',l',t',e,_,_,g,hp,i⟩|⟨e,_,a|⟨_,_,a⟩,_⟩
 .obtain rfl:l'=0:=Nat.le_zero.1 hp.le
  exact⟨e,H',fl',t',g,by rw[hp.row,hks],i⟩
 .exact absurd hkk a.2
 .obtain⟨u,j⟩:=hm
  exact absurd (hks▸j)<|a u
theorem OO [nz Y]{rows:Rw}{key:Key}{pk:Option Addr}{ck n:Nat}(h:Two (GZ q N (nQ H) V k) Y lo L w)(hR:TR q tb hb N lo L H fl l t w)(hks:oO l t=rows)(hn:n=key.length)(hkey:nM w pk n 1 (bv key))(hkL:∀ g o,pk=some ⟨g,o,none⟩->g<lo\/g∈L)(hkk:qR key)(hm:∀ r∈rows,r.1≠key):
  CQ 14 [VA tb, .slice pk n ck] w (λv w'=>v= .tuple #[.agg #[VB 0,VB 0],VB 6]/\Two (GZ q N (nQ H) V k) Y lo L w'/\nC lo L w w'):=by
 subst hn;refine(OQ h hR hkey hkL hkk).to λv w' ⟨⟨e,u,c,f⟩,g,i⟩=>⟨?_,g,i⟩
 rcases f with⟨_,a⟩|⟨rfl,rfl,_⟩
 .rw[hks]at a
  exact absurd rfl<|hm _ a
 .exact c
end
end Go.Proofs.YtpaniebomegnbaaGreat
