import Derived.Test.YtpaniebomegnbaaGreatM10
set_option maxHeartbeats 8000000
set_option maxRecDepth 20000
namespace Go.Proofs.YtpaniebomegnbaaGreat
open Go Go.RowKit Coup
theorem zb.mono{Yv:List tT->World->List Nat->Prop}{q N lo:Nat}{H:HS}{V:Nat->Pg}{k:Nat}{dec:tT->Bool}{Q:tT->Prop}{kf:Nat}{caps:List Value}{L L0:List Nat}{w w0:World}(h:zb Yv q N lo H V k dec Q kf caps L w)(hL:∀ b∈L,b∈L0)(hW:mX lo L w w0):zb Yv q N lo H V k dec Q kf caps L0 w0:=
 λvs v bl M L' xs a c1 c c2 W e f g=>h vs v bl M L' xs a c1 c c2 W e (λb hb=>f b (hL b hb)) (hW.ll g hL)
section
variable {Yv:List tT->World->List Nat->Prop}[hYT:∀ vs,mW (Yv vs)]{q tb hb N lo:Nat}{H:HS}{fl L:List Nat}{V:Nat->Pg}{k:Nat}{dec:tT->Bool}{Q:tT->Prop}{kf:Nat}{caps:List Value}{l:Nat}{t:Tr l}{w:World}
theorem zsQ {gs gm gd gn gt:Nat} {L0:List Nat} {w0:World} (hdo:zb Yv q N lo H V k dec Q kf caps L0 w0) (hcan:vv Tryz.prog kf=true) (hgm:lo<=gm)
  (hrs0:row w0 gs [.map (some gm)] 169) (hgs:gs∈L0) (hrd0:row w0 gd [.func (.func kf) #[] caps.toArray] 91) (hgd:gd∈L0)
  (hrn0:row w0 gn [.func (.func 103) #[] [.pointer (some ⟨gs,0,none⟩), .pointer (some ⟨gd,0,none⟩), .pointer (some ⟨gn,0,none⟩), .pointer (some ⟨gt,0,none⟩)].toArray] 170) (hgn:gn∈L0)
  (hrt0:row w0 gt [.pointer (some ⟨tb,0,none⟩)] 37) (hgt:gt∈L0) (hrb0:row w0 tb [.pointer (some ⟨q,0,none⟩), .pointer (some ⟨hb,0,none⟩)] 50) (htb:tb<lo\/tb∈L0):∀ l,Wv Yv q N lo H V k dec Q L0 w0 gs gm gd gn gt l
 |0=>Xq (λa e=>eu) hdo hcan hgm hrs0 hgs hrd0 hgd hrn0 hgn hrt0 hgt hrb0 htb
 |l+1=>Xq (λa e=>by cases e;exact zsQ hdo hcan hgm hrs0 hgs hrd0 hgd hrn0 hgn hrt0 hgt hrb0 htb l) hdo hcan hgm hrs0 hgs hrd0 hgd hrn0 hgn hrt0 hgt hrb0 htb
theorem Mt(h:Two (GZ q N (nG H) V k) (Yv []) lo L w)(hR:TR q tb hb N lo L H fl l t w)(hnd:(og l t).Nodup)(hQ:∀ v∈uS dec l t [] [],Q v)(hdo:zb Yv q N lo H V k dec Q kf caps L w)(hcan:vv Tryz.prog kf=true):
  CQ 37 [.pointer (some ⟨tb,0,none⟩), .func (.func kf) #[] caps.toArray] w (λr w'=>r= .tuple #[]/\Two (GZ q N (nG H) V k) (Yv (uS dec l t [] [])) lo L w'/\mX lo L w w'):=by
 have a:=mX.refl lo L w;have P:=h;have g5:=h.lo;have c4:=h.lt;have c5:([]:List tT).length+(uS dec l t [] []).length<=2048:=by
  have F:=TJ dec l t [] [];have G:=JU N 0 (og l t) hnd λn c6=>by
   have c7:=hR.ti.rg n c6;have Q:=hR.ti.fN;omega
  have g6:=hR.ti.n2;simp only[aX];omega
 have c8:vv Tryz.prog 103=true:=by kernel_rfl
 refine nP (fn:=Tryz.f37) (rs:=[]) (n:=17) Tryz.func37 rfl rfl Tryz.ntmps37 dA rfl<|mR<|nz<|oV ([_]) rfl<|λj w2 c9 m a4=>?_
 replace P:=P.nA a4 c9 m.lt;replace a:=a.new a4;refine nz<|oV ([_]) rfl<|λp g7 d0 u X=>?_
 replace P:=P.nA X d0 u.lt;replace a:=a.new X;replace m:=m.new X;refine pV ?_;have a5:=P;refine nz<|Og (k:=3) (N)<|λs d1 d2 b2 Y=>?_
 replace a:=a.new Y;replace m:=m.new Y;replace u:=u.new Y;have y:=a5.nA Y d2 b2.lt;have r:MapAt Tryz.prog 3 d1 s N (yO []):=by
  have e:yO []=λ_=>none:=by funext i;exact if_neg (bu)
  rw[e];exact b2
 refine nz<|nU ([Value.map none]) dA<|λc g8 Z z R=>?_
 have d3:j<c:=ae m.lt Z;have d4:p<c:=ae u.lt Z;have d5:s<c:=ae r.lt Z;replace a:=a.new R;replace m:=m.new R;replace u:=u.new R;replace y:=y.nA R Z z.lt;replace r:=r.new R;refine nH<|oW z<|λg9 z S=>?_
 replace a:=a.oq S;replace m:=m.only S (ai d3);replace u:=u.only S (ai d4);replace y:=y.only S eG;replace r:=r.only S (ai d5);refine pV<|nz<|nU ([Value.nilFunc]) dA<|λf h0 T C I=>?_
 have d6:j<f:=ae m.lt T;have d7:p<f:=ae u.lt T;have d8:s<f:=ae r.lt T;have d9:c<f:=ae z.lt T;replace a:=a.new I;replace m:=m.new I;replace u:=u.new I;replace y:=y.nA I T C.lt;replace r:=r.new I;replace z:=z.new I;refine pV<|mO (sV)<|nH<|oW C<|λJ C K=>?_
 replace a:=a.oq K;replace m:=m.only K (ai d6);replace u:=u.only K (ai d7);replace y:=y.only K eG;replace r:=r.only K (ai d8);replace z:=z.only K (ai d9);refine mQ ?_;have e0:row J c [.map (some s)] 169:=z;have e1:row J p [.func (.func kf) #[] caps.toArray] 91:=u;have e2:row J j [.pointer (some ⟨tb,0,none⟩)] 37:=m;have e3:row J f [.func (.func 103) #[] [.pointer (some ⟨c,0,none⟩), .pointer (some ⟨p,0,none⟩), .pointer (some ⟨f,0,none⟩), .pointer (some ⟨j,0,none⟩)].toArray] 170:=C;have a0:=hR.ll a;have A:=a0.r;have a1:=a0.rh;have e4:=uR (uR y (g:=hb) (hR.hb.imp id λh=>by simp[h]) a1.lt) (g:=tb) (hR.tb.imp id λh=>by simp[h]) A.lt;have M:Two (GZ q N (nG H) V k) (Yv []) lo (s::tb::hb::f::c::p::j::L) J:=e4.weak λb hb=>by
  simp only[ak]at hb |-;rcases hb with h|h|h|h|h|h|h|h<;>simp[h]
 have h1:=a4.size;have h2:=X.size;have U:∀ b∈L,b∈tb::hb::f::c::p::j::L:=λb hb=>by simp[hb]
 have e5:=zsQ (hdo.mono U a) hcan eu e0 ig e1 ig e3 ig e2 ig A (.inr (aK ..)) l;have e6:s∉tb::hb::f::c::p::j::L:=λO=>by
  simp only[ak]at O;have F:=hR.r.lt;have G:=hR.rh.lt;have c7:=a5.lt p ig;have Q:=a5.lt j ig;rcases O with h|h|h|h|h|h|h
  .omega
  .omega
  .omega
  .omega
  .omega
  .omega
  .have:=c4 s h
   omega
 have e7:=fun(w':World) (F:Two (GZ q N (nG H) V k) (Yv []) lo (s::tb::hb::f::c::p::j::L) w') (G:row w' hb [.pointer (some ⟨q,0,none⟩)] 201) (Q:MapAt Tryz.prog 3 w' s N (yO []))=>(IJ hb F a0.ok G (.inr ig)).to λv w2 ⟨a6,a7,a2⟩=>(show v=Value.int .i64 (t.n:Int)/\Two (GZ q N (nG H) V k) (Yv []) lo (s::tb::hb::f::c::p::j::L) w2/\MapAt Tryz.prog 3 w2 s N (yO [])/\mX lo (tb::hb::f::c::p::j::L) w' w2 from⟨by rw[a6,a0.rt],a7,Q.nu a2.kp (pG (.inr (aK ..))),a2.weak (ax _) λb hb=>aj _ hb⟩)
 have e8:=fun(w':World) (F:Two (GZ q N (nG H) V k) (Yv []) lo (s::tb::hb::f::c::p::j::L) w') (G:row w' tb [.pointer (some ⟨q,0,none⟩), .pointer (some ⟨hb,0,none⟩)] 50) (Q:MapAt Tryz.prog 3 w' s N (yO []))=>(PM tb hb F G hR.ti.page.1 (x:=nO l t) rfl hR.ti.page.2 (hR.ti.yZ hR.sd)).to λv w2 ⟨xs,bl,a6,a7,a2,e9,b3⟩=>(show ∃ (xs:List Value) (bl:List Nat),v=Value.agg xs.toArray/\qj w2 bl xs (nO l t)/\(∀ b∈bl,w'.heap.size<=b)/\Two (GZ q N (nG H) V k) (Yv []) lo (bl++s::tb::hb::f::c::p::j::L) w2/\MapAt Tryz.prog 3 w2 s N (yO [])/\mX lo (tb::hb::f::c::p::j::L) w' w2 from⟨xs,bl,a6,a7,a2,e9,Q.nu b3.kp (pG (.inr (aK ..))),b3.weak (ax _) λb hb=>aj _ hb⟩)
 have D:=mX.refl lo (tb::hb::f::c::p::j::L) J;refine vK (lo) ((tb::hb::f::c::p::j::L)) dA ?_;intro f0 B a8 f1;replace a:=a.new B;replace m:=m.new B;replace r:=r.new B;replace C:=C.new B;replace M:=M.new B;replace A:=A.new B;replace a1:=a1.new B;replace D:=D.new B;have b4:=m;have f2:=C;have f3:=A;refine nI 0 (λw' E=>mZ (f2.kL E))<|nI 1 (λw' E=>mZ (b4.kL E))<|nI 2 (λw' E=>mZ (b4.kL E))<|mU 3 (nW rfl)<|mU 4 (nk 1)<|nI 5 (λw' E=>mZ (f3.kL E))<|nS 6 dA<|qf rfl rfl (nX dA rfl) (e7 f0 M a1 r) ?_
 rintro _ b5 ⟨rfl,M,r,a3⟩;replace a:=a.ll a3 U;replace D:=D.ll a3 (λb hb=>hb);have b6:=f1.uK a8 a3.wk;refine⟨b6,?_⟩;replace A:=A.nu a3.kp dB;refine nS 7 dA ?_;obtain⟨W8,f4⟩:=aa (b5);have f5:=r.lt;have b7:=M.lt;refine qf rfl rfl (nX dA rfl) (e8 b5 M A r) ?_;rintro _ f6 ⟨f7,a9,rfl,f8,b0,f9,r,b1⟩;replace a:=a.ll b1 U;replace D:=D.ll b1 (λb hb=>hb);have b8:=b6.uK a8 b1.wk;refine⟨b8,?_⟩;refine nS 8 dA ?_;rw[f4]at b0 f5 b7;have g0:∀ b∈a9,lo<=b/\b∉tb::hb::f::c::p::j::L:=λb hb=>by
  have F:=b0 b hb;refine⟨eu,λO=>?_⟩;have G:=b7 b (aj _ O);omega
 have g1:s∉a9++tb::hb::f::c::p::j::L:=λO=>by
  rcases ay.1 O with h|h
  .have:=b0 s h
   omega
  .exact e6 h
 have g2:=e5 t [] [] [] [] (tb::hb::f::c::p::j::L) a9 f7 none 0 none 0 f6 c5 (λb hb=>hb) D hR.ti hR.sd (λn _=>bu) hnd hQ f8 (nC.nil _ _ _) (λg o e=>nomatch e) (nC.nil _ _ _) (λg o e=>nomatch e) f9 r g1 g0;refine qf rfl rfl (uA c8 rfl rfl) (g2) ?_;rintro _ h3 ⟨rfl,S2,g3,r,_,b9⟩;replace a:=a.ll b9 U;have g4:=b8.uK a8 b9.wk;refine⟨g4,?_⟩;refine oL dA<|zI [] trivial ?_
 exact⟨rfl,g3.weak λb hb=>aj _ (U b hb),a⟩
end
structure Ib(ga:Nat)(bl:List Nat)(u:Value)(cs:List (Key × V3))(w:World):Prop where
 r:row w ga [u] 83
 v:∃ vs,nY w 0 90 4 u cs.length vs/\qQ w bl vs cs
instance(ga:Nat)(bl:List Nat)(u:Value)(cs:List (Key × V3)):Kept (ga::(u.ownBlock.toList++bl)) (Ib ga bl u cs):=
 ⟨fun {w w' M} ⟨c,vs,f,h⟩ k a=>⟨c.nu k (a _ ig),vs,f.nu k λg i e=>a g kw i,h.nu k λb hb=>a b jP⟩⟩
def Bd(Y:World->List Nat->Prop)(ga n:Nat)(cs:List (Key × V3)):World->List Nat->Prop:=λw C=>∃ u bl,(∀ b∈u.ownBlock.toList,b≠ga/\b∉bl)/\ga∉bl/\cs.length<=n/\Gg Y (ga::(u.ownBlock.toList++bl)) (Ib ga bl u cs) w C
instance(Y:World->List Nat->Prop)[mW Y](ga n:Nat)(cs:List (Key × V3)):mW (Bd Y ga n cs):=
 ⟨fun⟨u,bl,a,c,e,f⟩ k g=>⟨u,bl,a,c,e,mW.nu f k g⟩,fun⟨_,_,_,_,_,h⟩ b hb=>mW.lt h b hb⟩
section
variable {X Y:World->List Nat->Prop}{lo ga n:Nat}{L:List Nat}{cs:List (Key × V3)}{w:World}
theorem L_(h:Two X (Bd Y ga n cs) lo L w):∃ u bl,Two X Y lo ((ga::(u.ownBlock.toList++bl))++L) w/\Ib ga bl u cs w/\(∀ b∈ga::(u.ownBlock.toList++bl),lo<=b/\b∉L)/\(∀ b∈u.ownBlock.toList,b≠ga/\b∉bl)/\ga∉bl/\cs.length<=n:=by
 obtain⟨⟨B,C,e,⟨u,bl,f,g,i,j⟩,k,l⟩,m,o⟩:=h;obtain⟨a,b,c⟩:=zur (Y:=Y) (F:=Ib ga bl u cs) (X:=X) (bl:=ga::(u.ownBlock.toList++bl)) (lo:=lo) (L:=L) (w:=w) ⟨⟨B,C,e,j,k,l⟩,m,o⟩;exact⟨u,bl,a,b,c,f,g,i⟩
theorem VO{u:Value}{bl:List Nat}(h:Two X Y lo ((ga::(u.ownBlock.toList++bl))++L) w)(hF:Ib ga bl u cs w)(hl:∀ b∈ga::(u.ownBlock.toList++bl),lo<=b/\b∉L)(h1:∀ b∈u.ownBlock.toList,b≠ga/\b∉bl)(h2:ga∉bl)(h3:cs.length<=n):Two X (Bd Y ga n cs) lo L w:=by
 obtain⟨⟨B,C,a,b,c,d⟩,e,f⟩:=Hu h hF hl;exact⟨⟨B,C,a,⟨u,bl,h1,h2,h3,b⟩,c,d⟩,e,f⟩
end
def allA(fr be:Key)(vs:List tT):List (Key × V3):=vs.flatMap (Ah fr be)
theorem Ym(fr be:Key)(vs:List tT)(v:tT):allA fr be (vs++[v])=allA fr be vs++Ah fr be v:=by
 unfold allA;rw[bO];exact congrArg _<|aU _
def yQ(fr be:Key)(v:tT)(i:Nat):List (Key × V3):=if v.1.lv=0 then wR (v.1.cs.take i) fr be else[]
def IE(fr be:Key)(v:tT)(c:Key × V3):Bool:=decide (v.1.lv=0) && (decide (qa fr c.1) && decide (rO c.1 be))
theorem zsS{fr be:Key}{v:tT}{i:Nat}{c:Key × V3}(h:v.1.cs[i]?=some c):yQ fr be v (i+1)=yQ fr be v i++if IE fr be v c=true then[c]else[]:=by
 unfold yQ IE
 by_cases a:v.1.lv=0
 .rw[if_pos a,if_pos a,decide_eq_true a,fI]
  unfold wR;rw[bf,h,fD]
  congr 1
  show List.filter _ [c]=_;rw[iG]
  rfl
 .rw[if_neg a,if_neg a,decide_eq_false a,fC];rfl
theorem IZ{fr be:Key}{x:MN}{a b:Key}{c:Key × V3}(h1:x.lv=0)(h2:qa fr c.1):IE fr be (x,a,b) c=decide (rO c.1 be):=by
 unfold IE;rw[decide_eq_true (show(x,a,b).1.lv=0 from h1),decide_eq_true h2];rfl
theorem IA{fr be:Key}{x:MN}{a b:Key}{c:Key × V3}(h:x.lv≠0\/¬qa fr c.1):IE fr be (x,a,b) c=false:=by
 unfold IE;rcases h with h|h
 .rw[decide_eq_false (show¬(x,a,b).1.lv=0 from h)];rfl
 .rw[decide_eq_false h,fC,ed]
theorem zsU{α:Type}(ks:List (Key × α))(lo hi:Key):(wR ks lo hi).length<=ks.length:=jA ..
theorem Sg(fr be:Key)(v:tT)(i:Nat):(yQ fr be v i).length<=i:=by
 unfold yQ
 split
 .exact ag (zsU ..) kE
 .simp
theorem Yx{fr be:Key}{v:tT}(hd:xE fr be v=true):yQ fr be v v.1.cs.length=Ah fr be v:=by
 unfold yQ Ah;rw[dQ]
 by_cases a:v.1.lv=0
 .rw[if_pos a,if_pos ⟨hd,a⟩]
 .rw[if_neg a,if_neg λc=>a c.2]
theorem Pk{a b:Key}:qa a b↔0<=tY b a:=by unfold qa pR;omega
theorem zuC{a b:Key}:qa a b↔tY a b<=0:=by
 unfold qa pR;rw[Ui a b];omega
section
variable {Y:World->List Nat->Prop}[hYT:mW Y]{q N lo:Nat}{H:HS}{V:Nat->Pg}{k:Nat}{L:List Nat}{w:World}
theorem JA{fr be:Key}{x:MN}{a b:Key}(h1:be≠[])(h2:0<=tY a be):xE fr be (x,a,b)=false:=by
 unfold xE;rw[decide_eq_true (show be≠[]/\qa be a from⟨h1,Pk.2 h2⟩)];rfl
theorem Ru{fr be:Key}{x:MN}{a b:Key}(h:¬(be≠[]/\0<=tY a be)):xE fr be (x,a,b)=!decide (b≠[]/\tY b fr<=0):=by
 unfold xE;rw[decide_eq_false (show¬(be≠[]/\qa be a)from λc=>h ⟨c.1,Pk.1 c.2⟩),iy]
 congr 1
 exact decide_eq_decide.2<|and_congr_right λ_=>zuC
theorem Vv{k:Key}(h:0<(k.length:Int)):k≠[]:=λe=>by rw[e]at h;exact absurd h iT
theorem BJ{k:Key}(h:¬0<(k.length:Int)):k=[]:=bH eu
theorem Pw {gb gf ga:Nat} {be fr:Key} {pb pf:Option Addr} {cb cf:Nat} (hrb:row w gb [.slice pb be.length cb] 23) (hgb:gb∈L) (hrf:row w gf [.slice pf fr.length cf] 23) (hgf:gf∈L)
   (hbe:nC w pb be.length 1 (bv be)) (hbL:∀ g o,pb=some ⟨g,o,none⟩->g<lo\/g∈L) (hfr:nC w pf fr.length 1 (bv fr)) (hfL:∀ g o,pf=some ⟨g,o,none⟩->g<lo\/g∈L):
   zb (λvs=>Bd Y ga (123*vs.length) (allA fr be vs)) q N lo H V k (xE fr be) (λv=>v.1.cs.length<=123) 38 [.pointer (some ⟨gb,0,none⟩), .pointer (some ⟨gf,0,none⟩), .pointer (some ⟨ga,0,none⟩)] L w:=by
 rintro vs ⟨x,a,b⟩ bl M L' xs h8 c1 h9 c2 W n2 i0 X i1 e7 e8 e9 i2 f0 n3 d0 n4 f;dsimp only at i1 e7 e9 f0 d0 |-;obtain⟨u,D,f1,⟨d1,f2,f3,f4⟩,a3,f5,d2,n5⟩:=L_ f;obtain⟨p,Q,n6,rfl,i3,i4,i5,n7⟩:=e7;have n8:=vO x p Q;have n9:=wM x p Q;have o0:=mX.refl lo (M++L') W;have E:=hrb.kl X (.inr hgb);have F:=hrf.kl X (.inr hgf);have f6:=hbe.sS X hbL;have d3:=hfr.sS X hfL;have l:=Below.refl W.heap.size W;have o1:=f.lo;have o2:maxLen=9223372036854775807:=by decide
 have b1:∀ b∈L,b∈M++L':=λb hb=>aB _ (i0 b hb)
 refine nP (fn:=Tryz.f38) (rs:=[.tmp 9]) (n:=66) Tryz.func38 rfl rfl Tryz.ntmps38 dA rfl<|mR<|nz<|oV (oz x p Q) rfl<|λB f7 d4 w d5=>?_
 replace E:=E.new d5;replace F:=F.new d5;replace l:=l.acc d5;refine mV<|mQ<|ng<|xO (λ_:Unit=>[(31, .bool (!xE fr be (x,a,b))),(6, .pointer (some ⟨B,0,none⟩)),(1, .slice h8 a.length c1),(2, .slice h9 b.length c2),(3, .pointer (some ⟨gb,0,none⟩)),(4, .pointer (some ⟨gf,0,none⟩)),(5, .pointer (some ⟨ga,0,none⟩))]) (λ_ w'=>row w' B (oz x p Q) 87/\Below W.heap.size W w') ?_ ?_
 ·
  refine nM<|mO (ou rfl (Ld.qN E dA rfl))<|mO (oQ (e:=5) (sz:=1) dA rfl rfl)<|mO (rq rfl rfl)<|mP<|ui 15 rfl (λd6=>?_)<|λd6=>?_
  ·
   refine mY<|mP<|mY<|mO (ou rfl (Ld.qN E dA rfl))<|mY<|nD (JY f7 (f0.new l) (f6.new l)) ?_
   rintro _ i6 ⟨rfl,b2⟩;replace E:=E.new b2;replace F:=F.new b2;replace w:=w.new b2;replace l:=l.acc b2;refine mY<|mO (tN rfl rfl)<|mO (pO rfl)<|mP<|ui 21 rfl (λd7=>?_)<|λd7=>?_
   ·
    refine nE<|nE<|nE<|nE<|yG rfl<|yG rfl<|yG rfl<|yG rfl<|nE<|mO (pO rfl)<|oH<|oO ⟨(),⟨congrArg Value.bool ?_,rfl,rfl,rfl,rfl,rfl,rfl,rfl⟩,w,l⟩
    rw[JA (Vv d6) (by simpa using d7)];rfl
   ·
    have a4:¬(be≠[]/\0<=tY a be):=λf=>absurd f.2 (by simpa using d7)
    refine mY<|mP<|mY<|mO (oQ (e:=5) (sz:=1) dA rfl rfl)<|mY<|mO (rq rfl rfl)<|mY<|mP<|ui 25 rfl (λR=>?_)<|λR=>?_
    ·
     refine mY<|mP<|mY<|mO (ou rfl (Ld.qN F dA rfl))<|mY<|nD (JY i6 (d0.new l) (d3.new l)) ?_
     rintro _ i7 ⟨rfl,G⟩;replace E:=E.new G;replace F:=F.new G;replace w:=w.new G;replace l:=l.acc G;refine mY<|mO (Kl rfl rfl)<|mY<|mO (pO rfl)<|mO (oo rfl)<|oH<|oO ⟨(),⟨congrArg Value.bool ?_,rfl,rfl,rfl,rfl,rfl,rfl,rfl⟩,w,l⟩;rw[Ru a4,jd];exact decide_eq_decide.2 ⟨λf=>⟨Vv R,f⟩,λf=>f.2⟩
    ·
     refine nE<|nE<|nE<|nE<|mY<|mO (oo rfl)<|mO (oo rfl)<|oH<|oO ⟨(),⟨congrArg Value.bool ?_,rfl,rfl,rfl,rfl,rfl,rfl,rfl⟩,w,l⟩
     rw[Ru a4,jd];exact(decide_eq_false λf=>f.1 (BJ R)).symm
  ·
   have a4:¬(be≠[]/\0<=tY a be):=λf=>f.1 (BJ d6)
   refine nE<|nE<|nE<|nE<|mO (oo rfl)<|mP<|mY<|mP<|mY<|mO (oQ (e:=5) (sz:=1) dA rfl rfl)<|mY<|mO (rq rfl rfl)<|mY<|mP<|ui 25 rfl (λR=>?_)<|λR=>?_
   ·
    refine mY<|mP<|mY<|mO (ou rfl (Ld.qN F dA rfl))<|mY<|nD (JY f7 (d0.new l) (d3.new l)) ?_
    rintro _ i7 ⟨rfl,G⟩;replace E:=E.new G;replace F:=F.new G;replace w:=w.new G;replace l:=l.acc G;refine mY<|mO (Kl rfl rfl)<|mY<|mO (pO rfl)<|mO (oo rfl)<|oH<|oO ⟨(),⟨congrArg Value.bool ?_,rfl,rfl,rfl,rfl,rfl,rfl,rfl⟩,w,l⟩;rw[Ru a4,jd];exact decide_eq_decide.2 ⟨λf=>⟨Vv R,f⟩,λf=>f.2⟩
   ·
    refine nE<|nE<|nE<|nE<|mY<|mO (oo rfl)<|mO (oo rfl)<|oH<|oO ⟨(),⟨congrArg Value.bool ?_,rfl,rfl,rfl,rfl,rfl,rfl,rfl⟩,w,l⟩
    rw[Ru a4,jd];exact(decide_eq_false λf=>f.1 (BJ R)).symm
 ·
  rintro _ o3 w1 ⟨w,K⟩;have i8:=f1.lt;have f8:∀ b∈(ga::(u.ownBlock.toList++D))++(M++L'),b≠B:=λb hb e=>by
    have o4:=i8 b hb;have o5:=d4;omega
  have i9:=w.lt;have f9:mX lo (M++L') W w1:=mX.of_below K;have g0:=f1.nA K d4 i9;refine xm rfl (λd8=>?_)<|λd8=>?_
  ·
   refine lN ?_;have Z:xE fr be (x,a,b)=false:=by simpa using d8
   refine⟨congrArg Value.bool Z.symm,?_,f9.weak (ax _) λb hb=>aB _ hb⟩;have j0:Ah fr be (x,a,b)=[]:=by unfold Ah;rw[if_neg λf=>by rw[Z]at f;exact eF f.1]
   rw[Ym,j0,aU,aA];exact VO (u:=u) (bl:=D) (g0.weak λb hb=>by
     simp only[bV,ak,ay]at hb |-;rcases hb with f|(f|f)|f<;>simp[f]) ⟨d1.new K,f2,Coup.nY.new f3 K,f4.new K⟩ (λb hb=>⟨(a3 b hb).1,λh=>(a3 b hb).2 (aB _ h)⟩) f5 d2 eu
  ·
   have Z:xE fr be (x,a,b)=true:=by simpa using d8
   have a5:=a3 ga ig;have g1:=d1.new K;have o6:=g1.lt;have o7:=d4;have o8:=d1.lt;have g2:∀ b∈bl,b<lo\/b∈M++L':=λb hb=>.inr (e8 b hb)
   have j1:Two (GZ q N (nG H) V k) Y lo (u.ownBlock.toList++(B::ga::(D++(M++L')))) w1:=g0.weak λb hb=>by
     simp only[bV,ak,ay]at hb |-;rcases hb with f|f|f|f|f|f<;>simp[f]
   refine nL<|ny<|ng<|mR<|mO (nk 2)<|mO (mZ w)<|mO (oQ (e:=90) (sz:=4) dA rfl rfl)<|mP<|mQ<|oU ?_
   refine qZ (α:=Nat × Value × List Value) (0,u,f2) (λs=>[(35, .int .i64 (s.1:Nat)),(33, .slice p x.cs.length Q),(34, .int .i64 (x.cs.length:Nat)),(6, .pointer (some ⟨B,0,none⟩)),(3, .pointer (some ⟨gb,0,none⟩)),(4, .pointer (some ⟨gf,0,none⟩)),(5, .pointer (some ⟨ga,0,none⟩))])
     (λs w'=>s.1<=x.cs.length/\row w' ga [s.2.1] 83/\nY w' 0 90 4 s.2.1 (allA fr be vs++yQ fr be (x,a,b) s.1).length s.2.2/\qQ w' (D++M) s.2.2 (allA fr be vs++yQ fr be (x,a,b) s.1)/\(∀ b∈s.2.1.ownBlock.toList,lo<=b/\b≠ga/\b≠B/\b∉D/\b∉M++L')/\Two (GZ q N (nG H) V k) Y lo (s.2.1.ownBlock.toList++(B::ga::(D++(M++L')))) w'/\row w' B (oz x p Q) 87/\mX lo (M++L') W w') (λs=>x.cs.length - s.1)
     ⟨rfl,rfl,rfl,rfl,rfl,rfl,rfl,rfl⟩ ⟨aC _,g1,?_,?_,λb hb=>?_,j1,w,f9⟩ ?_
   · have C:yQ fr be (x,a,b) 0=[]:=bH (Nat.le_zero.1 (Sg ..))
     dsimp only;rw[C,aU];exact Coup.nY.new f3 K
   · have C:yQ fr be (x,a,b) 0=[]:=bH (Nat.le_zero.1 (Sg ..))
     dsimp only;rw[C,aU];exact(f4.new K).mono λb hb=>aF _ hb
   · have C:=a3 b (aj _ (aF _ hb))
     have g3:=f5 b hb;exact⟨C.1,g3.1,f8 b (aF _ (aj _ (aF _ hb))),g3.2,C.2⟩
   rintro⟨i,b3,d9⟩ o9 w2 ⟨j2,e0,b4,b5,y,b6,S,O⟩;dsimp only at j2 e0 b4 b5 y b6;have I:=(hrb.kl X (.inr hgb)).kl O (.inr (b1 _ hgb));have a0:=(hrf.kl X (.inr hgf)).kl O (.inr (b1 _ hgf));have j3:=f6.sS O λg o e=>(hbL g o e).imp id (b1 g)
   have j4:=d3.sS O λg o e=>(hfL g o e).imp id (b1 g)
   have j5:=i3.sS O λg o e=>g2 g (i5 g o e)
   have j6:=i4.nu O.kp λb hb=>pG (g2 b hb)
   have r:=Below.refl w2.heap.size w2;have j7:=S;refine mR<|mO (pE rfl rfl)<|mQ<|ng<|oP rfl (λj8=>?_)<|λj8=>?_
   ·
    refine lF ?_;have e1:∃ c,x.cs[i]?=some c:=⟨_,aI eu⟩;obtain⟨c,g4⟩:=e1;have e1:=j6.ld j5 rfl g4;obtain⟨j9,op,J,P,k0,k7,k8⟩:=e1;subst k0;obtain⟨_,_,k9,e2,g5,l0⟩:=k7;cases k9;have l1:=zi J P c;have p0:(pI J P c).length=4:=rfl;refine nM<|mO (rE (e:=90) (sz:=4) dA rfl rfl i (by rfl) eu)<|mO (ou rfl (k8 _ r))<|nz<|nU ([Value.slice none 0 0,Value.int .i64 0,Value.int .i64 0,Value.int .i64 0]) dA<|λa6 p1 b7 A b8=>?_
    have l2:=ag r.size b7;have l3:B<a6:=ae S.lt b7;have l4:gb<a6:=ae I.lt b7;have l5:gf<a6:=ae a0.lt b7;replace S:=S.new b8;replace I:=I.new b8;replace a0:=a0.new b8;replace r:=r.acc b8;refine nH<|nT 4 (pI J P c) A<|λl6 A b9=>?_
    replace S:=S.only b9 (ai l3);replace I:=I.only b9 (ai l4);replace a0:=a0.only b9 (ai l5);replace r:=b9.below r l2;refine mQ<|xO (λ_:Unit=>[(60, .bool (IE fr be (x,a,b) c)),(11, .pointer (some ⟨a6,0,none⟩)),(35, .int .i64 (i:Nat)),(33, .slice (some ⟨j9,op,none⟩) x.cs.length Q),(34, .int .i64 (x.cs.length:Nat)),(6, .pointer (some ⟨B,0,none⟩)),(3, .pointer (some ⟨gb,0,none⟩)),(4, .pointer (some ⟨gf,0,none⟩)),(5, .pointer (some ⟨ga,0,none⟩))]) (λ_ w'=>row w' a6 (pI J P c) 90/\Below w2.heap.size w2 w') ?_ ?_
    ·
     refine nM<|mO (nk 1)<|mO (mZ S)<|mO (qy rfl rfl)<|mP<|ui 42 rfl (λl7=>?_)<|λl7=>?_
     ·
      refine mY<|mO (nk 0)<|mY<|mO (mZ A)<|mY<|mO (mZ a0)<|mY<|nD (JY l6 (e2.new r) (j4.new r)) ?_
      rintro _ l8 ⟨rfl,e3⟩;replace I:=I.new e3;replace A:=A.new e3;replace r:=r.acc e3;refine mY<|mO (tN rfl rfl)<|mO (pO rfl)<|mP<|ui 49 rfl (λc4=>?_)<|λc4=>?_
      ·
       refine mY<|mO (mZ I)<|mY<|mO (oQ (e:=5) (sz:=1) dA rfl rfl)<|mY<|mO (qy rfl rfl)<|mY<|mP<|ui 53 rfl (λg6=>?_)<|λg6=>?_
       ·
        refine nE<|nE<|nE<|nE<|nE<|mY<|mO (pO rfl)<|mO (pO rfl)<|oH<|oO ⟨(),⟨congrArg Value.bool ?_,rfl,rfl,rfl,rfl,rfl,rfl,rfl,rfl,rfl⟩,A,r⟩
        rw[IZ eu (Pk.2 (by simpa using c4))];exact(decide_eq_true (show rO c.1 be from .inl (bH eu))).symm
       ·
        refine mY<|mO (nk 0)<|mY<|mO (mZ A)<|mY<|mO (mZ I)<|mY<|nD (JY l8 (e2.new r) (j3.new r)) ?_
        rintro _ p2 ⟨rfl,g7⟩;replace A:=A.new g7;replace r:=r.acc g7;refine mY<|mO (pE rfl rfl)<|mY<|mO (oo rfl)<|mO (pO rfl)<|oH<|oO ⟨(),⟨congrArg Value.bool ?_,rfl,rfl,rfl,rfl,rfl,rfl,rfl,rfl,rfl⟩,A,r⟩;rw[IZ eu (Pk.2 (by simpa using c4))];exact decide_eq_decide.2 ⟨λf=>.inr f,λf=>f.resolve_left λe=>g6 kQ⟩
      ·
       refine nE<|nE<|nE<|nE<|yG rfl<|yG rfl<|yG rfl<|yG rfl<|yG rfl<|nE<|mO (oo rfl)<|oH<|oO ⟨(),⟨congrArg Value.bool ?_,rfl,rfl,rfl,rfl,rfl,rfl,rfl,rfl,rfl⟩,A,r⟩
       exact(IA (.inr λf=>c4 (by simpa using Pk.1 f))).symm
     ·
      refine nE<|nE<|nE<|nE<|nE<|mO (oo rfl)<|mP<|nE<|nE<|nE<|nE<|yG rfl<|yG rfl<|yG rfl<|yG rfl<|yG rfl<|nE<|mO (oo rfl)<|oH<|oO ⟨(),⟨congrArg Value.bool ?_,rfl,rfl,rfl,rfl,rfl,rfl,rfl,rfl,rfl⟩,A,r⟩
      exact(IA (.inl eu)).symm
    ·
     rintro _ p3 p4 ⟨A,T⟩;have p5:=b6.lt;have a1:=b6.new T;have a7:=e0.new T;have c5:=Coup.nY.new b4 T;have c6:=b5.new T;have c7:=O.new T;have c8:=j7.new T;have p6:(allA fr be vs++yQ fr be (x,a,b) i).length<=260000:=by
       rw[aA];have:=Sg fr be (x,a,b) i;omega
     have a2:=zsS (fr:=fr) (be:=be) (v:=(x,a,b)) g4;have p7:=A.lt;have e4:=e2.new T;refine xm rfl (λa8=>?_)<|λa8=>?_
     ·
      refine nM<|mO (mZ a7)<|mO (oI 4 A)<|nz<|uE (e:=90) (.agg (pI J P c).toArray) (pI J P c) ([Value.slice none 0 0,Value.int .i64 0,Value.int .i64 0,Value.int .i64 0]) 4 dA dA rfl rfl iw ⟨iT,iT⟩<|λp8 p9 l9 g8 U=>?_
      replace a7:=a7.new U;replace c5:=c5.new U;replace c6:=c6.new U;replace e4:=e4.new U;replace a1:=a1.nA U l9 g8.lt;replace c7:=c7.new U;replace c8:=c8.new U;have m0:=a1.lt;have q0:=a1.lo;have m1:=g8.ul (m:=1) (sz:=4) rfl eu;refine nz<|uf (e:=90) (sz:=4) (bytes:=48) (z:=.agg ([Value.slice none 0 0,Value.int .i64 0,Value.int .i64 0,Value.int .i64 0]).toArray) dA rfl dA rfl iT rfl c5 rfl m1 l1 jo eu (λq1=>eu)<|λq2 nN e5 m2 g9=>?_
      have h0:World.grownBy _ nN b3.ownBlock:=m2;have a9:=Kp.rX h0;have m3:=a1.MS (u:=b3) (λb hb=>aj _ (aF _ hb)) h0 g9 e5;obtain⟨h1,h2,rfl⟩:=e5.form;have e6:=a7.nu a9 (λh=>(y ga h).2.1 rfl);have m4:=c8.nu a9 (λh=>(y B h).2.2.1 rfl);have m5:=(c6.nu a9 λb hb h=>(ay.1 hb).elim (y b h).2.2.2.1 λf=>(y b h).2.2.2.2 (aF _ f));have m6:=e4.nu a9 λg o e h=>(y g h).2.2.2.2 (e8 g (g5 g o e))
      have m7:=c7.nu a9 λb h=>.inl ⟨(y b h).1,(y b h).2.2.2.2⟩
      have h3:∀ j∈(Value.slice h1 ((allA fr be vs++yQ fr be (x,a,b) i).length+1) h2).ownBlock.toList,lo<=j/\j≠ga/\j≠B/\j∉D/\j∉M++L':=λj hb=>by
        rcases g9 j (ah.1 hb)with f|f
        .exact y j<|ah.2 f
        .have c9:=λh4 (m8:h4∈B::ga::(D++(M++L')))=>m0 h4 (aj _ (aB _ m8))
         refine⟨eu,λe=>?_,λe=>?_,λh=>?_,λh=>?_⟩
         .have:=c9 ga ig;omega
         .have:=c9 B ig;omega
         .have:=c9 j (by simp[h]);omega
         .have:=c9 j (aj _ (aj _ (aB _ h)));omega
      have m9:=e5;refine nH<|oW e6<|λq3 e6 h5=>?_
      have b0:=Kp.rC h5;have n0:x.lv=0:=by
        unfold IE at a8;have C:=(Bool.and_eq_true_iff.1 a8).1;exact of_decide_eq_true C
      have h6:∀ g o,J=some ⟨g,o,none⟩->g∈D++M:=λg o e=>aB _ (e9 n0 g (g5 g o e))
      have h7:∀ j∈D++M,j∉[ga]:=λj t h=>by
        rw[aM.1 h]at t;rcases ay.1 t with f|f
        .exact d2 f
        .exact a5.2<|aF _ f
      rw[if_pos a8]at a2;refine oH<|pW<|ny<|nM<|mO (om rfl rfl (Coup.nN eu))<|mP<|oH<|oO ⟨(i+1, .slice h1 ((allA fr be vs++yQ fr be (x,a,b) i).length+1) h2,d9++pI J P c),by dsimp only;omega,⟨rfl,rfl,rfl,rfl,rfl,rfl,rfl,rfl⟩,by dsimp only;omega,e6,?_,?_,h3,?_,m4.nu b0 λh=>f8 ga ig (aM.1 h).symm,m7.nu b0 λj h=>.inl (by rw[aM.1 h];exact a5)⟩
      · dsimp only
        rw[a2,<-aG,show(allA fr be vs++yQ fr be (x,a,b) i++[c]).length=(allA fr be vs++yQ fr be (x,a,b) i).length+1 from aA];exact Coup.nY.nu m9 b0 λj h e=>(h3 j (ah.2 e)).2.1 (aM.1 h)
      · dsimp only
        rw[a2,<-aG];exact(m5.nu b0 h7).snoc ⟨J,P,rfl,m6.nu b0 λg o e=>h7 g (h6 g o e),h6,l0⟩
      · dsimp only
        exact(m3.only h5 (.inr ig)).weak λj t=>by
         rcases ay.1 t with f|f
         .exact aF _ f
         .exact aB _<|aj _<|aB _ f
     ·
      refine nL<|pW<|ny<|nM<|mO (om rfl rfl (Coup.nN eu))<|mP<|oH ?_
      rw[if_neg (by rw[a8];exact eF),aU]at a2;refine oO ⟨(i+1,b3,d9),by dsimp only;omega,⟨rfl,rfl,rfl,rfl,rfl,rfl,rfl,rfl⟩,by dsimp only;omega,a7,by dsimp only;rw[a2];exact c5,by dsimp only;rw[a2];exact c6,y,a1,c8,c7⟩
   ·
    refine lV ?_;have n1:i=x.cs.length:=by omega
    rw[n1,Yx Z]at b4 b5;refine⟨congrArg Value.bool Z.symm,?_,O.weak (ax _) λj t=>aB _ t⟩;rw[Ym,aA];refine VO (u:=b3) (bl:=D++M) (b6.weak λj t=>?_) ⟨e0,d9,b4,b5⟩ (λj t=>?_) (λj t=>⟨(y j t).2.1,λh=>?_⟩) (λh=>?_) ?_
    · simp only[bV,ak,ay]at t |-
      rcases t with f|(f|f|f)|f<;>simp[f]
    · simp only[ak,ay]at t
      rcases t with f|f|f|f
      · rw[f];exact⟨a5.1,λh=>a5.2 (aB _ h)⟩
      · exact⟨(y j f).1,λh=>(y j f).2.2.2.2 (aB _ h)⟩
      · have C:=a3 j kW
        exact⟨C.1,λh=>C.2 (aB _ h)⟩
      · exact i2 j f
    · rcases ay.1 h with f|f
      · exact(y j t).2.2.2.1 f
      · exact(y j t).2.2.2.2 (aF _ f)
    · rcases ay.1 h with f|f
      · exact d2 f
      · exact a5.2<|aF _ f
    · rw[aA]
      have C:(Ah fr be (x,a,b)).length<=x.cs.length:=by rw[<-Yx Z];exact Sg ..
      simp only[aD,aX];omega
end
theorem YY{N:Nat}{H:HS}(dec:tT->Bool):∀ {l:Nat} {t:Tr l} {a b:Key},xX N H l t->qA l t a b->∀ v∈uS dec l t a b,v.1.cs.length<=123
 |0,t,a,b,ht,hs,v,hv=>by
  rw[uS]at hv;rw[aM.1 hv];exact(ht.yZ hs).few
 |l+1,t,a,b,ht,hs,v,hv=>by
  rw[uS]at hv;rcases ak.1 hv with c|c
  .rw[c];exact(ht.yZ hs).few
  .split at c
   .obtain⟨x,i,j⟩:=bR.1 c
    obtain⟨A,f,B,g,k,m,o⟩:=Rx (α:=Val (l+1)) (v:=x.1) (a:=x.2.1) (b:=x.2.2) i;have h:=ht.kid (x:=f) (by rw[g];simp);have e:=hs.2.2.2.2 A f B g;rw[<-m,<-o]at e;rw[k]at h e;exact YY dec h e v j
   .cases c
section
variable {Y:World->List Nat->Prop}[hYT:mW Y]{q tb hb N lo:Nat}{L:List Nat}{V:Nat->Pg}{k:Nat}{H:HS}{fl:List Nat}{l:Nat}{t:Tr l}{w:World}
theorem Ob {gt gb gf ga:Nat} {be fr:Key} {pb pf:Option Addr} {cb cf:Nat} (h:Two (GZ q N (nG H) V k) (Bd Y ga 0 []) lo L w) (hR:TR q tb hb N lo L H fl l t w) (hnd:(og l t).Nodup) (hrt:row w gt [.pointer (some ⟨tb,0,none⟩)] 37) (hgt:gt∈L)
  (hrb:row w gb [.slice pb be.length cb] 23) (hgb:gb∈L) (hrf:row w gf [.slice pf fr.length cf] 23) (hgf:gf∈L)
  (hbe:nC w pb be.length 1 (bv be)) (hbL:∀ g o,pb=some ⟨g,o,none⟩->g<lo\/g∈L) (hfr:nC w pf fr.length 1 (bv fr)) (hfL:∀ g o,pf=some ⟨g,o,none⟩->g<lo\/g∈L):
  Calls Tryz.prog 36 [.pointer (some ⟨gt,0,none⟩), .pointer (some ⟨gb,0,none⟩), .pointer (some ⟨gf,0,none⟩), .pointer (some ⟨ga,0,none⟩)].toArray w
   (pX λr w'=>∃ n cs,cs.map zY=wR (oC l t) fr be/\n<=260000/\Two (GZ q N (nG H) V k) (Bd Y ga n cs) lo L w'/\mX lo L w w'):=by
 have a:=Pw (Y:=Y) (q:=q) (N:=N) (H:=H) (V:=V) (k:=k) (ga:=ga) hrb hgb hrf hgf hbe hbL hfr hfL;have c:Two (GZ q N (nG H) V k) (Bd Y ga (123*([]:List tT).length) (allA fr be [])) lo L w:=h;have e:=Mt (Yv:=λvs=>Bd Y ga (123*vs.length) (allA fr be vs)) c hR hnd (YY (xE fr be) hR.ti hR.sd) a dA;have m:=TJ (xE fr be) l t [] [];have o:=JU N 0 (og l t) hnd λn f=>by
  have p:=hR.ti.rg n f;have r:=hR.ti.fN;omega
 have s:=hR.ti.n2;have g:=zpf (lo:=fr) (hi:=be) hR.sd;refine nP (fn:=Tryz.f36) (rs:=[]) (n:=7) Tryz.func36 rfl rfl Tryz.ntmps36 dA rfl<|nM<|mO (mZ hrt)<|mO (sV)<|nD (e) ?_
 rintro _ u ⟨rfl,i,j⟩;refine lS ?_;exact⟨_,_,g,eu,i,j⟩
theorem allT (h:Two (GZ q N (nG H) V k) Y lo L w) (hR:TR q tb hb N lo L H fl l t w) (hnd:(og l t).Nodup) {be fr:Key} {pb pf:Option Addr} {cb cf:Nat}
  (hbe:nC w pb be.length 1 (bv be)) (hbL:∀ g o,pb=some ⟨g,o,none⟩->g<lo\/g∈L) (hfr:nC w pf fr.length 1 (bv fr)) (hfL:∀ g o,pf=some ⟨g,o,none⟩->g<lo\/g∈L):
  Calls Tryz.prog 10 [.pointer (some ⟨tb,0,none⟩), .slice pf fr.length cf, .slice pb be.length cb].toArray w
   (pX λr w'=>∃ ga u bl cs,r= .func (.func 40) #[] [.pointer (some ⟨ga,0,none⟩)].toArray/\cs.map zY=wR (oC l t) fr be/\cs.length<=260000/\Two (GZ q N (nG H) V k) Y lo ((ga::(u.ownBlock.toList++bl))++L) w'/\Ib ga bl u cs w'/\(∀ b∈ga::(u.ownBlock.toList++bl),lo<=b/\b∉L)/\mX lo L w w'):=by
 have a:=mX.refl lo L w;have j:=h;have b5:=h.lt;have b6:=h.lo;have a3:∀ (W:World) (L2:List Nat) (p r s f:Nat),Two (GZ q N (nG H) V k) (Bd Y f 0 []) lo L2 W->(∀ b∈L,b∈L2)->p∈L2->r∈L2->s∈L2->mX lo L w W->row W p [.pointer (some ⟨tb,0,none⟩)] 37->row W r [.slice pf fr.length cf] 23->row W s [.slice pb be.length cb] 23->
   Calls Tryz.prog 35 [.pointer (some ⟨tb,0,none⟩), .slice none 0 0, .bool true, .func (.func 36) #[] [.pointer (some ⟨p,0,none⟩), .pointer (some ⟨s,0,none⟩), .pointer (some ⟨r,0,none⟩), .pointer (some ⟨f,0,none⟩)].toArray].toArray W
   (pX λv w'=>v= .int .i64 0/\(∃ n cs,cs.map zY=wR (oC l t) fr be/\n<=260000/\Two (GZ q N (nG H) V k) (Bd Y f n cs) lo L2 w')/\mX lo L2 W w'):=λW L2 p r s f D E G I J P m y A=>by
  have Z:=(hR.ll P).mono E;refine(RI tb hb D Z.r (kp:=none) (kn:=0) (kc:=0) 36 [.pointer (some ⟨p,0,none⟩), .pointer (some ⟨s,0,none⟩), .pointer (some ⟨r,0,none⟩), .pointer (some ⟨f,0,none⟩)] dA
   (λG' Y'=>G'=nG H/\∃ n cs,cs.map zY=wR (oC l t) fr be/\n<=260000/\Y'=Bd Y f n cs) (λe G' Y'=>False)
   (λG' Y' ⟨_,_,_,_,_,e⟩=>by subst e;infer_instance) (λe G' Y' h=>h.elim) λL' w' B C a4=>?_).to λv w' h=>?_
  .have a5:=(Z.ll C).mono B
   have K:=(hbe.sS P hbL).sS C λg o e=>(hbL g o e).imp id (E g)
   have a6:=(hfr.sS P hfL).sS C λg o e=>(hfL g o e).imp id (E g)
   exact(Ob a4 a5 hnd (m.kl C (.inr G)) (B _ G) (A.kl C (.inr J)) (B _ J) (y.kl C (.inr I)) (B _ I) K (λg o e=>(hbL g o e).imp id λz=>B g (E g z)) a6 (λg o e=>(hfL g o e).imp id λz=>B g (E g z))).toP λv w2 ⟨n,cs,Q,D,R,S⟩=>⟨_,_,⟨rfl,n,cs,Q,D,rfl⟩,R,S⟩
  .rcases h with⟨G',Y',⟨rfl,n,cs,Q,D,rfl⟩,R,S,a7⟩|⟨e,G',Y',h,_⟩
   .exact⟨R,⟨n,cs,Q,D,S⟩,a7⟩
   .exact h.elim
 refine nP (fn:=Tryz.f10) (rs:=[.tmp 6]) (n:=15) Tryz.func10 rfl rfl Tryz.ntmps10 dA rfl<|mR<|nz<|oV ([_]) rfl<|λp b7 G m K=>?_
 replace j:=j.nA K G m.lt;replace a:=a.new K;refine nz<|oV ([_]) rfl<|λr b8 I y T=>?_
 replace j:=j.nA T I y.lt;replace a:=a.new T;replace m:=m.new T;refine nz<|oV ([_]) rfl<|λs b9 J A M=>?_
 replace j:=j.nA M J A.lt;replace a:=a.new M;replace m:=m.new M;replace y:=y.new M;refine nV ?_;have a8:=j.lt;have c4:=j.lo;refine nz<|nU ([Value.slice none 0 0]) dA<|λf U a0 a1 F=>?_
 replace j:=j.nA F a0 a1.lt;replace a:=a.new F;replace m:=m.new F;replace y:=y.new F;replace A:=A.new F;refine pV<|mO (mZ m)<|mO (sV) ?_
 have a9:row U f [.slice none 0 0] 83:=a1;have X:Two (GZ q N (nG H) V k) (Bd Y f 0 []) lo (s::r::p::L) U:=VO (u:=.slice none 0 0) (bl:=[]) j ⟨a9,[],ym _ _ _ _,⟨rfl,λi c h=>by cases h⟩⟩ (λb hb=>by
  have e:b=f:=aM.1 hb;have c5:=a0;refine⟨eu,λz=>?_⟩;have c6:=a8 b z;omega) (λb hb=>by cases hb) (λh=>by cases h) (ax _)
 have O:∀ b∈L,b∈s::r::p::L:=λb hb=>by simp[hb]
 refine qi rfl (nX dA rfl) (a3 U (s::r::p::L) p r s f X O ig ig ig a m y A) ?_;rintro _ c7 ⟨rfl,⟨n,cs,b0,c8,X⟩,b1⟩;replace a:=a.ll b1 O;refine mV<|mQ<|ng<|mR<|mP<|mO (oD rfl rfl)<|mQ<|pJ rfl (iT)<|nL<|ny<|mR<|mO (sV)<|mV<|mQ<|nQ<|nR [_] ⟨rfl,trivial⟩ ?_
 have b2:=L_ X;obtain⟨u,bl,b3,b4,a2,_,_,c9⟩:=b2;exact⟨f,u,bl,cs,rfl,b0,eu,b3.weak (λb hb=>(ay.1 hb).elim (aF _) λh=>aB _ (O b h)),b4,λb hb=>⟨(a2 b hb).1,λz=>(a2 b hb).2 (O b z)⟩,a⟩
end
def NT(cs:List (Key × V3))(_:Unit)(k:Nat)(v:List Value)(W:World)(_ Fr _:List Nat):Prop:=∃ c p cc,cs[k]?=some c/\v=[.slice p c.1.length cc, .agg #[.int .i64 (c.2.1:Int), .int .i64 (c.2.2.1:Int)]]/\nY W 0 5 1 (.slice p c.1.length cc) c.1.length (bv c.1)/\(Value.slice p c.1.length cc).ownBlock.toList=Fr
theorem Px{X:World->List Nat->Prop}[hX:mW X]{lo:Nat}(ga:Nat)(bl:List Nat)(u:Value)(cs:List (Key × V3))(w:World)(hA:Ib ga bl u cs w)(hk:∀ c∈cs,c.1.length<=300)(hn:cs.length<=260000):
   EX Tryz.prog 40 [.pointer (some ⟨ga,0,none⟩)] cs.length (NT cs) (λ_ _ _=>True) (ga::(u.ownBlock.toList++bl)) X lo w:=by
 intro α Y hYT E b0 J Jx W L F b1 e5 b2 R a b3 b4;obtain⟨b5,xs,S,T⟩:=hA;have b6:row W ga [u] 83:=(F ga ig).2.trans b5;obtain⟨s,v,rfl⟩:=S.form;have e6:=Below.refl W.heap.size W;refine nP (fn:=Tryz.f40) (rs:=[]) (n:=20) Tryz.func40 rfl rfl Tryz.ntmps40 dA rfl<|mR<|mO (mZ b6)<|mO (oQ (e:=90) (sz:=4) dA rfl rfl)<|mP<|mQ<|oU ?_
 have U:∀ b∈ga::((Value.slice s cs.length v).ownBlock.toList++bl),W.heap[b]?=w.heap[b]?:=λb hb=>(F b hb).2
 have y:=λb hb=>(F b hb).1
 obtain⟨m,V⟩:=aa (ga::((Value.slice s cs.length v).ownBlock.toList++bl));have Z:ga∈m/\(∀ b∈(Value.slice s cs.length v).ownBlock.toList,b∈m)/\∀ b∈bl,b∈m:=by rw[<-V];exact⟨ig,λb hb=>by simp[hb],λb hb=>by simp[hb]⟩
 rw[V]at U y b2 R;have a0:=S.sl;refine qZ (α:=Nat × α) (0,a) (λk=>[(0, .func (.yield b0) #[] #[]),(5, .slice s cs.length v),(6, .int .i64 (cs.length:Int)),(7, .int .i64 (k.1:Int))])
   (λk w'=>k.1<=cs.length/\Two X Y lo (E k.2++L) w'/\J () k.1 k.2 w'/\(∀ b∈m,w'.heap[b]?=w.heap[b]?)/\W.heap.size<=w'.heap.size) (λk=>cs.length - k.1)
   ⟨rfl,rfl,rfl,rfl,rfl⟩ ⟨aC _,b3,b4 () W trivial (mX.refl _ _ _),U,ax _⟩ ?_
 rintro⟨i,a1⟩ f p ⟨e7,G,a2,H,b7⟩;dsimp only at*;have h:=Below.refl p.heap.size p;have I:=G.lt;refine mR<|mO (pE rfl rfl)<|mQ<|ng<|oP rfl (λb8=>?_)<|λb8=>?_
 ·
  refine lF ?_;have q:∃ c,cs[i]?=some c:=⟨_,aI eu⟩;obtain⟨c,K⟩:=q;have q:=T.at_ i c K;obtain⟨z,M,b9,c4,c5,e8⟩:=q;have q:=a0.some eu;obtain⟨N,os,rfl,e9⟩:=q;have c6:nC p (some ⟨N,os,none⟩) cs.length 4 xs:=nC.same a0 (H N (Z.2.1 N (by simp[Value.ownBlock])));have c7:nC p z c.1.length 1 (bv c.1):=nC.Jk c4 λg o e=>H g (Z.2.2 g (c5 g o e))
  have f0:=T.len;have a3:=Ld.zB (P:=Tryz.prog) (t:=90) (j:=i*4) (k:=4) c6 dA dA eu;rw[b9]at a3;have f1:=zi z M c;have f2:=hk c (aN K);have c8:(pI z M c).length=4:=rfl;refine nM<|mO (rE (e:=90) (sz:=4) dA rfl rfl (i) eu eu)<|mO (ou rfl (a3))<|nz<|nU ([Value.slice none 0 0,Value.int .i64 0,Value.int .i64 0,Value.int .i64 0]) dA<|λf3 f4 c9 r d0=>?_
  have d1:=ag h.size c9;replace h:=h.acc d0;refine nH<|nT 4 (pI z M c) r<|λf5 r d2=>?_
  replace h:=d2.below h d1;refine mQ<|ng<|qz [] dA ?_
  intro d3 a4 d4;replace r:=r.new a4;replace h:=h.acc a4;have a5:=r;refine mU 0 (nK)<|mU 1 (nk 0)<|nI 2 (λw' O=>mZ (a5.kq O))<|mU 4 (nk 1)<|nI 5 (λw' O=>ou rfl (Ld.AR (off:=1) (k:=2) (a5.kq O) dA dA (by rw[c8];decide)))<|nS 3 dA ?_
  have d5:=h.size;refine qf rfl rfl (nX dA rfl) (SX d3 (c7.new h) (tq _) eu) ?_;rintro _ a6 ⟨A,B,rfl,a7,a8⟩;have d6:=d4.add0 a8;refine⟨d6,?_⟩;replace h:=h.acc a8;refine FI ?_;have f6:=h.size;obtain⟨Fr,a9⟩:=aa ((Value.slice A c.1.length B).ownBlock.toList);have C:∀ b∈Fr,p.heap.size<=b/\b<(a6).heap.size:=λb hb=>by
    rw[<-a9]at hb;have D:=a7.lt b (ah.1 hb);exact⟨ag d5 D.1,D.2⟩
  have d7:=R () i [.slice A c.1.length B, .agg #[.int .i64 (c.2.1:Int), .int .i64 (c.2.2.1:Int)]] a1 a6 m Fr eu ⟨c,A,B,K,rfl,nY.mono a7 (aC _),a9⟩ (λb hb=>.inl hb) (λb hb=>⟨ag b7 (C b hb).1,λQ=>by
    have D:=I b (aB _ (y b Q));have d8:=(C b hb).1;omega,λQ=>by
    have D:=I b (aF _ Q);have d8:=(C b hb).1;omega⟩) ((G.zn h C).weak λb hb=>by
     simp only[ay]at hb |-;rcases hb with l|l|l|l
     .exact .inl l
     .exact .inr<|.inr<|y b l
     .exact .inr<|.inl l
     .exact .inr (.inr l)) (b1 () _ _ _ _ a2 (mX.of_below h))
  refine CO (i:=6) dA rfl<|Zq (vl:=[.slice A c.1.length B, .agg #[.int .i64 (c.2.1:Int), .int .i64 (c.2.2.1:Int)]]) rfl rfl d7 ?_
  rintro e f7 (⟨rfl,⟨d9,e0,e1⟩,e2,f8⟩|⟨rfl,e3⟩)
  · refine⟨_,rfl,?_⟩
    refine ZU (i:=7) dA rfl (sD rfl)<|YC dA<|ny<|Ni rfl<|nL<|pW<|ny<|nM<|mO (om rfl rfl (show IntKind.i64.wrap ((i:Int)+1)=((i+1:Nat):Int) by rw[nN eu];omega))<|mP<|oH<|oO ⟨(i+1,d9),by show cs.length - (i+1)<cs.length - i;omega,⟨rfl,rfl,rfl,rfl,rfl⟩,by show i+1<=_;omega,e0.weak (λb hb=>by simp only[ay]at hb |-;exact .inr hb),e1,λb hb=>(e2 b hb).trans ((h.block b (I b (aB _ (y b hb)))).trans (H b hb)),eu⟩
  · refine⟨_,rfl,?_⟩
    refine ZU (i:=7) dA rfl (sD rfl)<|YC dA<|ny<|Td rfl (rfl)<|nQ<|tu<|qb<|Bc<|tu<|nR [] trivial ?_
    exact .inr e3
 ·
  refine qP<|qL<|rf<|qX<|zI [] trivial ?_
  have e4:i=cs.length:=by omega
  exact .inl ⟨(),a1,G,e4▸a2⟩
theorem zsX{α:Type}(ks:List (Key × α)):wR ks [] []=ks:=by
 unfold wR;refine iW.2 λx _=>?_
 rw[decide_eq_true (uT x.1),decide_eq_true (show rO x.1 []from .inl rfl)];rfl
theorem zna{rows:List (Key × (Nat × Nat))}{cs:List (Key × V3)}(h:cs.map zY=rows){n:Nat}(hr:∀ r∈rows,r.1.length<=n):∀ c∈cs,c.1.length<=n:=λc a=>hr (zY c) (h▸iK a)
def TB(X Y:World->List Nat->Prop)(lo:Nat)(L:List Nat)(w:World)(tv fv bv_:Value)(rows:List (Key × (Nat × Nat))):Prop:=∀ w',mX lo L w w'->∀ L',Two X Y lo L' w'->(∀ b∈L,b∈L')->CQ 10 [tv,fv,bv_] w' (λr w2=>∃ ga u bl cs,r= .func (.func 40) #[] [.pointer (some ⟨ga,0,none⟩)].toArray/\cs.map zY=rows/\cs.length<=260000/\Two X Y lo ((ga::(u.ownBlock.toList++bl))++L') w2/\Ib ga bl u cs w2/\(∀ b∈ga::(u.ownBlock.toList++bl),lo<=b/\b∉L')/\mX lo L' w' w2)
section
variable {X Y:World->List Nat->Prop}[hXT:mW X][hYT:mW Y]{lo:Nat}{L:List Nat}{w:World}
theorem Jo(rows:List (Key × (Nat × Nat)))(tv:Value)(htv:∃ a,tv= .pointer a)(h:Two X Y lo L w)(hall:TB X Y lo L w tv (.slice none 0 0) (.slice none 0 0) rows)(hkeys:∀ r∈rows,r.1.length<=300):
  CQ 17 [tv] w (λv w'=>v= .int .i64 (rows.length:Int)/\Two X Y lo L w'/\mX lo L w w'):=by
 have g:=mX.refl lo L w;have y:=h;have b7:=h.lo;have b8:=h.lt;obtain⟨b9,rfl⟩:=htv;refine nP (fn:=Tryz.f17) (rs:=[.cell 2 3]) (n:=10) Tryz.func17 rfl rfl Tryz.ntmps17 dA rfl<|mR<|nz<|nU ([Value.int .i64 0]) dA<|λl w2 K a M=>?_
 replace y:=y.nA M K a.lt;replace g:=g.new M;refine mQ<|ng<|mR<|mP ?_
 have N:∀ b∈L,b∈l::L:=λb hb=>aj _ hb
 refine nD (hall w2 g _ y N) ?_;rintro _ s ⟨ga,u,bl,cs,rfl,O,a0,z,a1,P,Q⟩;replace g:=g.ll Q N;replace a:=a.kl Q;refine mQ<|oU ?_
 obtain⟨a2,a3⟩:=aa (ga::(u.ownBlock.toList++bl));have R:EX Tryz.prog 40 [.pointer (some ⟨ga,0,none⟩)] cs.length (NT cs) (λ_ _ _=>True) (ga::(u.ownBlock.toList++bl)) X lo s:=Px (X:=X) (lo:=lo) ga bl u cs s a1 (zna O hkeys) a0;have a4:cs.length=rows.length:=by rw[<-O,aQ]
 rw[a3]at z P R;have a5:=z.lt;obtain⟨Dm,S⟩:=aa ((s).heap.size);obtain⟨L2,t⟩:=aa (a2++l::L);have a6:Two X Y lo L2 s:=by rw[<-t];exact z
 have A:l∈L2:=by rw[<-t];simp
 have B:∀ b∈L,b∈L2:=λb hb=>by rw[<-t];simp[hb]
 have a7:=a5 l ig;have a8:=g.size;have c4:=K;rw[S]at a7 a8;refine M_ (τ:=Unit) (m:=cs.length) (V:=NT cs) (T0:=λ_ _ _=>True) (ps:=[5,6]) (L:=L2) (X:=X) (Y:=Y) (α:=Unit) (λ_=>[]) (Dm+1) [Dm] (λa9 h=>by rw[show a9=none from h,<-S];exact U_ _ _) rfl dA R (λ_ i v _ _ _ _ C=>by obtain⟨_,_,_,_,rfl,_⟩:=C;rfl) dA ig (λb hb=>by rw[<-t];exact aF _ hb)
  (λ_ j _ w'=>j<=cs.length/\row w' l [.int .i64 (j:Int)] 3/\mX lo L w w') (λ_ _=>False)
  ?_ ?_ (λ_ _ _ h=>h.elim) (λ_ _ _ h=>h.elim) (λ_ _ _ _ _ b hb=>by cases hb) () (show Two _ Y lo ([]++L2) _ from a6) ?_ ?_ ?_ (λc W' h=>h.elim)
 .rintro _ j _ W W' ⟨D,E,F⟩ q
  exact⟨D,E.kl q (.inr (by simp[A])),F.ll q λb hb=>by simp[B b hb]⟩
 .rintro _ j _ W W' ⟨D,E,F⟩ r
  exact⟨D,E.only r eu,F.only r kJ⟩
 .intro _ W' _ q
  exact⟨aC _,a.kl q (.inr (by simp[A])),g.ll q λb hb=>by simp[B b hb]⟩
 .rintro _ j v _ W1 T Fr b0 C b1 c5 f ⟨c6,o,k⟩ c7
  obtain⟨c,p,c8,c9,rfl,_,_⟩:=C;have b2:=Below.refl W1.heap.size W1;have b3:∀ b∈T,b≠l:=λb hb e=>by
   subst e;rcases b1 b hb with h|h
   .exact(P b h).2 ig
   .omega
  refine nL<|⟨rfl,b2,λW2 G _=>?_⟩
  replace o:=o.only G eu;replace k:=k.only G kJ;replace f:=f.only G (.inr ig);have b4:=mX.refl lo ((Dm+1)::Dm::T) W2;refine oU<|nM<|mO (mZ o)<|mO (om rfl rfl (show IntKind.i64.wrap ((j:Int)+1)=((j+1:Nat):Int) by rw[nN eu];omega))<|nH<|oW o<|λd0 o b5=>?_
  have H:=b5;refine oH<|pW ?_
  exact⟨b4.only H (.inr ⟨eu,λU=>by simp only[ak,bV,aV]at U;rcases U with h|h|h;omega;omega;exact b3 _ h rfl⟩),(),(f.only H (.inr (by simp[A]))).weak (λb hb=>aB _ hb),b0,o,k.only H kJ⟩
 .rintro _ _ W f ⟨_,a,k⟩ b6
  have I:Au W Dm:=⟨b6 Dm ig⟩;replace f:Two X Y lo (Dm::L2) W:=f;refine pW<|ny<|mR<|mO (mZ a)<|nH<|oW a<|λZ a J=>?_
  replace k:=k.only J jB;replace I:=I.only J eu;replace f:=f.only J eG;refine mQ<|nQ<|Oh [_] Dm I.d ⟨⟨_,rfl,Ld.qN (a.only (Gm _) eu) dA rfl⟩,trivial⟩ ?_
  have r:Only Dm Z (World.putObj Z Dm (.deferred none)):=Gm _;exact⟨by rw[<-a4];rfl,(f.only r (.inr ig)).weak (λb hb=>by simp[B b hb]),k.only r kJ⟩
end
section
variable {Y:World->List Nat->Prop}{q tb hb N lo:Nat}{L:List Nat}{V:Nat->Pg}{k:Nat}{H:HS}{fl:List Nat}{l:Nat}{t:Tr l}{w:World}
theorem BK [mW Y](hR:TR q tb hb N lo L H fl l t w)(hnd:(og l t).Nodup){fr be:Key}{pf pb:Option Addr}{cf cb:Nat}(hbe:nC w pb be.length 1 (bv be))(hbL:∀ g o,pb=some ⟨g,o,none⟩->g<lo\/g∈L)(hfr:nC w pf fr.length 1 (bv fr))(hfL:∀ g o,pf=some ⟨g,o,none⟩->g<lo\/g∈L):
  TB (GZ q N (nG H) V k) Y lo L w (.pointer (some ⟨tb,0,none⟩)) (.slice pf fr.length cf) (.slice pb be.length cb) (wR (oC l t) fr be):=λw' a L' f c=>
 allT f ((hR.ll a).mono c) hnd (hbe.sS a hbL) (λg o e=>(hbL g o e).imp id (c g)) (hfr.sS a hfL) λg o e=>(hfL g o e).imp id (c g)
theorem VQ [mW Y](h:Two (GZ q N (nG H) V k) Y lo L w)(hR:TR q tb hb N lo L H fl l t w)(hnd:(og l t).Nodup):
  CQ 17 [.pointer (some ⟨tb,0,none⟩)] w (λv w'=>v= .int .i64 ((oC l t).length:Int)/\Two (GZ q N (nG H) V k) Y lo L w'/\mX lo L w w'):=by
 have a:=BK (Y:=Y) (V:=V) (k:=k) hR hnd (fr:=[]) (be:=[]) (pf:=none) (pb:=none) (cf:=0) (cb:=0) (nC.nil _ _ _) (λg o e=>nomatch e) (nC.nil _ _ _) λg o e=>nomatch e
 rw[zsX]at a;exact Jo _ _ ⟨_,rfl⟩ h a λr hr=>ag (hR.sd.rows r hr).1.2 eu
end
theorem Za{c:sH}{f:Nat}:∀ {m a:Nat},(∀ n,f<=n->n<a+m->c n=none)->(tL c a m).length<=f - a
 |0,a,h=>aC _
 |m+1,a,h=>by
  have i:=Za (c:=c) (f:=f) (m:=m) (a:=a+1) λn e j=>h n e eu
  rw[tL]
  split
  .rename_i b hb
   have k:¬f<=a:=λg=>by rw[h a g eu]at hb;cases hb
   rw[aD];omega
  .omega
theorem zuE(P:Pl):(uu P).2.G.size=P.G.size:=by
 have hr:(um P).2.G.size=P.G.size:=by
  unfold um
  split
  .exact(SE P).2.1
  .rfl
 have a:=Ur (um P).2.D (um P).2.G (pM P);have hp:(uD (um P).2 (pM P)).G.size=P.G.size:=a.2.trans hr;have c:=QI (pM P) (uD (um P).2 (pM P));unfold uu
 split
 .rfl
 .split
  .rfl
  .split
   .rfl
   .split
    .split
     .exact(congrArg Lg.size c.2.1).trans hp
     .exact hp
    .exact hr
def CJ(N:Nat)(G V:Nat->Pg):Nat->Pg:=λn=>if n<N then G n else V n
theorem PG.za{P:Pl}{N:Nat}{G V:Nat->Pg}{k:Nat}(h:PG P N G V k)(hk:k<=900000)(hN:N<=2048){f:Nat}(hf:f<=60)(hG:∀ n,f<=n->n<N->G n=V n):(uu P).1=0/\PG (uu P).2 N G (CJ N G V) (k+1):=by
 have j:=h.n;have k:=h.s;obtain⟨c1,c2,c3,o,l⟩:=h.i.za hk eu;have r:(pM P).length<=f:=by
  unfold pM;rw[aQ];refine Za (a:=0) λn p i=>?_
  cases hc:P.ch n with
  |none=>rfl
  |some b=>exact absurd (hG n p eu) (h.c n b eu hc)
 have g:(uu P).1=0:=by
  refine o eu ?_;rw[k];unfold vo
  split
  .rw[aR]
   unfold qC qw;omega
  .omega
 have q:AQ P V=CJ N G V:=by
  funext n
  unfold AQ CJ;rw[j]
  split
  .rename_i c;exact h.g n c
  .rfl
 unfold Uh at c1;rw[if_pos g,q]at c1;refine⟨g,c1,c2.trans j,λn c=>?_,(zuE P).trans k,λn b c hb=>?_⟩
 .unfold CJ
  rw[if_pos c]
  by_cases hr:0<(pM P).length
  .rw[l g hr];rfl
  .have e:uu P=(0,P):=by unfold uu;rw[if_pos eu]
   rw[e];show(P.ch n).getD (G n)=G n;have i:=h.g n c;cases hc:P.ch n with
   |none=>rfl
   |some b=>rw[hc]at i;exact i
 .exfalso
  by_cases hr:0<(pM P).length
  .rw[l g hr]at hb;cases hb
  .have e:uu P=(0,P):=by unfold uu;rw[if_pos eu]
   rw[e]at hb;have m:(⟨(n:Int),b⟩:Ch)∈pM P:=bB.2 ⟨(n,b),Py hb (aC _) eu,rfl⟩;rw[bH (show(pM P).length=0 by omega)]at m;cases m
theorem FU{Y:World->List Nat->Prop}[mW Y]{q N lo:Nat}{L:List Nat}{G V:Nat->Pg}{k:Nat}{w:World}(h:Two (GZ q N G V k) Y lo L w)(hk:k<=900000){f:Nat}(hf:f<=60)(hG:∀ n,f<=n->n<N->G n=V n):
  CQ 32 [.pointer (some ⟨q,0,none⟩)] w (λv w'=>v= .int .i64 0/\Two (GZ q N G (CJ N G V) (k+1)) Y lo L w'/\mX lo L w w'):=by
 have g:=(Bo h).1;obtain⟨P,f,i⟩:=Nv h;obtain⟨e,hp⟩:=f.za hk g hf hG;exact(FX i f.i).to λv w' ⟨a,b,c⟩=>⟨by rw[a,e],QZ hp b,c⟩
def T0:Tr 0:=⟨1,[]⟩
def HG:HS:=⟨Tf F0,qx H0.S 1 (rW 3)⟩
def HW:HS:=⟨HG.F,qx HG.S 1 (xM 0 T0)⟩
def HT:HS:=yT HW 1
theorem UZ{N:Nat}(h:2<=N):uZ N H0 3=some (1,HG):=by
 unfold uZ;rw[if_neg iT,if_neg (by show¬1=N;omega)]
 rfl
theorem Jt{N:Nat}(h2:2<=N):∃ fl,HM N HG fl [] (λ_ _=>False) (λ_ _=>[]) (λ_ _=>[]) [] [1]/\HM N HW fl [] (λ_ _=>False) (λ_ _=>[]) (λ_ _=>[]) [] [1]:=by
 obtain⟨e,f⟩:=QV (RO (N:=N) eu) iT (UZ h2);have a:=(HM.LV (N:=N) eu).give f;have g:Good (xM 0 T0):=by
  rw[<-Ct];exact Fp (lv:=0) (cs:=[]) (λc h=>by cases h) iT
 exact⟨e,a,a.LU (n:=1) ig g rfl⟩
theorem Cy{N:Nat}(h2:2<=N)(hN:N<=250):∃ fl,TS N HT fl [] (λ_ _=>False) (λ_ _=>[]) (λ_ _=>[]) [] 0 T0:=by
 obtain⟨a,_,c⟩:=Jt h2;have e:=c.root (n:=1) eu;exact⟨a,⟨_,e,gG _⟩,⟨⟨List.Pairwise.nil,(λx f=>by cases f),iT⟩,trivial,by simp[og,T0],(show qx HG.S 1 (xM 0 T0) 1=xM 0 T0 from uI ..)⟩,rfl,hN⟩
section
variable {Y:World->List Nat->Prop}[hYT:mW Y]{q tb hb N lo:Nat}{L:List Nat}{G V:Nat->Pg}{k:Nat}{H:HS}{fl:List Nat}{l:Nat}{t:Tr l}{w:World}
theorem Rf(h:Two (GZ q N (nG H) V k) Y lo L w)(hH:qO N H fl)(hrh:row w hb [.pointer (some ⟨q,0,none⟩)] 201)(hhb:hb<lo\/hb∈L):
  CQ 68 [.pointer (some ⟨q,0,none⟩), .pointer (some ⟨hb,0,none⟩)] w (λv w'=>v= .int .i64 0/\Two (GZ q N (nG H) V k) Y lo L w'/\mX lo L w w'):=by
 have o:=Bo h;have g:=λL' w' (e:Two (GZ q N (nG H) V k) Y lo L' w')=>Jd e
 have i:=λw' (j:mX lo L w w') (e:Two (GZ q N (nG H) V k) Y lo L w')=>Ma hb 0 0 e hH (.inl iT) (hrh.kl j hhb) hhb
 have a:=mX.refl lo L w;have c:=h;refine nP (fn:=Tryz.f68) (rs:=[.tmp 4]) (n:=15) Tryz.func68 rfl rfl Tryz.ntmps68 dA rfl<|mR<|mV<|mQ<|ng<|mR<|mP<|nD (g _ w c) ?_
 rintro _ l ⟨rfl,f⟩;replace a:=a.new f;replace c:=c.new f;refine mO (qy rfl rfl)<|mQ<|pJ rfl (eu)<|nL<|ny<|ng<|mR<|mP<|mO (Ae [.int .i64 0, .int .i64 0] dA)<|nD (i l a c) ?_;rintro _ p ⟨rfl,c,m⟩;replace a:=a.ll m (λb hb=>hb);refine nV<|mP<|mO (oD rfl rfl)<|mQ<|pJ rfl (iT)<|nL<|ny<|mR<|mV<|mQ<|nQ<|nR [_] ⟨rfl,trivial⟩ ?_;exact⟨rfl,c,a⟩
theorem GX(h:Two (GZ q N (nG H0) V k) Y lo L w)(hrh:row w hb [.pointer (some ⟨q,0,none⟩)] 201)(hhb:hb<lo\/hb∈L):
  CQ 21 [.pointer (some ⟨q,0,none⟩), .pointer (some ⟨hb,0,none⟩)] w (λv w'=>v= .int .i64 0/\Two (GZ q N (nG HT) V k) Y lo L w'/\mX lo L w w'):=by
 have a6:=Bo h;have a:=mX.refl lo L w;have f:=h;obtain⟨a7,a8,H⟩:=Jt (N:=N) eu;have t:=RO (N:=N) eu;have I:=λw' (m:mX lo L w w') (i:Two (GZ q N (nG H0) V k) Y lo L w')=>Rf (hb:=hb) i t (hrh.kl m hhb) hhb
 have y:=λw' (m:mX lo L w w') (i:Two (GZ q N (nG H0) V k) Y lo L w')=>IJ hb i t (hrh.kl m hhb) hhb
 have J:=λw' (m:mX lo L w w') (i:Two (GZ q N (nG H0) V k) Y lo L w')=>(Ij hb i t (hrh.kl m hhb) hhb).to λv w2 ⟨l,j⟩=>(show v=Value.tuple #[.int .i64 1, .int .i64 0]/\Two (GZ q N (nG HG) V k) Y lo L w2/\mX lo L w' w2 from by
  rcases l with⟨a9,H2,b0,e,_,p,r⟩|⟨e,_⟩
  .rw[UZ eu]at e;cases e;exact⟨p,r,j⟩
  .rw[UZ eu]at e;cases e)
 have z:=λw'=>(Ac (bl:=[]) (xs:=[.int .i64 1, .int .i64 0, .slice none 0 0]) (x:=nO 0 T0) w' ⟨none,0,[],rfl,nC.nil _ _ _,qQ.nil _ _,(λg o e=>nomatch e),ax _⟩ iT (λc u=>by cases u)).to λv w2 ⟨l,j⟩=>(show v=Value.tuple #[.agg (bv (oG (xM 0 T0))).toArray, .bool true]/\Below w'.heap.size w' w2 from⟨by
  rw[l,show tK (nO 0 T0).lv (nO 0 T0).cs=true from by decide,if_pos rfl,Ct],j⟩)
 have A:Good (xM 0 T0):=by
  rw[<-Ct];exact Fp (lv:=0) (cs:=[]) (λc u=>by cases u) iT
 have B:=uO A;have C:=λL' w' (i:Two (GZ q N (nG HG) V k) Y lo L' w')=>(Cm i 1 eu (Ad _ A.size)).to λv w2 ⟨l,j,p⟩=>(show v=Value.int .i64 0/\Two (GZ q N (nG HW) V k) Y lo L' w2/\mX lo L' w' w2 from⟨l,by rw[Sw iT iT]at j;exact j,p⟩)
 have K:=λL' w' (M:∀ b∈L,b∈L') (m:mX lo L w w') (i:Two (GZ q N (nG HW) V k) Y lo L' w')=>(RN hb 1 i H.hi.ok (hrh.kl m hhb) (hhb.imp id (M hb))).to λv w' h=>(show v=Value.int .i64 0/\Two (GZ q N (nG HT) V k) Y lo L' w'/\mX lo L' _ w' from by
  obtain⟨l,j,p⟩:=h;have O:yE N (1:Int)=0:=if_neg eu;rw[O]at l j;rcases j with⟨_,r⟩|⟨r,_⟩
  .exact⟨l,r,p⟩
  .exact absurd rfl r)
 obtain⟨Z,D⟩:=aa (oG (xM 0 T0));rw[D]at B;simp only[D]at z C;generalize nG HG=b1 at*;generalize nG HW=b2 at*;generalize nG HT=b3 at*;have P:H0.F.root=0:=rfl;have Q:∀ g:Nat,∀ b∈L,b∈g::L:=λg b hb=>aj _ hb
 rw[P]at y;refine nP (fn:=Tryz.f21) (rs:=[.tmp 4]) (n:=44) Tryz.func21 rfl rfl Tryz.ntmps21 dA rfl<|mR<|mV<|mQ<|ng<|mR<|mP<|mP<|nD (I w a f) ?_
 rintro _ R ⟨rfl,f,S⟩;replace a:=a.ll S (λb hb=>hb);refine nV<|mP<|mO (oD rfl rfl)<|mQ<|pJ rfl (iT)<|nL<|ny<|ng<|mR<|mP<|nD (y R a f) ?_;rintro _ T ⟨rfl,f,U⟩;replace a:=a.ll U (λb hb=>hb);refine mO (oD rfl rfl)<|mQ<|pJ rfl (iT)<|nL<|ny<|mR<|mP<|nD (J T a f) ?_;rintro _ X ⟨rfl,f,a0⟩;replace a:=a.ll a0 (λb hb=>hb);refine mP<|mO (nJ rfl rfl)<|mO (nJ rfl rfl)<|mV<|mV<|mQ<|ng<|mR<|mP<|mO (oD rfl rfl)<|mQ<|pJ rfl (iT)<|nL<|ny<|mR<|mP<|mO (xC (.int .i64 1) [.int .i64 1, .int .i64 0, .slice none 0 0] rfl dA)<|nD (z X) ?_;rintro _ b4 ⟨rfl,E⟩;replace f:=f.new E;replace a:=a.new E;refine lK ?_;have b5:=a.size;refine nz<|nU (List.replicate 512 (Value.int .u8 0)) dA<|λb6 b7 a1 s F=>?_
 replace f:=f.nA F a1 s.lt;replace a:=a.new F;refine nH<|nT 512 (bv Z) s<|λa2 s G=>?_
 replace f:=f.only G eG;replace a:=a.oq G;refine mV<|mQ<|ng<|mR<|mP<|mP<|mO (ou rfl (Ld.qp (k:=512) s dA dA B))<|nD (C _ a2 f) ?_
 rintro _ a3 ⟨rfl,f,a4⟩;replace a:=a.ll a4 (λb hb=>aj _ hb);refine nV<|mP<|mO (oD rfl rfl)<|mQ<|pJ rfl (iT)<|nL<|ny<|mR<|mP<|mP<|nD (K _ a3 (Q _) a f) ?_;rintro _ b8 ⟨rfl,f,a5⟩;replace a:=a.ll a5 (λb hb=>aj _ hb);refine lQ ?_;exact⟨rfl,f.weak λb hb=>aj _ hb,a⟩
end
section
variable {Y:World->List Nat->Prop}[hYT:mW Y]{q tb hb N lo:Nat}{L:List Nat}{G V:Nat->Pg}{k:Nat}{H:HS}{fl:List Nat}{l:Nat}{t:Tr l}{w:World}
theorem Lr{g7 g3:Nat}(h:Two (GZ q N (nG H) V k) Y lo L w)(hR:TR q tb hb N lo L H fl l t w)(hr7:row w g7 [.pointer (some ⟨tb,0,none⟩)] 37)(hg7:g7∈L)(hr3:row w g3 [.pointer (some ⟨hb,0,none⟩)] 36)(hg3:g3∈L):
  CQ 69 [.pointer (some ⟨g7,0,none⟩), .pointer (some ⟨g3,0,none⟩)] w (λ_ w'=>Two (GZ q N (nG H) V k) Y lo L w'/\mX lo L w w'):=by
 have hr:=hR.r;have f:=hR.rh;have a:Two (GZ q N (nG H) V k) Y lo (tb::hb::g7::g3::L) w:=uR (uR (uR (uR h (.inr hg3) hr3.lt) (.inr (aj _ hg7)) hr7.lt) (hR.hb.imp id λg=>aj _ (aj _ g)) f.lt) (hR.tb.imp id λg=>aj _ (aj _ (aj _ g))) hr.lt;have c:=mX.refl lo (tb::hb::g7::g3::L) w;have u:∀ w' L',Two (GZ q N (nG H) V k) Y lo L' w'->row w' hb [.pointer (some ⟨q,0,none⟩)] 201->(hb<lo\/hb∈L')->CQ 51 [.pointer (some ⟨hb,0,none⟩)] w' (λv w2=>v= .int .i64 (t.n:Int)/\Two (GZ q N (nG H) V k) Y lo L' w2/\mX lo L' w' w2):=λw' L' i j y=>by
  have:=IJ hb i hR.ok j y;rw[hR.rt]at this;exact this
 have z:=λw' L' (i:Two (GZ q N (nG H) V k) Y lo L' w') (j:row w' tb [.pointer (some ⟨q,0,none⟩), .pointer (some ⟨hb,0,none⟩)] 50)=>PM tb hb i j hR.ti.page.1 (x:=nO l t) rfl hR.ti.page.2 (hR.ti.yZ hR.sd)
 refine nP (fn:=Tryz.f69) (rs:=[]) (n:=6) Tryz.func69 rfl rfl Tryz.ntmps69 dA rfl<|vK lo ((tb::hb::g7::g3::L)) dA ?_
 intro A e p B;replace a:=a.new e;replace c:=c.new e;replace hr:=hr.new e;replace f:=f.new e;replace hr7:=hr7.new e;replace hr3:=hr3.new e;have C:=hr7;have D:=hr3;refine nI 0 (λw' m=>mZ (C.kL m))<|nI 1 (λw' m=>mZ (D.kL m))<|nS 2 dA<|qf rfl rfl (nX dA rfl) (u A _ a f ig) ?_
 rintro _ E ⟨rfl,a,o⟩;have r:=B.uK p o.wk;refine⟨r,?_⟩;replace c:=c.lq o;replace hr:=hr.kl o;refine nS 3 dA<|qf rfl rfl (nX dA rfl) (z E _ a hr) ?_;rintro _ G ⟨xs,bl,rfl,I,J,a,s⟩;have F:=r.uK p s.wk;refine⟨F,?_⟩;replace c:=c.lq s;refine oL dA<|zI [] trivial ?_;exact⟨a.weak λb hb=>by simp[hb],c.weak (ax _) λb hb=>by simp[hb]⟩
theorem OB(h:Two (GZ q N (nG H) V k) Y lo L w)(hok:qO N H fl)(hrh:row w hb [.pointer (some ⟨q,0,none⟩)] 201)(hhb:hb<lo\/hb∈L)(hti:xX N H l t)(hsd:qA l t [] [])(hrt:H.F.root=t.n):
  CQ 20 [.pointer (some ⟨q,0,none⟩), .pointer (some ⟨hb,0,none⟩)] w (λv w'=>∃ tb,v= .tuple #[.pointer (some ⟨tb,0,none⟩), .int .i64 0]/\row w' tb [.pointer (some ⟨q,0,none⟩), .pointer (some ⟨hb,0,none⟩)] 50/\w.heap.size<=tb/\Two (GZ q N (nG H) V k) Y lo (tb::L) w'/\mX lo L w w'):=by
 have a:=mX.refl lo L w;have f:=h;have K:=λL' w' (p:∀ b∈L,b∈L') (z:mX lo L w w') (M:Two (GZ q N (nG H) V k) Y lo L' w')=>Rf (hb:=hb) M hok (hrh.kl z hhb) (hhb.imp id (p hb))
 have O:∀ (W:World) (L2:List Nat) (tb g i:Nat),Two (GZ q N (nG H) V k) Y lo L2 W->(∀ b∈L,b∈L2)->tb∈L2->g∈L2->i∈L2->mX lo L w W->row W tb [.pointer (some ⟨q,0,none⟩), .pointer (some ⟨hb,0,none⟩)] 50->row W g [.pointer (some ⟨tb,0,none⟩)] 37->row W i [.pointer (some ⟨hb,0,none⟩)] 36->
   Calls Tryz.prog 35 [.pointer (some ⟨tb,0,none⟩), .slice none 0 0, .bool true, .func (.func 69) #[] [.pointer (some ⟨g,0,none⟩), .pointer (some ⟨i,0,none⟩)].toArray].toArray W
   (pX λv w'=>v= .int .i64 0/\Two (GZ q N (nG H) V k) Y lo L2 w'/\mX lo L2 W w'):=λW L2 tb g i A P Q o r z R j c=>by
  have E:TR q tb hb N lo L2 H fl l t W:=⟨hok,R, .inr Q,hrh.kl z hhb,hhb.imp id (P hb),hti,hsd,hrt⟩;refine(RI tb hb A E.r (kp:=none) (kn:=0) (kc:=0) 69 [.pointer (some ⟨g,0,none⟩), .pointer (some ⟨i,0,none⟩)] dA
   (λG' Y'=>G'=nG H/\Y'=Y) (λe G' Y'=>False)
   (λG' Y' ⟨_,e⟩=>by subst e;infer_instance) (λe G' Y' h=>h.elim) λL' w' p B S=>?_).to λv w' h=>?_
  .have T:=(E.ll B).mono p
   exact(Lr S T (j.kl B (.inr o)) (p _ o) (c.kl B (.inr r)) (p _ r)).toP λv w2 ⟨U,A⟩=>⟨_,_,⟨rfl,rfl⟩,U,A⟩
  .rcases h with⟨G',Y',⟨rfl,rfl⟩,X,Z,a0⟩|⟨e,G',Y',h,_⟩
   .exact⟨X,Z,a0⟩
   .exact h.elim
 refine nP (fn:=Tryz.f20) (rs:=[.tmp 4, .tmp 5]) (n:=26) Tryz.func20 rfl rfl Tryz.ntmps20 dA rfl<|mR<|nz<|oV ([_]) rfl<|λi a1 r c F=>?_
 replace f:=f.nA F r c.lt;replace a:=a.new F;refine mV<|mV<|mQ<|ng<|mR<|mP<|mO (mZ c) ?_
 have G:∀ b∈L,b∈i::L:=λb hb=>aj _ hb
 refine nD (K _ a1 G a f) ?_;rintro _ a6 ⟨rfl,f,I⟩;replace a:=a.ll I G;replace c:=c.kl I;refine nV<|mP<|mO (oD rfl rfl)<|mQ<|pJ rfl (iT)<|nL<|ny<|mR<|mP<|mO (mZ c)<|mO (AL (.pointer (some ⟨q,0,none⟩)) (.pointer (some ⟨hb,0,none⟩)) [.pointer (some ⟨q,0,none⟩), .pointer (some ⟨hb,0,none⟩)] rfl rfl dA) ?_
 have a7:=a.size;refine nz<|oV ([.pointer (some ⟨q,0,none⟩), .pointer (some ⟨hb,0,none⟩)]) rfl<|λs a8 a2 m C=>?_
 replace f:=f.nA C a2 m.lt;replace c:=c.new C;replace a:=a.new C;refine nz<|nU ([Value.pointer none]) dA<|λg a9 o j u=>?_
 have a3:i<g:=ae c.lt o;have a4:s<g:=ae m.lt o;replace f:=f.nA u o j.lt;replace c:=c.new u;replace a:=a.new u;replace m:=m.new u;refine nH<|oW j<|λa5 j y=>?_
 replace f:=f.only y eG;replace c:=c.only y (ai a3);replace a:=a.oq y;replace m:=m.only y (ai a4);refine mQ<|ng<|mR<|mO (mZ j)<|mO (sV) ?_
 have J:∀ b∈L,b∈g::s::i::L:=λb hb=>by simp[hb]
 refine qi rfl (nX dA rfl) (O a5 _ s g i f J ig ig ig a m j c) ?_;rintro _ b0 ⟨rfl,f,D⟩;replace a:=a.ll D J;replace m:=m.kl D;replace j:=j.kl D;refine nV<|mP<|mO (oD rfl rfl)<|mQ<|pJ rfl (iT)<|nL<|ny<|mR<|mO (mZ j)<|mV<|mV<|mQ<|nQ<|nR [_,_] ⟨rfl,rfl,trivial⟩ ?_
 exact⟨s,rfl,m,eu,f.weak λb hb=>by simp only[ak]at hb |-;rcases hb with h|h<;>simp[h],a⟩
end
section
variable {Y:World->List Nat->Prop}[hYT:mW Y]{lo:Nat}{L:List Nat}{w:World}
theorem Uk{n:Nat}(h:2<=n):nG HT n=uB:=by
 unfold nG;rw[if_neg eu,if_neg (by show¬n<2;omega)]
theorem YB(h:Two Y None lo L w)(pages:Nat)(hp4:4<=pages)(hp:pages<=240):
  CQ 19 [.int .i64 (pages:Int)] w (λv w'=>∃ q hb tb V,v= .tuple #[.pointer (some ⟨q,0,none⟩), .pointer (some ⟨hb,0,none⟩), .pointer (some ⟨tb,0,none⟩), .bool true]/\Two (GZ q pages (nG HT) V 3) Y lo (tb::hb::L) w'/\row w' hb [.pointer (some ⟨q,0,none⟩)] 201/\row w' tb [.pointer (some ⟨q,0,none⟩), .pointer (some ⟨hb,0,none⟩)] 50/\w.heap.size<=hb/\w.heap.size<=tb/\mX lo L w w'):=by
 have a:=mX.refl lo L w;have y:=VI (w:=w) (1+400+4*pages) eu eu;rw[show((1+400+4*pages:Nat):Int)=401+4*(pages:Int) by omega]at y;have m:=λg w' (c:Two (DZ g (wJ (1+400+4*pages))) Y lo L w')=>Hf c 400 ⟨eu,eu⟩ ((zl7 (n:=1+400+4*pages) eu).weak eu)
 have z:=BS (pages:=pages) (s:=400) eu eu;have H:vk (1+400+4*pages) 400=pages:=z;simp only[Ny,show Int.toNat 400=400 from rfl,H,if_neg (show¬pages<4 by omega)]at m;obtain⟨I,J,b4⟩:=SG (pages:=pages) (s:=400) eu eu eu;obtain⟨K,b5,b6,b7⟩:=zo2 (pages:=pages) (s:=400) eu eu eu;obtain⟨c1,c2⟩:=ztS (pages:=pages) (s:=400) 30 eu eu eu;have M:(Ec pages 400 30).n=pages:=(UX (pages:=pages) (s:=400) 30 eu eu eu).2.2.1;have O:PG (Ec pages 400 30) pages (λ_=>uB) (λ_=>uB) 2:=⟨FJ eu eu eu eu eu eu,M,λn b8=>rfl,rfl,λn b _ h=>nomatch h⟩;have P:=λg w' (c:Two (DZ g (xI pages 400)) Y lo L w')=>(KW c 400 30 (by rw[J,z];omega) ⟨eu,eu⟩ K (xZ I.short eu) c1).to λv A ⟨C,k⟩=>(show(∃ q,v=Value.tuple #[Value.pointer (some ⟨q,0,none⟩),Value.int .i64 0]/\Two (GZ q pages (λ_=>uB) (λ_=>uB) 2) Y lo L A)/\mX lo L w' A from by
  rw[c2]at C;rcases C with⟨p,_⟩|⟨_,x,q,mc,md,cv,e,j⟩
  .exact absurd rfl p
  .exact⟨⟨q,e,QZ O (Yh j)⟩,k⟩)
 have Q:yJ (DF (wJ (1+400+4*pages)) 400 pages) 400=xI pages 400:=rfl;rw[Q]at m;generalize xI pages 400=D1 at*;obtain⟨b9,l⟩:=Cy (N:=pages) eu eu;have R:=λq w' (c:Two (GZ q pages (λ_=>uB) (λ_=>uB) 2) Y lo L w')=>EZ c
 have S:=λq w' (c:Two (GZ q pages (nG H0) (λ_=>uB) 2) Y lo L w')=>NV c (RO eu)
 have T:=λq hb w' (c:Two (GZ q pages (nG H0) (λ_=>uB) 2) Y lo (hb::L) w') hr=>GX (hb:=hb) c hr (.inr (aK ..))
 have U:=λq hb w' (c:Two (GZ q pages (nG HT) (λ_=>uB) 2) Y lo (hb::L) w')=>FU c eu (f:=2) eu λn p _=>Uk p
 have X:=λq hb V w' (c:Two (GZ q pages (nG HT) V 3) Y lo (hb::L) w') hr=>OB (hb:=hb) c l.ok hr (.inr (aK ..)) l.ti l.tr.snd_ l.rt
 generalize nG HT=c4 at*;generalize nG H0=P0 at*;refine nP (fn:=Tryz.f19) (rs:=[.tmp 2, .tmp 3, .tmp 4, .tmp 5]) (n:=69) Tryz.func19 rfl rfl Tryz.ntmps19 dA rfl<|mR<|mV<|mV<|mV<|nV<|mP<|mO (yD rfl rfl (Coup.nN eu))<|mO (om rfl rfl (Coup.nN eu))<|nD (y) ?_
 rintro _ Z ⟨g,B,rfl,hX,a0,D⟩;have r:=(h.add (Y:=DZ g (wJ (1+400+4*pages))) D hX a0).swap;replace a:=a.new D;refine mP<|mO (nJ rfl rfl)<|mO (nJ rfl rfl)<|mV<|mV<|mQ<|ng<|mR<|mP<|mO (oD rfl rfl)<|mP<|rD 23 rfl (ig)<|mY<|mP<|mY<|nD (m g Z r) ?_;rintro _ a1 ⟨rfl,r,a2⟩;replace a:=a.lq a2;refine mY<|mO (oD rfl rfl)<|mO (oo rfl)<|mQ<|pJ rfl (ig)<|nL<|ny<|mR<|mP<|nD (P g a1 r) ?_;rintro _ a3 ⟨⟨q,rfl,j⟩,a4⟩;replace a:=a.lq a4;refine mP<|mO (nJ rfl rfl)<|mO (nJ rfl rfl)<|mV<|mV<|mQ<|ng<|mR<|mP<|mO (oD rfl rfl)<|mP<|rD 35 rfl (ig)<|mY<|mP<|mY<|nD (R q a3 j) ?_;rintro _ a5 ⟨rfl,j,a6⟩;replace a:=a.lq a6;refine mY<|mO (oD rfl rfl)<|mO (oo rfl)<|mQ<|pJ rfl (ig)<|nL<|ny<|mR<|mP ?_;have c5:=a.size;refine nD (S q a5 j) ?_;rintro _ a7 ⟨hb,rfl,i,c6,t,a8⟩;replace a:=a.lq a8;refine mP<|mO (nJ rfl rfl)<|mO (nJ rfl rfl)<|mV<|mV<|mQ<|ng<|mR<|mP<|mO (oD rfl rfl)<|mP<|rD 47 rfl (ig)<|mY<|mP<|mY<|mP<|mY ?_;have u:∀ b∈L,b∈hb::L:=λb hb=>aj _ hb
 refine nD (T q hb a7 t i) ?_;rintro _ a9 ⟨rfl,t,E⟩;replace a:=a.ll E u;replace i:=i.nu E.kp dB;refine mY<|mO (oD rfl rfl)<|mO (oo rfl)<|mP<|rD 53 rfl (ig)<|mY<|mP<|mY<|nD (U q hb a9 t) ?_
 rintro _ b0 ⟨rfl,b1,F⟩;replace a:=a.ll F u;replace i:=i.nu F.kp dB;refine mY<|mO (oD rfl rfl)<|mO (oo rfl)<|mQ<|pJ rfl (ig)<|nL<|ny<|mR<|mP<|mP ?_;have c7:=a.size;refine nD (X q hb _ b0 b1 i) ?_;rintro _ c8 ⟨tb,rfl,b2,c9,b3,G⟩;replace a:=a.ll G u;replace i:=i.nu G.kp dB;refine mP<|mO (nJ rfl rfl)<|mO (nJ rfl rfl)<|mV<|nV<|mP<|mP<|mP<|mP<|mO (qy rfl rfl)<|mV<|mV<|mV<|mV<|mQ<|nQ<|nR [_,_,_,_] ⟨rfl,rfl,rfl,rfl,trivial⟩ ?_;exact⟨q,hb,tb,_,rfl,b3,i,b2,eu,eu,a⟩
end
end Go.Proofs.YtpaniebomegnbaaGreat
namespace Coup
open Go Go.RowKit
section
variable {P:Program}{ρ:Env}{w:World}{d:Option Nat}{ty:TypeId}{pos:String}{af:Array Edge}{gd:Option (Nat × Bool)}
end
end Coup
namespace Go.Proofs.YtpaniebomegnbaaGreat
open Go Go.RowKit Coup
section
variable {α:Type}
end
abbrev Rw:=List (Key × (Nat × Nat))
def Bh(q:Option Addr)(qc:Nat)(r:Key × (Nat × Nat)):List Value:=[.slice q r.1.length qc, .int .i64 (r.2.1:Int), .int .i64 (r.2.2:Int)]
def Jr(S:Nat->Prop)(w:World)(xs:List Value)(r:Key × (Nat × Nat)):Prop:=∃ q qc,xs=Bh q qc r/\nC w q r.1.length 1 (bv r.1)/\∀ g o,q=some ⟨g,o,none⟩->S g
theorem Mc{vs:List Value}{r:Key × (Nat × Nat)}{q:Option Addr}{qc i:Nat}(h:(vs.drop (i*3)).take 3=Bh q qc r):vs[i*3]?=some (.slice q r.1.length qc):=by
 have a:=congrArg (λl:List Value=>l[0]?) h;rw[jI eu,bD]at a;exact a
structure AU(S:Nat->Prop)(w:World)(vs:List Value)(rs:Rw):Prop where
 len:vs.length=rs.length*3
 at_:∀ i r,rs[i]?=some r->Jr S w ((vs.drop (i*3)).take 3) r
namespace AU
variable {S S':Nat->Prop}{w w':World}{vs xs:List Value}{rs:Rw}{r:Key × (Nat × Nat)}
theorem nil:AU S w [] []:=⟨rfl,λi r a=>by cases a⟩
theorem mono(h:AU S w vs rs)(hS:∀ b,S b->S' b):AU S' w vs rs:=⟨h.len,λi r a=>let ⟨q,qc,h1,h2,h3⟩:=h.at_ i r a;⟨q,qc,h1,h2,λg o e=>hS g (h3 g o e)⟩⟩
theorem snoc(h:AU S w vs rs)(hc:Jr S w xs r):AU S w (vs++xs) (rs++[r]):=by
 obtain⟨p,e,rfl,f⟩:=hc;have c:=h.len;refine⟨by rw[aA,aA,c];show _+3=(_+1)*3;omega,λi d a=>?_⟩
 by_cases g:i<rs.length
 .rw[bG g]at a
  rw[eH eu,fF lc];exact h.at_ i d a
 .rw[bC eu]at a
  obtain rfl:i=rs.length:=by
   have:=(aO.1 a).1;simp at this;omega
  rw[bL]at a;cases a;rw[<-c,dF];exact⟨p,e,rfl,f⟩
theorem ld{p:Option Addr}{n i:Nat}(hc:AU S w vs rs)(h:nC w p n 3 vs)(hn:n=rs.length)(hi:rs[i]?=some r):∃ g o q qc,p=some ⟨g,o,none⟩/\vs[i*3]?=some (.slice q r.1.length qc)/\nC w q r.1.length 1 (bv r.1)/\(∀ g o,q=some ⟨g,o,none⟩->S g)/\∀ w',Below w.heap.size w w'->Ld Tryz.prog w' 70 ⟨g,o+i*3,none⟩ (.agg (Bh q qc r).toArray):=by
 have f:=(aO.1 hi).1;obtain⟨g,o,rfl,l⟩:=h.some eu;obtain⟨q,qc,a,c,e⟩:=hc.at_ i r hi;refine⟨g,o,q,qc,rfl,Mc a,c,e,λw' hb=>?_⟩;have m:=hc.len;have:=Ld.zB (P:=Tryz.prog) (t:=70) (j:=i*3) (k:=3) (h.new hb) dA dA eu;rw[a]at this;exact this
end AU
section
variable {S:Nat->Prop}{w:World}{p pk:Option Addr}{n c ck:Nat}{vs:List Value}{rs:Rw}{key:Key}
end
section
variable {S:Nat->Prop}{w:World}{p pk:Option Addr}{n c ck:Nat}{vs:List Value}{rs:Rw}{key:Key}
end
theorem Ps{r:Key × (Nat × Nat)}{vs:List Value}{q:Option Addr}{qc i:Nat}(h:(vs.drop (i*3)).take 3=Bh q qc r):(vs.drop (i*3+1)).take 2=[.int .i64 (r.2.1:Int), .int .i64 (r.2.2:Int)]:=by
 have a:=congrArg (λl:List Value=>l.drop 1) h;rw[eU,dP]at a;exact a
def Ao(zs:List Int):List Value:=zs.map (.int .u8)
theorem LZ(l:List UInt8):bv l=Ao (l.map λb=>(b.toNat:Int)):=by
 unfold Ao;rw[dE];rfl
theorem FQ{zs:List Int}{i:Nat}{z:Int}(h:i<zs.length):splice (Ao zs) i [.int .u8 z]=Ao (zs.set i z):=by
 refine dV λk=>?_
 have f:(Ao zs).length=zs.length:=aQ _;rw[OM (by rw[f];show i+1<=_;omega)];unfold Ao;rw[aW,aW,eO]
 by_cases a:k<i
 .rw[if_pos a,if_neg eu]
 .rw[if_neg a]
  by_cases c:k=i
  .subst c
   rw[if_pos (by show k<k+1;omega),if_pos rfl,if_pos h,bL];rfl
  .rw[if_neg (by show¬k<i+1;omega),if_neg (λe=>c e.symm)]
section
variable {X Y:World->List Nat->Prop}[hXT:mW X][hYT:mW Y]{lo:Nat}{L:List Nat}{w:World}
theorem BD (rows:Rw) (tv fv bv_:Value) {pw:Option Addr} {nw cw:Nat} {vsw:List Value} (h:Two X Y lo L w)
  (hall:TB X Y lo L w tv fv bv_ rows)
  (hkeys:∀ r∈rows,r.1.length<=300) (hw:nC w pw nw 3 vsw) (hre:AU (λb=>b<lo\/b∈L) w vsw rows) (hn:nw=rows.length) (hpw:∀ g o,pw=some ⟨g,o,none⟩->g<lo\/g∈L):
  CQ 12 [tv,fv,bv_, .slice pw nw cw, .int .i64 0] w (λv w'=>v= .bool true/\Two X Y lo L w'/\mX lo L w w'):=by
 have B:=mX.refl lo L w;have F:=h;have l7:=h.lo;have l8:=h.lt;refine nP (fn:=Tryz.f12) (rs:=[.cell 10 4]) (n:=72) Tryz.func12 rfl rfl Tryz.ntmps12 dA rfl<|mR<|nz<|oV ([.slice pw nw cw]) rfl<|λM l9 g0 f e1=>?_
 replace F:=F.nA e1 g0 f.lt;replace B:=B.new e1;refine nz<|oV ([.int .i64 0]) rfl<|λN m0 g1 y c7=>?_
 replace F:=F.nA c7 g1 y.lt;replace B:=B.new c7;replace f:=f.new c7;have m1:=B.size;refine nz<|nU ([Value.bool false]) dA<|λO m2 g2 r b0=>?_
 replace F:=F.nA b0 g2 r.lt;replace B:=B.new b0;replace f:=f.new b0;replace y:=y.new b0;refine pV ?_;have m3:=B.size;refine nz<|nU ([Value.int .i64 0]) dA<|λC m4 b1 A a4=>?_
 have e2:M<C:=ae f.lt b1;have e3:N<C:=ae y.lt b1;have e4:O<C:=ae r.lt b1;replace F:=F.nA a4 b1 A.lt;replace B:=B.new a4;replace f:=f.new a4;replace y:=y.new a4;replace r:=r.new a4;refine nH<|oW A<|λg3 A a5=>?_
 replace F:=F.only a5 eG;replace B:=B.oq a5;replace f:=f.only a5 (ai e2);replace y:=y.only a5 (ai e3);replace r:=r.only a5 (ai e4);refine pV<|mP<|mP<|mP ?_
 have e5:∀ b∈L,b∈C::O::N::M::L:=λb hb=>by simp[hb]
 refine nD (hall g3 B _ F e5) ?_;rintro _ b2 ⟨ga,u,bl,cs,rfl,c8,g4,c9,g5,e6,a6⟩;replace B:=B.ll a6 e5;replace f:=f.kl a6;replace y:=y.kl a6;replace r:=r.kl a6;replace A:=A.kl a6;refine mV<|mQ<|ng<|mR<|mP<|mO (zua dA rfl)<|mQ<|tC rfl (rfl)<|nL<|ny<|ng<|mR<|mP<|mQ<|oU ?_
 obtain⟨g6,g7⟩:=aa (ga::(u.ownBlock.toList++bl));have e7:EX Tryz.prog 40 [.pointer (some ⟨ga,0,none⟩)] cs.length (NT cs) (λ_ _ _=>True) (ga::(u.ownBlock.toList++bl)) X lo b2:=Px (X:=X) (lo:=lo) ga bl u cs b2 g5 (zna c8 hkeys) g4;have m5:cs.length=rows.length:=by rw[<-c8,aQ]
 rw[g7]at c9 e6 e7;have b3:=c9.lt;obtain⟨Dm,e8⟩:=aa ((b2).heap.size);obtain⟨L2,b4⟩:=aa (g6++(C::O::N::M::L));have g8:Two X Y lo L2 b2:=by rw[<-b4];exact c9
 have Q:M∈L2/\N∈L2/\O∈L2/\C∈L2:=by rw[<-b4];simp
 have d0:∀ b∈L,b∈L2:=λb hb=>by rw[<-b4];simp[hb]
 have g9:=b3 M ig;have h0:=b3 N ig;have h1:=b3 O ig;have h2:=b3 C ig;have h3:=B.size;rw[e8]at g9 h0 h1 h2 h3;refine M_ (τ:=Unit) (m:=cs.length) (V:=NT cs) (T0:=λ_ _ _=>True) (ps:=[23,24]) (L:=L2) (X:=X) (Y:=Y) (α:=Unit) (λ_=>[]) (Dm+1) [Dm] (λh4 h=>by rw[show h4=none from h,<-e8];exact U_ _ _) rfl dA e7 (λ_ i v _ _ _ _ d1=>by obtain⟨_,_,_,_,rfl,_⟩:=d1;rfl) dA ig (λb hb=>by rw[<-b4];exact aF _ hb)
  (λ_ j _ w'=>j<=cs.length/\row w' M [.slice pw nw cw] 40/\row w' N [.int .i64 0] 3/\row w' O [.bool false] 4/\row w' C [.int .i64 (j:Int)] 3/\mX lo L w w') (λ_ _=>False)
  ?_ ?_ (λ_ _ _ h=>h.elim) (λ_ _ _ h=>h.elim) (λ_ _ _ _ _ b hb=>by cases hb) () (show Two _ Y lo ([]++L2) _ from g8) ?_ ?_ ?_ (λc W' h=>h.elim)
 .rintro _ j _ W W' ⟨b5,I,G,J,E,d2⟩ H
  exact⟨b5,I.kl H (.inr kS),G.kl H (.inr kS),J.kl H (.inr kS),E.kl H (.inr kS),d2.ll H λb hb=>by simp[d0 b hb]⟩
 .rintro _ j _ W W' ⟨b5,I,G,J,E,d2⟩ S
  exact⟨b5,I.only S eu,G.only S eu,J.only S eu,E.only S eu,d2.only S kJ⟩
 .intro _ W' _ H
  exact⟨aC _,f.kl H (.inr kS),y.kl H (.inr kS),r.kl H (.inr kS),A.kl H (.inr kS),B.ll H λb hb=>by simp[d0 b hb]⟩
 .clear f y r A
  rintro _ j v _ W1 Z Fr h5 d1 h6 e9 K ⟨m6,f,y,r,A,R⟩ m7;obtain⟨c,p,d3,h7,rfl,b6,f0⟩:=d1;have D:=Below.refl W1.heap.size W1;have h8:∀ b∈Z,b≠M/\b≠N/\b≠O/\b≠C:=λb hb=>by
    rcases h6 b hb with h|h
    · have a1:=(e6 b h).2
      simp only[ak,not_or]at a1;exact⟨a1.2.2.2.1,a1.2.2.1,a1.2.1,a1.1⟩
    · exact⟨eu,eu,eu,eu⟩
  refine mR<|mV<|mQ<|nM<|nz<|nU ([Value.int .i64 0,Value.int .i64 0]) dA<|λm8 m9 h9 T i0=>?_
  have i1:=ag D.size h9;replace D:=D.acc i0;refine nH<|nT 2 ([.int .i64 (c.2.1:Int), .int .i64 (c.2.2.1:Int)]) T<|λn0 T i2=>?_
  replace D:=i2.below D i1;refine oH<|⟨rfl,D,λW2 U _=>?_⟩
  have f1:∀ b∈Fr,Dm+1<b/\b∉Z:=λb hb=>⟨(e9 b hb).1,(e9 b hb).2.1⟩
  have b7:rows[j]?=some (zY c):=by rw[<-c8,aW,h7];rfl
  have i3:=hkeys _ (aN b7);have n1:=(aO.1 b7).1;have a7:=hre.ld hw hn b7;obtain⟨f2,op,q,n2,i4,i5,i6,i7,n3⟩:=a7;have i8:=Ps (hre.at_ j _ b7).choose_spec.choose_spec.1;have n4:=hre.len;subst i4;have n5:∀ b∈Fr,b<W1.heap.size:=λb hb=>K.lt b jP
  replace f:=(f.new D).only U eu;replace y:=(y.new D).only U eu;replace r:=(r.new D).only U eu;replace A:=(A.new D).only U eu;replace T:=T.only U eu;replace b6:=(Coup.nY.new b6 D).nu (Kp.rC U) (λg a e=>by
    have b5:=(f1 g (by rw[<-f0];exact ah.2 e)).1;have a1:=aM.1 a;omega)
  replace R:=(R.new D).only U kJ;replace K:=(K.new D).only U (.inr ig);have i9:=mX.refl lo ((Dm+1)::Dm::Z) W2;have a0:=Below.refl W2.heap.size W2;have j0:=hw.sS R hpw;have j1:=i6.sS R i7;have f3:=j0;have j2:=j1;have j3:=b6.sl;have j4:∀ w',Below W2.heap.size W2 w'->Ld Tryz.prog w' 30 ⟨f2,op+(j*3+1),none⟩ (.agg #[.int .i64 (c.2.1:Int), .int .i64 (c.2.2.1:Int)]):=λw' hb=>by
    have:=Ld.zB (P:=Tryz.prog) (t:=30) (j:=j*3+1) (k:=2) (f3.new hb) dA dA eu;rw[i8]at this;exact this
  refine oU<|ng<|ng<|qz [] dA ?_
  intro n6 a2 n7;replace T:=T.new a2;replace f:=f.new a2;replace y:=y.new a2;replace r:=r.new a2;replace A:=A.new a2;replace a0:=a0.acc a2;have j5:=T;have d4:=f;have d5:=A;have b8:=a0;refine nI 0 (λw' z=>mZ (d5.kq z))<|nI 1 (λw' z=>mZ (d4.kq z))<|mU 2 (oQ (e:=70) (sz:=3) dA rfl rfl)<|mU 3 (tN rfl rfl)<|mU 4 (nK)<|Aw 29 rfl (eu)<|mU 5 (nK)<|nI 6 (λw' z=>BO (e:=5) (l:=c.1) dA dA dA rfl (j3.new (b8.nu z eD)))<|nI 7 (λw' z=>mZ (d4.kq z))<|nI 8 (λw' z=>mZ (d5.kq z))<|mU 9 (rE (e:=70) (sz:=3) dA rfl rfl (j) eu eu)<|mU 10 (nk 0)<|nI 11 (λw' z=>ou rfl (Ld.sl1 (off:=op) (j:=j*3) (f3.new (b8.nu z eD)) dA i5))<|nI 12 (λw' z=>BO (e:=5) (l:=c.1) dA dA dA rfl (j2.new (b8.nu z eD)))<|mU 13 (Gn rfl rfl)<|mU 14 (oo rfl)<|mU 15 (nK)<|Br 40 rfl (ig)<|nI 16 (λw' z=>ou rfl (Ld.qp (k:=2) (j5.kq z) dA dA rfl))<|nI 17 (λw' z=>mZ (d4.kq z))<|nI 18 (λw' z=>mZ (d5.kq z))<|mU 19 (rE (e:=70) (sz:=3) dA rfl rfl (j) eu eu)<|mU 20 (nk 1)<|nI 21 (λw' z=>ou rfl (j4 _ (b8.nu z eD))) ?_
  refine mU 22 (y_ (k0:=.i64) (k1:=.i64) dA rfl rfl)<|mU 23 (oo rfl)<|oL dA<|ny<|GU rfl (ig)<|nL<|ny<|ng<|mR<|mV<|mQ<|oU ?_
  have j6:=K.new a0;have j7:=R.new a0;have j8:=i9.new a0;have f4:=Coup.nY.new b6 a0;rw[LZ]at f4;have n8:w.heap.size<=C:=by omega
  have n9:c.1.length<=300:=i3;have j9:C∉(Dm+1)::Dm::Z:=λa=>by
    simp only[ak]at a;rcases a with h|h|h
    · omega
    · omega
    · exact(h8 _ h).2.2.2 rfl
  refine qZ (α:=Nat × List Int) (0,c.1.map λb=>(b.toNat:Int)) (λs=>[(15, .int .i64 (s.1:Nat)),(13, .slice p c.1.length d3),(8, .pointer (some ⟨M,0,none⟩)),(9, .pointer (some ⟨N,0,none⟩)),(10, .pointer (some ⟨O,0,none⟩)),(11, .pointer (some ⟨C,0,none⟩))])
    (λs w'=>s.1<=c.1.length/\nY w' 0 5 1 (.slice p c.1.length d3) c.1.length (Ao s.2)/\Two X Y lo (Fr++(Z++([]++(Dm+1)::([Dm]++L2)))) w'/\mX lo L w w'/\mX lo ((Dm+1)::Dm::Z) W2 w'/\row w' M [.slice (some ⟨f2,op,none⟩) nw cw] 40/\row w' N [.int .i64 0] 3/\row w' O [.bool false] 4/\row w' C [.int .i64 (j:Int)] 3) (λs=>c.1.length - s.1)
    ⟨rfl,rfl,rfl,rfl,rfl,rfl,rfl⟩ ⟨aC _,f4,j6,j7,j8,f,y,r,A⟩ ?_
  clear f y r A T;rintro⟨i,a3⟩ o0 d6 ⟨k7,b9,f5,f6,f7,I,G,J,E⟩;dsimp only at k7 b9;have k8:a3.length=c.1.length:=by have h:=b9.1;unfold Ao at h;rw[aQ]at h;omega
  have o1:=Below.refl d6.heap.size d6;have o2:(Ao a3).length=c.1.length:=by unfold Ao;rw[aQ,k8]
  refine ng<|mR<|mP<|mP<|mO (oQ (e:=5) (sz:=1) dA rfl rfl)<|mO (pE rfl rfl)<|mQ<|oP rfl (λk9=>?_)<|λk9=>?_
  ·
   refine nL<|ny<|ng<|oU ?_
   have a7:=b9.form' eu;obtain⟨c4,ok,ck,l0,_⟩:=a7;cases l0;have f8:c4∈Fr:=by rw[<-f0];exact ah.2 rfl
   have l1:=f1 c4 f8;have a7:∃ a8,a3[i]?=some a8:=⟨_,aI eu⟩;obtain⟨a8,l2⟩:=a7;have l3:(Ao a3)[i]?=some (.int .u8 a8):=by unfold Ao;rw[aW,l2];rfl
   have c5:qI d6 0 5 1 c4 ok c.1.length d3 (Ao a3):=b9;have l4:=c5.sl;refine nM<|mP<|mP<|mP<|mP<|mO (vg (e:=5) dA rfl rfl (i) eu eu)<|mO (ou rfl (Ld.sl1 (off:=ok) (j:=i) l4 dA l3))<|mO (om rfl rfl rfl)<|mO (vg (e:=5) dA rfl rfl (i) eu eu)<|nH<|Jg ([.int .u8 (IntKind.u8.wrap (a8+1))]) (i) c5 rfl rfl dA ku ko<|λo3 c5 a9=>?_
   replace I:=I.only a9 eu;replace G:=G.only a9 eu;replace J:=J.only a9 eu;replace E:=E.only a9 eu;have d7:=a9;refine oH<|pW<|ny<|nM<|mP<|mO (om rfl rfl (show IntKind.i64.wrap ((i:Int)+1)=((i+1:Nat):Int) by rw[nN eu];omega))<|mV<|oH ?_
   have l5:c4∉(Dm+1)::Dm::Z:=λa=>by
     simp only[ak]at a;rcases a with h|h|h
     · omega
     · omega
     · exact l1.2 h
   refine oO ⟨(i+1,a3.set i (IntKind.u8.wrap (a8+1))),by dsimp only;omega,⟨rfl,rfl,rfl,rfl,rfl,rfl,rfl⟩,by dsimp only;omega,?_,f5.only d7 (.inr (aF _ f8)),f6.only d7 kJ,f7.only d7 (.inr ⟨eu,l5⟩),I,G,J,E⟩;dsimp only;rw[<-FQ eu];exact c5
  ·
   refine qP<|qL<|rf<|qX<|ny<|mR<|mO (mZ E)<|mO (om rfl rfl (show IntKind.i64.wrap ((j:Int)+1)=((j+1:Nat):Int) by rw[nN eu];omega))<|nH<|oW E<|λo4 E c6=>?_
   replace I:=I.only c6 (ai e2);replace G:=G.only c6 (ai e3);replace J:=J.only c6 (ai e4);have d8:=c6;refine pV<|mO (mZ E)<|mO (mZ G)<|mO (qy rfl rfl)<|mQ<|pJ rfl (eu)<|nL<|pW ?_
   exact⟨f7.only d8 (.inr ⟨eu,j9⟩),(),(f5.only d8 (.inr kS)).weak (λb hb=>aB _ hb),h5,I,G,J,E,f6.only d8 kJ⟩
 .clear f y r A
  rintro _ _ W K ⟨_,f,y,r,A,R⟩ l6;have d9:Au W Dm:=⟨l6 Dm ig⟩;replace K:Two X Y lo (Dm::L2) W:=K;refine pW<|ny<|mR<|mO (mZ A)<|mO (mZ f)<|mO (oQ (e:=70) (sz:=3) dA rfl rfl)<|mO (qy rfl rfl)<|nH<|oW r<|λf9 r e0=>?_
  replace R:=R.only e0 jB;replace d9:=d9.only e0 eu;replace K:=K.only e0 eG;refine mQ<|nQ<|Oh [_] Dm d9.d ⟨⟨_,rfl,Ld.qN (r.only (Gm _) eu) dA rfl⟩,trivial⟩ ?_
  have S:Only Dm f9 (World.putObj f9 Dm (.deferred none)):=Gm _;exact⟨congrArg Value.bool (decide_eq_true eu),(K.only S (.inr ig)).weak (λb hb=>by simp[d0 b hb]),R.only S kJ⟩
end
theorem HM.QD{N:Nat}{H:HS}{fl rl:List Nat}{R:Nat->Nat->Prop}{P:Nat->Nat->List Nat}{B:Nat->Nat->List UInt8}{Gv:List Nat}(h:HM N H fl rl R P B [] Gv):uo N H+Gv.length+1=N:=by
 have p:=h.hi.ok.f1;have q:=h.hi.ok.fN;have j:(fl++Gv).Nodup:=bS.2 ⟨h.hi.ok.nd,h.gn,λa k b hb e=>by
  have c:=(h.hi.ok.fk a k).2.2;have i:=(h.g3 b).1 hb;rw[e,i]at c;cases c⟩
 have r:fl.length+Gv.length=H.F.fresh - 1:=by
  have hp:=((jG (List.nodup_range' (s:=1) (n:=H.F.fresh - 1)) j).2 λn=>?_).length_eq
  .rw[List.length_range',aA]at hp;omega
  .rw[dh,ay]
   constructor
   .rintro⟨c,i⟩
    have t:=h.k3 n
    by_cases l:(H.S n).kind=3
    .exact .inr<|(h.g3 n).2 l
    have u:(H.S n).kind≠1:=λe=>by
     obtain⟨s,o⟩:=h.VP (h.hi.c1 n c eu e);have:=(h.ra n s).1 o;cases this
    have v:(H.S n).kind≠2:=λe=>by
     rcases h.hi.c2 n c eu e with f|⟨m,s,f,_⟩
     .cases f
     .have:=(h.ra m s).1 f;cases this
    exact .inl<|h.hi.c0 n c eu eu
   .rintro(g|g)
    .have:=h.hi.ok.fk n g
     omega
    .have:=h.gf n g
     omega
 have:=h.hi.ok.fm;unfold uo;omega
namespace TS
variable {N:Nat}{H:HS}{fl rl:List Nat}{R:Nat->Nat->Prop}{P:Nat->Nat->List Nat}{B:Nat->Nat->List UInt8}{A:List (Nat × Nat)}{l:Nat}{t:Tr l}
theorem Oj(h:TS N H fl rl R P B [] l t):uo N H+(og l t).length+1=N:=by
 obtain⟨Gv,a,c⟩:=h.hm;rw[<-c.length_eq];exact a.QD
theorem CF{q tb hb lo:Nat}{L:List Nat}{w:World}(h:TS N H fl rl R P B A l t)(hr:row w tb [.pointer (some ⟨q,0,none⟩), .pointer (some ⟨hb,0,none⟩)] 50)(htb:tb<lo\/tb∈L)(hrh:row w hb [.pointer (some ⟨q,0,none⟩)] 201)(hhb:hb<lo\/hb∈L):TR q tb hb N lo L H fl l t w:=
 ⟨h.ok,hr,htb,hrh,hhb,h.ti,h.tr.snd_,h.rt⟩
end TS
theorem VU{x:MN}{c:Key × V3}(h:tK x.lv (pQ x.cs c)=true):vD [x] c []=0:=by
 unfold vD zz;rw[show[x].reverse=[x]from rfl,xU,if_pos h,qG,if_pos h];rfl
theorem Un {H H':HS} {fl':List Nat} {R:Nat->Nat->Prop} {P:Nat->Nat->List Nat} {B:Nat->Nat->List UInt8} {t:Tr 0} {l':Nat} {t':Tr l'} {key:Key} {u:Nat × Nat} (hr:uo 5 H=3) (hf:tK 0 (pQ (toM 0 t.ks) (key,(u.1,u.2,0)))=true) {rl:List Nat}
  (hS:TS 5 H' fl' rl R P B [] l' t') (hp:NM 5 H 0 t key u H' l' t'):uo 5 H'=3/\l'=0:=by
 have a:=hp.room;have c:vD (tH 0 t key) (key,(u.1,u.2,0)) []=0:=VU (x:=nO 0 t) hf;rw[c,dD,hr]at a;have e:=hS.Oj;have f:=SY hS.tr.snd_;exact⟨a,eu⟩
section
variable {Y:World->List Nat->Prop}{q tb hb lo:Nat}{L:List Nat}{V:Nat->Pg}{k:Nat}{H:HS}{fl rl:List Nat}{R:Nat->Nat->Prop}{P:Nat->Nat->List Nat}{B:Nat->Nat->List UInt8}{t:Tr 0}{w:World}
theorem EH [mW Y] {rows:Rw} (key:Key) (u:Nat × Nat) (h:Two (GZ q 5 (nG H) V k) Y lo L w) (hS:TS 5 H fl rl R P B [] 0 t) (hrm:uo 5 H=3) (hks:oC 0 t=rows) (hr:row w tb [.pointer (some ⟨q,0,none⟩), .pointer (some ⟨hb,0,none⟩)] 50) (htb:tb<lo\/tb∈L) (hrh:row w hb [.pointer (some ⟨q,0,none⟩)] 201) (hhb:hb<lo\/hb∈L)
  {pk:Option Addr} {ck n:Nat} (hn:n=key.length) (hkey:nC w pk n 1 (bv key)) (hkL:∀ g o,pk=some ⟨g,o,none⟩->g<lo\/g∈L) (hkk:qD key) (hu1:u.1<2147483648) (hu2:u.2<65536) (hf:tK 0 (pQ (rows.map λx=>(x.1,(x.2.1,x.2.2,0))) (key,(u.1,u.2,0)))=true):
  CQ 16 [.pointer (some ⟨tb,0,none⟩), .slice pk n ck, .agg #[.int .i64 (u.1:Int), .int .i64 (u.2:Int)]] w (λv w'=>(v= .int .i64 0/\∃ (H':HS) (fl':List Nat) (t':Tr 0),TS 5 H' fl' rl R P B [] 0 t'/\uo 5 H'=3/\oC 0 t'=Bb rows (key,u)/\Two (GZ q 5 (nG H') V k) Y lo L w')/\mX lo L w w'):=by
 subst hn;have i:TR q tb hb 5 lo L H fl 0 t w:=hS.CF hr htb hrh hhb;refine(Qh h i hS (u.1:Int) (u.2:Int) hkey λ_=>hkL).to λv w' ⟨j,k⟩=>⟨?_,k⟩
 rcases j with⟨a,H',fl',l',t',e,_,r,s,_,_,f,hp,l⟩|⟨e,_,g|⟨_,_,_,g⟩,_⟩
 .obtain rfl:a=u:=Prod.ext eu eu
  have m:tK 0 (pQ (toM 0 t.ks) (key,(a.1,a.2,0)))=true:=by
   have o:toM 0 t.ks=rows.map λx=>(x.1,(x.2.1,x.2.2,0)):=by rw[<-hks];rfl
   rw[o];exact hf
  obtain⟨p,rfl⟩:=Un hrm m f hp;exact⟨e,H',fl',t',f,p,by rw[hp.row,hks],l⟩
 .exfalso
  rcases g.2 with c|c
  .exact c hkk
  .unfold zA at c;omega
 .omega
end
section
variable {Y:World->List Nat->Prop}{q tb hb N lo:Nat}{L:List Nat}{V:Nat->Pg}{k:Nat}{H:HS}{fl:List Nat}{l:Nat}{t:Tr l}{w:World}
theorem Qp [mW Y] {fr be:Key} {pf pb pw:Option Addr} {cf cb cw nf nb nw:Nat} {vsw:List Value} (rows:Rw) (h:Two (GZ q N (nG H) V k) Y lo L w) (hR:TR q tb hb N lo L H fl l t w) (hnd:(og l t).Nodup) (hnf:nf=fr.length) (hnb:nb=be.length)
  (hbe:nC w pb nb 1 (bv be)) (hbL:∀ g o,pb=some ⟨g,o,none⟩->g<lo\/g∈L) (hfr:nC w pf nf 1 (bv fr)) (hfL:∀ g o,pf=some ⟨g,o,none⟩->g<lo\/g∈L) (hrows:wR (oC l t) fr be=rows)
  (hw:nC w pw nw 3 vsw) (hre:AU (λb=>b<lo\/b∈L) w vsw rows) (hn:nw=rows.length) (hpw:∀ g o,pw=some ⟨g,o,none⟩->g<lo\/g∈L):
  CQ 12 [.pointer (some ⟨tb,0,none⟩), .slice pf nf cf, .slice pb nb cb, .slice pw nw cw, .int .i64 0] w (λv w'=>v= .bool true/\Two (GZ q N (nG H) V k) Y lo L w'/\mX lo L w w'):=by
 subst hnf;subst hnb;refine BD rows _ _ _ h ?_ (λr hr=>?_) hw hre hn hpw
 .rw[<-hrows]
  exact BK hR hnd hbe hbL hfr hfL
 .rw[<-hrows]at hr
  exact ag (hR.sd.rows r (dW.1 hr).1).1.2 eu
theorem Pt [mW Y]{rl:List Nat}{R:Nat->Nat->Prop}{P:Nat->Nat->List Nat}{B:Nat->Nat->List UInt8}{A:List (Nat × Nat)}{t:Tr 0}{rows:Rw}{key:Key}{pk:Option Addr}{ck n:Nat}(h:Two (GZ q N (nG H) V k) Y lo L w)(hR:TR q tb hb N lo L H fl 0 t w)(hS:TS N H fl rl R P B A 0 t)(hks:oC 0 t=rows)(hn:n=key.length)(hkey:nC w pk n 1 (bv key))(hkL:∀ g o,pk=some ⟨g,o,none⟩->g<lo\/g∈L)(hkk:qD key)(hm:∃ u,(key,u)∈rows):
  CQ 13 [.pointer (some ⟨tb,0,none⟩), .slice pk n ck] w (λv w'=>(v= .int .i64 0/\∃ (H':HS) (fl':List Nat) (t':Tr 0),TS N H' fl' rl R P B A 0 t'/\oC 0 t'=xh rows key/\Two (GZ q N (nG H') V k) Y lo L w')/\mX lo L w w'):=by
 subst hn;refine(OZ h hR hS hkey λ_=>hkL).to λv w' ⟨c,f⟩=>⟨?_,f⟩
 rcases c with⟨u,H',fl',l',t',e,_,_,g,hp,i⟩|⟨e,_,a|⟨_,_,a⟩,_⟩
 .obtain rfl:l'=0:=Nat.le_zero.1 hp.le
  exact⟨e,H',fl',t',g,by rw[hp.row,hks],i⟩
 .exact absurd hkk a.2
 .obtain⟨u,j⟩:=hm
  exact absurd (hks▸j)<|a u
theorem Ol [mW Y]{rows:Rw}{key:Key}{pk:Option Addr}{ck n:Nat}(h:Two (GZ q N (nG H) V k) Y lo L w)(hR:TR q tb hb N lo L H fl l t w)(hks:oC l t=rows)(hn:n=key.length)(hkey:nC w pk n 1 (bv key))(hkL:∀ g o,pk=some ⟨g,o,none⟩->g<lo\/g∈L)(hkk:qD key)(hm:∀ r∈rows,r.1≠key):
  CQ 14 [.pointer (some ⟨tb,0,none⟩), .slice pk n ck] w (λv w'=>v= .tuple #[.agg #[.int .i64 0, .int .i64 0], .int .i64 6]/\Two (GZ q N (nG H) V k) Y lo L w'/\mX lo L w w'):=by
 subst hn;refine(Qt h hR hkey hkL hkk).to λv w' ⟨⟨e,u,c,f⟩,g,i⟩=>⟨?_,g,i⟩
 rcases f with⟨_,a⟩|⟨rfl,rfl,_⟩
 .rw[hks]at a
  exact absurd rfl<|hm _ a
 .exact c
end
def kA:Key:=[97]
def kB:Key:=[98]
def kC:Key:=[99]
theorem Cf(b:UInt8):qD [b]:=⟨List.cons_ne_nil _ _,by show 1<=100;omega⟩
theorem Ku(w:World):CQ 7 [] w (λv w'=>v= .bool true/\Below w.heap.size w w'):=by
 have i:=mX.refl w.heap.size [] w;have j6:maxLen=9223372036854775807:=by decide
 have d5:Two None None w.heap.size [] w:=⟨⟨[],[],rfl,rfl,(λb hb=>nomatch hb),λb hb=>nomatch hb⟩,ax _,λb hb=>nomatch hb⟩;have d6:=YB d5 5 eu eu;obtain⟨j7,d7⟩:=Cy (N:=5) eu eu;have d8:uo 5 HT=3:=rfl;have d9:oC 0 T0=[]:=rfl;have S:∀ {lo:Nat} (g:Nat) (l:List Nat),∀ c o,(some ⟨g,0,none⟩:Option Addr)=some ⟨c,o,none⟩->c<lo\/c∈g::l:=λg l c o e=>by cases e;exact .inr (aK ..)
 have M:∀ {lo g:Nat} {l:List Nat},g∈l->∀ c o,(some ⟨g,0,none⟩:Option Addr)=some ⟨c,o,none⟩->c<lo\/c∈l:=λe0 c o e=>by cases e;exact .inr e0
 have e1:∀ {lo:Nat} {l:List Nat},∀ c o,(none:Option Addr)=some ⟨c,o,none⟩->c<lo\/c∈l:=λc o e=>nomatch e
 have e2:∀ {lo a b:Nat} {l:List Nat},a∈l->b∈l->∀ c,(c=a\/c=b)->c<lo\/c∈l:=λe3 e4 c e=>.inr (e.elim (λe=>e▸e3) λe=>e▸e4)
 generalize HT=j8 at*;generalize T0=j9 at*;refine nP (fn:=Tryz.f7) (rs:=[.tmp 0]) (n:=79) Tryz.func7 rfl rfl Tryz.ntmps7 dA rfl<|mR<|nV<|nD (d6) ?_
 rintro _ k0 ⟨q,hb,tb,V,rfl,j,f,h,k7,k8,e5⟩;replace i:=i.lq e5;refine mP<|mO (nJ rfl rfl)<|mO (nJ rfl rfl)<|mO (nJ rfl rfl)<|mO (nJ rfl rfl)<|mV<|mV<|mV<|mV<|mQ<|ng<|mR<|mP<|mO (sD rfl)<|mP<|Pn 15 rfl (ig)<|mY<|mP<|mY<|nz<|uE (e:=5) (.int .u8 97) ([.int .u8 97]) ([Value.int .u8 0]) 1 dA dA rfl rfl rfl ⟨iT,iT⟩<|λc5 k9 T U A=>?_
 have e6:hb<c5:=ae f.lt T;have e7:tb<c5:=ae h.lt T;replace i:=i.new A;replace j:=j.nA A T U.lt;replace f:=f.new A;replace h:=h.new A;refine mY ?_;have e8:=U;have l0:=U.lt;have l1:=A.size;refine nz<|Ew (e:=5) dA dA rfl e8 rfl eu<|λl2 e9 B=>?_
 replace i:=i.oq B;replace j:=j.only B eG;replace f:=f.only B (ai e6);replace h:=h.only B (ai e7);have l3:=B.size;refine mY<|mO (xC (.int .i64 1) [.int .i64 1, .int .i64 0] rfl dA)<|mY<|qi rfl (nX dA rfl) (EH kA (1,0) j d7 d8 d9 h (.inr ig) f (.inr ig) rfl e9 (S _ _) (Cf 97) iT iT iT) ?_
 rintro _ l4 ⟨⟨rfl,H1,l5,f0,f1,f2,f3,j⟩,X⟩;replace i:=i.lq X;replace f:=f.nu X.kp dB;replace h:=h.nu X.kp dB;refine mY<|mO (oD rfl rfl)<|mO (oo rfl)<|mP<|rD 23 rfl (ig)<|mY<|mP<|mY ?_;have f4:oC 0 f0=[(kA,(1,0))]:=f3;refine nz<|uE (e:=5) (.int .u8 99) ([.int .u8 99]) ([Value.int .u8 0]) 1 dA dA rfl rfl rfl ⟨iT,iT⟩<|λc6 l6 Y Z C=>?_
 have f5:hb<c6:=ae f.lt Y;have f6:tb<c6:=ae h.lt Y;replace i:=i.new C;replace j:=j.nA C Y Z.lt;replace f:=f.new C;replace h:=h.new C;refine mY ?_;have f7:=Z;have l7:=Z.lt;have l8:=C.size;refine nz<|Ew (e:=5) dA dA rfl f7 rfl eu<|λl9 f8 D=>?_
 replace i:=i.oq D;replace j:=j.only D eG;replace f:=f.only D (ai f5);replace h:=h.only D (ai f6);have m0:=D.size;refine mY<|mO (xC (.int .i64 3) [.int .i64 3, .int .i64 0] rfl dA)<|mY<|qi rfl (nX dA rfl) (EH kC (3,0) j f1 f2 f4 h (.inr ig) f (.inr ig) rfl f8 (S _ _) (Cf 99) iT iT iT) ?_
 rintro _ m1 ⟨⟨rfl,H2,m2,f9,g0,g1,g2,j⟩,a0⟩;replace i:=i.lq a0;replace f:=f.nu a0.kp dB;replace h:=h.nu a0.kp dB;refine mY<|mO (oD rfl rfl)<|mO (oo rfl)<|mP<|rD 31 rfl (ig)<|mY<|mP<|mY ?_;have g3:oC 0 f9=[(kA,(1,0)),(kC,(3,0))]:=g2;refine nz<|uE (e:=5) (.int .u8 98) ([.int .u8 98]) ([Value.int .u8 0]) 1 dA dA rfl rfl rfl ⟨iT,iT⟩<|λc7 m3 a1 a2 E=>?_
 have g4:hb<c7:=ae f.lt a1;have g5:tb<c7:=ae h.lt a1;replace i:=i.new E;replace j:=j.nA E a1 a2.lt;replace f:=f.new E;replace h:=h.new E;refine mY ?_;have g6:=a2;have m4:=a2.lt;have m5:=E.size;refine nz<|Ew (e:=5) dA dA rfl g6 rfl eu<|λm6 g7 F=>?_
 replace i:=i.oq F;replace j:=j.only F eG;replace f:=f.only F (ai g4);replace h:=h.only F (ai g5);have m7:=F.size;refine mY<|mO (xC (.int .i64 2) [.int .i64 2, .int .i64 0] rfl dA)<|mY<|qi rfl (nX dA rfl) (EH kB (2,0) j g0 g1 g3 h (.inr ig) f (.inr ig) rfl g7 (S _ _) (Cf 98) iT iT iT) ?_
 rintro _ m8 ⟨⟨rfl,H3,m9,g8,O,n0,g9,j⟩,a3⟩;replace i:=i.lq a3;replace f:=f.nu a3.kp dB;replace h:=h.nu a3.kp dB;refine mY<|mO (oD rfl rfl)<|mO (oo rfl)<|mQ<|pJ rfl (ig)<|nL<|ny<|ng<|mR<|mP ?_;have c8:oC 0 g8=[(kA,(1,0)),(kB,(2,0)),(kC,(3,0))]:=g9;refine nz<|uE (e:=5) (.int .u8 98) ([.int .u8 98]) ([Value.int .u8 0]) 1 dA dA rfl rfl rfl ⟨iT,iT⟩<|λc9 n1 a4 a5 G=>?_
 have h0:hb<c9:=ae f.lt a4;have h1:tb<c9:=ae h.lt a4;replace i:=i.new G;replace j:=j.nA G a4 a5.lt;replace f:=f.new G;replace h:=h.new G;have h2:=a5;have n2:=a5.lt;have n3:=G.size;refine nz<|Ew (e:=5) dA dA rfl h2 rfl eu<|λn4 k H=>?_
 replace i:=i.oq H;replace j:=j.only H eG;replace f:=f.only H (ai h0);replace h:=h.only H (ai h1);have n5:=H.size;refine nz<|uE (e:=5) (.int .u8 98) ([.int .u8 98]) ([Value.int .u8 0]) 1 dA dA rfl rfl rfl ⟨iT,iT⟩<|λp n6 a6 a7 y=>?_
 have h3:hb<p:=ae f.lt a6;have h4:tb<p:=ae h.lt a6;replace i:=i.new y;replace j:=j.nA y a6 a7.lt;replace f:=f.new y;replace h:=h.new y;replace k:=k.new y;have h5:=a7;have n7:=a7.lt;have n8:=y.size;refine nz<|Ew (e:=5) dA dA rfl h5 rfl eu<|λn9 s z=>?_
 replace i:=i.oq z;replace j:=j.only z eG;replace f:=f.only z (ai h3);replace h:=h.only z (ai h4);replace k:=k.only z eu;have o0:=z.size;refine mO (xC (.int .i64 2) [.int .i64 2, .int .i64 0] rfl dA)<|mO (AL (.slice (some ⟨p,0,none⟩) 1 1) (.agg #[.int .i64 2, .int .i64 0]) (Bh (some ⟨p,0,none⟩) 1 (kB,(2,0))) rfl rfl dA)<|nz<|uE (e:=5) (.int .u8 99) ([.int .u8 99]) ([Value.int .u8 0]) 1 dA dA rfl rfl rfl ⟨iT,iT⟩<|λr o1 a8 a9 t=>?_
 have h6:hb<r:=ae f.lt a8;have h7:tb<r:=ae h.lt a8;replace i:=i.new t;replace j:=j.nA t a8 a9.lt;replace f:=f.new t;replace h:=h.new t;replace k:=k.new t;replace s:=s.new t;have h8:=a9;have o2:=a9.lt;have o3:=t.size;refine nz<|Ew (e:=5) dA dA rfl h8 rfl eu<|λo4 b0 u=>?_
 replace i:=i.oq u;replace j:=j.only u eG;replace f:=f.only u (ai h6);replace h:=h.only u (ai h7);replace k:=k.only u eu;replace s:=s.only u eu;have o5:=u.size;refine mO (xC (.int .i64 3) [.int .i64 3, .int .i64 0] rfl dA)<|mO (AL (.slice (some ⟨r,0,none⟩) 1 1) (.agg #[.int .i64 3, .int .i64 0]) (Bh (some ⟨r,0,none⟩) 1 (kC,(3,0))) rfl rfl dA)<|nz<|Ha (e:=70) (.agg (Bh (some ⟨p,0,none⟩) 1 (kB,(2,0))).toArray) (.agg (Bh (some ⟨r,0,none⟩) 1 (kC,(3,0))).toArray) (Bh (some ⟨p,0,none⟩) 1 (kB,(2,0))) (Bh (some ⟨r,0,none⟩) 1 (kC,(3,0))) ([Value.slice none 0 0,Value.int .i64 0,Value.int .i64 0]) 3 dA dA rfl rfl rfl rfl iw iw ⟨iT,iT⟩<|λo6 h9 i0 d0 v=>?_
 replace i:=i.new v;replace j:=j.nA v i0 d0.lt;replace f:=f.new v;replace h:=h.new v;replace k:=k.new v;replace s:=s.new v;replace b0:=b0.new v;have i1:AU (λb=>b=p\/b=r) h9 (Bh (some ⟨p,0,none⟩) 1 (kB,(2,0))++Bh (some ⟨r,0,none⟩) 1 (kC,(3,0))) [(kB,(2,0)),(kC,(3,0))]:=(AU.nil.snoc ⟨some ⟨p,0,none⟩,1,rfl,s,λg o e=>by cases e;exact .inl rfl⟩).snoc ⟨some ⟨r,0,none⟩,1,rfl,b0,λg o e=>by cases e;exact .inr rfl⟩;have i2:=d0.ul (m:=2) (sz:=3) rfl eu;refine qi rfl (nX dA rfl) (Qp (fr:=kB) (be:=[]) [(kB,(2,0)),(kC,(3,0))] j (O.CF h (.inr ig) f (.inr ig)) O.tr.nd rfl rfl (nC.nil _ _ _) e1 k (M ig) (by rw[c8];rfl) i2 (i1.mono (e2 ig ig)) rfl (M ig)) ?_;rintro _ o7 ⟨rfl,j,b1⟩;replace i:=i.lq b1;replace f:=f.nu b1.kp dB;replace h:=h.nu b1.kp dB;refine mO (sD rfl)<|mP<|Pn 53 rfl (ig)<|mY<|mP<|mY<|nz<|uE (e:=5) (.int .u8 98) ([.int .u8 98]) ([Value.int .u8 0]) 1 dA dA rfl rfl rfl ⟨iT,iT⟩<|λd1 o8 b2 b3 I=>?_
 have i3:hb<d1:=ae f.lt b2;have i4:tb<d1:=ae h.lt b2;replace i:=i.new I;replace j:=j.nA I b2 b3.lt;replace f:=f.new I;replace h:=h.new I;refine mY ?_;have i5:=b3;have o9:=b3.lt;have p0:=I.size;refine nz<|Ew (e:=5) dA dA rfl i5 rfl eu<|λp1 i6 J=>?_
 replace i:=i.oq J;replace j:=j.only J eG;replace f:=f.only J (ai i3);replace h:=h.only J (ai i4);have p2:=J.size;refine mY<|qi rfl (nX dA rfl) (Pt (key:=kB) j (O.CF h (.inr ig) f (.inr ig)) O c8 rfl i6 (M ig) (Cf 98) ⟨(2,0),ig⟩) ?_
 rintro _ p3 ⟨⟨rfl,H4,p4,i7,P,i8,j⟩,b4⟩;replace i:=i.lq b4;replace f:=f.nu b4.kp dB;replace h:=h.nu b4.kp dB;refine mY<|mO (oD rfl rfl)<|mO (oo rfl)<|mQ<|pJ rfl (ig)<|nL<|ny<|mR<|mP ?_;have d2:oC 0 i7=[(kA,(1,0)),(kC,(3,0))]:=i8.trans iT;refine nz<|uE (e:=5) (.int .u8 98) ([.int .u8 98]) ([Value.int .u8 0]) 1 dA dA rfl rfl rfl ⟨iT,iT⟩<|λd3 p5 b5 b6 K=>?_
 have i9:hb<d3:=ae f.lt b5;have j0:tb<d3:=ae h.lt b5;replace i:=i.new K;replace j:=j.nA K b5 b6.lt;replace f:=f.new K;replace h:=h.new K;have j1:=b6;have p6:=b6.lt;have p7:=K.size;refine nz<|Ew (e:=5) dA dA rfl j1 rfl eu<|λp8 j2 L=>?_
 replace i:=i.oq L;replace j:=j.only L eG;replace f:=f.only L (ai i9);replace h:=h.only L (ai j0);have p9:=L.size;refine qi rfl (nX dA rfl) (Ol (key:=kB) j (P.CF h (.inr ig) f (.inr ig)) d2 rfl j2 (M ig) (Cf 98) iT) ?_;rintro _ nN ⟨rfl,j,b7⟩;replace i:=i.lq b7;replace f:=f.nu b7.kp dB;replace h:=h.nu b7.kp dB;refine mP<|mO (nJ rfl rfl)<|mO (nJ rfl rfl)<|nz<|nU ([Value.int .i64 0,Value.int .i64 0]) dA<|λd4 q0 b8 b9 Q=>?_
 have j3:hb<d4:=ae f.lt b8;have j4:tb<d4:=ae h.lt b8;replace i:=i.new Q;replace j:=j.nA Q b8 b9.lt;replace f:=f.new Q;replace h:=h.new Q;refine nH<|nT 2 ([.int .i64 0, .int .i64 0]) b9<|λq1 b9 R=>?_
 replace i:=i.oq R;replace j:=j.only R eG;replace f:=f.only R (ai j3);replace h:=h.only R (ai j4);refine nV<|mP<|mO (qy rfl rfl)<|mP<|zU 69 rfl (ig)<|mY<|mP<|mY<|qi rfl (nX dA rfl) (VQ j (P.CF h (.inr ig) f (.inr ig)) P.tr.nd) ?_
 rintro _ q2 ⟨rfl,j,c4⟩;replace i:=i.lq c4;replace f:=f.nu c4.kp dB;replace h:=h.nu c4.kp dB;refine mY<|mO (qy rfl rfl)<|mO (pO rfl)<|mP<|zU 74 rfl ((by rw[d2];decide))<|mY<|mP<|mY<|qi rfl (nX dA rfl) (GI j (P.CF h (.inr ig) f (.inr ig))) ?_;rintro _ q3 ⟨rfl,j,j5⟩;replace i:=i.lq j5;refine mY<|mO (qy rfl rfl)<|mO (pO rfl)<|mV<|mQ<|nQ<|nR [_] ⟨rfl,trivial⟩ ?_;exact⟨rfl,zo (Below.refl _ _) i (ax _)⟩
def CY(w:World)(v:Value):Prop:=v= .pointer none\/∃ g,v= .pointer (some ⟨g,0,none⟩)/\row w g [.pointer none] 201
theorem CY.new{w w':World}{v:Value}(h:CY w v)(hb:Below w.heap.size w w'):CY w' v:=h.imp id fun⟨g,e,hr⟩=>⟨g,e,hr.new hb⟩
theorem Wd{w:World}{v:Value}(h:CY w v)(f:Value):CQ 72 [v,f] w (λv w'=>v= .int .i64 1/\w=w'):=by
 rcases h with rfl|⟨g,rfl,hr⟩
 .have a:True:=trivial
  refine nP (fn:=Tryz.f72) (rs:=[.tmp 4]) (n:=25) Tryz.func72 rfl rfl Tryz.ntmps72 dA rfl<|mR<|mV<|mQ<|ng<|mR<|mP<|mO (Qj dA rfl rfl)<|mP<|BZ 7 (.bool true) (rfl)<|nE<|nE<|nE<|nE<|nE<|mO (pO rfl)<|mQ<|uC rfl (rfl)<|mR<|mV<|mQ<|nQ<|qb<|nR [_] ⟨rfl,trivial⟩ ?_
  exact⟨rfl,rfl⟩
 .have c:=hr
  refine nP (fn:=Tryz.f72) (rs:=[.tmp 4]) (n:=25) Tryz.func72 rfl rfl Tryz.ntmps72 dA rfl<|mR<|mV<|mQ<|ng<|mR<|mP<|mO (xJ dA rfl rfl)<|mP<|BZ 7 (.bool false) (rfl)<|mY<|mP<|mY<|mO (nW rfl)<|mY<|mO (nk 0)<|mY<|mO (mZ hr)<|mY<|mO (Qj dA rfl rfl)<|mO (oo rfl)<|mQ<|uC rfl (rfl)<|mR<|mV<|mQ<|nQ<|qb<|nR [_] ⟨rfl,trivial⟩ ?_
  exact⟨rfl,rfl⟩
section
variable {w:World}{v:Value}
theorem PL(h:CY w v)(a s:Int):CQ 132 [v, .agg #[.int .i64 a, .int .i64 s]] w (λu w'=>u= .int .i64 1/\Below w.heap.size w w'):=by
 have c:=Below.refl w.heap.size w;refine nP (fn:=Tryz.f132) (rs:=[.tmp 4]) (n:=8) Tryz.func132 rfl rfl Tryz.ntmps132 dA rfl<|mR<|nz<|oV ([.int .i64 a, .int .i64 s]) rfl<|λf g i j e=>?_
 replace c:=c.acc e;refine nV<|mP<|mO (sV)<|nD (Wd (h.new c) _) ?_
 rintro _ _ ⟨rfl,rfl⟩;refine lQ ?_;exact⟨rfl,c⟩
end
def yu(w:World)(v:Value):Prop:=v= .pointer none\/∃ g,v= .pointer (some ⟨g,0,none⟩)/\row w g [.pointer none, .pointer none] 50
theorem yu.new{w w':World}{v:Value}(h:yu w v)(hb:Below w.heap.size w w'):yu w' v:=h.imp id fun⟨g,e,hr⟩=>⟨g,e,hr.new hb⟩
theorem yu.form{w:World}{v:Value}(h:yu w v):∃ a,v= .pointer a:=by rcases h with rfl|⟨g,rfl,_⟩<;>exact⟨_,rfl⟩
theorem xe{w:World}{v:Value}(h:yu w v)(s b f:Value):CQ 35 [v,s,b,f] w (λv w'=>v= .int .i64 1/\Below w.heap.size w w'):=by
 have a:=Below.refl w.heap.size w;rcases h with rfl|⟨g,rfl,hr⟩
 .have o:True:=trivial
  refine nP (fn:=Tryz.f35) (rs:=[.cell 8 46]) (n:=40) Tryz.func35 rfl rfl Tryz.ntmps35 dA rfl<|mR<|nz<|nU ([Value.int .i64 0]) dA<|λk l f c e=>?_
  have i:=ag a.size f;replace a:=a.acc e;refine mQ<|ng<|oU<|mR<|mP<|mO (Qj dA rfl rfl)<|mP<|BZ 12 (.bool true) (rfl)<|nE<|nE<|nE<|nE<|nE<|mO (pO rfl)<|mV<|mQ<|uC rfl (rfl)<|mR<|nH<|oW c<|λm c j=>?_
  replace a:=j.below a i;refine mQ<|nQ<|tu<|qb<|nR [_] ⟨⟨_,rfl,Ld.qN c dA rfl⟩,trivial⟩ ?_
  exact⟨rfl,a⟩
 .have p:=hr
  refine nP (fn:=Tryz.f35) (rs:=[.cell 8 46]) (n:=40) Tryz.func35 rfl rfl Tryz.ntmps35 dA rfl<|mR<|nz<|nU ([Value.int .i64 0]) dA<|λk l f c e=>?_
  have i:=ag a.size f;replace hr:=hr.new e;replace a:=a.acc e;refine mQ<|ng<|oU<|mR<|mP<|mO (xJ dA rfl rfl)<|mP<|BZ 12 (.bool false) (rfl)<|mY<|mP<|mY<|mO (nW rfl)<|mY<|mO (nk 0)<|mY<|mO (mZ hr)<|mY<|mO (Qj dA rfl rfl)<|mO (oo rfl)<|mV<|mQ<|uC rfl (rfl)<|mR<|nH<|oW c<|λm c j=>?_
  replace a:=j.below a i;refine mQ<|nQ<|tu<|qb<|nR [_] ⟨⟨_,rfl,Ld.qN c dA rfl⟩,trivial⟩ ?_
  exact⟨rfl,a⟩
section
variable {w:World}{v:Value}
theorem QL(h:yu w v):CQ 14 [v, .slice none 0 0] w (λu w'=>u= .tuple #[.agg #[.int .i64 0, .int .i64 0], .int .i64 1]/\Below w.heap.size w w'):=by
 have a:=Below.refl w.heap.size w;obtain⟨pv,rfl⟩:=h.form;refine nP (fn:=Tryz.f14) (rs:=[.cell 4 30, .tmp 5]) (n:=12) Tryz.func14 rfl rfl Tryz.ntmps14 dA rfl<|mR<|nz<|oV ([_]) rfl<|λq w2 r e l=>?_
 replace a:=a.acc l;refine nz<|oV ([_]) rfl<|λs t u f i=>?_
 replace e:=e.new i;replace a:=a.acc i;refine nz<|nU ([Value.int .i64 0,Value.int .i64 0]) dA<|λv y m c g=>?_
 have o:=ag a.size m;replace e:=e.new g;replace f:=f.new g;replace a:=a.acc g;refine nV<|mO (mZ e)<|mO (mZ f)<|mO (sV)<|nD (xe (h.new a) _ _ _) ?_
 rintro _ z ⟨rfl,j⟩;replace c:=c.new j;replace a:=a.acc j;refine nV<|mO (oI 2 c)<|mP<|nH<|nT 2 ([.int .i64 0, .int .i64 0]) c<|λA c p=>?_
 replace a:=p.below a o;refine mV<|mQ<|nQ<|nR [_,_] ⟨⟨_,rfl,Ld.qp (k:=2) c dA dA gp⟩,rfl,trivial⟩ ?_
 exact⟨rfl,a⟩
theorem Om(h:yu w v):CQ 16 [v, .slice none 0 0, .agg #[.int .i64 0, .int .i64 0]] w (λu w'=>u= .int .i64 1/\Below w.heap.size w w'):=by
 have a:=Below.refl w.heap.size w;obtain⟨pv,rfl⟩:=h.form;refine nP (fn:=Tryz.f16) (rs:=[.tmp 6]) (n:=11) Tryz.func16 rfl rfl Tryz.ntmps16 dA rfl<|mR<|nz<|oV ([_]) rfl<|λk l m c i=>?_
 replace a:=a.acc i;refine nz<|oV ([_]) rfl<|λo p q e g=>?_
 replace c:=c.new g;replace a:=a.acc g;refine nz<|oV ([.int .i64 0, .int .i64 0]) rfl<|λr s t u f=>?_
 replace c:=c.new f;replace e:=e.new f;replace a:=a.acc f;refine nV<|mO (mZ c)<|mO (mZ e)<|mO (sV)<|nD (xe (h.new a) _ _ _) ?_
 rintro _ v ⟨rfl,j⟩;replace a:=a.acc j;refine lQ ?_;exact⟨rfl,a⟩
theorem Ll(h:yu w v):CQ 13 [v, .slice none 0 0] w (λu w'=>u= .int .i64 1/\Below w.heap.size w w'):=by
 have a:=Below.refl w.heap.size w;obtain⟨pv,rfl⟩:=h.form;refine nP (fn:=Tryz.f13) (rs:=[.tmp 4]) (n:=9) Tryz.func13 rfl rfl Tryz.ntmps13 dA rfl<|mR<|nz<|oV ([_]) rfl<|λj w2 k c f=>?_
 replace a:=a.acc f;refine nz<|oV ([_]) rfl<|λl m o g e=>?_
 replace c:=c.new e;replace a:=a.acc e;refine nV<|mO (mZ c)<|mO (mZ g)<|mO (sV)<|nD (xe (h.new a) _ _ _) ?_
 rintro _ p ⟨rfl,i⟩;replace a:=a.acc i;refine lQ ?_;exact⟨rfl,a⟩
theorem zuG(h:yu w v):CQ 18 [v] w (λu w'=>u= .int .i64 0/\Below w.heap.size w w'):=by
 have a:=Below.refl w.heap.size w;obtain⟨pv,rfl⟩:=h.form;refine nP (fn:=Tryz.f18) (rs:=[.cell 2 3]) (n:=7) Tryz.func18 rfl rfl Tryz.ntmps18 dA rfl<|mR<|nz<|oV ([_]) rfl<|λm w1 o e i=>?_
 replace a:=a.acc i;refine nz<|nU ([Value.int .i64 0]) dA<|λp w2 j c f=>?_
 have k:=ag a.size j;replace e:=e.new f;replace a:=a.acc f;refine pV<|mO (mZ e)<|mO (sV)<|nD (xe (h.new a) _ _ _) ?_
 rintro _ q ⟨rfl,g⟩;replace c:=c.new g;replace a:=a.acc g;refine pV<|mO (mZ c)<|nH<|oW c<|λr c l=>?_
 replace a:=l.below a k;refine mQ<|nQ<|nR [_] ⟨⟨_,rfl,Ld.qN c dA rfl⟩,trivial⟩ ?_
 exact⟨rfl,a⟩
theorem Fh(h:yu w v):CQ 15 [v] w (λu w'=>u= .tuple #[.slice none 0 0, .int .i64 1]/\Below w.heap.size w w'):=by
 have a:=Below.refl w.heap.size w;obtain⟨pv,rfl⟩:=h.form;refine nP (fn:=Tryz.f15) (rs:=[.cell 2 54, .tmp 3]) (n:=13) Tryz.func15 rfl rfl Tryz.ntmps15 dA rfl<|mR<|nz<|oV ([_]) rfl<|λm w1 o e i=>?_
 replace a:=a.acc i;refine nz<|nU ([Value.slice none 0 0]) dA<|λp w2 j c f=>?_
 have k:=ag a.size j;replace e:=e.new f;replace a:=a.acc f;refine nV<|mO (mZ e)<|mO (sV)<|nD (xe (h.new a) _ _ _) ?_
 rintro _ q ⟨rfl,g⟩;replace c:=c.new g;replace a:=a.acc g;refine mV<|mQ<|ng<|mR<|mP<|mO (oD rfl rfl)<|mQ<|sU rfl (iT)<|mR<|mP<|nH<|oW c<|λr c l=>?_
 replace a:=l.below a k;refine mV<|mQ<|nQ<|qb<|nR [_,_] ⟨⟨_,rfl,Ld.qN c dA rfl⟩,rfl,trivial⟩ ?_
 exact⟨rfl,a⟩
theorem Oi(h:yu w v)(a b:Value)(hab:∃ p n c q m d,a= .slice p n c/\b= .slice q m d):CQ 10 [v,a,b] w (λr w'=>∃ ga,r= .func (.func 40) #[] [.pointer (some ⟨ga,0,none⟩)].toArray/\row w' ga [.slice none 0 0] 83/\w.heap.size<=ga/\Below w.heap.size w w'):=by
 have a:=Below.refl w.heap.size w;obtain⟨pv,rfl⟩:=h.form;obtain⟨p,n,c,q,m,d,rfl,rfl⟩:=hab;refine nP (fn:=Tryz.f10) (rs:=[.tmp 6]) (n:=15) Tryz.func10 rfl rfl Tryz.ntmps10 dA rfl<|mR<|nz<|oV ([_]) rfl<|λu v y e l=>?_
 replace a:=a.acc l;refine nz<|oV ([_]) rfl<|λz A B C g=>?_
 replace e:=e.new g;replace a:=a.acc g;refine nz<|oV ([_]) rfl<|λD E F G i=>?_
 replace e:=e.new i;replace a:=a.acc i;refine nV<|nz<|nU ([Value.slice none 0 0]) dA<|λo H r f j=>?_
 have s:=ag a.size r;replace e:=e.new j;replace a:=a.acc j;refine pV<|mO (mZ e)<|mO (sV)<|nD (xe (h.new a) _ _ _) ?_
 rintro _ I ⟨rfl,k⟩;replace f:=f.new k;replace a:=a.acc k;refine mV<|mQ<|ng<|mR<|mP<|mO (oD rfl rfl)<|mQ<|sU rfl (iT)<|nM<|nH<|oW f<|λJ f t=>?_
 replace a:=t.below a s;refine pV<|mO (sV)<|mV<|mQ<|nQ<|nR [_] ⟨rfl,trivial⟩ ?_
 exact⟨o,rfl,f,eu,a⟩
theorem CZ(h:yu w v){a b:Value}(hab:∃ p n c q m d,a= .slice p n c/\b= .slice q m d):TB None None w.heap.size [] w v a b []:=λw' f L' i s=>by
 have l:yu w' v:=h.imp id fun⟨g,e,hr⟩=>⟨g,e,hr.kl f (.inl hr.lt)⟩
 refine(Oi l a b hab).to λr w2 ⟨ga,m,j,o,k⟩=>⟨ga, .slice none 0 0,[],[],m,rfl,aC _,?_,⟨j,[],ym _ _ _ _,qQ.nil _ _⟩,λc p=>?_,mX.of_below k⟩
 .exact i.nA k o j.lt
 .have e:c=ga:=aM.1 p
  have t:=f.size;refine⟨eu,λq=>?_⟩;have:=i.lt c q;omega
theorem NY(h:yu w v):CQ 17 [v] w (λu w'=>u= .int .i64 0/\Below w.heap.size w w'):=
 (Jo (X:=None) (Y:=None) (lo:=w.heap.size) (L:=[]) [] v h.form ⟨⟨[],[],rfl,rfl,(λb hb=>nomatch hb),λb hb=>nomatch hb⟩,ax _,λb hb=>nomatch hb⟩ (CZ h ⟨_,_,_,_,_,_,rfl,rfl⟩) λr hr=>nomatch hr).to λu w' ⟨a,_,c⟩=>⟨a,zo (Below.refl _ _) c (ax _)⟩
theorem Qv(h:yu w v):CQ 12 [v, .slice none 0 0, .slice none 0 0, .slice none 0 0, .int .i64 0] w (λu w'=>u= .bool true/\Below w.heap.size w w'):=by
 obtain⟨pv,rfl⟩:=h.form;exact(BD (X:=None) (Y:=None) (lo:=w.heap.size) (L:=[]) (pw:=none) (vsw:=[]) [] _ _ _ ⟨⟨[],[],rfl,rfl,(λb hb=>nomatch hb),λb hb=>nomatch hb⟩,ax _,λb hb=>nomatch hb⟩ (CZ h ⟨_,_,_,_,_,_,rfl,rfl⟩) (λr hr=>by cases hr) (nC.nil _ _ _) AU.nil rfl λg o e=>nomatch e).to λu w' ⟨a,_,c⟩=>⟨a,zo (Below.refl _ _) c (ax _)⟩
end
section
variable {Y:World->List Nat->Prop}[hYT:mW Y]{q tb hb N lo:Nat}{L:List Nat}{G V:Nat->Pg}{k:Nat}{H:HS}{fl:List Nat}{l:Nat}{t:Tr l}{w:World}
theorem Ip(h:Two (GZ q N (nG H) V k) Y lo L w)(hr:row w tb [.pointer (some ⟨q,0,none⟩), .pointer (some ⟨hb,0,none⟩)] 50)(htb:tb<lo\/tb∈L){pk:Option Addr}{n ck:Nat}(hk:¬(1<=n/\n<=100)):
  CQ 14 [.pointer (some ⟨tb,0,none⟩), .slice pk n ck] w (λv w'=>v= .tuple #[.agg #[.int .i64 0, .int .i64 0], .int .i64 2]/\Two (GZ q N (nG H) V k) Y lo L w'/\mX lo L w w'):=by
 have a:=mX.refl lo L w;have c:=h;have E:=h.lt;have F:=h.lo;have s:=λL' w' (G:∀ b∈L,b∈L') (t:mX lo L w w') (u:Two (GZ q N (nG H) V k) Y lo L' w') f=>Uq tb hb u (hr.kl t htb) (kp:=pk) (kc:=ck) hk f
 refine nP (fn:=Tryz.f14) (rs:=[.cell 4 30, .tmp 5]) (n:=12) Tryz.func14 rfl rfl Tryz.ntmps14 dA rfl<|mR<|nz<|oV ([_]) rfl<|λv w2 y g o=>?_
 replace c:=c.nA o y g.lt;replace a:=a.new o;refine nz<|oV ([_]) rfl<|λz I A i l=>?_
 replace c:=c.nA l A i.lt;replace a:=a.new l;replace g:=g.new l;have J:=a.size;refine nz<|nU ([Value.int .i64 0,Value.int .i64 0]) dA<|λB C D e j=>?_
 replace c:=c.nA j D e.lt;replace a:=a.new j;replace g:=g.new j;replace i:=i.new j;refine nV<|mO (mZ g)<|mO (mZ i)<|mO (sV) ?_
 have m:∀ b∈L,b∈B::z::v::L:=λb hb=>by simp[hb]
 refine nD (s _ C m a c _) ?_;rintro _ K ⟨rfl,c,p⟩;replace a:=a.ll p m;replace e:=e.kl p;refine nV<|mO (oI 2 e)<|mP<|nH<|nT 2 ([.int .i64 0, .int .i64 0]) e<|λM e r=>?_
 replace c:=c.only r eG;replace a:=a.oq r;refine mV<|mQ<|nQ<|nR [_,_] ⟨⟨_,rfl,Ld.qp (k:=2) e dA dA gp⟩,rfl,trivial⟩ ?_
 exact⟨rfl,c.weak m,a⟩
theorem Tc{rl:List Nat}{R:Nat->Nat->Prop}{P:Nat->Nat->List Nat}{B:Nat->Nat->List UInt8}{A:List (Nat × Nat)}{key:Key}{pk:Option Addr}{ck n:Nat}(a1 a2:Int)(h:Two (GZ q N (nG H) V k) Y lo L w)(hR:TR q tb hb N lo L H fl l t w)(hS:TS N H fl rl R P B A l t)(hn:n=key.length)(hkey:nC w pk n 1 (bv key))(hkL:∀ g o,pk=some ⟨g,o,none⟩->g<lo\/g∈L)(hbad:zA a1 a2):
  CQ 16 [.pointer (some ⟨tb,0,none⟩), .slice pk n ck, .agg #[.int .i64 a1, .int .i64 a2]] w (λv w'=>v= .int .i64 2/\Two (GZ q N (nG H) V k) Y lo L w'/\mX lo L w w'):=by
 subst hn;refine(Qh h hR hS a1 a2 hkey λ_=>hkL).to λv w' ⟨c,f⟩=>?_
 rcases c with⟨u,H',j,l',k,_,_,l,m,o,p,_⟩|⟨e,g,a|⟨_,_,a,_⟩,i⟩
 .unfold zA at hbad;omega
 .exact⟨by rw[g,a.1],i,f⟩
 .exact absurd hbad a
omit hYT in
theorem Ir(v:Value)(w:World):CQ 68 [.pointer none,v] w (λu w'=>u= .int .i64 1/\Below w.heap.size w w'):=by
 have a:=Below.refl w.heap.size w;have c:=λw'=>FP w'
 refine nP (fn:=Tryz.f68) (rs:=[.tmp 4]) (n:=15) Tryz.func68 rfl rfl Tryz.ntmps68 dA rfl<|mR<|mV<|mQ<|ng<|mR<|mP<|nD (c w) ?_
 rintro _ f ⟨rfl,e⟩;replace a:=a.acc e;refine mO (qy rfl rfl)<|mQ<|sU rfl (iT)<|mR<|mV<|mQ<|nQ<|qb<|nR [_] ⟨rfl,trivial⟩ ?_;exact⟨rfl,a⟩
theorem Jf(h:Two (GZ q N G V k) Y lo L w):CQ 68 [.pointer (some ⟨q,0,none⟩), .pointer none] w (λu w'=>u= .int .i64 1/\Below w.heap.size w w'):=by
 have a:=Below.refl w.heap.size w;have m:=Bo h;have c:=λL' w' (e:Two (GZ q N G V k) Y lo L' w')=>Jd e
 have f:=λw'=>PL (w:=w') (.inl rfl) 0 0
 have g:=h;refine nP (fn:=Tryz.f68) (rs:=[.tmp 4]) (n:=15) Tryz.func68 rfl rfl Tryz.ntmps68 dA rfl<|mR<|mV<|mQ<|ng<|mR<|mP<|nD (c _ w g) ?_
 rintro _ i ⟨rfl,j⟩;replace a:=a.acc j;refine mO (qy rfl rfl)<|mQ<|pJ rfl (eu)<|nL<|ny<|ng<|mR<|mP<|mO (Ae [.int .i64 0, .int .i64 0] dA)<|nD (f i) ?_;rintro _ o ⟨rfl,l⟩;replace a:=a.acc l;refine mK ?_;exact⟨rfl,a⟩
omit hYT in
theorem KE(a:Option Addr)(w:World):CQ 20 [.pointer none, .pointer a] w (λu w'=>u= .tuple #[.pointer none, .int .i64 1]/\Below w.heap.size w w'):=by
 have a:=Below.refl w.heap.size w;refine nP (fn:=Tryz.f20) (rs:=[.tmp 4, .tmp 5]) (n:=26) Tryz.func20 rfl rfl Tryz.ntmps20 dA rfl<|mR<|nz<|oV ([_]) rfl<|λh c i e f=>?_
 replace a:=a.acc f;refine mV<|mV<|mQ<|ng<|mR<|mP<|mO (mZ e)<|nD (Ir _ c) ?_
 rintro _ j ⟨rfl,g⟩;replace a:=a.acc g;refine mM ?_;exact⟨rfl,a⟩
theorem Lf(h:Two (GZ q N G V k) Y lo L w):CQ 20 [.pointer (some ⟨q,0,none⟩), .pointer none] w (λu w'=>u= .tuple #[.pointer none, .int .i64 1]/\Below w.heap.size w w'):=by
 have f:=λL' w' (g:Two (GZ q N G V k) Y lo L' w')=>Jf g
 have a:=Below.refl w.heap.size w;refine nP (fn:=Tryz.f20) (rs:=[.tmp 4, .tmp 5]) (n:=26) Tryz.func20 rfl rfl Tryz.ntmps20 dA rfl<|mR<|nz<|oV ([_]) rfl<|λm i j c e=>?_
 replace h:=h.nA e j c.lt;replace a:=a.acc e;refine mV<|mV<|mQ<|ng<|mR<|mP<|mO (mZ c)<|nD (f _ i h) ?_
 rintro _ o ⟨rfl,l⟩;replace a:=a.acc l;refine mM ?_;exact⟨rfl,a⟩
omit hYT in
theorem zuI(a:Option Addr)(w:World):CQ 21 [.pointer none, .pointer a] w (λu w'=>u= .int .i64 1/\Below w.heap.size w w'):=by
 have a:=Below.refl w.heap.size w;refine nP (fn:=Tryz.f21) (rs:=[.tmp 4]) (n:=44) Tryz.func21 rfl rfl Tryz.ntmps21 dA rfl<|mR<|mV<|mQ<|ng<|mR<|mP<|mP<|nD (Ir _ w) ?_
 rintro _ e ⟨rfl,c⟩;replace a:=a.acc c;refine mK ?_;exact⟨rfl,a⟩
theorem zuJ(h:Two (GZ q N G V k) Y lo L w):CQ 21 [.pointer (some ⟨q,0,none⟩), .pointer none] w (λu w'=>u= .int .i64 1/\Below w.heap.size w w'):=by
 have c:=λL' w' (e:Two (GZ q N G V k) Y lo L' w')=>Jf e
 have a:=Below.refl w.heap.size w;refine nP (fn:=Tryz.f21) (rs:=[.tmp 4]) (n:=44) Tryz.func21 rfl rfl Tryz.ntmps21 dA rfl<|mR<|mV<|mQ<|ng<|mR<|mP<|mP<|nD (c _ w h) ?_
 rintro _ g ⟨rfl,f⟩;replace a:=a.acc f;refine mK ?_;exact⟨rfl,a⟩
theorem GA(h:Two (GZ q N (nG H) V k) Y lo L w)(hH:qO N H fl)(hrt:H.F.root≠0)(hrh:row w hb [.pointer (some ⟨q,0,none⟩)] 201)(hhb:hb<lo\/hb∈L):
  CQ 21 [.pointer (some ⟨q,0,none⟩), .pointer (some ⟨hb,0,none⟩)] w (λv w'=>v= .int .i64 4/\Two (GZ q N (nG H) V k) Y lo L w'/\mX lo L w w'):=by
 have a:=mX.refl lo L w;have c:=h;have g:=λw' (e:mX lo L w w') (f:Two (GZ q N (nG H) V k) Y lo L w')=>Rf (hb:=hb) f hH (hrh.kl e hhb) hhb
 have i:=λw' (e:mX lo L w w') (f:Two (GZ q N (nG H) V k) Y lo L w')=>IJ hb f hH (hrh.kl e hhb) hhb
 refine nP (fn:=Tryz.f21) (rs:=[.tmp 4]) (n:=44) Tryz.func21 rfl rfl Tryz.ntmps21 dA rfl<|mR<|mV<|mQ<|ng<|mR<|mP<|mP<|nD (g w a c) ?_
 rintro _ j ⟨rfl,c,l⟩;replace a:=a.ll l (λb hb=>hb);refine nV<|mP<|mO (oD rfl rfl)<|mQ<|pJ rfl (iT)<|nL<|ny<|ng<|mR<|mP<|nD (i j a c) ?_;rintro _ o ⟨rfl,c,m⟩;replace a:=a.ll m (λb hb=>hb);refine mO (oD rfl rfl)<|mQ<|sU rfl (eu)<|mR<|mV<|mQ<|nQ<|qb<|nR [_] ⟨rfl,trivial⟩ ?_;exact⟨rfl,c,a⟩
end
section
variable {Y:World->List Nat->Prop}[hYT:mW Y]{q hb N lo:Nat}{L:List Nat}{G V:Nat->Pg}{k:Nat}{H:HS}{fl:List Nat}{w:World}
theorem OJ(tb hb:Nat)(h:Two (GZ q N G V k) Y lo L w)(hr:row w tb [.pointer (some ⟨q,0,none⟩), .pointer (some ⟨hb,0,none⟩)] 50){n:Nat}(hn:n<N){U:View}(hU:Good U)(hG:G n=oG U)(hk:U.kind≠3):
  Calls Tryz.prog 62 [.pointer (some ⟨tb,0,none⟩), .int .i64 (n:Int)].toArray w (sM (λ_ _=>False) λc w'=>c=pe (wW 4)/\Two (GZ q N G V k) Y lo L w'/\mX lo L w w'):=by
 have a:=mX.refl lo L w;have e:=h;have m:=λw'=>MW U w' hU
 have o:=uO hU;have p:∀ w' L',Two (GZ q N G V k) Y lo L' w'->CQ 118 [.pointer (some ⟨q,0,none⟩), .int .i64 (n:Int)] w' (λv w2=>v= .tuple #[.agg (bv (oG U)).toArray, .int .i64 0]/\Two (GZ q N G V k) Y lo L' w2/\mX lo L' w' w2):=λw' L' B=>by
  have:=Fz B n hn;rw[hG]at this;exact this
 obtain⟨Z,r⟩:=aa (oG U);rw[r]at o p;simp only[r]at m;refine vQ (fn:=Tryz.f62) (rs:=[.cell 4 87]) (n:=114) Tryz.func62 rfl rfl Tryz.ntmps62 dA rfl<|mR<|nz<|nU ([Value.int .i64 0,Value.int .i64 0,Value.slice none 0 0]) dA<|λS T C D g=>?_
 replace e:=e.nA g C D.lt;replace a:=a.new g;replace hr:=hr.new g;refine pV<|mP<|mO (nW rfl)<|mO (nk 0)<|mO (mZ hr)<|mP<|nD (p _ _ e) ?_
 rintro _ X ⟨rfl,e,E⟩;replace a:=a.lq E;refine lK ?_;have a0:=a.size;refine nz<|nU (List.replicate 512 (Value.int .u8 0)) dA<|λF a1 H f s=>?_
 replace e:=e.nA s H f.lt;replace a:=a.new s;refine nH<|nT 512 (bv Z) f<|λI f t=>?_
 replace e:=e.only t eG;replace a:=a.oq t;refine mV<|mQ<|ng<|mR<|mP<|mO (qy rfl rfl)<|mQ<|pJ rfl (iT)<|nL<|ny<|mR<|mP<|nD (Jp I) ?_
 rintro _ _ ⟨rfl,rfl⟩;refine pV<|mP<|mO (xC (.int .i64 (n:Int)) [.int .i64 (n:Int), .int .i64 0, .slice none 0 0] rfl dA) ?_;have a2:=a.size;refine nz<|nU ([Value.int .i64 0,Value.int .i64 0,Value.slice none 0 0]) dA<|λJ a3 u i j=>?_
 have K:F<J:=ae f.lt u;replace e:=e.nA j u i.lt;replace a:=a.new j;replace f:=f.new j;refine nH<|nT 3 ([.int .i64 (n:Int), .int .i64 0, .slice none 0 0]) i<|λM i l=>?_
 replace e:=e.only l eG;replace a:=a.oq l;replace f:=f.only l (ai K);refine pV<|mO (ou rfl (Ld.qp (k:=512) f dA dA o))<|nD (m M) ?_
 rintro _ O ⟨rfl,y⟩;replace e:=e.new y;replace a:=a.new y;refine mO (qy rfl rfl)<|mP<|rD 33 rfl (eu)<|nE<|nE<|nE<|mO (oo rfl)<|mV<|mQ<|ng<|mR<|mV<|oH<|ny<|oU ?_;obtain⟨P,z⟩:=aa (O);rw[z]at e a;rw[z];refine qZ (α:=Unit) () (λ_=>[(8, .bool false),(9, .int .i64 0)]) (λ_ w'=>w'=P) (λ_=>0) ⟨rfl,rfl,rfl⟩ rfl ?_;rintro _ a4 w1 rfl;refine ng<|mR<|mP<|mP<|Ri 39 rfl (rfl)<|nE<|nE<|nE<|nE<|mO (oo rfl)<|mQ<|tC rfl (rfl)<|qP<|qL<|rf<|qX<|ny<|ng<|mR<|mP<|mQ<|tC rfl (rfl)<|nL<|ny<|ng<|mR<|mP<|mO (sD rfl)<|mQ<|Td rfl (rfl)<|nM<|vG rfl (nX dA rfl) (Iw 4 iT w1) ((λc w' ⟨Q,A⟩=>vP ⟨Q,by rw[<-A];exact e.weak λb hb=>by simp[hb],by rw[<-A];exact a⟩)) ?_;rintro _ _ R;exact R.elim
theorem Ht{tb g7 g3:Nat}(h:Two (GZ q N (nG H) V k) Y lo L w)(hok:qO N H fl)(hrt:H.F.root=0)(hr:row w tb [.pointer (some ⟨q,0,none⟩), .pointer (some ⟨hb,0,none⟩)] 50)(htb:tb∈L)(hrh:row w hb [.pointer (some ⟨q,0,none⟩)] 201)(hhb:hb<lo\/hb∈L)(hr7:row w g7 [.pointer (some ⟨tb,0,none⟩)] 37)(hg7:g7∈L)(hr3:row w g3 [.pointer (some ⟨hb,0,none⟩)] 36)(hg3:g3∈L):
  Calls Tryz.prog 69 [.pointer (some ⟨g7,0,none⟩), .pointer (some ⟨g3,0,none⟩)].toArray w (sM (λ_ _=>False) λc w'=>c=pe (wW 4)/\Two (GZ q N (nG H) V k) Y lo L w'/\mX lo L w w'):=by
 have e:Two (GZ q N (nG H) V k) Y lo (tb::hb::g7::g3::L) w:=uR (uR (uR (uR h (.inr hg3) hr3.lt) (.inr (aj _ hg7)) hr7.lt) (hhb.imp id λp=>aj _ (aj _ p)) hrh.lt) (.inr (aj _ (aj _ (aj _ htb)))) hr.lt;have g:=mX.refl lo (tb::hb::g7::g3::L) w;have K:=Bo h;have r:∀ w' L',Two (GZ q N (nG H) V k) Y lo L' w'->row w' hb [.pointer (some ⟨q,0,none⟩)] 201->(hb<lo\/hb∈L')->CQ 51 [.pointer (some ⟨hb,0,none⟩)] w' (λv w2=>v= .int .i64 ((0:Nat):Int)/\Two (GZ q N (nG H) V k) Y lo L' w2/\mX lo L' w' w2):=λw' L' i j s=>by
  have:=IJ hb i hok j s;rw[hrt]at this;exact this
 have t:=λw' L' (i:Two (GZ q N (nG H) V k) Y lo L' w') (j:row w' tb [.pointer (some ⟨q,0,none⟩), .pointer (some ⟨hb,0,none⟩)] 50)=>(OJ tb hb i j (n:=0) eu (Nw H.F) (if_pos rfl) (by show¬4=3;decide)).zM (λv w2 h=>(h.elim:False/\Below w'.heap.size w' w2)) λc w2 h=>h
 refine vQ (fn:=Tryz.f69) (rs:=[]) (n:=6) Tryz.func69 rfl rfl Tryz.ntmps69 dA rfl<|vK lo ((tb::hb::g7::g3::L)) dA ?_
 intro u a y z;replace e:=e.new a;replace g:=g.new a;replace hr:=hr.new a;replace hrh:=hrh.new a;replace hr7:=hr7.new a;replace hr3:=hr3.new a;have A:=hr7;have B:=hr3;refine nI 0 (λw' l=>mZ (A.kL l))<|nI 1 (λw' l=>mZ (B.kL l))<|nS 2 dA<|qf rfl rfl (nX dA rfl) (r u _ e hrh ig) ?_
 rintro _ C ⟨rfl,e,m⟩;have o:=z.uK y m.wk;refine⟨o,?_⟩;replace g:=g.lq m;replace hr:=hr.kl m;refine nS 3 dA<|Gq rfl rfl (nX dA rfl) (t C _ e hr) ((λc w' ⟨D,E,F⟩ f=>vP ⟨D,E.weak λb hb=>by simp[hb],(g.ll F λb hb=>hb).weak (ax _) λb hb=>by simp[hb]⟩)) ?_;rintro _ M ⟨G,I⟩;have J:=o.add0 I;refine⟨J,?_⟩;refine oL dA<|Ei [] trivial ?_;exact G.elim
theorem Oa(h:Two (GZ q N (nG H) V k) Y lo L w)(hok:qO N H fl)(hrt:H.F.root=0)(hrh:row w hb [.pointer (some ⟨q,0,none⟩)] 201)(hhb:hb<lo\/hb∈L):
  CQ 20 [.pointer (some ⟨q,0,none⟩), .pointer (some ⟨hb,0,none⟩)] w (λv w'=>v= .tuple #[.pointer none, .int .i64 4]/\Two (GZ q N (nG H) V k) Y lo L w'/\mX lo L w w'):=by
 have a:=mX.refl lo L w;have g:=h;have M:=λL' w' (o:∀ b∈L,b∈L') (y:mX lo L w w') (O:Two (GZ q N (nG H) V k) Y lo L' w')=>Rf (hb:=hb) O hok (hrh.kl y hhb) (hhb.imp id (o hb))
 have P:∀ (W:World) (L2:List Nat) (tb i j:Nat),Two (GZ q N (nG H) V k) Y lo L2 W->(∀ b∈L,b∈L2)->tb∈L2->i∈L2->j∈L2->mX lo L w W->row W tb [.pointer (some ⟨q,0,none⟩), .pointer (some ⟨hb,0,none⟩)] 50->row W i [.pointer (some ⟨tb,0,none⟩)] 37->row W j [.pointer (some ⟨hb,0,none⟩)] 36->
   Calls Tryz.prog 35 [.pointer (some ⟨tb,0,none⟩), .slice none 0 0, .bool true, .func (.func 69) #[] [.pointer (some ⟨i,0,none⟩), .pointer (some ⟨j,0,none⟩)].toArray].toArray W
   (pX λv w'=>v= .int .i64 4/\Two (GZ q N (nG H) V k) Y lo L2 w'/\mX lo L2 W w'):=λW L2 tb i j z E F p r y G l f=>by
  refine(RI tb hb z G (kp:=none) (kn:=0) (kc:=0) 69 [.pointer (some ⟨i,0,none⟩), .pointer (some ⟨j,0,none⟩)] dA
   (λG' Y'=>False) (λe G' Y'=>e=4/\G'=nG H/\Y'=Y) (λG' Y' h=>h.elim)
   (λe G' Y' ⟨_,_,Q⟩=>by subst Q;infer_instance) λL' w' o s R=>?_).to λv w' h=>?_
  .exact(Ht R hok hrt (G.kl s (.inr F)) (o _ F) ((hrh.kl y hhb).kl s (hhb.imp id (E hb))) (hhb.imp id λS=>o hb (E hb S)) (l.kl s (.inr p)) (o _ p) (f.kl s (.inr r)) (o _ r)).zM (λv w2 h=>h.elim) λc w2 ⟨T,z,A⟩=>⟨4,_,_,⟨rfl,rfl,rfl⟩,T,z,A⟩
  .rcases h with⟨G',Y',h,_⟩|⟨e,G',Y',⟨rfl,rfl,rfl⟩,A,U,X⟩
   .exact h.elim
   .exact⟨A,U,X⟩
 refine nP (fn:=Tryz.f20) (rs:=[.tmp 4, .tmp 5]) (n:=26) Tryz.func20 rfl rfl Tryz.ntmps20 dA rfl<|mR<|nz<|oV ([_]) rfl<|λj Z r f I=>?_
 replace g:=g.nA I r f.lt;replace a:=a.new I;refine mV<|mV<|mQ<|ng<|mR<|mP<|mO (mZ f) ?_
 have J:∀ b∈L,b∈j::L:=λb hb=>aj _ hb
 refine nD (M _ Z J a g) ?_;rintro _ a5 ⟨rfl,g,K⟩;replace a:=a.ll K J;replace f:=f.kl K;refine nV<|mP<|mO (oD rfl rfl)<|mQ<|pJ rfl (iT)<|nL<|ny<|mR<|mP<|mO (mZ f)<|mO (AL (.pointer (some ⟨q,0,none⟩)) (.pointer (some ⟨hb,0,none⟩)) [.pointer (some ⟨q,0,none⟩), .pointer (some ⟨hb,0,none⟩)] rfl rfl dA) ?_
 have a6:=a.size;refine nz<|oV ([.pointer (some ⟨q,0,none⟩), .pointer (some ⟨hb,0,none⟩)]) rfl<|λB a7 a0 m C=>?_
 replace g:=g.nA C a0 m.lt;replace f:=f.new C;replace a:=a.new C;refine nz<|nU ([Value.pointer none]) dA<|λi a8 p l t=>?_
 have a1:j<i:=ae f.lt p;have a2:B<i:=ae m.lt p;replace g:=g.nA t p l.lt;replace f:=f.new t;replace a:=a.new t;replace m:=m.new t;refine nH<|oW l<|λa3 l u=>?_
 replace g:=g.only u eG;replace f:=f.only u (ai a1);replace a:=a.oq u;replace m:=m.only u (ai a2);refine mQ<|ng<|mR<|mO (mZ l)<|mO (sV) ?_
 have D:∀ b∈L,b∈i::B::j::L:=λb hb=>by simp[hb]
 refine qi rfl (nX dA rfl) (P a3 _ B i j g D ig ig ig a m l f) ?_;rintro _ a9 ⟨rfl,g,a4⟩;replace a:=a.ll a4 D;refine mM ?_;exact⟨rfl,g.weak D,a⟩
end
end Go.Proofs.YtpaniebomegnbaaGreat
