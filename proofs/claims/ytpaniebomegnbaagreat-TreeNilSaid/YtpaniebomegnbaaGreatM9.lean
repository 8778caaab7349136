import Derived.Test.YtpaniebomegnbaaGreatM8
set_option maxHeartbeats 8000000
set_option maxRecDepth 20000
namespace Go.Proofs.YtpaniebomegnbaaGreat
open Go Go.RowKit Coup
structure YT where
 k:Nat
 c:Key × V3
 p:Option Addr
 cc:Nat
 out:List MN
 v:Value
 vs:List Value
 bl:List Nat
 Lc:List Nat
 j:Nat
 root:Nat
structure PtI(ps:List (MN × Nat))(c0:Key × V3)(gs L:List Nat)(n0 B0 g4:Nat)(wp:Option Addr)(wvs:List Value)(s:YT)(w:World):Prop where
 go:0<s.k->s.root=n0/\s.j+s.k=ps.length/\qG (ps.map Prod.fst).reverse c0 gs=(s.out++(qG ((ps.map Prod.fst).take s.k).reverse s.c (gs.drop s.j)).1,(qG ((ps.map Prod.fst).take s.k).reverse s.c (gs.drop s.j)).2.1,(qG ((ps.map Prod.fst).take s.k).reverse s.c (gs.drop s.j)).2.2)/\
  xU (ps.map Prod.fst).reverse c0 gs=s.j+xU ((ps.map Prod.fst).take s.k).reverse s.c (gs.drop s.j)
 fin:s.k=0->s.out=(uQ (ps.map Prod.fst) c0 gs).1/\s.root=(uQ (ps.map Prod.fst) c0 gs).2.1.getD n0/\s.j=vD (ps.map Prod.fst) c0 gs
 cel:sw w s.bl (pI s.p s.cc s.c) s.c
 clen:s.c.1.length<=100
 row:row w g4 (pI s.p s.cc s.c) 90
 own:nY w B0 87 3 s.v s.out.length s.vs
 olen:s.out.length<=600
 ojn:0<s.k->s.out.length<=2*s.j
 outs:xP w s.bl s.vs s.out
 way:wV w s.bl wvs ps
 wsl:nC w wp ps.length 4 wvs
 bl:∀ b∈s.bl,b∈s.Lc/\b≠g4/\b∉s.v.ownBlock.toList
 wbl:∀ g o,wp=some ⟨g,o,none⟩->g∈s.bl
 vL:∀ b∈s.v.ownBlock.toList,b∈s.Lc
 gL:g4∈s.Lc
 LL:∀ b∈L,b∈s.Lc
theorem ZI{α:Type}{l:List α}{k:Nat}{x:α}(h:l[k]?=some x):(l.take (k+1)).reverse=x::(l.take k).reverse:=by
 rw[bf,h,List.reverse_append];rfl
theorem zup{α:Type}{ks:List (Key × α)}(hr:uH ks)(x:Key × α):ks.length<=(pQ ks x).length/\(pQ ks x).length<=ks.length+1:=by
 obtain⟨A,B,_,_,c,_,a⟩:=JB hr x;rw[c];rcases a with⟨_,a⟩|⟨_,e,_,a⟩
 .conv=>lhs;rw[a]
  conv=>rhs;rw[a]
  simp only[aA,aD];omega
 .conv=>lhs;rw[a]
  conv=>rhs;rw[a]
  simp only[aA,aD];omega
theorem m_{α:Type}{ks:List (Key × α)}{x y:Key × α}(hr:uH ks)(h:y∈pQ ks x):y∈ks\/y=x:=by
 obtain⟨A,B,_,_,e,_,c⟩:=JB hr x;rw[e]at h;have a:y=x\/y∈A\/y∈B:=by
  rcases ay.1 h with h|h
  .exact .inr<|.inl h
  .rcases ak.1 h with h|h
   .exact .inl h
   .exact .inr<|.inr h
 rcases a with a|a
 .exact .inr a
 .left
  rcases c with⟨_,c⟩|⟨_,f,_,c⟩
  .rw[c];simpa using a
  .rw[c];simp only[ay,ak];rcases a with a|a<;>simp[a]
theorem Tt{path:List MN}{c:Key × V3}{gs r:List Nat}{o:List MN}(h:qG path.reverse c gs=(o,none,r)):uQ path c gs=(o,none,r)/\zz path c gs=false:=by
 unfold uQ zz;rw[h];exact⟨rfl,rfl⟩
theorem RP{path:List MN}{c c':Key × V3}{gs r:List Nat}{o:List MN}{x:MN}(h:qG path.reverse c gs=(o,some c',r))(hx:path[0]?=some x):uQ path c gs=(o++[⟨r.headD 0,x.lv+1,[([],(0,0,x.n)),c']⟩],some (r.headD 0),r.tail)/\zz path c gs=true:=by
 unfold uQ zz;rw[h];cases path with
 |nil=>cases hx
 |cons y l=>cases hx;exact⟨rfl,rfl⟩
theorem qj.ren{w:World}{bl:List Nat}{m n lv:Nat}{cs:List (Key × V3)}{p:Option Addr}{cp:Nat}(h:qj w bl (oz ⟨m,lv,cs⟩ p cp) ⟨m,lv,cs⟩):qj w bl (oz ⟨n,lv,cs⟩ p cp) ⟨n,lv,cs⟩:=by
 obtain⟨i,j,vs,a,c,e,f,g⟩:=h;simp only[oz,ja,Value.slice.injEq]at a;obtain⟨_,_,⟨rfl,_,rfl⟩,_⟩:=a;exact⟨p,cp,vs,rfl,c,e,f,g⟩
theorem WT{l:List Nat}{j:Nat}:(l.drop j).headD 0=l.getD j 0:=by
 rw[bI,List.headD_eq_head?_getD,List.head?_drop]
theorem sw.key{w:World}{bl:List Nat}{p:Option Addr}{cp:Nat}{c:Key × V3}(h:sw w bl (pI p cp c) c):nC w p c.1.length 1 (bv c.1):=by
 obtain⟨e,f,a,c,_⟩:=h;simp only[pI,ja,Value.slice.injEq]at a;obtain⟨⟨rfl,_,rfl⟩,_⟩:=a;exact c
theorem Cg{α:Type}{ks:List (Key × α)}{k:Key}(h:isK ks k=true):pz ks k<ks.length:=by
 unfold isK at h
 split at h
 .rename_i x a;exact(aO.1 a).1
 .cases h
theorem zpp{w w':World}{v:Value}(h:Kp v.ownBlock.toList w w'):w.grownBy w' v.ownBlock:=⟨h.os,h.tape,h.output,h.size,λk a c=>h.block k a λe=>c (ah.1 e).symm⟩
theorem Vp {p : Option Addr} {n c base gv i tv : Nat} {vs cs : List Value} (w : World) (h : nY w base 90 4 (.slice p n c) n vs) (h1 : ∀ u ∈ vs, u.oneCell' = true) (hv : row w gv cs tv) (hc4 : cs.length = 4) (hc1 : ∀ u ∈ cs, u.oneCell' = true) (hgv : ∀ o, p ≠ some ⟨gv, o, none⟩) (hb : base <= w.heap.size) (hi : i <= n) (hn : n <= 1000) :
  CQ 114 [.slice p n c, .int .i64 (i : Int), .slice (some ⟨gv, 0, none⟩) 1 1] w (λv w' => ∃ p2 c2, v = .slice p2 (n + 1) c2 /\ nY w' base 90 4 (.slice p2 (n + 1) c2) (n + 1) (vs.take (i * 4) ++ cs ++ vs.drop (i * 4)) /\ w.grownBy w' (Value.slice p n c).ownBlock) :=
 (zsB w h h1 hv hc4 hc1 hgv hb hi hn).to λv w' ⟨h1, h2⟩ => by
  obtain ⟨p2, c2, rfl⟩ := h1.form
  exact ⟨p2, c2, rfl, h1, zpp h2⟩
theorem NP {p : Option Addr} {n c : Nat} {vs : List Value} (w : World) (h : nC w p n 4 vs) (h1 : ∀ u ∈ vs, u.oneCell' = true) (hn : n <= 1000) :
  CQ 47 [.slice p n c] w (λv w' => ∃ p2 c2, v = .slice p2 n c2 /\ nY w' w.heap.size 90 4 (.slice p2 n c2) n vs /\ Below w.heap.size w w') :=
 (ZX w h h1 hn).to λv w' ⟨h1, h2⟩ => by
  obtain ⟨p2, c2, rfl⟩ := h1.form
  exact ⟨p2, c2, rfl, h1, h2⟩
theorem qj.ND{w:World}{bl:List Nat}{base n lv c:Nat}{p:Option Addr}{vs:List Value}{cs:List (Key × V3)}(h:nY w base 90 4 (.slice p cs.length c) cs.length vs)(hc:qQ w bl vs cs):qj w ((Value.slice p cs.length c).ownBlock.toList++bl) (oz ⟨n,lv,cs⟩ p c) ⟨n,lv,cs⟩:=
 ⟨p,c,vs,rfl,h.sl,hc.mono λb hb=>aB _ hb,λg o e=>aF _ (by subst e;exact aK ..),OL h⟩
theorem SX {p : Option Addr} {n c : Nat} {vs : List Value} (w : World) (h : nC w p n 1 vs) (h1 : ∀ u ∈ vs, u.oneCell' = true) (hn : n <= 1000) :
  CQ 41 [.slice p n c] w (λv w' => ∃ p2 c2, v = .slice p2 n c2 /\ nY w' w.heap.size 5 1 (.slice p2 n c2) n vs /\ Below w.heap.size w w') :=
 (zuj w h h1 hn).to λv w' ⟨h1, h2⟩ => by
  obtain ⟨p2, c2, rfl⟩ := h1.form
  exact ⟨p2, c2, rfl, h1, h2⟩
theorem C_(l:List (Key × V3)):vZ l=[]\/∃ c∈l,vZ l=c.1:=by
 cases l with
 |nil=>exact .inl rfl
 |cons c r=>exact .inr ⟨c,aK ..,rfl⟩
theorem sw.ND{w:World}{bl:List Nat}{base c n:Nat}{p:Option Addr}{K:Key}(h:nY w base 5 1 (.slice p K.length c) K.length (bv K)):sw w ((Value.slice p K.length c).ownBlock.toList++bl) (pI p c (K,(0,0,n))) (K,(0,0,n)):=
 ⟨p,c,rfl,h.sl,λg o e=>aF _ (by subst e;exact aK ..),OL h⟩
theorem QF{a b x:Nat}(h1:a<=x)(h2:x<b):x∈List.range' a (b - a):=dh.2 ⟨h1,eu⟩
structure KF(F:World->Prop)(BL:List Nat)(e:Nat)(w:World):Prop where
 f:F w
 k:∀ w1 w2 M,F w1->Kp M w1 w2->(∀ b∈BL,b∉M)->F w2
 lt:∀ b∈BL,b<e
namespace KF
variable {F:World->Prop}{BL:List Nat}{e:Nat}{w w':World}
theorem nu{M:List Nat}(h:KF F BL e w)(k:Kp M w w')(hM:∀ b∈BL,b∉M):KF F BL e w':=⟨h.k w w' M h.f k hM,h.k,h.lt⟩
theorem new(h:KF F BL e w)(hb:Below w.heap.size w w'):KF F BL e w':=h.nu (M:=[]) (Kp.of_below hb) ig
theorem only{g:Nat}(h:KF F BL e w)(ho:Only g w w')(hg:e<=g):KF F BL e w':=h.nu (Kp.rC ho) λb hb a=>by
 have c:=h.lt b hb;have e:b=g:=by simpa using a
 omega
theorem ll{lo:Nat}{L:List Nat}(h:KF F BL e w)(k:mX lo L w w')(hb:∀ b∈BL,b<lo\/b∈L):KF F BL e w':=h.nu k.kp λb a=>pG (hb b a)
end KF
section
variable {X Y:Nat->World->List Nat->Prop}[hX:∀ j,mW (X j)][hY:∀ j,mW (Y j)]{lo:Nat}{L:List Nat}{w:World}
theorem Jc (h:Two (X 0) (Y 0) lo L w) {ps:List (MN × Nat)} {c0:Key × V3} {gs:List Nat} (hnok:∀ x∈ps.map Prod.fst,xq x) (hps:0<ps.length) (hps2:ps.length<=256) (hc0:c0.1.length<=100) {n0:Nat} (hn0:∀ z,ps[0]?=some z->z.1.n=n0)
   {wp:Option Addr} {wc:Nat} {wvs:List Value} {bl0:List Nat} {p0:Option Addr} {cc0:Nat} (hws:nC w wp ps.length 4 wvs) (hwy:wV w bl0 wvs ps) (hcel:sw w bl0 (pI p0 cc0 c0) c0) (hbl0:∀ b∈bl0,b∈L) (hwp:∀ g o,wp=some ⟨g,o,none⟩->g∈bl0)
   (fk:Nat) (caps:List Value) (hcan:vv Tryz.prog fk=true)
   (hgive:∀ j,j<vD (ps.map Prod.fst) c0 gs->∀ L' w',(∀ b∈L,b∈L')->mX lo L w w'->Two (X j) (Y j) lo L' w'->Calls Tryz.prog fk caps.toArray w' (pX λv w2=>v= .int .i64 (gs.getD j 0:Int)/\Two (X (j+1)) (Y (j+1)) lo L' w2/\mX lo L' w' w2)):
   CQ 57 [.slice wp ps.length wc, .agg (pI p0 cc0 c0).toArray, .func (.func fk) #[] caps.toArray] w (λv w'=>∃ v1 vs bl Lc,v= .tuple #[v1, .int .i64 ((uQ (ps.map Prod.fst) c0 gs).2.1.getD n0:Int)]/\nY w' w.heap.size 87 3 v1 (uQ (ps.map Prod.fst) c0 gs).1.length vs/\xP w' bl vs (uQ (ps.map Prod.fst) c0 gs).1/\
     (∀ b∈bl,b∈Lc/\b∉v1.ownBlock.toList)/\(∀ b∈v1.ownBlock.toList,b∈Lc)/\(∀ b∈L,b∈Lc)/\Two (X (vD (ps.map Prod.fst) c0 gs)) (Y (vD (ps.map Prod.fst) c0 gs)) lo Lc w'/\mX lo L w w'):=by
 have f6:=mX.refl lo L w;have f7:=Below.refl w.heap.size w;have e4:=h;have Y1:maxLen=9223372036854775807:=by decide
 have Y2:=h.lo;have K1:=h.lt;obtain⟨m5,B2⟩:∃ m5,ps[0]?=some m5:=⟨_,aI hps⟩;obtain⟨i4,g5,rfl,Y3⟩:=hws.some eu;obtain⟨Y4,K2,K3⟩:=hwy.at_ 0 m5 B2;obtain⟨Y5,Y6,_,rfl,_⟩:=K3;have K4:wvs[0]?=some (.int .i64 (n0:Int)):=by
   have d3:((wvs.drop (0*4)).take 4)[0]?=some (.int .i64 (m5.1.n:Int)):=by rw[K2];rfl
   rw[bF,if_pos eu,bD,hn0 m5 B2]at d3;exact d3
 have Y7:=zi p0 cc0 c0;refine nP (fn:=Tryz.f57) (rs:=[.tmp 6, .tmp 7]) (n:=111) Tryz.func57 rfl rfl Tryz.ntmps57 dA rfl<|mR<|nz<|oV (pI p0 cc0 c0) rfl<|λI B3 B4 f f8=>?_
 have Y8:=ag f7.size B4;have Y9:=f6.size;replace e4:=e4.nA f8 B4 f.lt;replace f6:=f6.new f8;replace f7:=f7.acc f8;refine mV<|nV<|mP<|mO (rE (e:=97) (sz:=4) dA rfl rfl (0) eu eu)<|mO (nk 0)<|mO (nk 0)<|mO (ou rfl (Ld.sl1 (off:=g5) (j:=0) (hws.new f7) dA K4))<|mV<|mQ<|ng<|mR<|mP<|mO (oQ (e:=97) (sz:=4) dA rfl rfl)<|mO (vE rfl rfl (Coup.nN eu))<|mV<|mQ<|oU ?_
 obtain⟨B0,K5⟩:=aa ((B3).heap.size);have B5:=ym B3 B0 87 3;have m6:w.heap.size<=B0:=by have:=f7.size;omega
 have Z0:=f.lt;refine qZ (α:=YT) ⟨ps.length,c0,p0,cc0,[], .slice none 0 0,[],bl0,I::L,0,n0⟩ (λs=>[(8, .int .i64 ((s.k:Int) - 1)),(7, .int .i64 (s.root:Nat)),(6,s.v),(4, .pointer (some ⟨I,0,none⟩)),(0, .slice (some ⟨i4,g5,none⟩) ps.length wc),(2, .func (.func fk) #[] caps.toArray)])
   (λs w'=>PtI ps c0 gs L n0 B0 I (some ⟨i4,g5,none⟩) wvs s w'/\Two (X s.j) (Y s.j) lo s.Lc w'/\mX lo L w w'/\B0<=w'.heap.size) (λs=>s.k)
   ⟨rfl,rfl,rfl,rfl,rfl,rfl,rfl⟩ ⟨⟨λ_=>⟨rfl,by dsimp only;omega,?_,?_⟩,λe=>by dsimp only at e;omega,hcel.new f7,hc0,f,B5,aC _,λ_=>aC _,xP.nil _ _,hwy.new f7,hws.new f7,λb hb=>⟨aj _ (hbl0 b hb),λe=>by have d3:=K1 b (hbl0 b hb);omega,(λC=>nomatch C)⟩,hwp,(λb C=>nomatch C),aK ..,λb hb=>aj _ hb⟩,e4,f6,fG K5.symm⟩ ?_
 · dsimp only
   rw[cK,aV,aP lm]
 · dsimp only
   rw[cK,bg,aP lm]
 have K6:w.heap.size<=I:=by omega
 have K7:I<B0:=by omega
 clear B5 e4 f6 f f7;rintro⟨k,c,p,e5,out,v,vs,bl,Lc,j,root⟩ Z1 b2 ⟨K8,e4,f6,Z2⟩;obtain⟨B6,B7,hcel,B8,f,m7,K9,q4,q5,hwy,hws,e6,j9,k0,B9,q6⟩:=K8;dsimp only at B6 B7 hcel B8 f m7 K9 q4 q5 hwy hws e6 j9 k0 B9 q6 e4;have q7:=zi p e5 c;have u9:=e4.lt;refine ng<|mR<|mP<|mO (tN rfl rfl)<|mQ<|oP rfl (λv0=>?_)<|λv0=>?_
 ·
  refine lF ?_;dsimp only at v0;have L0:=f;have a4:∃ Q,k=Q+1:=⟨k - 1,eu⟩;obtain⟨Q,rfl⟩:=a4;have a4:=B6 (gH Q);obtain⟨C0,Z3,e7,d9⟩:=a4;have a4:∃ z,ps[Q]?=some z:=⟨_,aI eu⟩;obtain⟨⟨x,Z4⟩,C1⟩:=a4;have v1:(ps.map Prod.fst)[Q]?=some x:=by rw[aW,C1];rfl
  rw[ZI v1]at e7 d9;have q8:=hnok x (aN v1);have a4:=hwy.at_ Q _ C1;obtain⟨xs,C2,q9⟩:=a4;dsimp only at C2 q9;obtain⟨i5,i6,v2,rfl,m8,i7,L1,L3⟩:=q9;have q9:qj b2 bl (oz x i5 i6) x:=⟨i5,i6,v2,rfl,m8,i7,L1,L3⟩;have Z5:=vO x i5 i6;have Z6:=wM x i5 i6;have L4:∀ w',Below b2.heap.size b2 w'->Ld Tryz.prog w' 87 ⟨i4,g5+Q*4,none⟩ (.agg (oz x i5 i6).toArray):=λw' hb=>by
    have d3:(wvs.drop (Q*4)).take 3=oz x i5 i6:=by
      have g6:=congrArg (List.take 3) C2;rw[dL]at g6;exact g6.trans<|bJ rfl
    have y:=Ld.zB (P:=Tryz.prog) (t:=87) (j:=Q*4) (k:=3) (hws.new hb) dA dA (by rw[hws.len];omega);rw[d3]at y;exact y
  have Z7:=q8.few;have v4:=q8.keys.1;have f9:=WI x.cs c.1;have L5:=hcel.key;have r:=Below.refl b2.heap.size b2;have i8:=Ut i7;have Z8:=i7.len;have Z9:(pI p e5 c).length=4:=rfl;have a4:∃ l:MN,(⟨x.n,x.lv,pQ x.cs c⟩:MN)=l:=⟨_,rfl⟩;obtain⟨l,m9⟩:=a4;refine nM<|mP<|mP<|mO (rE (e:=97) (sz:=4) dA rfl rfl (Q) (by(show((Q+1:Nat):Int) - 1=(Q:Int);omega)) eu)<|mO (nk 0)<|mO (ou rfl (L4 _ r))<|nz<|nU ([Value.int .i64 0,Value.int .i64 0,Value.slice none 0 0]) dA<|λa0 ab C3 i C4=>?_
  have n1:=ag r.size C3;have k7:I<a0:=ae f.lt C3;replace f:=f.new C4;replace r:=r.acc C4;refine nH<|nT 3 (oz x i5 i6) i<|λL6 i C5=>?_
  replace f:=f.only C5 (ai k7);replace r:=C5.below r n1;refine pV<|mO (oI 3 i)<|mO (nk 0)<|mO (mZ f)<|qi rfl (nX dA rfl) (SS L6 (q9.new r) eu v4 (L5.new r)) ?_
  rintro _ L7 ⟨rfl,v5⟩;replace f:=f.new v5;replace i:=i.new v5;replace r:=r.acc v5;refine mP<|mO (nJ rfl rfl)<|mO (nJ rfl rfl)<|mV<|mV<|mQ<|xO (λa:Option Addr × Nat × List Nat=>[(9, .pointer (some ⟨a0,0,none⟩)),(8, .int .i64 (Q:Nat)),(7, .int .i64 (root:Nat)),(6,v),(4, .pointer (some ⟨I,0,none⟩)),(0, .slice (some ⟨i4,g5,none⟩) ps.length wc),(2, .func (.func fk) #[] caps.toArray)]) (λa w'=>row w' a0 (oz l a.1 a.2.1) 87/\qj w' (a.2.2++bl) (oz l a.1 a.2.1) l/\(∀ b∈a.2.2,b2.heap.size<=b/\b<w'.heap.size)/\Below b2.heap.size b2 w') ?_ ?_
  ·
   refine mR<|mP<|mQ<|xm rfl (λk8=>?_)<|λk8=>?_
   ·
    refine ng ?_;have L8:=Cg k8;have i9:pQ x.cs c=x.cs.set (pz x.cs c.1) c:=by unfold pQ;rw[k8,if_pos rfl]
    refine nM<|mO (nk 2)<|mO (mZ i) ?_
    have C6:=i.lt;have ac:=f.lt;have v6:=r.size;refine qi rfl (nX dA rfl) (NP L7 (m8.new r) i8 eu) ?_;rintro _ L9 ⟨ad,v7,rfl,e8,v8⟩;replace f:=f.new v8;replace i:=i.new v8;replace r:=r.acc v8;have a4:=e8.form' eu;obtain⟨n2,v9,af,M0,al,_⟩:=a4;cases M0;replace e8:qI L9 _ 90 4 n2 v9 x.cs.length v7 v2:=e8;have am:=e8.MQ;refine mO (nk 2)<|nH<|oW i<|λan i w0=>?_
    replace f:=f.only w0 (ai k7);replace e8:=e8.only w0 eu;replace r:=w0.below r n1;refine mQ<|nM<|mO (nk 2)<|mO (mZ i)<|mP<|mO (oI 4 f)<|mO (rE (e:=90) (sz:=4) dA rfl rfl (pz x.cs c.1) eu eu)<|nH<|Jg (pI p e5 c) ((pz x.cs c.1*4)) e8 rfl rfl dA kH q7<|λM1 e8 w3=>?_
    replace f:=f.only w3 eu;replace i:=i.only w3 eu;replace r:=w3.below r eu;refine oH ?_;have j0:=(i7.new r).set (hcel.new r) L8;have C7:(x.cs.set (pz x.cs c.1) c).length=x.cs.length:=bq;have M2:nY M1 b2.heap.size 90 4 (.slice (some ⟨n2,v9,none⟩) (x.cs.set (pz x.cs c.1) c).length v7) (x.cs.set (pz x.cs c.1) c).length (splice v2 (pz x.cs c.1*4) (pI p e5 c)):=by rw[C7];exact nY.mono e8 eu
    have d4:=qj.ND (n:=x.n) (lv:=x.lv) M2 j0;subst m9;rw[i9];refine oO ⟨(some ⟨n2,v9,none⟩,v7,[n2]),⟨rfl,congrArg (Value.int .i64) (show((Q+1:Nat):Int) - 1=(Q:Int) by omega),rfl,rfl,rfl,rfl,rfl,rfl⟩,by unfold oz;rw[C7];exact i,d4,λb hb=>?_,r⟩;have V:=e8.lt;have r0:b=n2:=by simpa using hb
    exact⟨eu,eu⟩
   ·
    refine qz [a0] dA ?_;intro M3 w4 k9;replace f:=f.new w4;replace i:=i.new w4;replace r:=r.acc w4;have M4:=f;have ao:=i;have ap:=r;refine mU 0 (nk 2)<|mU 3 (nK)<|nI 4 (λw' c8=>oI 4 (M4.kq c8))<|yP 1 5 dA ?_ ?_
    ·
     refine Ap rfl rfl (mZ i) k9<|yP 2 5 dA ?_ ?_
     ·
      have C8:=i.lt;have C9:=f.lt;have D0:=i.lt;have v6:=r.size;refine qf rfl rfl (nX dA rfl) (NP M3 (m8.new r) i8 eu) ?_;rintro _ r1 ⟨n3,D1,rfl,a5,a9⟩;have w5:=k9.add0 a9;refine⟨w5,?_⟩;replace f:=f.new a9;replace i:=i.new a9;replace r:=r.acc a9;have n4:=a5.lt;refine nS 5 dA<|qJ rfl rfl<|uE (e:=90) (.agg (pI p e5 c).toArray) (pI p e5 c) ([Value.slice none 0 0,Value.int .i64 0,Value.int .i64 0,Value.int .i64 0]) 4 dA dA rfl rfl iw ⟨iT,iT⟩<|λb7 n5 b8 e0 b5=>?_
      have w6:=w5.add0 b5;refine⟨w6,?_⟩;have ar:=ag w5.size b8;have D2:=ag r.size b8;have D3:I<b7:=ae f.lt b8;have D4:a0<b7:=ae i.lt b8;replace f:=f.new b5;replace i:=i.new b5;replace a5:=a5.new b5;replace r:=r.acc b5;refine nS 6 dA ?_;have D5:=w6.size;have D6:=a9.size;have n6:∀ o,n3≠some ⟨b7,o,none⟩:=λo e=>by
        subst e;have r2:=n4 b7 rfl;omega
      refine qf rfl rfl (nX dA rfl) (Vp n5 a5 i8 e0 rfl q7 n6 eu f9 eu) ?_;rintro _ D7 ⟨g7,g8,rfl,a8,b9⟩;have D8:=w6.add (Kp.rX b9) (λg C=>by first |exact Or.inr C|exact Or.inr (aj _ C)|(have:=(a5.lt g (ah.1 C)).1;left;omega)|exact(hfr54 g (ah.1 C)).elim (λe=>Or.inr (ah.2 e)) (λe=>Or.inl eu)|exact(hfr54 g (ah.1 C)).elim (λe=>Or.inr (aj _ (ah.2 e))) (λe=>Or.inl eu));refine⟨D8,?_⟩;replace f:=f.own a5 b9 eu;replace i:=i.own a5 b9 eu;replace r:=r.own a5 b9 eu;refine mU 7 (nk 2)<|nS 8 dA ?_
      have n7:=a8.lt;have w7:=r.size;refine qR rfl rfl<|oW i<|λau i r3=>?_
      have M5:=D8.aq r3;refine⟨M5,?_⟩;replace f:=f.only r3 (ai k7);replace a8:=a8.only r3 eu;replace r:=r3.below r n1;have i9:pQ x.cs c=x.cs.insertIdx (pz x.cs c.1) c:=by unfold pQ;rw[k8,if_neg eF]
      refine oL dA ?_;have g9:(x.cs.insertIdx (pz x.cs c.1) c).length=x.cs.length+1:=by rw[Qm f9];simp;omega
      have j0:=(i7.new r).ins (hcel.new r) f9;rw[<-g9]at a8 n7;have d4:=qj.ND (n:=x.n) (lv:=x.lv) a8 j0;subst m9;rw[i9];refine oO ⟨(g7,g8,(Value.slice g7 (x.cs.insertIdx (pz x.cs c.1) c).length g8).ownBlock.toList),⟨rfl,congrArg (Value.int .i64) (show((Q+1:Nat):Int) - 1=(Q:Int) by omega),rfl,rfl,rfl,rfl,rfl,rfl⟩,by unfold oz;rw[g9];exact i,d4,λb hb=>?_,r⟩;have V:=a8.lt b (ah.1 hb);exact⟨eu,V.2⟩
     ·
      refine qJ rfl rfl<|uE (e:=90) (.agg (pI p e5 c).toArray) (pI p e5 c) ([Value.slice none 0 0,Value.int .i64 0,Value.int .i64 0,Value.int .i64 0]) 4 dA dA rfl rfl iw ⟨iT,iT⟩<|λb7 n5 b8 e0 b5=>?_
      have D9:=k9.add0 b5;refine⟨D9,?_⟩;have M6:=ag k9.size b8;have D2:=ag r.size b8;have D3:I<b7:=ae f.lt b8;have D4:a0<b7:=ae i.lt b8;replace f:=f.new b5;replace i:=i.new b5;replace r:=r.acc b5;refine nS 2 dA ?_;have C8:=e0.lt;have C9:=f.lt;have D0:=i.lt;have v6:=r.size;refine qf rfl rfl (nX dA rfl) (NP n5 (m8.new r) i8 eu) ?_;rintro _ r1 ⟨n3,D1,rfl,a5,a9⟩;have w8:=D9.add0 a9;refine⟨w8,?_⟩;replace f:=f.new a9;replace i:=i.new a9;replace e0:=e0.new a9;replace r:=r.acc a9;have n4:=a5.lt;refine nS 6 dA ?_;have D5:=w8.size;have D6:=a9.size;have n6:∀ o,n3≠some ⟨b7,o,none⟩:=λo e=>by
        subst e;have r2:=n4 b7 rfl;omega
      refine qf rfl rfl (nX dA rfl) (Vp r1 a5 i8 e0 rfl q7 n6 eu f9 eu) ?_;rintro _ D7 ⟨g7,g8,rfl,a8,b9⟩;have E0:=w8.add (Kp.rX b9) (λg C=>by first |exact Or.inr C|exact Or.inr (aj _ C)|(have:=(a5.lt g (ah.1 C)).1;left;omega)|exact(hfr54 g (ah.1 C)).elim (λe=>Or.inr (ah.2 e)) (λe=>Or.inl eu)|exact(hfr54 g (ah.1 C)).elim (λe=>Or.inr (aj _ (ah.2 e))) (λe=>Or.inl eu));refine⟨E0,?_⟩;replace f:=f.own a5 b9 eu;replace i:=i.own a5 b9 eu;replace r:=r.own a5 b9 eu;refine mU 7 (nk 2)<|nS 8 dA ?_
      have n7:=a8.lt;have w7:=r.size;refine qR rfl rfl<|oW i<|λav i r4=>?_
      have M7:=E0.aq r4;refine⟨M7,?_⟩;replace f:=f.only r4 (ai k7);replace a8:=a8.only r4 eu;replace r:=r4.below r n1;have i9:pQ x.cs c=x.cs.insertIdx (pz x.cs c.1) c:=by unfold pQ;rw[k8,if_neg eF]
      refine oL dA ?_;have g9:(x.cs.insertIdx (pz x.cs c.1) c).length=x.cs.length+1:=by rw[Qm f9];simp;omega
      have j0:=(i7.new r).ins (hcel.new r) f9;rw[<-g9]at a8 n7;have d4:=qj.ND (n:=x.n) (lv:=x.lv) a8 j0;subst m9;rw[i9];refine oO ⟨(g7,g8,(Value.slice g7 (x.cs.insertIdx (pz x.cs c.1) c).length g8).ownBlock.toList),⟨rfl,congrArg (Value.int .i64) (show((Q+1:Nat):Int) - 1=(Q:Int) by omega),rfl,rfl,rfl,rfl,rfl,rfl⟩,by unfold oz;rw[g9];exact i,d4,λb hb=>?_,r⟩;have V:=a8.lt b (ah.1 hb);exact⟨eu,V.2⟩
    ·
     refine qJ rfl rfl<|uE (e:=90) (.agg (pI p e5 c).toArray) (pI p e5 c) ([Value.slice none 0 0,Value.int .i64 0,Value.int .i64 0,Value.int .i64 0]) 4 dA dA rfl rfl iw ⟨iT,iT⟩<|λb7 n5 b8 e0 b5=>?_
     have w9:=k9.add0 b5;refine⟨w9,?_⟩;have M6:=ag k9.size b8;have D2:=ag r.size b8;have D3:I<b7:=ae f.lt b8;have D4:a0<b7:=ae i.lt b8;replace f:=f.new b5;replace i:=i.new b5;replace r:=r.acc b5;refine nS 1 dA<|Ap rfl rfl (mZ i) w9<|nS 2 dA ?_
     have C8:=e0.lt;have C9:=f.lt;have D0:=i.lt;have v6:=r.size;refine qf rfl rfl (nX dA rfl) (NP n5 (m8.new r) i8 eu) ?_;rintro _ r1 ⟨n3,D1,rfl,a5,a9⟩;have x0:=w9.add0 a9;refine⟨x0,?_⟩;replace f:=f.new a9;replace i:=i.new a9;replace e0:=e0.new a9;replace r:=r.acc a9;have n4:=a5.lt;refine nS 6 dA ?_;have D5:=x0.size;have D6:=a9.size;have n6:∀ o,n3≠some ⟨b7,o,none⟩:=λo e=>by
       subst e;have r2:=n4 b7 rfl;omega
     refine qf rfl rfl (nX dA rfl) (Vp r1 a5 i8 e0 rfl q7 n6 eu f9 eu) ?_;rintro _ D7 ⟨g7,g8,rfl,a8,b9⟩;have E1:=x0.add (Kp.rX b9) (λg C=>by first |exact Or.inr C|exact Or.inr (aj _ C)|(have:=(a5.lt g (ah.1 C)).1;left;omega)|exact(hfr54 g (ah.1 C)).elim (λe=>Or.inr (ah.2 e)) (λe=>Or.inl eu)|exact(hfr54 g (ah.1 C)).elim (λe=>Or.inr (aj _ (ah.2 e))) (λe=>Or.inl eu));refine⟨E1,?_⟩;replace f:=f.own a5 b9 eu;replace i:=i.own a5 b9 eu;replace r:=r.own a5 b9 eu;refine mU 7 (nk 2)<|nS 8 dA ?_
     have n7:=a8.lt;have w7:=r.size;refine qR rfl rfl<|oW i<|λaw i r5=>?_
     have M8:=E1.aq r5;refine⟨M8,?_⟩;replace f:=f.only r5 (ai k7);replace a8:=a8.only r5 eu;replace r:=r5.below r n1;have i9:pQ x.cs c=x.cs.insertIdx (pz x.cs c.1) c:=by unfold pQ;rw[k8,if_neg eF]
     refine oL dA ?_;have g9:(x.cs.insertIdx (pz x.cs c.1) c).length=x.cs.length+1:=by rw[Qm f9];simp;omega
     have j0:=(i7.new r).ins (hcel.new r) f9;rw[<-g9]at a8 n7;have d4:=qj.ND (n:=x.n) (lv:=x.lv) a8 j0;subst m9;rw[i9];refine oO ⟨(g7,g8,(Value.slice g7 (x.cs.insertIdx (pz x.cs c.1) c).length g8).ownBlock.toList),⟨rfl,congrArg (Value.int .i64) (show((Q+1:Nat):Int) - 1=(Q:Int) by omega),rfl,rfl,rfl,rfl,rfl,rfl⟩,by unfold oz;rw[g9];exact i,d4,λb hb=>?_,r⟩;have V:=a8.lt b (ah.1 hb);exact⟨eu,V.2⟩
  ·
   rintro⟨j1,j2,b0⟩ n8 w2 ⟨i,d4,g0,R⟩;dsimp only at i d4 g0;have a4:l.n=x.n/\l.lv=x.lv/\l.cs=pQ x.cs c:=by rw[<-m9];exact⟨rfl,rfl,rfl⟩
   obtain⟨E2,r6,x1⟩:=a4;have M9:=zup v4 c;rw[<-x1]at M9;have E3:∀ j3∈l.cs,j3.1.length<=100:=λj3 r7=>by
     rw[x1]at r7;rcases m_ v4 r7 with d3|d3
     · exact(q8.wf j3 d3).1
     · rw[d3];exact B8
   have r8:∀ j3∈l.cs,j3.1.length<=300:=λj3 r7=>ag (E3 j3 r7) eu
   have N0:l.lv<256:=by rw[r6];exact q8.lv
   rw[qG]at e7;rw[xU]at d9;have E4:pQ x.cs c=l.cs:=x1.symm;rw[E4,<-r6,<-E2]at e7;rw[E4,<-r6]at d9;have a4:∃ Z,(if tK l.lv l.cs=true then oG (rH l)else uG)=Z:=⟨_,rfl⟩;obtain⟨Z,E5⟩:=a4;have N1:∀ w',qj w' (b0++bl) (oz l j1 j2) l->CQ 70 [.agg (oz l j1 j2).toArray] w' (λv w2=>v= .tuple #[.agg (bv Z).toArray, .bool (tK l.lv l.cs)]/\Below w'.heap.size w' w2):=λw' x2=>by
     have V:=Ac w' x2 N0 r8;rw[E5]at V;exact V
   have az:(bv Z).length=512:=by
     rw[<-E5]
     split
     · rename_i h0
       rw[NH]at h0;exact uO<|Fp r8<|of_decide_eq_true h0
     · exact MP
   have N2:=vO l j1 j2;have aE:=wM l j1 j2;have f:=L0.new R;have b4:=Below.refl w2.heap.size w2;have aS:=R.size;have E6:=m7.lt;refine ng<|mR<|mO (oI 3 i)<|nD (N1 w2 d4) ?_
   rintro _ aT ⟨rfl,r9⟩;replace f:=f.new r9;replace i:=i.new r9;replace R:=R.acc r9;replace b4:=b4.acc r9;refine mP<|mO (nJ rfl rfl)<|mO (nJ rfl rfl)<|nz<|nU (List.replicate 512 (Value.int .u8 0)) dA<|λn9 ba s0 b3 s1=>?_
   have N3:=ag R.size s0;have N4:=ag b4.size s0;have N5:I<n9:=ae f.lt s0;have N6:a0<n9:=ae i.lt s0;replace f:=f.new s1;replace i:=i.new s1;replace R:=R.acc s1;replace b4:=b4.acc s1;rw[AP]at b3;refine nH<|nT 512 (bv Z) b3<|λN7 b3 s2=>?_
   replace f:=f.only s2 (ai N5);replace i:=i.only s2 (ai N6);replace R:=s2.below R N3;replace b4:=s2.below b4 N4;refine nV<|mP<|mQ<|xm rfl (λh0=>?_)<|λh0=>?_
   ·
    refine mR<|mP<|mO (oI 3 i)<|nz<|uE (e:=87) (.agg (oz l j1 j2).toArray) (oz l j1 j2) ([Value.int .i64 0,Value.int .i64 0,Value.slice none 0 0]) 3 dA dA rfl rfl iw ⟨iT,iT⟩<|λx3 E7 o0 N8 o1=>?_
    have bb:=ag R.size o0;have bc:=ag b4.size o0;have bd:I<x3:=ae f.lt o0;have bh:a0<x3:=ae i.lt o0;have bj:n9<x3:=ae b3.lt o0;replace f:=f.new o1;replace i:=i.new o1;replace b3:=b3.new o1;replace R:=R.acc o1;replace b4:=b4.acc o1;have N9:=N8.ul (m:=1) (sz:=3) rfl eu;have s3:=m7.new R;have w7:=R.size;have s4:=e4.zn R (M:=List.range' b2.heap.size ((E7).heap.size - b2.heap.size)) λb hb=>by
      have:=dh.1 hb;omega
    have O0:=d4.new b4;have x4:=q5.new R;have s5:=f6.new R;have bk:=b4.size;obtain⟨W1,bm⟩:=aa (E7);refine nz<|uf (e:=87) (sz:=3) (bytes:=40) (z:=.agg ([Value.int .i64 0,Value.int .i64 0,Value.slice none 0 0]).toArray) dA rfl dA rfl iT rfl s3 rfl N9 N2 jo eu (λE8=>eu)<|λbn bo x5 x6 E9=>?_
    refine mP<|mV<|mV<|mQ<|nQ<|qb<|tu<|qb<|Bc<|tu<|qb<|nR [_,_] ⟨rfl,rfl,trivial⟩ ?_
    rw[if_pos h0]at e7 d9;dsimp only at e7 d9;have a4:=Tt e7;obtain⟨s6,x7⟩:=a4;have O1:vD (ps.map Prod.fst) c0 gs=j:=by unfold vD;rw[x7,d9];rfl
    rw[s6,O1];obtain⟨bp,br,rfl⟩:=x5.form;have c4:=Kp.rX x6;have x8:=s4.MS (λb hb=>aB _ (k0 b hb)) x6 E9 x5;have e1:∀ b∈b0++bl,b∉v.ownBlock.toList:=λb hb C=>by
      have d3:=(E6 b (ah.1 C)).2;rcases ay.1 hb with y|y
      · have:=(g0 b y).1;omega
      · exact(e6 b y).2.2 C
    refine⟨_,_,b0++bl,_,by rw[<-C0];rfl,by dsimp only;rw[aA];exact nY.mono x5 m6,((x4.mono (bl':=b0++bl) λb hb=>aB _ hb).nu c4 e1).snoc (O0.nu c4 e1),λb hb=>⟨?_,λC=>?_⟩,λb hb=>aF _ hb,λb hb=>aB _ (aB _ (q6 b hb)),x8,s5.own s3 x6 m6⟩
    · rcases ay.1 hb with y|y
      · exact aB _<|aF _<|QF (g0 b y).1<|ae (g0 b y).2 eu
      · exact aB _<|aB _ (e6 b y).1
    · rcases E9 b (ah.1 C)with a1|a1
      · exact e1 b hb<|ah.2 a1
      · rcases ay.1 hb with y|y
        .have:=(g0 b y).2;omega
        .have:=u9 b (e6 b y).1;omega
   ·
    rw[if_neg (by rw[h0];exact eF)]at e7 d9;dsimp only at e7 d9;have O2:2<=l.cs.length:=by
      unfold tK at h0;have V:=of_decide_eq_false h0;have r2:=ZW l.lv l.cs r8 l.cs.length;rw[aP lm]at r2;omega
    have F2:=λw' (x2:qj w' (b0++bl) (oz l j1 j2) l)=>zuo w' x2 r8 O2 eu
    obtain⟨s7,x9⟩:=aa (ve l.lv l.cs);obtain⟨K,o2⟩:=aa (vZ (l.cs.drop s7));obtain⟨b6,F3⟩:=aa (rM l.lv (l.cs.drop s7));obtain⟨d5,F4⟩:=aa (l.cs.take s7);obtain⟨G,y0⟩:=aa (gs.getD j 0);rw[x9,o2,F3,F4]at F2;rw[x9,o2,WT,y0,List.tail_drop,F3,F4]at e7;rw[x9,o2,WT,y0,List.tail_drop]at d9;have F5:K.length<=100:=by
      rcases C_ (l.cs.drop s7)with V|⟨O3,V,r0⟩
      · rw[<-o2,V];exact aC _
      · rw[<-o2,r0];exact E3 O3 (ek V)
    have O4:j<vD (ps.map Prod.fst) c0 gs:=by unfold vD;rw[d9];omega
    have F6:=hgive j O4;rw[y0]at F6;have O5:=tq K;refine nL<|ny<|mR<|mO (oI 3 i) ?_
    have bs:=b4.size;refine nD (F2 N7 (d4.new b4)) ?_;rintro _ F7 ⟨bt,bw,kp,bx,c5,rfl,F8,F9,s8,O6,y1,o3⟩;replace f:=f.new o3;replace i:=i.new o3;replace b3:=b3.new o3;replace R:=R.acc o3;replace b4:=b4.acc o3;have O7:=F8;obtain⟨g1,g2,_,O8,_,_,_,_⟩:=O7;subst O8;have O9:=F9;obtain⟨d6,d7,_,P0,_,_,_,_⟩:=O9;subst P0;have P1:=vO ⟨l.n,l.lv,d5⟩ g1 g2;have bz:=wM ⟨l.n,l.lv,d5⟩ g1 g2;have bE:=vO ⟨0,l.lv,b6⟩ d6 d7;have bY:=wM ⟨0,l.lv,b6⟩ d6 d7;have c6:=Below.refl (F7).heap.size F7;have ca:=b4.size;refine mP<|mO (nJ rfl rfl)<|mO (nJ rfl rfl)<|mO (nJ rfl rfl)<|nz<|nU ([Value.int .i64 0,Value.int .i64 0,Value.slice none 0 0]) dA<|λb1 cb o4 q o5=>?_
    have P2:=ag R.size o4;have P3:=ag c6.size o4;have G0:I<b1:=ae f.lt o4;have P4:a0<b1:=ae i.lt o4;have P5:n9<b1:=ae b3.lt o4;replace f:=f.new o5;replace i:=i.new o5;replace b3:=b3.new o5;replace R:=R.acc o5;replace c6:=c6.acc o5;refine nz<|nU ([Value.int .i64 0,Value.int .i64 0,Value.slice none 0 0]) dA<|λe2 cc c9 a2 l0=>?_
    have P6:=ag R.size c9;have P7:=ag c6.size c9;have y2:I<e2:=ae f.lt c9;have G1:a0<e2:=ae i.lt c9;have P8:n9<e2:=ae b3.lt c9;have y3:b1<e2:=ae q.lt c9;replace f:=f.new l0;replace i:=i.new l0;replace b3:=b3.new l0;replace q:=q.new l0;replace R:=R.acc l0;replace c6:=c6.acc l0;refine nH<|nT 3 (oz ⟨l.n,l.lv,d5⟩ g1 g2) q<|λcd q l1=>?_
    replace f:=f.only l1 (ai G0);replace i:=i.only l1 (ai P4);replace b3:=b3.only l1 (ai P5);replace a2:=a2.only l1 (bA y3);replace R:=l1.below R P2;replace c6:=l1.below c6 P3;refine nH<|nT 3 (oz ⟨0,l.lv,b6⟩ d6 d7) a2<|λo6 a2 l2=>?_
    replace f:=f.only l2 (ai y2);replace i:=i.only l2 (ai G1);replace b3:=b3.only l2 (ai P8);replace q:=q.only l2 (ai y3);replace R:=l2.below R P6;replace c6:=l2.below c6 P7;refine nV<|mP ?_
    have s4:=e4.zn R (M:=List.range' b2.heap.size ((o6).heap.size - b2.heap.size)) λb hb=>by
      have:=dh.1 hb;omega
    obtain⟨j4,y4⟩:=aa (List.range' b2.heap.size ((o6).heap.size - b2.heap.size)++Lc);have o7:∀ b,b2.heap.size<=b->b<(o6).heap.size->b∈j4:=λb V r0=>by rw[<-y4];exact aF _ (QF V r0)
    have o8:∀ b∈Lc,b∈j4:=λb V=>by rw[<-y4];exact aB _ V
    rw[y4]at s4;have s9:∀ b∈L,b∈j4:=λb V=>o8 b (q6 b V)
    have s5:=f6.new R;have ce:=c6.size;have C6:=i.lt;have P9:=q.lt;have Q0:=a2.lt;have h1:∀ b∈c5++(b0++bl),b∈j4:=λb hb=>by
      rcases ay.1 hb with y|y
      · have:=s8 b y
        exact o7 b eu eu
      · rcases ay.1 y with a1|a1
        .have:=g0 b a1
         exact o7 b eu eu
        .exact o8 b (e6 b a1).1
    have Q1:=(F8.new c6).mono (bl':=c5++(b0++bl)) λb hb=>aB _ hb
    have Q2:=F9.new c6;have Q3:=O6.new c6;have x4:=q5.new R;have Q4:=hwy.new R;have Q5:=hws.new R;have Q6:=m7.new R;have G2:=o7 a0 eu C6;have G3:=o7 b1 eu P9;have G4:=o7 e2 eu Q0;have l3:=o8 I B9;obtain⟨W5,cf⟩:=aa (o6);refine qi rfl (uA hcan rfl rfl) (F6 j4 o6 s9 s5 s4) ?_;rintro _ cg ⟨rfl,x8,d0⟩;have Q7:=s5.ll d0 s9;replace f:=f.kl d0 (.inr l3);replace i:=i.kl d0 (.inr G2);replace q:=q.kl d0 (.inr G3);replace a2:=a2.kl d0 (.inr G4);refine mO (nk 0) ?_;have ch:=a2.lt;refine nH<|oW a2<|λy5 a2 l4=>?_
    replace f:=f.only l4 (ai y2);replace i:=i.only l4 (ai G1);replace q:=q.only l4 (ai y3);replace a2:row y5 e2 (oz ⟨G,l.lv,b6⟩ d6 d7) 87:=a2;have h2:=Kp.rC l4;have c9:∀ b∈c5++(b0++bl),b∉[e2]:=λb hb C=>by
      have g6:b=e2:=by simpa using C
      rcases ay.1 hb with y|y
      · have:=s8 b y;omega
      · rcases ay.1 y with a1|a1
        .have:=g0 b a1;omega
        .have:=u9 b (e6 b a1).1;omega
    have G5:∀ b∈v.ownBlock.toList,B0<=b/\b<b2.heap.size:=λb hb=>⟨(E6 b (ah.1 hb)).1,u9 b (k0 b hb)⟩
    have Q8:=(Q1.ll d0 λb hb=>.inr (h1 b hb)).nu h2 c9;have Q9:=((Q2.ll d0 λb hb=>.inr (h1 b hb)).nu h2 c9).ren (n:=G);have R0:=(Q3.sS d0 λg o e=>.inr (h1 g (aB _ (y1 g o e)))).nu h2 λg o e=>c9 g (aB _ (y1 g o e))
    have j5:∀ b∈bl,b∈c5++(b0++bl):=λb hb=>aB _ (aB _ hb)
    have R1:=((x4.mono j5).ll d0 λb hb=>.inr (h1 b hb)).nu h2 c9;have R2:=((Q4.mono j5).ll d0 λb hb=>.inr (h1 b hb)).nu h2 c9;have R3:=(Q5.sS d0 λg o e=>.inr (h1 g (j5 g (j9 g o e)))).nu h2 λg o e=>c9 g (j5 g (j9 g o e))
    have s3:=Coup.nY.nu (Coup.nY.nu Q6 d0.kp λb C e=>pG (.inr (o8 b (k0 b (ah.2 e)))) C) h2 λb C e=>by
      have g6:b=e2:=by simpa using C
      have y:=G5 b (ah.2 e);omega
    have G6:=x8.only l4 (.inr G4);have R4:=Q7.only l4 (.inl eu);have c7:=Below.refl (y5).heap.size y5;have R5:=vO ⟨G,l.lv,b6⟩ d6 d7;have ci:=wM ⟨G,l.lv,b6⟩ d6 d7;have R6:∀ u∈oz ⟨l.n,l.lv,d5⟩ g1 g2++oz ⟨G,l.lv,b6⟩ d6 d7,u.oneCell'=true:=λu R7=>(ay.1 R7).elim (P1 u) (R5 u)
    refine pV<|mP<|mO (oI 3 q)<|mO (oI 3 a2)<|nz<|Ha (e:=87) (.agg (oz ⟨l.n,l.lv,d5⟩ g1 g2).toArray) (.agg (oz ⟨G,l.lv,b6⟩ d6 d7).toArray) (oz ⟨l.n,l.lv,d5⟩ g1 g2) (oz ⟨G,l.lv,b6⟩ d6 d7) ([Value.int .i64 0,Value.int .i64 0,Value.slice none 0 0]) 3 dA dA rfl rfl rfl rfl iw iw ⟨iT,iT⟩<|λt0 R8 o9 R9 p1=>?_
    have cj:=ag c7.size o9;have ck:I<t0:=ae f.lt o9;have cl:a0<t0:=ae i.lt o9;have cm:b1<t0:=ae q.lt o9;have cn:e2<t0:=ae a2.lt o9;replace f:=f.new p1;replace i:=i.new p1;replace q:=q.new p1;replace a2:=a2.new p1;replace c7:=c7.acc p1;have S0:=R9.ul (m:=2) (sz:=3) rfl eu;have G7:=s3.new c7;have co:=c7.size;have cp:=d0.size;have cq:=h2.size;have S1:=f;have S2:=i;have S3:=q;have S4:=a2;obtain⟨W6,G8⟩:=aa (R8);have S5:=(G6.new c7).lt;refine nz<|uf (e:=87) (sz:=3) (bytes:=40) (z:=.agg ([Value.int .i64 0,Value.int .i64 0,Value.slice none 0 0]).toArray) dA rfl dA rfl iT rfl G7 rfl S0 R6 jo eu (λE8=>eu)<|λcr h3 d1 y6 G9=>?_
    have c4:=Kp.rX y6;have cs:=c4.size;have l5:∀ b,b2.heap.size<=b\/b<B0->b∉v.ownBlock.toList:=λb hb C=>by have:=G5 b C;omega
    have e1:∀ b∈c5++(b0++bl),b∉v.ownBlock.toList:=λb hb=>by
      rcases ay.1 hb with y|y
      · have:=s8 b y;exact l5 b (.inl eu)
      · rcases ay.1 y with a1|a1
        .have:=g0 b a1;exact l5 b (.inl eu)
        .exact(e6 b a1).2.2
    replace f:=S1.nu c4 (l5 I (.inr K7));replace i:=S2.nu c4 (l5 a0 (.inl eu));replace q:=S3.nu c4 (l5 b1 (.inl eu));replace a2:=S4.nu c4 (l5 e2 (.inl eu));have S6:=(Q8.new c7).nu c4 e1;have S7:=(Q9.new c7).nu c4 e1;have S8:=(R0.new c7).nu c4 λg o e=>e1 g (aB _ (y1 g o e))
    have S9:=(((R1.new c7).nu c4 e1).snoc S6).snoc S7;have T1:=(R2.new c7).nu c4 e1;have T2:=(R3.new c7).nu c4 λg o e=>e1 g (j5 g (j9 g o e))
    have T3:=(G6.new c7).MS (λb hb=>o8 b (k0 b hb)) y6 G9 d1;have T4:=(R4.new c7).own G7 y6 m6;obtain⟨e9,f0,rfl⟩:=d1.form;have T5:=d1.lt;have T6:=G9;have d2:=Below.refl (h3).heap.size h3;refine mV<|mQ<|ng<|qz [I] dA ?_
    intro T7 l6 T8;replace f:=f.new l6;replace i:=i.new l6;replace q:=q.new l6;replace a2:=a2.new l6;replace d1:=d1.new l6;replace d2:=d2.acc l6;have ct:=f;have cu:=i;have cv:=q;have T9:=a2;have cw:=d1;have cx:=d2;refine mU 0 (nK)<|mU 2 (nk 0)<|nI 3 (λw' c8=>mZ (T9.kq c8))<|nS 1 dA ?_
    have cy:=f.lt;have cA:=d2.size;refine qf rfl rfl (nX dA rfl) (SX T7 (S8.new d2) O5 eu) ?_;rintro _ t1 ⟨a6,a7,rfl,y7,j6⟩;have H1:=T8.add0 j6;refine⟨H1,?_⟩;replace f:=f.new j6;replace i:=i.new j6;replace q:=q.new j6;replace a2:=a2.new j6;replace d1:=d1.new j6;replace d2:=d2.acc j6;have cC:=zi a6 a7 (K,(0,0,G));have cD:(pI a6 a7 (K,(0,0,G))).length=4:=rfl;have U0:=y7.lt;refine mU 4 (AL (.slice a6 K.length a7) (.int .i64 (G:Int)) (pI a6 a7 (K,(0,0,G))) rfl rfl dA)<|nS 5 dA ?_
    have H2:=T3.zn d2 (M:=List.range' h3.heap.size ((t1).heap.size - h3.heap.size)) λb hb=>by
      have:=dh.1 hb;omega
    obtain⟨h4,f1⟩:=aa ((Value.slice e9 (out.length+2) f0).ownBlock.toList);obtain⟨g3,H3⟩:=aa ((Value.slice a6 K.length a7).ownBlock.toList);obtain⟨d8,t2⟩:=aa (List.range' h3.heap.size ((t1).heap.size - h3.heap.size)++((Value.slice e9 (out.length+2) f0).ownBlock.toList++j4));have cE:=d2.size;have t3:∀ b∈g3,h3.heap.size<=b/\b<(t1).heap.size:=λb hb=>by
      rw[<-H3]at hb;have:=U0 b (ah.1 hb);have:=(y7.lt b (ah.1 hb)).2;omega
    have H4:∀ b∈h4,B0<=b/\b<h3.heap.size:=λb hb=>by rw[<-f1]at hb;exact T5 b (ah.1 hb)
    have U1:∀ b∈h4,b∈v.ownBlock.toList\/W6.heap.size<=b:=λb hb=>by rw[<-f1]at hb;exact(T6 b (ah.1 hb)).imp (λe=>ah.2 e) (λh=>by rw[<-G8];exact h)
    have U2:∀ b∈g3,b∈d8:=λb hb=>by rw[<-t2];exact aF _ (QF (t3 b hb).1 (t3 b hb).2)
    have y8:∀ b∈h4,b∈d8:=λb hb=>by rw[<-t2,f1];exact aB _ (aF _ hb)
    have f2:∀ b∈j4,b∈d8:=λb hb=>by rw[<-t2];exact aB _ (aB _ hb)
    rw[t2]at H2;have U3:=S9.new d2;have U4:=T1.new d2;have U5:=T2.new d2;have U6:=T4.new d2;have U7:sw t1 (g3++(c5++(b0++bl))) (pI a6 a7 (K,(0,0,G))) (K,(0,0,G)):=by rw[<-H3];exact sw.ND y7
    refine qR rfl rfl<|nT 4 (pI a6 a7 (K,(0,0,G))) f<|λt4 f h5=>?_
    have U8:=H1.aq h5;refine⟨U8,?_⟩;replace i:=i.only h5 (bA k7);replace q:=q.only h5 (bA G0);replace a2:=a2.only h5 (bA y2);replace d1:=d1.only h5 eu;have p2:=Kp.rC h5;have y9:=H2.only h5 (.inr (f2 _ l3));have D:=U6.only h5 (.inl K6);have U9:∀ b∈c5++(b0++bl),b≠I:=λb hb e=>by
      rcases ay.1 hb with y|y
      · have:=s8 b y;omega
      · rcases ay.1 y with a1|a1
        .have:=g0 b a1;omega
        .exact(e6 b a1).2.1 e
    have f8:∀ b∈g3++(c5++(b0++bl)),b∉[I]:=λb hb C=>by
      have g6:b=I:=by simpa using C
      rcases ay.1 hb with y|y
      · have:=t3 b y;omega
      · exact U9 b y g6
    have t5:∀ b∈c5++(b0++bl),b∈g3++(c5++(b0++bl)):=λb hb=>aB _ hb
    have z0:=U7.nu p2 f8;have t6:xP t4 (g3++(c5++(b0++bl))) (vs++(oz ⟨l.n,l.lv,d5⟩ g1 g2++oz ⟨G,l.lv,b6⟩ d6 d7)) (out++[⟨l.n,l.lv,d5⟩,⟨G,l.lv,b6⟩]):=by
      have V:=(U3.mono t5).nu p2 f8;rw[aG,aG]at V;exact V
    have z1:=(U4.mono t5).nu p2 f8;have H5:=U5.nu p2 λg o e=>f8 g (t5 g (j5 g (j9 g o e)))
    have l7:∀ b∈g3++(c5++(b0++bl)),b∈d8/\b≠I/\b∉h4:=λb hb=>⟨by
      rcases ay.1 hb with y|y
      · exact U2 b y
      · exact f2 b (h1 b y),λe=>f8 b hb kw,λC=>by
      rcases ay.1 hb with y|y
      · have:=t3 b y
        have:=H4 b C;omega
      · rcases U1 b C with V|V
        .exact e1 b y V
        .have:=S5 b (h1 b y)
         rw[G8]at this;omega⟩
    have p3:∀ g o,(some ⟨i4,g5,none⟩:Option Addr)=some ⟨g,o,none⟩->g∈g3++(c5++(b0++bl)):=λg o e=>t5 g (j5 g (j9 g o e))
    have e3:∀ b∈L,b∈d8:=λb hb=>f2 b (s9 b hb)
    obtain⟨A6,V0⟩:=aa (g3++(c5++(b0++bl)));rw[V0]at z0 t6 z1 p3 l7;obtain⟨p4,p5⟩:=aa (out++[⟨l.n,l.lv,d5⟩,⟨G,l.lv,b6⟩]);obtain⟨z2,t7⟩:=aa (vs++(oz ⟨l.n,l.lv,d5⟩ g1 g2++oz ⟨G,l.lv,b6⟩ d6 d7));have H6:p4.length=out.length+2:=by rw[<-p5,aA];rfl
    rw[p5,t7]at t6;rw[t7]at d1;have z3:qG (ps.map Prod.fst).reverse c0 gs=(p4++(qG ((ps.map Prod.fst).take Q).reverse (K,(0,0,G)) (gs.drop (j+1))).1,(qG ((ps.map Prod.fst).take Q).reverse (K,(0,0,G)) (gs.drop (j+1))).2.1,(qG ((ps.map Prod.fst).take Q).reverse (K,(0,0,G)) (gs.drop (j+1))).2.2):=by
      rw[e7,<-p5,aG];rfl
    have z4:xU (ps.map Prod.fst).reverse c0 gs=j+1+xU ((ps.map Prod.fst).take Q).reverse (K,(0,0,G)) (gs.drop (j+1)):=by rw[d9];omega
    have H7:Q=0->(uQ (ps.map Prod.fst) c0 gs).1=p4++[⟨gs.getD (j+1) 0,l.lv+1,[([],(0,0,l.n)),(K,(0,0,G))]⟩]/\(uQ (ps.map Prod.fst) c0 gs).2.1=some (gs.getD (j+1) 0)/\vD (ps.map Prod.fst) c0 gs=j+2:=λe=>by
      subst e;rw[dw,List.reverse_nil,qG,aU]at z3;rw[dw,List.reverse_nil,xU]at z4;obtain⟨s6,x7⟩:=RP z3 v1;rw[WT,<-E2,<-r6]at s6;rw[s6];exact⟨rfl,rfl,by unfold vD;rw[x7,z4];rfl⟩
    have a4:∃ t8:World->Prop,(λw'=>row w' I (pI a6 a7 (K,(0,0,G))) 90/\sw w' A6 (pI a6 a7 (K,(0,0,G))) (K,(0,0,G))/\nY w' B0 87 3 (.slice e9 (out.length+2) f0) (out.length+2) z2/\xP w' A6 z2 p4/\wV w' A6 wvs ps/\nC w' (some ⟨i4,g5,none⟩) ps.length 4 wvs)=t8:=⟨_,rfl⟩;obtain⟨t8,H8⟩:=a4;have l8:∀ b∈I::(h4++A6),b∈d8:=λb hb=>by
      rcases ak.1 hb with y|y
      · rw[y];exact f2 _ l3
      · rcases ay.1 y with a1|a1
        .exact y8 b a1
        .exact(l7 b a1).1
    obtain⟨h6,z5⟩:=aa ((t4).heap.size);have E:KF t8 (I::(h4++A6)) h6 t4:=by
      rw[<-H8];exact⟨⟨f,z0,d1,t6,z1,H5⟩,λw1 w2 M ⟨z6,n8,z7,z8,z9,A0⟩ l9 m0=>⟨z6.nu l9 (m0 I ig),n8.nu l9 λb hb=>m0 b jP,Coup.nY.nu z7 l9 λb C e=>m0 b (by rw[<-f1];simp[e]) C,z8.nu l9 λb hb=>m0 b jP,z9.nu l9 λb hb=>m0 b jP,A0.nu l9 λg o e=>m0 g (by simp[p3 g o e])⟩,λb hb=>by rw[<-z5];exact y9.lt b (l8 b hb)⟩
    have F:=y9.weak (L2:=I::a0::b1::d8) λb hb=>by
      simp only[ak]at hb;rcases hb with h|h|h|h
      · rw[h];exact f2 _ l3
      · rw[h];exact f2 _ G2
      · rw[h];exact f2 _ G3
      · exact h
    have cF:w.heap.size<=h6:=by rw[<-z5];exact D.size
    have V1:B0<=h6:=by
      have:=p2.size;omega
    have cG:=zi none 0 (([]:Key),(0,0,l.n));have cH:(pI none 0 (([]:Key),(0,0,l.n))).length=4:=rfl;refine oL dA<|ny<|mR<|mP<|mO (qy rfl rfl)<|mQ<|oP rfl (λH9=>?_)<|λH9=>?_
    ·
     refine xO (λa:Nat × Nat=>[(17, .pointer (some ⟨a.1,0,none⟩)),(8, .int .i64 (Q:Nat)),(6, .slice e9 (out.length+2) f0),(4, .pointer (some ⟨I,0,none⟩)),(0, .slice (some ⟨i4,g5,none⟩) ps.length wc),(2, .func (.func fk) #[] caps.toArray)]) (λa w'=>row w' a.1 [.int .i64 (gs.getD (j+1) 0:Int), .int .i64 ((l.lv:Int)+1), .slice (some ⟨a.2,0,none⟩) 2 2] 87/\row w' a.2 (pI none 0 (([]:Key),(0,0,l.n))++pI a6 a7 (K,(0,0,G))) 90/\KF t8 (I::(h4++A6)) h6 w'/\Two (X (j+2)) (Y (j+2)) lo (a.2::d8) w'/\mX lo L w w'/\h6<=a.1/\h6<=a.2/\a.1≠a.2/\h6<=w'.heap.size) ?_ ?_
     ·
      have m1:=hgive (j+1) (by rw[(H7 eu).2.2];omega);obtain⟨a3,t9⟩:=aa (gs.getD (j+1) 0);rw[t9]at m1;rw[t9];refine vK (lo) ((I::a0::b1::d8)) dA ?_;intro V2 m2 p6 p7;replace f:=f.new m2;replace i:=i.new m2;replace q:=q.new m2;replace F:=F.new m2;replace D:=D.new m2;replace E:=E.new m2;have V4:=f;have V5:=i;have V6:=q;have cI:=F;have cJ:=D;have cL:=E;refine mU 0 (nK)<|mU 2 (nk 1)<|nI 3 (λw' c8=>mZ (V5.kL c8))<|mU 4 (om rfl rfl (Coup.nN eu))<|mU 5 (nk 0)<|nI 6 (λw' c8=>mZ (V6.kL c8))<|mU 7 (xC (.int .i64 (l.n:Int)) (pI none 0 (([]:Key),(0,0,l.n))) rfl dA)<|nI 8 (λw' c8=>oI 4 (V4.kL c8))<|ztc 1 9 11 dA ?_ ?_ ?_
      ·
       refine qf rfl rfl (uA hcan rfl rfl) (m1 _ V2 kK D F) ?_;rintro _ u0 ⟨rfl,F,O⟩;replace D:=D.ll O (λb hb=>by simp[e3 b hb]);replace E:=E.ll O (λb hb=>.inr lh);have p8:=p7.uK p6 O.wk;refine⟨p8,?_⟩;replace f:=f.kl O;replace i:=i.kl O;replace q:=q.kl O;refine yP 9 11 dA ?_ ?_
       ·
        refine qJ rfl rfl<|Ha (e:=90) (.agg (pI none 0 (([]:Key),(0,0,l.n))).toArray) (.agg (pI a6 a7 (K,(0,0,G))).toArray) (pI none 0 (([]:Key),(0,0,l.n))) (pI a6 a7 (K,(0,0,G))) ([Value.slice none 0 0,Value.int .i64 0,Value.int .i64 0,Value.int .i64 0]) 4 dA dA rfl rfl rfl rfl iw iw ⟨iT,iT⟩<|λB m3 T H J=>?_
        have A1:=p8.add0 J;refine⟨A1,?_⟩;have cM:=ag p8.size T;have u1:I<B:=ae f.lt T;have u2:a0<B:=ae i.lt T;have u3:b1<B:=ae q.lt T;replace f:=f.new J;replace i:=i.new J;replace q:=q.new J;replace F:=F.nA J T H.lt;replace D:=D.new J;replace E:=E.new J;refine mU 10 (Ik (.int .i64 (a3:Int)) (.int .i64 ((l.lv:Int)+1)) (.slice (some ⟨B,0,none⟩) 2 2) [.int .i64 (a3:Int), .int .i64 ((l.lv:Int)+1), .slice (some ⟨B,0,none⟩) 2 2] rfl rfl rfl dA)<|nS 11 dA<|qJ rfl rfl<|nU ([Value.int .i64 0,Value.int .i64 0,Value.slice none 0 0]) dA<|λS m4 U A N=>?_
        have I0:=A1.add0 N;refine⟨I0,?_⟩;have cN:=ag A1.size U;have f3:I<S:=ae f.lt U;have f4:a0<S:=ae i.lt U;have f5:b1<S:=ae q.lt U;have p9:B<S:=ae H.lt U;replace f:=f.new N;replace i:=i.new N;replace q:=q.new N;replace F:=F.nA N U A.lt;replace D:=D.new N;replace E:=E.new N;replace H:=H.new N;refine nS 12 dA<|qR rfl rfl<|nT 3 ([.int .i64 (a3:Int), .int .i64 ((l.lv:Int)+1), .slice (some ⟨B,0,none⟩) 2 2]) A<|λcP A h7=>?_
        have V7:=I0.add1 h7 iD;refine⟨V7,?_⟩;replace f:=f.only h7 (ai f3);replace i:=i.only h7 (ai f4);replace q:=q.only h7 (ai f5);replace F:=F.only h7 eG;replace D:=D.only h7 jB;replace E:=E.only h7 eu;replace H:=H.only h7 (ai p9);refine oL dA ?_;have q0:=A.lt;refine oO ⟨(S,B),⟨rfl,rfl,rfl,rfl,rfl,rfl,rfl⟩,A,H,E,F.weak (λb hb=>by
         simp only[ak]at hb |-;rcases hb with h|h<;>simp[h]),D,by dsimp only;omega,by dsimp only;omega,eu⟩
       ·
        refine qJ rfl rfl<|nU ([Value.int .i64 0,Value.int .i64 0,Value.slice none 0 0]) dA<|λS m4 U A N=>?_
        have A2:=p8.add0 N;refine⟨A2,?_⟩;have cQ:=ag p8.size U;have f3:I<S:=ae f.lt U;have f4:a0<S:=ae i.lt U;have f5:b1<S:=ae q.lt U;replace f:=f.new N;replace i:=i.new N;replace q:=q.new N;replace F:=F.nA N U A.lt;replace D:=D.new N;replace E:=E.new N;refine nS 9 dA<|qJ rfl rfl<|Ha (e:=90) (.agg (pI none 0 (([]:Key),(0,0,l.n))).toArray) (.agg (pI a6 a7 (K,(0,0,G))).toArray) (pI none 0 (([]:Key),(0,0,l.n))) (pI a6 a7 (K,(0,0,G))) ([Value.slice none 0 0,Value.int .i64 0,Value.int .i64 0,Value.int .i64 0]) 4 dA dA rfl rfl rfl rfl iw iw ⟨iT,iT⟩<|λB m3 T H J=>?_
        have I1:=A2.add0 J;refine⟨I1,?_⟩;have cR:=ag A2.size T;have u1:I<B:=ae f.lt T;have u2:a0<B:=ae i.lt T;have u3:b1<B:=ae q.lt T;have q1:S<B:=ae A.lt T;replace f:=f.new J;replace i:=i.new J;replace q:=q.new J;replace F:=F.nA J T H.lt;replace D:=D.new J;replace E:=E.new J;replace A:=A.new J;refine mU 10 (Ik (.int .i64 (a3:Int)) (.int .i64 ((l.lv:Int)+1)) (.slice (some ⟨B,0,none⟩) 2 2) [.int .i64 (a3:Int), .int .i64 ((l.lv:Int)+1), .slice (some ⟨B,0,none⟩) 2 2] rfl rfl rfl dA)<|nS 12 dA<|qR rfl rfl<|nT 3 ([.int .i64 (a3:Int), .int .i64 ((l.lv:Int)+1), .slice (some ⟨B,0,none⟩) 2 2]) A<|λcS A h8=>?_
        have V8:=I1.add1 h8 iD;refine⟨V8,?_⟩;replace f:=f.only h8 (ai f3);replace i:=i.only h8 (ai f4);replace q:=q.only h8 (ai f5);replace F:=F.only h8 eG;replace D:=D.only h8 jB;replace E:=E.only h8 eu;replace H:=H.only h8 (bA q1);refine oL dA ?_;have q0:=A.lt;refine oO ⟨(S,B),⟨rfl,rfl,rfl,rfl,rfl,rfl,rfl⟩,A,H,E,F.weak (λb hb=>by
         simp only[ak]at hb |-;rcases hb with h|h<;>simp[h]),D,by dsimp only;omega,by dsimp only;omega,eu⟩
      ·
       refine qJ rfl rfl<|Ha (e:=90) (.agg (pI none 0 (([]:Key),(0,0,l.n))).toArray) (.agg (pI a6 a7 (K,(0,0,G))).toArray) (pI none 0 (([]:Key),(0,0,l.n))) (pI a6 a7 (K,(0,0,G))) ([Value.slice none 0 0,Value.int .i64 0,Value.int .i64 0,Value.int .i64 0]) 4 dA dA rfl rfl rfl rfl iw iw ⟨iT,iT⟩<|λB m3 T H J=>?_
       have u4:=p7.add0 J;refine⟨u4,?_⟩;have cT:=ag p7.size T;have u1:I<B:=ae f.lt T;have u2:a0<B:=ae i.lt T;have u3:b1<B:=ae q.lt T;replace f:=f.new J;replace i:=i.new J;replace q:=q.new J;replace F:=F.nA J T H.lt;replace D:=D.new J;replace E:=E.new J;refine yP 1 11 dA ?_ ?_
       ·
        refine qf rfl rfl (uA hcan rfl rfl) (m1 _ m3 kK D F) ?_;rintro _ u0 ⟨rfl,F,O⟩;replace D:=D.ll O (λb hb=>by simp[e3 b hb]);replace E:=E.ll O (λb hb=>.inr lh);have A3:=u4.uK p6 O.wk;refine⟨A3,?_⟩;replace f:=f.kl O;replace i:=i.kl O;replace q:=q.kl O;replace H:=H.kl O;refine mU 10 (Ik (.int .i64 (a3:Int)) (.int .i64 ((l.lv:Int)+1)) (.slice (some ⟨B,0,none⟩) 2 2) [.int .i64 (a3:Int), .int .i64 ((l.lv:Int)+1), .slice (some ⟨B,0,none⟩) 2 2] rfl rfl rfl dA)<|nS 11 dA<|qJ rfl rfl<|nU ([Value.int .i64 0,Value.int .i64 0,Value.slice none 0 0]) dA<|λS m4 U A N=>?_
        have I2:=A3.add0 N;refine⟨I2,?_⟩;have cU:=ag A3.size U;have f3:I<S:=ae f.lt U;have f4:a0<S:=ae i.lt U;have f5:b1<S:=ae q.lt U;have p9:B<S:=ae H.lt U;replace f:=f.new N;replace i:=i.new N;replace q:=q.new N;replace F:=F.nA N U A.lt;replace H:=H.new N;replace D:=D.new N;replace E:=E.new N;refine nS 12 dA<|qR rfl rfl<|nT 3 ([.int .i64 (a3:Int), .int .i64 ((l.lv:Int)+1), .slice (some ⟨B,0,none⟩) 2 2]) A<|λcV A h9=>?_
        have V9:=I2.add1 h9 iD;refine⟨V9,?_⟩;replace f:=f.only h9 (ai f3);replace i:=i.only h9 (ai f4);replace q:=q.only h9 (ai f5);replace F:=F.only h9 eG;replace H:=H.only h9 (ai p9);replace D:=D.only h9 jB;replace E:=E.only h9 eu;refine oL dA ?_;have q0:=A.lt;refine oO ⟨(S,B),⟨rfl,rfl,rfl,rfl,rfl,rfl,rfl⟩,A,H,E,F.weak (λb hb=>by
         simp only[ak]at hb |-;rcases hb with h|h<;>simp[h]),D,by dsimp only;omega,by dsimp only;omega,eu⟩
       ·
        refine qJ rfl rfl<|nU ([Value.int .i64 0,Value.int .i64 0,Value.slice none 0 0]) dA<|λS m4 U A N=>?_
        have I3:=u4.add0 N;refine⟨I3,?_⟩;have cW:=ag u4.size U;have f3:I<S:=ae f.lt U;have f4:a0<S:=ae i.lt U;have f5:b1<S:=ae q.lt U;have p9:B<S:=ae H.lt U;replace f:=f.new N;replace i:=i.new N;replace q:=q.new N;replace F:=F.nA N U A.lt;replace D:=D.new N;replace E:=E.new N;replace H:=H.new N;refine nS 1 dA<|qf rfl rfl (uA hcan rfl rfl) (m1 _ m4 kK D F) ?_
        rintro _ u0 ⟨rfl,F,O⟩;replace D:=D.ll O (λb hb=>by simp[e3 b hb]);replace E:=E.ll O (λb hb=>.inr lh);have I4:=I3.uK p6 O.wk;refine⟨I4,?_⟩;replace f:=f.kl O;replace i:=i.kl O;replace q:=q.kl O;replace H:=H.kl O;replace A:=A.kl O;refine mU 10 (Ik (.int .i64 (a3:Int)) (.int .i64 ((l.lv:Int)+1)) (.slice (some ⟨B,0,none⟩) 2 2) [.int .i64 (a3:Int), .int .i64 ((l.lv:Int)+1), .slice (some ⟨B,0,none⟩) 2 2] rfl rfl rfl dA)<|nS 12 dA<|qR rfl rfl<|nT 3 ([.int .i64 (a3:Int), .int .i64 ((l.lv:Int)+1), .slice (some ⟨B,0,none⟩) 2 2]) A<|λcX A i0=>?_
        have W0:=I4.add1 i0 iD;refine⟨W0,?_⟩;replace f:=f.only i0 (ai f3);replace i:=i.only i0 (ai f4);replace q:=q.only i0 (ai f5);replace F:=F.only i0 eG;replace H:=H.only i0 (ai p9);replace D:=D.only i0 jB;replace E:=E.only i0 eu;refine oL dA ?_;have q0:=A.lt;refine oO ⟨(S,B),⟨rfl,rfl,rfl,rfl,rfl,rfl,rfl⟩,A,H,E,F.weak (λb hb=>by
         simp only[ak]at hb |-;rcases hb with h|h<;>simp[h]),D,by dsimp only;omega,by dsimp only;omega,eu⟩
      ·
       refine qJ rfl rfl<|nU ([Value.int .i64 0,Value.int .i64 0,Value.slice none 0 0]) dA<|λS m4 U A N=>?_
       have u5:=p7.add0 N;refine⟨u5,?_⟩;have cY:=ag p7.size U;have f3:I<S:=ae f.lt U;have f4:a0<S:=ae i.lt U;have f5:b1<S:=ae q.lt U;replace f:=f.new N;replace i:=i.new N;replace q:=q.new N;replace F:=F.nA N U A.lt;replace D:=D.new N;replace E:=E.new N;refine yP 1 9 dA ?_ ?_
       ·
        refine qf rfl rfl (uA hcan rfl rfl) (m1 _ m4 kK D F) ?_;rintro _ u0 ⟨rfl,F,O⟩;replace D:=D.ll O (λb hb=>by simp[e3 b hb]);replace E:=E.ll O (λb hb=>.inr lh);have A4:=u5.uK p6 O.wk;refine⟨A4,?_⟩;replace f:=f.kl O;replace i:=i.kl O;replace q:=q.kl O;replace A:=A.kl O;refine nS 9 dA<|qJ rfl rfl<|Ha (e:=90) (.agg (pI none 0 (([]:Key),(0,0,l.n))).toArray) (.agg (pI a6 a7 (K,(0,0,G))).toArray) (pI none 0 (([]:Key),(0,0,l.n))) (pI a6 a7 (K,(0,0,G))) ([Value.slice none 0 0,Value.int .i64 0,Value.int .i64 0,Value.int .i64 0]) 4 dA dA rfl rfl rfl rfl iw iw ⟨iT,iT⟩<|λB m3 T H J=>?_
        have I5:=A4.add0 J;refine⟨I5,?_⟩;have da:=ag A4.size T;have u1:I<B:=ae f.lt T;have u2:a0<B:=ae i.lt T;have u3:b1<B:=ae q.lt T;have q1:S<B:=ae A.lt T;replace f:=f.new J;replace i:=i.new J;replace q:=q.new J;replace F:=F.nA J T H.lt;replace A:=A.new J;replace D:=D.new J;replace E:=E.new J;refine mU 10 (Ik (.int .i64 (a3:Int)) (.int .i64 ((l.lv:Int)+1)) (.slice (some ⟨B,0,none⟩) 2 2) [.int .i64 (a3:Int), .int .i64 ((l.lv:Int)+1), .slice (some ⟨B,0,none⟩) 2 2] rfl rfl rfl dA)<|nS 12 dA<|qR rfl rfl<|nT 3 ([.int .i64 (a3:Int), .int .i64 ((l.lv:Int)+1), .slice (some ⟨B,0,none⟩) 2 2]) A<|λdb A i1=>?_
        have W2:=I5.add1 i1 iD;refine⟨W2,?_⟩;replace f:=f.only i1 (ai f3);replace i:=i.only i1 (ai f4);replace q:=q.only i1 (ai f5);replace F:=F.only i1 eG;replace D:=D.only i1 jB;replace E:=E.only i1 eu;replace H:=H.only i1 (bA q1);refine oL dA ?_;have q0:=A.lt;refine oO ⟨(S,B),⟨rfl,rfl,rfl,rfl,rfl,rfl,rfl⟩,A,H,E,F.weak (λb hb=>by
         simp only[ak]at hb |-;rcases hb with h|h<;>simp[h]),D,by dsimp only;omega,by dsimp only;omega,eu⟩
       ·
        refine qJ rfl rfl<|Ha (e:=90) (.agg (pI none 0 (([]:Key),(0,0,l.n))).toArray) (.agg (pI a6 a7 (K,(0,0,G))).toArray) (pI none 0 (([]:Key),(0,0,l.n))) (pI a6 a7 (K,(0,0,G))) ([Value.slice none 0 0,Value.int .i64 0,Value.int .i64 0,Value.int .i64 0]) 4 dA dA rfl rfl rfl rfl iw iw ⟨iT,iT⟩<|λB m3 T H J=>?_
        have I6:=u5.add0 J;refine⟨I6,?_⟩;have dc:=ag u5.size T;have u1:I<B:=ae f.lt T;have u2:a0<B:=ae i.lt T;have u3:b1<B:=ae q.lt T;have q1:S<B:=ae A.lt T;replace f:=f.new J;replace i:=i.new J;replace q:=q.new J;replace F:=F.nA J T H.lt;replace D:=D.new J;replace E:=E.new J;replace A:=A.new J;refine nS 1 dA<|qf rfl rfl (uA hcan rfl rfl) (m1 _ m3 kK D F) ?_
        rintro _ u0 ⟨rfl,F,O⟩;replace D:=D.ll O (λb hb=>by simp[e3 b hb]);replace E:=E.ll O (λb hb=>.inr lh);have I7:=I6.uK p6 O.wk;refine⟨I7,?_⟩;replace f:=f.kl O;replace i:=i.kl O;replace q:=q.kl O;replace A:=A.kl O;replace H:=H.kl O;refine mU 10 (Ik (.int .i64 (a3:Int)) (.int .i64 ((l.lv:Int)+1)) (.slice (some ⟨B,0,none⟩) 2 2) [.int .i64 (a3:Int), .int .i64 ((l.lv:Int)+1), .slice (some ⟨B,0,none⟩) 2 2] rfl rfl rfl dA)<|nS 12 dA<|qR rfl rfl<|nT 3 ([.int .i64 (a3:Int), .int .i64 ((l.lv:Int)+1), .slice (some ⟨B,0,none⟩) 2 2]) A<|λdd A i2=>?_
        have W3:=I7.add1 i2 iD;refine⟨W3,?_⟩;replace f:=f.only i2 (ai f3);replace i:=i.only i2 (ai f4);replace q:=q.only i2 (ai f5);replace F:=F.only i2 eG;replace H:=H.only i2 (bA q1);replace D:=D.only i2 jB;replace E:=E.only i2 eu;refine oL dA ?_;have q0:=A.lt;refine oO ⟨(S,B),⟨rfl,rfl,rfl,rfl,rfl,rfl,rfl⟩,A,H,E,F.weak (λb hb=>by
         simp only[ak]at hb |-;rcases hb with h|h<;>simp[h]),D,by dsimp only;omega,by dsimp only;omega,eu⟩
     ·
      rintro⟨S,B⟩ de q2 ⟨A,H,E,F,W4,U,T,W7,W8⟩;dsimp only at A H E F U T W7 W8;have a4:=H7 eu;obtain⟨I8,I9,W9⟩:=a4;obtain⟨a3,t9⟩:=aa (gs.getD (j+1) 0);rw[t9]at I8 I9 A;have J0:=E.f;rw[<-H8]at J0;obtain⟨z6,n8,z7,z8,z9,A0⟩:=J0;have g4:=Below.refl q2.heap.size q2;have J1:∀ b∈h4,b<h6:=λb hb=>E.lt b jP
      have dg:S∉(Value.slice e9 (out.length+2) f0).ownBlock.toList:=by
        rw[f1];exact λC=>by have:=J1 _ C;omega
      have X0:((l.lv:Int)+1)=((l.lv+1:Nat):Int):=by omega
      rw[X0]at A;have J2:qj q2 (B::A6) (oz ⟨a3,l.lv+1,[([],(0,0,l.n)),(K,(0,0,G))]⟩ (some ⟨B,0,none⟩) 2) ⟨a3,l.lv+1,[([],(0,0,l.n)),(K,(0,0,G))]⟩:=by
        have V:sw q2 (B::A6) (pI none 0 (([]:Key),(0,0,l.n))) (([]:Key),(0,0,l.n)):=⟨none,0,rfl,nC.nil _ _ _,(λg o h=>nomatch h),ax _⟩;exact⟨_,_,_,rfl,H.ul (m:=2) (sz:=4) rfl eu,(qQ.one V).snoc (n8.mono λb hb=>aj _ hb),(λg o e=>by cases e;exact aK ..),ax _⟩
      obtain⟨j7,q3⟩:=aa (oz ⟨a3,l.lv+1,[([],(0,0,l.n)),(K,(0,0,G))]⟩ (some ⟨B,0,none⟩) 2);have X1:j7.length=3:=by rw[<-q3];rfl
      have X2:∀ u∈j7,u.oneCell'=true:=by rw[<-q3];exact vO _ _ _
      have X3:j7[0]?=some (.int .i64 (a3:Int)):=by rw[<-q3];rfl
      replace A:row q2 S j7 87:=by rw[<-q3];exact A
      rw[q3]at J2;refine qz ((Value.slice e9 (out.length+2) f0).ownBlock.toList) dA ?_;intro di J3 J4;replace A:=A.new J3;replace g4:=g4.acc J3;have J5:=A;have dj:=g4;refine mU 0 (nK)<|nI 1 (λw' c8=>oI 3 (J5.kq c8))<|mU 4 (nk 0)<|nI 5 (λw' c8=>ou rfl (Ld.qN (J5.kq c8) dA X3))<|nS 2 dA<|qJ rfl rfl<|uE (e:=87) (.agg j7.toArray) (j7) ([Value.int .i64 0,Value.int .i64 0,Value.slice none 0 0]) 3 dA dA rfl rfl iw ⟨iT,iT⟩<|λX4 dk A5 X5 A7=>?_
      have J6:=J4.add0 A7;refine⟨J6,?_⟩;have dl:=ag J4.size A5;have dn:=ag g4.size A5;have dp:S<X4:=ae A.lt A5;replace A:=A.new A7;replace g4:=g4.acc A7;refine nS 3 dA ?_;have X6:=X5.ul (m:=1) (sz:=3) (by rw[X1]) eu;have A8:=z7.new g4;have dq:=g4.size;have i3:=g4;refine qJ rfl rfl<|uf (e:=87) (sz:=3) (bytes:=40) (z:=.agg ([Value.int .i64 0,Value.int .i64 0,Value.slice none 0 0]).toArray) dA rfl dA rfl iT rfl A8 rfl X6 X2 jo eu (λE8=>eu)<|λdr ds A9 u6 J7=>?_
      have X7:=J6.add (Kp.rX u6) (λg C=>by first |exact Or.inr C|exact Or.inr (aj _ C)|(have:=(A8.lt g (ah.1 C)).1;left;omega)|exact(hfr7 g (ah.1 C)).elim (λe=>Or.inr (ah.2 e)) (λe=>Or.inl eu)|exact(hfr7 g (ah.1 C)).elim (λe=>Or.inr (aj _ (ah.2 e))) (λe=>Or.inl eu));refine⟨X7,?_⟩;refine mU 6 (rA)<|mU 7 (rA)<|oL dA<|pW<|ny<|nM<|mP<|mO (vE rfl rfl (Coup.nN eu))<|mV<|oH ?_
      have j8:=Kp.rX u6;obtain⟨J8,J9,rfl⟩:=A9.form;have X8:=F.lt;have X9:=(F.new i3).MS (λb hb=>aj _ (y8 b (by rw[<-f1];exact hb))) u6 J7 A9;have B1:∀ b∈B::A6,b∉(Value.slice e9 (out.length+2) f0).ownBlock.toList:=λb hb C=>by
        rw[f1]at C;rcases ak.1 hb with y|y
        .have:=J1 b C;omega
        .exact(l7 b y).2.2 C
      have u7:∀ b∈A6,b∉(Value.slice e9 (out.length+2) f0).ownBlock.toList:=λb hb=>B1 b (aj _ hb)
      have K0:∀ b∈B::A6,b∈B::d8:=λb hb=>by
        rcases ak.1 hb with y|y
        .rw[y];exact aK ..
        .exact aj _ (l7 b y).1
      have dt:=j8.size;have Y0:I∉(Value.slice e9 (out.length+2) f0).ownBlock.toList:=λC=>by rw[f1]at C;have:=H4 _ C;omega
      refine oO ⟨⟨0,(K,(0,0,G)),a6,a7,p4++[⟨a3,l.lv+1,[([],(0,0,l.n)),(K,(0,0,G))]⟩], .slice J8 (out.length+2+1) J9,z2++j7,B::A6,(Value.slice J8 (out.length+2+1) J9).ownBlock.toList++(B::d8),j+2,a3⟩,gH Q,⟨congrArg (Value.int .i64) (show(Q:Int) - 1=((0:Nat):Int) - 1 by omega),rfl,rfl,rfl,rfl,rfl,rfl⟩,
        ⟨λh=>absurd h (gW 0),λ_=>⟨I8.symm,by rw[I9];rfl,W9.symm⟩,((n8.new i3).nu j8 u7).mono λb hb=>aj _ hb,F5,(z6.new i3).nu j8 Y0,by dsimp only;rw[aA,H6];exact A9,by dsimp only;rw[aA,H6];simp only[aD,aX];have:=q4 (gH Q);omega,λh=>absurd h (gW 0),(((z8.new i3).nu j8 u7).mono λb hb=>aj _ hb).snoc ((J2.new i3).nu j8 B1),((z9.new i3).nu j8 u7).mono λb hb=>aj _ hb,(A0.new i3).nu j8 λg o e=>u7 g (p3 g o e),λb hb=>⟨aB _ (K0 b hb),λe=>?_,λC=>?_⟩,λg o e=>aj _ (p3 g o e),λb hb=>aF _ hb,aB _ (aj _ (f2 _ l3)),λb hb=>aB _ (aj _ (e3 b hb))⟩,X9,(W4.new i3).own A8 u6 m6,eu⟩
      · rcases ak.1 hb with y|y
        .have:=E.lt I ig;omega
        .exact(l7 b y).2.1 e
      · rcases J7 b (ah.1 C)with a1|a1
        .exact B1 b hb<|ah.2 a1
        .have:=X8 b (K0 b hb);omega
    ·
     refine nL<|pW<|ny<|nM<|mP<|mO (vE rfl rfl (Coup.nN eu))<|mV<|oH<|oO ⟨⟨Q,(K,(0,0,G)),a6,a7,out++[⟨l.n,l.lv,d5⟩,⟨G,l.lv,b6⟩], .slice e9 (out.length+2) f0,vs++(oz ⟨l.n,l.lv,d5⟩ g1 g2++oz ⟨G,l.lv,b6⟩ d6 d7),A6,d8,j+1,root⟩,gY Q,⟨rfl,rfl,rfl,rfl,rfl,rfl,rfl⟩,⟨λ_=>⟨C0,by dsimp only;omega,?_,?_⟩,λe=>absurd (show(Q:Int)=0 by dsimp only at e;omega) H9,z0,F5,f,by dsimp only;rw[aA,t7];exact d1,by dsimp only;rw[aA];simp only[aD,aX];have:=q4 (gH Q);omega,λ_=>by dsimp only;rw[aA];simp only[aD,aX];have:=q4 (gH Q);omega,by dsimp only;rw[p5,t7];exact t6,z1,H5,by dsimp only;rw[f1];exact l7,p3,by dsimp only;rw[f1];exact y8,f2 _ l3,λb hb=>f2 b (s9 b hb)⟩,y9,D,?_⟩
     · dsimp only
       rw[p5];exact z3
     · exact z4
     · show B0<=(t4).heap.size
       rw[z5];exact V1
 ·
  dsimp only at v0;obtain rfl:k=0:=by omega
  have a4:=B7 rfl;obtain⟨d3,g6,y⟩:=a4;subst d3;subst g6;subst y;refine qP<|qL<|rf<|qX<|ny<|mR<|mP<|mP<|mV<|mV<|oH<|ny<|nQ<|nR [_,_] ⟨rfl,rfl,trivial⟩ ?_
  exact⟨v,vs,bl,Lc,rfl,nY.mono m7 m6,q5,λb hb=>⟨(e6 b hb).1,(e6 b hb).2.2⟩,k0,q6,e4,f6⟩
end
end Go.Proofs.YtpaniebomegnbaaGreat
namespace Coup
open Go Go.RowKit
variable {P:Program}{n:Nat}{w:World}
theorem zjN {f:FuncId} {fn:Func} {id d:Nat} {ats:Array Nat} {ty1:TypeId} {pos1:String} {af1:Array Edge} {rest:Code} {rs:List ResultVar} {args:List Value} {A:Value->World->Prop} {u u2:FrameMode} {x:Value}
  (hf:P.funcs[f]?=some fn) (hb:fn.body=some (.seq (.region id #[⟨some d, .call ⟨.builtin .recover,#[],ats⟩,ty1,pos1,af1,none⟩] false) rest)) (hr:fn.results=rs.toArray) (hn:fn.ntmps=n)
  (hok:codeOk n rest=true) (hd:Nat.blt d n=true) (hl:Nat.ble args.length n=true)
  (hu:∀ (c₀:Frame) (cs:List Frame),c₀.mode=u->recoverD (c₀::cs)=some (x,{c₀ with mode:=u2}::cs)\/(recoverD (c₀::cs)=none/\u2=u/\x= .nilIface))
  (h:W (λrd=>rd=none) P n rest (Dq P rs A) (up (Fu args) d x) w):CallsDIn Fence.wide 8 P f args.toArray u w (λen u' w'=>u'=u2/\pX A en w'):=by
 have C:args.length<=n:=iq hl;have t:=Ro (n:=n) args fn.ntmps hn C;refine callsDIn_of_wpSIn hf hb trivial λc₀ cs u=>wpSIn_seq (wpSIn_region ?_)
 have y:∀ (o:List Frame),o={c₀ with mode:=u2}::cs->∀ g,Ag n g (up (Fu args) d x)->rest.wpSIn Fence.wide 8 P (bodyPostS P fn c₀ cs λen u' w'=>u'=u2/\pX A en w') g o w:=by
  rintro o rfl g D;refine wpSIn_of_wpIn rfl ?_;have E:=h hok none g rfl D;have F:rest.wpIn Fence.wide 8 P (lift n (Dq P rs A)) g w:=λb k cs G hb hr=>E b k cs G hb (room_wide _)
  refine wpIn_mono F ?_;rintro en O w2 ⟨Q,m,f⟩;cases en with
  |normal=>
   obtain⟨p,vs,q,r⟩:=f;exact⟨by rw[m.d,p];rfl,u2,rfl,_,NE hr m.t q,rfl,_,rfl,r⟩
  |ret=>
   obtain⟨p,vs,q,r⟩:=f;exact⟨by rw[m.d,p];rfl,u2,rfl,_,NE hr m.t q,rfl,_,rfl,r⟩
  |exit i=>exact f.elim
  |goto l=>exact f.elim
  |panic c=>exact f.elim
  |outgrown=>exact f.elim
 have H:d<n:=by simpa using hd
 generalize ({tmps:=args.toArray++Array.replicate (fn.ntmps - args.toArray.size) undef,defers:=[]}:Act)=a at t |-;have z:∀ v,Ag n (a.put (some d) v) (up (Fu args) d v):=λv=>t.put (some d) (λk I=>by cases I;exact H) v
 have J:(execOp a.eval ⟨some d, .call ⟨.builtin .recover,#[],ats⟩,ty1,pos1,af1,none⟩).run P w= .ok .recover w:=rfl;have key:∀ (e:Oper),Region.wanted e (λj=>yielded #[e] a.tmps j)=true->e.dst=some d->(execOp a.eval e).run P w= .ok .recover w->
   wpOpsSIn Fence.wide 8 P #[e] (Exit.thenS (rest.wpSIn Fence.wide 8 P (bodyPostS P fn c₀ cs λen u' w'=>u'=u2/\pX A en w')) (bodyPostS P fn c₀ cs λen u' w'=>u'=u2/\pX A en w')) [0] a (c₀::cs) w:=by
  intro e w1 B K;have L:(#[e]:Array Oper)[0]?=some e:=rfl;simp only[wpOpsSIn,L];refine⟨λ_ _=>trivial,?_⟩;have M:Region.wanted e (yielded #[e] a.tmps)=true:=w1;simp only[M,if_true,K];rcases hu c₀ cs u with s|⟨s,rfl,rfl⟩
  .simp only[s]
   rw[B];exact y _ rfl _<|z _
  .simp only[s]
   have N:∀ u2,c₀.mode=u2->c₀::cs={c₀ with mode:=u2}::cs:=λu2 h=>by subst h;rfl
   rw[B];exact y (c₀::cs) (N _ u) _<|z _
 exact key _ rfl rfl J
end Coup
namespace Go.Proofs.YtpaniebomegnbaaGreat
open Go Go.RowKit Coup
theorem MF(a:Value)(w:World):CallsDIn Fence.wide 8 Tryz.prog 102 [a].toArray .returning w (λen u' w'=>u'= .returning/\pX (λ_ w'=>Below w.heap.size w w') en w'):=by
 have a:=Below.refl w.heap.size w;refine zjN (fn:=Tryz.f102) (rs:=[]) (n:=15) (x:=.nilIface) (u:=.returning) (u2:=.returning) Tryz.func102 rfl rfl Tryz.ntmps102 dA rfl rfl (λc cs e=>.inr ⟨CV c cs e,rfl,rfl⟩)<|oU<|mR<|mO (zsy dA rfl)<|mQ<|uC rfl (rfl)<|nM<|mV<|oH<|pW<|SK [] trivial ?_
 exact a
theorem Lu(e:Int)(ge:Nat)(v0:Value)(w:World)(hx:row w ge [v0] 46):
  CallsDIn Fence.wide 8 Tryz.prog 102 [.pointer (some ⟨ge,0,none⟩)].toArray (.panicking (pe (wW e))) w (λen u' w'=>u'= .panicking [{v:=wW e,recovered:=true}]/\pX (λ_ w'=>sI [ge] w w'/\row w' ge [.int .i64 e] 46) en w'):=by
 have a:=sI.refl [ge] w;have o:=hx.lt;refine zjN (fn:=Tryz.f102) (rs:=[]) (n:=15) (x:=wW e) (u:=.panicking (pe (wW e))) (u2:=.panicking [{v:=wW e,recovered:=true}]) Tryz.func102 rfl rfl Tryz.ntmps102 dA rfl rfl (λh cs i=>.inl (CK _ h cs i))<|oU<|mR<|mO (zsz dA rfl)<|mQ<|tC rfl (rfl)<|mR<|mO (XY dA rfl)<|mO (nJ rfl rfl)<|mO (nJ rfl rfl)<|mQ<|uC rfl (rfl)<|mR<|nz<|nU ([Value.int .i64 0]) dA<|λj p k c f=>?_
 have l:ge<j:=ae hx.lt k;replace a:=a.new f;replace hx:=hx.new f;refine nH<|nT 1 ([.int .i64 e]) c<|λq c g=>?_
 replace a:=a.only g iB;replace hx:=hx.only g (ai l);refine mQ<|nM<|mP<|mO (nk 0)<|mO (mZ c)<|mO (nW rfl)<|nH<|oW hx<|λr hx m=>?_
 replace a:=a.only m iB;refine oH<|pW<|SK [] trivial ?_
 exact⟨a,hx⟩
section
variable {ρ:Env}{w:World}{rs:List ResultVar}{A:Value->World->Prop}{B:List PanicEntry->World->Prop}
theorem ZQ{a:Value}(hms:ρ.ms=[.fn 102 [] [a]])(h:∀ w',Below w.heap.size w w'->∃ vs,xK Tryz.prog w' ρ rs vs/\A (pack vs) w'){x:Exit}(hx:x= .ret\/x= .normal):JK Tryz.prog rs A B x ρ w:=by
 have c:Ay Tryz.prog rs A B ρ ρ.ms .returning w:=by
  rw[hms];refine⟨ig,dA,(MF a w).mono ?_⟩;rintro e f w' ⟨rfl,v,rfl,hb⟩;exact h w' hb
 rcases hx with rfl|rfl<;>exact c
theorem Yd (e:Int) (ge:Nat) (v0:Value) (hms:ρ.ms=[.fn 102 [] [.pointer (some ⟨ge,0,none⟩)]]) (re:row w ge [v0] 46)
  (hA:∀ w',sI [ge] w w'->row w' ge [.int .i64 e] 46->∃ vs,xK Tryz.prog w' ρ rs vs/\A (pack vs) w'):JK Tryz.prog rs A B (.panic (pe (wW e))) ρ w:=by
 show Ay Tryz.prog rs A B ρ ρ.ms (.panicking (pe (wW e))) w;rw[hms];refine⟨ig,dA,(Lu e ge v0 w re).mono ?_⟩;rintro f g w' ⟨rfl,v,rfl,a,c⟩;exact hA w' a c
end
section
variable {Y:World->List Nat->Prop}[hYT:mW Y]{q N lo:Nat}{L:List Nat}{G V:Nat->Pg}{k:Nat}{w:World}
theorem VC(tb hb:Nat)(h:Two (GZ q N G V k) Y lo L w)(hr:row w tb [.pointer (some ⟨q,0,none⟩), .pointer (some ⟨hb,0,none⟩)] 50){bl:List Nat}{xs:List Value}{x:MN}(hnd:qj w bl xs x)(hlv:x.lv<256)(hk:∀ c∈x.cs,c.1.length<=300)(hf:tK x.lv x.cs=true)(hn:x.n<N):
  CQ 48 [.pointer (some ⟨tb,0,none⟩), .agg xs.toArray] w (λv w'=>v= .tuple #[]/\Two (GZ q N (tQ G x.n (oG (rH x))) V k) Y lo L w'/\mX lo L w w'):=by
 have e:=Below.refl w.heap.size w;have a:=mX.refl lo L w;have f:=h;have u:=λw' (v:qj w' bl xs x)=>Ac w' v hlv hk
 have y:(oG (rH x)).length=512:=by
  have C:=hf;rw[NH]at C;have D:=uO (Fp hk (of_decide_eq_true C));rw[oh]at D;exact D
 have E:=λw' L' (v:Two (GZ q N G V k) Y lo L' w')=>Cm v x.n hn y
 rw[hf,if_pos rfl]at u;obtain⟨Z,H⟩:=aa (oG (rH x));rw[H]at u E y |-;have a0:(bv Z).length=512:=by rw[oh];exact y
 have I:=hnd.PS;obtain⟨a1,a2⟩:=I;have J:xs[0]?=some (.int .i64 (x.n:Int)):=by obtain⟨p,a3,_,rfl,_⟩:=hnd;rfl
 refine nP (fn:=Tryz.f48) (rs:=[]) (n:=20) Tryz.func48 rfl rfl Tryz.ntmps48 dA rfl<|mR<|nz<|oV xs rfl<|λz K A c o=>?_
 have a4:=ag e.size A;have a5:=a.size;have a6:tb<z:=ae hr.lt A;replace f:=f.nA o A c.lt;replace a:=a.new o;replace hr:=hr.new o;replace e:=e.acc o;refine pV<|mO (oI 3 c)<|nD (u K (hnd.new e)) ?_
 rintro _ a7 ⟨rfl,i⟩;replace f:=f.new i;replace a:=a.new i;replace hr:=hr.new i;replace c:=c.new i;replace e:=e.acc i;refine mP<|mO (nJ rfl rfl)<|mO (nJ rfl rfl)<|nz<|nU (List.replicate 512 (Value.int .u8 0)) dA<|λB a8 r g j=>?_
 have M:=ag e.size r;have O:tb<B:=ae hr.lt r;have P:z<B:=ae c.lt r;replace f:=f.nA j r g.lt;replace a:=a.new j;replace hr:=hr.new j;replace c:=c.new j;replace e:=e.acc j;rw[AP]at g;refine nH<|nT 512 (bv Z) g<|λa9 g l=>?_
 replace f:=f.only l eG;replace a:=a.oq l;replace hr:=hr.only l (ai O);replace c:=c.only l (ai P);replace e:=l.below e M;refine mV<|mQ ?_
 have b0:=e.size;refine vK (lo) ((B::z::L)) dA ?_;intro Q m R F;replace f:=f.new m;replace a:=a.new m;replace hr:=hr.new m;replace c:=c.new m;replace g:=g.new m;have b1:=f;have b2:=a;have b3:=hr;have S:=c;have T:=g;refine mU 0 (nK)<|mU 1 (nW rfl)<|mU 2 (nk 0)<|mU 4 (nk 0)<|nI 5 (λw' s=>ou rfl (Ld.qN (S.kL s) dA J))<|nI 6 (λw' s=>oI 512 (T.kL s))<|nS 3 dA<|Ap rfl rfl (mZ hr) F<|nS 7 dA<|qf rfl rfl (nX dA rfl) (E Q _ f) ?_
 rintro _ b4 ⟨rfl,U,t⟩;have X:=F.uK R t.wk;refine⟨X,?_⟩;replace a:=a.lq t;replace c:=c.kl t;replace g:=g.kl t;refine yM 8 dA rfl (λ_=>nX dA rfl) (λw' s=>Jp w')<|oL dA<|zI [] trivial ?_;exact⟨rfl,U.weak (λb hb=>by simp[hb]),a⟩
end
section
variable {Y:World->List Nat->Prop}[hYT:mW Y]{q N lo:Nat}{L:List Nat}{G V:Nat->Pg}{k:Nat}{w:World}
theorem RI (tb hb:Nat) (h:Two (GZ q N G V k) Y lo L w) (hr:row w tb [.pointer (some ⟨q,0,none⟩), .pointer (some ⟨hb,0,none⟩)] 50) {kp:Option Addr} {kn kc:Nat} (kf:Nat) (caps:List Value) (hcan:vv Tryz.prog kf=true)
  (A:(Nat->Pg)->(World->List Nat->Prop)->Prop) (E:Int->(Nat->Pg)->(World->List Nat->Prop)->Prop) (hAT:∀ G' Y',A G' Y'->mW Y') (hET:∀ e G' Y',E e G' Y'->mW Y')
  (hdo:∀ L' w',(∀ b∈L,b∈L')->mX lo L w w'->Two (GZ q N G V k) Y lo L' w'->Calls Tryz.prog kf caps.toArray w'
   (sM (λ_ w2=>∃ G' Y',A G' Y'/\Two (GZ q N G' V k) Y' lo L' w2/\mX lo L' w' w2) (λc w2=>∃ e G' Y',E e G' Y'/\c=pe (wW e)/\Two (GZ q N G' V k) Y' lo L' w2/\mX lo L' w' w2))):
  CQ 35 [.pointer (some ⟨tb,0,none⟩), .slice kp kn kc, .bool true, .func (.func kf) #[] caps.toArray] w (λv w'=>(∃ G' Y',A G' Y'/\v= .int .i64 0/\Two (GZ q N G' V k) Y' lo L w'/\mX lo L w w')\/
   (∃ e G' Y',E e G' Y'/\v= .int .i64 e/\Two (GZ q N G' V k) Y' lo L w'/\mX lo L w w')):=by
 have A:=λw' L' (B:Two (GZ q N G V k) Y lo L' w')=>OD B
 have a:=mX.refl lo L w;have i:=h;have F:=h.lo;refine UB<|vQ (fn:=Tryz.f35) (rs:=[.cell 8 46]) (n:=40) Tryz.func35 rfl rfl Tryz.ntmps35 dA rfl<|mR<|nz<|nU ([Value.int .i64 0]) dA<|λj p r f l=>?_
 have H:=a.size;have I:tb<j:=ae hr.lt r;replace i:=i.nA l r f.lt;replace a:=a.new l;replace hr:=hr.new l;refine mF ?_;rintro _ _ ⟨rfl,rfl⟩;refine mV<|mQ<|tC rfl (rfl)<|mR<|mP<|mO (sD rfl)<|mP<|BZ 28 (.bool false) (rfl)<|nE<|nE<|nE<|nE<|yG rfl<|yG rfl<|yG rfl<|nE<|mO (oo rfl)<|mV<|mQ<|tC rfl (rfl)<|nL<|pW<|ny<|mR<|WC (λ_ h=>h) rfl rfl<|pV<|mP ?_
 have J:=f.lt;have C:∀ b∈L,b∈j::L:=λb hb=>aj _ hb
 refine vG rfl (uA hcan rfl rfl) (hdo (j::L) p C a i) ((λc w' ⟨e,G2,m,s,D,g,t⟩=>by subst D;haveI:=hET _ _ _ s;exact Yd e j _ rfl (f.kl t (.inr ig)) λK u E=>⟨[_],⟨⟨_,rfl,Ld.qN E dA rfl⟩,trivial⟩, .inr ⟨e,G2,m,s,rfl,(g.nu u.k λb hb=>.inr (by simpa using Or.inl (aM.1 hb))).weak λb hb=>aj _ hb,(a.ll t λb hb=>aj _ hb).nu u.k λb hb=>.inr (by rw[aM.1 hb];omega)⟩⟩)) ?_;rintro _ M ⟨G2,m,v,g,y⟩
 haveI:=hAT _ _ v
 replace a:=a.lq y;replace f:=f.kl y;refine pV<|nH<|oW f<|λO f z=>?_
 replace a:=a.oq z;replace g:=g.only z eG;refine mQ<|nQ<|ZQ rfl ?_<|.inl rfl
 rintro P o;exact⟨[.int .i64 0],⟨⟨_,rfl,Ld.qN (f.new o) dA rfl⟩,trivial⟩, .inl ⟨G2,m,v,rfl,(g.new o).weak λb hb=>by simp[hb],a.new o⟩⟩
theorem Tw (tb hb:Nat) (h:Two (GZ q N G V k) Y lo L w) (hr:row w tb [.pointer (some ⟨q,0,none⟩), .pointer (some ⟨hb,0,none⟩)] 50) {kp:Option Addr} {kn kc:Nat} (hmay:1<=kn/\kn<=100) (kf:Nat) (caps:List Value) (hcan:vv Tryz.prog kf=true)
  (A:(Nat->Pg)->(World->List Nat->Prop)->Prop) (E:Int->(Nat->Pg)->(World->List Nat->Prop)->Prop) (hAT:∀ G' Y',A G' Y'->mW Y') (hET:∀ e G' Y',E e G' Y'->mW Y')
  (hdo:∀ L' w',(∀ b∈L,b∈L')->mX lo L w w'->Two (GZ q N G V k) Y lo L' w'->Calls Tryz.prog kf caps.toArray w'
   (sM (λ_ w2=>∃ G' Y',A G' Y'/\Two (GZ q N G' V k) Y' lo L' w2/\mX lo L' w' w2) (λc w2=>∃ e G' Y',E e G' Y'/\c=pe (wW e)/\Two (GZ q N G' V k) Y' lo L' w2/\mX lo L' w' w2))):
  CQ 35 [.pointer (some ⟨tb,0,none⟩), .slice kp kn kc, .bool false, .func (.func kf) #[] caps.toArray] w (λv w'=>(∃ G' Y',A G' Y'/\v= .int .i64 0/\Two (GZ q N G' V k) Y' lo L w'/\mX lo L w w')\/
   (∃ e G' Y',E e G' Y'/\v= .int .i64 e/\Two (GZ q N G' V k) Y' lo L w'/\mX lo L w w')):=by
 have A:=λw' L' (B:Two (GZ q N G V k) Y lo L' w')=>OD B
 have a:=mX.refl lo L w;have i:=h;have F:=h.lo;refine UB<|vQ (fn:=Tryz.f35) (rs:=[.cell 8 46]) (n:=40) Tryz.func35 rfl rfl Tryz.ntmps35 dA rfl<|mR<|nz<|nU ([Value.int .i64 0]) dA<|λj p r f l=>?_
 have H:=a.size;have I:tb<j:=ae hr.lt r;replace i:=i.nA l r f.lt;replace a:=a.new l;replace hr:=hr.new l;refine mF ?_;rintro _ _ ⟨rfl,rfl⟩;refine mV<|mQ<|tC rfl (rfl)<|mR<|mP<|mO (sD rfl)<|mP<|BZ 28 (.bool true) (rfl)<|mY<|mP<|mY<|mO (oQ (e:=5) (sz:=1) dA rfl rfl)<|mY<|mO (pE rfl rfl)<|mY<|mP<|rD 32 rfl (eu)<|mY<|mP<|mY<|mO (oQ (e:=5) (sz:=1) dA rfl rfl)<|mY<|mO (rq rfl rfl)<|mY<|mO (oo rfl)<|mO (pO rfl)<|mV<|mQ<|pJ rfl (eu)<|nL<|pW<|ny<|mR<|WC (λ_ h=>h) rfl rfl<|pV<|mP ?_
 have J:=f.lt;have C:∀ b∈L,b∈j::L:=λb hb=>aj _ hb
 refine vG rfl (uA hcan rfl rfl) (hdo (j::L) p C a i) ((λc w' ⟨e,G2,m,s,D,g,t⟩=>by subst D;haveI:=hET _ _ _ s;exact Yd e j _ rfl (f.kl t (.inr ig)) λK u E=>⟨[_],⟨⟨_,rfl,Ld.qN E dA rfl⟩,trivial⟩, .inr ⟨e,G2,m,s,rfl,(g.nu u.k λb hb=>.inr (by simpa using Or.inl (aM.1 hb))).weak λb hb=>aj _ hb,(a.ll t λb hb=>aj _ hb).nu u.k λb hb=>.inr (by rw[aM.1 hb];omega)⟩⟩)) ?_;rintro _ M ⟨G2,m,v,g,y⟩
 haveI:=hAT _ _ v
 replace a:=a.lq y;replace f:=f.kl y;refine pV<|nH<|oW f<|λO f z=>?_
 replace a:=a.oq z;replace g:=g.only z eG;refine mQ<|nQ<|ZQ rfl ?_<|.inl rfl
 rintro P o;exact⟨[.int .i64 0],⟨⟨_,rfl,Ld.qN (f.new o) dA rfl⟩,trivial⟩, .inl ⟨G2,m,v,rfl,(g.new o).weak λb hb=>by simp[hb],a.new o⟩⟩
end
theorem Ub:∀ {l:Nat} {t:Tr l} {k lo hi:Key},qA l t lo hi->qD k->qa lo k->rO k hi->(yS l t k)[l]?=some (nO 0 (yR l t k),0)
 |0,_,_,_,_,_,_,_,_=>rfl
 |l+1,t,k,lo,hi,h,hk,hlo,hhi=>by
  obtain⟨A,x,B,e,g,a,c,f,_,_,_⟩:=zK h hk hlo hhi;rw[NK a,iQ,Ub (h.2.2.2.2 A x B e) hk c f];show some (nO 0 (yR l x.2 k),0)=_;unfold yR;rw[a]
theorem UG{N:Nat}{H:HS}:∀ {l:Nat} {t:Tr l} {k lo hi:Key},xX N H l t->qA l t lo hi->qD k->qa lo k->rO k hi->xX N H 0 (yR l t k)
 |0,_,_,_,_,h,_,_,_,_=>h
 |l+1,t,k,lo,hi,ht,h,hk,hlo,hhi=>by
  obtain⟨A,x,B,e,g,a,c,f,_,_,_⟩:=zK h hk hlo hhi;rw[yR,a];exact UG (ht.kid (x:=x) kg) (h.2.2.2.2 A x B e) hk c f
theorem CS{α:Type}{ks:List (Key × α)}{k:Key}(h:isK ks k=true):∃ x,ks[pz ks k]?=some x/\x.1=k:=by
 unfold isK at h
 split at h
 .rename_i x a;exact⟨x,a,of_decide_eq_true h⟩
 .cases h
section
variable {Y:World->List Nat->Prop}[hYT:mW Y]{q N lo:Nat}{L:List Nat}{V:Nat->Pg}{k:Nat}{H:HS}{fl:List Nat}{w:World}
theorem Qf (gt gk ga tb hb:Nat) (v0:List Value) (h:Two (GZ q N (nG H) V k) (qY Y ga v0 30) lo L w) (hv0:v0.length=2) (hH:qO N H fl) (hrt:row w gt [.pointer (some ⟨tb,0,none⟩)] 37) (hr:row w tb [.pointer (some ⟨q,0,none⟩), .pointer (some ⟨hb,0,none⟩)] 50) (htb:tb<lo\/tb∈L) (hrh:row w hb [.pointer (some ⟨q,0,none⟩)] 201) (hhb:hb<lo\/hb∈L)
   {l:Nat} {t:Tr l} (ht:xX N H l t) (hs:qA l t [] []) (hroot:H.F.root=t.n) {pk:Option Addr} {ck:Nat} {key:Key} (hrk:row w gk [.slice pk key.length ck] 23) (hgk:gk<lo\/gk∈L) (hkey:nC w pk key.length 1 (bv key)) (hkL:∀ g o,pk=some ⟨g,o,none⟩->g<lo\/g∈L) (hkk:qD key):
   Calls Tryz.prog 52 [.pointer (some ⟨gt,0,none⟩), .pointer (some ⟨gk,0,none⟩), .pointer (some ⟨ga,0,none⟩)].toArray w
     (sM (λ_ w'=>∃ v:Nat × Nat,(key,v)∈oC l t/\Two (GZ q N (nG H) V k) (qY Y ga [.int .i64 (v.1:Int), .int .i64 (v.2:Int)] 30) lo L w'/\mX lo L w w') (λc w'=>(∀ v,(key,v)∉oC l t)/\c=pe (wW 6)/\Two (GZ q N (nG H) V k) (qY Y ga v0 30) lo L w'/\mX lo L w w')):=by
 have g:=mX.refl lo L w;have a4:=BB tb hb (ck:=ck) h hH hr htb hrh hhb ht hs hroot hkey hkL hkk;obtain⟨⟨e0,e1,E⟩,F⟩:=UO hs hkk (uT key) (.inl rfl);have S:=UG ht hs hkk (uT key) (.inl rfl);have T:=Ub hs hkk (uT key) (.inl rfl);obtain⟨a,a5⟩:=aa (yR l t key);rw[a5]at E F S T;have U:=S.yZ E;have e2:=U.few;have a6:=U.keys.1;have e3:=ht.lv;have e4:maxLen=9223372036854775807:=by decide
 refine vQ (fn:=Tryz.f52) (rs:=[]) (n:=33) Tryz.func52 rfl rfl Tryz.ntmps52 dA rfl<|mR<|mO (mZ hrt)<|mO (mZ hrk)<|nD a4 ?_
 rintro _ q ⟨vs,bl,e5,V,X,e6,e7,G,o,a7⟩;replace g:=g.ll a7 (λb hb=>hb);have a8:=V;obtain⟨e8,e9,rfl⟩:=a8.form;have Y:=V.sl;have p:=Y.some eu;obtain⟨a9,b0,rfl,f0⟩:=p;have p:=X.at_ l _ T;obtain⟨xs,b1,H⟩:=p;replace H:qj q bl xs (nO 0 a):=H;obtain⟨r,s,B,rfl,I,J,b2,b3⟩:=H;have b4:=X.len;have b5:=Rj hs hkk (uT key) (.inl rfl);have b6:(vs.drop (l*4)).take 4=zg (nO 0 a) r s 0:=b1;have b7:∀ w',Below (q).heap.size q w'->Ld Tryz.prog w' 97 ⟨a9,b0+l*4,none⟩ (.agg (zg (nO 0 a) r s 0).toArray):=λw' hb=>by
   have y:=Ld.zB (P:=Tryz.prog) (t:=97) (j:=l*4) (k:=4) (Y.new hb) dA dA (by rw[b4,b5];omega);rw[b6]at y;exact y
 have b8:qj q bl (oz (nO 0 a) r s) (nO 0 a):=⟨r,s,B,rfl,I,J,b2,b3⟩;have b9:=hkey.sS g hkL;have c4:=hrk.kl g hgk;have f1:=Yw (nO 0 a) r s 0;have f2:(zg (nO 0 a) r s 0).length=4:=rfl;have m:=Below.refl (q).heap.size q;refine nV<|mP<|mP<|mO (oQ (e:=97) (sz:=4) dA rfl rfl)<|mO (vE rfl rfl (show IntKind.i64.wrap (((l+1:Nat):Int) - 1)=(l:Int) by rw[nN eu];omega))<|mO (rE (e:=97) (sz:=4) dA rfl rfl (l) eu eu)<|mO (ou rfl (b7 _ m))<|nz<|nU ([Value.int .i64 0,Value.int .i64 0,Value.slice none 0 0,Value.int .i64 0]) dA<|λf3 f4 Z u K=>?_
 have c5:=ag m.size Z;have f5:=g.size;replace o:=o.nA K Z u.lt;replace g:=g.new K;replace m:=m.acc K;refine nH<|nT 4 (zg (nO 0 a) r s 0) u<|λc6 u M=>?_
 replace o:=o.only M eG;replace g:=g.oq M;replace m:=M.below m c5;refine pV<|mO (nk 0)<|mO (ou rfl (Ld.AR (k:=3) u dA dA (by show 0+3<=4;omega)))<|mO (ou rfl (Ld.qN (c4.new m) dA rfl))<|qi rfl (nX dA rfl) (SS (x:=nO 0 a) c6 (b8.new m) eu a6 (b9.new m)) ?_
 rintro _ c7 ⟨rfl,C⟩;replace o:=o.new C;replace g:=g.new C;replace u:=u.new C;replace m:=m.acc C;refine mP<|mO (nJ rfl rfl)<|mO (nJ rfl rfl)<|mV<|mV<|mQ<|ng<|mR<|mP<|mO (sD rfl)<|mQ<|MU rfl (λz=>?_)<|λz=>?_
 ·
  refine nM ?_;have c8:=o.weak (L2:=L) λb hb=>aj _ (G b hb)
  have c9:∀ v,(key,v)∉oC l t:=λv N=>by
    have A:=(zsm E.AB (k:=key)).2 ⟨(key,v),(F v).1 N,rfl⟩;have d0:isK (nO 0 a).cs key=isK a.ks key:=Qr _ _;rw[d0,A]at z;cases z
  refine vG rfl (nX dA rfl) (Iw 6 iT c7) ((λc w' ⟨O,a0⟩=>vP ⟨c9,O,by rw[<-a0];exact c8,by rw[<-a0];exact g⟩)) ?_;rintro _ _ d1;exact d1.elim
 ·
  have d2:isK (nO 0 a).cs key=isK a.ks key:=Qr _ _;have d3:pz (nO 0 a).cs key=pz a.ks key:=WX _ _;rw[d2]at z;obtain⟨i,f,D,Q⟩:∃ (i:Key) (f:Nat × Nat),a.ks[pz a.ks key]?=some (i,f)/\i=key:=by
    have p:=CS z;obtain⟨⟨i,f⟩,D,Q⟩:=p;exact⟨i,f,D,Q⟩
  subst Q;have a1:(nO 0 a).cs[pz a.ks i]?=some (i,v3 0 f):=Oq D;have p:=J.at_ _ _ a1;obtain⟨f6,f7,d4,_⟩:=p;have a2:=(aO.1 a1).1;have p:=I.some (fo (jg (aC _) a2) iT);obtain⟨d5,op,rfl,f8⟩:=p;have f9:pz a.ks i*4+4<=B.length:=by
    rw[J.len];have A:(pz a.ks i+1)*4<=(nO 0 a).cs.length*4:=cO 4 a2;omega
  have d6:((B.drop (pz a.ks i*4+1)).take 2)=[.int .i64 (f.1:Int), .int .i64 (f.2:Int)]:=by
    have A:(((B.drop (pz a.ks i*4)).take 4).drop 1).take 2=[.int .i64 (f.1:Int), .int .i64 (f.2:Int)]:=by rw[d4];rfl
    rw[eU,dL,dP]at A;exact A
  have d7:∀ w',Below q.heap.size q w'->Ld Tryz.prog w' 30 ⟨d5,op+(pz a.ks i*4+1),none⟩ (.agg [.int .i64 (f.1:Int), .int .i64 (f.2:Int)].toArray):=λw' hb=>by
    have y:=Ld.zB (P:=Tryz.prog) (t:=30) (j:=pz a.ks i*4+1) (k:=2) (I.new hb) dA dA eu;rw[d6]at y;exact y
  have g0:[Value.int .i64 (f.1:Int), .int .i64 (f.2:Int)].length=2:=rfl;refine nL<|ny<|nM<|mO (nk 0)<|mO (nk 2)<|mO (mZ u)<|mP<|mO (rE (e:=90) (sz:=4) dA rfl rfl (pz a.ks i) (by rw[d3]) eu)<|mO (nk 1)<|mO (ou rfl (d7 _ m)) ?_
  have O:=zZ o;obtain⟨R,g1,d8⟩:=O;have g2:ga∉L:=λN=>d8 (aj _ (G _ N))
  refine nH<|nT 2 ([.int .i64 (f.1:Int), .int .i64 (f.2:Int)]) R<|λg3 R a3=>?_
  replace g:=g.oq a3;have d9:=Eu o R a3;refine oH<|Ei [] trivial ?_
  exact⟨f,(F f).2 (aN D),d9.weak λb hb=>aj _ (G b hb),g⟩
end
structure TR(q tb hb N lo:Nat)(L:List Nat)(H:HS)(fl:List Nat)(l:Nat)(t:Tr l)(w:World):Prop where
 ok:qO N H fl
 r:row w tb [.pointer (some ⟨q,0,none⟩), .pointer (some ⟨hb,0,none⟩)] 50
 tb:tb<lo\/tb∈L
 rh:row w hb [.pointer (some ⟨q,0,none⟩)] 201
 hb:hb<lo\/hb∈L
 ti:xX N H l t
 sd:qA l t [] []
 rt:H.F.root=t.n
namespace TR
variable {q tb hb N lo:Nat}{L L':List Nat}{H:HS}{fl:List Nat}{l:Nat}{t:Tr l}{w w':World}
theorem ll(h:TR q tb hb N lo L H fl l t w)(k:mX lo L w w'):TR q tb hb N lo L H fl l t w':=⟨h.ok,h.r.kl k h.tb,h.tb,h.rh.kl k h.hb,h.hb,h.ti,h.sd,h.rt⟩
theorem mono(h:TR q tb hb N lo L H fl l t w)(hL:∀ b∈L,b∈L'):TR q tb hb N lo L' H fl l t w:=⟨h.ok,h.r,h.tb.imp id (hL _),h.rh,h.hb.imp id (hL _),h.ti,h.sd,h.rt⟩
theorem new(h:TR q tb hb N lo L H fl l t w)(hb':Below w.heap.size w w'):TR q tb hb N lo L H fl l t w':=h.ll (mX.of_below hb')
end TR
theorem TL{X Y:World->List Nat->Prop}{lo g:Nat}{L:List Nat}{w:World}{cs:List Value}{ty:TypeId}(h:Two X Y lo (g::L) w)(hr:row w g cs ty)(hg:lo<=g/\g∉L):Two X (qY Y g cs ty) lo L w:=by
 obtain⟨⟨B,C,f,i,c,e⟩,j,k⟩:=h;refine⟨⟨B,g::C,f,⟨C,rfl,i,hr,λa=>(e g a).2 (aK ..)⟩,λb hb=>⟨(c b hb).1,λa=>?_,λa=>(c b hb).2.2 (aj _ a)⟩,λb hb=>?_⟩,j,λb hb=>k b (aj _ hb)⟩
 .rcases ak.1 a with rfl|a
  .exact(c b hb).2.2 (aK ..)
  .exact(c b hb).2.1 a
 .rcases ak.1 hb with rfl|hb
  .exact hg
  .exact⟨(e b hb).1,λa=>(e b hb).2 (aj _ a)⟩
section
variable {Y:World->List Nat->Prop}[hYT:mW Y]{q tb hb N lo:Nat}{L:List Nat}{V:Nat->Pg}{k:Nat}{H:HS}{fl:List Nat}{l:Nat}{t:Tr l}{w:World}
theorem Qt(h:Two (GZ q N (nG H) V k) Y lo L w)(hR:TR q tb hb N lo L H fl l t w){pk:Option Addr}{ck:Nat}{key:Key}(hkey:nC w pk key.length 1 (bv key))(hkL:∀ g o,pk=some ⟨g,o,none⟩->g<lo\/g∈L)(hkk:qD key):
  CQ 14 [.pointer (some ⟨tb,0,none⟩), .slice pk key.length ck] w (λv w'=>(∃ (e:Int) (u:Nat × Nat),v= .tuple #[.agg #[.int .i64 (u.1:Int), .int .i64 (u.2:Int)], .int .i64 e]/\((e=0/\(key,u)∈oC l t)\/(e=6/\u=(0,0)/\∀ v,(key,v)∉oC l t)))/\Two (GZ q N (nG H) V k) Y lo L w'/\mX lo L w w'):=by
 have f:=mX.refl lo L w;have A:=h;have a1:1<=key.length:=by
  cases key with
  |nil=>exact absurd rfl hkk.1
  |cons a b=>simp
 have a2:=h.lt;have b1:=h.lo;have a3:∀ (W:World) (L2:List Nat) (i j m:Nat),Two (GZ q N (nG H) V k) (qY Y m [.int .i64 0, .int .i64 0] 30) lo L2 W->(∀ b∈L,b∈L2)->i∈L2->j∈L2->mX lo L w W->row W i [.pointer (some ⟨tb,0,none⟩)] 37->row W j [.slice pk key.length ck] 23->
   Calls Tryz.prog 35 [.pointer (some ⟨tb,0,none⟩), .slice pk key.length ck, .bool false, .func (.func 52) #[] [.pointer (some ⟨i,0,none⟩), .pointer (some ⟨j,0,none⟩), .pointer (some ⟨m,0,none⟩)].toArray].toArray W
   (pX λv w'=>∃ (e:Int) (u:Nat × Nat),v= .int .i64 e/\((e=0/\(key,u)∈oC l t)\/(e=6/\u=(0,0)/\∀ v,(key,v)∉oC l t))/\Two (GZ q N (nG H) V k) (qY Y m [.int .i64 (u.1:Int), .int .i64 (u.2:Int)] 30) lo L2 w'/\mX lo L2 W w'):=λW L2 i j m s J K D S p y=>by
  have T:=(hR.ll S).mono J;refine(Tw tb hb s T.r (kp:=pk) (kc:=ck) ⟨a1,hkk.2⟩ 52 [.pointer (some ⟨i,0,none⟩), .pointer (some ⟨j,0,none⟩), .pointer (some ⟨m,0,none⟩)] dA
   (λG' Y'=>G'=nG H/\∃ u:Nat × Nat,(key,u)∈oC l t/\Y'=qY Y m [.int .i64 (u.1:Int), .int .i64 (u.2:Int)] 30) (λe G' Y'=>G'=nG H/\e=6/\(∀ v,(key,v)∉oC l t)/\Y'=qY Y m [.int .i64 0, .int .i64 0] 30)
   (λG' Y' ⟨_,u,_,e⟩=>by subst e;infer_instance) (λe G' Y' ⟨_,_,_,a4⟩=>by subst a4;infer_instance) λL' w' M F a5=>?_).to λv w' h=>?_
  .have z:=(T.ll F).mono M
   have a6:=(hkey.sS S hkL).sS F λg o e=>(hkL g o e).imp id (J g)
   exact(Qf i j m tb hb _ a5 rfl z.ok (p.kl F (.inr K)) z.r z.tb z.rh z.hb z.ti z.sd z.rt (ck:=ck) (y.kl F (.inr D)) (.inr (M _ D)) a6 (λg o e=>(hkL g o e).imp id λG=>M g (J g G)) hkk).zM (λv w2 ⟨u,B,s,r⟩=>⟨_,_,⟨rfl,u,B,rfl⟩,s,r⟩) λc w2 ⟨B,s,r,C⟩=>⟨6,_,_,⟨rfl,rfl,B,rfl⟩,s,r,C⟩
  .rcases h with⟨G',Y',⟨rfl,u,B,rfl⟩,r,C,O⟩|⟨e,G',Y',⟨rfl,rfl,B,rfl⟩,r,C,O⟩
   .exact⟨0,u,r, .inl ⟨rfl,B⟩,C,O⟩
   .exact⟨6,(0,0),r, .inr ⟨rfl,rfl,B⟩,C,O⟩
 refine nP (fn:=Tryz.f14) (rs:=[.cell 4 30, .tmp 5]) (n:=12) Tryz.func14 rfl rfl Tryz.ntmps14 dA rfl<|mR<|nz<|oV ([_]) rfl<|λi w2 K p U=>?_
 have b2:=f.size;replace A:=A.nA U K p.lt;replace f:=f.new U;refine nz<|oV ([_]) rfl<|λj b3 D y P=>?_
 have b4:i<j:=ae p.lt D;replace A:=A.nA P D y.lt;replace f:=f.new P;replace p:=p.new P;refine nz<|nU ([Value.int .i64 0,Value.int .i64 0]) dA<|λm a7 Q X I=>?_
 have b5:i<m:=ae p.lt Q;have b6:j<m:=ae y.lt Q;replace A:=A.nA I Q X.lt;replace f:=f.new I;replace p:=p.new I;replace y:=y.new I;refine nV<|mO (mZ p)<|mO (mZ y)<|mO (sV) ?_
 have b7:=f.size;have s:=TL A X ⟨eu,λG=>by
  simp only[ak]at G;rcases G with R|R|R
  .omega
  .omega
  .have:=a2 _ R;omega⟩
 have Z:∀ b∈L,b∈j::i::L:=λb hb=>aj _ (aj _ hb)
 have b8:m∉j::i::L:=(zZ s).2.2;refine qi rfl (nX dA rfl) (a3 a7 (j::i::L) i j m s Z ig ig f p y) ?_;rintro _ b9 ⟨e,u,rfl,a8,r,a9⟩;replace f:=f.ll a9 Z;refine mV<|mQ<|ng ?_
 have b0:=zZ r;obtain⟨E,c4,c5⟩:=b0;have c6:[Value.int .i64 (u.1:Int), .int .i64 (u.2:Int)].length=2:=rfl;refine nM<|mO (oI 2 E)<|mP<|nH<|nT 2 ([.int .i64 (u.1:Int), .int .i64 (u.2:Int)]) E<|λc7 E a0=>?_
 replace f:=f.oq a0;have C:=Eu r E a0;refine mV<|mQ<|nQ<|nR [_,_] ⟨⟨_,rfl,Ld.qp (k:=2) E dA dA gp⟩,rfl,trivial⟩ ?_
 exact⟨⟨e,u,rfl,a8⟩,(NI C).weak λb hb=>by simp[hb],f⟩
end
theorem uR{X Y:World->List Nat->Prop}{lo g:Nat}{L:List Nat}{w:World}(h:Two X Y lo L w)(hg:g<lo\/g∈L)(hl:g<w.heap.size):Two X Y lo (g::L) w:=by
 obtain⟨⟨B,C,l,m,a,c⟩,o,p⟩:=h;have i:∀ b,lo<=b->b∉L->b∉g::L:=λb q j f=>(ak.1 f).elim (λe=>hg.elim (λk=>eu) λk=>j (e▸k)) j
 exact⟨⟨B,C,l,m,λb hb=>⟨(a b hb).1,(a b hb).2.1,i b (a b hb).1 (a b hb).2.2⟩,λb hb=>⟨(c b hb).1,i b (c b hb).1 (c b hb).2⟩⟩,o,λb f=>(ak.1 f).elim (λe=>e▸hl) (p b)⟩
section
variable {Y:World->List Nat->Prop}[hYT:mW Y]{q tb hb N lo:Nat}{L:List Nat}{V:Nat->Pg}{k:Nat}{H:HS}{fl:List Nat}{l:Nat}{t:Tr l}{w:World}
theorem zuq(gt gn:Nat)(v0:Value)(h:Two (GZ q N (nG H) V k) (qY Y gn [v0] 3) lo L w)(hR:TR q tb hb N lo L H fl l t w)(hrt:row w gt [.pointer (some ⟨tb,0,none⟩)] 37)(hgt:gt∈L):
  Calls Tryz.prog 61 [.pointer (some ⟨gt,0,none⟩), .pointer (some ⟨gn,0,none⟩)].toArray w
   (sM (λ_ w'=>Two (GZ q N (nG H) V k) (qY Y gn [.int .i64 ((l+1:Nat):Int)] 3) lo L w'/\mX lo L w w') (λc w'=>False)):=by
 have hr:=hR.r;have c:=hR.rh;have f:Two (GZ q N (nG H) V k) (qY Y gn [v0] 3) lo (tb::hb::gt::L) w:=uR (uR (uR h (.inr hgt) hrt.lt) (hR.hb.imp id (aj _)) c.lt) (hR.tb.imp id λp=>aj _ (aj _ p)) hr.lt;have a:=mX.refl lo (tb::hb::gt::L) w;have D:∀ w' L',Two (GZ q N (nG H) V k) (qY Y gn [v0] 3) lo L' w'->row w' hb [.pointer (some ⟨q,0,none⟩)] 201->(hb<lo\/hb∈L')->CQ 51 [.pointer (some ⟨hb,0,none⟩)] w' (λv w2=>v= .int .i64 (t.n:Int)/\Two (GZ q N (nG H) V k) (qY Y gn [v0] 3) lo L' w2/\mX lo L' w' w2):=λw' L' r s E=>by
  have:=IJ hb r hR.ok s E;rw[hR.rt]at this;exact this
 have F:=λw' L' (r:Two (GZ q N (nG H) V k) (qY Y gn [v0] 3) lo L' w') (s:row w' tb [.pointer (some ⟨q,0,none⟩), .pointer (some ⟨hb,0,none⟩)] 50)=>PM tb hb r s hR.ti.page.1 (x:=nO l t) rfl hR.ti.page.2 (hR.ti.yZ hR.sd)
 have T:=hR.ti.lv;have U:=(zZ h).1.lt;refine vQ (fn:=Tryz.f61) (rs:=[]) (n:=11) Tryz.func61 rfl rfl Tryz.ntmps61 dA rfl<|vK (lo) ((tb::hb::gt::L)) dA ?_
 intro G g z I;replace f:=f.new g;replace a:=a.new g;replace hr:=hr.new g;replace c:=c.new g;replace hrt:=hrt.new g;have X:=f;have Z:=a;have J:=hr;have a0:=c;have A:=hrt;refine nI 0 (λw' i=>mZ (A.kL i))<|nI 1 (λw' i=>mZ (A.kL i))<|mU 2 (nW rfl)<|mU 3 (nk 1)<|nI 4 (λw' i=>mZ (J.kL i))<|nS 5 dA<|qf rfl rfl (nX dA rfl) (D G _ f c ig) ?_
 rintro _ K ⟨rfl,f,j⟩;have B:=I.uK z j.wk;refine⟨B,?_⟩;replace a:=a.lq j;replace hr:=hr.kl j;replace c:=c.nu j.kp dB;replace hrt:=hrt.nu j.kp dB;refine nS 6 dA<|qf rfl rfl (nX dA rfl) (F K _ f hr) ?_;rintro _ a1 ⟨xs,bl,rfl,M,a2,f,m⟩;have C:=B.uK z m.wk;refine⟨C,?_⟩;replace a:=a.lq m;replace hr:=hr.kl m;replace c:=c.nu m.kp dB;replace hrt:=hrt.nu m.kp dB;have O:xs[1]?=some (.int .i64 (l:Int)):=by obtain⟨a3,a4,_,rfl,_⟩:=M;rfl
 refine mU 7 (zox (off:=1) dA rfl O)<|mU 8 (om rfl rfl (Coup.nN eu))<|nS 9 dA ?_
 have P:=zZ f;obtain⟨u,a5,Q⟩:=P;have a6:gn∉tb::hb::gt::L:=λp=>Q (aB _ p)
 refine qR rfl rfl<|oW u<|λa7 u y=>?_
 have R:=C.add1 y iD;refine⟨R,?_⟩;replace a:=a.oq y;have S:=Eu f u y;refine oL dA<|Ei [] trivial ?_
 exact⟨S.weak λb hb=>by simp[hb],a.weak (ax _) λb hb=>by simp[hb]⟩
theorem GI(h:Two (GZ q N (nG H) V k) Y lo L w)(hR:TR q tb hb N lo L H fl l t w):
  CQ 18 [.pointer (some ⟨tb,0,none⟩)] w (λv w'=>v= .int .i64 ((l+1:Nat):Int)/\Two (GZ q N (nG H) V k) Y lo L w'/\mX lo L w w'):=by
 have a:=mX.refl lo L w;have m:=h;have I:=h.lt;have U:=h.lo;have J:∀ (W:World) (L2:List Nat) (f g:Nat),Two (GZ q N (nG H) V k) (qY Y g [.int .i64 0] 3) lo L2 W->(∀ b∈L,b∈L2)->f∈L2->mX lo L w W->row W f [.pointer (some ⟨tb,0,none⟩)] 37->
   Calls Tryz.prog 35 [.pointer (some ⟨tb,0,none⟩), .slice none 0 0, .bool true, .func (.func 61) #[] [.pointer (some ⟨f,0,none⟩), .pointer (some ⟨g,0,none⟩)].toArray].toArray W
   (pX λv w'=>v= .int .i64 0/\Two (GZ q N (nG H) V k) (qY Y g [.int .i64 ((l+1:Nat):Int)] 3) lo L2 w'/\mX lo L2 W w'):=λW L2 f g j K p M i=>by
  have u:=(hR.ll M).mono K;refine(RI tb hb j u.r (kp:=none) (kn:=0) (kc:=0) 61 [.pointer (some ⟨f,0,none⟩), .pointer (some ⟨g,0,none⟩)] dA
   (λG' Y'=>G'=nG H/\Y'=qY Y g [.int .i64 ((l+1:Nat):Int)] 3) (λe G' Y'=>False)
   (λG' Y' ⟨_,e⟩=>by subst e;infer_instance) (λe G' Y' h=>h.elim) λL' w' y z O=>?_).to λv w' h=>?_
  .have P:=(u.ll z).mono y
   exact(zuq f g _ O P (i.kl z (.inr p)) (y _ p)).zM (λv w2 ⟨Q,j⟩=>⟨_,_,⟨rfl,rfl⟩,Q,j⟩) λc w2 h=>h.elim
  .rcases h with⟨G',Y',⟨rfl,rfl⟩,r,s,R⟩|⟨e,G',Y',h,_⟩
   .exact⟨r,s,R⟩
   .exact h.elim
 refine nP (fn:=Tryz.f18) (rs:=[.cell 2 3]) (n:=7) Tryz.func18 rfl rfl Tryz.ntmps18 dA rfl<|mR<|nz<|oV ([_]) rfl<|λf w1 p i A=>?_
 have X:=a.size;replace m:=m.nA A p i.lt;replace a:=a.new A;refine nz<|nU ([Value.int .i64 0]) dA<|λg w2 B C t=>?_
 have Z:f<g:=ae i.lt B;replace m:=m.nA t B C.lt;replace a:=a.new t;replace i:=i.new t;refine pV<|mO (mZ i)<|mO (sV) ?_
 have a0:=a.size;have j:=TL m C ⟨eu,λD=>by
  simp only[ak]at D;rcases D with E|E
  .omega
  .have:=I _ E;omega⟩
 have F:∀ b∈L,b∈f::L:=λb hb=>aj _ hb
 have a1:g∉f::L:=(zZ j).2.2;refine qi rfl (nX dA rfl) (J w2 (f::L) f g j F ig a i) ?_;rintro _ a2 ⟨rfl,r,S⟩;replace a:=a.ll S F;refine mQ<|ng ?_
 have T:=zZ r;obtain⟨o,a3,a4⟩:=T;refine nM<|mO (mZ o)<|nH<|oW o<|λa5 o G=>?_
 replace a:=a.oq G;have s:=Eu r o G;refine mQ<|nQ<|nR [_] ⟨⟨_,rfl,Ld.qN o dA rfl⟩,trivial⟩ ?_
 exact⟨rfl,(NI s).weak λb hb=>by simp[hb],a⟩
end
section
variable {Y:World->List Nat->Prop}[hYT:mW Y]{q jb mw N lo:Nat}{L:List Nat}{G G0 V:Nat->Pg}{k:Nat}{H:HS}{fl rl:List Nat}{R:Nat->Nat->Prop}{P:Nat->Nat->List Nat}{B:Nat->Nat->List UInt8}{w:World}
def yn(H:HS)(n:Int):Int:=if n<1\/(H.F.fresh:Int)<=n then 2 else if(H.S n.toNat).kind≠3 then 6 else 0
theorem KS(g:Nat)(n:Int)(h:JH q jb mw N G0 V k H fl Y lo L w)(hx1:row w g [.int .i64 n] 3)(hgL:g∈L)(hI:∀ m∈fl,(H.S m).kind≠3):Calls Tryz.prog 107 [.pointer (some ⟨jb,0,none⟩), .pointer (some ⟨g,0,none⟩)].toArray w
  (sM (λ_ w'=>yn H n=0/\JH q jb mw N G0 V k (wD H n.toNat) (n.toNat::fl) Y lo L w'/\mX lo L w w') (λc w'=>yn H n≠0/\c=pe (xw (yn H n))/\JF q jb mw N G0 V k Y lo L w'/\mX lo L w w')):=by
 unfold yn
 by_cases v:n<1
 .rw[if_pos (.inl v)]
  have a:=mX.refl lo L w;obtain⟨p,G,r,j⟩:=h;obtain⟨c,s⟩:=uU j;have i:=s.wN;have e:JH q jb mw N G0 V k H fl Y lo L w:=⟨p,G,r,j⟩;refine mG ?_;intro t g D;replace a:=a.new g;replace hx1:=hx1.new g;replace e:=e.new g;have l:=hx1;refine nI 0 (λw' f=>mZ (l.kq f))<|mU 1 (pE rfl rfl)<|mU 2 (nK)<|EN 5 rfl (v)<|oK 3 dA rfl<|oK 4 dA rfl<|oK 5 dA rfl<|oK 6 dA rfl<|oK 7 dA rfl<|oK 8 dA rfl<|oK 9 dA rfl<|mU 10 (pO rfl)<|oL dA<|ny<|uC rfl (rfl)<|nM<|vG rfl (nX dA rfl) (DY 2 iT t) ((λc w' ⟨y,o⟩=>vP ⟨iT,y,by rw[<-o];exact e.fail,by rw[<-o];exact a⟩)) ?_
  rintro _ _ z;exact z.elim
 .by_cases B:(H.F.fresh:Int)<=n
  .rw[if_pos (.inr B)]
   have a:=mX.refl lo L w;obtain⟨p,G,r,j⟩:=h;obtain⟨c,s⟩:=uU j;have i:=s.wN;have e:JH q jb mw N G0 V k H fl Y lo L w:=⟨p,G,r,j⟩;refine mG ?_;intro t g D;replace a:=a.new g;replace hx1:=hx1.new g;replace i:=i.new g;replace e:=e.new g;have l:=hx1;have A:=i;refine nI 0 (λw' f=>mZ (l.kq f))<|mU 1 (pE rfl rfl)<|mU 2 (nK)<|Aw 5 rfl (v)<|nI 3 (λw' f=>mZ (l.kq f))<|mU 4 (nK)<|mU 5 (nW rfl)<|mU 6 (nk 0)<|mU 7 (nk 0)<|nI 8 (λw' f=>mZ (A.kq f))<|mU 9 (tN rfl rfl)<|mU 10 (oo rfl)<|oL dA<|ny<|sU rfl (B)<|nM<|vG rfl (nX dA rfl) (DY 2 iT t) ((λc w' ⟨y,o⟩=>vP ⟨iT,y,by rw[<-o];exact e.fail,by rw[<-o];exact a⟩)) ?_
   rintro _ _ z;exact z.elim
  .rw[if_neg eu]
   obtain⟨m,rfl⟩:∃ m:Nat,n=m:=⟨n.toNat,eu⟩;rw[aR];have O:=h.ok.gd m eu eu;have E:=λw'=>MW (H.S m) w' O
   have F:=λL' w' (I:JH q jb mw N G0 V k H fl Y lo L' w')=>UY I m eu eu
   have R:=uO O;have S:=λL' w' T (I:JH q jb mw N G0 V k H fl Y lo L' w')=>QB I m eu eu T
   obtain⟨Q,U⟩:=aa (oG (H.S m));obtain⟨X,P⟩:=aa ((H.S m).kind);simp only[U,P]at E F R |-
   by_cases J:X=3
   .have Z:m∉fl:=λa0=>hI m a0 (P.trans J)
    rw[if_neg (λh=>h J)];have a:=mX.refl lo L w;obtain⟨p,G,r,j⟩:=h;obtain⟨c,s⟩:=uU j;have i:=s.wN;have e:JH q jb mw N G0 V k H fl Y lo L w:=⟨p,G,r,j⟩;refine mG ?_;intro t g D;replace a:=a.new g;replace hx1:=hx1.new g;replace i:=i.new g;replace e:=e.new g;have l:=hx1;have A:=i;refine nI 0 (λw' f=>mZ (l.kq f))<|mU 1 (pE rfl rfl)<|mU 2 (nK)<|Aw 5 rfl (v)<|nI 3 (λw' f=>mZ (l.kq f))<|mU 4 (nK)<|mU 5 (nW rfl)<|mU 6 (nk 0)<|mU 7 (nk 0)<|nI 8 (λw' f=>mZ (A.kq f))<|mU 9 (tN rfl rfl)<|mU 10 (oo rfl)<|oL dA<|ny<|pJ rfl (B)<|nL<|ny<|ng<|mR<|mP<|mO (mZ hx1)<|nD (F _ t e) ?_
    rintro _ K ⟨rfl,e,C⟩;replace a:=a.lq C;replace hx1:=hx1.kl C;refine nD (E K) ?_;rintro _ M ⟨rfl,u⟩;replace a:=a.new u;replace hx1:=hx1.new u;replace e:=e.new u;refine mO (oD rfl rfl)<|mQ<|pJ rfl (eu)<|nL<|ny<|nM<|mP<|mO (mZ hx1)<|nD (S _ M Z e) ?_;rintro _ a3 ⟨a1,a2⟩;replace a:=a.lq a2;refine oH<|Ei [] trivial ?_;exact⟨rfl,a1,a⟩
   .rw[if_pos J]
    have a:=mX.refl lo L w;obtain⟨p,G,r,j⟩:=h;obtain⟨c,s⟩:=uU j;have i:=s.wN;have e:JH q jb mw N G0 V k H fl Y lo L w:=⟨p,G,r,j⟩;refine mG ?_;intro t g D;replace a:=a.new g;replace hx1:=hx1.new g;replace i:=i.new g;replace e:=e.new g;have l:=hx1;have A:=i;refine nI 0 (λw' f=>mZ (l.kq f))<|mU 1 (pE rfl rfl)<|mU 2 (nK)<|Aw 5 rfl (v)<|nI 3 (λw' f=>mZ (l.kq f))<|mU 4 (nK)<|mU 5 (nW rfl)<|mU 6 (nk 0)<|mU 7 (nk 0)<|nI 8 (λw' f=>mZ (A.kq f))<|mU 9 (tN rfl rfl)<|mU 10 (oo rfl)<|oL dA<|ny<|pJ rfl (B)<|nL<|ny<|ng<|mR<|mP<|mO (mZ hx1)<|nD (F _ t e) ?_
    rintro _ K ⟨rfl,e,C⟩;replace a:=a.lq C;refine nD (E K) ?_;rintro _ M ⟨rfl,u⟩;replace a:=a.new u;replace e:=e.new u;refine mO (oD rfl rfl)<|mQ<|sU rfl (eu)<|nM<|vG rfl (nX dA rfl) (DY 6 iT M) ((λc w' ⟨y,o⟩=>vP ⟨iT,y,by rw[<-o];exact e.fail,by rw[<-o];exact a⟩)) ?_;rintro _ _ z;exact z.elim
def yE(N:Nat)(n:Int):Int:=if n<0\/(N:Int)<=n then 2 else 0
def yT(H:HS)(n:Nat):HS:=⟨⟨H.F.fresh,H.F.free,H.F.many,H.F.records,n⟩,H.S⟩
omit hYT in
theorem qO.root(h:qO N H fl){n:Nat}(hn:n<N):qO N (yT H n) fl:=⟨h.f1,h.fN,h.gd,h.ch,h.fk,h.nd,h.fm,h.rc,hn⟩
theorem MJ(g:Nat)(n:Int)(h:JH q jb mw N G0 V k H fl Y lo L w)(hx1:row w g [.int .i64 n] 3)(hgL:g∈L):Calls Tryz.prog 73 [.pointer (some ⟨jb,0,none⟩), .pointer (some ⟨g,0,none⟩)].toArray w
  (sM (λ_ w'=>yE N n=0/\JH q jb mw N G0 V k (yT H n.toNat) fl Y lo L w'/\mX lo L w w') (λc w'=>yE N n≠0/\c=pe (xw (yE N n))/\JF q jb mw N G0 V k Y lo L w'/\mX lo L w w')):=by
 unfold yE
 by_cases v:n<0
 .rw[if_pos (.inl v)]
  have a:=mX.refl lo L w;obtain⟨r,G,s,o⟩:=h;obtain⟨c,f⟩:=uU o;have g:=f.wN;have j:JH q jb mw N G0 V k H fl Y lo L w:=⟨r,G,s,o⟩;refine mH ?_;intro t e y;replace a:=a.new e;replace hx1:=hx1.new e;replace j:=j.new e;have p:=hx1;refine nI 0 (λw' i=>mZ (p.kq i))<|mU 1 (pE rfl rfl)<|mU 2 (nK)<|EN 5 rfl (v)<|oK 3 dA rfl<|oK 4 dA rfl<|oK 5 dA rfl<|oK 6 dA rfl<|oK 7 dA rfl<|oK 8 dA rfl<|oK 9 dA rfl<|mU 10 (pO rfl)<|oL dA<|ny<|uC rfl (rfl)<|nM<|vG rfl (nX dA rfl) (DY 2 iT t) ((λc w' ⟨z,u⟩=>vP ⟨iT,z,by rw[<-u];exact j.fail,by rw[<-u];exact a⟩)) ?_
  rintro _ _ A;exact A.elim
 .by_cases B:(N:Int)<=n
  .rw[if_pos (.inr B)]
   have a:=mX.refl lo L w;obtain⟨r,G,s,o⟩:=h;obtain⟨c,f⟩:=uU o;have g:=f.wN;have j:JH q jb mw N G0 V k H fl Y lo L w:=⟨r,G,s,o⟩;have C:=λL' w' (D:Two (GZ q N G V k) Y lo L' w')=>Jd D
   have hp:=f.p;refine mH ?_;intro t e y;replace hp:=hp.new e;replace a:=a.new e;replace hx1:=hx1.new e;replace g:=g.new e;replace j:=j.new e;have p:=hx1;have E:=g;refine nI 0 (λw' i=>mZ (p.kq i))<|mU 1 (pE rfl rfl)<|mU 2 (nK)<|Aw 5 rfl (v)<|nI 3 (λw' i=>mZ (p.kq i))<|mU 4 (nK)<|mU 5 (nW rfl)<|mU 6 (nk 5)<|nI 7 (λw' i=>mZ (E.kq i))<|nS 8 dA<|qf rfl rfl (nX dA rfl) (C _ t hp) ?_
   rintro _ I ⟨rfl,l⟩;have F:=y.add0 l;refine⟨F,?_⟩;replace a:=a.new l;replace j:=j.new l;refine mU 9 (tN rfl rfl)<|mU 10 (oo rfl)<|oL dA<|ny<|sU rfl (B)<|nM<|vG rfl (nX dA rfl) (DY 2 iT I) ((λc w' ⟨z,u⟩=>vP ⟨iT,z,by rw[<-u];exact j.fail,by rw[<-u];exact a⟩)) ?_;rintro _ _ A;exact A.elim
  .rw[if_neg eu]
   obtain⟨m,rfl⟩:∃ m:Nat,n=m:=⟨n.toNat,eu⟩;rw[aR];have a:=mX.refl lo L w;obtain⟨r,G,s,o⟩:=h;obtain⟨c,f⟩:=uU o;have g:=f.wN;have j:JH q jb mw N G0 V k H fl Y lo L w:=⟨r,G,s,o⟩;have C:=λL' w' (D:Two (GZ q N G V k) Y lo L' w')=>Jd D
   have hp:=f.p;have J:=f.jl;have O:=J.2;have P:=J.1;refine mH ?_;intro t e y;replace hp:=hp.new e;replace f:=f.new e;replace a:=a.new e;replace hx1:=hx1.new e;replace g:=g.new e;have p:=hx1;have E:=g;refine nI 0 (λw' i=>mZ (p.kq i))<|mU 1 (pE rfl rfl)<|mU 2 (nK)<|Aw 5 rfl (v)<|nI 3 (λw' i=>mZ (p.kq i))<|mU 4 (nK)<|mU 5 (nW rfl)<|mU 6 (nk 5)<|nI 7 (λw' i=>mZ (E.kq i))<|nS 8 dA<|qf rfl rfl (nX dA rfl) (C _ t hp) ?_
   rintro _ I ⟨rfl,l⟩;have F:=y.add0 l;refine⟨F,?_⟩;replace f:=f.new l;replace a:=a.new l;replace hx1:=hx1.new l;replace g:=g.new l;refine mU 9 (tN rfl rfl)<|mU 10 (oo rfl)<|oL dA<|ny<|pJ rfl (B)<|nL<|ny<|nM<|mP<|mO (mZ hx1)<|mO (nW rfl)<|mO (nk 0)<|mO (nk 4)<|nH<|oW g<|λQ g K=>?_
   replace a:=a.oq K;have M:=f.AA (F2:=(yT H m).F) g K;refine oH<|Ei [] trivial ?_
   exact⟨rfl,⟨r.root eu,G,s.fr rfl rfl,M.close⟩,a⟩
theorem HY(hb:Nat)(n:Int)(h:Two (GZ q N (nG H) V k) Y lo L w)(hH:qO N H fl)(hr:row w hb [.pointer (some ⟨q,0,none⟩)] 201)(hbL:hb<lo\/hb∈L):
  CQ 49 [.pointer (some ⟨hb,0,none⟩), .int .i64 n] w (λv w'=>v= .int .i64 (yn H n)/\((yn H n=0/\Two (GZ q N (nG (wD H n.toNat)) V k) Y lo L w')\/(yn H n≠0/\Two (GZ q N (nG H) V k) Y lo L w'))/\mX lo L w w'):=by
 have i:=mX.refl lo L w;have u:∀ g W,row W hb [.pointer (some ⟨q,0,none⟩)] 201->row W g [.int .i64 n] 3->Two (GZ q N (nG H) V k) Y lo (g::L) W->Calls Tryz.prog 72 [.pointer (some ⟨hb,0,none⟩), .func (.func 107) #[] [.pointer (some ⟨g,0,none⟩)].toArray].toArray W
   (pX λv w'=>v= .int .i64 (yn H n)/\mX lo (g::L) W w'/\((yn H n=0/\Two (GZ q N (nG (wD H n.toNat)) V k) Y lo L w')\/(yn H n≠0/\Two (GZ q N (nG H) V k) Y lo L w'))):=λg W hr y h=>by
  refine(MR hb h hH hr 107 [.pointer (some ⟨g,0,none⟩)] dA (λH' j Y'=>yn H n=0/\H'=wD H n.toNat/\Y'=Y) (λe Y'=>yn H n≠0/\e=yn H n/\Y'=Y)
   (λH' j Y' ⟨_,_,e⟩=>by subst e;infer_instance) (λe Y' ⟨_,_,e⟩=>by subst e;infer_instance) (λH' j Y' ⟨_,e,_⟩=>by rw[e];exact ax _) λjb mw L' w' z A B=>?_).to λv w' h=>?_
  .have C:=z g ig
   exact(KS g n B (y.nu A.kp (pG (.inr ig))) C λm D=>by rw[(hH.fk m D).2.2];decide).zM (λv w2 ⟨a,l,f⟩=>⟨wD H n.toNat,_,Y,⟨a,rfl,rfl⟩,l,f⟩) λc w2 ⟨a,l,f,s⟩=>⟨_,Y,⟨a,rfl,rfl⟩,l,f,s⟩
  .rcases h with⟨H',j,Y',⟨a,rfl,rfl⟩,s,f,o,p⟩|⟨e,Y',⟨a,rfl,rfl⟩,f,o,p⟩
   .exact⟨by rw[a];exact f,p, .inl ⟨a,o.weak λb hb=>by simp[hb]⟩⟩
   .exact⟨f,p, .inr ⟨a,o.weak λb hb=>by simp[hb]⟩⟩
 refine nP (fn:=Tryz.f49) (rs:=[.tmp 4]) (n:=8) Tryz.func49 rfl rfl Tryz.ntmps49 dA rfl<|mR<|nz<|oV ([.int .i64 n]) rfl<|λE F G t r=>?_
 replace i:=i.new r;replace hr:=hr.new r;replace h:=h.nA r G t.lt;refine nV<|mP<|mO (sV)<|nD (u E F hr t h) ?_
 rintro _ K ⟨rfl,I,J⟩;replace i:=i.ll I (λb hb=>by simp[hb]);refine lQ ?_;exact⟨rfl,J,i⟩
theorem RN(hb:Nat)(n:Int)(h:Two (GZ q N (nG H) V k) Y lo L w)(hH:qO N H fl)(hr:row w hb [.pointer (some ⟨q,0,none⟩)] 201)(hbL:hb<lo\/hb∈L):
  CQ 22 [.pointer (some ⟨hb,0,none⟩), .int .i64 n] w (λv w'=>v= .int .i64 (yE N n)/\((yE N n=0/\Two (GZ q N (nG (yT H n.toNat)) V k) Y lo L w')\/(yE N n≠0/\Two (GZ q N (nG H) V k) Y lo L w'))/\mX lo L w w'):=by
 have i:=mX.refl lo L w;have t:∀ g W,row W hb [.pointer (some ⟨q,0,none⟩)] 201->row W g [.int .i64 n] 3->Two (GZ q N (nG H) V k) Y lo (g::L) W->Calls Tryz.prog 72 [.pointer (some ⟨hb,0,none⟩), .func (.func 73) #[] [.pointer (some ⟨g,0,none⟩)].toArray].toArray W
   (pX λv w'=>v= .int .i64 (yE N n)/\mX lo (g::L) W w'/\((yE N n=0/\Two (GZ q N (nG (yT H n.toNat)) V k) Y lo L w')\/(yE N n≠0/\Two (GZ q N (nG H) V k) Y lo L w'))):=λg W hr u h=>by
  refine(MR hb h hH hr 73 [.pointer (some ⟨g,0,none⟩)] dA (λH' j Y'=>yE N n=0/\H'=yT H n.toNat/\Y'=Y) (λe Y'=>yE N n≠0/\e=yE N n/\Y'=Y)
   (λH' j Y' ⟨_,_,e⟩=>by subst e;infer_instance) (λe Y' ⟨_,_,e⟩=>by subst e;infer_instance) (λH' j Y' ⟨_,e,_⟩=>by rw[e];exact ax _) λjb mw L' w' y z A=>?_).to λv w' h=>?_
  .have B:=y g ig
   exact(MJ g n A (u.nu z.kp (pG (.inr ig))) B).zM (λv w2 ⟨a,l,f⟩=>⟨yT H n.toNat,_,Y,⟨a,rfl,rfl⟩,l,f⟩) λc w2 ⟨a,l,f,r⟩=>⟨_,Y,⟨a,rfl,rfl⟩,l,f,r⟩
  .rcases h with⟨H',j,Y',⟨a,rfl,rfl⟩,r,f,m,o⟩|⟨e,Y',⟨a,rfl,rfl⟩,f,m,o⟩
   .exact⟨by rw[a];exact f,o, .inl ⟨a,m.weak λb hb=>by simp[hb]⟩⟩
   .exact⟨f,o, .inr ⟨a,m.weak λb hb=>by simp[hb]⟩⟩
 refine nP (fn:=Tryz.f22) (rs:=[.tmp 4]) (n:=8) Tryz.func22 rfl rfl Tryz.ntmps22 dA rfl<|mR<|nz<|oV ([.int .i64 n]) rfl<|λC D E s p=>?_
 replace i:=i.new p;replace hr:=hr.new p;replace h:=h.nA p E s.lt;refine nV<|mP<|mO (sV)<|nD (t C D hr s h) ?_
 rintro _ I ⟨rfl,F,G⟩;replace i:=i.ll F (λb hb=>by simp[hb]);refine lQ ?_;exact⟨rfl,G,i⟩
def Pe(H:HS)(p s:Int):Prop:=p<1\/(H.F.fresh:Int)<=p\/zX (H.S p.toNat).slots s=false\/(H.S p.toNat).kind≠1
theorem OY(p s:Int)(h:JH q jb mw N G0 V k H fl Y lo L w)(hno:Pe H p s):
  Calls Tryz.prog 235 [.pointer (some ⟨jb,0,none⟩), .agg #[.int .i64 p, .int .i64 s]].toArray w (sM (λ_ _=>False) λcn w'=>cn=pe (xw 6)/\JF q jb mw N G0 V k Y lo L w'/\mX lo L w w'):=by
 obtain⟨g,G,j,i⟩:=h
 by_cases a:p<1\/(H.F.fresh:Int)<=p
 .exact(OA i p s a).zM (λ_ _ h=>h) λc w' ⟨a,e,f⟩=>⟨a,⟨G,_,e⟩,f⟩
 .obtain⟨m,rfl⟩:∃ m:Nat,p=m:=⟨p.toNat,eu⟩
  unfold Pe at hno;rw[aR]at hno;have k:=(hno.resolve_left eu).resolve_left eu;exact(PY i m s eu eu g.fN (g.isV j eu eu) k).zM (λ_ _ h=>h) λc w' ⟨a,e,f⟩=>⟨a,⟨G,_,e⟩,f⟩
theorem takeN(p s:Int)(h:JH q jb mw N G0 V k H fl Y lo L w)(hno:Pe H p s):
  Calls Tryz.prog 193 [.pointer (some ⟨jb,0,none⟩), .agg #[.int .i64 p, .int .i64 s]].toArray w (sM (λ_ _=>False) λcn w'=>cn=pe (xw 6)/\JF q jb mw N G0 V k Y lo L w'/\mX lo L w w'):=by
 have a:=mX.refl lo L w;have g:=λL' w' (i:JH q jb mw N G0 V k H fl Y lo L' w')=>OY p s i hno
 refine vQ (fn:=Tryz.f193) (rs:=[]) (n:=35) Tryz.func193 rfl rfl Tryz.ntmps193 dA rfl<|mR<|nz<|oV ([.int .i64 p, .int .i64 s]) rfl<|λu j l e f=>?_
 replace h:=h.nA f l e.lt;replace a:=a.new f;refine pV<|mP<|mP<|mO (ou rfl (Ld.qp (k:=2) e dA dA rfl))<|vG rfl (nX dA rfl) (g _ j h) ((λc w' ⟨m,⟨G,F,o⟩,r⟩=>vP ⟨m,⟨G,F,o.weak λb hb=>by simp[hb]⟩,a.lq r⟩)) ?_
 rintro _ _ t;exact t.elim
theorem EL(g:Nat)(p s:Int)(h:JH q jb mw N G0 V k H fl Y lo L w)(hno:Pe H p s)(hx1:row w g [.int .i64 p, .int .i64 s] 30):Calls Tryz.prog 192 [.pointer (some ⟨jb,0,none⟩), .pointer (some ⟨g,0,none⟩)].toArray w
  (sM (λ_ _=>False) λcn w'=>cn=pe (xw 6)/\JF q jb mw N G0 V k Y lo L w'/\mX lo L w w'):=by
 have a:=takeN p s h hno;refine vQ (fn:=Tryz.f192) (rs:=[]) (n:=6) Tryz.func192 rfl rfl Tryz.ntmps192 dA rfl<|nM<|mP<|mO (ou rfl (Ld.qp (k:=2) hx1 dA dA rfl))<|vG rfl (nX dA rfl) (a) ((λc w' h=>vP h)) ?_
 rintro _ _ e;exact e.elim
theorem Ma(hb:Nat)(p s:Int)(h:Two (GZ q N (nG H) V k) Y lo L w)(hH:qO N H fl)(hno:Pe H p s)(hr:row w hb [.pointer (some ⟨q,0,none⟩)] 201)(hbL:hb<lo\/hb∈L):
  CQ 132 [.pointer (some ⟨hb,0,none⟩), .agg #[.int .i64 p, .int .i64 s]] w (λv w'=>v= .int .i64 6/\Two (GZ q N (nG H) V k) Y lo L w'/\mX lo L w w'):=by
 have a:=mX.refl lo L w;have t:∀ g W,row W hb [.pointer (some ⟨q,0,none⟩)] 201->row W g [.int .i64 p, .int .i64 s] 30->Two (GZ q N (nG H) V k) Y lo (g::L) W->Calls Tryz.prog 72 [.pointer (some ⟨hb,0,none⟩), .func (.func 192) #[] [.pointer (some ⟨g,0,none⟩)].toArray].toArray W
   (pX λv w'=>v= .int .i64 6/\mX lo (g::L) W w'/\Two (GZ q N (nG (H)) V k) Y lo L w'):=λg W hr u h=>by
  refine(MR hb h hH hr 192 [.pointer (some ⟨g,0,none⟩)] dA (λH' j Y'=>False/\H'=H/\Y'=Y) (λe Y'=>True/\e=6/\Y'=Y)
   (λH' j Y' ⟨_,_,e⟩=>by subst e;infer_instance) (λe Y' ⟨_,_,e⟩=>by subst e;infer_instance) (λH' j Y' ⟨_,e,_⟩=>by rw[e];exact ax _) λjb mw L' w' y z A=>?_).to λv w' h=>?_
  .have J:=y g ig
   have B:=(u.nu z.kp (pG (.inr ig)));exact(EL g p s A hno B).zM (λv w2 h=>h.elim) λc w2 ⟨f,C,i⟩=>⟨_,Y,⟨trivial,rfl,rfl⟩,f,C,i⟩
  .rcases h with⟨H',j,Y',⟨f,rfl,rfl⟩,K,i,l,m⟩|⟨e,Y',⟨f,rfl,rfl⟩,i,l,m⟩
   .first |exact f.elim|exact⟨i,m,l.weak λb hb=>by simp[hb]⟩
   .first |exact f.elim|exact⟨i,m,l.weak λb hb=>by simp[hb]⟩
 refine nP (fn:=Tryz.f132) (rs:=[.tmp 4]) (n:=8) Tryz.func132 rfl rfl Tryz.ntmps132 dA rfl<|mR<|nz<|oV ([.int .i64 p, .int .i64 s]) rfl<|λD E F r o=>?_
 replace a:=a.new o;replace hr:=hr.new o;replace h:=h.nA o F r.lt;refine nV<|mP<|mO (sV)<|nD (t D E hr r h) ?_
 rintro _ M ⟨rfl,G,I⟩;replace a:=a.ll G (λb hb=>by simp[hb]);refine lQ ?_;exact⟨rfl,I,a⟩
end
def VM(Y:World->List Nat->Prop)(e sz:Nat)(v:Value)(m:Nat)(xs:List Value):World->List Nat->Prop:=λw C=>∃ C1,C=v.ownBlock.toList++C1/\Y w C1/\nY w 0 e sz v m xs/\∀ b∈v.ownBlock.toList,b∉C1
instance(Y:World->List Nat->Prop)[hY:mW Y](e sz:Nat)(v:Value)(m:Nat)(xs:List Value):mW (VM Y e sz v m xs):=
 ⟨fun {w w' B M} ⟨C1,a,c,f,h⟩ k i=>by
  subst a;exact⟨C1,rfl,hY.nu c k λb hb=>i b jP,f.nu k λg j e=>i g kw j,h⟩,fun {w B} ⟨C1,a,c,f,h⟩ b hb=>by
  subst a;rcases ay.1 hb with hb|hb
  .exact(f.lt b (ah.1 hb)).2
  .exact hY.lt c b hb⟩
section
variable {X Y:World->List Nat->Prop}[hX:mW X][hYT:mW Y]{lo g base e sz m:Nat}{L:List Nat}{w w':World}{v:Value}{xs:List Value}
end
section
variable {Y:World->List Nat->Prop}[hYT:mW Y]{q jb mw N lo:Nat}{L:List Nat}{G G0 V:Nat->Pg}{k:Nat}{H:HS}{fl rl pd:List Nat}{R:Nat->Nat->Prop}{P:Nat->Nat->List Nat}{B:Nat->Nat->List UInt8}{w:World}
end
section
variable {Y:World->List Nat->Prop}[hYT:mW Y]{q jb mw N lo:Nat}{L:List Nat}{G G0 V:Nat->Pg}{k:Nat}{H:HS}{fl rl pd:List Nat}{R:Nat->Nat->Prop}{P:Nat->Nat->List Nat}{B:Nat->Nat->List UInt8}{m s:Nat}{w:World}
end
section
variable {Y:World->List Nat->Prop}[hYT:mW Y]{q jb mw N lo:Nat}{L:List Nat}{G G0 V:Nat->Pg}{k:Nat}{H:HS}{fl rl:List Nat}{R:Nat->Nat->Prop}{P:Nat->Nat->List Nat}{B:Nat->Nat->List UInt8}{m s:Nat}{w:World}
end
section
variable {Y:World->List Nat->Prop}[hYT:mW Y]{q jb mw N lo:Nat}{L:List Nat}{G G0 V:Nat->Pg}{k:Nat}{H:HS}{fl rl:List Nat}{R:Nat->Nat->Prop}{P:Nat->Nat->List Nat}{B:Nat->Nat->List UInt8}{m s:Nat}{w:World}
end
class Kept (bl:List Nat) (F:World->Prop):Prop where
 nu:∀ {w w':World} {M:List Nat},F w->Kp M w w'->(∀ b∈bl,b∉M)->F w'
def Gg(Y:World->List Nat->Prop)(bl:List Nat)(F:World->Prop):World->List Nat->Prop:=λw C=>∃ C1,C=bl++C1/\Y w C1/\F w/\(∀ b∈bl,b<w.heap.size)/\∀ b∈bl,b∉C1
instance(Y:World->List Nat->Prop)[hY:mW Y](bl:List Nat)(F:World->Prop)[hF:Kept bl F]:mW (Gg Y bl F):=
 ⟨fun {w w' B M} ⟨C1,a,c,g,e,h⟩ k f=>by
  subst a;exact⟨C1,rfl,hY.nu c k λb hb=>f b jP,hF.nu g k λb hb=>f b jP,λb hb=>ae (e b hb) k.size,h⟩,fun {w B} ⟨C1,a,c,_,e,_⟩ b hb=>by
  subst a;rcases ay.1 hb with hb|hb
  .exact e b hb
  .exact hY.lt c b hb⟩
section
variable {X Y:World->List Nat->Prop}{lo:Nat}{L bl:List Nat}{w:World}{F:World->Prop}
theorem Hu(h:Two X Y lo (bl++L) w)(hF:F w)(hl:∀ b∈bl,lo<=b/\b∉L):Two X (Gg Y bl F) lo L w:=by
 obtain⟨⟨B,C,g,i,c,e⟩,j,f⟩:=h;refine⟨⟨B,bl++C,g,⟨C,rfl,i,hF,λb hb=>f b jP,λb hb a=>(e b a).2 jP⟩,λb hb=>⟨(c b hb).1,λa=>?_,λa=>(c b hb).2.2 kr⟩,λb hb=>?_⟩,j,λb hb=>f b jP⟩
 .rcases ay.1 a with a|a
  .exact(c b hb).2.2 kr
  .exact(c b hb).2.1 a
 .rcases ay.1 hb with hb|hb
  .exact hl b hb
  .exact⟨(e b hb).1,λa=>(e b hb).2 kr⟩
theorem zur(h:Two X (Gg Y bl F) lo L w):Two X Y lo (bl++L) w/\F w/\∀ b∈bl,lo<=b/\b∉L:=by
 obtain⟨⟨B,C,f,⟨C1,rfl,g,i,j,k⟩,c,e⟩,l,m⟩:=h;refine⟨⟨⟨B,C1,f,g,λb hb=>⟨(c b hb).1,λa=>(c b hb).2.1 kr,λa=>?_⟩,λb hb=>⟨(e b jP).1,λa=>?_⟩⟩,l,λb hb=>?_⟩,i,λb hb=>e b jP⟩
 .rcases ay.1 a with a|a
  .exact(c b hb).2.1 kr
  .exact(c b hb).2.2 a
 .rcases ay.1 a with a|a
  .exact k b a hb
  .exact(e b jP).2 a
 .rcases ay.1 hb with hb|hb
  .exact j b hb
  .exact m b hb
end
structure Oe(w:World)(l:Nat):Prop where
 r:∃ r,w.heap[l]?=some (.loop r)
namespace Oe
variable {w w':World}{l:Nat}
end Oe
structure Oc(w:World)(bl:List Nat)(n:Nat)(xs:List Value):Prop where
 len:xs.length=n*3
 at_:∀ i,i<n->∃ (a b:Int) (p:Option Addr) (l:List UInt8) (c:Nat),(xs.drop (i*3)).take 3=[.int .i64 a, .int .i64 b, .slice p l.length c]/\nC w p l.length 1 (bv l)/\(∀ g o,p=some ⟨g,o,none⟩->g∈bl)/\l.length<=c/\l.length<=20000
namespace Oc
variable {w w':World}{bl bl':List Nat}{n:Nat}{xs:List Value}
end Oc
abbrev Wl:=Value × List Nat × Nat × List Value
namespace AllS
variable {ge base:Nat}{av:Nat->Prop}{a:Wl}{w w':World}
end AllS
section
variable {Y:World->List Nat->Prop}[hYT:mW Y]{q jb mw N lo:Nat}{L:List Nat}{G0 V:Nat->Pg}{k:Nat}{H:HS}{fl rl:List Nat}{R:Nat->Nat->Prop}{P:Nat->Nat->List Nat}{B:Nat->Nat->List UInt8}{w:World}
end
section
variable {Y:World->List Nat->Prop}[hYT:mW Y]{q N lo:Nat}{L:List Nat}{V:Nat->Pg}{k:Nat}{H:HS}{fl rl:List Nat}{R:Nat->Nat->Prop}{P:Nat->Nat->List Nat}{B:Nat->Nat->List UInt8}{w:World}
end
theorem nC.Jk{w w':World}{p:Option Addr}{m sz:Nat}{cs:List Value}(h:nC w p m sz cs)(e:∀ g o,p=some ⟨g,o,none⟩->w'.heap[g]?=w.heap[g]?):nC w' p m sz cs:=by
 refine⟨h.len,h.max,λi=>?_⟩;obtain⟨b,c,hp,k,l⟩:=h.at_ i;have f:=e b c hp;refine⟨b,c,hp,?_,λj m=>?_⟩
 .have g:w.heap[b]?≠none:=by rw[Array.getElem?_eq_getElem k];simp
  rw[<-f]at g;rcases dK b w'.heap.size with a|a
  .exact a
  .exact absurd (fT a) g
 .rw[<-l j m]
  simp only[World.cell?,f]
theorem nC.same{w w':World}{g o m sz:Nat}{cs:List Value}(h:nC w (some ⟨g,o,none⟩) m sz cs)(e:w'.heap[g]?=w.heap[g]?):nC w' (some ⟨g,o,none⟩) m sz cs:=nC.Jk h λc f a=>by cases a;exact e
def QA(H:HS)(n:Nat):Int:=if n=0 then 4 else if n<H.F.fresh then((H.S n).kind:Int)else 0
end Go.Proofs.YtpaniebomegnbaaGreat
