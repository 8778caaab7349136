import Derived.Test.YtpaniebomegnbaaGreatM8
set_option maxHeartbeats 8000000
set_option maxRecDepth 20000
namespace Go.Proofs.YtpaniebomegnbaaGreat
open Go Go.RowKit Coup
structure YQ where
 k:Nat
 c:Key × V3
 p:Option Addr
 cc:Nat
 out:List MN
 v:Value
 vs:List Value
 bl:List Nat
 Lc:List Nat
 j:Nat
 root:Nat
structure PtI(ps:List (MN × Nat))(c0:Key × V3)(gs L:List Nat)(n0 B0 g4:Nat)(wp:Option Addr)(wvs:List Value)(s:YQ)(w:World):Prop where
 go:0<s.k->s.root=n0/\s.j+s.k=ps.length/\qV (ps.map Prod.fst).reverse c0 gs=(s.out++(qV ((ps.map Prod.fst).take s.k).reverse s.c (gs.drop s.j)).1,(qV ((ps.map Prod.fst).take s.k).reverse s.c (gs.drop s.j)).2.1,(qV ((ps.map Prod.fst).take s.k).reverse s.c (gs.drop s.j)).2.2)/\
  yo (ps.map Prod.fst).reverse c0 gs=s.j+yo ((ps.map Prod.fst).take s.k).reverse s.c (gs.drop s.j)
 fin:s.k=0->s.out=(vB (ps.map Prod.fst) c0 gs).1/\s.root=(vB (ps.map Prod.fst) c0 gs).2.1.getD n0/\s.j=wo (ps.map Prod.fst) c0 gs
 cel:sV w s.bl (pV s.p s.cc s.c) s.c
 clen:s.c.1.length<=100
 row:row w g4 (pV s.p s.cc s.c) 90
 own:og w B0 87 3 s.v s.out.length s.vs
 olen:s.out.length<=600
 ojn:0<s.k->s.out.length<=2*s.j
 outs:yj w s.bl s.vs s.out
 way:xk w s.bl wvs ps
 wsl:nM w wp ps.length 4 wvs
 bl:∀ b∈s.bl,b∈s.Lc/\b≠g4/\b∉s.v.ownBlock.toList
 wbl:∀ g o,wp=some ⟨g,o,none⟩->g∈s.bl
 vL:∀ b∈s.v.ownBlock.toList,b∈s.Lc
 gL:g4∈s.Lc
 LL:∀ b∈L,b∈s.Lc
theorem zpY{α:Type}{l:List α}{k:Nat}{x:α}(h:l[k]?=some x):(l.take (k+1)).reverse=x::(l.take k).reverse:=by
 rw[bf,h,List.reverse_append];rfl
theorem zvk{α:Type}{ks:List (Key × α)}(hr:tN ks)(x:Key × α):ks.length<=(qo ks x).length/\(qo ks x).length<=ks.length+1:=by
 obtain⟨A,B,_,_,c,_,a⟩:=ND hr x;rw[c];rcases a with⟨_,a⟩|⟨_,e,_,a⟩
 .conv=>lhs;rw[a]
  conv=>rhs;rw[a]
  simp only[aA,aD];omega
 .conv=>lhs;rw[a]
  conv=>rhs;rw[a]
  simp only[aA,aD];omega
theorem YN{α:Type}{ks:List (Key × α)}{x y:Key × α}(hr:tN ks)(h:y∈qo ks x):y∈ks\/y=x:=by
 obtain⟨A,B,_,_,e,_,c⟩:=ND hr x;rw[e]at h;have a:y=x\/y∈A\/y∈B:=by
  rcases ay.1 h with h|h
  .exact .inr<|.inl h
  .rcases ak.1 h with h|h
   .exact .inl h
   .exact .inr<|.inr h
 rcases a with a|a
 .exact .inr a
 .left
  rcases c with⟨_,c⟩|⟨_,f,_,c⟩
  .rw[c];simpa using a
  .rw[c];simp only[ay,ak];rcases a with a|a<;>simp[a]
theorem Td{path:List MN}{c:Key × V3}{gs r:List Nat}{o:List MN}(h:qV path.reverse c gs=(o,none,r)):vB path c gs=(o,none,r)/\zL path c gs=false:=by
 unfold vB zL;rw[h];exact⟨rfl,rfl⟩
theorem Sj{path:List MN}{c c':Key × V3}{gs r:List Nat}{o:List MN}{x:MN}(h:qV path.reverse c gs=(o,some c',r))(hx:path[0]?=some x):vB path c gs=(o++[⟨r.headD 0,x.lv+1,[([],(0,0,x.n)),c']⟩],some (r.headD 0),r.tail)/\zL path c gs=true:=by
 unfold vB zL;rw[h];cases path with
 |nil=>cases hx
 |cons y l=>cases hx;exact⟨rfl,rfl⟩
theorem qC.ren{w:World}{bl:List Nat}{m n lv:Nat}{cs:List (Key × V3)}{p:Option Addr}{cp:Nat}(h:qC w bl (oQ ⟨m,lv,cs⟩ p cp) ⟨m,lv,cs⟩):qC w bl (oQ ⟨n,lv,cs⟩ p cp) ⟨n,lv,cs⟩:=by
 obtain⟨i,j,vs,a,c,e,f,g⟩:=h;simp only[oQ,je,Value.slice.injEq]at a;obtain⟨_,_,⟨rfl,_,rfl⟩,_⟩:=a;exact⟨p,cp,vs,rfl,c,e,f,g⟩
theorem Vj{l:List Nat}{j:Nat}:(l.drop j).headD 0=l.getD j 0:=by
 rw[bI,List.headD_eq_head?_getD,List.head?_drop]
theorem sV.key{w:World}{bl:List Nat}{p:Option Addr}{cp:Nat}{c:Key × V3}(h:sV w bl (pV p cp c) c):nM w p c.1.length 1 (bv c.1):=by
 obtain⟨e,f,a,c,_⟩:=h;simp only[pV,je,Value.slice.injEq]at a;obtain⟨⟨rfl,_,rfl⟩,_⟩:=a;exact c
theorem Cw{α:Type}{ks:List (Key × α)}{k:Key}(h:isK ks k=true):pY ks k<ks.length:=by
 unfold isK at h
 split at h
 .rename_i x a;exact(aL.1 a).1
 .cases h
theorem Zy{w w':World}{v:Value}(h:Kp v.ownBlock.toList w w'):w.grownBy w' v.ownBlock:=⟨h.os,h.tape,h.output,h.size,λk a c=>h.block k a λe=>c (ah.1 e).symm⟩
theorem Xt {p : Option Addr} {n c base gv i tv : Nat} {vs cs : List Value} (w : World) (h : og w base 90 4 (.slice p n c) n vs) (h1 : ∀ u ∈ vs, u.oneCell' = true) (hv : row w gv cs tv) (hc4 : cs.length = 4) (hc1 : ∀ u ∈ cs, u.oneCell' = true) (hgv : ∀ o, p ≠ some ⟨gv, o, none⟩) (hb : base <= w.heap.size) (hi : i <= n) (hn : n <= 1000) :
  CQ 114 [.slice p n c, .int .i64 (i : Int), .slice (some ⟨gv, 0, none⟩) 1 1] w (λv w' => ∃ p2 c2, v = .slice p2 (n + 1) c2 /\ og w' base 90 4 (.slice p2 (n + 1) c2) (n + 1) (vs.take (i * 4) ++ cs ++ vs.drop (i * 4)) /\ w.grownBy w' (Value.slice p n c).ownBlock) :=
 (ztj w h h1 hv hc4 hc1 hgv hb hi hn).to λv w' ⟨h1, h2⟩ => by
  obtain ⟨p2, c2, rfl⟩ := h1.form
  exact ⟨p2, c2, rfl, h1, Zy h2⟩
theorem OZ {p : Option Addr} {n c : Nat} {vs : List Value} (w : World) (h : nM w p n 4 vs) (h1 : ∀ u ∈ vs, u.oneCell' = true) (hn : n <= 1000) :
  CQ 47 [.slice p n c] w (λv w' => ∃ p2 c2, v = .slice p2 n c2 /\ og w' w.heap.size 90 4 (.slice p2 n c2) n vs /\ Below w.heap.size w w') :=
 (zti w h h1 hn).to λv w' ⟨h1, h2⟩ => by
  obtain ⟨p2, c2, rfl⟩ := h1.form
  exact ⟨p2, c2, rfl, h1, h2⟩
theorem qC.Oa{w:World}{bl:List Nat}{base n lv c:Nat}{p:Option Addr}{vs:List Value}{cs:List (Key × V3)}(h:og w base 90 4 (.slice p cs.length c) cs.length vs)(hc:rD w bl vs cs):qC w ((Value.slice p cs.length c).ownBlock.toList++bl) (oQ ⟨n,lv,cs⟩ p c) ⟨n,lv,cs⟩:=
 ⟨p,c,vs,rfl,h.sl,hc.mono λb hb=>aB _ hb,λg o e=>aF _ (by subst e;exact aK ..),OH h⟩
theorem RY {p : Option Addr} {n c : Nat} {vs : List Value} (w : World) (h : nM w p n 1 vs) (h1 : ∀ u ∈ vs, u.oneCell' = true) (hn : n <= 1000) :
  CQ 41 [.slice p n c] w (λv w' => ∃ p2 c2, v = .slice p2 n c2 /\ og w' w.heap.size 5 1 (.slice p2 n c2) n vs /\ Below w.heap.size w w') :=
 (zve w h h1 hn).to λv w' ⟨h1, h2⟩ => by
  obtain ⟨p2, c2, rfl⟩ := h1.form
  exact ⟨p2, c2, rfl, h1, h2⟩
theorem zp1(l:List (Key × V3)):wM l=[]\/∃ c∈l,wM l=c.1:=by
 cases l with
 |nil=>exact .inl rfl
 |cons c r=>exact .inr ⟨c,aK ..,rfl⟩
theorem sV.Oa{w:World}{bl:List Nat}{base c n:Nat}{p:Option Addr}{K:Key}(h:og w base 5 1 (.slice p K.length c) K.length (bv K)):sV w ((Value.slice p K.length c).ownBlock.toList++bl) (pV p c (K,(0,0,n))) (K,(0,0,n)):=
 ⟨p,c,rfl,h.sl,λg o e=>aF _ (by subst e;exact aK ..),OH h⟩
theorem Rf{a b x:Nat}(h1:a<=x)(h2:x<b):x∈List.range' a (b - a):=dw.2 ⟨h1,dB⟩
structure KF(F:World->Prop)(BL:List Nat)(e:Nat)(w:World):Prop where
 f:F w
 k:∀ w1 w2 M,F w1->Kp M w1 w2->(∀ b∈BL,b∉M)->F w2
 lt:∀ b∈BL,b<e
namespace KF
variable {F:World->Prop}{BL:List Nat}{e:Nat}{w w':World}
theorem nD{M:List Nat}(h:KF F BL e w)(k:Kp M w w')(hM:∀ b∈BL,b∉M):KF F BL e w':=⟨h.k w w' M h.f k hM,h.k,h.lt⟩
theorem new(h:KF F BL e w)(hb:VD w w'):KF F BL e w':=h.nD (M:=[]) (Kp.of_below hb) ig
theorem only{g:Nat}(h:KF F BL e w)(ho:Only g w w')(hg:e<=g):KF F BL e w':=h.nD (Kp.rJ ho) λb hb a=>by
 have c:=h.lt b hb;have e:b=g:=by simpa using a
 omega
theorem ll{lo:Nat}{L:List Nat}(h:KF F BL e w)(k:nC lo L w w')(hb:∀ b∈BL,b<lo\/b∈L):KF F BL e w':=h.nD k.kp λb a=>pG (hb b a)
end KF
section
variable {X Y:Nat->VE}[hX:∀ j,nz (X j)][hY:∀ j,nz (Y j)]{lo:Nat}{L:List Nat}{w:World}
theorem IX (h:Two (X 0) (Y 0) lo L w) {ps:List (MN × Nat)} {c0:Key × V3} {gs:List Nat} (hnok:∀ x∈ps.map Prod.fst,xE x) (hps:0<ps.length) (hps2:ps.length<=256) (hc0:c0.1.length<=100) {n0:Nat} (hn0:∀ z,ps[0]?=some z->z.1.n=n0)
   {wp:Option Addr} {wc:Nat} {wvs:List Value} {bl0:List Nat} {p0:Option Addr} {cc0:Nat} (hws:nM w wp ps.length 4 wvs) (hwy:xk w bl0 wvs ps) (hcel:sV w bl0 (pV p0 cc0 c0) c0) (hbl0:∀ b∈bl0,b∈L) (hwp:∀ g o,wp=some ⟨g,o,none⟩->g∈bl0)
   (fk:Nat) (caps:List Value) (hcan:vC Tryz.prog fk=true)
   (hgive:∀ j,j<wo (ps.map Prod.fst) c0 gs->∀ L' w',(∀ b∈L,b∈L')->nC lo L w w'->Two (X j) (Y j) lo L' w'->Calls Tryz.prog fk caps.toArray w' (qb λv w2=>v=VB (gs.getD j 0:Int)/\Two (X (j+1)) (Y (j+1)) lo L' w2/\nC lo L' w' w2)):
   CQ 57 [.slice wp ps.length wc, .agg (pV p0 cc0 c0).toArray, .func (.func fk) #[] caps.toArray] w (λv w'=>∃ v1 vs bl Lc,v= .tuple #[v1,VB ((vB (ps.map Prod.fst) c0 gs).2.1.getD n0:Int)]/\og w' w.heap.size 87 3 v1 (vB (ps.map Prod.fst) c0 gs).1.length vs/\yj w' bl vs (vB (ps.map Prod.fst) c0 gs).1/\
     (∀ b∈bl,b∈Lc/\b∉v1.ownBlock.toList)/\(∀ b∈v1.ownBlock.toList,b∈Lc)/\(∀ b∈L,b∈Lc)/\Two (X (wo (ps.map Prod.fst) c0 gs)) (Y (wo (ps.map Prod.fst) c0 gs)) lo Lc w'/\nC lo L w w'):=by
 have f6:=nC.refl lo L w;have f7:=Below.refl w.heap.size w;have e4:=h;have Y0:maxLen=9223372036854775807:=by decide
 have Y1:=h.lo;have K0:=h.lt;obtain⟨m5,B2⟩:∃ m5,ps[0]?=some m5:=⟨_,aG hps⟩;obtain⟨i4,g5,rfl,Y2⟩:=hws.some dB;obtain⟨Y3,K1,K2⟩:=hwy.at_ 0 m5 B2;obtain⟨Y4,Y5,_,rfl,_⟩:=K2;have K3:wvs[0]?=some (VB (n0:Int)):=by
   have d3:((wvs.drop (0*4)).take 4)[0]?=some (VB (m5.1.n:Int)):=by rw[K1];rfl
   rw[bD,if_pos dB,bC,hn0 m5 B2]at d3;exact d3
 have Y6:=zt p0 cc0 c0;refine nZ (rs:=[.tmp 6, .tmp 7]) (n:=111) Tryz.func57 rfl rfl Tryz.ntmps57 dA rfl<|ny<|nK<|qi (pV p0 cc0 c0) rfl<|λI B3 B4 f f8=>?_
 have Y7:=ag f7.size B4;have Y8:=f6.size;replace e4:=e4.nL f8 B4 f.lt;replace f6:=f6.new f8;replace f7:=f7.acc f8;refine nA<|oG<|ng<|mZ (qZ (e:=97) (sz:=4) dA rfl rfl (0) dB dB)<|mZ (nG 0)<|mZ (nG 0)<|mZ (oK rfl (Ld.sl1 (off:=g5) (j:=0) (hws.new f7) dA K3))<|nA<|nk<|nI<|ny<|ng<|mZ (oV (e:=97) (sz:=4) dA rfl rfl)<|mZ (vZ rfl rfl (Coup.nV dB))<|nA<|nk<|pE ?_
 obtain⟨B0,K4⟩:=aa ((B3).heap.size);have ns:=xV B3 B0 87 3;have m6:w.heap.size<=B0:=by have:=f7.size;omega
 have Y9:=f.lt;refine qY (α:=YQ) ⟨ps.length,c0,p0,cc0,[],VC,[],bl0,I::L,0,n0⟩ (λs=>[(8,VB ((s.k:Int) - 1)),(7,VB (s.root:Nat)),(6,s.v),(4,VA I),(0, .slice (some ⟨i4,g5,none⟩) ps.length wc),(2, .func (.func fk) #[] caps.toArray)])
   (λs w'=>PtI ps c0 gs L n0 B0 I (some ⟨i4,g5,none⟩) wvs s w'/\Two (X s.j) (Y s.j) lo s.Lc w'/\nC lo L w w'/\B0<=w'.heap.size) (λs=>s.k)
   VF ⟨⟨λ_=>⟨rfl,by dsimp only;omega,?_,?_⟩,λe=>by dsimp only at e;omega,hcel.new f7,hc0,f,ns,aC _,λ_=>aC _,yj.nil _ _,hwy.new f7,hws.new f7,λb hb=>⟨aj _ (hbl0 b hb),λe=>by have d3:=K0 b (hbl0 b hb);omega,(λC=>nomatch C)⟩,hwp,(λb C=>nomatch C),aK ..,λb hb=>aj _ hb⟩,e4,f6,fJ K4.symm⟩ ?_
 · dsimp only
   rw[bV,aU,aQ lK]
 · dsimp only
   rw[bV,aZ,aQ lK]
 have K5:w.heap.size<=I:=by omega
 have K6:I<B0:=by omega
 clear ns e4 f6 f f7;rintro⟨k,c,p,e5,out,v,vs,bl,Lc,j,root⟩ Z0 b2 ⟨K7,e4,f6,Z1⟩;obtain⟨B5,B6,hcel,B7,f,m7,K8,q4,q5,hwy,hws,e6,j9,k0,B8,q6⟩:=K7;dsimp only at B5 B6 hcel B7 f m7 K8 q4 q5 hwy hws e6 j9 k0 B8 q6 e4;have q7:=zt p e5 c;have u9:=e4.lt;refine nI<|ny<|ng<|mZ (tV rfl rfl)<|nk<|oZ rfl (λv0=>?_)<|λv0=>?_
 ·
  refine lN ?_;dsimp only at v0;have K9:=f;have a4:∃ Q,k=Q+1:=⟨k - 1,dB⟩;obtain⟨Q,rfl⟩:=a4;have a4:=B5 (gN Q);obtain⟨B9,Z2,e7,d9⟩:=a4;have a4:∃ z,ps[Q]?=some z:=⟨_,aG dB⟩;obtain⟨⟨x,Z3⟩,C0⟩:=a4;have v1:(ps.map Prod.fst)[Q]?=some x:=by rw[aV,C0];rfl
  rw[zpY v1]at e7 d9;have q8:=hnok x (aO v1);have a4:=hwy.at_ Q _ C0;obtain⟨xs,C1,q9⟩:=a4;dsimp only at C1 q9;obtain⟨i5,i6,v2,rfl,m8,i7,L0,L1⟩:=q9;have q9:qC b2 bl (oQ x i5 i6) x:=⟨i5,i6,v2,rfl,m8,i7,L0,L1⟩;have Z4:=vQ x i5 i6;have Z5:=wV x i5 i6;have L3:∀ w',VD b2 w'->Ld Tryz.prog w' 87 ⟨i4,g5+Q*4,none⟩ (.agg (oQ x i5 i6).toArray):=λw' hb=>by
    have d3:(wvs.drop (Q*4)).take 3=oQ x i5 i6:=by
      have g6:=congrArg (List.take 3) C1;rw[dQ]at g6;exact g6.trans<|bN rfl
    have y:=Ld.zu (P:=Tryz.prog) (t:=87) (j:=Q*4) (k:=3) (hws.new hb) dA dA (by rw[hws.len];omega);rw[d3]at y;exact y
  have Z6:=q8.few;have v4:=q8.keys.1;have f9:=Xp x.cs c.1;have L4:=hcel.key;have r:=Below.refl b2.heap.size b2;have i8:=VX i7;have Z7:=i7.len;have Z8:(pV p e5 c).length=4:=rfl;have a4:∃ l:MN,(⟨x.n,x.lv,qo x.cs c⟩:MN)=l:=⟨_,rfl⟩;obtain⟨l,m9⟩:=a4;refine nO<|ng<|ng<|mZ (qZ (e:=97) (sz:=4) dA rfl rfl (Q) (by(show((Q+1:Nat):Int) - 1=(Q:Int);omega)) dB)<|mZ (nG 0)<|mZ (oK rfl (L3 _ r))<|nK<|oD ([VB 0,VB 0,VC]) dA<|λa0 Z9 C2 i C3=>?_
  have n1:=ag r.size C2;have k7:I<a0:=ae f.lt C2;replace f:=f.new C3;replace r:=r.acc C3;refine nT<|oC 3 (oQ x i5 i6) i<|λL5 i C4=>?_
  replace f:=f.only C4 (ai k7);replace r:=C4.below r n1;refine qx<|mZ (pz 3 i)<|mZ (nG 0)<|mZ (nH f)<|qA rfl (oz dA rfl) (Tt L5 (q9.new r) dB v4 (L4.new r)) ?_
  rintro _ L6 ⟨rfl,v5⟩;replace f:=f.new v5;replace i:=i.new v5;replace r:=r.acc v5;refine ng<|mZ (nW rfl rfl)<|mZ (nW rfl rfl)<|nA<|nA<|nk<|wO (λa:Option Addr × Nat × List Nat=>[(9,VA a0),(8,VB (Q:Nat)),(7,VB (root:Nat)),(6,v),(4,VA I),(0, .slice (some ⟨i4,g5,none⟩) ps.length wc),(2, .func (.func fk) #[] caps.toArray)]) (λa w'=>row w' a0 (oQ l a.1 a.2.1) 87/\qC w' (a.2.2++bl) (oQ l a.1 a.2.1) l/\(∀ b∈a.2.2,b2.heap.size<=b/\b<w'.heap.size)/\VD b2 w') ?_ ?_
  ·
   refine ny<|ng<|nk<|xy rfl (λk8=>?_)<|λk8=>?_
   ·
    refine nI ?_;have L7:=Cw k8;have i9:qo x.cs c=x.cs.set (pY x.cs c.1) c:=by unfold qo;rw[k8,if_pos rfl]
    refine nO<|mZ (nG 2)<|mZ (nH i) ?_
    have C5:=i.lt;have ab:=f.lt;have v6:=r.size;refine qA rfl (oz dA rfl) (OZ L6 (m8.new r) i8 dB) ?_;rintro _ L8 ⟨ac,v7,rfl,e8,v8⟩;replace f:=f.new v8;replace i:=i.new v8;replace r:=r.acc v8;have a4:=e8.form' dB;obtain⟨n2,v9,ad,L9,af,_⟩:=a4;cases L9;replace e8:qU L8 _ 90 4 n2 v9 x.cs.length v7 v2:=e8;have al:=e8.NU;refine mZ (nG 2)<|nT<|pQ i<|λam i w0=>?_
    replace f:=f.only w0 (ai k7);replace e8:=e8.only w0 dB;replace r:=w0.below r n1;refine nk<|nO<|mZ (nG 2)<|mZ (nH i)<|ng<|mZ (pz 4 f)<|mZ (qZ (e:=90) (sz:=4) dA rfl rfl (pY x.cs c.1) dB dB)<|nT<|Jj (pV p e5 c) ((pY x.cs c.1*4)) e8 rfl rfl dA kS q7<|λM0 e8 w3=>?_
    replace f:=f.only w3 dB;replace i:=i.only w3 dB;replace r:=w3.below r dB;refine oI ?_;have j0:=(i7.new r).set (hcel.new r) L7;have C6:(x.cs.set (pY x.cs c.1) c).length=x.cs.length:=bA;have M1:og M0 b2.heap.size 90 4 (.slice (some ⟨n2,v9,none⟩) (x.cs.set (pY x.cs c.1) c).length v7) (x.cs.set (pY x.cs c.1) c).length (splice v2 (pY x.cs c.1*4) (pV p e5 c)):=by rw[C6];exact og.mono e8 dB
    have d4:=qC.Oa (n:=x.n) (lv:=x.lv) M1 j0;subst m9;rw[i9];refine oM ⟨(some ⟨n2,v9,none⟩,v7,[n2]),⟨rfl,congrArg (Value.int .i64) (show((Q+1:Nat):Int) - 1=(Q:Int) by omega),rfl,rfl,rfl,rfl,rfl,rfl⟩,by unfold oQ;rw[C6];exact i,d4,λb hb=>?_,r⟩;have V:=e8.lt;have r0:b=n2:=by simpa using hb
    exact⟨dB,dB⟩
   ·
    refine qH [a0] dA ?_;intro M2 w4 k9;replace f:=f.new w4;replace i:=i.new w4;replace r:=r.acc w4;have M3:=f;have an:=i;have ao:=r;refine nu 0 (nG 2)<|nu 3 (nS)<|nR 4 (λw' c8=>pz 4 (M3.kq c8))<|zw 1 5 dA ?_ ?_
    ·
     refine Bi rfl rfl (nH i) k9<|zw 2 5 dA ?_ ?_
     ·
      have C7:=i.lt;have C8:=f.lt;have C9:=i.lt;have v6:=r.size;refine qw rfl rfl (oz dA rfl) (OZ M2 (m8.new r) i8 dB) ?_;rintro _ r1 ⟨n3,D0,rfl,a5,a9⟩;have w5:=k9.add0 a9;refine⟨w5,?_⟩;replace f:=f.new a9;replace i:=i.new a9;replace r:=r.acc a9;have n4:=a5.lt;refine oh 5 dA<|rf rfl rfl<|tT (e:=90) (.agg (pV p e5 c).toArray) (pV p e5 c) ([VC,VB 0,VB 0,VB 0]) 4 dA dA rfl rfl iw ⟨iT,iT⟩<|λb7 n5 b8 e0 b5=>?_
      have w6:=w5.add0 b5;refine⟨w6,?_⟩;have ap:=ag w5.size b8;have D1:=ag r.size b8;have D2:I<b7:=ae f.lt b8;have D3:a0<b7:=ae i.lt b8;replace f:=f.new b5;replace i:=i.new b5;replace a5:=a5.new b5;replace r:=r.acc b5;refine oh 6 dA ?_;have D4:=w6.size;have D5:=a9.size;have n6:∀ o,n3≠some ⟨b7,o,none⟩:=λo e=>by
        subst e;have r2:=n4 b7 rfl;omega
      refine qw rfl rfl (oz dA rfl) (Xt n5 a5 i8 e0 rfl q7 n6 dB f9 dB) ?_;rintro _ D6 ⟨g7,g8,rfl,a8,b9⟩;have D7:=w6.add (Kp.rU b9) (λg C=>by first |exact Or.inr C|exact Or.inr (aj _ C)|(have:=(a5.lt g (ah.1 C)).1;left;omega)|exact(hfr54 g (ah.1 C)).elim (λe=>Or.inr (ah.2 e)) (λe=>Or.inl dB)|exact(hfr54 g (ah.1 C)).elim (λe=>Or.inr (aj _ (ah.2 e))) (λe=>Or.inl dB));refine⟨D7,?_⟩;replace f:=f.own a5 b9 dB;replace i:=i.own a5 b9 dB;replace r:=r.own a5 b9 dB;refine nu 7 (nG 2)<|oh 8 dA ?_
      have n7:=a8.lt;have w7:=r.size;refine rA rfl rfl<|pQ i<|λar i r3=>?_
      have M4:=D7.aq r3;refine⟨M4,?_⟩;replace f:=f.only r3 (ai k7);replace a8:=a8.only r3 dB;replace r:=r3.below r n1;have i9:qo x.cs c=x.cs.insertIdx (pY x.cs c.1) c:=by unfold qo;rw[k8,if_neg dX]
      refine pq dA ?_;have g9:(x.cs.insertIdx (pY x.cs c.1) c).length=x.cs.length+1:=by rw[Ox f9];simp;omega
      have j0:=(i7.new r).ins (hcel.new r) f9;rw[<-g9]at a8 n7;have d4:=qC.Oa (n:=x.n) (lv:=x.lv) a8 j0;subst m9;rw[i9];refine oM ⟨(g7,g8,(Value.slice g7 (x.cs.insertIdx (pY x.cs c.1) c).length g8).ownBlock.toList),⟨rfl,congrArg (Value.int .i64) (show((Q+1:Nat):Int) - 1=(Q:Int) by omega),rfl,rfl,rfl,rfl,rfl,rfl⟩,by unfold oQ;rw[g9];exact i,d4,λb hb=>?_,r⟩;have V:=a8.lt b (ah.1 hb);exact⟨dB,V.2⟩
     ·
      refine rf rfl rfl<|tT (e:=90) (.agg (pV p e5 c).toArray) (pV p e5 c) ([VC,VB 0,VB 0,VB 0]) 4 dA dA rfl rfl iw ⟨iT,iT⟩<|λb7 n5 b8 e0 b5=>?_
      have D8:=k9.add0 b5;refine⟨D8,?_⟩;have M5:=ag k9.size b8;have D1:=ag r.size b8;have D2:I<b7:=ae f.lt b8;have D3:a0<b7:=ae i.lt b8;replace f:=f.new b5;replace i:=i.new b5;replace r:=r.acc b5;refine oh 2 dA ?_;have C7:=e0.lt;have C8:=f.lt;have C9:=i.lt;have v6:=r.size;refine qw rfl rfl (oz dA rfl) (OZ n5 (m8.new r) i8 dB) ?_;rintro _ r1 ⟨n3,D0,rfl,a5,a9⟩;have w8:=D8.add0 a9;refine⟨w8,?_⟩;replace f:=f.new a9;replace i:=i.new a9;replace e0:=e0.new a9;replace r:=r.acc a9;have n4:=a5.lt;refine oh 6 dA ?_;have D4:=w8.size;have D5:=a9.size;have n6:∀ o,n3≠some ⟨b7,o,none⟩:=λo e=>by
        subst e;have r2:=n4 b7 rfl;omega
      refine qw rfl rfl (oz dA rfl) (Xt r1 a5 i8 e0 rfl q7 n6 dB f9 dB) ?_;rintro _ D6 ⟨g7,g8,rfl,a8,b9⟩;have D9:=w8.add (Kp.rU b9) (λg C=>by first |exact Or.inr C|exact Or.inr (aj _ C)|(have:=(a5.lt g (ah.1 C)).1;left;omega)|exact(hfr54 g (ah.1 C)).elim (λe=>Or.inr (ah.2 e)) (λe=>Or.inl dB)|exact(hfr54 g (ah.1 C)).elim (λe=>Or.inr (aj _ (ah.2 e))) (λe=>Or.inl dB));refine⟨D9,?_⟩;replace f:=f.own a5 b9 dB;replace i:=i.own a5 b9 dB;replace r:=r.own a5 b9 dB;refine nu 7 (nG 2)<|oh 8 dA ?_
      have n7:=a8.lt;have w7:=r.size;refine rA rfl rfl<|pQ i<|λau i r4=>?_
      have M6:=D9.aq r4;refine⟨M6,?_⟩;replace f:=f.only r4 (ai k7);replace a8:=a8.only r4 dB;replace r:=r4.below r n1;have i9:qo x.cs c=x.cs.insertIdx (pY x.cs c.1) c:=by unfold qo;rw[k8,if_neg dX]
      refine pq dA ?_;have g9:(x.cs.insertIdx (pY x.cs c.1) c).length=x.cs.length+1:=by rw[Ox f9];simp;omega
      have j0:=(i7.new r).ins (hcel.new r) f9;rw[<-g9]at a8 n7;have d4:=qC.Oa (n:=x.n) (lv:=x.lv) a8 j0;subst m9;rw[i9];refine oM ⟨(g7,g8,(Value.slice g7 (x.cs.insertIdx (pY x.cs c.1) c).length g8).ownBlock.toList),⟨rfl,congrArg (Value.int .i64) (show((Q+1:Nat):Int) - 1=(Q:Int) by omega),rfl,rfl,rfl,rfl,rfl,rfl⟩,by unfold oQ;rw[g9];exact i,d4,λb hb=>?_,r⟩;have V:=a8.lt b (ah.1 hb);exact⟨dB,V.2⟩
    ·
     refine rf rfl rfl<|tT (e:=90) (.agg (pV p e5 c).toArray) (pV p e5 c) ([VC,VB 0,VB 0,VB 0]) 4 dA dA rfl rfl iw ⟨iT,iT⟩<|λb7 n5 b8 e0 b5=>?_
     have w9:=k9.add0 b5;refine⟨w9,?_⟩;have M5:=ag k9.size b8;have D1:=ag r.size b8;have D2:I<b7:=ae f.lt b8;have D3:a0<b7:=ae i.lt b8;replace f:=f.new b5;replace i:=i.new b5;replace r:=r.acc b5;refine oh 1 dA<|Bi rfl rfl (nH i) w9<|oh 2 dA ?_
     have C7:=e0.lt;have C8:=f.lt;have C9:=i.lt;have v6:=r.size;refine qw rfl rfl (oz dA rfl) (OZ n5 (m8.new r) i8 dB) ?_;rintro _ r1 ⟨n3,D0,rfl,a5,a9⟩;have x0:=w9.add0 a9;refine⟨x0,?_⟩;replace f:=f.new a9;replace i:=i.new a9;replace e0:=e0.new a9;replace r:=r.acc a9;have n4:=a5.lt;refine oh 6 dA ?_;have D4:=x0.size;have D5:=a9.size;have n6:∀ o,n3≠some ⟨b7,o,none⟩:=λo e=>by
       subst e;have r2:=n4 b7 rfl;omega
     refine qw rfl rfl (oz dA rfl) (Xt r1 a5 i8 e0 rfl q7 n6 dB f9 dB) ?_;rintro _ D6 ⟨g7,g8,rfl,a8,b9⟩;have E0:=x0.add (Kp.rU b9) (λg C=>by first |exact Or.inr C|exact Or.inr (aj _ C)|(have:=(a5.lt g (ah.1 C)).1;left;omega)|exact(hfr54 g (ah.1 C)).elim (λe=>Or.inr (ah.2 e)) (λe=>Or.inl dB)|exact(hfr54 g (ah.1 C)).elim (λe=>Or.inr (aj _ (ah.2 e))) (λe=>Or.inl dB));refine⟨E0,?_⟩;replace f:=f.own a5 b9 dB;replace i:=i.own a5 b9 dB;replace r:=r.own a5 b9 dB;refine nu 7 (nG 2)<|oh 8 dA ?_
     have n7:=a8.lt;have w7:=r.size;refine rA rfl rfl<|pQ i<|λav i r5=>?_
     have M7:=E0.aq r5;refine⟨M7,?_⟩;replace f:=f.only r5 (ai k7);replace a8:=a8.only r5 dB;replace r:=r5.below r n1;have i9:qo x.cs c=x.cs.insertIdx (pY x.cs c.1) c:=by unfold qo;rw[k8,if_neg dX]
     refine pq dA ?_;have g9:(x.cs.insertIdx (pY x.cs c.1) c).length=x.cs.length+1:=by rw[Ox f9];simp;omega
     have j0:=(i7.new r).ins (hcel.new r) f9;rw[<-g9]at a8 n7;have d4:=qC.Oa (n:=x.n) (lv:=x.lv) a8 j0;subst m9;rw[i9];refine oM ⟨(g7,g8,(Value.slice g7 (x.cs.insertIdx (pY x.cs c.1) c).length g8).ownBlock.toList),⟨rfl,congrArg (Value.int .i64) (show((Q+1:Nat):Int) - 1=(Q:Int) by omega),rfl,rfl,rfl,rfl,rfl,rfl⟩,by unfold oQ;rw[g9];exact i,d4,λb hb=>?_,r⟩;have V:=a8.lt b (ah.1 hb);exact⟨dB,V.2⟩
  ·
   rintro⟨j1,j2,b0⟩ n8 w2 ⟨i,d4,g0,R⟩;dsimp only at i d4 g0;have a4:l.n=x.n/\l.lv=x.lv/\l.cs=qo x.cs c:=by rw[<-m9];exact VF
   obtain⟨E1,r6,x1⟩:=a4;have M8:=zvk v4 c;rw[<-x1]at M8;have E2:∀ j3∈l.cs,j3.1.length<=100:=λj3 r7=>by
     rw[x1]at r7;rcases YN v4 r7 with d3|d3
     · exact(q8.wf j3 d3).1
     · rw[d3];exact B7
   have r8:∀ j3∈l.cs,j3.1.length<=300:=λj3 r7=>ag (E2 j3 r7) dB
   have M9:l.lv<256:=by rw[r6];exact q8.lv
   rw[qV]at e7;rw[yo]at d9;have E3:qo x.cs c=l.cs:=x1.symm;rw[E3,<-r6,<-E1]at e7;rw[E3,<-r6]at d9;have a4:∃ Z,(if uM l.lv l.cs=true then oW (rW l)else uN)=Z:=⟨_,rfl⟩;obtain⟨Z,E4⟩:=a4;have N0:∀ w',qC w' (b0++bl) (oQ l j1 j2) l->CQ 70 [.agg (oQ l j1 j2).toArray] w' (λv w2=>v= .tuple #[.agg (bv Z).toArray, .bool (uM l.lv l.cs)]/\VD w' w2):=λw' x2=>by
     have V:=Ai w' x2 M9 r8;rw[E4]at V;exact V
   have aw:(bv Z).length=512:=by
     rw[<-E4]
     split
     · rename_i h0
       rw[Oh]at h0;exact vk<|GK r8<|of_decide_eq_true h0
     · exact NH
   have N1:=vQ l j1 j2;have az:=wV l j1 j2;have f:=K9.new R;have b4:=Below.refl w2.heap.size w2;have aE:=R.size;have E5:=m7.lt;refine nI<|ny<|mZ (pz 3 i)<|nP (N0 w2 d4) ?_
   rintro _ aS ⟨rfl,r9⟩;replace f:=f.new r9;replace i:=i.new r9;replace R:=R.acc r9;replace b4:=b4.acc r9;refine ng<|mZ (nW rfl rfl)<|mZ (nW rfl rfl)<|nK<|oD (List.replicate 512 (Value.int .u8 0)) dA<|λn9 aT s0 b3 s1=>?_
   have N2:=ag R.size s0;have N3:=ag b4.size s0;have N4:I<n9:=ae f.lt s0;have N5:a0<n9:=ae i.lt s0;replace f:=f.new s1;replace i:=i.new s1;replace R:=R.acc s1;replace b4:=b4.acc s1;rw[AR]at b3;refine nT<|oC 512 (bv Z) b3<|λN6 b3 s2=>?_
   replace f:=f.only s2 (ai N4);replace i:=i.only s2 (ai N5);replace R:=s2.below R N2;replace b4:=s2.below b4 N3;refine oG<|ng<|nk<|xy rfl (λh0=>?_)<|λh0=>?_
   ·
    refine ny<|ng<|mZ (pz 3 i)<|nK<|tT (e:=87) (.agg (oQ l j1 j2).toArray) (oQ l j1 j2) ([VB 0,VB 0,VC]) 3 dA dA rfl rfl iw ⟨iT,iT⟩<|λx3 E6 o0 N7 o1=>?_
    have ba:=ag R.size o0;have bb:=ag b4.size o0;have bc:I<x3:=ae f.lt o0;have bd:a0<x3:=ae i.lt o0;have bh:n9<x3:=ae b3.lt o0;replace f:=f.new o1;replace i:=i.new o1;replace b3:=b3.new o1;replace R:=R.acc o1;replace b4:=b4.acc o1;have N8:=N7.tY (m:=1) (sz:=3) rfl dB;have s3:=m7.new R;have w7:=R.size;have s4:=e4.Dc R (M:=List.range' b2.heap.size ((E6).heap.size - b2.heap.size)) λb hb=>by
      have:=dw.1 hb;omega
    have N9:=d4.new b4;have x4:=q5.new R;have s5:=f6.new R;have bj:=b4.size;obtain⟨W1,bk⟩:=aa (E6);refine nK<|tu (e:=87) (sz:=3) (bytes:=40) (z:=.agg ([VB 0,VB 0,VC]).toArray) dA rfl dA rfl iT rfl s3 rfl N8 N1 jB dB (λE7=>dB)<|λbm bn x5 x6 E8=>?_
    refine ng<|nA<|nA<|nk<|nY<|qy<|sS<|qy<|zH<|sS<|qy<|ou [_,_] ⟨rfl,rfl,trivial⟩ ?_
    rw[if_pos h0]at e7 d9;dsimp only at e7 d9;have a4:=Td e7;obtain⟨s6,x7⟩:=a4;have O0:wo (ps.map Prod.fst) c0 gs=j:=by unfold wo;rw[x7,d9];rfl
    rw[s6,O0];obtain⟨bo,bp,rfl⟩:=x5.form;have c4:=Kp.rU x6;have x8:=s4.Mg (λb hb=>aB _ (k0 b hb)) x6 E8 x5;have e1:∀ b∈b0++bl,b∉v.ownBlock.toList:=λb hb C=>by
      have d3:=(E5 b (ah.1 C)).2;rcases ay.1 hb with y|y
      · have:=(g0 b y).1;omega
      · exact(e6 b y).2.2 C
    refine⟨_,_,b0++bl,_,by rw[<-B9];rfl,by dsimp only;rw[aA];exact og.mono x5 m6,((x4.mono (bl':=b0++bl) λb hb=>aB _ hb).nD c4 e1).snoc (N9.nD c4 e1),λb hb=>⟨?_,λC=>?_⟩,λb hb=>aF _ hb,λb hb=>aB _ (aB _ (q6 b hb)),x8,s5.own s3 x6 m6⟩
    · rcases ay.1 hb with y|y
      · exact aB _<|aF _<|Rf (g0 b y).1<|ae (g0 b y).2 dB
      · exact aB _<|aB _ (e6 b y).1
    · rcases E8 b (ah.1 C)with a1|a1
      · exact e1 b hb<|ah.2 a1
      · rcases ay.1 hb with y|y
        .have:=(g0 b y).2;omega
        .have:=u9 b (e6 b y).1;omega
   ·
    rw[if_neg (by rw[h0];exact dX)]at e7 d9;dsimp only at e7 d9;have O1:2<=l.cs.length:=by
      unfold uM at h0;have V:=of_decide_eq_false h0;have r2:=j_ l.lv l.cs r8 l.cs.length;rw[aQ lK]at r2;omega
    have E9:=λw' (x2:qC w' (b0++bl) (oQ l j1 j2) l)=>zvj w' x2 r8 O1 dB
    obtain⟨s7,x9⟩:=aa (vJ l.lv l.cs);obtain⟨K,o2⟩:=aa (wM (l.cs.drop s7));obtain⟨b6,F2⟩:=aa (rZ l.lv (l.cs.drop s7));obtain⟨d5,F3⟩:=aa (l.cs.take s7);obtain⟨G,y0⟩:=aa (gs.getD j 0);rw[x9,o2,F2,F3]at E9;rw[x9,o2,Vj,y0,List.tail_drop,F2,F3]at e7;rw[x9,o2,Vj,y0,List.tail_drop]at d9;have F4:K.length<=100:=by
      rcases zp1 (l.cs.drop s7)with V|⟨O2,V,r0⟩
      · rw[<-o2,V];exact aC _
      · rw[<-o2,r0];exact E2 O2 (eP V)
    have O3:j<wo (ps.map Prod.fst) c0 gs:=by unfold wo;rw[d9];omega
    have F5:=hgive j O3;rw[y0]at F5;have O4:=uf K;refine nU<|nJ<|ny<|mZ (pz 3 i) ?_
    have br:=b4.size;refine nP (E9 N6 (d4.new b4)) ?_;rintro _ F6 ⟨bs,bt,kp,bw,c5,rfl,F7,F8,s8,O5,y1,o3⟩;replace f:=f.new o3;replace i:=i.new o3;replace b3:=b3.new o3;replace R:=R.acc o3;replace b4:=b4.acc o3;have O6:=F7;obtain⟨g1,g2,_,O7,_,_,_,_⟩:=O6;subst O7;have O8:=F8;obtain⟨d6,d7,_,O9,_,_,_,_⟩:=O8;subst O9;have P0:=vQ ⟨l.n,l.lv,d5⟩ g1 g2;have bx:=wV ⟨l.n,l.lv,d5⟩ g1 g2;have bE:=vQ ⟨0,l.lv,b6⟩ d6 d7;have bY:=wV ⟨0,l.lv,b6⟩ d6 d7;have c6:=Below.refl (F6).heap.size F6;have ca:=b4.size;refine ng<|mZ (nW rfl rfl)<|mZ (nW rfl rfl)<|mZ (nW rfl rfl)<|nK<|oD ([VB 0,VB 0,VC]) dA<|λb1 cb o4 q o5=>?_
    have P1:=ag R.size o4;have P2:=ag c6.size o4;have F9:I<b1:=ae f.lt o4;have P3:a0<b1:=ae i.lt o4;have P4:n9<b1:=ae b3.lt o4;replace f:=f.new o5;replace i:=i.new o5;replace b3:=b3.new o5;replace R:=R.acc o5;replace c6:=c6.acc o5;refine nK<|oD ([VB 0,VB 0,VC]) dA<|λe2 cc c9 a2 l0=>?_
    have P5:=ag R.size c9;have P6:=ag c6.size c9;have y2:I<e2:=ae f.lt c9;have G0:a0<e2:=ae i.lt c9;have P7:n9<e2:=ae b3.lt c9;have y3:b1<e2:=ae q.lt c9;replace f:=f.new l0;replace i:=i.new l0;replace b3:=b3.new l0;replace q:=q.new l0;replace R:=R.acc l0;replace c6:=c6.acc l0;refine nT<|oC 3 (oQ ⟨l.n,l.lv,d5⟩ g1 g2) q<|λcd q l1=>?_
    replace f:=f.only l1 (ai F9);replace i:=i.only l1 (ai P3);replace b3:=b3.only l1 (ai P4);replace a2:=a2.only l1 (bu y3);replace R:=l1.below R P1;replace c6:=l1.below c6 P2;refine nT<|oC 3 (oQ ⟨0,l.lv,b6⟩ d6 d7) a2<|λo6 a2 l2=>?_
    replace f:=f.only l2 (ai y2);replace i:=i.only l2 (ai G0);replace b3:=b3.only l2 (ai P7);replace q:=q.only l2 (ai y3);replace R:=l2.below R P5;replace c6:=l2.below c6 P6;refine oG<|ng ?_
    have s4:=e4.Dc R (M:=List.range' b2.heap.size ((o6).heap.size - b2.heap.size)) λb hb=>by
      have:=dw.1 hb;omega
    obtain⟨j4,y4⟩:=aa (List.range' b2.heap.size ((o6).heap.size - b2.heap.size)++Lc);have o7:∀ b,b2.heap.size<=b->b<(o6).heap.size->b∈j4:=λb V r0=>by rw[<-y4];exact aF _ (Rf V r0)
    have o8:∀ b∈Lc,b∈j4:=λb V=>by rw[<-y4];exact aB _ V
    rw[y4]at s4;have s9:∀ b∈L,b∈j4:=λb V=>o8 b (q6 b V)
    have s5:=f6.new R;have ce:=c6.size;have C5:=i.lt;have P8:=q.lt;have P9:=a2.lt;have h1:∀ b∈c5++(b0++bl),b∈j4:=λb hb=>by
      rcases ay.1 hb with y|y
      · have:=s8 b y
        exact o7 b dB dB
      · rcases ay.1 y with a1|a1
        .have:=g0 b a1
         exact o7 b dB dB
        .exact o8 b (e6 b a1).1
    have Q0:=(F7.new c6).mono (bl':=c5++(b0++bl)) λb hb=>aB _ hb
    have Q1:=F8.new c6;have Q2:=O5.new c6;have x4:=q5.new R;have Q3:=hwy.new R;have Q4:=hws.new R;have Q5:=m7.new R;have G1:=o7 a0 dB C5;have G2:=o7 b1 dB P8;have G3:=o7 e2 dB P9;have l3:=o8 I B8;obtain⟨W5,cf⟩:=aa (o6);refine qA rfl (uH hcan rfl rfl) (F5 j4 o6 s9 s5 s4) ?_;rintro _ cg ⟨rfl,x8,d0⟩;have Q6:=s5.ll d0 s9;replace f:=f.kl d0 (.inr l3);replace i:=i.kl d0 (.inr G1);replace q:=q.kl d0 (.inr G2);replace a2:=a2.kl d0 (.inr G3);refine mZ (nG 0) ?_;have ch:=a2.lt;refine nT<|pQ a2<|λy5 a2 l4=>?_
    replace f:=f.only l4 (ai y2);replace i:=i.only l4 (ai G0);replace q:=q.only l4 (ai y3);replace a2:row y5 e2 (oQ ⟨G,l.lv,b6⟩ d6 d7) 87:=a2;have h2:=Kp.rJ l4;have c9:∀ b∈c5++(b0++bl),b∉[e2]:=λb hb C=>by
      have g6:b=e2:=by simpa using C
      rcases ay.1 hb with y|y
      · have:=s8 b y;omega
      · rcases ay.1 y with a1|a1
        .have:=g0 b a1;omega
        .have:=u9 b (e6 b a1).1;omega
    have G4:∀ b∈v.ownBlock.toList,B0<=b/\b<b2.heap.size:=λb hb=>⟨(E5 b (ah.1 hb)).1,u9 b (k0 b hb)⟩
    have Q7:=(Q0.ll d0 λb hb=>.inr (h1 b hb)).nD h2 c9;have Q8:=((Q1.ll d0 λb hb=>.inr (h1 b hb)).nD h2 c9).ren (n:=G);have Q9:=(Q2.rQ d0 λg o e=>.inr (h1 g (aB _ (y1 g o e)))).nD h2 λg o e=>c9 g (aB _ (y1 g o e))
    have j5:∀ b∈bl,b∈c5++(b0++bl):=λb hb=>aB _ (aB _ hb)
    have R0:=((x4.mono j5).ll d0 λb hb=>.inr (h1 b hb)).nD h2 c9;have R1:=((Q3.mono j5).ll d0 λb hb=>.inr (h1 b hb)).nD h2 c9;have R2:=(Q4.rQ d0 λg o e=>.inr (h1 g (j5 g (j9 g o e)))).nD h2 λg o e=>c9 g (j5 g (j9 g o e))
    have s3:=Coup.og.nD (Coup.og.nD Q5 d0.kp λb C e=>pG (.inr (o8 b (k0 b (ah.2 e)))) C) h2 λb C e=>by
      have g6:b=e2:=by simpa using C
      have y:=G4 b (ah.2 e);omega
    have G5:=x8.only l4 (.inr G3);have R3:=Q6.only l4 (.inl dB);have c7:=Below.refl (y5).heap.size y5;have R4:=vQ ⟨G,l.lv,b6⟩ d6 d7;have ci:=wV ⟨G,l.lv,b6⟩ d6 d7;have R5:∀ u∈oQ ⟨l.n,l.lv,d5⟩ g1 g2++oQ ⟨G,l.lv,b6⟩ d6 d7,u.oneCell'=true:=λu R6=>(ay.1 R6).elim (P0 u) (R4 u)
    refine qx<|ng<|mZ (pz 3 q)<|mZ (pz 3 a2)<|nK<|Jc (e:=87) (.agg (oQ ⟨l.n,l.lv,d5⟩ g1 g2).toArray) (.agg (oQ ⟨G,l.lv,b6⟩ d6 d7).toArray) (oQ ⟨l.n,l.lv,d5⟩ g1 g2) (oQ ⟨G,l.lv,b6⟩ d6 d7) ([VB 0,VB 0,VC]) 3 dA dA rfl rfl rfl rfl iw iw ⟨iT,iT⟩<|λt0 R7 o9 R8 p1=>?_
    have cj:=ag c7.size o9;have ck:I<t0:=ae f.lt o9;have cl:a0<t0:=ae i.lt o9;have cm:b1<t0:=ae q.lt o9;have cn:e2<t0:=ae a2.lt o9;replace f:=f.new p1;replace i:=i.new p1;replace q:=q.new p1;replace a2:=a2.new p1;replace c7:=c7.acc p1;have R9:=R8.tY (m:=2) (sz:=3) rfl dB;have G6:=s3.new c7;have co:=c7.size;have cp:=d0.size;have cq:=h2.size;have S0:=f;have S1:=i;have S2:=q;have S3:=a2;obtain⟨W6,G7⟩:=aa (R7);have S4:=(G5.new c7).lt;refine nK<|tu (e:=87) (sz:=3) (bytes:=40) (z:=.agg ([VB 0,VB 0,VC]).toArray) dA rfl dA rfl iT rfl G6 rfl R9 R5 jB dB (λE7=>dB)<|λcr h3 d1 y6 G8=>?_
    have c4:=Kp.rU y6;have cs:=c4.size;have l5:∀ b,b2.heap.size<=b\/b<B0->b∉v.ownBlock.toList:=λb hb C=>by have:=G4 b C;omega
    have e1:∀ b∈c5++(b0++bl),b∉v.ownBlock.toList:=λb hb=>by
      rcases ay.1 hb with y|y
      · have:=s8 b y;exact l5 b (.inl dB)
      · rcases ay.1 y with a1|a1
        .have:=g0 b a1;exact l5 b (.inl dB)
        .exact(e6 b a1).2.2
    replace f:=S0.nD c4 (l5 I (.inr K6));replace i:=S1.nD c4 (l5 a0 (.inl dB));replace q:=S2.nD c4 (l5 b1 (.inl dB));replace a2:=S3.nD c4 (l5 e2 (.inl dB));have S5:=(Q7.new c7).nD c4 e1;have S6:=(Q8.new c7).nD c4 e1;have S7:=(Q9.new c7).nD c4 λg o e=>e1 g (aB _ (y1 g o e))
    have S8:=(((R0.new c7).nD c4 e1).snoc S5).snoc S6;have S9:=(R1.new c7).nD c4 e1;have T1:=(R2.new c7).nD c4 λg o e=>e1 g (j5 g (j9 g o e))
    have T2:=(G5.new c7).Mg (λb hb=>o8 b (k0 b hb)) y6 G8 d1;have T3:=(R3.new c7).own G6 y6 m6;obtain⟨e9,f0,rfl⟩:=d1.form;have T4:=d1.lt;have T5:=G8;have d2:=Below.refl (h3).heap.size h3;refine nA<|nk<|nI<|qH [I] dA ?_
    intro T6 l6 T7;replace f:=f.new l6;replace i:=i.new l6;replace q:=q.new l6;replace a2:=a2.new l6;replace d1:=d1.new l6;replace d2:=d2.acc l6;have ct:=f;have cu:=i;have cv:=q;have T8:=a2;have cw:=d1;have cx:=d2;refine nu 0 (nS)<|nu 2 (nG 0)<|nR 3 (λw' c8=>nH (T8.kq c8))<|oh 1 dA ?_
    have cy:=f.lt;have cA:=d2.size;refine qw rfl rfl (oz dA rfl) (RY T6 (S7.new d2) O4 dB) ?_;rintro _ t1 ⟨a6,a7,rfl,y7,j6⟩;have G9:=T7.add0 j6;refine⟨G9,?_⟩;replace f:=f.new j6;replace i:=i.new j6;replace q:=q.new j6;replace a2:=a2.new j6;replace d1:=d1.new j6;replace d2:=d2.acc j6;have cC:=zt a6 a7 (K,(0,0,G));have cD:(pV a6 a7 (K,(0,0,G))).length=4:=rfl;have T9:=y7.lt;refine nu 4 (AC (.slice a6 K.length a7) (VB (G:Int)) (pV a6 a7 (K,(0,0,G))) rfl rfl dA)<|oh 5 dA ?_
    have H1:=T2.Dc d2 (M:=List.range' h3.heap.size ((t1).heap.size - h3.heap.size)) λb hb=>by
      have:=dw.1 hb;omega
    obtain⟨h4,f1⟩:=aa ((Value.slice e9 (out.length+2) f0).ownBlock.toList);obtain⟨g3,H2⟩:=aa ((Value.slice a6 K.length a7).ownBlock.toList);obtain⟨d8,t2⟩:=aa (List.range' h3.heap.size ((t1).heap.size - h3.heap.size)++((Value.slice e9 (out.length+2) f0).ownBlock.toList++j4));have cE:=d2.size;have t3:∀ b∈g3,h3.heap.size<=b/\b<(t1).heap.size:=λb hb=>by
      rw[<-H2]at hb;have:=T9 b (ah.1 hb);have:=(y7.lt b (ah.1 hb)).2;omega
    have H3:∀ b∈h4,B0<=b/\b<h3.heap.size:=λb hb=>by rw[<-f1]at hb;exact T4 b (ah.1 hb)
    have U0:∀ b∈h4,b∈v.ownBlock.toList\/W6.heap.size<=b:=λb hb=>by rw[<-f1]at hb;exact(T5 b (ah.1 hb)).imp (λe=>ah.2 e) (λh=>by rw[<-G7];exact h)
    have U1:∀ b∈g3,b∈d8:=λb hb=>by rw[<-t2];exact aF _ (Rf (t3 b hb).1 (t3 b hb).2)
    have y8:∀ b∈h4,b∈d8:=λb hb=>by rw[<-t2,f1];exact aB _ (aF _ hb)
    have f2:∀ b∈j4,b∈d8:=λb hb=>by rw[<-t2];exact aB _ (aB _ hb)
    rw[t2]at H1;have U2:=S8.new d2;have U3:=S9.new d2;have U4:=T1.new d2;have U5:=T3.new d2;have U6:sV t1 (g3++(c5++(b0++bl))) (pV a6 a7 (K,(0,0,G))) (K,(0,0,G)):=by rw[<-H2];exact sV.Oa y7
    refine rA rfl rfl<|oC 4 (pV a6 a7 (K,(0,0,G))) f<|λt4 f h5=>?_
    have U7:=G9.aq h5;refine⟨U7,?_⟩;replace i:=i.only h5 (bu k7);replace q:=q.only h5 (bu F9);replace a2:=a2.only h5 (bu y2);replace d1:=d1.only h5 dB;have p2:=Kp.rJ h5;have y9:=H1.only h5 (.inr (f2 _ l3));have D:=U5.only h5 (.inl K5);have U8:∀ b∈c5++(b0++bl),b≠I:=λb hb e=>by
      rcases ay.1 hb with y|y
      · have:=s8 b y;omega
      · rcases ay.1 y with a1|a1
        .have:=g0 b a1;omega
        .exact(e6 b a1).2.1 e
    have f8:∀ b∈g3++(c5++(b0++bl)),b∉[I]:=λb hb C=>by
      have g6:b=I:=by simpa using C
      rcases ay.1 hb with y|y
      · have:=t3 b y;omega
      · exact U8 b y g6
    have t5:∀ b∈c5++(b0++bl),b∈g3++(c5++(b0++bl)):=λb hb=>aB _ hb
    have z0:=U6.nD p2 f8;have t6:yj t4 (g3++(c5++(b0++bl))) (vs++(oQ ⟨l.n,l.lv,d5⟩ g1 g2++oQ ⟨G,l.lv,b6⟩ d6 d7)) (out++[⟨l.n,l.lv,d5⟩,⟨G,l.lv,b6⟩]):=by
      have V:=(U2.mono t5).nD p2 f8;rw[aH,aH]at V;exact V
    have z1:=(U3.mono t5).nD p2 f8;have H4:=U4.nD p2 λg o e=>f8 g (t5 g (j5 g (j9 g o e)))
    have l7:∀ b∈g3++(c5++(b0++bl)),b∈d8/\b≠I/\b∉h4:=λb hb=>⟨by
      rcases ay.1 hb with y|y
      · exact U1 b y
      · exact f2 b (h1 b y),λe=>f8 b hb kH,λC=>by
      rcases ay.1 hb with y|y
      · have:=t3 b y
        have:=H3 b C;omega
      · rcases U0 b C with V|V
        .exact e1 b y V
        .have:=S4 b (h1 b y)
         rw[G7]at this;omega⟩
    have p3:∀ g o,(some ⟨i4,g5,none⟩:Option Addr)=some ⟨g,o,none⟩->g∈g3++(c5++(b0++bl)):=λg o e=>t5 g (j5 g (j9 g o e))
    have e3:∀ b∈L,b∈d8:=λb hb=>f2 b (s9 b hb)
    obtain⟨A6,U9⟩:=aa (g3++(c5++(b0++bl)));rw[U9]at z0 t6 z1 p3 l7;obtain⟨p4,p5⟩:=aa (out++[⟨l.n,l.lv,d5⟩,⟨G,l.lv,b6⟩]);obtain⟨z2,t7⟩:=aa (vs++(oQ ⟨l.n,l.lv,d5⟩ g1 g2++oQ ⟨G,l.lv,b6⟩ d6 d7));have H5:p4.length=out.length+2:=by rw[<-p5,aA];rfl
    rw[p5,t7]at t6;rw[t7]at d1;have z3:qV (ps.map Prod.fst).reverse c0 gs=(p4++(qV ((ps.map Prod.fst).take Q).reverse (K,(0,0,G)) (gs.drop (j+1))).1,(qV ((ps.map Prod.fst).take Q).reverse (K,(0,0,G)) (gs.drop (j+1))).2.1,(qV ((ps.map Prod.fst).take Q).reverse (K,(0,0,G)) (gs.drop (j+1))).2.2):=by
      rw[e7,<-p5,aH];rfl
    have z4:yo (ps.map Prod.fst).reverse c0 gs=j+1+yo ((ps.map Prod.fst).take Q).reverse (K,(0,0,G)) (gs.drop (j+1)):=by rw[d9];omega
    have H6:Q=0->(vB (ps.map Prod.fst) c0 gs).1=p4++[⟨gs.getD (j+1) 0,l.lv+1,[([],(0,0,l.n)),(K,(0,0,G))]⟩]/\(vB (ps.map Prod.fst) c0 gs).2.1=some (gs.getD (j+1) 0)/\wo (ps.map Prod.fst) c0 gs=j+2:=λe=>by
      subst e;rw[dz,List.reverse_nil,qV,aR]at z3;rw[dz,List.reverse_nil,yo]at z4;obtain⟨s6,x7⟩:=Sj z3 v1;rw[Vj,<-E1,<-r6]at s6;rw[s6];exact⟨rfl,rfl,by unfold wo;rw[x7,z4];rfl⟩
    have a4:∃ t8:World->Prop,(λw'=>row w' I (pV a6 a7 (K,(0,0,G))) 90/\sV w' A6 (pV a6 a7 (K,(0,0,G))) (K,(0,0,G))/\og w' B0 87 3 (.slice e9 (out.length+2) f0) (out.length+2) z2/\yj w' A6 z2 p4/\xk w' A6 wvs ps/\nM w' (some ⟨i4,g5,none⟩) ps.length 4 wvs)=t8:=⟨_,rfl⟩;obtain⟨t8,H7⟩:=a4;have l8:∀ b∈I::(h4++A6),b∈d8:=λb hb=>by
      rcases ak.1 hb with y|y
      · rw[y];exact f2 _ l3
      · rcases ay.1 y with a1|a1
        .exact y8 b a1
        .exact(l7 b a1).1
    obtain⟨h6,z5⟩:=aa ((t4).heap.size);have E:KF t8 (I::(h4++A6)) h6 t4:=by
      rw[<-H7];exact⟨⟨f,z0,d1,t6,z1,H4⟩,λw1 w2 M ⟨z6,n8,z7,z8,z9,A0⟩ l9 m0=>⟨z6.nD l9 (m0 I ig),n8.nD l9 λb hb=>m0 b jX,Coup.og.nD z7 l9 λb C e=>m0 b (by rw[<-f1];simp[e]) C,z8.nD l9 λb hb=>m0 b jX,z9.nD l9 λb hb=>m0 b jX,A0.nD l9 λg o e=>m0 g (by simp[p3 g o e])⟩,λb hb=>by rw[<-z5];exact y9.lt b (l8 b hb)⟩
    have F:=y9.weak (L2:=I::a0::b1::d8) λb hb=>by
      simp only[ak]at hb;rcases hb with h|h|h|h
      · rw[h];exact f2 _ l3
      · rw[h];exact f2 _ G1
      · rw[h];exact f2 _ G2
      · exact h
    have cF:w.heap.size<=h6:=by rw[<-z5];exact D.size
    have V0:B0<=h6:=by
      have:=p2.size;omega
    have cG:=zt none 0 (([]:Key),(0,0,l.n));have cH:(pV none 0 (([]:Key),(0,0,l.n))).length=4:=rfl;refine pq dA<|nJ<|ny<|ng<|mZ (qB rfl rfl)<|nk<|oZ rfl (λH8=>?_)<|λH8=>?_
    ·
     refine wO (λa:Nat × Nat=>[(17,VA a.1),(8,VB (Q:Nat)),(6, .slice e9 (out.length+2) f0),(4,VA I),(0, .slice (some ⟨i4,g5,none⟩) ps.length wc),(2, .func (.func fk) #[] caps.toArray)]) (λa w'=>row w' a.1 [VB (gs.getD (j+1) 0:Int),VB ((l.lv:Int)+1), .slice (some ⟨a.2,0,none⟩) 2 2] 87/\row w' a.2 (pV none 0 (([]:Key),(0,0,l.n))++pV a6 a7 (K,(0,0,G))) 90/\KF t8 (I::(h4++A6)) h6 w'/\Two (X (j+2)) (Y (j+2)) lo (a.2::d8) w'/\nC lo L w w'/\h6<=a.1/\h6<=a.2/\a.1≠a.2/\h6<=w'.heap.size) ?_ ?_
     ·
      have m1:=hgive (j+1) (by rw[(H6 dB).2.2];omega);obtain⟨a3,t9⟩:=aa (gs.getD (j+1) 0);rw[t9]at m1;rw[t9];refine vX (lo) ((I::a0::b1::d8)) dA ?_;intro V1 m2 p6 p7;replace f:=f.new m2;replace i:=i.new m2;replace q:=q.new m2;replace F:=F.new m2;replace D:=D.new m2;replace E:=E.new m2;have V2:=f;have V4:=i;have V5:=q;have cI:=F;have cJ:=D;have cL:=E;refine nu 0 (nS)<|nu 2 (nG 1)<|nR 3 (λw' c8=>nH (V4.kL c8))<|nu 4 (oJ rfl rfl (Coup.nV dB))<|nu 5 (nG 0)<|nR 6 (λw' c8=>nH (V5.kL c8))<|nu 7 (Ay (VB (l.n:Int)) (pV none 0 (([]:Key),(0,0,l.n))) rfl dA)<|nR 8 (λw' c8=>pz 4 (V2.kL c8))<|zt2 1 9 11 dA ?_ ?_ ?_
      ·
       refine qw rfl rfl (uH hcan rfl rfl) (m1 _ V1 kU D F) ?_;rintro _ u0 ⟨rfl,F,O⟩;replace D:=D.ll O (λb hb=>by simp[e3 b hb]);replace E:=E.ll O (λb hb=>.inr lJ);have p8:=p7.vv p6 O.wk;refine⟨p8,?_⟩;replace f:=f.kl O;replace i:=i.kl O;replace q:=q.kl O;refine zw 9 11 dA ?_ ?_
       ·
        refine rf rfl rfl<|Jc (e:=90) (.agg (pV none 0 (([]:Key),(0,0,l.n))).toArray) (.agg (pV a6 a7 (K,(0,0,G))).toArray) (pV none 0 (([]:Key),(0,0,l.n))) (pV a6 a7 (K,(0,0,G))) ([VC,VB 0,VB 0,VB 0]) 4 dA dA rfl rfl rfl rfl iw iw ⟨iT,iT⟩<|λB m3 T H J=>?_
        have A1:=p8.add0 J;refine⟨A1,?_⟩;have cM:=ag p8.size T;have u1:I<B:=ae f.lt T;have u2:a0<B:=ae i.lt T;have u3:b1<B:=ae q.lt T;replace f:=f.new J;replace i:=i.new J;replace q:=q.new J;replace F:=F.nL J T H.lt;replace D:=D.new J;replace E:=E.new J;refine nu 10 (Jg (VB (a3:Int)) (VB ((l.lv:Int)+1)) (.slice (some ⟨B,0,none⟩) 2 2) [VB (a3:Int),VB ((l.lv:Int)+1), .slice (some ⟨B,0,none⟩) 2 2] rfl rfl rfl dA)<|oh 11 dA<|rf rfl rfl<|oD ([VB 0,VB 0,VC]) dA<|λS m4 U A N=>?_
        have H9:=A1.add0 N;refine⟨H9,?_⟩;have cN:=ag A1.size U;have f3:I<S:=ae f.lt U;have f4:a0<S:=ae i.lt U;have f5:b1<S:=ae q.lt U;have p9:B<S:=ae H.lt U;replace f:=f.new N;replace i:=i.new N;replace q:=q.new N;replace F:=F.nL N U A.lt;replace D:=D.new N;replace E:=E.new N;replace H:=H.new N;refine oh 12 dA<|rA rfl rfl<|oC 3 ([VB (a3:Int),VB ((l.lv:Int)+1), .slice (some ⟨B,0,none⟩) 2 2]) A<|λcP A h7=>?_
        have V6:=H9.add1 h7 iD;refine⟨V6,?_⟩;replace f:=f.only h7 (ai f3);replace i:=i.only h7 (ai f4);replace q:=q.only h7 (ai f5);replace F:=F.only h7 eG;replace D:=D.only h7 jo;replace E:=E.only h7 dB;replace H:=H.only h7 (ai p9);refine pq dA ?_;have q0:=A.lt;refine oM ⟨(S,B),VF,A,H,E,F.weak (λb hb=>by
         simp only[ak]at hb |-;rcases hb with h|h<;>simp[h]),D,by dsimp only;omega,by dsimp only;omega,dB⟩
       ·
        refine rf rfl rfl<|oD ([VB 0,VB 0,VC]) dA<|λS m4 U A N=>?_
        have A2:=p8.add0 N;refine⟨A2,?_⟩;have cQ:=ag p8.size U;have f3:I<S:=ae f.lt U;have f4:a0<S:=ae i.lt U;have f5:b1<S:=ae q.lt U;replace f:=f.new N;replace i:=i.new N;replace q:=q.new N;replace F:=F.nL N U A.lt;replace D:=D.new N;replace E:=E.new N;refine oh 9 dA<|rf rfl rfl<|Jc (e:=90) (.agg (pV none 0 (([]:Key),(0,0,l.n))).toArray) (.agg (pV a6 a7 (K,(0,0,G))).toArray) (pV none 0 (([]:Key),(0,0,l.n))) (pV a6 a7 (K,(0,0,G))) ([VC,VB 0,VB 0,VB 0]) 4 dA dA rfl rfl rfl rfl iw iw ⟨iT,iT⟩<|λB m3 T H J=>?_
        have I0:=A2.add0 J;refine⟨I0,?_⟩;have cR:=ag A2.size T;have u1:I<B:=ae f.lt T;have u2:a0<B:=ae i.lt T;have u3:b1<B:=ae q.lt T;have q1:S<B:=ae A.lt T;replace f:=f.new J;replace i:=i.new J;replace q:=q.new J;replace F:=F.nL J T H.lt;replace D:=D.new J;replace E:=E.new J;replace A:=A.new J;refine nu 10 (Jg (VB (a3:Int)) (VB ((l.lv:Int)+1)) (.slice (some ⟨B,0,none⟩) 2 2) [VB (a3:Int),VB ((l.lv:Int)+1), .slice (some ⟨B,0,none⟩) 2 2] rfl rfl rfl dA)<|oh 12 dA<|rA rfl rfl<|oC 3 ([VB (a3:Int),VB ((l.lv:Int)+1), .slice (some ⟨B,0,none⟩) 2 2]) A<|λcS A h8=>?_
        have V7:=I0.add1 h8 iD;refine⟨V7,?_⟩;replace f:=f.only h8 (ai f3);replace i:=i.only h8 (ai f4);replace q:=q.only h8 (ai f5);replace F:=F.only h8 eG;replace D:=D.only h8 jo;replace E:=E.only h8 dB;replace H:=H.only h8 (bu q1);refine pq dA ?_;have q0:=A.lt;refine oM ⟨(S,B),VF,A,H,E,F.weak (λb hb=>by
         simp only[ak]at hb |-;rcases hb with h|h<;>simp[h]),D,by dsimp only;omega,by dsimp only;omega,dB⟩
      ·
       refine rf rfl rfl<|Jc (e:=90) (.agg (pV none 0 (([]:Key),(0,0,l.n))).toArray) (.agg (pV a6 a7 (K,(0,0,G))).toArray) (pV none 0 (([]:Key),(0,0,l.n))) (pV a6 a7 (K,(0,0,G))) ([VC,VB 0,VB 0,VB 0]) 4 dA dA rfl rfl rfl rfl iw iw ⟨iT,iT⟩<|λB m3 T H J=>?_
       have u4:=p7.add0 J;refine⟨u4,?_⟩;have cT:=ag p7.size T;have u1:I<B:=ae f.lt T;have u2:a0<B:=ae i.lt T;have u3:b1<B:=ae q.lt T;replace f:=f.new J;replace i:=i.new J;replace q:=q.new J;replace F:=F.nL J T H.lt;replace D:=D.new J;replace E:=E.new J;refine zw 1 11 dA ?_ ?_
       ·
        refine qw rfl rfl (uH hcan rfl rfl) (m1 _ m3 kU D F) ?_;rintro _ u0 ⟨rfl,F,O⟩;replace D:=D.ll O (λb hb=>by simp[e3 b hb]);replace E:=E.ll O (λb hb=>.inr lJ);have A3:=u4.vv p6 O.wk;refine⟨A3,?_⟩;replace f:=f.kl O;replace i:=i.kl O;replace q:=q.kl O;replace H:=H.kl O;refine nu 10 (Jg (VB (a3:Int)) (VB ((l.lv:Int)+1)) (.slice (some ⟨B,0,none⟩) 2 2) [VB (a3:Int),VB ((l.lv:Int)+1), .slice (some ⟨B,0,none⟩) 2 2] rfl rfl rfl dA)<|oh 11 dA<|rf rfl rfl<|oD ([VB 0,VB 0,VC]) dA<|λS m4 U A N=>?_
        have I1:=A3.add0 N;refine⟨I1,?_⟩;have cU:=ag A3.size U;have f3:I<S:=ae f.lt U;have f4:a0<S:=ae i.lt U;have f5:b1<S:=ae q.lt U;have p9:B<S:=ae H.lt U;replace f:=f.new N;replace i:=i.new N;replace q:=q.new N;replace F:=F.nL N U A.lt;replace H:=H.new N;replace D:=D.new N;replace E:=E.new N;refine oh 12 dA<|rA rfl rfl<|oC 3 ([VB (a3:Int),VB ((l.lv:Int)+1), .slice (some ⟨B,0,none⟩) 2 2]) A<|λcV A h9=>?_
        have V8:=I1.add1 h9 iD;refine⟨V8,?_⟩;replace f:=f.only h9 (ai f3);replace i:=i.only h9 (ai f4);replace q:=q.only h9 (ai f5);replace F:=F.only h9 eG;replace H:=H.only h9 (ai p9);replace D:=D.only h9 jo;replace E:=E.only h9 dB;refine pq dA ?_;have q0:=A.lt;refine oM ⟨(S,B),VF,A,H,E,F.weak (λb hb=>by
         simp only[ak]at hb |-;rcases hb with h|h<;>simp[h]),D,by dsimp only;omega,by dsimp only;omega,dB⟩
       ·
        refine rf rfl rfl<|oD ([VB 0,VB 0,VC]) dA<|λS m4 U A N=>?_
        have I2:=u4.add0 N;refine⟨I2,?_⟩;have cW:=ag u4.size U;have f3:I<S:=ae f.lt U;have f4:a0<S:=ae i.lt U;have f5:b1<S:=ae q.lt U;have p9:B<S:=ae H.lt U;replace f:=f.new N;replace i:=i.new N;replace q:=q.new N;replace F:=F.nL N U A.lt;replace D:=D.new N;replace E:=E.new N;replace H:=H.new N;refine oh 1 dA<|qw rfl rfl (uH hcan rfl rfl) (m1 _ m4 kU D F) ?_
        rintro _ u0 ⟨rfl,F,O⟩;replace D:=D.ll O (λb hb=>by simp[e3 b hb]);replace E:=E.ll O (λb hb=>.inr lJ);have I3:=I2.vv p6 O.wk;refine⟨I3,?_⟩;replace f:=f.kl O;replace i:=i.kl O;replace q:=q.kl O;replace H:=H.kl O;replace A:=A.kl O;refine nu 10 (Jg (VB (a3:Int)) (VB ((l.lv:Int)+1)) (.slice (some ⟨B,0,none⟩) 2 2) [VB (a3:Int),VB ((l.lv:Int)+1), .slice (some ⟨B,0,none⟩) 2 2] rfl rfl rfl dA)<|oh 12 dA<|rA rfl rfl<|oC 3 ([VB (a3:Int),VB ((l.lv:Int)+1), .slice (some ⟨B,0,none⟩) 2 2]) A<|λcX A i0=>?_
        have V9:=I3.add1 i0 iD;refine⟨V9,?_⟩;replace f:=f.only i0 (ai f3);replace i:=i.only i0 (ai f4);replace q:=q.only i0 (ai f5);replace F:=F.only i0 eG;replace H:=H.only i0 (ai p9);replace D:=D.only i0 jo;replace E:=E.only i0 dB;refine pq dA ?_;have q0:=A.lt;refine oM ⟨(S,B),VF,A,H,E,F.weak (λb hb=>by
         simp only[ak]at hb |-;rcases hb with h|h<;>simp[h]),D,by dsimp only;omega,by dsimp only;omega,dB⟩
      ·
       refine rf rfl rfl<|oD ([VB 0,VB 0,VC]) dA<|λS m4 U A N=>?_
       have u5:=p7.add0 N;refine⟨u5,?_⟩;have cY:=ag p7.size U;have f3:I<S:=ae f.lt U;have f4:a0<S:=ae i.lt U;have f5:b1<S:=ae q.lt U;replace f:=f.new N;replace i:=i.new N;replace q:=q.new N;replace F:=F.nL N U A.lt;replace D:=D.new N;replace E:=E.new N;refine zw 1 9 dA ?_ ?_
       ·
        refine qw rfl rfl (uH hcan rfl rfl) (m1 _ m4 kU D F) ?_;rintro _ u0 ⟨rfl,F,O⟩;replace D:=D.ll O (λb hb=>by simp[e3 b hb]);replace E:=E.ll O (λb hb=>.inr lJ);have A4:=u5.vv p6 O.wk;refine⟨A4,?_⟩;replace f:=f.kl O;replace i:=i.kl O;replace q:=q.kl O;replace A:=A.kl O;refine oh 9 dA<|rf rfl rfl<|Jc (e:=90) (.agg (pV none 0 (([]:Key),(0,0,l.n))).toArray) (.agg (pV a6 a7 (K,(0,0,G))).toArray) (pV none 0 (([]:Key),(0,0,l.n))) (pV a6 a7 (K,(0,0,G))) ([VC,VB 0,VB 0,VB 0]) 4 dA dA rfl rfl rfl rfl iw iw ⟨iT,iT⟩<|λB m3 T H J=>?_
        have I4:=A4.add0 J;refine⟨I4,?_⟩;have da:=ag A4.size T;have u1:I<B:=ae f.lt T;have u2:a0<B:=ae i.lt T;have u3:b1<B:=ae q.lt T;have q1:S<B:=ae A.lt T;replace f:=f.new J;replace i:=i.new J;replace q:=q.new J;replace F:=F.nL J T H.lt;replace A:=A.new J;replace D:=D.new J;replace E:=E.new J;refine nu 10 (Jg (VB (a3:Int)) (VB ((l.lv:Int)+1)) (.slice (some ⟨B,0,none⟩) 2 2) [VB (a3:Int),VB ((l.lv:Int)+1), .slice (some ⟨B,0,none⟩) 2 2] rfl rfl rfl dA)<|oh 12 dA<|rA rfl rfl<|oC 3 ([VB (a3:Int),VB ((l.lv:Int)+1), .slice (some ⟨B,0,none⟩) 2 2]) A<|λdb A i1=>?_
        have W0:=I4.add1 i1 iD;refine⟨W0,?_⟩;replace f:=f.only i1 (ai f3);replace i:=i.only i1 (ai f4);replace q:=q.only i1 (ai f5);replace F:=F.only i1 eG;replace D:=D.only i1 jo;replace E:=E.only i1 dB;replace H:=H.only i1 (bu q1);refine pq dA ?_;have q0:=A.lt;refine oM ⟨(S,B),VF,A,H,E,F.weak (λb hb=>by
         simp only[ak]at hb |-;rcases hb with h|h<;>simp[h]),D,by dsimp only;omega,by dsimp only;omega,dB⟩
       ·
        refine rf rfl rfl<|Jc (e:=90) (.agg (pV none 0 (([]:Key),(0,0,l.n))).toArray) (.agg (pV a6 a7 (K,(0,0,G))).toArray) (pV none 0 (([]:Key),(0,0,l.n))) (pV a6 a7 (K,(0,0,G))) ([VC,VB 0,VB 0,VB 0]) 4 dA dA rfl rfl rfl rfl iw iw ⟨iT,iT⟩<|λB m3 T H J=>?_
        have I5:=u5.add0 J;refine⟨I5,?_⟩;have dc:=ag u5.size T;have u1:I<B:=ae f.lt T;have u2:a0<B:=ae i.lt T;have u3:b1<B:=ae q.lt T;have q1:S<B:=ae A.lt T;replace f:=f.new J;replace i:=i.new J;replace q:=q.new J;replace F:=F.nL J T H.lt;replace D:=D.new J;replace E:=E.new J;replace A:=A.new J;refine oh 1 dA<|qw rfl rfl (uH hcan rfl rfl) (m1 _ m3 kU D F) ?_
        rintro _ u0 ⟨rfl,F,O⟩;replace D:=D.ll O (λb hb=>by simp[e3 b hb]);replace E:=E.ll O (λb hb=>.inr lJ);have I6:=I5.vv p6 O.wk;refine⟨I6,?_⟩;replace f:=f.kl O;replace i:=i.kl O;replace q:=q.kl O;replace A:=A.kl O;replace H:=H.kl O;refine nu 10 (Jg (VB (a3:Int)) (VB ((l.lv:Int)+1)) (.slice (some ⟨B,0,none⟩) 2 2) [VB (a3:Int),VB ((l.lv:Int)+1), .slice (some ⟨B,0,none⟩) 2 2] rfl rfl rfl dA)<|oh 12 dA<|rA rfl rfl<|oC 3 ([VB (a3:Int),VB ((l.lv:Int)+1), .slice (some ⟨B,0,none⟩) 2 2]) A<|λdd A i2=>?_
        have W2:=I6.add1 i2 iD;refine⟨W2,?_⟩;replace f:=f.only i2 (ai f3);replace i:=i.only i2 (ai f4);replace q:=q.only i2 (ai f5);replace F:=F.only i2 eG;replace H:=H.only i2 (bu q1);replace D:=D.only i2 jo;replace E:=E.only i2 dB;refine pq dA ?_;have q0:=A.lt;refine oM ⟨(S,B),VF,A,H,E,F.weak (λb hb=>by
         simp only[ak]at hb |-;rcases hb with h|h<;>simp[h]),D,by dsimp only;omega,by dsimp only;omega,dB⟩
     ·
      rintro⟨S,B⟩ de q2 ⟨A,H,E,F,W3,U,T,W4,W7⟩;dsimp only at A H E F U T W4 W7;have a4:=H6 dB;obtain⟨I7,I8,W8⟩:=a4;obtain⟨a3,t9⟩:=aa (gs.getD (j+1) 0);rw[t9]at I7 I8 A;have I9:=E.f;rw[<-H7]at I9;obtain⟨z6,n8,z7,z8,z9,A0⟩:=I9;have g4:=Below.refl q2.heap.size q2;have J0:∀ b∈h4,b<h6:=λb hb=>E.lt b jX
      have dg:S∉(Value.slice e9 (out.length+2) f0).ownBlock.toList:=by
        rw[f1];exact λC=>by have:=J0 _ C;omega
      have W9:((l.lv:Int)+1)=((l.lv+1:Nat):Int):=by omega
      rw[W9]at A;have J1:qC q2 (B::A6) (oQ ⟨a3,l.lv+1,[([],(0,0,l.n)),(K,(0,0,G))]⟩ (some ⟨B,0,none⟩) 2) ⟨a3,l.lv+1,[([],(0,0,l.n)),(K,(0,0,G))]⟩:=by
        have V:sV q2 (B::A6) (pV none 0 (([]:Key),(0,0,l.n))) (([]:Key),(0,0,l.n)):=⟨none,0,rfl,nM.nil _ _ _,(λg o h=>nomatch h),ax _⟩;exact⟨_,_,_,rfl,H.tY (m:=2) (sz:=4) rfl dB,(rD.one V).snoc (n8.mono λb hb=>aj _ hb),(λg o e=>by cases e;exact aK ..),ax _⟩
      obtain⟨j7,q3⟩:=aa (oQ ⟨a3,l.lv+1,[([],(0,0,l.n)),(K,(0,0,G))]⟩ (some ⟨B,0,none⟩) 2);have X0:j7.length=3:=by rw[<-q3];rfl
      have X1:∀ u∈j7,u.oneCell'=true:=by rw[<-q3];exact vQ _ _ _
      have X2:j7[0]?=some (VB (a3:Int)):=by rw[<-q3];rfl
      replace A:row q2 S j7 87:=by rw[<-q3];exact A
      rw[q3]at J1;refine qH ((Value.slice e9 (out.length+2) f0).ownBlock.toList) dA ?_;intro di J2 J3;replace A:=A.new J2;replace g4:=g4.acc J2;have J4:=A;have dj:=g4;refine nu 0 (nS)<|nR 1 (λw' c8=>pz 3 (J4.kq c8))<|nu 4 (nG 0)<|nR 5 (λw' c8=>oK rfl (Ld.ru (J4.kq c8) dA X2))<|oh 2 dA<|rf rfl rfl<|tT (e:=87) (.agg j7.toArray) (j7) ([VB 0,VB 0,VC]) 3 dA dA rfl rfl iw ⟨iT,iT⟩<|λX3 dk A5 X4 A7=>?_
      have J5:=J3.add0 A7;refine⟨J5,?_⟩;have dl:=ag J3.size A5;have dn:=ag g4.size A5;have dp:S<X3:=ae A.lt A5;replace A:=A.new A7;replace g4:=g4.acc A7;refine oh 3 dA ?_;have X5:=X4.tY (m:=1) (sz:=3) (by rw[X0]) dB;have A8:=z7.new g4;have dq:=g4.size;have i3:=g4;refine rf rfl rfl<|tu (e:=87) (sz:=3) (bytes:=40) (z:=.agg ([VB 0,VB 0,VC]).toArray) dA rfl dA rfl iT rfl A8 rfl X5 X1 jB dB (λE7=>dB)<|λdr ds A9 u6 J6=>?_
      have X6:=J5.add (Kp.rU u6) (λg C=>by first |exact Or.inr C|exact Or.inr (aj _ C)|(have:=(A8.lt g (ah.1 C)).1;left;omega)|exact(hfr7 g (ah.1 C)).elim (λe=>Or.inr (ah.2 e)) (λe=>Or.inl dB)|exact(hfr7 g (ah.1 C)).elim (λe=>Or.inr (aj _ (ah.2 e))) (λe=>Or.inl dB));refine⟨X6,?_⟩;refine nu 6 (rO)<|nu 7 (rO)<|pq dA<|pO<|nJ<|nO<|ng<|mZ (vZ rfl rfl (Coup.nV dB))<|nA<|oI ?_
      have j8:=Kp.rU u6;obtain⟨J7,J8,rfl⟩:=A9.form;have X7:=F.lt;have X8:=(F.new i3).Mg (λb hb=>aj _ (y8 b (by rw[<-f1];exact hb))) u6 J6 A9;have B1:∀ b∈B::A6,b∉(Value.slice e9 (out.length+2) f0).ownBlock.toList:=λb hb C=>by
        rw[f1]at C;rcases ak.1 hb with y|y
        .have:=J0 b C;omega
        .exact(l7 b y).2.2 C
      have u7:∀ b∈A6,b∉(Value.slice e9 (out.length+2) f0).ownBlock.toList:=λb hb=>B1 b (aj _ hb)
      have J9:∀ b∈B::A6,b∈B::d8:=λb hb=>by
        rcases ak.1 hb with y|y
        .rw[y];exact aK ..
        .exact aj _ (l7 b y).1
      have dt:=j8.size;have X9:I∉(Value.slice e9 (out.length+2) f0).ownBlock.toList:=λC=>by rw[f1]at C;have:=H3 _ C;omega
      refine oM ⟨⟨0,(K,(0,0,G)),a6,a7,p4++[⟨a3,l.lv+1,[([],(0,0,l.n)),(K,(0,0,G))]⟩], .slice J7 (out.length+2+1) J8,z2++j7,B::A6,(Value.slice J7 (out.length+2+1) J8).ownBlock.toList++(B::d8),j+2,a3⟩,gN Q,⟨congrArg (Value.int .i64) (show(Q:Int) - 1=((0:Nat):Int) - 1 by omega),rfl,rfl,rfl,rfl,rfl,rfl⟩,
        ⟨λh=>absurd h (ic 0),λ_=>⟨I7.symm,by rw[I8];rfl,W8.symm⟩,((n8.new i3).nD j8 u7).mono λb hb=>aj _ hb,F4,(z6.new i3).nD j8 X9,by dsimp only;rw[aA,H5];exact A9,by dsimp only;rw[aA,H5];simp only[aD,aY];have:=q4 (gN Q);omega,λh=>absurd h (ic 0),(((z8.new i3).nD j8 u7).mono λb hb=>aj _ hb).snoc ((J1.new i3).nD j8 B1),((z9.new i3).nD j8 u7).mono λb hb=>aj _ hb,(A0.new i3).nD j8 λg o e=>u7 g (p3 g o e),λb hb=>⟨aB _ (J9 b hb),λe=>?_,λC=>?_⟩,λg o e=>aj _ (p3 g o e),λb hb=>aF _ hb,aB _ (aj _ (f2 _ l3)),λb hb=>aB _ (aj _ (e3 b hb))⟩,X8,(W3.new i3).own A8 u6 m6,dB⟩
      · rcases ak.1 hb with y|y
        .have:=E.lt I ig;omega
        .exact(l7 b y).2.1 e
      · rcases J6 b (ah.1 C)with a1|a1
        .exact B1 b hb<|ah.2 a1
        .have:=X7 b (J9 b hb);omega
    ·
     refine nU<|pO<|nJ<|nO<|ng<|mZ (vZ rfl rfl (Coup.nV dB))<|nA<|oI<|oM ⟨⟨Q,(K,(0,0,G)),a6,a7,out++[⟨l.n,l.lv,d5⟩,⟨G,l.lv,b6⟩], .slice e9 (out.length+2) f0,vs++(oQ ⟨l.n,l.lv,d5⟩ g1 g2++oQ ⟨G,l.lv,b6⟩ d6 d7),A6,d8,j+1,root⟩,il Q,VF,⟨λ_=>⟨B9,by dsimp only;omega,?_,?_⟩,λe=>absurd (show(Q:Int)=0 by dsimp only at e;omega) H8,z0,F4,f,by dsimp only;rw[aA,t7];exact d1,by dsimp only;rw[aA];simp only[aD,aY];have:=q4 (gN Q);omega,λ_=>by dsimp only;rw[aA];simp only[aD,aY];have:=q4 (gN Q);omega,by dsimp only;rw[p5,t7];exact t6,z1,H4,by dsimp only;rw[f1];exact l7,p3,by dsimp only;rw[f1];exact y8,f2 _ l3,λb hb=>f2 b (s9 b hb)⟩,y9,D,?_⟩
     · dsimp only
       rw[p5];exact z3
     · exact z4
     · show B0<=(t4).heap.size
       rw[z5];exact V0
 ·
  dsimp only at v0;obtain rfl:k=0:=by omega
  have a4:=B6 rfl;obtain⟨d3,g6,y⟩:=a4;subst d3;subst g6;subst y;refine qL<|qK<|rq<|qO<|nJ<|ny<|ng<|ng<|nA<|nA<|oI<|nJ<|nY<|ou [_,_] ⟨rfl,rfl,trivial⟩ ?_
  exact⟨v,vs,bl,Lc,rfl,og.mono m7 m6,q5,λb hb=>⟨(e6 b hb).1,(e6 b hb).2.2⟩,k0,q6,e4,f6⟩
end
end Go.Proofs.YtpaniebomegnbaaGreat
namespace Coup
open Go Go.RowKit
variable {P:Program}{n:Nat}{w:World}
theorem zjW {f:FuncId} {fn:Func} {id d:Nat} {ats:Array Nat} {ty1:TypeId} {pos1:String} {af1:Array Edge} {rest:Code} {rs:List ResultVar} {args:List Value} {A:Value->World->Prop} {u u2:FrameMode} {x:Value}
  (hf:P.funcs[f]?=some fn) (hb:fn.body=some (.seq (.region id #[⟨some d, .call ⟨.builtin .recover,#[],ats⟩,ty1,pos1,af1,none⟩] false) rest)) (hr:fn.results=rs.toArray) (hn:fn.ntmps=n)
  (hok:codeOk n rest=true) (hd:Nat.blt d n=true) (hl:Nat.ble args.length n=true)
  (hu:∀ (c₀:Frame) (cs:List Frame),c₀.mode=u->recoverD (c₀::cs)=some (x,{c₀ with mode:=u2}::cs)\/(recoverD (c₀::cs)=none/\u2=u/\x= .nilIface))
  (h:W (λrd=>rd=none) P n rest (DW P rs A) (up (Ib args) d x) w):CallsDIn Fence.wide 8 P f args.toArray u w (λen u' w'=>u'=u2/\qb A en w'):=by
 have C:args.length<=n:=iG hl;have t:=Sz (n:=n) args fn.ntmps hn C;refine callsDIn_of_wpSIn hf hb trivial λc₀ cs u=>wpSIn_seq (wpSIn_region ?_)
 have y:∀ (o:List Frame),o={c₀ with mode:=u2}::cs->∀ g,Ag n g (up (Ib args) d x)->rest.wpSIn Fence.wide 8 P (bodyPostS P fn c₀ cs λen u' w'=>u'=u2/\qb A en w') g o w:=by
  rintro o rfl g D;refine wpSIn_of_wpIn rfl ?_;have E:=h hok none g rfl D;have F:rest.wpIn Fence.wide 8 P (lift n (DW P rs A)) g w:=λb k cs G hb hr=>E b k cs G hb (room_wide _)
  refine wpIn_mono F ?_;rintro en O w2 ⟨Q,m,f⟩;cases en with
  |normal=>
   obtain⟨p,vs,q,r⟩:=f;exact⟨by rw[m.d,p];rfl,u2,rfl,_,Og hr m.t q,rfl,_,rfl,r⟩
  |ret=>
   obtain⟨p,vs,q,r⟩:=f;exact⟨by rw[m.d,p];rfl,u2,rfl,_,Og hr m.t q,rfl,_,rfl,r⟩
  |exit i=>exact f.elim
  |goto l=>exact f.elim
  |panic c=>exact f.elim
  |outgrown=>exact f.elim
 have H:d<n:=by simpa using hd
 generalize ({tmps:=args.toArray++Array.replicate (fn.ntmps - args.toArray.size) undef,defers:=[]}:Act)=a at t |-;have z:∀ v,Ag n (a.put (some d) v) (up (Ib args) d v):=λv=>t.put (some d) (λk I=>by cases I;exact H) v
 have J:(execOp a.eval ⟨some d, .call ⟨.builtin .recover,#[],ats⟩,ty1,pos1,af1,none⟩).run P w= .ok .recover w:=rfl;have key:∀ (e:Oper),Region.wanted e (λj=>yielded #[e] a.tmps j)=true->e.dst=some d->(execOp a.eval e).run P w= .ok .recover w->
   wpOpsSIn Fence.wide 8 P #[e] (Exit.thenS (rest.wpSIn Fence.wide 8 P (bodyPostS P fn c₀ cs λen u' w'=>u'=u2/\qb A en w')) (bodyPostS P fn c₀ cs λen u' w'=>u'=u2/\qb A en w')) [0] a (c₀::cs) w:=by
  intro e w1 B K;have L:(#[e]:Array Oper)[0]?=some e:=rfl;simp only[wpOpsSIn,L];refine⟨λ_ _=>trivial,?_⟩;have M:Region.wanted e (yielded #[e] a.tmps)=true:=w1;simp only[M,if_true,K];rcases hu c₀ cs u with s|⟨s,rfl,rfl⟩
  .simp only[s]
   rw[B];exact y _ rfl _<|z _
  .simp only[s]
   have N:∀ u2,c₀.mode=u2->c₀::cs={c₀ with mode:=u2}::cs:=λu2 h=>by subst h;rfl
   rw[B];exact y (c₀::cs) (N _ u) _<|z _
 exact key _ rfl rfl J
end Coup
namespace Go.Proofs.YtpaniebomegnbaaGreat
open Go Go.RowKit Coup
theorem KE(a:Value)(w:World):CallsDIn Fence.wide 8 Tryz.prog 102 [a].toArray .returning w (λen u' w'=>u'= .returning/\qb (λ_ w'=>VD w w') en w'):=by
 have a:=Below.refl w.heap.size w;refine zjW (rs:=[]) (n:=15) (x:=.nilIface) (u:=.returning) (u2:=.returning) Tryz.func102 rfl rfl Tryz.ntmps102 dA rfl rfl (λc cs e=>.inr ⟨Cn c cs e,rfl,rfl⟩)<|pE<|ny<|mZ (ztg dA rfl)<|nk<|vD rfl (rfl)<|nO<|nA<|oI<|pO<|Te [] trivial ?_
 exact a
theorem LZ(e:Int)(ge:Nat)(v0:Value)(w:World)(hx:row w ge [v0] 46):
  CallsDIn Fence.wide 8 Tryz.prog 102 [VA ge].toArray (.panicking (pe (yA e))) w (λen u' w'=>u'= .panicking [{v:=yA e,recovered:=true}]/\qb (λ_ w'=>tC [ge] w w'/\row w' ge [VB e] 46) en w'):=by
 have a:=tC.refl [ge] w;have o:=hx.lt;refine zjW (rs:=[]) (n:=15) (x:=yA e) (u:=.panicking (pe (yA e))) (u2:=.panicking [{v:=yA e,recovered:=true}]) Tryz.func102 rfl rfl Tryz.ntmps102 dA rfl rfl (λh cs i=>.inl (Ep _ h cs i))<|pE<|ny<|mZ (zth dA rfl)<|nk<|ui rfl (rfl)<|ny<|mZ (zkT dA rfl)<|mZ (nW rfl rfl)<|mZ (nW rfl rfl)<|nk<|vD rfl (rfl)<|ny<|nK<|oD ([VB 0]) dA<|λj p k c f=>?_
 have l:ge<j:=ae hx.lt k;replace a:=a.new f;replace hx:=hx.new f;refine nT<|oC 1 ([VB e]) c<|λq c g=>?_
 replace a:=a.only g iB;replace hx:=hx.only g (ai l);refine nk<|nO<|ng<|mZ (nG 0)<|mZ (nH c)<|mZ (oo rfl)<|nT<|pQ hx<|λr hx m=>?_
 replace a:=a.only m iB;refine oI<|pO<|Te [] trivial ?_
 exact⟨a,hx⟩
section
variable {ρ:Env}{w:World}{rs:List ResultVar}{A:Value->World->Prop}{B:List PanicEntry->World->Prop}
theorem znk{a:Value}(hms:ρ.ms=[.fn 102 [] [a]])(h:∀ w',VD w w'->∃ vs,xA Tryz.prog w' ρ rs vs/\A (pack vs) w'){x:Exit}(hx:x= .ret\/x= .normal):MV Tryz.prog rs A B x ρ w:=by
 have c:Bc Tryz.prog rs A B ρ ρ.ms .returning w:=by
  rw[hms];refine⟨ig,dA,(KE a w).mono ?_⟩;rintro e f w' ⟨rfl,v,rfl,hb⟩;exact h w' hb
 rcases hx with rfl|rfl<;>exact c
theorem znl (e:Int) (ge:Nat) (v0:Value) (hms:ρ.ms=[.fn 102 [] [VA ge]]) (re:row w ge [v0] 46)
  (hA:∀ w',tC [ge] w w'->row w' ge [VB e] 46->∃ vs,xA Tryz.prog w' ρ rs vs/\A (pack vs) w'):MV Tryz.prog rs A B (.panic (pe (yA e))) ρ w:=by
 show Bc Tryz.prog rs A B ρ ρ.ms (.panicking (pe (yA e))) w;rw[hms];refine⟨ig,dA,(LZ e ge v0 w re).mono ?_⟩;rintro f g w' ⟨rfl,v,rfl,a,c⟩;exact hA w' a c
end
section
variable {Y:VE}[hYT:nz Y]{q N lo:Nat}{L:List Nat}{G V:Nat->Pg}{k:Nat}{w:World}
theorem Yc(tb hb:Nat)(h:Two (GZ q N G V k) Y lo L w)(hr:row w tb [VA q,VA hb] 50){bl:List Nat}{xs:List Value}{x:MN}(hnd:qC w bl xs x)(hlv:x.lv<256)(hk:∀ c∈x.cs,c.1.length<=300)(hf:uM x.lv x.cs=true)(hn:x.n<N):
  CQ 48 [VA tb, .agg xs.toArray] w (λv w'=>v= .tuple #[]/\Two (GZ q N (um G x.n (oW (rW x))) V k) Y lo L w'/\nC lo L w w'):=by
 have e:=Below.refl w.heap.size w;have a:=nC.refl lo L w;have f:=h;have u:=λw' (y:qC w' bl xs x)=>Ai w' y hlv hk
 have z:(oW (rW x)).length=512:=by
  have D:=hf;rw[Oh]at D;have E:=vk (GK hk (of_decide_eq_true D));rw[oL]at E;exact E
 have F:=λw' L' (y:Two (GZ q N G V k) Y lo L' w')=>Dy y x.n hn z
 rw[hf,if_pos rfl]at u;obtain⟨Z,I⟩:=aa (oW (rW x));rw[I]at u F z |-;have a1:(bv Z).length=512:=by rw[oL];exact z
 have J:=hnd.QW;obtain⟨a2,a3⟩:=J;have K:xs[0]?=some (VB (x.n:Int)):=by obtain⟨p,a4,_,rfl,_⟩:=hnd;rfl
 refine nZ (rs:=[]) (n:=20) Tryz.func48 rfl rfl Tryz.ntmps48 dA rfl<|ny<|nK<|qi xs rfl<|λA M B c o=>?_
 have a5:=ag e.size B;have a6:=a.size;have a7:tb<A:=ae hr.lt B;replace f:=f.nL o B c.lt;replace a:=a.new o;replace hr:=hr.new o;replace e:=e.acc o;refine qx<|mZ (pz 3 c)<|nP (u M (hnd.new e)) ?_
 rintro _ a8 ⟨rfl,i⟩;replace f:=f.new i;replace a:=a.new i;replace hr:=hr.new i;replace c:=c.new i;replace e:=e.acc i;refine ng<|mZ (nW rfl rfl)<|mZ (nW rfl rfl)<|nK<|oD (List.replicate 512 (Value.int .u8 0)) dA<|λC a9 r g j=>?_
 have O:=ag e.size r;have P:tb<C:=ae hr.lt r;have Q:A<C:=ae c.lt r;replace f:=f.nL j r g.lt;replace a:=a.new j;replace hr:=hr.new j;replace c:=c.new j;replace e:=e.acc j;rw[AR]at g;refine nT<|oC 512 (bv Z) g<|λb0 g l=>?_
 replace f:=f.only l eG;replace a:=a.oq l;replace hr:=hr.only l (ai P);replace c:=c.only l (ai Q);replace e:=l.below e O;refine nA<|nk ?_
 have b1:=e.size;refine vX (lo) ((C::A::L)) dA ?_;intro R m S H;replace f:=f.new m;replace a:=a.new m;replace hr:=hr.new m;replace c:=c.new m;replace g:=g.new m;have b2:=f;have b3:=a;have b4:=hr;have T:=c;have U:=g;refine nu 0 (nS)<|nu 1 (oo rfl)<|nu 2 (nG 0)<|nu 4 (nG 0)<|nR 5 (λw' s=>oK rfl (Ld.ru (T.kL s) dA K))<|nR 6 (λw' s=>pz 512 (U.kL s))<|oh 3 dA<|Bi rfl rfl (nH hr) H<|oh 7 dA<|qw rfl rfl (oz dA rfl) (F R _ f) ?_
 rintro _ b5 ⟨rfl,X,t⟩;have a0:=H.vv S t.wk;refine⟨a0,?_⟩;replace a:=a.lq t;replace c:=c.kl t;replace g:=g.kl t;refine zh 8 dA rfl (λ_=>oz dA rfl) (λw' s=>KA w')<|pq dA<|zS [] trivial ?_;exact⟨rfl,X.weak (λb hb=>by simp[hb]),a⟩
end
section
variable {Y:VE}[hYT:nz Y]{q N lo:Nat}{L:List Nat}{G V:Nat->Pg}{k:Nat}{w:World}
theorem Uo (tb hb:Nat) (h:Two (GZ q N G V k) Y lo L w) (hr:row w tb [VA q,VA hb] 50) {kp:Option Addr} {kn kc:Nat} (kf:Nat) (caps:List Value) (hcan:vC Tryz.prog kf=true)
  (A:(Nat->Pg)->(VE)->Prop) (E:Int->(Nat->Pg)->(VE)->Prop) (hAT:∀ G' Y',A G' Y'->nz Y') (hET:∀ e G' Y',E e G' Y'->nz Y')
  (hdo:∀ L' w',(∀ b∈L,b∈L')->nC lo L w w'->Two (GZ q N G V k) Y lo L' w'->Calls Tryz.prog kf caps.toArray w'
   (ul (λ_ w2=>∃ G' Y',A G' Y'/\Two (GZ q N G' V k) Y' lo L' w2/\nC lo L' w' w2) (λc w2=>∃ e G' Y',E e G' Y'/\c=pe (yA e)/\Two (GZ q N G' V k) Y' lo L' w2/\nC lo L' w' w2))):
  CQ 35 [VA tb, .slice kp kn kc, .bool true, .func (.func kf) #[] caps.toArray] w (λv w'=>(∃ G' Y',A G' Y'/\v=VB 0/\Two (GZ q N G' V k) Y' lo L w'/\nC lo L w w')\/
   (∃ e G' Y',E e G' Y'/\v=VB e/\Two (GZ q N G' V k) Y' lo L w'/\nC lo L w w')):=by
 have B:=λw' L' (C:Two (GZ q N G V k) Y lo L' w')=>QD C
 have a:=nC.refl lo L w;have i:=h;have H:=h.lo;refine Xh<|xg (rs:=[.cell 8 46]) (n:=40) Tryz.func35 rfl rfl Tryz.ntmps35 dA rfl<|ny<|nK<|oD ([VB 0]) dA<|λj p r f l=>?_
 have I:=a.size;have J:tb<j:=ae hr.lt r;replace i:=i.nL l r f.lt;replace a:=a.new l;replace hr:=hr.new l;refine mQ ?_;rintro _ _ ⟨rfl,rfl⟩;refine nA<|nk<|ui rfl (rfl)<|ny<|ng<|mZ (sj rfl)<|ng<|NC 28 (.bool false) (rfl)<|nN<|nN<|nN<|nN<|uK rfl<|uK rfl<|uK rfl<|nN<|mZ (oP rfl)<|nA<|nk<|ui rfl (rfl)<|nU<|pO<|nJ<|ny<|WV (λ_ h=>h) rfl rfl<|qx<|ng ?_
 have K:=f.lt;have D:∀ b∈L,b∈j::L:=λb hb=>aj _ hb
 refine wN rfl (uH hcan rfl rfl) (hdo (j::L) p D a i) ((λc w' ⟨e,G2,m,s,E,g,t⟩=>by subst E;haveI:=hET _ _ _ s;exact znl e j _ rfl (f.kl t (.inr ig)) λM u F=>⟨[_],⟨⟨_,rfl,Ld.ru F dA rfl⟩,trivial⟩, .inr ⟨e,G2,m,s,rfl,(g.nD u.k λb hb=>.inr (by simpa using Or.inl (aJ.1 hb))).weak λb hb=>aj _ hb,(a.ll t λb hb=>aj _ hb).nD u.k λb hb=>.inr (by rw[aJ.1 hb];omega)⟩⟩)) ?_;rintro _ O ⟨G2,m,y,g,z⟩
 haveI:=hAT _ _ y
 replace a:=a.lq z;replace f:=f.kl z;refine qx<|nT<|pQ f<|λP f A=>?_
 replace a:=a.oq A;replace g:=g.only A eG;refine nk<|nY<|znk rfl ?_<|.inl rfl
 rintro Q o;exact⟨[VB 0],⟨⟨_,rfl,Ld.ru (f.new o) dA rfl⟩,trivial⟩, .inl ⟨G2,m,y,rfl,(g.new o).weak λb hb=>by simp[hb],a.new o⟩⟩
theorem TJ (tb hb:Nat) (h:Two (GZ q N G V k) Y lo L w) (hr:row w tb [VA q,VA hb] 50) {kp:Option Addr} {kn kc:Nat} (hmay:1<=kn/\kn<=100) (kf:Nat) (caps:List Value) (hcan:vC Tryz.prog kf=true)
  (A:(Nat->Pg)->(VE)->Prop) (E:Int->(Nat->Pg)->(VE)->Prop) (hAT:∀ G' Y',A G' Y'->nz Y') (hET:∀ e G' Y',E e G' Y'->nz Y')
  (hdo:∀ L' w',(∀ b∈L,b∈L')->nC lo L w w'->Two (GZ q N G V k) Y lo L' w'->Calls Tryz.prog kf caps.toArray w'
   (ul (λ_ w2=>∃ G' Y',A G' Y'/\Two (GZ q N G' V k) Y' lo L' w2/\nC lo L' w' w2) (λc w2=>∃ e G' Y',E e G' Y'/\c=pe (yA e)/\Two (GZ q N G' V k) Y' lo L' w2/\nC lo L' w' w2))):
  CQ 35 [VA tb, .slice kp kn kc, .bool false, .func (.func kf) #[] caps.toArray] w (λv w'=>(∃ G' Y',A G' Y'/\v=VB 0/\Two (GZ q N G' V k) Y' lo L w'/\nC lo L w w')\/
   (∃ e G' Y',E e G' Y'/\v=VB e/\Two (GZ q N G' V k) Y' lo L w'/\nC lo L w w')):=by
 have B:=λw' L' (C:Two (GZ q N G V k) Y lo L' w')=>QD C
 have a:=nC.refl lo L w;have i:=h;have H:=h.lo;refine Xh<|xg (rs:=[.cell 8 46]) (n:=40) Tryz.func35 rfl rfl Tryz.ntmps35 dA rfl<|ny<|nK<|oD ([VB 0]) dA<|λj p r f l=>?_
 have I:=a.size;have J:tb<j:=ae hr.lt r;replace i:=i.nL l r f.lt;replace a:=a.new l;replace hr:=hr.new l;refine mQ ?_;rintro _ _ ⟨rfl,rfl⟩;refine nA<|nk<|ui rfl (rfl)<|ny<|ng<|mZ (sj rfl)<|ng<|NC 28 (.bool true) (rfl)<|nE<|ng<|nE<|mZ (oV (e:=5) (sz:=1) dA rfl rfl)<|nE<|mZ (pI rfl rfl)<|nE<|ng<|uy 32 rfl (dB)<|nE<|ng<|nE<|mZ (oV (e:=5) (sz:=1) dA rfl rfl)<|nE<|mZ (rz rfl rfl)<|nE<|mZ (oP rfl)<|mZ (pK rfl)<|nA<|nk<|qg rfl (dB)<|nU<|pO<|nJ<|ny<|WV (λ_ h=>h) rfl rfl<|qx<|ng ?_
 have K:=f.lt;have D:∀ b∈L,b∈j::L:=λb hb=>aj _ hb
 refine wN rfl (uH hcan rfl rfl) (hdo (j::L) p D a i) ((λc w' ⟨e,G2,m,s,E,g,t⟩=>by subst E;haveI:=hET _ _ _ s;exact znl e j _ rfl (f.kl t (.inr ig)) λM u F=>⟨[_],⟨⟨_,rfl,Ld.ru F dA rfl⟩,trivial⟩, .inr ⟨e,G2,m,s,rfl,(g.nD u.k λb hb=>.inr (by simpa using Or.inl (aJ.1 hb))).weak λb hb=>aj _ hb,(a.ll t λb hb=>aj _ hb).nD u.k λb hb=>.inr (by rw[aJ.1 hb];omega)⟩⟩)) ?_;rintro _ O ⟨G2,m,y,g,z⟩
 haveI:=hAT _ _ y
 replace a:=a.lq z;replace f:=f.kl z;refine qx<|nT<|pQ f<|λP f A=>?_
 replace a:=a.oq A;replace g:=g.only A eG;refine nk<|nY<|znk rfl ?_<|.inl rfl
 rintro Q o;exact⟨[VB 0],⟨⟨_,rfl,Ld.ru (f.new o) dA rfl⟩,trivial⟩, .inl ⟨G2,m,y,rfl,(g.new o).weak λb hb=>by simp[hb],a.new o⟩⟩
end
theorem Xr:∀ {l:Nat} {t:Tr l} {k lo hi:Key},qJ l t lo hi->qR k->pW lo k->rR k hi->(ze l t k)[l]?=some (nX 0 (zn l t k),0)
 |0,_,_,_,_,_,_,_,_=>rfl
 |l+1,t,k,lo,hi,h,hk,hlo,hhi=>by
  obtain⟨A,x,B,e,g,a,c,f,_,_,_⟩:=zR h hk hlo hhi;rw[Pt a,gI,Xr (h.2.2.2.2 A x B e) hk c f];show some (nX 0 (zn l x.2 k),0)=_;unfold zn;rw[a]
theorem Wy{N:Nat}{H:HS}:∀ {l:Nat} {t:Tr l} {k lo hi:Key},yh N H l t->qJ l t lo hi->qR k->pW lo k->rR k hi->yh N H 0 (zn l t k)
 |0,_,_,_,_,h,_,_,_,_=>h
 |l+1,t,k,lo,hi,ht,h,hk,hlo,hhi=>by
  obtain⟨A,x,B,e,g,a,c,f,_,_,_⟩:=zR h hk hlo hhi;rw[zn,a];exact Wy (ht.kid (x:=x) kz) (h.2.2.2.2 A x B e) hk c f
theorem Cg{α:Type}{ks:List (Key × α)}{k:Key}(h:isK ks k=true):∃ x,ks[pY ks k]?=some x/\x.1=k:=by
 unfold isK at h
 split at h
 .rename_i x a;exact⟨x,a,of_decide_eq_true h⟩
 .cases h
section
variable {Y:VE}[hYT:nz Y]{q N lo:Nat}{L:List Nat}{V:Nat->Pg}{k:Nat}{H:HS}{fl:List Nat}{w:World}
theorem OD (gt gk ga tb hb:Nat) (v0:List Value) (h:Two (GZ q N (nQ H) V k) (rH Y ga v0 30) lo L w) (hv0:v0.length=2) (hH:rC N H fl) (hrt:row w gt [VA tb] 37) (hr:row w tb [VA q,VA hb] 50) (htb:tb<lo\/tb∈L) (hrh:row w hb [VA q] 201) (hhb:hb<lo\/hb∈L)
   {l:Nat} {t:Tr l} (ht:yh N H l t) (hs:qJ l t [] []) (hroot:H.F.root=t.n) {pk:Option Addr} {ck:Nat} {key:Key} (hrk:row w gk [.slice pk key.length ck] 23) (hgk:gk<lo\/gk∈L) (hkey:nM w pk key.length 1 (bv key)) (hkL:∀ g o,pk=some ⟨g,o,none⟩->g<lo\/g∈L) (hkk:qR key):
   Calls Tryz.prog 52 [VA gt,VA gk,VA ga].toArray w
     (ul (λ_ w'=>∃ v:Nat × Nat,(key,v)∈oO l t/\Two (GZ q N (nQ H) V k) (rH Y ga [VB (v.1:Int),VB (v.2:Int)] 30) lo L w'/\nC lo L w w') (λc w'=>(∀ v,(key,v)∉oO l t)/\c=pe (yA 6)/\Two (GZ q N (nQ H) V k) (rH Y ga v0 30) lo L w'/\nC lo L w w')):=by
 have g:=nC.refl lo L w;have a4:=BQ tb hb (ck:=ck) h hH hr htb hrh hhb ht hs hroot hkey hkL hkk;obtain⟨⟨e0,e1,E⟩,F⟩:=Ws hs hkk (vF key) (.inl rfl);have S:=Wy ht hs hkk (vF key) (.inl rfl);have T:=Xr hs hkk (vF key) (.inl rfl);obtain⟨a,a5⟩:=aa (zn l t key);rw[a5]at E F S T;have U:=S.zZ E;have e2:=U.few;have a6:=U.keys.1;have e3:=ht.lv;have e4:maxLen=9223372036854775807:=by decide
 refine xg (rs:=[]) (n:=33) Tryz.func52 rfl rfl Tryz.ntmps52 dA rfl<|ny<|mZ (nH hrt)<|mZ (nH hrk)<|nP a4 ?_
 rintro _ q ⟨vs,bl,e5,V,X,e6,e7,G,o,a7⟩;replace g:=g.ll a7 (λb hb=>hb);have a8:=V;obtain⟨e8,e9,rfl⟩:=a8.form;have Y:=V.sl;have p:=Y.some dB;obtain⟨a9,b0,rfl,f0⟩:=p;have p:=X.at_ l _ T;obtain⟨xs,b1,H⟩:=p;replace H:qC q bl xs (nX 0 a):=H;obtain⟨r,s,B,rfl,I,J,b2,b3⟩:=H;have b4:=X.len;have b5:=SE hs hkk (vF key) (.inl rfl);have b6:(vs.drop (l*4)).take 4=zA (nX 0 a) r s 0:=b1;have b7:∀ w',Below (q).heap.size q w'->Ld Tryz.prog w' 97 ⟨a9,b0+l*4,none⟩ (.agg (zA (nX 0 a) r s 0).toArray):=λw' hb=>by
   have y:=Ld.zu (P:=Tryz.prog) (t:=97) (j:=l*4) (k:=4) (Y.new hb) dA dA (by rw[b4,b5];omega);rw[b6]at y;exact y
 have b8:qC q bl (oQ (nX 0 a) r s) (nX 0 a):=⟨r,s,B,rfl,I,J,b2,b3⟩;have b9:=hkey.rQ g hkL;have c4:=hrk.kl g hgk;have f1:=zpV (nX 0 a) r s 0;have f2:(zA (nX 0 a) r s 0).length=4:=rfl;have m:=Below.refl (q).heap.size q;refine oG<|ng<|ng<|mZ (oV (e:=97) (sz:=4) dA rfl rfl)<|mZ (vZ rfl rfl (show IntKind.i64.wrap (((l+1:Nat):Int) - 1)=(l:Int) by rw[nV dB];omega))<|mZ (qZ (e:=97) (sz:=4) dA rfl rfl (l) dB dB)<|mZ (oK rfl (b7 _ m))<|nK<|oD ([VB 0,VB 0,VC,VB 0]) dA<|λf3 f4 Z u K=>?_
 have c5:=ag m.size Z;have f5:=g.size;replace o:=o.nL K Z u.lt;replace g:=g.new K;replace m:=m.acc K;refine nT<|oC 4 (zA (nX 0 a) r s 0) u<|λc6 u M=>?_
 replace o:=o.only M eG;replace g:=g.oq M;replace m:=M.below m c5;refine qx<|mZ (nG 0)<|mZ (oK rfl (Ld.za (k:=3) u dA dA (by show 0+3<=4;omega)))<|mZ (oK rfl (Ld.ru (c4.new m) dA rfl))<|qA rfl (oz dA rfl) (Tt (x:=nX 0 a) c6 (b8.new m) dB a6 (b9.new m)) ?_
 rintro _ c7 ⟨rfl,C⟩;replace o:=o.new C;replace g:=g.new C;replace u:=u.new C;replace m:=m.acc C;refine ng<|mZ (nW rfl rfl)<|mZ (nW rfl rfl)<|nA<|nA<|nk<|nI<|ny<|ng<|mZ (sj rfl)<|nk<|Ki rfl (λz=>?_)<|λz=>?_
 ·
  refine nO ?_;have c8:=o.weak (L2:=L) λb hb=>aj _ (G b hb)
  have c9:∀ v,(key,v)∉oO l t:=λv N=>by
    have A:=(Yw E.AO (k:=key)).2 ⟨(key,v),(F v).1 N,rfl⟩;have d0:isK (nX 0 a).cs key=isK a.ks key:=QV _ _;rw[d0,A]at z;cases z
  refine wN rfl (oz dA rfl) (MQ 6 iT c7) ((λc w' ⟨O,a0⟩=>wY ⟨c9,O,by rw[<-a0];exact c8,by rw[<-a0];exact g⟩)) ?_;rintro _ _ d1;exact d1.elim
 ·
  have d2:isK (nX 0 a).cs key=isK a.ks key:=QV _ _;have d3:pY (nX 0 a).cs key=pY a.ks key:=VL _ _;rw[d2]at z;obtain⟨i,f,D,Q⟩:∃ (i:Key) (f:Nat × Nat),a.ks[pY a.ks key]?=some (i,f)/\i=key:=by
    have p:=Cg z;obtain⟨⟨i,f⟩,D,Q⟩:=p;exact⟨i,f,D,Q⟩
  subst Q;have a1:(nX 0 a).cs[pY a.ks i]?=some (i,v3 0 f):=QJ D;have p:=J.at_ _ _ a1;obtain⟨f6,f7,d4,_⟩:=p;have a2:=(aL.1 a1).1;have p:=I.some (eT (jk (aC _) a2) iT);obtain⟨d5,op,rfl,f8⟩:=p;have f9:pY a.ks i*4+4<=B.length:=by
    rw[J.len];have A:(pY a.ks i+1)*4<=(nX 0 a).cs.length*4:=cz 4 a2;omega
  have d6:((B.drop (pY a.ks i*4+1)).take 2)=[VB (f.1:Int),VB (f.2:Int)]:=by
    have A:(((B.drop (pY a.ks i*4)).take 4).drop 1).take 2=[VB (f.1:Int),VB (f.2:Int)]:=by rw[d4];rfl
    rw[fw,dQ,dR]at A;exact A
  have d7:∀ w',VD q w'->Ld Tryz.prog w' 30 ⟨d5,op+(pY a.ks i*4+1),none⟩ (.agg [VB (f.1:Int),VB (f.2:Int)].toArray):=λw' hb=>by
    have y:=Ld.zu (P:=Tryz.prog) (t:=30) (j:=pY a.ks i*4+1) (k:=2) (I.new hb) dA dA dB;rw[d6]at y;exact y
  have g0:[VB (f.1:Int),VB (f.2:Int)].length=2:=rfl;refine nU<|nJ<|nO<|mZ (nG 0)<|mZ (nG 2)<|mZ (nH u)<|ng<|mZ (qZ (e:=90) (sz:=4) dA rfl rfl (pY a.ks i) (by rw[d3]) dB)<|mZ (nG 1)<|mZ (oK rfl (d7 _ m)) ?_
  have O:=Ab o;obtain⟨R,g1,d8⟩:=O;have g2:ga∉L:=λN=>d8 (aj _ (G _ N))
  refine nT<|oC 2 ([VB (f.1:Int),VB (f.2:Int)]) R<|λg3 R a3=>?_
  replace g:=g.oq a3;have d9:=GR o R a3;refine oI<|FQ [] trivial ?_
  exact⟨f,(F f).2 (aO D),d9.weak λb hb=>aj _ (G b hb),g⟩
end
structure TR(q tb hb N lo:Nat)(L:List Nat)(H:HS)(fl:List Nat)(l:Nat)(t:Tr l)(w:World):Prop where
 ok:rC N H fl
 r:row w tb [VA q,VA hb] 50
 tb:tb<lo\/tb∈L
 rh:row w hb [VA q] 201
 hb:hb<lo\/hb∈L
 ti:yh N H l t
 sd:qJ l t [] []
 rt:H.F.root=t.n
namespace TR
variable {q tb hb N lo:Nat}{L L':List Nat}{H:HS}{fl:List Nat}{l:Nat}{t:Tr l}{w w':World}
theorem ll(h:TR q tb hb N lo L H fl l t w)(k:nC lo L w w'):TR q tb hb N lo L H fl l t w':=⟨h.ok,h.r.kl k h.tb,h.tb,h.rh.kl k h.hb,h.hb,h.ti,h.sd,h.rt⟩
theorem mono(h:TR q tb hb N lo L H fl l t w)(hL:∀ b∈L,b∈L'):TR q tb hb N lo L' H fl l t w:=⟨h.ok,h.r,h.tb.imp id (hL _),h.rh,h.hb.imp id (hL _),h.ti,h.sd,h.rt⟩
theorem new(h:TR q tb hb N lo L H fl l t w)(hb':VD w w'):TR q tb hb N lo L H fl l t w':=h.ll (nC.of_below hb')
end TR
theorem Ww{X Y:VE}{lo g:Nat}{L:List Nat}{w:World}{cs:List Value}{ty:TypeId}(h:Two X Y lo (g::L) w)(hr:row w g cs ty)(hg:lo<=g/\g∉L):Two X (rH Y g cs ty) lo L w:=by
 obtain⟨⟨B,C,f,i,c,e⟩,j,k⟩:=h;refine⟨⟨B,g::C,f,⟨C,rfl,i,hr,λa=>(e g a).2 (aK ..)⟩,λb hb=>⟨(c b hb).1,λa=>?_,λa=>(c b hb).2.2 (aj _ a)⟩,λb hb=>?_⟩,j,λb hb=>k b (aj _ hb)⟩
 .rcases ak.1 a with rfl|a
  .exact(c b hb).2.2 (aK ..)
  .exact(c b hb).2.1 a
 .rcases ak.1 hb with rfl|hb
  .exact hg
  .exact⟨(e b hb).1,λa=>(e b hb).2 (aj _ a)⟩
section
variable {Y:VE}[hYT:nz Y]{q tb hb N lo:Nat}{L:List Nat}{V:Nat->Pg}{k:Nat}{H:HS}{fl:List Nat}{l:Nat}{t:Tr l}{w:World}
theorem OQ(h:Two (GZ q N (nQ H) V k) Y lo L w)(hR:TR q tb hb N lo L H fl l t w){pk:Option Addr}{ck:Nat}{key:Key}(hkey:nM w pk key.length 1 (bv key))(hkL:∀ g o,pk=some ⟨g,o,none⟩->g<lo\/g∈L)(hkk:qR key):
  CQ 14 [VA tb, .slice pk key.length ck] w (λv w'=>(∃ (e:Int) (u:Nat × Nat),v= .tuple #[.agg #[VB (u.1:Int),VB (u.2:Int)],VB e]/\((e=0/\(key,u)∈oO l t)\/(e=6/\u=(0,0)/\∀ v,(key,v)∉oO l t)))/\Two (GZ q N (nQ H) V k) Y lo L w'/\nC lo L w w'):=by
 have f:=nC.refl lo L w;have A:=h;have a1:1<=key.length:=by
  cases key with
  |nil=>exact absurd rfl hkk.1
  |cons a b=>simp
 have a2:=h.lt;have b1:=h.lo;have a3:∀ (W:World) (L2:List Nat) (i j m:Nat),Two (GZ q N (nQ H) V k) (rH Y m [VB 0,VB 0] 30) lo L2 W->(∀ b∈L,b∈L2)->i∈L2->j∈L2->nC lo L w W->row W i [VA tb] 37->row W j [.slice pk key.length ck] 23->
   Calls Tryz.prog 35 [VA tb, .slice pk key.length ck, .bool false, .func (.func 52) #[] [VA i,VA j,VA m].toArray].toArray W
   (qb λv w'=>∃ (e:Int) (u:Nat × Nat),v=VB e/\((e=0/\(key,u)∈oO l t)\/(e=6/\u=(0,0)/\∀ v,(key,v)∉oO l t))/\Two (GZ q N (nQ H) V k) (rH Y m [VB (u.1:Int),VB (u.2:Int)] 30) lo L2 w'/\nC lo L2 W w'):=λW L2 i j m s J K D S p y=>by
  have T:=(hR.ll S).mono J;refine(TJ tb hb s T.r (kp:=pk) (kc:=ck) ⟨a1,hkk.2⟩ 52 [VA i,VA j,VA m] dA
   (λG' Y'=>G'=nQ H/\∃ u:Nat × Nat,(key,u)∈oO l t/\Y'=rH Y m [VB (u.1:Int),VB (u.2:Int)] 30) (λe G' Y'=>G'=nQ H/\e=6/\(∀ v,(key,v)∉oO l t)/\Y'=rH Y m [VB 0,VB 0] 30)
   (λG' Y' ⟨_,u,_,e⟩=>by subst e;infer_instance) (λe G' Y' ⟨_,_,_,a4⟩=>by subst a4;infer_instance) λL' w' M F a5=>?_).to λv w' h=>?_
  .have z:=(T.ll F).mono M
   have a6:=(hkey.rQ S hkL).rQ F λg o e=>(hkL g o e).imp id (J g)
   exact(OD i j m tb hb _ a5 rfl z.ok (p.kl F (.inr K)) z.r z.tb z.rh z.hb z.ti z.sd z.rt (ck:=ck) (y.kl F (.inr D)) (.inr (M _ D)) a6 (λg o e=>(hkL g o e).imp id λG=>M g (J g G)) hkk).BJ (λv w2 ⟨u,B,s,r⟩=>⟨_,_,⟨rfl,u,B,rfl⟩,s,r⟩) λc w2 ⟨B,s,r,C⟩=>⟨6,_,_,⟨rfl,rfl,B,rfl⟩,s,r,C⟩
  .rcases h with⟨G',Y',⟨rfl,u,B,rfl⟩,r,C,O⟩|⟨e,G',Y',⟨rfl,rfl,B,rfl⟩,r,C,O⟩
   .exact⟨0,u,r, .inl ⟨rfl,B⟩,C,O⟩
   .exact⟨6,(0,0),r, .inr ⟨rfl,rfl,B⟩,C,O⟩
 refine nZ (rs:=[.cell 4 30, .tmp 5]) (n:=12) Tryz.func14 rfl rfl Tryz.ntmps14 dA rfl<|ny<|nK<|qi ([_]) rfl<|λi w2 K p U=>?_
 have b2:=f.size;replace A:=A.nL U K p.lt;replace f:=f.new U;refine nK<|qi ([_]) rfl<|λj b3 D y P=>?_
 have b4:i<j:=ae p.lt D;replace A:=A.nL P D y.lt;replace f:=f.new P;replace p:=p.new P;refine nK<|oD ([VB 0,VB 0]) dA<|λm a7 Q X I=>?_
 have b5:i<m:=ae p.lt Q;have b6:j<m:=ae y.lt Q;replace A:=A.nL I Q X.lt;replace f:=f.new I;replace p:=p.new I;replace y:=y.new I;refine oG<|mZ (nH p)<|mZ (nH y)<|mZ (uV) ?_
 have b7:=f.size;have s:=Ww A X ⟨dB,λG=>by
  simp only[ak]at G;rcases G with R|R|R
  .omega
  .omega
  .have:=a2 _ R;omega⟩
 have Z:∀ b∈L,b∈j::i::L:=λb hb=>aj _ (aj _ hb)
 have b8:m∉j::i::L:=(Ab s).2.2;refine qA rfl (oz dA rfl) (a3 a7 (j::i::L) i j m s Z ig ig f p y) ?_;rintro _ b9 ⟨e,u,rfl,a8,r,a9⟩;replace f:=f.ll a9 Z;refine nA<|nk<|nI ?_
 have b0:=Ab r;obtain⟨E,c4,c5⟩:=b0;have c6:[VB (u.1:Int),VB (u.2:Int)].length=2:=rfl;refine nO<|mZ (pz 2 E)<|ng<|nT<|oC 2 ([VB (u.1:Int),VB (u.2:Int)]) E<|λc7 E a0=>?_
 replace f:=f.oq a0;have C:=GR r E a0;refine nA<|nk<|nY<|ou [_,_] ⟨⟨_,rfl,Ld.qI (k:=2) E dA dA gp⟩,rfl,trivial⟩ ?_
 exact⟨⟨e,u,rfl,a8⟩,(Nw C).weak λb hb=>by simp[hb],f⟩
end
theorem wB{X Y:VE}{lo g:Nat}{L:List Nat}{w:World}(h:Two X Y lo L w)(hg:g<lo\/g∈L)(hl:g<w.heap.size):Two X Y lo (g::L) w:=by
 obtain⟨⟨B,C,l,m,a,c⟩,o,p⟩:=h;have i:∀ b,lo<=b->b∉L->b∉g::L:=λb q j f=>(ak.1 f).elim (λe=>hg.elim (λk=>dB) λk=>j (e▸k)) j
 exact⟨⟨B,C,l,m,λb hb=>⟨(a b hb).1,(a b hb).2.1,i b (a b hb).1 (a b hb).2.2⟩,λb hb=>⟨(c b hb).1,i b (c b hb).1 (c b hb).2⟩⟩,o,λb f=>(ak.1 f).elim (λe=>e▸hl) (p b)⟩
section
variable {Y:VE}[hYT:nz Y]{q tb hb N lo:Nat}{L:List Nat}{V:Nat->Pg}{k:Nat}{H:HS}{fl:List Nat}{l:Nat}{t:Tr l}{w:World}
theorem zvl(gt gn:Nat)(v0:Value)(h:Two (GZ q N (nQ H) V k) (rH Y gn [v0] 3) lo L w)(hR:TR q tb hb N lo L H fl l t w)(hrt:row w gt [VA tb] 37)(hgt:gt∈L):
  Calls Tryz.prog 61 [VA gt,VA gn].toArray w
   (ul (λ_ w'=>Two (GZ q N (nQ H) V k) (rH Y gn [VB ((l+1:Nat):Int)] 3) lo L w'/\nC lo L w w') (λc w'=>False)):=by
 have hr:=hR.r;have c:=hR.rh;have f:Two (GZ q N (nQ H) V k) (rH Y gn [v0] 3) lo (tb::hb::gt::L) w:=wB (wB (wB h (.inr hgt) hrt.lt) (hR.hb.imp id (aj _)) c.lt) (hR.tb.imp id λp=>aj _ (aj _ p)) hr.lt;have a:=nC.refl lo (tb::hb::gt::L) w;have D:∀ w' L',Two (GZ q N (nQ H) V k) (rH Y gn [v0] 3) lo L' w'->row w' hb [VA q] 201->(hb<lo\/hb∈L')->CQ 51 [VA hb] w' (λv w2=>v=VB (t.n:Int)/\Two (GZ q N (nQ H) V k) (rH Y gn [v0] 3) lo L' w2/\nC lo L' w' w2):=λw' L' r s E=>by
  have:=Na hb r hR.ok s E;rw[hR.rt]at this;exact this
 have F:=λw' L' (r:Two (GZ q N (nQ H) V k) (rH Y gn [v0] 3) lo L' w') (s:row w' tb [VA q,VA hb] 50)=>OJ tb hb r s hR.ti.page.1 (x:=nX l t) rfl hR.ti.page.2 (hR.ti.zZ hR.sd)
 have T:=hR.ti.lv;have U:=(Ab h).1.lt;refine xg (rs:=[]) (n:=11) Tryz.func61 rfl rfl Tryz.ntmps61 dA rfl<|vX (lo) ((tb::hb::gt::L)) dA ?_
 intro G g z I;replace f:=f.new g;replace a:=a.new g;replace hr:=hr.new g;replace c:=c.new g;replace hrt:=hrt.new g;have X:=f;have Z:=a;have J:=hr;have a0:=c;have A:=hrt;refine nR 0 (λw' i=>nH (A.kL i))<|nR 1 (λw' i=>nH (A.kL i))<|nu 2 (oo rfl)<|nu 3 (nG 1)<|nR 4 (λw' i=>nH (J.kL i))<|oh 5 dA<|qw rfl rfl (oz dA rfl) (D G _ f c ig) ?_
 rintro _ K ⟨rfl,f,j⟩;have B:=I.vv z j.wk;refine⟨B,?_⟩;replace a:=a.lq j;replace hr:=hr.kl j;replace c:=c.nD j.kp eu;replace hrt:=hrt.nD j.kp eu;refine oh 6 dA<|qw rfl rfl (oz dA rfl) (F K _ f hr) ?_;rintro _ a1 ⟨xs,bl,rfl,M,a2,f,m⟩;have C:=B.vv z m.wk;refine⟨C,?_⟩;replace a:=a.lq m;replace hr:=hr.kl m;replace c:=c.nD m.kp eu;replace hrt:=hrt.nD m.kp eu;have O:xs[1]?=some (VB (l:Int)):=by obtain⟨a3,a4,_,rfl,_⟩:=M;rfl
 refine nu 7 (Zx (off:=1) dA rfl O)<|nu 8 (oJ rfl rfl (Coup.nV dB))<|oh 9 dA ?_
 have P:=Ab f;obtain⟨u,a5,Q⟩:=P;have a6:gn∉tb::hb::gt::L:=λp=>Q (aB _ p)
 refine rA rfl rfl<|pQ u<|λa7 u y=>?_
 have R:=C.add1 y iD;refine⟨R,?_⟩;replace a:=a.oq y;have S:=GR f u y;refine pq dA<|FQ [] trivial ?_
 exact⟨S.weak λb hb=>by simp[hb],a.weak (ax _) λb hb=>by simp[hb]⟩
theorem h_(h:Two (GZ q N (nQ H) V k) Y lo L w)(hR:TR q tb hb N lo L H fl l t w):
  CQ 18 [VA tb] w (λv w'=>v=VB ((l+1:Nat):Int)/\Two (GZ q N (nQ H) V k) Y lo L w'/\nC lo L w w'):=by
 have a:=nC.refl lo L w;have m:=h;have I:=h.lt;have U:=h.lo;have J:∀ (W:World) (L2:List Nat) (f g:Nat),Two (GZ q N (nQ H) V k) (rH Y g [VB 0] 3) lo L2 W->(∀ b∈L,b∈L2)->f∈L2->nC lo L w W->row W f [VA tb] 37->
   Calls Tryz.prog 35 [VA tb,VC, .bool true, .func (.func 61) #[] [VA f,VA g].toArray].toArray W
   (qb λv w'=>v=VB 0/\Two (GZ q N (nQ H) V k) (rH Y g [VB ((l+1:Nat):Int)] 3) lo L2 w'/\nC lo L2 W w'):=λW L2 f g j K p M i=>by
  have u:=(hR.ll M).mono K;refine(Uo tb hb j u.r (kp:=none) (kn:=0) (kc:=0) 61 [VA f,VA g] dA
   (λG' Y'=>G'=nQ H/\Y'=rH Y g [VB ((l+1:Nat):Int)] 3) (λe G' Y'=>False)
   (λG' Y' ⟨_,e⟩=>by subst e;infer_instance) (λe G' Y' h=>h.elim) λL' w' y z O=>?_).to λv w' h=>?_
  .have P:=(u.ll z).mono y
   exact(zvl f g _ O P (i.kl z (.inr p)) (y _ p)).BJ (λv w2 ⟨Q,j⟩=>⟨_,_,⟨rfl,rfl⟩,Q,j⟩) λc w2 h=>h.elim
  .rcases h with⟨G',Y',⟨rfl,rfl⟩,r,s,R⟩|⟨e,G',Y',h,_⟩
   .exact⟨r,s,R⟩
   .exact h.elim
 refine nZ (rs:=[.cell 2 3]) (n:=7) Tryz.func18 rfl rfl Tryz.ntmps18 dA rfl<|ny<|nK<|qi ([_]) rfl<|λf w1 p i A=>?_
 have X:=a.size;replace m:=m.nL A p i.lt;replace a:=a.new A;refine nK<|oD ([VB 0]) dA<|λg w2 B C t=>?_
 have Z:f<g:=ae i.lt B;replace m:=m.nL t B C.lt;replace a:=a.new t;replace i:=i.new t;refine qx<|mZ (nH i)<|mZ (uV) ?_
 have a0:=a.size;have j:=Ww m C ⟨dB,λD=>by
  simp only[ak]at D;rcases D with E|E
  .omega
  .have:=I _ E;omega⟩
 have F:∀ b∈L,b∈f::L:=λb hb=>aj _ hb
 have a1:g∉f::L:=(Ab j).2.2;refine qA rfl (oz dA rfl) (J w2 (f::L) f g j F ig a i) ?_;rintro _ a2 ⟨rfl,r,S⟩;replace a:=a.ll S F;refine nk<|nI ?_
 have T:=Ab r;obtain⟨o,a3,a4⟩:=T;refine nO<|mZ (nH o)<|nT<|pQ o<|λa5 o G=>?_
 replace a:=a.oq G;have s:=GR r o G;refine nk<|nY<|ou [_] ⟨⟨_,rfl,Ld.ru o dA rfl⟩,trivial⟩ ?_
 exact⟨rfl,(Nw s).weak λb hb=>by simp[hb],a⟩
end
section
variable {Y:VE}[hYT:nz Y]{q jb mw N lo:Nat}{L:List Nat}{G G0 V:Nat->Pg}{k:Nat}{H:HS}{fl rl:List Nat}{R:Nat->Nat->Prop}{P:Nat->Nat->List Nat}{B:Nat->Nat->List UInt8}{w:World}
def yP(H:HS)(n:Int):Int:=if n<1\/(H.F.fresh:Int)<=n then 2 else if(H.S n.toNat).kind≠3 then 6 else 0
theorem KS(g:Nat)(n:Int)(h:JH q jb mw N G0 V k H fl Y lo L w)(hx1:row w g [VB n] 3)(hgL:g∈L)(hI:∀ m∈fl,(H.S m).kind≠3):Calls Tryz.prog 107 [VA jb,VA g].toArray w
  (ul (λ_ w'=>yP H n=0/\JH q jb mw N G0 V k (wZ H n.toNat) (n.toNat::fl) Y lo L w'/\nC lo L w w') (λc w'=>yP H n≠0/\c=pe (xN (yP H n))/\JF q jb mw N G0 V k Y lo L w'/\nC lo L w w')):=by
 unfold yP
 by_cases y:n<1
 .rw[if_pos (.inl y)]
  have a:=nC.refl lo L w;obtain⟨p,G,r,j⟩:=h;obtain⟨c,s⟩:=uq j;have i:=s.vR;have e:JH q jb mw N G0 V k H fl Y lo L w:=⟨p,G,r,j⟩;refine mR ?_;intro t g E;replace a:=a.new g;replace hx1:=hx1.new g;replace e:=e.new g;have l:=hx1;refine nR 0 (λw' f=>nH (l.kq f))<|nu 1 (pI rfl rfl)<|nu 2 (nS)<|Ig 5 rfl (y)<|oU 3 dA rfl<|oU 4 dA rfl<|oU 5 dA rfl<|oU 6 dA rfl<|oU 7 dA rfl<|oU 8 dA rfl<|oU 9 dA rfl<|nu 10 (pK rfl)<|pq dA<|nJ<|vD rfl (rfl)<|nO<|wN rfl (oz dA rfl) (EB 2 iT t) ((λc w' ⟨z,o⟩=>wY ⟨iT,z,by rw[<-o];exact e.fail,by rw[<-o];exact a⟩)) ?_
  rintro _ _ A;exact A.elim
 .by_cases C:(H.F.fresh:Int)<=n
  .rw[if_pos (.inr C)]
   have a:=nC.refl lo L w;obtain⟨p,G,r,j⟩:=h;obtain⟨c,s⟩:=uq j;have i:=s.vR;have e:JH q jb mw N G0 V k H fl Y lo L w:=⟨p,G,r,j⟩;refine mR ?_;intro t g E;replace a:=a.new g;replace hx1:=hx1.new g;replace i:=i.new g;replace e:=e.new g;have l:=hx1;have B:=i;refine nR 0 (λw' f=>nH (l.kq f))<|nu 1 (pI rfl rfl)<|nu 2 (nS)<|Ap 5 rfl (y)<|nR 3 (λw' f=>nH (l.kq f))<|nu 4 (nS)<|nu 5 (oo rfl)<|nu 6 (nG 0)<|nu 7 (nG 0)<|nR 8 (λw' f=>nH (B.kq f))<|nu 9 (tV rfl rfl)<|nu 10 (oP rfl)<|pq dA<|nJ<|uT rfl (C)<|nO<|wN rfl (oz dA rfl) (EB 2 iT t) ((λc w' ⟨z,o⟩=>wY ⟨iT,z,by rw[<-o];exact e.fail,by rw[<-o];exact a⟩)) ?_
   rintro _ _ A;exact A.elim
  .rw[if_neg dB]
   obtain⟨m,rfl⟩:∃ m:Nat,n=m:=⟨n.toNat,dB⟩;rw[aW];have P:=h.ok.gd m dB dB;have F:=λw'=>QQ (H.S m) w' P
   have I:=λL' w' (J:JH q jb mw N G0 V k H fl Y lo L' w')=>WX J m dB dB
   have S:=vk P;have T:=λL' w' U (J:JH q jb mw N G0 V k H fl Y lo L' w')=>Oz J m dB dB U
   obtain⟨Q,X⟩:=aa (oW (H.S m));obtain⟨Z,R⟩:=aa ((H.S m).kind);simp only[X,R]at F I S |-
   by_cases K:Z=3
   .have a0:m∉fl:=λa1=>hI m a1 (R.trans K)
    rw[if_neg (λh=>h K)];have a:=nC.refl lo L w;obtain⟨p,G,r,j⟩:=h;obtain⟨c,s⟩:=uq j;have i:=s.vR;have e:JH q jb mw N G0 V k H fl Y lo L w:=⟨p,G,r,j⟩;refine mR ?_;intro t g E;replace a:=a.new g;replace hx1:=hx1.new g;replace i:=i.new g;replace e:=e.new g;have l:=hx1;have B:=i;refine nR 0 (λw' f=>nH (l.kq f))<|nu 1 (pI rfl rfl)<|nu 2 (nS)<|Ap 5 rfl (y)<|nR 3 (λw' f=>nH (l.kq f))<|nu 4 (nS)<|nu 5 (oo rfl)<|nu 6 (nG 0)<|nu 7 (nG 0)<|nR 8 (λw' f=>nH (B.kq f))<|nu 9 (tV rfl rfl)<|nu 10 (oP rfl)<|pq dA<|nJ<|qg rfl (C)<|nU<|nJ<|nI<|ny<|ng<|mZ (nH hx1)<|nP (I _ t e) ?_
    rintro _ M ⟨rfl,e,D⟩;replace a:=a.lq D;replace hx1:=hx1.kl D;refine nP (F M) ?_;rintro _ O ⟨rfl,u⟩;replace a:=a.new u;replace hx1:=hx1.new u;replace e:=e.new u;refine mZ (pJ rfl rfl)<|nk<|qg rfl (dB)<|nU<|nJ<|nO<|ng<|mZ (nH hx1)<|nP (T _ O a0 e) ?_;rintro _ a4 ⟨a2,a3⟩;replace a:=a.lq a3;refine oI<|FQ [] trivial ?_;exact⟨rfl,a2,a⟩
   .rw[if_pos K]
    have a:=nC.refl lo L w;obtain⟨p,G,r,j⟩:=h;obtain⟨c,s⟩:=uq j;have i:=s.vR;have e:JH q jb mw N G0 V k H fl Y lo L w:=⟨p,G,r,j⟩;refine mR ?_;intro t g E;replace a:=a.new g;replace hx1:=hx1.new g;replace i:=i.new g;replace e:=e.new g;have l:=hx1;have B:=i;refine nR 0 (λw' f=>nH (l.kq f))<|nu 1 (pI rfl rfl)<|nu 2 (nS)<|Ap 5 rfl (y)<|nR 3 (λw' f=>nH (l.kq f))<|nu 4 (nS)<|nu 5 (oo rfl)<|nu 6 (nG 0)<|nu 7 (nG 0)<|nR 8 (λw' f=>nH (B.kq f))<|nu 9 (tV rfl rfl)<|nu 10 (oP rfl)<|pq dA<|nJ<|qg rfl (C)<|nU<|nJ<|nI<|ny<|ng<|mZ (nH hx1)<|nP (I _ t e) ?_
    rintro _ M ⟨rfl,e,D⟩;replace a:=a.lq D;refine nP (F M) ?_;rintro _ O ⟨rfl,u⟩;replace a:=a.new u;replace e:=e.new u;refine mZ (pJ rfl rfl)<|nk<|uT rfl (dB)<|nO<|wN rfl (oz dA rfl) (EB 6 iT O) ((λc w' ⟨z,o⟩=>wY ⟨iT,z,by rw[<-o];exact e.fail,by rw[<-o];exact a⟩)) ?_;rintro _ _ A;exact A.elim
def zf(N:Nat)(n:Int):Int:=if n<0\/(N:Int)<=n then 2 else 0
def zQ(H:HS)(n:Nat):HS:=⟨⟨H.F.fresh,H.F.free,H.F.many,H.F.records,n⟩,H.S⟩
omit hYT in
theorem rC.root(h:rC N H fl){n:Nat}(hn:n<N):rC N (zQ H n) fl:=⟨h.f1,h.fN,h.gd,h.ch,h.fk,h.nd,h.fm,h.rc,hn⟩
theorem KT(g:Nat)(n:Int)(h:JH q jb mw N G0 V k H fl Y lo L w)(hx1:row w g [VB n] 3)(hgL:g∈L):Calls Tryz.prog 73 [VA jb,VA g].toArray w
  (ul (λ_ w'=>zf N n=0/\JH q jb mw N G0 V k (zQ H n.toNat) fl Y lo L w'/\nC lo L w w') (λc w'=>zf N n≠0/\c=pe (xN (zf N n))/\JF q jb mw N G0 V k Y lo L w'/\nC lo L w w')):=by
 unfold zf
 by_cases y:n<0
 .rw[if_pos (.inl y)]
  have a:=nC.refl lo L w;obtain⟨r,G,s,o⟩:=h;obtain⟨c,f⟩:=uq o;have g:=f.vR;have j:JH q jb mw N G0 V k H fl Y lo L w:=⟨r,G,s,o⟩;refine mU ?_;intro t e z;replace a:=a.new e;replace hx1:=hx1.new e;replace j:=j.new e;have p:=hx1;refine nR 0 (λw' i=>nH (p.kq i))<|nu 1 (pI rfl rfl)<|nu 2 (nS)<|Ig 5 rfl (y)<|oU 3 dA rfl<|oU 4 dA rfl<|oU 5 dA rfl<|oU 6 dA rfl<|oU 7 dA rfl<|oU 8 dA rfl<|oU 9 dA rfl<|nu 10 (pK rfl)<|pq dA<|nJ<|vD rfl (rfl)<|nO<|wN rfl (oz dA rfl) (EB 2 iT t) ((λc w' ⟨A,u⟩=>wY ⟨iT,A,by rw[<-u];exact j.fail,by rw[<-u];exact a⟩)) ?_
  rintro _ _ B;exact B.elim
 .by_cases C:(N:Int)<=n
  .rw[if_pos (.inr C)]
   have a:=nC.refl lo L w;obtain⟨r,G,s,o⟩:=h;obtain⟨c,f⟩:=uq o;have g:=f.vR;have j:JH q jb mw N G0 V k H fl Y lo L w:=⟨r,G,s,o⟩;have D:=λL' w' (E:Two (GZ q N G V k) Y lo L' w')=>JX E
   have hp:=f.p;refine mU ?_;intro t e z;replace hp:=hp.new e;replace a:=a.new e;replace hx1:=hx1.new e;replace g:=g.new e;replace j:=j.new e;have p:=hx1;have F:=g;refine nR 0 (λw' i=>nH (p.kq i))<|nu 1 (pI rfl rfl)<|nu 2 (nS)<|Ap 5 rfl (y)<|nR 3 (λw' i=>nH (p.kq i))<|nu 4 (nS)<|nu 5 (oo rfl)<|nu 6 (nG 5)<|nR 7 (λw' i=>nH (F.kq i))<|oh 8 dA<|qw rfl rfl (oz dA rfl) (D _ t hp) ?_
   rintro _ J ⟨rfl,l⟩;have I:=z.add0 l;refine⟨I,?_⟩;replace a:=a.new l;replace j:=j.new l;refine nu 9 (tV rfl rfl)<|nu 10 (oP rfl)<|pq dA<|nJ<|uT rfl (C)<|nO<|wN rfl (oz dA rfl) (EB 2 iT J) ((λc w' ⟨A,u⟩=>wY ⟨iT,A,by rw[<-u];exact j.fail,by rw[<-u];exact a⟩)) ?_;rintro _ _ B;exact B.elim
  .rw[if_neg dB]
   obtain⟨m,rfl⟩:∃ m:Nat,n=m:=⟨n.toNat,dB⟩;rw[aW];have a:=nC.refl lo L w;obtain⟨r,G,s,o⟩:=h;obtain⟨c,f⟩:=uq o;have g:=f.vR;have j:JH q jb mw N G0 V k H fl Y lo L w:=⟨r,G,s,o⟩;have D:=λL' w' (E:Two (GZ q N G V k) Y lo L' w')=>JX E
   have hp:=f.p;have K:=f.jl;have P:=K.2;have Q:=K.1;refine mU ?_;intro t e z;replace hp:=hp.new e;replace f:=f.new e;replace a:=a.new e;replace hx1:=hx1.new e;replace g:=g.new e;have p:=hx1;have F:=g;refine nR 0 (λw' i=>nH (p.kq i))<|nu 1 (pI rfl rfl)<|nu 2 (nS)<|Ap 5 rfl (y)<|nR 3 (λw' i=>nH (p.kq i))<|nu 4 (nS)<|nu 5 (oo rfl)<|nu 6 (nG 5)<|nR 7 (λw' i=>nH (F.kq i))<|oh 8 dA<|qw rfl rfl (oz dA rfl) (D _ t hp) ?_
   rintro _ J ⟨rfl,l⟩;have I:=z.add0 l;refine⟨I,?_⟩;replace f:=f.new l;replace a:=a.new l;replace hx1:=hx1.new l;replace g:=g.new l;refine nu 9 (tV rfl rfl)<|nu 10 (oP rfl)<|pq dA<|nJ<|qg rfl (C)<|nU<|nJ<|nO<|ng<|mZ (nH hx1)<|mZ (oo rfl)<|mZ (nG 0)<|mZ (nG 4)<|nT<|pQ g<|λR g M=>?_
   replace a:=a.oq M;have O:=f.Bg (F2:=(zQ H m).F) g M;refine oI<|FQ [] trivial ?_
   exact⟨rfl,⟨r.root dB,G,s.fr rfl rfl,O.close⟩,a⟩
theorem Jn(hb:Nat)(n:Int)(h:Two (GZ q N (nQ H) V k) Y lo L w)(hH:rC N H fl)(hr:row w hb [VA q] 201)(hbL:hb<lo\/hb∈L):
  CQ 49 [VA hb,VB n] w (λv w'=>v=VB (yP H n)/\((yP H n=0/\Two (GZ q N (nQ (wZ H n.toNat)) V k) Y lo L w')\/(yP H n≠0/\Two (GZ q N (nQ H) V k) Y lo L w'))/\nC lo L w w'):=by
 have i:=nC.refl lo L w;have u:∀ g W,row W hb [VA q] 201->row W g [VB n] 3->Two (GZ q N (nQ H) V k) Y lo (g::L) W->Calls Tryz.prog 72 [VA hb, .func (.func 107) #[] [VA g].toArray].toArray W
   (qb λv w'=>v=VB (yP H n)/\nC lo (g::L) W w'/\((yP H n=0/\Two (GZ q N (nQ (wZ H n.toNat)) V k) Y lo L w')\/(yP H n≠0/\Two (GZ q N (nQ H) V k) Y lo L w'))):=λg W hr y h=>by
  refine(LX hb h hH hr 107 [VA g] dA (λH' j Y'=>yP H n=0/\H'=wZ H n.toNat/\Y'=Y) (λe Y'=>yP H n≠0/\e=yP H n/\Y'=Y)
   (λH' j Y' ⟨_,_,e⟩=>by subst e;infer_instance) (λe Y' ⟨_,_,e⟩=>by subst e;infer_instance) (λH' j Y' ⟨_,e,_⟩=>by rw[e];exact ax _) λjb mw L' w' z A B=>?_).to λv w' h=>?_
  .have C:=z g ig
   exact(KS g n B (y.nD A.kp (pG (.inr ig))) C λm D=>by rw[(hH.fk m D).2.2];decide).BJ (λv w2 ⟨a,l,f⟩=>⟨wZ H n.toNat,_,Y,⟨a,rfl,rfl⟩,l,f⟩) λc w2 ⟨a,l,f,s⟩=>⟨_,Y,⟨a,rfl,rfl⟩,l,f,s⟩
  .rcases h with⟨H',j,Y',⟨a,rfl,rfl⟩,s,f,o,p⟩|⟨e,Y',⟨a,rfl,rfl⟩,f,o,p⟩
   .exact⟨by rw[a];exact f,p, .inl ⟨a,o.weak λb hb=>by simp[hb]⟩⟩
   .exact⟨f,p, .inr ⟨a,o.weak λb hb=>by simp[hb]⟩⟩
 refine nZ (rs:=[.tmp 4]) (n:=8) Tryz.func49 rfl rfl Tryz.ntmps49 dA rfl<|ny<|nK<|qi ([VB n]) rfl<|λE F G t r=>?_
 replace i:=i.new r;replace hr:=hr.new r;replace h:=h.nL r G t.lt;refine oG<|ng<|mZ (uV)<|nP (u E F hr t h) ?_
 rintro _ K ⟨rfl,I,J⟩;replace i:=i.ll I (λb hb=>by simp[hb]);refine lZ ?_;exact⟨rfl,J,i⟩
theorem UF(hb:Nat)(n:Int)(h:Two (GZ q N (nQ H) V k) Y lo L w)(hH:rC N H fl)(hr:row w hb [VA q] 201)(hbL:hb<lo\/hb∈L):
  CQ 22 [VA hb,VB n] w (λv w'=>v=VB (zf N n)/\((zf N n=0/\Two (GZ q N (nQ (zQ H n.toNat)) V k) Y lo L w')\/(zf N n≠0/\Two (GZ q N (nQ H) V k) Y lo L w'))/\nC lo L w w'):=by
 have i:=nC.refl lo L w;have t:∀ g W,row W hb [VA q] 201->row W g [VB n] 3->Two (GZ q N (nQ H) V k) Y lo (g::L) W->Calls Tryz.prog 72 [VA hb, .func (.func 73) #[] [VA g].toArray].toArray W
   (qb λv w'=>v=VB (zf N n)/\nC lo (g::L) W w'/\((zf N n=0/\Two (GZ q N (nQ (zQ H n.toNat)) V k) Y lo L w')\/(zf N n≠0/\Two (GZ q N (nQ H) V k) Y lo L w'))):=λg W hr u h=>by
  refine(LX hb h hH hr 73 [VA g] dA (λH' j Y'=>zf N n=0/\H'=zQ H n.toNat/\Y'=Y) (λe Y'=>zf N n≠0/\e=zf N n/\Y'=Y)
   (λH' j Y' ⟨_,_,e⟩=>by subst e;infer_instance) (λe Y' ⟨_,_,e⟩=>by subst e;infer_instance) (λH' j Y' ⟨_,e,_⟩=>by rw[e];exact ax _) λjb mw L' w' y z A=>?_).to λv w' h=>?_
  .have B:=y g ig
   exact(KT g n A (u.nD z.kp (pG (.inr ig))) B).BJ (λv w2 ⟨a,l,f⟩=>⟨zQ H n.toNat,_,Y,⟨a,rfl,rfl⟩,l,f⟩) λc w2 ⟨a,l,f,r⟩=>⟨_,Y,⟨a,rfl,rfl⟩,l,f,r⟩
  .rcases h with⟨H',j,Y',⟨a,rfl,rfl⟩,r,f,m,o⟩|⟨e,Y',⟨a,rfl,rfl⟩,f,m,o⟩
   .exact⟨by rw[a];exact f,o, .inl ⟨a,m.weak λb hb=>by simp[hb]⟩⟩
   .exact⟨f,o, .inr ⟨a,m.weak λb hb=>by simp[hb]⟩⟩
 refine nZ (rs:=[.tmp 4]) (n:=8) Tryz.func22 rfl rfl Tryz.ntmps22 dA rfl<|ny<|nK<|qi ([VB n]) rfl<|λC D E s p=>?_
 replace i:=i.new p;replace hr:=hr.new p;replace h:=h.nL p E s.lt;refine oG<|ng<|mZ (uV)<|nP (t C D hr s h) ?_
 rintro _ I ⟨rfl,F,G⟩;replace i:=i.ll F (λb hb=>by simp[hb]);refine lZ ?_;exact⟨rfl,G,i⟩
def PI(H:HS)(p s:Int):Prop:=p<1\/(H.F.fresh:Int)<=p\/Az (H.S p.toNat).slots s=false\/(H.S p.toNat).kind≠1
theorem Rv(p s:Int)(h:JH q jb mw N G0 V k H fl Y lo L w)(hno:PI H p s):
  Calls Tryz.prog 235 [VA jb, .agg #[VB p,VB s]].toArray w (ul (λ_ _=>False) λcn w'=>cn=pe (xN 6)/\JF q jb mw N G0 V k Y lo L w'/\nC lo L w w'):=by
 obtain⟨g,G,j,i⟩:=h
 by_cases a:p<1\/(H.F.fresh:Int)<=p
 .exact(PM i p s a).BJ (λ_ _ h=>h) λc w' ⟨a,e,f⟩=>⟨a,⟨G,_,e⟩,f⟩
 .obtain⟨m,rfl⟩:∃ m:Nat,p=m:=⟨p.toNat,dB⟩
  unfold PI at hno;rw[aW]at hno;have k:=(hno.resolve_left dB).resolve_left dB;exact(Ra i m s dB dB g.fN (g.SK j dB dB) k).BJ (λ_ _ h=>h) λc w' ⟨a,e,f⟩=>⟨a,⟨G,_,e⟩,f⟩
theorem takeN(p s:Int)(h:JH q jb mw N G0 V k H fl Y lo L w)(hno:PI H p s):
  Calls Tryz.prog 193 [VA jb, .agg #[VB p,VB s]].toArray w (ul (λ_ _=>False) λcn w'=>cn=pe (xN 6)/\JF q jb mw N G0 V k Y lo L w'/\nC lo L w w'):=by
 have a:=nC.refl lo L w;have g:=λL' w' (i:JH q jb mw N G0 V k H fl Y lo L' w')=>Rv p s i hno
 refine xg (rs:=[]) (n:=35) Tryz.func193 rfl rfl Tryz.ntmps193 dA rfl<|ny<|nK<|qi ([VB p,VB s]) rfl<|λu j l e f=>?_
 replace h:=h.nL f l e.lt;replace a:=a.new f;refine qx<|ng<|ng<|mZ (oK rfl (Ld.qI (k:=2) e dA dA rfl))<|wN rfl (oz dA rfl) (g _ j h) ((λc w' ⟨m,⟨G,F,o⟩,r⟩=>wY ⟨m,⟨G,F,o.weak λb hb=>by simp[hb]⟩,a.lq r⟩)) ?_
 rintro _ _ t;exact t.elim
theorem FU(g:Nat)(p s:Int)(h:JH q jb mw N G0 V k H fl Y lo L w)(hno:PI H p s)(hx1:row w g [VB p,VB s] 30):Calls Tryz.prog 192 [VA jb,VA g].toArray w
  (ul (λ_ _=>False) λcn w'=>cn=pe (xN 6)/\JF q jb mw N G0 V k Y lo L w'/\nC lo L w w'):=by
 have a:=takeN p s h hno;refine xg (rs:=[]) (n:=6) Tryz.func192 rfl rfl Tryz.ntmps192 dA rfl<|nO<|ng<|mZ (oK rfl (Ld.qI (k:=2) hx1 dA dA rfl))<|wN rfl (oz dA rfl) (a) ((λc w' h=>wY h)) ?_
 rintro _ _ e;exact e.elim
theorem Nj(hb:Nat)(p s:Int)(h:Two (GZ q N (nQ H) V k) Y lo L w)(hH:rC N H fl)(hno:PI H p s)(hr:row w hb [VA q] 201)(hbL:hb<lo\/hb∈L):
  CQ 132 [VA hb, .agg #[VB p,VB s]] w (λv w'=>v=VB 6/\Two (GZ q N (nQ H) V k) Y lo L w'/\nC lo L w w'):=by
 have a:=nC.refl lo L w;have t:∀ g W,row W hb [VA q] 201->row W g [VB p,VB s] 30->Two (GZ q N (nQ H) V k) Y lo (g::L) W->Calls Tryz.prog 72 [VA hb, .func (.func 192) #[] [VA g].toArray].toArray W
   (qb λv w'=>v=VB 6/\nC lo (g::L) W w'/\Two (GZ q N (nQ (H)) V k) Y lo L w'):=λg W hr u h=>by
  refine(LX hb h hH hr 192 [VA g] dA (λH' j Y'=>False/\H'=H/\Y'=Y) (λe Y'=>True/\e=6/\Y'=Y)
   (λH' j Y' ⟨_,_,e⟩=>by subst e;infer_instance) (λe Y' ⟨_,_,e⟩=>by subst e;infer_instance) (λH' j Y' ⟨_,e,_⟩=>by rw[e];exact ax _) λjb mw L' w' y z A=>?_).to λv w' h=>?_
  .have J:=y g ig
   have B:=(u.nD z.kp (pG (.inr ig)));exact(FU g p s A hno B).BJ (λv w2 h=>h.elim) λc w2 ⟨f,C,i⟩=>⟨_,Y,⟨trivial,rfl,rfl⟩,f,C,i⟩
  .rcases h with⟨H',j,Y',⟨f,rfl,rfl⟩,K,i,l,m⟩|⟨e,Y',⟨f,rfl,rfl⟩,i,l,m⟩
   .first |exact f.elim|exact⟨i,m,l.weak λb hb=>by simp[hb]⟩
   .first |exact f.elim|exact⟨i,m,l.weak λb hb=>by simp[hb]⟩
 refine nZ (rs:=[.tmp 4]) (n:=8) Tryz.func132 rfl rfl Tryz.ntmps132 dA rfl<|ny<|nK<|qi ([VB p,VB s]) rfl<|λD E F r o=>?_
 replace a:=a.new o;replace hr:=hr.new o;replace h:=h.nL o F r.lt;refine oG<|ng<|mZ (uV)<|nP (t D E hr r h) ?_
 rintro _ M ⟨rfl,G,I⟩;replace a:=a.ll G (λb hb=>by simp[hb]);refine lZ ?_;exact⟨rfl,I,a⟩
end
def UA(Y:VE)(e sz:Nat)(v:Value)(m:Nat)(xs:List Value):VE:=λw C=>∃ C1,C=v.ownBlock.toList++C1/\Y w C1/\og w 0 e sz v m xs/\∀ b∈v.ownBlock.toList,b∉C1
instance(Y:VE)[hY:nz Y](e sz:Nat)(v:Value)(m:Nat)(xs:List Value):nz (UA Y e sz v m xs):=
 ⟨fun {w w' B M} ⟨C1,a,c,f,h⟩ k i=>by
  subst a;exact⟨C1,rfl,hY.nD c k λb hb=>i b jX,f.nD k λg j e=>i g kH j,h⟩,fun {w B} ⟨C1,a,c,f,h⟩ b hb=>by
  subst a;rcases ay.1 hb with hb|hb
  .exact(f.lt b (ah.1 hb)).2
  .exact hY.lt c b hb⟩
section
variable {X Y:VE}[hX:nz X][hYT:nz Y]{lo g base e sz m:Nat}{L:List Nat}{w w':World}{v:Value}{xs:List Value}
end
section
variable {Y:VE}[hYT:nz Y]{q jb mw N lo:Nat}{L:List Nat}{G G0 V:Nat->Pg}{k:Nat}{H:HS}{fl rl pd:List Nat}{R:Nat->Nat->Prop}{P:Nat->Nat->List Nat}{B:Nat->Nat->List UInt8}{w:World}
end
section
variable {Y:VE}[hYT:nz Y]{q jb mw N lo:Nat}{L:List Nat}{G G0 V:Nat->Pg}{k:Nat}{H:HS}{fl rl pd:List Nat}{R:Nat->Nat->Prop}{P:Nat->Nat->List Nat}{B:Nat->Nat->List UInt8}{m s:Nat}{w:World}
end
section
variable {Y:VE}[hYT:nz Y]{q jb mw N lo:Nat}{L:List Nat}{G G0 V:Nat->Pg}{k:Nat}{H:HS}{fl rl:List Nat}{R:Nat->Nat->Prop}{P:Nat->Nat->List Nat}{B:Nat->Nat->List UInt8}{m s:Nat}{w:World}
end
section
variable {Y:VE}[hYT:nz Y]{q jb mw N lo:Nat}{L:List Nat}{G G0 V:Nat->Pg}{k:Nat}{H:HS}{fl rl:List Nat}{R:Nat->Nat->Prop}{P:Nat->Nat->List Nat}{B:Nat->Nat->List UInt8}{m s:Nat}{w:World}
end
def Ba:Nat->List (Option (List UInt8))->List (Nat × List UInt8)
 |_,[]=>[]
 |i,none::S=>Ba (i+1) S
 |i,some c::S=>(i,c)::Ba (i+1) S
theorem zvm{S:List (Option (List UInt8))}{c:List UInt8}{i k:Nat}:∀ {T:List (Option (List UInt8))} {j:Nat},(Ba j T)[k]?=some (i,c)->(∀ x,T[x]?=S[j+x]?)->S[i]?=some (some c):=by
 intro T
 induction T generalizing k with
 |nil=>intro j a;cases a
 |cons t T ih=>
  intro j a f;have g:∀ x,T[x]?=S[(j+1)+x]?:=λx=>by have:=f (x+1);rw[gI]at this;rw[this];congr 1;omega
  cases t with
  |none=>exact ih (j:=j+1) a g
  |some c'=>
   cases k with
   |zero=>
    have e:(j,c')=(i,c):=bQ a;cases e;exact(f 0).symm
   |succ k=>exact ih (j:=j+1) a g
class Kept (bl:List Nat) (F:World->Prop):Prop where
 nD:∀ {w w':World} {M:List Nat},F w->Kp M w w'->(∀ b∈bl,b∉M)->F w'
def yF(Y:VE)(bl:List Nat)(F:World->Prop):VE:=λw C=>∃ C1,C=bl++C1/\Y w C1/\F w/\(∀ b∈bl,b<w.heap.size)/\∀ b∈bl,b∉C1
instance(Y:VE)[hY:nz Y](bl:List Nat)(F:World->Prop)[hF:Kept bl F]:nz (yF Y bl F):=
 ⟨fun {w w' B M} ⟨C1,a,c,g,e,h⟩ k f=>by
  subst a;exact⟨C1,rfl,hY.nD c k λb hb=>f b jX,hF.nD g k λb hb=>f b jX,λb hb=>ae (e b hb) k.size,h⟩,fun {w B} ⟨C1,a,c,_,e,_⟩ b hb=>by
  subst a;rcases ay.1 hb with hb|hb
  .exact e b hb
  .exact hY.lt c b hb⟩
section
variable {X Y:VE}{lo:Nat}{L bl:List Nat}{w:World}{F:World->Prop}
theorem UV(h:Two X Y lo (bl++L) w)(hF:F w)(hl:∀ b∈bl,lo<=b/\b∉L):Two X (yF Y bl F) lo L w:=by
 obtain⟨⟨B,C,g,i,c,e⟩,j,f⟩:=h;refine⟨⟨B,bl++C,g,⟨C,rfl,i,hF,λb hb=>f b jX,λb hb a=>(e b a).2 jX⟩,λb hb=>⟨(c b hb).1,λa=>?_,λa=>(c b hb).2.2 kE⟩,λb hb=>?_⟩,j,λb hb=>f b jX⟩
 .rcases ay.1 a with a|a
  .exact(c b hb).2.2 kE
  .exact(c b hb).2.1 a
 .rcases ay.1 hb with hb|hb
  .exact hl b hb
  .exact⟨(e b hb).1,λa=>(e b hb).2 kE⟩
theorem Vz(h:Two X (yF Y bl F) lo L w):Two X Y lo (bl++L) w/\F w/\∀ b∈bl,lo<=b/\b∉L:=by
 obtain⟨⟨B,C,f,⟨C1,rfl,g,i,j,k⟩,c,e⟩,l,m⟩:=h;refine⟨⟨⟨B,C1,f,g,λb hb=>⟨(c b hb).1,λa=>(c b hb).2.1 kE,λa=>?_⟩,λb hb=>⟨(e b jX).1,λa=>?_⟩⟩,l,λb hb=>?_⟩,i,λb hb=>e b jX⟩
 .rcases ay.1 a with a|a
  .exact(c b hb).2.1 kE
  .exact(c b hb).2.2 a
 .rcases ay.1 a with a|a
  .exact k b a hb
  .exact(e b jX).2 a
 .rcases ay.1 hb with hb|hb
  .exact j b hb
  .exact m b hb
end
structure QH(w:World)(l:Nat):Prop where
 r:∃ r,w.heap[l]?=some (.loop r)
namespace QH
variable {w w':World}{l:Nat}
end QH
structure Qa(w:World)(bl:List Nat)(n:Nat)(xs:List Value):Prop where
 len:xs.length=n*3
 at_:∀ i,i<n->∃ (a b:Int) (p:Option Addr) (l:List UInt8) (c:Nat),(xs.drop (i*3)).take 3=[VB a,VB b, .slice p l.length c]/\nM w p l.length 1 (bv l)/\(∀ g o,p=some ⟨g,o,none⟩->g∈bl)/\l.length<=c/\l.length<=20000
namespace Qa
variable {w w':World}{bl bl':List Nat}{n:Nat}{xs:List Value}
end Qa
abbrev WG:=Value × List Nat × Nat × List Value
namespace AllS
variable {ge base:Nat}{av:Nat->Prop}{a:WG}{w w':World}
end AllS
section
variable {Y:VE}[hYT:nz Y]{q jb mw N lo:Nat}{L:List Nat}{G0 V:Nat->Pg}{k:Nat}{H:HS}{fl rl:List Nat}{R:Nat->Nat->Prop}{P:Nat->Nat->List Nat}{B:Nat->Nat->List UInt8}{w:World}
end
section
variable {Y:VE}[hYT:nz Y]{q N lo:Nat}{L:List Nat}{V:Nat->Pg}{k:Nat}{H:HS}{fl rl:List Nat}{R:Nat->Nat->Prop}{P:Nat->Nat->List Nat}{B:Nat->Nat->List UInt8}{w:World}
end
theorem nM.Ja{w w':World}{p:Option Addr}{m sz:Nat}{cs:List Value}(h:nM w p m sz cs)(e:∀ g o,p=some ⟨g,o,none⟩->w'.heap[g]?=w.heap[g]?):nM w' p m sz cs:=by
 refine⟨h.len,h.max,λi=>?_⟩;obtain⟨b,c,hp,k,l⟩:=h.at_ i;have f:=e b c hp;refine⟨b,c,hp,?_,λj m=>?_⟩
 .have g:w.heap[b]?≠none:=by rw[Array.getElem?_eq_getElem k];simp
  rw[<-f]at g;rcases dH b w'.heap.size with a|a
  .exact a
  .exact absurd (gy a) g
 .rw[<-l j m]
  simp only[World.cell?,f]
theorem nM.same{w w':World}{g o m sz:Nat}{cs:List Value}(h:nM w (some ⟨g,o,none⟩) m sz cs)(e:w'.heap[g]?=w.heap[g]?):nM w' (some ⟨g,o,none⟩) m sz cs:=nM.Ja h λc f a=>by cases a;exact e
def Bd(H:HS)(n:Nat):Int:=if n=0 then 4 else if n<H.F.fresh then((H.S n).kind:Int)else 0
def xK(f:Nat->Int)(l:List Nat)(v:Int):Nat->Int:=λn=>if n∈l then v else f n
def Bb(f:Nat->Int)(U:List (List Nat × Int)):Nat->Int:=U.foldl (λf u=>xK f u.1 u.2) f
theorem Vh{n:Nat}:∀ {U:List (List Nat × Int)} {f:Nat->Int},(∀ u∈U,n∉u.1)->Bb f U n=f n
 |[],_,_=>rfl
 |u::U,f,h=>(Vh (U:=U) (f:=xK f u.1 u.2) λx a=>h x kE).trans (if_neg (h u ig))
theorem ZY{n:Nat}{v:Int}:∀ {U:List (List Nat × Int)} {f:Nat->Int},(∀ u∈U,n∈u.1->u.2=v)->(∃ u∈U,n∈u.1)->Bb f U n=v
 |[],_,_,⟨_,a,_⟩=>nomatch a
 |u::U,f,a,⟨x,hx,hn⟩=>by
  by_cases e:∃ c∈U,n∈c.1
  .exact ZY (U:=U) (f:=xK f u.1 u.2) (λc g=>a c (by simp[g])) e
  .have h:Bb f (u::U) n=xK f u.1 u.2 n:=Vh (U:=U) (f:=xK f u.1 u.2) λc g i=>e ⟨c,g,i⟩
   have j:x=u:=(ak.1 hx).resolve_right λa=>e ⟨x,a,hn⟩
   subst j;rw[h,xK,if_pos hn];exact a x ig hn
def UC(H:HS)(P:Nat->Nat->List Nat)(m:Nat):List (List Nat × Int):=([m],1)::(Ba 0 (H.S m).slots).map λx=>(P m x.1,2)
def CP(H:HS)(n:Nat):Int:=if n=0 then 4 else if n<H.F.fresh then 3 else 0
theorem GA{S:List (Option (List UInt8))}{i:Nat}{c:List UInt8}(h:S[i]?=some (some c)):∀ {T:List (Option (List UInt8))} {j:Nat},j<=i->(∀ x,T[x]?=S[j+x]?)->(i,c)∈Ba j T:=by
 intro T
 induction T with
 |nil=>intro j k a;have:=a (i - j);rw[show j+(i - j)=i by omega,h]at this;cases this
 |cons t T ih=>
  intro j k a;have l:∀ x,T[x]?=S[(j+1)+x]?:=λx=>by have:=a (x+1);rw[gI]at this;rw[this];congr 1;omega
  by_cases e:j=i
  .subst e
   have f:=a 0;rw[dx,h]at f;have m:t=some c:=bQ f;subst m;exact aK ..
  .have g:=ih (j:=j+1) dB l
   cases t with
   |none=>exact g
   |some c'=>exact aj _ g
theorem HI.uses{N:Nat}{H:HS}{fl rl:List Nat}{R:Nat->Nat->Prop}{P:Nat->Nat->List Nat}{B:Nat->Nat->List UInt8}(h:HI N H fl rl R P B [])(hF:Full H rl R)(h3:∀ n,1<=n->n<H.F.fresh->(H.S n).kind<=3)(n:Nat):
  Bb (CP H) ((fl,0)::rl.flatMap (UC H P)) n=Bd H n:=by
 have t:∀ m x,m∈rl->x∈Ba 0 (H.S m).slots->R m x.1:=λm x i o=>by
  obtain⟨k,q⟩:=eZ.1 o;exact(hF m i).2 x.1 x.2 (zvm (S:=(H.S m).slots) q λB=>by rw[aZ])
 have r:∀ u∈(fl,(0:Int))::rl.flatMap (UC H P),n∈u.1->1<=n/\n<H.F.fresh/\u.2=((H.S n).kind:Int):=λu a f=>by
  rcases ak.1 a with rfl|a
  .have:=h.ok.fk n f
   exact⟨this.1,this.2.1,by rw[this.2.2];rfl⟩
  .obtain⟨m,i,a⟩:=bG.1 a
   rcases ak.1 a with rfl|a
   .have:=h.rk.at_ m i
    rw[aJ.1 f];exact⟨this.1,this.2.1,by rw[this.2.2];rfl⟩
   .obtain⟨x,o,rfl⟩:=bg.1 a
    have:=(h.pat (t m x i o)).2 n f;exact⟨this.1,this.2.1,by rw[this.2.2];rfl⟩
 by_cases j:∃ u∈(fl,(0:Int))::rl.flatMap (UC H P),n∈u.1
 .obtain⟨u,a,f⟩:=j
  obtain⟨C,y,h3⟩:=r u a f;rw[ZY (v:=((H.S n).kind:Int)) (λu a f=>(r u a f).2.2) ⟨u,a,f⟩,Bd,if_neg dB,if_pos y]
 .rw[Vh λu a f=>j ⟨u,a,f⟩]
  unfold CP Bd
  by_cases l:n=0
  .rw[if_pos l,if_pos l]
  .rw[if_neg l,if_neg l]
   by_cases g:n<H.F.fresh
   .rw[if_pos g,if_pos g]
    have q:=h3 n dB g;have D:(H.S n).kind≠0:=λe=>j ⟨_,aK ..,h.c0 n dB g e⟩
    have E:(H.S n).kind≠1:=λe=>j ⟨([n],1),aj _ (bG.2 ⟨n,h.c1 n dB g e,aK ..⟩),ig⟩
    have F:(H.S n).kind≠2:=λe=>by
     rcases h.c2 n dB g e with p|⟨m,s,p,z⟩
     .cases p
     .obtain⟨i,c,A,_⟩:=h.cell m s p
      exact j ⟨(P m s,2),aj _ (bG.2 ⟨m,i,aj _ (bg.2 ⟨(s,c),GA (S:=(H.S m).slots) A (aC _) (λx=>by rw[aZ]),rfl⟩)⟩),z⟩
    omega
   .rw[if_neg g,if_neg g]
end Go.Proofs.YtpaniebomegnbaaGreat
