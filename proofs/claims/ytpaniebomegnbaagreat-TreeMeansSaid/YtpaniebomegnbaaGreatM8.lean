import Derived.Test.YtpaniebomegnbaaGreatM7
set_option maxHeartbeats 8000000
set_option maxRecDepth 20000
namespace Go.Proofs.YtpaniebomegnbaaGreat
open Go Go.RowKit Coup
theorem VR(p:Option Addr)(n c:Nat)(l:List UInt8)(w:World)(h:nM w p n 1 (bv l))(hn:n<=7):CQ 179 [.slice p n c] w (λv w'=>v=VB (qX l)/\w=w'):=by
 have m:l.length=n:=by simpa [oL]using h.len
 refine nZ (rs:=[.tmp 2]) (n:=18) Tryz.func179 rfl rfl Tryz.ntmps179 dA rfl<|ny<|nA<|nk<|nI<|ny<|ng<|mZ (oV (e:=5) (sz:=1) dA rfl rfl)<|ng<|nk<|pE ?_
 refine qY (α:=Nat) 0 (λk=>[(2,VB (qX (l.take k):Nat)),(7,VB (k:Nat)),(6,VB (n:Int)),(5, .slice p n c)]) (λk w'=>k<=n/\w=w') (λk=>n - k)
   VF ⟨aC _,rfl⟩ ?_
 rintro k f q ⟨r,rfl⟩;refine ny<|mZ (pI rfl rfl)<|nk<|nI<|oZ rfl (λj=>?_)<|λj=>?_
 ·
  refine lN ?_;have a:∃ x,l[k]?=some x:=⟨_,aG dB⟩;obtain⟨x,i⟩:=a;have a:=h.some dB;obtain⟨g,o,rfl,s⟩:=a;have t:qX (l.take k)<2 ^ 48:=Ck _ 6 kJ;have hb:=x.toNat_lt;refine nO<|mZ (uX (e:=5) dA rfl rfl k dB dB)<|mZ (oK rfl (Ld.sl1 h dA (show(bv l)[k]?=some (.int .u8 (x.toNat:Int)) by rw[ES,i];rfl)))<|nA<|nk<|nO<|ng<|mZ (Qw rfl rfl dB (show IntKind.i64.wrap (((qX (l.take k):Nat):Int)*2 ^ (min (8:Int).toNat IntKind.i64.bits))=((256*qX (l.take k):Nat):Int) by rw[show(2:Int) ^ (min (8:Int).toNat IntKind.i64.bits)=256 from rfl,nV dB];omega))<|ng<|mZ (rP (k:=.i64) dA dA rfl (Coup.nV dB))<|mZ (OT rfl rfl ((RB 8 (qX (l.take k):Nat) dB dB dB dB).trans (show _=((qX (l.take (k+1)):Nat):Int) by rw[RF l k x i];omega)))<|nA<|oI<|pO<|nJ<|nO<|mZ (oJ rfl rfl (Coup.nV dB))<|ng<|oI<|oM ⟨k+1,dB,⟨rfl,by go_num,rfl,rfl,rfl⟩,dB,rfl⟩
 ·
  refine qL<|qK<|rq<|qO<|nJ<|ny<|ng<|nA<|nk<|nY<|ou [_] ⟨rfl,trivial⟩<|⟨?_,rfl⟩
  rw[aQ dB]
  rfl
def RO(lv:Nat)(c:Key × V3):Prop:=c.1.length<=100/\if lv=0 then c.2.1<4294967296/\c.2.2.1<65536/\c.2.2.2=0 else c.2.1=0/\c.2.2.1=0/\c.2.2.2<4294967296
theorem znf(lv:Nat)(c:Key × V3):((qh lv c).drop 1).take c.1.length=c.1:=by
 unfold qh;rw[List.drop_one,List.tail_cons,dY]
theorem ZU(lv:Nat)(c:Key × V3):(qh lv c).drop (1+c.1.length)=if lv=0 then oH 4 c.2.1++oH 2 c.2.2.1 else oH 4 c.2.2.2:=by
 unfold qh;rw[show 1+c.1.length=c.1.length+1 by omega,List.drop_succ_cons,dK]
theorem Pj{n:Nat}(h:n<65536):qX (oH 2 n)=n:=by rw[SH,jc dB]
theorem zva{g o cb lv:Nat}{c:Key × V3}(w:World)(h:nM w (some ⟨g,o,none⟩) (qh lv c).length 1 (bv (qh lv c)))(hcb:(qh lv c).length<=cb)(hc:RO lv c)(hl0:lv=0):
  CQ 121 [.slice (some ⟨g,o,none⟩) (qh lv c).length cb,VB (lv:Int)] w (λv w'=>(∃ xs,v= .tuple #[.agg xs.toArray, .bool true]/\sV w' [g] xs c)/\VD w w'):=by
 have a:=Below.refl w.heap.size w;have T:maxLen=9223372036854775807:=by decide
 have j:=Ac lv c;obtain⟨E,hc⟩:=hc;have m:(qh lv c)[0]?=some (u8 c.1.length):=rfl;have p:=Ob (n:=c.1.length) dB;obtain⟨kl,q⟩:=aa (c.1.length);have r:=znf lv c;have l:=ZU lv c;obtain⟨B,F⟩:=aa (qh lv c);rw[F]at h hcb j m r l |-;rw[q]at j m p r l E;obtain⟨pk,s⟩:∃ pk,(if 1+kl=1 then(some ⟨g,o,none⟩:Option Addr)else(some ⟨g,o,none⟩:Option Addr).map (·.add (1*1)))=pk:=⟨_,rfl⟩;have t:∀ w',VD w w'->sV w' [g] (pV pk kl c) c:=λw' hb=>by
  have y:=(h.new hb).Fa 1 kl (by rw[j];omega);rw[r]at y
  by_cases U:kl=0
  .refine⟨some ⟨g,o,none⟩,kl,by rw[<-s,if_pos dB],?_,λG H e=>by cases e;simp,dB⟩
   have:c.1=[]:=bH dB;rw[this];exact nM.nil _ _ _
  .refine⟨some ⟨g,o+1,none⟩,kl,by rw[<-s,if_neg dB];rfl,by rw[q];exact y,λG H e=>by cases e;simp,dB⟩
 unfold pV at t;rw[q]at t;obtain⟨N,I⟩:=aa (B.length);rw[I]at h hcb j |-;rw[if_pos hl0]at j l hc;have z:∀ w',VD w w'->nM w' (some ⟨g,o+(1+kl),none⟩) 4 1 (bv (oH 4 c.2.1)):=λw' hb=>by
  have:=(h.new hb).Fa (1+kl) 4 dB;rw[l,bN (rT _ _)]at this;exact this
 have A:∀ w',VD w w'->nM w' (some ⟨g,o+(1+kl+4),none⟩) 2 1 (bv (oH 2 c.2.2.1)):=λw' hb=>by
  have:=(h.new hb).Fa (1+kl+4) 2 dB;rw[<-dR,l,fE (rT _ _),aQ kX]at this;exact this
 have J:∀ w' i,VD w w'->CQ 179 [.slice (some ⟨g,o+(1+kl),none⟩) 4 i] w' (λv w2=>v=VB (c.2.1:Int)/\w'=w2):=λw' i hb=>by
  have:=VR _ 4 i _ w' (z w' hb) dB;rw[Cv hc.1]at this;exact this
 have K:∀ w' i,VD w w'->CQ 179 [.slice (some ⟨g,o+(1+kl+4),none⟩) 2 i] w' (λv w2=>v=VB (c.2.2.1:Int)/\w'=w2):=λw' i hb=>by
  have:=VR _ 2 i _ w' (A w' hb) dB;rw[Pj hc.2.1]at this;exact this
 clear z A;refine nZ (rs:=[.cell 4 90, .tmp 5]) (n:=62) Tryz.func121 rfl rfl Tryz.ntmps121 dA rfl<|ny<|nK<|oD ([VC,VB 0,VB 0,VB 0]) dA<|λL V M f O=>?_
 have u:=ag a.size M;replace a:=a.acc O;refine oG<|nA<|nk<|nI<|ny<|ng<|mZ (qB rfl rfl)<|nk<|uT rfl (dB)<|nO<|nA<|nk<|nI<|ny<|ng<|mZ (oV (e:=5) (sz:=1) dA rfl rfl)<|ng<|mZ (oJ rfl rfl (Coup.nV dB))<|mZ (pI rfl rfl)<|ng<|uy 16 rfl (dB)<|nE<|ng<|nE<|mZ (oV (e:=5) (sz:=1) dA rfl rfl)<|nE<|ng<|nE<|mZ (uX (e:=5) dA rfl rfl (0) dB dB)<|nE<|mZ (oK rfl (Ld.sl1 (h.new a) dA (show(bv B)[0]?=some (.int .u8 ((u8 kl).toNat:Int)) by rw[ES,m];rfl)))<|nE<|mZ (rP (k:=.i64) dA dA rfl (Coup.nV dB))<|nE<|mZ (oJ rfl rfl (Coup.nV dB))<|nE<|ng<|nE<|mZ (oJ rfl rfl (Coup.nV dB))<|nE ?_
 refine mZ (pJ rfl rfl)<|mZ (oP rfl)<|nk<|qg rfl ((by rw[p];omega))<|nU<|nJ<|ny<|ng<|mZ (uX (e:=5) dA rfl rfl (0) dB dB)<|mZ (oK rfl (Ld.sl1 (h.new a) dA (show(bv B)[0]?=some (.int .u8 ((u8 kl).toNat:Int)) by rw[ES,m];rfl)))<|mZ (rP (k:=.i64) dA dA rfl (Coup.nV dB))<|mZ (oJ rfl rfl (show IntKind.i64.wrap (1+((u8 kl).toNat:Int))=((1+kl:Nat):Int) by rw[p,nV dB];omega))<|oG<|ng<|ng<|ng<|mZ (NG (e:=5) (sz:=1) 1 (1+kl) (1+kl) kl kl s dA rfl ⟨_,_,rfl,rfl⟩ ⟨_,_,rfl,rfl⟩ ⟨_,_,rfl,rfl⟩ ig dB dB dB dB dB)<|mZ (nG 0)<|nT<|pQ f<|λC f P=>?_
 replace a:=P.below a u;refine nk<|nI<|ny<|ng<|ng<|ng<|mZ (oJ rfl rfl (show IntKind.i64.wrap (((1+kl:Nat):Int)+4)=((1+kl+4:Nat):Int) by rw[nV dB];omega))<|mZ (JW (e:=5) (1+kl) (1+kl+4) (cb) (4) dA rfl ⟨_,_,rfl,dB⟩ ⟨_,_,rfl,dB⟩ rfl ig dB dB dB dB dB)<|nP (J C _ a) ?_
 rintro _ _ ⟨rfl,rfl⟩;refine oG<|ng<|mZ (qB rfl rfl)<|nk<|uT rfl (dB)<|nO<|ng<|ng<|ng<|mZ (oJ rfl rfl (show IntKind.i64.wrap (((1+kl:Nat):Int)+4)=((1+kl+4:Nat):Int) by rw[nV dB];omega))<|mZ (JW (e:=5) (1+kl+4) (N) (cb) (2) dA rfl ⟨_,_,rfl,dB⟩ rfl rfl ig dB dB dB dB dB)<|nP (K C _ a) ?_;rintro _ _ ⟨rfl,rfl⟩;refine mZ (AC (VB (c.2.1:Int)) (VB (c.2.2.1:Int)) [VB (c.2.1:Int),VB (c.2.2.1:Int)] rfl rfl dA)<|mZ (nG 1)<|nT<|PD [VB (c.2.1:Int),VB (c.2.2.1:Int)] rfl rfl f dA ig kD<|λQ f R=>?_
 replace a:=R.below a u;replace f:row Q L [.slice pk kl kl,VB (c.2.1:Int),VB (c.2.2.1:Int),VB 0] 90:=f;refine qx<|mZ (pz 4 f)<|mZ (nG 0)<|mZ (nH f)<|mZ (oV (e:=5) (sz:=1) dA rfl rfl)<|mZ (EH rfl rfl)<|nT<|oC 4 (_) f<|λX f S=>?_
 replace a:=S.below a u;refine nA<|nk<|nY<|ou [_,_] ⟨⟨_,rfl,Ld.qI (k:=4) f dA dA gp⟩,rfl,trivial⟩ ?_
 have D:=t _ a;rw[hc.2.2]at D;refine⟨⟨_,?_,D⟩,a⟩;show Value.tuple #[.agg #[.slice pk kl kl,VB (c.2.1:Int),VB (c.2.2.1:Int),VB 0], .bool (decide ((kl:Int)<=100))]=_;rw[decide_eq_true dB]
 rfl
theorem zvb{g o cb lv:Nat}{c:Key × V3}(w:World)(h:nM w (some ⟨g,o,none⟩) (qh lv c).length 1 (bv (qh lv c)))(hcb:(qh lv c).length<=cb)(hc:RO lv c)(hl0:¬lv=0):
  CQ 121 [.slice (some ⟨g,o,none⟩) (qh lv c).length cb,VB (lv:Int)] w (λv w'=>(∃ xs,v= .tuple #[.agg xs.toArray, .bool true]/\sV w' [g] xs c)/\VD w w'):=by
 have a:=Below.refl w.heap.size w;have R:maxLen=9223372036854775807:=by decide
 have i:=Ac lv c;obtain⟨C,hc⟩:=hc;have j:(qh lv c)[0]?=some (u8 c.1.length):=rfl;have m:=Ob (n:=c.1.length) dB;obtain⟨kl,p⟩:=aa (c.1.length);have q:=znf lv c;have l:=ZU lv c;obtain⟨B,D⟩:=aa (qh lv c);rw[D]at h hcb i j q l |-;rw[p]at i j m q l C;obtain⟨pk,r⟩:∃ pk,(if 1+kl=1 then(some ⟨g,o,none⟩:Option Addr)else(some ⟨g,o,none⟩:Option Addr).map (·.add (1*1)))=pk:=⟨_,rfl⟩;have s:∀ w',VD w w'->sV w' [g] (pV pk kl c) c:=λw' hb=>by
  have y:=(h.new hb).Fa 1 kl (by rw[i];omega);rw[q]at y
  by_cases S:kl=0
  .refine⟨some ⟨g,o,none⟩,kl,by rw[<-r,if_pos dB],?_,λE F e=>by cases e;simp,dB⟩
   have:c.1=[]:=bH dB;rw[this];exact nM.nil _ _ _
  .refine⟨some ⟨g,o+1,none⟩,kl,by rw[<-r,if_neg dB];rfl,by rw[p];exact y,λE F e=>by cases e;simp,dB⟩
 unfold pV at s;rw[p]at s;obtain⟨N,G⟩:=aa (B.length);rw[G]at h hcb i |-;rw[if_neg hl0]at i l hc;have z:∀ w',VD w w'->nM w' (some ⟨g,o+(1+kl),none⟩) 4 1 (bv (oH 4 c.2.2.2)):=λw' hb=>by
  have:=(h.new hb).Fa (1+kl) 4 dB;rw[l,aQ kX]at this;exact this
 have H:∀ w' t,VD w w'->CQ 179 [.slice (some ⟨g,o+(1+kl),none⟩) 4 t] w' (λv w2=>v=VB (c.2.2.2:Int)/\w'=w2):=λw' t hb=>by
  have:=VR _ 4 t _ w' (z w' hb) dB;rw[Cv hc.2.2]at this;exact this
 clear z;refine nZ (rs:=[.cell 4 90, .tmp 5]) (n:=62) Tryz.func121 rfl rfl Tryz.ntmps121 dA rfl<|ny<|nK<|oD ([VC,VB 0,VB 0,VB 0]) dA<|λI T J f K=>?_
 have u:=ag a.size J;replace a:=a.acc K;refine oG<|nA<|nk<|nI<|ny<|ng<|mZ (qB rfl rfl)<|nk<|qg rfl (dB)<|nU<|nJ<|nI<|ny<|ng<|mZ (oV (e:=5) (sz:=1) dA rfl rfl)<|ng<|mZ (oJ rfl rfl (Coup.nV dB))<|mZ (pI rfl rfl)<|ng<|uy 16 rfl (dB)<|nE<|ng<|nE<|mZ (oV (e:=5) (sz:=1) dA rfl rfl)<|nE<|ng<|nE<|mZ (uX (e:=5) dA rfl rfl (0) dB dB)<|nE<|mZ (oK rfl (Ld.sl1 (h.new a) dA (show(bv B)[0]?=some (.int .u8 ((u8 kl).toNat:Int)) by rw[ES,j];rfl)))<|nE<|mZ (rP (k:=.i64) dA dA rfl (Coup.nV dB))<|nE<|mZ (oJ rfl rfl (Coup.nV dB))<|nE<|ng<|nE<|mZ (oJ rfl rfl (Coup.nV dB))<|nE ?_
 refine mZ (pJ rfl rfl)<|mZ (oP rfl)<|nk<|qg rfl ((by rw[m];omega))<|nU<|nJ<|ny<|ng<|mZ (uX (e:=5) dA rfl rfl (0) dB dB)<|mZ (oK rfl (Ld.sl1 (h.new a) dA (show(bv B)[0]?=some (.int .u8 ((u8 kl).toNat:Int)) by rw[ES,j];rfl)))<|mZ (rP (k:=.i64) dA dA rfl (Coup.nV dB))<|mZ (oJ rfl rfl (show IntKind.i64.wrap (1+((u8 kl).toNat:Int))=((1+kl:Nat):Int) by rw[m,nV dB];omega))<|oG<|ng<|ng<|ng<|mZ (NG (e:=5) (sz:=1) 1 (1+kl) (1+kl) kl kl r dA rfl ⟨_,_,rfl,rfl⟩ ⟨_,_,rfl,rfl⟩ ⟨_,_,rfl,rfl⟩ ig dB dB dB dB dB)<|mZ (nG 0)<|nT<|pQ f<|λL f M=>?_
 replace a:=M.below a u;refine nk<|nI<|ny<|ng<|ng<|ng<|mZ (oJ rfl rfl (show IntKind.i64.wrap (((1+kl:Nat):Int)+4)=((1+kl+4:Nat):Int) by rw[nV dB];omega))<|mZ (JW (e:=5) (1+kl) (1+kl+4) (cb) (4) dA rfl ⟨_,_,rfl,dB⟩ ⟨_,_,rfl,dB⟩ rfl ig dB dB dB dB dB)<|nP (H L _ a) ?_
 rintro _ _ ⟨rfl,rfl⟩;refine oG<|ng<|mZ (qB rfl rfl)<|nk<|qg rfl (dB)<|nO<|ng<|mZ (nG 3)<|nT<|pQ f<|λO f P=>?_
 replace a:=P.below a u;replace f:row O I [.slice pk kl kl,VB 0,VB 0,VB (c.2.2.2:Int)] 90:=f;refine qx<|mZ (pz 4 f)<|mZ (nG 0)<|mZ (nH f)<|mZ (oV (e:=5) (sz:=1) dA rfl rfl)<|mZ (EH rfl rfl)<|nT<|oC 4 (_) f<|λU f Q=>?_
 replace a:=Q.below a u;refine nA<|nk<|nY<|ou [_,_] ⟨⟨_,rfl,Ld.qI (k:=4) f dA dA gp⟩,rfl,trivial⟩ ?_
 have A:=s _ a;rw[hc.1,hc.2.1]at A;refine⟨⟨_,?_,A⟩,a⟩;show Value.tuple #[.agg #[.slice pk kl kl,VB 0,VB 0,VB (c.2.2.2:Int)], .bool (decide ((kl:Int)<=100))]=_;rw[decide_eq_true dB]
 rfl
theorem Gj{g o cb lv:Nat}{c:Key × V3}(w:World)(h:nM w (some ⟨g,o,none⟩) (qh lv c).length 1 (bv (qh lv c)))(hcb:(qh lv c).length<=cb)(hc:RO lv c):
  CQ 121 [.slice (some ⟨g,o,none⟩) (qh lv c).length cb,VB (lv:Int)] w (λv w'=>(∃ xs,v= .tuple #[.agg xs.toArray, .bool true]/\sV w' [g] xs c)/\VD w w'):=
 if hl:lv=0 then zva w h hcb hc hl else zvb w h hcb hc hl
theorem zvc{vs:List Value}{i:Nat}{q:Option Addr}{qc:Nat}{c:Key × V3}(h:(vs.drop (i*4)).take 4=pV q qc c):vs[i*4]?=some (.slice q c.1.length qc):=by
 have a:((vs.drop (i*4)).take 4)[0]?=some (.slice q c.1.length qc):=by rw[h];rfl
 rw[bD,if_pos dB,bC]at a;exact a
def Du(x:MN):Prop:=tN x.cs/\∀ i c,x.cs[i]?=some c->(c.1=[]↔i=0/\0<x.lv)
theorem Lm{ks:List (Key × V3)}(h:tN ks){i:Nat}{a b:Key × V3}(ha:ks[i]?=some a)(hb:ks[i+1]?=some b):sU a.1 b.1<0:=by
 obtain⟨a,rfl⟩:=aL.1 ha;obtain⟨c,rfl⟩:=aL.1 hb;exact List.pairwise_iff_getElem.1 h i (i+1) a c dB
theorem FL{bl:List Nat}{xs:List Value}{x:MN}(w:World)(h:qC w bl xs x)(hk:Du x):
   CQ 122 [.agg xs.toArray] w (λv w'=>v= .bool true/\VD w w'):=by
 obtain⟨p,t,vs,rfl,u,F,_,_⟩:=h;have a:=Below.refl w.heap.size w;have a6:maxLen=9223372036854775807:=by decide
 have a7:=u.max;refine nZ (rs:=[.tmp 2]) (n:=43) Tryz.func122 rfl rfl Tryz.ntmps122 dA rfl<|ny<|nK<|qi (oQ x p t) rfl<|λy w1 a8 l M=>?_
 replace a:=a.acc M;refine nA<|nk<|nI<|ny<|mZ (nG 2)<|mZ (nH l)<|mZ (oV (e:=90) (sz:=4) dA rfl rfl)<|ng<|nk<|pE ?_
 refine qY (α:=Nat) 0 (λk=>[(8,VB (k:Nat)),(7,VB (x.cs.length:Nat)),(6, .slice p x.cs.length t),(1,VA y)])
   (λk w'=>k<=x.cs.length/\row w' y (oQ x p t) 87/\VD w w') (λk=>x.cs.length - k)
   VF ⟨aC _,l,a⟩ ?_
 clear l a;rintro i f a9 ⟨b0,l,a⟩;refine ny<|mZ (pI rfl rfl)<|nk<|nI<|oZ rfl (λN=>?_)<|λN=>?_
 ·
  refine lN ?_;have q:∃ c,x.cs[i]?=some c:=⟨_,aG dB⟩;obtain⟨c,z⟩:=q;have q:=F.ld u rfl z;obtain⟨b1,O,A,B,rfl,P,Q⟩:=q;have b2:=zt A B c;have b3:(pV A B c).length=4:=rfl;refine nO<|ng<|mZ (qZ (e:=90) (sz:=4) dA rfl rfl i dB dB)<|mZ (oK rfl (Q _ a))<|nK<|oD ([VC,VB 0,VB 0,VB 0]) dA<|λR b4 G r H=>?_
  have S:=ag a.size G;have T:y<R:=ae l.lt G;replace l:=l.new H;replace a:=a.acc H;refine nA<|nT<|oC 4 (pV A B c) r<|λb5 r I=>?_
  replace l:=l.only I (ai T);replace a:=I.below a S;refine nk<|nI ?_
  have C:=hk.2 i c z;have U:i=0->decide ((c.1.length:Int)=0)=decide (0<(x.lv:Int)):=λh=>by
    subst h;refine decide_eq_decide.2 ⟨λh=>?_,λh=>?_⟩
    .have:=(C.1 (bH dB)).2;omega
    .rw[C.2 ⟨rfl,dB⟩];rfl
  have V:i≠0->decide ((c.1.length:Int)=0)=false:=λh=>by
    refine decide_eq_false λb6=>h (C.1 (bH dB)).1
  refine qH [] dA ?_;intro X D Y;replace l:=l.new D;replace r:=r.new D;replace a:=a.acc D;have J:=l;have K:=r;have Z:=a;refine nu 0 (nG 0)<|nR 1 (λw' m=>nH (K.kq m))<|nu 2 (oV (e:=5) (sz:=1) dA rfl rfl)<|nu 3 (qB rfl rfl)<|nu 4 (nS)<|nu 5 (qB rfl rfl)<|nu 6 (nS)<|EW 19 rfl (λa0=>?_)<|λa0=>?_
  ·
   refine nu 7 (nG 1)<|nR 8 (λw' m=>nH (J.kq m))<|nu 9 (rz rfl rfl)<|nu 10 (pK rfl)<|nu 11 (UL dA rfl rfl)<|nu 12 (nS)<|TM 25 rfl ((U dB))<|nu 13 (nS)<|nu 14 (rz rfl rfl)<|nu 15 (nS)<|Ap 28 rfl (dB)<|oU 16 dA rfl<|oU 17 dA rfl<|oU 18 dA rfl<|oU 19 dA rfl<|oU 20 dA rfl<|oU 21 dA rfl<|oU 22 dA rfl<|oU 23 dA rfl<|oU 24 dA rfl<|oU 25 dA rfl<|oU 26 dA rfl<|nu 27 (oP rfl)<|nu 28 (oP rfl) ?_
   refine pq dA<|nJ<|Nu rfl<|nU<|pO<|nJ<|nO<|mZ (oJ rfl rfl (Coup.nV dB))<|ng<|oI<|oM ⟨i+1,dB,VF,dB,l,a⟩
  ·
   refine oU 7 dA rfl<|oU 8 dA rfl<|oU 9 dA rfl<|nu 10 (oP rfl)<|nu 11 (UL dA rfl rfl)<|nu 12 (nS)<|TM 25 rfl ((V dB))<|nu 13 (nS)<|nu 14 (rz rfl rfl)<|nu 15 (nS)<|Ig 28 rfl (dB)<|nu 16 (nG 2)<|nR 17 (λw' m=>nH (J.kq m))<|nu 18 (nS)<|nu 19 (vZ rfl rfl (Coup.nV dB)) ?_
   have q:∃ c2,x.cs[i - 1]?=some c2:=⟨_,aG dB⟩;obtain⟨c2,L⟩:=q;have q:=F.at_ _ _ L;obtain⟨b7,b8,a1,a2,_,_⟩:=q;have b9:sU c2.1 c.1<0:=Lm hk.1 L (by rw[show i - 1+1=i by omega];exact z);obtain⟨c4,c5,a3,a4,_,_⟩:=P;cases a3;refine nu 20 (qZ (e:=90) (sz:=4) dA rfl rfl (i - 1) dB dB)<|nu 21 (nG 0)<|nR 22 (λw' m=>oK rfl (Ld.sl1 (off:=O) (j:=(i - 1)*4) (u.new (Z.nD m (by first |(simp;done)|(simp;omega)|(simp[*];done)|exact pG (Or.inl dB)|exact pG (Or.inr ig)|exact λg s=>ag dB (wh s).1|(intro b o e;cases e;exact pG (Or.inl dB))|(intro b s;have:=(hu.lt b (ah.1 s)).1;omega)|(intro b o e;cases e;intro s;have:=(hu.lt _ (ah.1 s)).1;omega)|assumption))) dA (zvc a1)))<|nu 23 (nG 0)<|nR 24 (λw' m=>nH (K.kq m))<|oh 25 dA<|qw rfl rfl (oz dA rfl) (Ik X (a2.new a) (a4.new a)) ?_
   rintro _ c6 ⟨rfl,E⟩;have a5:=Y.add0 E;refine⟨a5,?_⟩;replace l:=l.new E;replace a:=a.acc E;refine nu 26 (tV rfl rfl)<|nu 27 (pK rfl)<|nu 28 (oP rfl)<|pq dA<|nJ<|qg rfl (dB)<|nU<|pO<|nJ<|nO<|mZ (oJ rfl rfl (Coup.nV dB))<|ng<|oI<|oM ⟨i+1,dB,VF,dB,l,a⟩
 ·
  refine mi ?_;exact⟨rfl,a⟩
theorem rD.snoc{w:World}{bl:List Nat}{vs xs:List Value}{cs:List (Key × V3)}{c:Key × V3}(h:rD w bl vs cs)(hc:sV w bl xs c):rD w bl (vs++xs) (cs++[c]):=by
 obtain⟨p,e,rfl,f⟩:=hc;have c:=h.len;refine⟨by rw[aA,aA,c];show _+4=(_+1)*4;omega,λi d a=>?_⟩
 by_cases g:i<cs.length
 .rw[bF g]at a
  rw[dS dB,eX lu];exact h.at_ i d a
 .rw[bB dB]at a
  obtain rfl:i=cs.length:=by
   have:=(aL.1 a).1;simp at this;omega
  rw[bO]at a;cases a;rw[<-c,dK];exact⟨p,e,rfl,f⟩
structure xE(x:MN):Prop where
 lv:x.lv<256
 fit:uM x.lv x.cs=true
 keys:Du x
 wf:∀ c∈x.cs,RO x.lv c
 ne:x.lv=0\/x.cs≠[]
namespace xE
variable {x:MN}
theorem size(h:xE x):rG (pv x.lv x.cs)<=512:=by
 have:=h.fit;rw[Oh]at this;exact of_decide_eq_true this
theorem k3(h:xE x):∀ c∈x.cs,c.1.length<=300:=λc a=>ag (h.wf c a).1 dB
theorem good(h:xE x):Good (rW x):=GK h.k3 h.size
theorem few(h:xE x):x.cs.length<=123:=by
 have:=h.size;rw[Md]at this;omega
end xE
def Af(x:MN)(i:Nat):List UInt8:=if i=0 then[u8 x.lv]else((x.cs[i - 1]?).map (qh x.lv)).getD []
theorem Gd{x:MN}{i:Nat}(hi:i<=x.cs.length):(rW x).slots.getD i none=some (Af x i)/\0<(Af x i).length:=by
 show((some [u8 x.lv]::x.cs.map λc=>some (qh x.lv c)):List (Option (List UInt8))).getD i none=_/\_;unfold Af;cases i with
 |zero=>exact⟨rfl,Nat.zero_lt_one⟩
 |succ j=>
  rw[bI,gI,aV,if_neg dB,show j+1 - 1=j by omega,aG dB];exact⟨rfl,by show 0<(qh _ _).length;rw[Ac];omega⟩
theorem Qu {x : MN} (h : xE x) {i : Nat} (hi : i <= x.cs.length) (w : World) : Calls Tryz.prog 120 [.agg (bv (oW (rW x))).toArray, .int .i64 (i : Int)].toArray w
  (qb λv w' => (∃ g o cp, v = .tuple #[.slice (some ⟨g, o, none⟩) (Af x i).length cp, .int .i64 0] /\ nM w' (some ⟨g, o, none⟩) (Af x i).length 1 (bv (Af x i)) /\ (Af x i).length <= cp /\ w.heap.size <= g /\ g < w'.heap.size) /\ Below w.heap.size w w') :=
 (Sg (rW x) (i : Int) w h.good).to λv w' ⟨⟨q, cp, h1, h2, h3, h4⟩, hB⟩ => by
  obtain ⟨hs, hl⟩ := Gd (x := x) hi
  have hv : Az (rW x).slots (i : Int) = true := by
   unfold Az
   rw [Int.toNat_natCast, hs, decide_eq_true (by omega)]
   rfl
  have hg : Au (rW x).slots (i : Int) = Af x i := by
   unfold Au
   rw [hv, if_pos rfl, Int.toNat_natCast, hs]
   rfl
  rw [hv, hg, if_pos rfl] at h1
  rw [hg] at h2 h3
  obtain ⟨g, o, rfl, hgl⟩ := h2.some (by omega)
  exact ⟨⟨g, o, cp, h1, h2, h3, h4 g o rfl, hgl⟩, hB⟩
def yA(e:Int):Value:=.iface 175 (.agg #[VB e])
theorem KA(w:World):CQ 45 [VB 0] w (λv w'=>v= .tuple #[]/\w=w'):=by
 refine nZ (rs:=[]) (n:=7) Tryz.func45 rfl rfl Tryz.ntmps45 dA rfl<|ny<|ng<|mZ (pJ rfl rfl)<|nk<|qg rfl (iT)<|nU<|zS [] trivial ?_
 exact⟨rfl,rfl⟩
theorem MQ(e:Int)(he:e≠0)(w:World):Calls Tryz.prog 45 [VB e].toArray w (ul (λ_ _=>False) λc w'=>c=pe (yA e)/\w=w'):=by
 refine xg (rs:=[]) (n:=7) Tryz.func45 rfl rfl Tryz.ntmps45 dA rfl<|ny<|ng<|mZ (pJ rfl rfl)<|nk<|uT rfl (he)<|nO<|ng<|mZ (Ay (VB e) [VB e] rfl dA)<|mZ (zo3 dA)<|zpC rfl ?_
 exact wY ⟨rfl,rfl⟩
theorem sV.only{w w':World}{g gq:Nat}{xs:List Value}{c:Key × V3}(h:sV w [gq] xs c)(ho:Only g w w')(hg:gq≠g):sV w' [gq] xs c:=h.nD (Kp.rJ ho) lH
theorem _root_.Go.RowKit.OH{w:World}{base e sz m c:Nat}{p:Option Addr}{xs:List Value}(h:og w base e sz (.slice p m c) m xs):m<=c:=by
 rcases h.2 with⟨a,e⟩|⟨g,f,i,j,c,hb,k,l,m,o,p⟩
 .cases a;omega
 .cases c;omega
theorem vQ(x:MN)(p:Option Addr)(cp:Nat):∀ u∈oQ x p cp,u.oneCell'=true:=by
 intro u a;simp only[oQ,ak,bq,or_false]at a;rcases a with rfl|rfl|rfl<;>rfl
section
variable {Y:VE}[hYT:nz Y]{q N lo:Nat}{L:List Nat}{G V:Nat->Pg}{k:Nat}{w:World}
theorem OJ(tb hb:Nat)(h:Two (GZ q N G V k) Y lo L w)(hr:row w tb [VA q,VA hb] 50){n:Nat}(hn:n<N){x:MN}(hx:x.n=n)(hG:G n=oW (rW x))(hok:xE x):
   CQ 62 [VA tb,VB (n:Int)] w (λv w'=>∃ xs bl,v= .agg xs.toArray/\qC w' bl xs x/\(∀ b∈bl,w.heap.size<=b)/\Two (GZ q N G V k) Y lo (bl++L) w'/\nC lo L w w'):=by
 have m7:=Below.refl w.heap.size w;have J:=nC.refl lo L w;have m8:maxLen=9223372036854775807:=by decide
 have K:=h;have m9:=hok.few;have h4:=hok.k3;have f5:=λi d4 w'=>Qu hok (i:=i) d4 w'
 have f6:∀ w',CQ 108 [.agg (bv (oW (rW x))).toArray] w' (λv w2=>v=VB 3/\VD w' w2):=λw'=>QQ (rW x) w' hok.good
 have d5:∀ w',CQ 119 [.agg (bv (oW (rW x))).toArray] w' (λv w2=>v=VB ((x.cs.length+1:Nat):Int)/\VD w' w2):=λw'=>(FC (rW x) w' hok.good).to λv w2 ⟨M,O⟩=>⟨by rw[M];show VB (((some [u8 x.lv]::x.cs.map λc=>some (qh x.lv c)):List (Option (List UInt8))).length:Int)=_;rw[aD,aP],O⟩
 have f7:∀ w' bl xs,qC w' bl xs x->CQ 70 [.agg xs.toArray] w' (λv w2=>v= .tuple #[.agg (bv (oW (rW x))).toArray, .bool true]/\VD w' w2):=λw' bl xs X=>by
   have:=Ai w' X hok.lv h4;rw[hok.fit,if_pos rfl]at this;exact this
 have f8:=vk hok.good;have f9:∀ w' L',Two (GZ q N G V k) Y lo L' w'->CQ 118 [VA q,VB (n:Int)] w' (λv w2=>v= .tuple #[.agg (bv (oW (rW x))).toArray,VB 0]/\Two (GZ q N G V k) Y lo L' w2/\nC lo L' w' w2):=λw' L' h5=>by
   have:=LQ h5 n hn;rw[hG]at this;exact this
 obtain⟨Z,h6⟩:=aa (oW (rW x));rw[h6]at f5 f6 d5 f7 f8 f9;have g0:Z.length=512:=by rw[<-oL];exact f8
 refine nZ (rs:=[.cell 4 87]) (n:=114) Tryz.func62 rfl rfl Tryz.ntmps62 dA rfl<|ny<|nK<|oD ([VB 0,VB 0,VC]) dA<|λC n0 h7 l d6=>?_
 replace K:=K.nL d6 h7 l.lt;replace J:=J.new d6;replace hr:=hr.new d6;refine qx<|ng<|mZ (oo rfl)<|mZ (nG 0)<|mZ (nH hr)<|ng<|nP (f9 _ _ K) ?_
 rintro _ n1 ⟨rfl,K,g1⟩;replace J:=J.lq g1;replace l:=l.kl g1;refine ng<|mZ (nW rfl rfl)<|mZ (nW rfl rfl)<|nK<|oD (List.replicate 512 (Value.int .u8 0)) dA<|λa0 n2 g2 r d7=>?_
 have h8:C<a0:=ae l.lt g2;replace K:=K.nL d7 g2 r.lt;replace J:=J.new d7;replace l:=l.new d7;refine nT<|oC 512 (bv Z) r<|λa8 r d8=>?_
 replace K:=K.only d8 eG;replace J:=J.oq d8;replace l:=l.only d8 (ai h8);refine nA<|nk<|nI<|ny<|ng<|mZ (qB rfl rfl)<|nk<|qg rfl (iT)<|nU<|nJ<|ny<|ng<|nP (KA a8) ?_
 rintro _ _ ⟨rfl,rfl⟩;have d9:=K;have a9:=J;have h9:=Below.refl (a8).heap.size a8;obtain⟨W1,g3⟩:=aa (a8);have s:VD W1 a8:=by rw[<-g3];exact h9
 rw[g3]at d9 a9;refine qx<|ng<|mZ (Ay (VB (n:Int)) [VB (n:Int),VB 0,VC] rfl dA)<|nK<|oD ([VB 0,VB 0,VC]) dA<|λA n3 e0 p b0=>?_
 have e1:=ag s.size e0;have e2:C<A:=ae l.lt e0;have e3:a0<A:=ae r.lt e0;replace l:=l.new b0;replace r:=r.new b0;replace s:=s.acc b0;refine nT<|oC 3 ([VB (n:Int),VB 0,VC]) p<|λi0 p e4=>?_
 replace l:=l.only e4 (ai e2);replace r:=r.only e4 (ai e3);replace s:=e4.below s e1;refine qx<|mZ (pz 512 r)<|nP (f6 i0) ?_
 rintro _ i1 ⟨rfl,c8⟩;replace l:=l.new c8;replace r:=r.new c8;replace p:=p.new c8;replace s:=s.acc c8;refine mZ (qB rfl rfl)<|ng<|zT 33 rfl (iT)<|nE<|mZ (pz 512 r)<|nE<|nP (d5 i1) ?_;rintro _ g4 ⟨rfl,c9⟩;replace l:=l.new c9;replace r:=r.new c9;replace p:=p.new c9;replace s:=s.acc c9;refine nE<|mZ (rz rfl rfl)<|mZ (pK rfl)<|nA<|nk<|nI<|ny<|nA<|nk<|pE ?_;obtain⟨B0,g5⟩:=aa ((g4).heap.size);have ns:=xV g4 B0 90 4;refine qY (α:=Nat × Value × List Value × List Nat) (0,VC,[],[]) (λa=>[(9,VB (a.1:Nat)),(8, .bool true),(5,VA a0),(7,VA A),(4,VA C),(0,VA tb),(1,VB (n:Int))])
   (λa w'=>a.1<=x.cs.length+1/\row w' a0 (bv Z) 121/\row w' A [VB (n:Int),VB ((if a.1=0 then 0 else x.lv:Nat):Int),a.2.1] 87/\row w' C [VB 0,VB 0,VC] 87/\og w' B0 90 4 a.2.1 (a.1 - 1) a.2.2.1/\rD w' a.2.2.2 a.2.2.1 (x.cs.take (a.1 - 1))/\(∀ b∈a.2.2.2,B0<=b/\b<w'.heap.size/\b∉a.2.1.ownBlock.toList)/\VD W1 w'/\B0<=w'.heap.size) (λa=>x.cs.length+1 - a.1)
   ⟨rfl,congrArg Value.bool (decide_eq_true dB),rfl,rfl,rfl,rfl,rfl,rfl⟩ ⟨aC _,r,p,l,ns,rD.nil _ _,(λb hb=>nomatch hb),s,fJ g5.symm⟩ ?_
 have n4:W1.heap.size<=B0:=by rw[<-g5];exact s.size
 have n5:=r.lt;have n6:=p.lt;have n7:=l.lt;clear r p l s ns;rintro⟨i,v,vs,bl⟩ f e5 ⟨d4,r,p,l,t,b1,D,s,n8⟩;dsimp only at d4 r p t b1 D;have y:=tC.refl [A] e5;have e6:∀ b,v.ownBlock=some b->b<e5.heap.size:=λb e=>(t.lt b e).2
 refine nI<|ny<|ng<|ng<|Ng 39 rfl (rfl)<|nE<|ng<|nE<|mZ (pz 512 r)<|nE<|nP (d5 e5) ?_
 rintro _ T ⟨rfl,a1⟩;replace l:=l.new a1;replace r:=r.new a1;replace p:=p.new a1;replace t:=t.new a1;replace y:=y.new a1;replace s:=s.acc a1;refine nE<|mZ (pI rfl rfl)<|mZ (pK rfl)<|nk<|oZ rfl (λe7=>?_)<|λe7=>?_
 ·
  refine lN ?_;have n9:=p.lt;have o0:=r.lt;have o1:=l.lt;have o2:=y.k.size;have i2:i=0->(Af x i).length=1:=λh=>by rw[h];rfl
  refine nO<|mZ (pz 512 r)<|ng<|qA rfl (oz dA rfl) (f5 i dB T) ?_
  rintro _ i3 ⟨⟨H,oq,i4,rfl,E,g6,o3,o4⟩,a2⟩;replace l:=l.new a2;replace r:=r.new a2;replace p:=p.new a2;replace t:=t.new a2;replace y:=y.new a2;replace s:=s.acc a2;refine ng<|mZ (nW rfl rfl)<|mZ (nW rfl rfl)<|nA<|nA<|nk<|pE<|ny<|ng<|mZ (pJ rfl rfl)<|ng<|uy 69 rfl (iT)<|nE<|ng<|nE<|mZ (qB rfl rfl)<|nE<|ng<|sZ 72 rfl (λe8=>?_)<|λe8=>?_
  ·
   refine nE<|ng<|nE<|mZ (oV (e:=5) (sz:=1) dA rfl rfl)<|nE<|mZ (pJ rfl rfl)<|nE<|mZ (pK rfl)<|mZ (oP rfl)<|nA<|nk<|qg rfl ((by have:=i2 dB;omega))<|ny<|ng<|mZ (qB rfl rfl)<|nA<|nk<|uT rfl dB ?_
   obtain rfl:i=0:=by omega
   refine nO<|ng<|mZ (uX (e:=5) dA rfl rfl (0) dB dB)<|mZ (oK rfl (Ld.sl1 E dA (show(bv [u8 x.lv])[0]?=some (.int .u8 ((u8 x.lv).toNat:Int))from rfl)))<|mZ (rP (k:=.i64) dA dA rfl (show IntKind.i64.wrap ((u8 x.lv).toNat:Int)=(x.lv:Int) by rw[Ob hok.lv,nV (by have:=hok.lv;omega)]))<|mZ (nG 1)<|nT<|pQ p<|λo5 p b2=>?_
   replace l:=l.only b2 (ai e2);replace r:=r.only b2 (ai e3);replace t:=t.only b2 dB;replace y:=y.only b2 iB;replace s:=b2.below s e1;refine oI<|pO<|pO<|nJ<|nO<|ng<|mZ (oJ rfl rfl (Coup.nV dB))<|nA<|oI ?_
   have d0:=y.k.size;have i5:=b1.nD y.k λb hb u=>by
     have M:=(D b hb).1;have O:b=A:=by simpa using u
     omega
   refine oM ⟨(1,v,vs,bl),by dsimp only;omega,VF,by dsimp only;omega,r,p,l,t,i5,(λb hb=>⟨(D b hb).1,ae (D b hb).2.1 d0,(D b hb).2.2⟩),s,dB⟩
  ·
   have o6:i≠0:=by omega
   have b3:∃ j,i=j+1:=⟨i - 1,dB⟩;obtain⟨j,rfl⟩:=b3;have b3:∃ c,x.cs[j]?=some c:=⟨_,aG dB⟩;obtain⟨c,e9⟩:=b3;have i6:=hok.wf c (aO e9);have g7:Af x (j+1)=qh x.lv c:=by
     unfold Af;rw[if_neg dB,show j+1 - 1=j by omega,e9]
     rfl
   have i7:∀ w',nM w' (some ⟨H,oq,none⟩) (Af x (j+1)).length 1 (bv (Af x (j+1)))->CQ 121 [.slice (some ⟨H,oq,none⟩) (Af x (j+1)).length i4,VB (x.lv:Int)] w' (λv w2=>(∃ xs,v= .tuple #[.agg xs.toArray, .bool true]/\sV w2 [H] xs c)/\VD w' w2):=by
     rw[g7]at g6 |-;exact λw' i8=>Gj w' i8 g6 i6
   replace p:row i3 A [VB (n:Int),VB (x.lv:Int),v] 87:=p;refine nN<|nN<|nN<|nE<|mZ (oP rfl)<|mZ (oP rfl)<|nA<|nk<|ui rfl (iT)<|ny<|ng<|mZ (qB rfl rfl)<|nA<|nk<|qg rfl (dB)<|ny ?_
   have o7:=y.k.size;refine nK<|oD ([VC,VB 0,VB 0,VB 0]) dA<|λd1 i9 d2 b4 U=>?_
   have j0:=ag s.size d2;have j1:C<d1:=ae l.lt d2;have j2:a0<d1:=ae r.lt d2;have j3:A<d1:=ae p.lt d2;replace l:=l.new U;replace r:=r.new U;replace p:=p.new U;replace t:=t.new U;replace y:=y.new U;replace E:=E.new U;replace s:=s.acc U;refine qx<|ng<|mZ (nG 1)<|mZ (nH p)<|nP (i7 i9 E) ?_
   rintro _ o8 ⟨⟨o9,rfl,a3⟩,P⟩;replace l:=l.new P;replace r:=r.new P;replace p:=p.new P;replace t:=t.new P;replace y:=y.new P;replace E:=E.new P;replace b4:=b4.new P;replace s:=s.acc P;have j4:=a3;have b3:=j4;obtain⟨a4,a5,j5,_,_,_⟩:=b3;subst j5;have j6:=zt a4 a5 c;have g8:(pV a4 a5 c).length=4:=rfl;refine lV ?_;have j7:=t;refine nT<|oC 4 (pV a4 a5 c) b4<|λp0 b4 Q=>?_
   replace l:=l.only Q (ai j1);replace r:=r.only Q (ai j2);replace p:=p.only Q (ai j3);replace y:=y.only Q iB;replace E:=E.only Q dB;replace a3:=a3.only Q dB;replace s:=Q.below s j0;have t:=j7.nD (Kp.rJ Q) λb u e=>by
     have M:=e6 b e;have O:b=d1:=by simpa using u
     omega
   refine nA<|nk<|nO<|mZ (nG 2)<|mZ (nH p)<|mZ (pz 4 b4)<|nK<|tT (e:=90) (.agg (pV a4 a5 c).toArray) (pV a4 a5 c) ([VC,VB 0,VB 0,VB 0]) 4 dA dA rfl rfl iw ⟨iT,iT⟩<|λp1 j8 p2 j9 R=>?_
   replace l:=l.new R;replace r:=r.new R;replace p:=p.new R;replace y:=y.new R;replace E:=E.new R;replace a3:=a3.new R;replace t:=t.new R;replace s:=s.acc R;have k0:=j9.tY (m:=1) (sz:=4) rfl dB;have k7:=b1.nD y.k λb hb u=>by
     have M:=(D b hb).1;have O:b=A:=by simpa using u
     omega
   have k8:=a3;have p3:=y;have p4:=λb e=>(t.lt b e)
   have d0:=y.k.size;have p5:H<(j8).heap.size:=E.some (by rw[g7,Ac];omega) |>.elim λa ⟨b,e,e7⟩=>by cases e;exact e7
   refine nK<|tu (e:=90) (sz:=4) (bytes:=48) (z:=.agg ([VC,VB 0,VB 0,VB 0]).toArray) dA rfl dA rfl iT rfl t rfl k0 j6 jB dB (λp6=>dB)<|λp7 nV d3 b5 k9=>?_
   replace l:=l.own t b5 dB;replace r:=r.own t b5 dB;replace p:=p.own t b5 dB;replace s:=s.own t b5 dB;have f0:=Kp.rU b5;have p8:=f0.size;have l0:=(k7.nD f0 λb hb u=>(D b hb).2.2 u).mono (bl':=H::bl) λb hb=>by simp[hb]
   have l1:=(k8.nD f0 λb hb u=>by
     have M:=e6 b (ah.1 u);have O:b=H:=by simpa using hb
     omega).mono (bl':=H::bl) λb hb=>by simpa using Or.inl (show b=H by simpa using hb)
   have g9:=l0.snoc l1;have h0:=k9;obtain⟨l2,l3,rfl⟩:=d3.form;refine mZ (nG 2)<|nT<|pQ p<|λp9 p b6=>?_
   replace l:=l.only b6 (ai e2);replace r:=r.only b6 (ai e3);replace d3:=d3.only b6 dB;replace s:=b6.below s e1;refine oI<|pO<|pO<|nJ<|nO<|ng<|mZ (oJ rfl rfl (Coup.nV dB))<|nA<|oI ?_
   have I:=Kp.rJ b6;have h1:=I.size;have l4:x.cs.take (j+1 - 1)++[c]=x.cs.take (j+1+1 - 1):=by rw[show j+1 - 1=j by omega,show j+1+1 - 1=j+1 by omega,bf,e9];rfl
   rw[l4]at g9;have b0:∀ b∈H::bl,b∉[A]:=λb hb u=>by
     have O:b=A:=by simpa using u
     rcases ak.1 hb with F|F
     · omega
     · have M:=(D b F).1;omega
   refine oM ⟨(j+1+1, .slice l2 _ l3,vs++pV a4 a5 c,H::bl),by dsimp only;omega,VF,by dsimp only;omega,r,p,l,d3,g9.nD I b0,(λb hb=>?_),s,dB⟩;rcases ak.1 hb with F|F
   · subst F
     refine⟨dB,dB,λu=>?_⟩;rcases h0 b (ah.1 u)with b7|b7
     · have:=e6 b b7;omega
     · omega
   · obtain⟨l5,q0,l6⟩:=D b F
     refine⟨l5,dB,λu=>?_⟩;rcases h0 b (ah.1 u)with b7|b7
     · exact l6<|ah.2 b7
     · omega
 ·
  obtain rfl:i=x.cs.length+1:=by omega
  obtain⟨pv,cv,rfl⟩:=t.form;obtain⟨bs,f1⟩:=aa ((Value.slice pv (x.cs.length+1 - 1) cv).ownBlock.toList++bl);have g8:=t.lt;have d0:=y.k.size;have X:qC T bs (oQ x pv cv) x:=by
    refine⟨pv,cv,vs,rfl,t.sl,?_,λg o e=>?_,OH t⟩
    · rw[show x.cs.take (x.cs.length+1 - 1)=x.cs from aQ dB]at b1
      exact(b1.nD y.k λb hb u=>by
        have M:=(D b hb).1;have O:b=A:=by simpa using u
        omega).mono λb hb=>by rw[<-f1];exact aB _ hb
    · rw[<-f1]
      refine aF _<|ah.2 ?_
      subst e
      rfl
  have S:∀ b∈bs,B0<=b/\b<(T).heap.size:=λb hb=>by
    rw[<-f1]at hb;rcases ay.1 hb with F|F
    · exact g8 b<|ah.1 F
    · exact⟨(D b F).1,ae (D b F).2.1 d0⟩
  replace p:row T A (oQ x pv cv) 87:=by unfold oQ;rw[hx];exact p
  have q1:(oQ x pv cv).length=3:=rfl;have q2:=vQ x pv cv;have B:=Below.refl (T).heap.size T;have l7:=hok.ne;refine qL<|qK<|rq<|qO<|nJ<|nI<|ny<|ng<|nk<|vD rfl (rfl)<|ny<|mZ (pz 3 p)<|nP (f7 T _ _ (X.new B)) ?_
  rintro _ q3 ⟨rfl,b8⟩;replace l:=l.new b8;replace r:=r.new b8;replace p:=p.new b8;replace s:=s.acc b8;replace B:=B.acc b8;refine ng<|mZ (nW rfl rfl)<|mZ (nW rfl rfl)<|nK<|oD (List.replicate 512 (Value.int .u8 0)) dA<|λf2 q4 b9 a6 c4=>?_
  have l8:=ag s.size b9;have l9:=ag B.size b9;have m0:C<f2:=ae l.lt b9;have m1:a0<f2:=ae r.lt b9;have m2:A<f2:=ae p.lt b9;replace l:=l.new c4;replace r:=r.new c4;replace p:=p.new c4;replace s:=s.acc c4;replace B:=B.acc c4;rw[AR]at a6;refine nT<|oC 512 (bv Z) a6<|λm3 a6 c5=>?_
  replace l:=l.only c5 (ai m0);replace r:=r.only c5 (ai m1);replace p:=p.only c5 (ai m2);replace s:=c5.below s l8;replace B:=c5.below B l9;refine nA<|nk<|nO<|mZ (pz 3 p)<|nP (FL m3 (X.new B) hok.keys) ?_
  rintro _ q5 ⟨rfl,a7⟩;replace l:=l.new a7;replace r:=r.new a7;replace p:=p.new a7;replace a6:=a6.new a7;replace s:=s.acc a7;replace B:=B.acc a7;refine ng<|Ng 94 rfl (rfl)<|nE<|mZ (pz 512 a6)<|nE<|mZ (pz 512 r)<|nE<|mZ (UT (n:=512) dA rfl rfl g0 g0)<|mZ (pK rfl)<|ng<|zT 99 rfl (rfl)<|nE<|mZ (nG 1)<|nE<|mZ (nH p)<|nE<|mZ (qB rfl rfl)<|nE<|ng<|sZ 103 rfl (λe8=>?_)<|λe8=>?_
  ·
   refine nN<|nN<|nN<|nN<|nE<|mZ (pK rfl)<|mZ (pK rfl)<|nA<|nk<|nI<|nI<|nO<|ng<|mZ (sj rfl)<|nk<|Nu rfl<|nU<|nJ<|ny<|mZ (pz 3 p) ?_
   have c6:=s;have c7:=B;have m4:=s.size;refine nT<|oC 3 (oQ x pv cv) l<|λq6 l h2=>?_
   refine nk<|nY<|ou [_] ⟨⟨_,rfl,Ld.qI (k:=3) l dA dA gp⟩,trivial⟩ ?_
   have I:=Kp.rJ h2;have h1:=I.size;have m5:=c7.size;have m6:=a9.size;have f3:=((tC.refl [C] W1).nD (N:=[]) (Kp.of_below c6) (λ_ u=>nomatch u)).nD I ig;have f4:=(X.new c7).nD I λb hb u=>by
     have M:=(S b hb).1;have O:b=C:=by simpa using u
     omega
   refine⟨oQ x pv cv,bs,rfl,f4,(λb hb=>by have:=(S b hb).1;omega),(d9.more f3.k (N:=bs) (λb hb=>.inr (by simpa using Or.inr (Or.inl (show b=C by simpa using hb)))) (λb hb=>.inr (by have:=(S b hb).1;omega)) λb hb=>by have:=(S b hb).2;omega).weak λb hb=>?_,(a9.new c6).only h2 (.inl dB)⟩;rcases ay.1 hb with hb|hb
   · exact aF _ hb
   · exact aB _ jX
  ·
   refine nE<|mZ (nG 2)<|nE<|mZ (nH p)<|nE<|mZ (oV (e:=90) (sz:=4) dA rfl rfl)<|nE<|mZ (rz rfl rfl)<|nE<|mZ (oP rfl)<|mZ (pK rfl)<|nA<|nk<|nI<|ny<|ng<|mZ (sj rfl)<|nk<|Ee rfl ((by have:=fF.2 (l7.resolve_left dB);omega))<|nU<|nJ<|ny<|mZ (pz 3 p) ?_
   have c6:=s;have c7:=B;have m4:=s.size;refine nT<|oC 3 (oQ x pv cv) l<|λq7 l h3=>?_
   refine nk<|nY<|ou [_] ⟨⟨_,rfl,Ld.qI (k:=3) l dA dA gp⟩,trivial⟩ ?_
   have I:=Kp.rJ h3;have h1:=I.size;have m5:=c7.size;have m6:=a9.size;have f3:=((tC.refl [C] W1).nD (N:=[]) (Kp.of_below c6) (λ_ u=>nomatch u)).nD I ig;have f4:=(X.new c7).nD I λb hb u=>by
     have M:=(S b hb).1;have O:b=C:=by simpa using u
     omega
   refine⟨oQ x pv cv,bs,rfl,f4,(λb hb=>by have:=(S b hb).1;omega),(d9.more f3.k (N:=bs) (λb hb=>.inr (by simpa using Or.inr (Or.inl (show b=C by simpa using hb)))) (λb hb=>.inr (by have:=(S b hb).1;omega)) λb hb=>by have:=(S b hb).2;omega).weak λb hb=>?_,(a9.new c6).only h3 (.inl dB)⟩;rcases ay.1 hb with hb|hb
   · exact aF _ hb
   · exact aB _ jX
end
theorem Tt{bl:List Nat}{xs:List Value}{x:MN}{pk:Option Addr}{ck:Nat}{k:Key}(w:World)(h:qC w bl xs x)(hn:x.cs.length<=1000)(hr:tN x.cs)(hk:nM w pk k.length 1 (bv k)):
  CQ 44 [.agg xs.toArray, .slice pk k.length ck] w (λv w'=>v= .tuple #[VB (pY x.cs k:Int), .bool (isK x.cs k)]/\VD w w'):=by
 obtain⟨p,c,vs,rfl,e,f,_,_⟩:=h;have a:=Below.refl w.heap.size w;refine nZ (rs:=[.tmp 4, .tmp 5]) (n:=12) Tryz.func44 rfl rfl Tryz.ntmps44 dA rfl<|ny<|nK<|qi (oQ x p c) rfl<|λk w2 l g i=>?_
 replace a:=a.acc i;refine nA<|oG<|mZ (nG 2)<|mZ (nH g)<|ng<|nP (zs9 w2 rfl hn (e.new a) (f.new a) hr (hk.new a)) ?_
 rintro _ m ⟨rfl,j⟩;replace a:=a.acc j;refine mZ (nW rfl rfl)<|mZ (nW rfl rfl)<|nA<|nA<|nk<|nY<|ou [_,_] ⟨rfl,rfl,trivial⟩ ?_;exact⟨rfl,a⟩
structure JD(w:World)(s e:Nat)(bl:List Nat)(xs:List Value)(x:MN):Prop where
 nd:qC w bl xs x
 rg:∀ b∈bl,s<=b/\b<e
theorem JD.new{w w':World}{s e:Nat}{bl:List Nat}{xs:List Value}{x:MN}(h:JD w s e bl xs x)(hb:VD w w'):JD w' s e bl xs x:=⟨h.nd.new hb,h.rg⟩
theorem JD.only{w w':World}{s e g:Nat}{bl:List Nat}{xs:List Value}{x:MN}(h:JD w s e bl xs x)(ho:Only g w w')(hg:g<s\/e<=g):JD w' s e bl xs x:=⟨h.nd.nD (Kp.rJ ho) λb hb a=>by
 have c:=h.rg b hb;have e:b=g:=by simpa using a
 omega,h.rg⟩
theorem qC.ll{w w':World}{lo:Nat}{L bl:List Nat}{xs:List Value}{x:MN}(h:qC w bl xs x)(k:nC lo L w w')(hb:∀ b∈bl,b<lo\/b∈L):qC w' bl xs x:=h.nD k.kp λb a=>pG (hb b a)
theorem YI{vs:List Value}{i:Nat}{q:Option Addr}{qc:Nat}{c:Key × V3}(h:(vs.drop (i*4)).take 4=pV q qc c):vs[i*4+3]?=some (VB (c.2.2.2:Int)):=by
 have a:((vs.drop (i*4)).take 4)[3]?=some (VB (c.2.2.2:Int)):=by rw[h];rfl
 rw[bD,if_pos dB,bC]at a;exact a
theorem wV(x:MN)(p:Option Addr)(cp:Nat):(oQ x p cp).length=3:=rfl
section
variable {Y:VE}[hYT:nz Y]{q N lo:Nat}{L:List Nat}{G V:Nat->Pg}{k:Nat}{w:World}
theorem Uy(tb hb:Nat)(h:Two (GZ q N G V k) Y lo L w)(hr:row w tb [VA q,VA hb] 50){bl:List Nat}{xs:List Value}{x:MN}(hnd:qC w bl xs x){c:Key × V3}{i:Nat}(hci:x.cs[i]?=some c)(hn:c.2.2.2<N){x2:MN}(hx2:x2.n=c.2.2.2)(hG:G c.2.2.2=oW (rW x2))(hok:xE x2)(hlv:x.lv=x2.lv+1):
  CQ 50 [VA tb, .agg xs.toArray,VB (i:Int)] w (λv w'=>∃ xs bl,v= .agg xs.toArray/\qC w' bl xs x2/\(∀ b∈bl,w.heap.size<=b)/\Two (GZ q N G V k) Y lo (bl++L) w'/\nC lo L w w'):=by
 obtain⟨p,U,vs,rfl,D,X,_,_⟩:=hnd;have g:=Below.refl w.heap.size w;have c:=nC.refl lo L w;have r:=h;have b3:maxLen=9223372036854775807:=by decide
 have b4:=D.max;have b5:=hok.lv;have b6:=(aL.1 hci).1;obtain⟨Z,M,rfl,b7⟩:=D.some dB;obtain⟨b8,b9,a0,_,_,_⟩:=X.at_ _ _ hci;have a1:=YI a0;have a2:=λw' L' (a3:Two (GZ q N G V k) Y lo L' w') (a4:row w' tb [VA q,VA hb] 50)=>OJ tb hb a3 a4 hn hx2 hG hok
 refine nZ (rs:=[.cell 6 87]) (n:=24) Tryz.func50 rfl rfl Tryz.ntmps50 dA rfl<|ny<|nK<|qi (oQ x (some ⟨Z,M,none⟩) U) rfl<|λE c4 F a z=>?_
 have c5:=ag g.size F;have c6:=c.size;have c7:tb<E:=ae hr.lt F;replace r:=r.nL z F a.lt;replace c:=c.new z;replace hr:=hr.new z;replace g:=g.acc z;refine nK<|oD ([VB 0,VB 0,VC]) dA<|λH I A f s=>?_
 have c8:=ag g.size A;have c9:tb<H:=ae hr.lt A;have a5:E<H:=ae a.lt A;replace r:=r.nL s A f.lt;replace c:=c.new s;replace hr:=hr.new s;replace a:=a.new s;replace g:=g.acc s;refine qx<|ng<|mZ (nG 2)<|mZ (nH a)<|ng<|mZ (qZ (e:=90) (sz:=4) dA rfl rfl (i) dB dB)<|mZ (nG 3)<|mZ (oK rfl (Ld.sl1 (off:=M) (j:=i*4+3) (D.new g) dA a1)) ?_
 have d0:=g.size;have d1:=ax (I).heap.size;obtain⟨W1,O⟩:=aa (I);have a6:=a.lt;have a7:=f.lt;refine nP (a2 I _ r hr) ?_;rintro _ P ⟨a8,Q,rfl,R,a9,l,J⟩;replace c:=c.lq J;replace a:=a.kl J;replace f:=f.kl J;have m:JD P W1.heap.size (P).heap.size Q a8 x2:=⟨R,λb hb=>⟨by rw[<-O];exact a9 b hb,l.lt b (aF _ hb)⟩⟩;have b0:=R;obtain⟨B,C,_,b1,_,_,_,_⟩:=b0;subst b1;have d2:=vQ x2 B C;have d3:=wV x2 B C;rw[O]at a6 a7;have d4:=c.size;refine nK<|oD ([VB 0,VB 0,VC]) dA<|λS d5 K o t=>?_
 have b2:E<S:=ae a.lt K;have T:H<S:=ae f.lt K;replace c:=c.new t;replace a:=a.new t;replace f:=f.new t;replace l:=l.nL t K o.lt;replace m:=m.new t;refine nT<|oC 3 (oQ x2 B C) o<|λd6 o u=>?_
 replace c:=c.oq u;replace a:=a.only u (ai b2);replace f:=f.only u (ai T);replace l:=l.only u eG;replace m:=m.only u dB;refine nk<|nI<|ny<|mZ (nG 1)<|mZ (nH o)<|mZ (nG 1)<|mZ (nH a)<|mZ (vZ rfl rfl (Coup.nV dB))<|mZ (pJ rfl rfl)<|nk<|qg rfl (dB)<|nU<|nJ<|ny<|mZ (pz 3 o)<|nT<|oC 3 (oQ x2 B C) f<|λd7 f y=>?_
 replace c:=c.oq y;replace a:=a.only y (ai a5);replace l:=l.only y eG;replace m:=m.only y dB;replace o:=o.only y (bu T);refine nk<|nY<|ou [_] ⟨⟨_,rfl,Ld.qI (k:=3) f dA dA gp⟩,trivial⟩ ?_
 exact⟨_,Q,rfl,m.nd,(λb hb=>by have:=(m.rg b hb).1;omega),l.weak (λb hb=>by
  rcases ay.1 hb with h|h
  .simp[h]
  .simp[h]),c⟩
end
theorem Wx{l:Nat}{ks:List (Key × Val l)}{c:Key × V3}(h:c∈toM l ks):∃ x∈ks,c=(x.1,v3 l x.2):=by
 obtain⟨x,a,rfl⟩:=bg.1 h;exact⟨x,a,rfl⟩
theorem YG{l:Nat}{ks:List (Key × Val l)}(h:tN ks):tN (toM l ks):=List.pairwise_map.2 h
theorem QJ{l i:Nat}{ks:List (Key × Val l)}{x:Key × Val l}(h:ks[i]?=some x):(toM l ks)[i]?=some (x.1,v3 l x.2):=by
 unfold toM;rw[aV,h];rfl
theorem Fe:∀ {l:Nat} {t:Tr l} {lo hi:Key},qJ l t lo hi->(∀ n∈om l t,n<4294967296)->l<256->xE (nX l t)
 |0,t,lo,hi,h,_,_=>by
  refine⟨by show 0<256;omega,by show uM 0 (toM 0 t.ks)=true;rw[Xn];exact h.fit,⟨YG h.AO,λi c g=>⟨λe=>?_,λe=>absurd e.2 (ic 0)⟩⟩,λc g=>?_, .inl rfl⟩
  .obtain⟨x,a,rfl⟩:=Wx (aO g)
   exact absurd e (h.2.1 x a).1.1
  .obtain⟨x,a,rfl⟩:=Wx g
   obtain⟨j,_,_,f,q⟩:=h.2.1 x a;exact⟨j.2,by rw[if_pos (show(nX 0 t).lv=0 from rfl)];exact⟨by show x.2.1<4294967296;omega,q,rfl⟩⟩
 |l+1,t,lo,hi,h,hp,hl=>by
  have o:∀ i x,t.ks[i]?=some x->(i=0/\x.1=[]\/i≠0/\qR x.1):=λi x a=>by
   obtain⟨s,r,e,p⟩:=h.1;cases i with
   |zero=>rw[e]at a;cases a;exact .inl ⟨rfl,p⟩
   |succ i=>
    obtain⟨k,u⟩:=aL.1 a;refine .inr ⟨dB,(h.2.2.1 (t.ks.take (i+1)) x (t.ks.drop (i+2)) ?_ λy=>?_).1⟩
    .rw[<-u,<-dm k,bM]
    .have:=congrArg List.length y
     rw[aI]at this;simp only[aY]at this;omega
  refine⟨hl,by show uM (l+1) (toM (l+1) t.ks)=true;rw[Xn];exact h.fit,⟨YG h.AO,λi c g=>?_⟩,λc g=>?_, .inr ?_⟩
  .have m:(toM (l+1) t.ks)[i]?=some c:=g
   unfold toM at m;rw[aV]at m;obtain⟨x,a,rfl⟩:=df.1 m;rcases o i x a with⟨j,f⟩|⟨j,f⟩
   .exact⟨λ_=>⟨j,gN l⟩,λ_=>f⟩
   .exact⟨λe=>absurd e f.1,λe=>absurd e.1 j⟩
  .obtain⟨x,a,rfl⟩:=Wx g
   obtain⟨i,k⟩:=eZ.1 a;refine⟨?_,?_⟩
   .rcases o i x k with⟨_,f⟩|⟨_,f⟩
    .show x.1.length<=100;rw[f];exact aC _
    .exact f.2
   .rw[if_neg (show¬(nX (l+1) t).lv=0 from jK l)]
    exact⟨rfl,rfl,hp x.2.n (aj _ (bG.2 ⟨x,a,vH⟩))⟩
  .obtain⟨s,r,e,p⟩:=h.1
   show toM (l+1) t.ks≠[];rw[e];exact jL _ _
def ze:(l:Nat)->Tr l->Key->List (MN × Nat)
 |0,t,_=>[(nX 0 t,0)]
 |l+1,t,k=>(nX (l+1) t,qP t.ks k)::match t.ks[qP t.ks k]? with|some x=>ze l x.2 k|none=>[]
theorem Pt{l:Nat}{t:Tr (l+1)}{k:Key}{x:Key × Val (l+1)}(h:t.ks[qP t.ks k]?=some x):ze (l+1) t k=(nX (l+1) t,qP t.ks k)::ze l x.2 k:=by
 rw[ze,h]
theorem VL{l:Nat}(ks:List (Key × Val l))(k:Key):pY (toM l ks) k=pY ks k:=Vv (v3 l) ks k
theorem QV{l:Nat}(ks:List (Key × Val l))(k:Key):isK (toM l ks) k=isK ks k:=YY (v3 l) ks k
theorem GY{l:Nat}{t:Tr (l+1)}{lo hi k:Key}(h:qJ (l+1) t lo hi)(hk:qR k):1<=pY t.ks k:=by
 obtain⟨x,r,e,a⟩:=h.1;unfold pY;rw[e,List.takeWhile_cons,a,if_pos (decide_eq_true (Nn hk.1))];simp
theorem SE:∀ {l:Nat} {t:Tr l} {k lo hi:Key},qJ l t lo hi->qR k->pW lo k->rR k hi->(ze l t k).length=l+1
 |0,_,_,_,_,_,_,_,_=>rfl
 |l+1,t,k,lo,hi,h,hk,hlo,hhi=>by
  obtain⟨A,x,B,e,g,a,c,f,_,_,_⟩:=zR h hk hlo hhi;rw[Pt a,aD,SE (h.2.2.2.2 A x B e) hk c f]
structure yh(N:Nat)(H:HS)(l:Nat)(t:Tr l):Prop where
 rg:∀ n∈om l t,1<=n/\n<H.F.fresh
 hold:vg H.S l t
 lv:l<256
 fN:H.F.fresh<=N
 n2:N<=2048
namespace yh
variable {N:Nat}{H:HS}{l:Nat}
theorem page{t:Tr l}(h:yh N H l t):t.n<N/\nQ H t.n=oW (rW (nX l t)):=by
 have a:=h.rg t.n vH;have c:=h.fN;refine⟨dB,?_⟩;unfold nQ;rw[if_neg dB,if_pos a.2,h.hold.top,CW]
theorem zZ{t:Tr l}(h:yh N H l t){lo hi:Key}(hs:qJ l t lo hi):xE (nX l t):=Fe hs (λn a=>by have:=h.rg n a;have:=h.fN;have:=h.n2;omega) h.lv
theorem kid{t:Tr (l+1)}(h:yh N H (l+1) t){x:Key × Val (l+1)}(hx:x∈t.ks):yh N H l x.2:=
 ⟨λn a=>h.rg n (aj _ (bG.2 ⟨x,hx,a⟩)),h.hold.2 x hx,by have:=h.lv;omega,h.fN,h.n2⟩
end yh
structure xk(w:World)(bl:List Nat)(vs:List Value)(ps:List (MN × Nat)):Prop where
 len:vs.length=ps.length*4
 at_:∀ j z,ps[j]?=some z->∃ xs,(vs.drop (j*4)).take 4=xs++[VB (z.2:Int)]/\qC w bl xs z.1
namespace xk
variable {w w':World}{bl bl':List Nat}{vs:List Value}{ps:List (MN × Nat)}
theorem nil(w:World)(bl:List Nat):xk w bl [] []:=⟨rfl,λj c a=>by cases a⟩
theorem nD{M:List Nat}(h:xk w bl vs ps)(k:Kp M w w')(hM:∀ b∈bl,b∉M):xk w' bl vs ps:=⟨h.len,λj a c=>let ⟨xs,h1,h2⟩:=h.at_ j a c;⟨xs,h1,h2.nD k hM⟩⟩
theorem ll{lo:Nat}{L:List Nat}(h:xk w bl vs ps)(k:nC lo L w w')(hb:∀ b∈bl,b<lo\/b∈L):xk w' bl vs ps:=h.nD k.kp λb a=>pG (hb b a)
theorem mono(h:xk w bl vs ps)(hb:∀ b∈bl,b∈bl'):xk w bl' vs ps:=⟨h.len,λj a c=>let ⟨xs,h1,h2⟩:=h.at_ j a c;⟨xs,h1,h2.mono hb⟩⟩
theorem new(h:xk w bl vs ps)(hb:VD w w'):xk w' bl vs ps:=h.nD (M:=[]) (Kp.of_below hb) ig
theorem snoc{xs:List Value}{x:MN}{i:Nat}(h:xk w bl vs ps)(hx:qC w bl xs x):xk w bl (vs++(xs++[VB (i:Int)])) (ps++[(x,i)]):=by
 have c:=h.len;have e:xs.length=3:=by obtain⟨p,l,_,rfl,_⟩:=hx;rfl
 refine⟨by simp[c,e];omega,λj f a=>?_⟩
 by_cases g:j<ps.length
 .rw[bF g]at a
  obtain⟨ys,i,k⟩:=h.at_ j f a;refine⟨ys,?_,k⟩;rw[dS dB,eX lu];exact i
 .rw[bB dB]at a
  obtain rfl:j=ps.length:=by
   have:=(aL.1 a).1;simp at this;omega
  rw[bO]at a;cases a;refine⟨xs,?_,hx⟩;rw[<-c,dK,aQ kH]
end xk
theorem _root_.Coup.nM.rQ{w w':World}{p:Option Addr}{m sz lo:Nat}{cs:List Value}{L:List Nat}(h:nM w p m sz cs)(k:nC lo L w w')(hg:∀ g o,p=some ⟨g,o,none⟩->g<lo\/g∈L):nM w' p m sz cs:=h.nD k.kp λg o e=>pG (hg g o e)
def zA(x:MN)(p:Option Addr)(cp i:Nat):List Value:=[VB (x.n:Int),VB (x.lv:Int), .slice p x.cs.length cp,VB (i:Int)]
theorem zpV(x:MN)(p:Option Addr)(cp i:Nat):∀ u∈zA x p cp i,u.oneCell'=true:=by
 intro u a;simp only[zA,ak,bq,or_false]at a;rcases a with rfl|rfl|rfl|rfl<;>rfl
structure WSt where
 l:Nat
 t:Tr l
 ps:List (MN × Nat)
 v:Value
 vs:List Value
 bl:List Nat
 p:Option Addr
 cp:Nat
 Lc:List Nat
structure WyI(N:Nat)(H:HS)(l0:Nat)(t0:Tr l0)(key:Key)(L:List Nat)(B0 g5:Nat)(s:WSt)(w:World):Prop where
 path:ze l0 t0 key=s.ps++ze s.l s.t key
 len:s.ps.length+s.l=l0
 snd_:∃ lo hi,qJ s.l s.t lo hi/\pW lo key/\rR key hi
 tin:yh N H s.l s.t
 nd:qC w s.bl (oQ (nX s.l s.t) s.p s.cp) (nX s.l s.t)
 row:row w g5 (oQ (nX s.l s.t) s.p s.cp) 87
 own:og w B0 97 4 s.v s.ps.length s.vs
 wy:xk w s.bl s.vs s.ps
 bl:∀ b∈s.bl,b∈s.Lc/\b≠g5/\b∉s.v.ownBlock.toList
 vL:∀ b∈s.v.ownBlock.toList,b∈s.Lc
 gL:g5∈s.Lc
 LL:∀ b∈L,b∈s.Lc
section
variable {Y:VE}[hYT:nz Y]{q N lo:Nat}{L:List Nat}{V:Nat->Pg}{k:Nat}{H:HS}{fl:List Nat}{w:World}
theorem BQ (tb hb:Nat) (h:Two (GZ q N (nQ H) V k) Y lo L w) (hH:rC N H fl) (hr:row w tb [VA q,VA hb] 50) (htb:tb<lo\/tb∈L) (hrh:row w hb [VA q] 201) (hhb:hb<lo\/hb∈L)
   {l:Nat} {t:Tr l} (ht:yh N H l t) (hs:qJ l t [] []) (hroot:H.F.root=t.n) {pk:Option Addr} {ck:Nat} {key:Key} (hkey:nM w pk key.length 1 (bv key)) (hkL:∀ g o,pk=some ⟨g,o,none⟩->g<lo\/g∈L) (hkk:qR key):
   CQ 43 [VA tb, .slice pk key.length ck] w (λv w'=>∃ vs bl Lc,og w' w.heap.size 97 4 v (l+1) vs/\xk w' bl vs (ze l t key)/\(∀ b∈bl,b∈Lc/\b∉v.ownBlock.toList)/\(∀ b∈v.ownBlock.toList,b∈Lc)/\(∀ b∈L,b∈Lc)/\Two (GZ q N (nQ H) V k) Y lo Lc w'/\nC lo L w w'):=by
 have c:=nC.refl lo L w;have j:=h;have m0:maxLen=9223372036854775807:=by decide
 have m1:=h.lo;have g4:∀ w' L',Two (GZ q N (nQ H) V k) Y lo L' w'->row w' hb [VA q] 201->(hb<lo\/hb∈L')->CQ 51 [VA hb] w' (λv w2=>v=VB (t.n:Int)/\Two (GZ q N (nQ H) V k) Y lo L' w2/\nC lo L' w' w2):=λw' L' o I U=>by
   have:=Na hb o hH I U;rw[hroot]at this;exact this
 have g5:=λw' L' (o:Two (GZ q N (nQ H) V k) Y lo L' w') (I:row w' tb [VA q,VA hb] 50)=>OJ tb hb o I ht.page.1 (x:=nX l t) rfl ht.page.2 (ht.zZ hs)
 refine nZ (rs:=[.tmp 4]) (n:=44) Tryz.func43 rfl rfl Tryz.ntmps43 dA rfl<|ny<|oG<|ng<|ng<|mZ (oo rfl)<|mZ (nG 1)<|mZ (nH hr)<|nP (g4 w _ j hrh hhb) ?_
 rintro _ g6 ⟨rfl,j,g7⟩;replace c:=c.lq g7;have g8:=hr.kl c htb;have g9:=c.size;refine nP (g5 g6 _ j g8) ?_;rintro _ e2 ⟨h0,b5,rfl,e3,h1,j,h2⟩;replace c:=c.lq h2;have X:JD e2 w.heap.size (e2).heap.size b5 h0 (nX l t):=⟨e3,λb hb=>⟨ag g9 (h1 b hb),j.lt b (aF _ hb)⟩⟩;obtain⟨a6,a7,_,b6,_,_,_,_⟩:=e3;subst b6;have h3:=vQ (nX l t) a6 a7;have h4:=wV (nX l t) a6 a7;have m2:=c.size;refine nK<|oD ([VB 0,VB 0,VC]) dA<|λC m3 h5 f b7=>?_
 have m4:=c.size;replace j:=j.nL b7 h5 f.lt;replace c:=c.new b7;replace X:=X.new b7;refine nT<|oC 3 (oQ (nX l t) a6 a7) f<|λe4 f b8=>?_
 replace j:=j.only b8 eG;replace c:=c.oq b8;replace X:=X.only b8 dB;refine qx<|nA<|nk<|nI<|pE ?_
 obtain⟨B0,m5⟩:=aa ((e4).heap.size);have ns:=xV e4 B0 97 4;have m6:=f.lt;have m7:=c.size;have m8:=j.lt;refine qY (α:=WSt) ⟨l,t,[],VC,[],b5,a6,a7,C::(b5++L)⟩ (λs=>[(5,VA C),(6,s.v),(0,VA tb),(1, .slice pk key.length ck)])
   (λs w'=>WyI N H l t key L B0 C s w'/\Two (GZ q N (nQ H) V k) Y lo s.Lc w'/\nC lo L w w'/\B0<=w'.heap.size) (λs=>s.l)
   VF ⟨⟨rfl,by show 0+l=l;omega,⟨[],[],hs,vF _, .inl rfl⟩,ht,X.nd,f,ns,xk.nil _ _,λb hb=>⟨aj _ (aF _ hb),λe=>by have o:=(X.rg b hb).2;omega,(λi=>nomatch i)⟩,(λb i=>nomatch i),aK ..,λb hb=>aj _ (aB _ hb)⟩,j,c,dB⟩ ?_
 have h6:w.heap.size<=B0:=by omega
 have m9:w.heap.size<=C:=by omega
 clear ns j c f X;rintro⟨D,a,ps,v,vs,bl,p,r,Lc⟩ n0 b9 ⟨h7,j,c,n1⟩;obtain⟨c4,h8,⟨h9,i0,a0,e5,e6⟩,c5,E,f,y,J,u,a1,e7,c6⟩:=h7;dsimp only at c4 h8 h9 i0 a0 e5 e6 c5 E f y J u a1 e7 c6 j;have e8:=c5.zZ a0;have i1:=e8.few;have i2:=e8.keys.1;have h3:=vQ (nX D a) p r;have h4:=wV (nX D a) p r;have Z:=hkey.rQ c hkL;have e9:=hr.kl c htb;have f0:=zpV (nX D a) p r;have F:=Below.refl b9.heap.size b9;refine nI<|ny<|mZ (nG 1)<|mZ (nH f)<|mZ (rz rfl rfl)<|nk<|oZ rfl (λi3=>?_)<|λi3=>?_
 ·
  refine nU<|nJ<|pE<|ny<|mZ (pz 3 f)<|ng ?_
  have c7:∃ g,D=g+1:=⟨D - 1,by have:(nX D a).lv=D:=rfl;omega⟩;obtain⟨g,rfl⟩:=c7;have c7:=zR a0 hkk e5 e6;obtain⟨A,x,B,e,n2,f1,i4,i5,_,_,_⟩:=c7;have f2:=a0.2.2.2.2 A x B e;have a8:=c5.kid (x:=x) kz;have n3:=GY a0 hkk;have n4:=Xp a.ks key;have n5:(nX (g+1) a).cs.length=a.ks.length:=aP _;have i6:isK a.ks key=false->(pY a.ks key:Int) - 1=(qP a.ks key:Int):=λo=>by unfold qP;rw[o,if_neg dX];omega
  have i7:isK a.ks key=true->(pY a.ks key:Int)=(qP a.ks key:Int):=λo=>by unfold qP;rw[o,if_pos rfl]
  have i8:∀ w',qC w' bl (oQ (nX (g+1) a) p r) (nX (g+1) a)->nM w' pk key.length 1 (bv key)->CQ 44 [.agg (oQ (nX (g+1) a) p r).toArray, .slice pk key.length ck] w' (λv w2=>v= .tuple #[VB (pY a.ks key:Int), .bool (isK a.ks key)]/\VD w' w2):=λw' o I=>by
    have U:=Tt (x:=nX (g+1) a) (ck:=ck) w' o dB i2 I;have i9:pY (nX (g+1) a).cs key=pY a.ks key:=VL _ _;have j0:isK (nX (g+1) a).cs key=isK a.ks key:=QV _ _;rw[i9,j0]at U;exact U
  have j1:=λw' L' (o:Two (GZ q N (nQ H) V k) Y lo L' w') (I:row w' tb [VA q,VA hb] 50) (U:qC w' bl (oQ (nX (g+1) a) p r) (nX (g+1) a))=>Uy tb hb o I U (QJ f1) (x2:=nX g x.2) a8.page.1 rfl a8.page.2 (a8.zZ f2) rfl
  have c8:=f0 (qP a.ks key);refine nP (i8 b9 E Z) ?_;rintro _ j2 ⟨rfl,P⟩;replace j:=j.new P;replace c:=c.new P;replace f:=f.new P;replace E:=E.new P;replace Z:=Z.new P;replace y:=y.new P;replace J:=J.new P;replace F:=F.acc P;refine ng<|mZ (nW rfl rfl)<|mZ (nW rfl rfl)<|nA<|nA<|nk<|wO (λ_:Unit=>[(7,VB (qP a.ks key:Nat)),(6,v),(5,VA C),(0,VA tb),(1, .slice pk key.length ck)]) (λ_ w'=>j2=w') ?_ ?_
  ·
   refine ny<|ng<|mZ (sj rfl)<|nk<|Ki rfl (λc9=>?_)<|λc9=>?_
   ·
    refine nO<|ng<|mZ (vZ rfl rfl (Coup.nV dB))<|nA<|oI<|oM ⟨(),⟨congrArg (Value.int .i64) (i6 c9),rfl,rfl,rfl,rfl,rfl⟩,rfl⟩
   ·
    refine nU<|oM ⟨(),⟨congrArg (Value.int .i64) (i7 c9),rfl,rfl,rfl,rfl,rfl⟩,rfl⟩
  ·
   rintro _ n6 n7 rfl;refine ny<|ng<|mZ (pz 3 f)<|ng<|mZ (AC (.agg (oQ (nX (g+1) a) p r).toArray) (VB (qP a.ks key:Int)) (zA (nX (g+1) a) p r (qP a.ks key)) rfl rfl dA)<|nK<|tT (e:=97) (.agg (zA (nX (g+1) a) p r (qP a.ks key)).toArray) (zA (nX (g+1) a) p r (qP a.ks key)) ([VB 0,VB 0,VC,VB 0]) 4 dA dA rfl rfl iw ⟨iT,iT⟩<|λj3 n8 d0 f3 Q=>?_
   have n9:=ag F.size d0;have o0:C<j3:=ae f.lt d0;replace j:=j.nL Q d0 f3.lt;replace c:=c.new Q;replace f:=f.new Q;replace E:=E.new Q;replace Z:=Z.new Q;replace y:=y.new Q;replace J:=J.new Q;replace F:=F.acc Q;have j4:=f3.tY (m:=1) (sz:=4) rfl dB;have o1:=y.lt;have a2:=j.weak (L2:=Lc) (λb hb=>aj _ hb);have a9:=a2.lt;have d1:=E;have d2:=J;have o2:=i1;have j5:ps.length<=256:=by have:=ht.lv;omega
   have j6:=F.size;refine nK<|tu (e:=97) (sz:=4) (bytes:=48) (z:=.agg ([VB 0,VB 0,VC,VB 0]).toArray) dA rfl dA rfl iT rfl y rfl j4 c8 jB dB (λj7=>dB)<|λo3 a3 G d3 f4=>?_
   replace c:=c.own y d3 dB;replace f:=f.own y d3 dB;have K:=Kp.rU d3;have j8:=K.size;obtain⟨M,O,rfl⟩:=G.form;have a4:=a2.more K (N:=(Value.slice M (ps.length+1) O).ownBlock.toList) (λb hb=>.inr (a1 b hb)) (λb hb=>(f4 b (ah.1 hb)).imp (λe=>a1 b (ah.2 e)) id) (λb hb=>(G.lt b (ah.1 hb)).2);have b0:∀ b∈(Value.slice M (ps.length+1) O).ownBlock.toList,b∈(Value.slice M (ps.length+1) O).ownBlock.toList++Lc:=λb hb=>aF _ hb
   have f5:∀ b∈bl,b∉(Value.slice M (ps.length+1) O).ownBlock.toList:=λb hb i=>(f4 b (ah.1 i)).elim (λe=>(u b hb).2.2 (ah.2 e)) λj9=>by
     have:=a9 b (u b hb).1;omega
   have d4:∀ b∈(Value.slice M (ps.length+1) O).ownBlock.toList,b<(a3).heap.size:=λb hb=>(G.lt b (ah.1 hb)).2
   have k0:∀ b∈(Value.slice M (ps.length+1) O).ownBlock.toList,B0<=b:=λb hb=>(G.lt b (ah.1 hb)).1
   obtain⟨O2,b1⟩:=aa ((Value.slice M (ps.length+1) O).ownBlock.toList);obtain⟨L2,f6⟩:=aa (O2++Lc);rw[b1]at a4 b0 f5 d4 k0;rw[f6]at a4 b0;have k7:∀ b,(Value.slice M (ps.length+1) O).ownBlock=some b->b∈L2:=λb e=>b0 b (by rw[<-b1];exact ah.2 e)
   have b2:∀ b∈Lc,b∈L2:=λb hb=>by rw[<-f6];exact aB _ hb
   have f7:=b2 _ e7;have f8:∀ b∈L,b∈L2:=λb hb=>b2 b (c6 b hb)
   have b3:=d1.nD K λb hb i=>(u b hb).2.2 i
   have d5:xk a3 bl (vs++zA (nX (g+1) a) p r (qP a.ks key)) (ps++[(nX (g+1) a,qP a.ks key)]):=(d2.nD K λb hb i=>(u b hb).2.2 i).snoc b3;have k8:∀ b∈bl,b<(a3).heap.size:=λb hb=>by have:=a9 b (u b hb).1;omega
   refine nA<|nk<|nO<|ng<|mZ (pz 3 f)<|ng ?_
   have e9:=hr.kl c htb;have k9:=f.lt;have l0:∀ R S,(oQ (nX g x.2) R S).length=3:=λR S=>wV (nX g x.2) R S
   obtain⟨W8,l1⟩:=aa (a3);refine nP (j1 a3 _ a4 e9 b3) ?_;rintro _ o4 ⟨o5,d6,rfl,f9,d7,d8,a5⟩;have o6:=a5.size;replace c:=c.ll a5 f8;replace f:=f.kl a5 (.inr f7);replace G:=Coup.og.nD G a5.kp (λb i e=>pG (.inr (k7 b e)) i);have l2:=d5.ll a5 (λb hb=>.inr (b2 b (u b hb).1));rw[l1]at d7 k9 d4 k8;have l3:=f9;obtain⟨R,S,_,b6,_,_,_,_⟩:=l3;subst b6;have o7:=vQ (nX g x.2) R S;have o8:=l0 R S;have o9:=c.size;have p0:=G.lt;refine nT<|oC 3 (oQ (nX g x.2) R S) f<|λp1 f b4=>?_
   replace d8:=d8.only b4 eG;replace c:=c.oq b4;replace G:=G.only b4 dB;refine oI<|pO ?_
   have d9:=Kp.rJ b4;have p2:=d9.size;have g0:∀ b∈d6,b∉[C]:=λb hb i=>by
     have o:=d7 b hb;have I:b=C:=by simpa using i
     omega
   have l4:∀ b∈bl,b∉[C]:=λb hb i=>(u b hb).2.1 (by simpa using i)
   refine oM ⟨⟨g,x.2,ps++[(nX (g+1) a,qP a.ks key)], .slice M (ps.length+1) O,vs++zA (nX (g+1) a) p r (qP a.ks key),d6++bl,R,S,d6++L2⟩,il g,VF,⟨?_,?_,⟨_,_,f2,i4,i5⟩,a8,(f9.nD d9 g0).mono λb hb=>aF _ hb,f,?_,(l2.nD d9 l4).mono λb hb=>aB _ hb,λb hb=>?_,λb hb=>?_,aB _ f7,λb hb=>aB _ (f8 b hb)⟩,d8,c,dB⟩
   · dsimp only
     rw[c4,Pt f1,aH];rfl
   · dsimp only
     rw[aA,dV];omega
   · dsimp only
     rw[aA];exact G
   · dsimp only at hb |-
     rw[b1];rcases ay.1 hb with o|o
     · exact⟨aF _ o,λe=>g0 b o kH,λi=>by have I:=d7 b o;have U:=d4 b i;omega⟩
     · exact⟨aB _ (b2 b (u b o).1),(u b o).2.1,f5 b o⟩
   · dsimp only at hb |-
     rw[b1]at hb;exact aB _<|b0 b hb
 ·
  obtain rfl:D=0:=by have:(nX D a).lv=D:=rfl;omega
  have c8:=f0 0;refine qL<|qK<|rq<|qO<|nJ<|ny<|ng<|mZ (pz 3 f)<|mZ (AC (.agg (oQ (nX 0 a) p r).toArray) (VB 0) (zA (nX 0 a) p r 0) rfl rfl dA)<|nK<|tT (e:=97) (.agg (zA (nX 0 a) p r 0).toArray) (zA (nX 0 a) p r 0) ([VB 0,VB 0,VC,VB 0]) 4 dA dA rfl rfl iw ⟨iT,iT⟩<|λl5 p3 e0 g1 T=>?_
  have p4:=ag F.size e0;have p5:C<l5:=ae f.lt e0;replace j:=j.nL T e0 g1.lt;replace c:=c.new T;replace f:=f.new T;replace E:=E.new T;replace Z:=Z.new T;replace y:=y.new T;replace J:=J.new T;replace F:=F.acc T;have l6:=g1.tY (m:=1) (sz:=4) rfl dB;have a2:=j.weak (L2:=Lc) (λb hb=>aj _ hb);have a9:=a2.lt;have d1:=E;have d2:=J;have j5:ps.length<=256:=by have:=ht.lv;omega
  have j6:=F.size;refine nK<|tu (e:=97) (sz:=4) (bytes:=48) (z:=.agg ([VB 0,VB 0,VC,VB 0]).toArray) dA rfl dA rfl iT rfl y rfl l6 c8 jB dB (λj7=>dB)<|λp6 l7 e1 g2 g3=>?_
  replace c:=c.own y g2 dB;refine lZ ?_;have K:=Kp.rU g2;have j8:=K.size;obtain⟨l8,l9,rfl⟩:=e1.form;have a4:=a2.more K (N:=(Value.slice l8 (ps.length+1) l9).ownBlock.toList) (λb hb=>.inr (a1 b hb)) (λb hb=>(g3 b (ah.1 hb)).imp (λe=>a1 b (ah.2 e)) id) (λb hb=>(e1.lt b (ah.1 hb)).2);have b3:=d1.nD K λb hb i=>(u b hb).2.2 i
  have d5:xk l7 bl (vs++zA (nX 0 a) p r 0) (ps++[(nX 0 a,0)]):=(d2.nD K λb hb i=>(u b hb).2.2 i).snoc b3;obtain rfl:ps.length=l:=by omega
  refine⟨_,bl,_,og.mono e1 h6,by rw[c4];exact d5,λb hb=>⟨aB _ (u b hb).1,λi=>(g3 b (ah.1 i)).elim (λe=>(u b hb).2.2 (ah.2 e)) λj9=>by
      have:=a9 b (u b hb).1;omega⟩,λb hb=>aF _ hb,λb hb=>aB _ (c6 b hb),a4,c⟩
end
end Go.Proofs.YtpaniebomegnbaaGreat
namespace Coup
open Go Go.RowKit
section
variable {P:Program}{ρ:Env}{w:World}{d:Option Nat}{ty:TypeId}{pos:String}{af:Array Edge}{gd:Option (Nat × Bool)}{K:Value->World->Prop}
theorem zvd {dT sT e sz:Nat} {x y:Operand} {dp sp:Option Addr} {dLen dCap sLen sCap:Nat} (hu:P.underlying dT=some (.slice e)) (hsz:vS P e sz=true) (hd:ev ρ x= .slice dp dLen dCap) (hs:ev ρ y= .slice sp sLen sCap)
  (g off:Nat) {l:List Value} {t:Nat} (hr:row w g l t) (cs:List Value) (hn:cs.length=Nat.min sLen dLen*sz)
  (hpos:dp=some ⟨g,off,none⟩/\∃ ad,sp=some ad/\∀ j v,cs[j]?=some v->w.cell? (ad.add j)=some v) (hfit:off+cs.length<=l.length) (h1:∀ v∈cs,v.oneCell'=true)
  (h:∀ w' n,row w' g (splice l off cs) t->Only g w w'->K (goInt n) w'):Mk P ρ w ⟨d, .call ⟨.builtin .copy,#[x,y],#[dT,sT]⟩,ty,pos,af,gd⟩ K:=by
 obtain⟨rfl,ad,rfl,a⟩:=hpos;obtain⟨k,c,e⟩:=FI hsz;have f:=run_loadCells_list (P:=P) w ad cs a;have i:=run_storeCells_at P g off t cs 0 l.toArray w hr lc h1;have j:(Builtin.copy_ #[dT,sT] ty #[.slice (some ⟨g,off,none⟩) dLen dCap, .slice (some ad) sLen sCap]).run P w= .ok (goInt (Nat.min sLen dLen)) (w.setRow g (l.take off++cs++l.drop (off+cs.length)).toArray):=by
  simp[Builtin.copy_,run_underlying hu,Builtin.lenOf,Builtin.firstCells,Go.sizeOf,typeInfo,c,e,<-hn,f,i]
 refine⟨_,_,?_,h _ (Nat.min sLen dLen) kV (Only.setRow _)⟩;simp[execOp,resolve,invoke,builtin,hd,hs,j,Result.andThen]
end
section
variable {P:Program}{ρ:Env}{w:World}{d:Option Nat}{ty:TypeId}{pos:String}{af:Array Edge}{gd:Option (Nat × Bool)}{K:Value->World->Prop}
theorem TB {dT sT e sz:Nat} {x y:Operand} {sp:Option Addr} {dLen dCap sLen sCap base g o m c j:Nat} {xs:List Value} (hu:P.underlying dT=some (.slice e)) (hsz:vS P e sz=true) (hd:ev ρ x= .slice (some ⟨g,o+j,none⟩) dLen dCap) (hs:ev ρ y= .slice sp sLen sCap)
  (cs:List Value) (hn:cs.length=Nat.min sLen dLen*sz) (hsrc:∃ ad,sp=some ad/\∀ i v,cs[i]?=some v->w.cell? (ad.add i)=some v) (hown:qU w base e sz g o m c xs) (hfit:j+cs.length<=xs.length) (h1:∀ v∈cs,v.oneCell'=true)
  (h:∀ w' n,qU w' base e sz g o m c (splice xs j cs)->Only g w w'->K (goInt n) w'):Mk P ρ w ⟨d, .call ⟨.builtin .copy,#[x,y],#[dT,sT]⟩,ty,pos,af,gd⟩ K:=by
 obtain⟨i,hr,a,c⟩:=TY cs j hown hfit;exact zvd hu hsz hd hs g (o+j) hr cs hn ⟨rfl,hsrc⟩ a h1 λw' n e f=>h w' n (c w' e) f
theorem KJ{base e sz g o n c k:Nat}{xs:List Value}(h:qU w base e sz g o n c xs)(hk:n+k<=c):∃ js,js.length=k*sz/\qU w base e sz g o (n+k) c (xs++js):=by
 have i:=h.1;rcases h.2 with⟨j,_⟩|⟨s,t,u,a,l,hb,m,y,p,q,r⟩
 .cases j
 .cases l
  have z:(n+k)*sz<=c*sz:=cz _ hk;have f:((a.toList.drop o).take ((n+k)*sz)).length=(n+k)*sz:=by rw[aI,aM,fK];omega
  have e:xs++((a.toList.drop o).drop (n*sz)).take (k*sz)=(a.toList.drop o).take ((n+k)*sz):=by
   rw[<-r,cZ,List.take_add]
  refine⟨((a.toList.drop o).drop (n*sz)).take (k*sz),?_,?_, .inr ⟨g,o,c,a,rfl,hb,m,hk,p,q,?_⟩⟩
  .have:=congrArg List.length e
   rw[aA,f,i,cZ]at this;omega
  .rw[e,f]
  .rw[e]
theorem ziy {t ti ty e sLen sCap n:Nat} {i:TypeInfo} {z:Value} {ik:IntKind} (ht:P.underlying t=some (.slice e)) (hti:P.underlying ti=some (.int ik)) (hi:P.info? e=some i) (hz:i.zero=some z) (hzs:z.cells.size=i.size) (hsz:0<i.size)
  (b:Addr) (olds:List Value) (hlo:olds.length=sLen*i.size) (holds:∀ j v,olds[j]?=some v->w.cell? (b.add j)=some v) (hn0:0<n)
  (hg:sCap<sLen+n) (h63:sLen+n<=maxLen) (hbytes:(sLen+n)*i.bytes<=140737488355328):
  (Builtin.append_ #[t,ti] ty #[.slice (some b) sLen sCap,VB (n:Int)]).run P w=
   .ok (.slice (some ⟨w.heap.size,0,none⟩) (sLen+n) (grownCap w (sLen+n) sCap e))
    (w.drew.alloc (.cells (olds.toArray++Builtin.zeroCells z.cells n++Builtin.zeroCells z.cells (grownCap w (sLen+n) sCap e - (sLen+n))) e)):=by
 have l:maxLen=9223372036854775807:=by decide
 have a:¬(sLen+n<=sCap):=by omega
 have c:¬(9223372036854775807<((sLen:Int)+(n:Int))):=by omega
 have m:=growslice_fits hg hbytes;have e:¬(281474976710656<Builtin.nextslicecap (sLen+n) sCap*i.bytes):=by omega
 have f:IntKind.i64.wrap (n:Int)=(n:Int):=nV dB;have g:¬((n:Int)<0):=by omega
 have o:n*i.bytes<=140737488355328:=ag (cz _ dB) hbytes;have h:¬(281474976710656<(n:Int)*(i.bytes:Int)):=by
  have:((n*i.bytes:Nat):Int)=(n:Int)*(i.bytes:Int):=by simp
  omega
 have j:¬(n*i.size=0):=bu (eT hn0 hsz);have p:n≠0:=by omega
 have q:i.size≠0:=by omega
 have k:=run_firstCells_some (P:=P) w.drew i.size sLen b sLen sCap olds hlo (by simpa using holds);simp[Builtin.append_,run_underlying ht,run_underlying hti,Go.sizeOf,typeInfo,zeroValue,hi,hz,Go.asInt,Go.asIntOf,Builtin.lenOf,a,c,e,f,g,h,Question.forced,k,newRow,grownCap,Result.andThen];rw[if_neg j]
 rfl
theorem zq0 {t ti e sz bytes:Nat} {ik:IntKind} {s x:Operand} {m n cap g0 o0 base r:Nat} {xs:List Value} {z:Value} (ht:P.underlying t=some (.slice e)) (hti:P.underlying ti=some (.int ik))
  (hi:(P.info? e).map (λi=>(i.zero,i.size,i.bytes))=some (some z,sz,bytes)) (hzs:z.cells.size=sz) (hsz:0<sz) (hs:ev ρ s= .slice (some ⟨g0,o0,none⟩) m cap) (hold:nM w (some ⟨g0,o0,none⟩) m sz xs)
  (hx:ev ρ x=VB (n:Int)) (hn:0<n) (hcap:cap<m+n) (h63:m+n<=maxLen) (hbytes:(m+n)*bytes<=140737488355328) (hb:base<=w.heap.size) (hr':m+n=r)
  (h:∀ g c' zs w',zs.length=n*sz->qU w' base e sz g 0 r c' (xs++zs)->w.heap.size<=g->VD w w'->K (.slice (some ⟨g,0,none⟩) r c') w'):Mk P ρ w ⟨d, .call ⟨.builtin .append,#[s,x],#[t,ti]⟩,ty,pos,af,gd⟩ K:=by
 obtain⟨i,g,f⟩:=df.1 hi;simp only[fZ]at f;obtain⟨l,o,p⟩:=f;subst o;subst p;subst hr';have a:=hold.len;have hr:=ziy (P:=P) (w:=w) (ty:=ty) ht hti g l hzs hsz ⟨g0,o0,none⟩ xs a (λj u q=>by rw[Addr.add_lit];exact hold.cell j q) hn hcap h63 hbytes;have r:=grownCap_ge w (m+n) cap e;have s:grownCap w (m+n) cap e<=maxLen:=grownCap_le_maxLen w (m+n) cap e h63;have c:(Builtin.zeroCells z.cells n).toList.length=n*i.size:=by rw[fK,size_zeroCells,hzs]
 refine⟨_,_,(by simp[execOp,resolve,invoke,builtin,hs,hx,hr,Result.andThen];exact rfl),h w.heap.size _ (Builtin.zeroCells z.cells n).toList _ c ⟨?_, .inr ⟨w.heap.size,0,_,_,rfl,hb,heap_alloc_new w.drew _,r,s,?_,?_⟩⟩ (ax _) ⟨rfl,rfl,rfl,ig,λk t=>heap_alloc_old w.drew _ t⟩⟩
 .rw[aA,a,c,cZ]
 .simp only[Array.size_append,eQ,size_zeroCells,hzs,a]
  rw[aZ,<-cZ,<-cZ];exact cz _ dB
 .simp only[Array.toList_append,bV]
  rw[<-aH];refine bN ?_;rw[aA,c,a,cZ]
theorem ztg{t t':Nat}{x:Operand}(ht:NZ P t=true)(hx:ev ρ x= .nilIface):(execOp (ev ρ) ⟨d, .binOp .eql t x (.const .nilIface) t',ty,pos,af,gd⟩).run P w= .ok (.value (.bool true)) w:=by
 unfold NZ at ht
 split at ht
 .rename_i h a
  have c:(eqGuard .eql t x (.const .nilIface) (.nilIface) .nilIface).run P w= .ok () w:=by
   unfold eqGuard;simp
  have e:∀ n,(Op.equalIn (n+1) t (.nilIface) .nilIface).run P w= .ok true w:=λn=>by
   simp only[Op.equalIn,Sem.run_bind,run_underlying a,Result.andThen_ok]
   rfl
  have f:(binOp .eql t (.nilIface) .nilIface).run P w= .ok (.bool true) w:=by
   simp only[binOp];simp[Op.equal,Op.maxDepth,e 9999]
  have g:ev ρ (.const .nilIface)= .nilIface:=rfl;simp only[execOp,hx,g,Sem.run_bind,c,f,Result.andThen_ok]
  rfl
 .cases ht
theorem zth{t t' k:Nat}{v:Value}{x:Operand}(ht:NZ P t=true)(hx:ev ρ x= .iface k v):(execOp (ev ρ) ⟨d, .binOp .eql t x (.const .nilIface) t',ty,pos,af,gd⟩).run P w= .ok (.value (.bool false)) w:=by
 unfold NZ at ht
 split at ht
 .rename_i h a
  have c:(eqGuard .eql t x (.const .nilIface) (.iface k v) .nilIface).run P w= .ok () w:=by
   unfold eqGuard;simp
  have e:∀ n,(Op.equalIn (n+1) t (.iface k v) .nilIface).run P w= .ok false w:=λn=>by
   simp only[Op.equalIn,Sem.run_bind,run_underlying a,Result.andThen_ok]
   rfl
  have f:(binOp .eql t (.iface k v) .nilIface).run P w= .ok (.bool false) w:=by
   simp only[binOp];simp[Op.equal,Op.maxDepth,e 9999]
  have g:ev ρ (.const .nilIface)= .nilIface:=rfl;simp only[execOp,hx,g,Sem.run_bind,c,f,Result.andThen_ok]
  rfl
 .cases ht
end
end Coup
namespace Go.Proofs.YtpaniebomegnbaaGreat
open Go Go.RowKit Coup
theorem zti{p:Option Addr}{n c:Nat}{vs:List Value}(w:World)(h:nM w p n 4 vs)(h1:∀ u∈vs,u.oneCell'=true)(hn:n<=1000):
  CQ 47 [.slice p n c] w (λv w'=>og w' w.heap.size 90 4 v n vs/\VD w w'):=by
 have c:=Below.refl w.heap.size w;have r:maxLen=9223372036854775807:=by decide
 have s:=h.max;cases p with
 |none=>
  obtain rfl:n=0:=by
   rcases gD n with f|f
   .exact f
   .obtain⟨g,o,e,_⟩:=h.some (eT f iT);cases e
  obtain rfl:=bH (by simpa using h.len);refine nZ (rs:=[.tmp 2]) (n:=8) Tryz.func47 rfl rfl Tryz.ntmps47 dA rfl<|ny<|nA<|nk<|nI<|ny<|ng<|mZ (Mj (e:=90) dA rfl rfl)<|nk<|vD rfl (rfl)<|ny<|nA<|nk<|nY<|qy<|ou [_] ⟨rfl,trivial⟩ ?_;exact⟨xV _ _ _ _,Below.refl _ _⟩
 |some a=>
  refine nZ (rs:=[.tmp 2]) (n:=8) Tryz.func47 rfl rfl Tryz.ntmps47 dA rfl<|ny<|nA<|nk<|nI<|ny<|ng<|mZ (Mj (e:=90) dA rfl rfl)<|nk<|ui rfl (rfl)<|nU<|nJ<|ny<|nK<|Uv (e:=90) (sz:=4) dA dA<|λt u y l i=>?_
  replace h:=h.new i;replace c:=c.acc i;refine ng ?_;have j:=l.owns (base:=w.heap.size) (m:=0) (sz:=4) dB rfl dB;have A:=c.size;refine nK<|tu (e:=90) (sz:=4) (bytes:=48) (z:=.agg ([VC,VB 0,VB 0,VB 0]).toArray) dA rfl dA rfl iT rfl j rfl h h1 jB dB (λB=>dB)<|λC D k q E=>?_
  replace c:=c.own j q dB;refine lZ ?_;rw[aU,aZ]at k;exact⟨k,c⟩
theorem zve{p:Option Addr}{n c:Nat}{vs:List Value}(w:World)(h:nM w p n 1 vs)(h1:∀ u∈vs,u.oneCell'=true)(hn:n<=1000):
  CQ 41 [.slice p n c] w (λv w'=>og w' w.heap.size 5 1 v n vs/\VD w w'):=by
 have c:=Below.refl w.heap.size w;have r:maxLen=9223372036854775807:=by decide
 have s:=h.max;cases p with
 |none=>
  obtain rfl:n=0:=by
   rcases gD n with f|f
   .exact f
   .obtain⟨g,o,e,_⟩:=h.some (eT f iT);cases e
  obtain rfl:=bH (by simpa using h.len);refine nZ (rs:=[.tmp 2]) (n:=8) Tryz.func41 rfl rfl Tryz.ntmps41 dA rfl<|ny<|nA<|nk<|nI<|ny<|ng<|mZ (Mj (e:=5) dA rfl rfl)<|nk<|vD rfl (rfl)<|ny<|nA<|nk<|nY<|qy<|ou [_] ⟨rfl,trivial⟩ ?_;exact⟨xV _ _ _ _,Below.refl _ _⟩
 |some a=>
  refine nZ (rs:=[.tmp 2]) (n:=8) Tryz.func41 rfl rfl Tryz.ntmps41 dA rfl<|ny<|nA<|nk<|nI<|ny<|ng<|mZ (Mj (e:=5) dA rfl rfl)<|nk<|ui rfl (rfl)<|nU<|nJ<|ny<|nK<|Uv (e:=5) (sz:=1) dA dA<|λt u y l i=>?_
  replace h:=h.new i;replace c:=c.acc i;refine ng ?_;have j:=l.owns (base:=w.heap.size) (m:=0) (sz:=1) dB rfl dB;have A:=c.size;refine nK<|tu (e:=5) (sz:=1) (bytes:=1) (z:=Value.int .u8 0) dA rfl dA rfl iT rfl j rfl h h1 jB dB (λB=>dB)<|λC D k q E=>?_
  replace c:=c.own j q dB;refine lZ ?_;rw[aU,aZ]at k;exact⟨k,c⟩
theorem zvf:∀ v∈(Value.agg #[VC,VB 0,VB 0,VB 0]).cells.toList,v.oneCell'=true:=by
 intro v a;simp only[Value.cells,ak,bq,or_false]at a;rcases a with rfl|rfl|rfl|rfl<;>rfl
theorem Pd(w:World):(zeroValue 90).run Tryz.prog w= .ok (.agg #[VC,VB 0,VB 0,VB 0]) w:=by kernel_rfl
theorem zvg{g o n c base i:Nat}{vs:List Value}(w:World)(h:qU w base 90 4 g o n c vs)(h1:∀ u∈vs,u.oneCell'=true)(hi:i<n)(hn:n<=1000):
  CQ 46 [.slice (some ⟨g,o,none⟩) n c,VB (i:Int),VB ((i+1:Nat):Int)] w (λv w'=>v= .slice (some ⟨g,o,none⟩) (n - 1) c/\qU w' base 90 4 g o (n - 1) c (vs.take (i*4)++vs.drop ((i+1)*4))/\tC [g] w w'):=by
 have a:=tC.refl [g] w;have G:maxLen=9223372036854775807:=by decide
 have H:=h.sl.max;have I:=h.lt;have J:=LK h;have f:=h.len;obtain⟨pk,j⟩:∃ pk,(if c=i+1 then(some ⟨g,o,none⟩:Option Addr)else(some ⟨g,o,none⟩:Option Addr).map (·.add ((i+1)*4)))=pk:=⟨_,rfl⟩;obtain⟨k,rfl⟩:∃ k,pk=some ⟨g,k,none⟩:=by
  rw[<-j]
  split
  .exact⟨_,rfl⟩
  .exact⟨o+(i+1)*4,by rw[dP,Addr.add_lit]⟩
 have r:∀ w',qU w' base 90 4 g o n c vs->nM w' (some ⟨g,k,none⟩) (n - i - 1) 4 (vs.drop ((i+1)*4)):=λw' s=>by
  by_cases t:i+1=n
  .have e:vs.drop ((i+1)*4)=[]:=cK (by rw[f,t];exact ax _)
   rw[e,show n - i - 1=0 by omega];exact nM.nil _ _ _
  .have l:=s.sl.sub (i+1) (n - i - 1) dB
   rw[aQ (by rw[aM,f];omega)]at l;rw[if_neg dB,dP,Addr.add_lit]at j;cases j;exact l
 have y:∀ u∈vs.drop ((i+1)*4),u.oneCell'=true:=λu z=>h1 u (eP z)
 have A:(vs.drop ((i+1)*4)).length=(n - i - 1)*4:=by rw[aM,f];omega
 refine nZ (rs:=[.tmp 6]) (n:=33) Tryz.func46 rfl rfl Tryz.ntmps46 dA rfl<|ny<|oG<|ng<|ng<|ng<|ng<|mZ (oV (e:=90) (sz:=4) dA rfl rfl)<|mZ (xn (e:=90) (sz:=4) i (i+1) n (1) dA rfl ⟨_,_,rfl,dB⟩ ⟨_,_,rfl,dB⟩ ⟨_,_,rfl,dB⟩ ig dB dB dB dB dB)<|nk<|nI<|ny<|ng<|ng<|mZ (qB rfl rfl)<|nk<|qg rfl (dB)<|nU<|nJ<|ny<|ng<|mZ (oV (e:=90) (sz:=4) dA rfl rfl)<|nA<|nk<|nI<|qH [g] dA ?_
 intro K m B;replace a:=a.new m;replace h:=h.new m;refine nu 0 (nS)<|nu 1 (nS)<|nu 2 (xn (e:=90) (sz:=4) (0) (i) (c) (i) dA rfl rfl ⟨_,_,rfl,dB⟩ rfl ig dB dB dB dB dB)<|nu 3 (nS)<|nu 4 (nS)<|nu 5 (NG (e:=90) (sz:=4) (i+1) n c (n - i - 1) (c - (i+1)) j dA rfl ⟨_,_,rfl,dB⟩ rfl rfl ig dB dB dB dB dB)<|oh 6 dA<|rf rfl rfl<|zkF (e:=90) (sz:=4) dA rfl dA rfl h rfl (r _ h) y dB<|λL h p=>?_
 have C:=B.aq p;refine⟨C,?_⟩;replace a:=a.only p iB;refine nu 7 (rO)<|pq dA<|nJ<|ny<|ng<|ng<|mZ (oV (e:=90) (sz:=4) dA rfl rfl)<|ng<|mZ (xn (e:=90) (sz:=4) (n - 1) (n) (c) (1) dA rfl ⟨_,_,rfl,dB⟩ ⟨_,_,rfl,dB⟩ rfl ig dB dB dB dB dB)<|nK<|Vu (e0:=90) ((n - 1)) dA Pd dA zvf h rfl dB<|λM N O h D=>?_
 replace a:=a.only D iB;refine mM ?_;have q:=TT h (n:=n - 1) dB;have E:(splice vs (i*4) (vs.drop ((i+1)*4))).take ((n - 1)*4)=vs.take (i*4)++vs.drop ((i+1)*4):=by
  unfold splice;rw[<-aH,bN (by rw[aA,aI,A,f];omega)]
 have F:(splice vs (i*4) (vs.drop ((i+1)*4))).length=n*4:=by
  simp only[splice,aA,aI,aM,f];omega
 rw[Yg _ (by rw[F];omega),E]at q;exact⟨by show Value.slice (some ⟨g,o+0*4,none⟩) (i+(n - i - 1)) (c - 0)=_;rw[cO,dx,gB,show i+(n - i - 1)=n - 1 by omega],q,a⟩
theorem Sd{A Z C:List Value}{j:Nat}(hj:A.length=j):splice (A++Z) j C=A++(C++Z.drop C.length):=by
 unfold splice;rw[bN hj,<-hj,<-dR,dK]
theorem zvh{vs zs cs:List Value}{i n:Nat}(hl:vs.length=n*4)(hi:i<n)(hz:zs.length=(n+1 - i)*4)(hc:cs.length=4):splice (splice (vs.take (i*4)++zs) (i*4) cs) ((i+1)*4) (vs.drop (i*4))=vs.take (i*4)++cs++vs.drop (i*4):=by
 have a:(vs.take (i*4)).length=i*4:=by rw[aI,hl];omega
 have c:(vs.drop (i*4)).length=(n - i)*4:=by rw[aM,hl];omega
 rw[Sd a,<-aH,Sd (by rw[aA,a,hc];omega),cK (l:=zs.drop cs.length) (by rw[aM,hz,c,hc];omega),aR]
theorem zvi{vs js cs:List Value}{i n:Nat}(hl:vs.length=n*4)(hi:i<n)(hz:js.length=1*4)(hc:cs.length=4):splice (splice (vs++js) ((i+1)*4) (vs.drop (i*4))) (i*4) cs=vs.take (i*4)++cs++vs.drop (i*4):=by
 have a:(vs.take (i*4)).length=i*4:=by rw[aI,hl];omega
 have c:(vs.drop (i*4)).length=(n - i)*4:=by rw[aM,hl];omega
 have f:(vs.drop (i*4)++js).length=(n - i)*4+4:=by rw[aA,c,hz]
 have e:vs++js=vs.take (i*4)++(vs.drop (i*4)++js).take 4++(vs.drop (i*4)++js).drop 4:=by
  rw[aH,bM,<-aH,bM]
 have g:((vs.drop (i*4)++js).take 4).length=4:=by rw[aI,f];omega
 rw[e,Sd (by rw[aA,a,g];omega),cK (l:=(vs.drop (i*4)++js).drop 4) (by rw[aM,f,c];omega),aR,aH,Sd a,hc,fE g,aH]
theorem ztj{p:Option Addr}{n c base gv i tv:Nat}{vs cs:List Value}(w:World)(h:og w base 90 4 (.slice p n c) n vs)(h1:∀ u∈vs,u.oneCell'=true)(hv:row w gv cs tv)(hc4:cs.length=4)(hc1:∀ u∈cs,u.oneCell'=true)(hgv:∀ o,p≠some ⟨gv,o,none⟩)(hb:base<=w.heap.size)(hi:i<=n)(hn:n<=1000):
  CQ 114 [.slice p n c,VB (i:Int), .slice (some ⟨gv,0,none⟩) 1 1] w (λv w'=>og w' base 90 4 v (n+1) (vs.take (i*4)++cs++vs.drop (i*4))/\Kp (Value.slice p n c).ownBlock.toList w w'):=by
 have a3:maxLen=9223372036854775807:=by decide
 have l:=h.1;have a4:=OH h;have a5:=h.sl.max;obtain⟨pk,B⟩:∃ pk,(if c=i then p else p.map (·.add (i*4)))=pk:=⟨_,rfl⟩;have C:=λw' (hr:row w' gv cs tv)=>(show nM w' (some ⟨gv,0,none⟩) 1 4 cs from hr.tY (m:=1) (sz:=4) (by rw[hc4]) dB)
 have a6:=hv.lt
 by_cases O:i=n
 .subst O
  have a7:=Below.refl w.heap.size w;rw[aQ dB,cK dB,aR];refine nZ (rs:=[.tmp 6]) (n:=95) Tryz.func114 rfl rfl Tryz.ntmps114 dA rfl<|ny<|oG<|ng<|ng<|mZ (NG (e:=90) (sz:=4) i i c 0 (c - i) B dA rfl ⟨_,_,rfl,dB⟩ rfl rfl ig dB dB dB dB dB)<|qx<|ng<|mZ (oV (e:=90) (sz:=4) dA rfl rfl)<|nA<|nk<|nI<|ny<|ng<|mZ (qB rfl rfl)<|nk<|qg rfl (iT)<|nU<|nJ<|ny<|ng<|mZ (oV (e:=90) (sz:=4) dA rfl rfl)<|nA<|nk<|nI<|ny<|ng<|ng<|mZ (qB rfl rfl)<|nk<|uT rfl (rfl)<|ny<|ng<|ng<|nK<|tu (e:=90) (sz:=4) (bytes:=48) (z:=.agg ([VC,VB 0,VB 0,VB 0]).toArray) dA rfl dA rfl iT rfl h rfl (C _ hv) hc1 jB dB (λa8=>dB)<|λa9 b0 Q R b1=>?_
  refine mO ?_;exact⟨Q,Kp.rU R⟩
 .obtain⟨g,o,b2,e,b3,b4,b5⟩:=h.form' dB
  cases e;replace h:qU w base 90 4 g o n c vs:=h;have S:gv≠g:=λe=>hgv o (by rw[e])
  have f:=tC.refl [g] w;have s:(vs.drop (i*4)).length=(n - i)*4:=by rw[aM,l];omega
  have K:∀ u∈vs.drop (i*4),u.oneCell'=true:=λu T=>h1 u (eP T)
  by_cases b6:c<n+1
  .have U:=λw' (t:qU w' base 90 4 g o n c vs)=>(show nM w' (some ⟨g,o,none⟩) i 4 (vs.take (i*4))from(TT t (n:=i) dB).sl)
   have D:=λw' (t:qU w' base 90 4 g o n c vs)=>(show nM w' (some ⟨g,o+i*4,none⟩) (n - i) 4 (vs.drop (i*4))from by
    have y:=t.sl.sub i (n - i) dB;rw[aQ (by rw[s];exact ax _)]at y;exact y)
   refine nZ (rs:=[.tmp 6]) (n:=95) Tryz.func114 rfl rfl Tryz.ntmps114 dA rfl<|ny<|oG<|ng<|ng<|mZ (NG (e:=90) (sz:=4) i n c (n - i) (c - i) B dA rfl ⟨_,_,rfl,dB⟩ rfl rfl ig dB dB dB dB dB)<|qx<|ng<|mZ (oV (e:=90) (sz:=4) dA rfl rfl)<|nA<|nk<|nI<|ny<|ng<|mZ (qB rfl rfl)<|nk<|qg rfl (iT)<|nU<|nJ<|ny<|ng<|mZ (oV (e:=90) (sz:=4) dA rfl rfl)<|nA<|nk<|nI<|ny<|ng<|ng<|mZ (qB rfl rfl)<|nk<|qg rfl (dB)<|nU<|nJ<|nI<|ny<|ng<|ng<|mZ (oJ rfl rfl (Coup.nV dB))<|ng<|mZ (E_ (e:=90) (sz:=4) dA rfl rfl)<|mZ (rz rfl rfl)<|nk<|uT rfl (dB)<|ny<|ng<|ng<|mZ (xn (e:=90) (sz:=4) (0) i c i dA rfl rfl ⟨_,_,rfl,dB⟩ rfl ig dB dB dB dB dB) ?_
   refine ng<|ng<|mZ (oJ rfl rfl (Coup.nV dB))<|ng<|mZ (vZ rfl rfl (show IntKind.i64.wrap (((n:Int)+1) - (i:Int))=((n+1 - i:Nat):Int) by rw[nV dB];omega))<|nK<|zq0 (P:=Tryz.prog) (e:=90) (sz:=4) (bytes:=48) (ik:=.i64) (base:=base) (z:=.agg #[VC,VB 0,VB 0,VB 0]) dA dA dA rfl iT rfl (U _ h) rfl dB dB jB dB hb (show i+(n+1 - i)=n+1 by omega)<|λV L b7 b8 E a b9 F=>?_
   replace f:=f.new F;replace h:=h.new F;replace hv:=hv.new F;refine oG<|ng<|ng ?_
   have c4:=LK a;refine mZ (xn (e:=90) (sz:=4) (i) (n+1) (L) (n+1 - i) dA rfl ⟨_,_,rfl,dB⟩ rfl rfl ig dB dB dB dB dB)<|ng<|nK<|TB (P:=Tryz.prog) (e:=90) (sz:=4) (j:=i*4) dA dA rfl rfl cs (by rw[hc4];show 4=min 1 (n+1 - i)*4;omega) ⟨_,rfl,λk v q=>by rw[Addr.add_lit];exact(C _ hv).cell k q⟩ a (by rw[aA,E,aI,l,hc4];omega) hc1<|λc5 c6 a M=>?_
   replace f:=f.only M iB;replace h:=h.only M dB;refine nk<|nI<|qH [V] dA ?_
   intro X r G;replace f:=f.new r;replace h:=h.new r;replace a:=a.new r;refine nu 0 (nS)<|nu 1 (nS)<|nu 2 (nS)<|nu 3 (oJ rfl rfl (Coup.nV dB))<|nu 4 (xn (e:=90) (sz:=4) (i+1) (n+1) (L) (n - i) dA rfl ⟨_,_,rfl,dB⟩ rfl rfl ig dB dB dB dB dB)<|nu 5 (nS)<|nu 6 (nS)<|nu 7 (xn (e:=90) (sz:=4) (i) (n) (c) (n - i) dA rfl ⟨_,_,rfl,dB⟩ rfl rfl ig dB dB dB dB dB)<|oh 8 dA<|rf rfl rfl<|TB (P:=Tryz.prog) (e:=90) (sz:=4) (j:=(i+1)*4) dA dA rfl rfl (vs.drop (i*4)) (by rw[s];show _=min (n - i) (n - i)*4;omega) ⟨_,rfl,λk v q=>by rw[Addr.add_lit];exact(D _ h).cell k q⟩ a (by simp only[splice,aA,E,aI,aM,l,hc4];omega) K<|λc7 c8 a N=>?_
   have H:=G.aq N;refine⟨H,?_⟩;replace f:=f.only N iB;refine pq dA<|nJ<|ny<|ng<|nA<|nk<|nY<|qy<|ou [_] ⟨rfl,trivial⟩<|⟨?_,f.k⟩
   rw[zvh l dB E hc4]at a;exact a
  .obtain⟨Y,A,a⟩:=KJ h (k:=1) dB
   have D:=λw' (t:qU w' base 90 4 g o (n+1) c (vs++Y))=>(show nM w' (some ⟨g,o+i*4,none⟩) (n - i) 4 (vs.drop (i*4))from by
    have y:=t.sl.sub i (n - i) dB;rw[dS dB,bN (by rw[s])]at y;exact y)
   have I:∃ k2,w.shape? g=some (90,k2)/\k2≠0:=by
    obtain⟨c9,Z,d0,_⟩:=TY cs 0 a (by rw[aA,A,l,hc4];omega);exact⟨_,Z.shape,dB⟩
   obtain⟨k2,I,a0⟩:=I;have a1:=hv;refine nZ (rs:=[.tmp 6]) (n:=95) Tryz.func114 rfl rfl Tryz.ntmps114 dA rfl<|ny<|oG<|ng<|ng<|mZ (NG (e:=90) (sz:=4) i n c (n - i) (c - i) B dA rfl ⟨_,_,rfl,dB⟩ rfl rfl ig dB dB dB dB dB)<|qx<|ng<|mZ (oV (e:=90) (sz:=4) dA rfl rfl)<|nA<|nk<|nI<|ny<|ng<|mZ (qB rfl rfl)<|nk<|qg rfl (iT)<|nU<|nJ<|ny<|ng<|mZ (oV (e:=90) (sz:=4) dA rfl rfl)<|nA<|nk<|nI<|ny<|ng<|ng<|mZ (qB rfl rfl)<|nk<|qg rfl (dB)<|nU<|nJ<|nI<|ny<|ng<|ng<|mZ (oJ rfl rfl (Coup.nV dB))<|ng<|mZ (E_ (e:=90) (sz:=4) dA rfl rfl)<|mZ (rz rfl rfl)<|nk<|qg rfl (dB)<|nU<|nJ<|ny<|ng<|ng<|ng<|mZ (oJ rfl rfl (Coup.nV dB)) ?_;refine mZ (zqj (e:=90) (sz:=4) ((n+1)) dA rfl ⟨_,_,rfl,dB⟩ dB)<|nA<|nk<|nI<|ny<|ng<|ng<|ng<|ng<|mZ (oJ rfl rfl (Coup.nV dB))<|mZ (xn (e:=90) (sz:=4) (i+1) (n+1) (c) (n - i) dA rfl ⟨_,_,rfl,dB⟩ rfl rfl ig dB dB dB dB dB)<|mZ (zu9 (tS:=83) (tR:=4) (e:=90) (size:=4) Tryz.func174 dA dA dA dA dA rfl rfl a1 I a0 S)<|mZ (sj rfl)<|nk<|BP rfl (rfl)<|nI<|qH [g] dA ?_;intro X r G;replace f:=f.new r;replace a:=a.new r;replace hv:=hv.new r;refine nu 0 (nS)<|nu 1 (nS)<|nu 2 (nS)<|nu 3 (oJ rfl rfl (Coup.nV dB))<|nu 4 (xn (e:=90) (sz:=4) (i+1) (n+1) (c) (n - i) dA rfl ⟨_,_,rfl,dB⟩ rfl rfl ig dB dB dB dB dB)<|nu 5 (nS)<|nu 6 (nS)<|nu 7 (xn (e:=90) (sz:=4) (i) (n+1) (c) (n+1 - i) dA rfl ⟨_,_,rfl,dB⟩ rfl rfl ig dB dB dB dB dB)<|oh 8 dA<|rf rfl rfl<|TB (P:=Tryz.prog) (e:=90) (sz:=4) (j:=(i+1)*4) dA dA rfl rfl (vs.drop (i*4)) (by rw[s];show _=min (n+1 - i) (n - i)*4;omega) ⟨_,rfl,λk v q=>by rw[Addr.add_lit];exact(D _ a).cell k q⟩ a (by rw[s,aA,A,l];omega) K<|λd1 d2 a J=>?_
   have H:=G.aq J;refine⟨H,?_⟩;replace f:=f.only J iB;replace hv:=hv.only J dB;refine pq dA<|nJ<|ny<|ng<|ng<|mZ (xn (e:=90) (sz:=4) (i) (n+1) (c) (n+1 - i) dA rfl ⟨_,_,rfl,dB⟩ rfl rfl ig dB dB dB dB dB)<|ng<|nK<|TB (P:=Tryz.prog) (e:=90) (sz:=4) (j:=i*4) dA dA rfl rfl cs (by rw[hc4];show 4=min 1 (n+1 - i)*4;omega) ⟨_,rfl,λk v q=>by rw[Addr.add_lit];exact(C _ hv).cell k q⟩ a (by simp only[splice,aA,A,aI,aM,l,hc4];omega) hc1<|λd3 d4 a a2=>?_
   replace f:=f.only a2 iB;refine qx<|ng<|nA<|nk<|nY<|qy<|ou [_] ⟨rfl,trivial⟩<|⟨?_,f.k⟩
   rw[zvi l dB A hc4]at a;exact a
namespace rD
variable {w:World}{bl:List Nat}{vs:List Value}{cs:List (Key × V3)}
theorem drop(h:rD w bl vs cs)(m:Nat):rD w bl (vs.drop (m*4)) (cs.drop m):=by
 refine⟨by rw[aM,aM,h.len];omega,λi c a=>?_⟩;rw[bC]at a;have:=h.at_ _ _ a;rw[dR,show m*4+i*4=(m+i)*4 by omega];exact this
theorem take(h:rD w bl vs cs)(m:Nat):rD w bl (vs.take (m*4)) (cs.take m):=by
 refine⟨by rw[aI,aI,h.len];omega,λi c a=>?_⟩;rw[bD]at a
 split at a
 .rename_i f
  have e:=h.at_ _ _ a;rw[fw,dQ,bS dB];exact e
 .cases a
theorem app{vs2:List Value}{cs2:List (Key × V3)}(h:rD w bl vs cs)(h2:rD w bl vs2 cs2):rD w bl (vs++vs2) (cs++cs2):=by
 have e:=h.len;refine⟨by rw[aA,aA,e,h2.len];omega,λi c a=>?_⟩
 by_cases f:i<cs.length
 .rw[bF f]at a
  rw[dS dB,eX lu];exact h.at_ i c a
 .rw[bB dB]at a
  have g:=h2.at_ _ _ a;rw[show i*4=vs.length+(i - cs.length)*4 by omega,<-dR,dK];exact g
theorem one{xs:List Value}{c:Key × V3}(h:sV w bl xs c):rD w bl xs [c]:=by
 have:=(rD.nil w bl).snoc h;exact this
theorem head{c:Key × V3}{r:List (Key × V3)}(h:rD w bl vs (c::r)):rD w bl (splice vs 0 [VC]) (([],c.2)::r):=by
 have f:=h.at_ 0 c rfl;have l:=h.len;obtain⟨p,i,a,_⟩:=f;rw[cO,bV]at a;have j:=(rD.drop h 1);have e:splice vs 0 [VC]=pV none 0 (([]:Key),c.2)++vs.drop (1*4):=by
  have k:vs=pV p i c++vs.drop (1*4):=by
   conv=>lhs;rw[<-bM 4 vs,a]
  conv=>lhs;rw[k]
  rfl
 rw[e];exact(rD.one ⟨none,0,rfl,nM.nil _ _ _,(λg o h=>nomatch h),ax _⟩).app j
end rD
theorem VX{w:World}{bl:List Nat}{vs:List Value}{cs:List (Key × V3)}(h:rD w bl vs cs):∀ u∈vs,u.oneCell'=true:=λu c=>by
 obtain⟨j,a⟩:=eZ.1 c;have i:=h.len;have k:=(aL.1 a).1;obtain⟨p,e,f,_⟩:=h.at_ (j / 4) cs[j / 4] (aG dB);refine zt p e cs[j / 4] u ?_;rw[<-f];have g:((vs.drop (j / 4*4)).take 4)[j % 4]?=some u:=by
  rw[bD,if_pos dB,bC,show j / 4*4+j % 4=j by omega];exact a
 exact aO g
theorem Et{bl:List Nat}{xs:List Value}{c:Key × V3}{lv:Nat}(w:World)(hc:sV w bl xs c)(hok:c.1.length<=300):
  CQ 135 [.agg xs.toArray,VB (lv:Int)] w (λv w'=>(∃ p cp,v= .slice p (qh lv c).length cp)/\VD w w'):=
 (zW w hc hok).to λv w' ⟨a,c⟩=>⟨a.form,c⟩
theorem j_(lv:Nat)(cs:List (Key × V3))(h:∀ c∈cs,c.1.length<=300)(k:Nat):((cs.map λc=>(qh lv c).length).take k).sum<=307*k:=by
 induction k with
 |zero=>simp
 |succ k ih=>
  by_cases a:k<cs.length
  .rw[bf,aV,aG a,fT]
   have e:=h _ (jH a);have c:=Ac lv cs[k];have f:(qh lv cs[k]).length<=307:=by rw[c];split<;>omega
   simp only[dP,fV,List.sum_singleton];omega
  .rw[aQ (by rw[aP];omega)]
   rw[aQ (by rw[aP];omega)]at ih;omega
theorem Ux{lv k:Nat}{cs:List (Key × V3)}{c:Key × V3}(h:cs[k]?=some c):((cs.map λc=>(qh lv c).length).take (k+1)).sum=((cs.map λc=>(qh lv c).length).take k).sum+(qh lv c).length:=by
 rw[bf,aV,h,fT];rfl
theorem ztl{all n size:Nat}{cs:List (Key × V3)}{lv:Nat}{c:Key × V3}(h:cs[n]?=some c):DL all n size ((cs.map λc=>(qh lv c).length).drop n)=if 2*(size+(qh lv c).length)>all then n else DL all (n+1) (size+(qh lv c).length) ((cs.map λc=>(qh lv c).length).drop (n+1)):=by
 obtain⟨a,rfl⟩:=aL.1 h;rw[dm (by rw[aP];exact a),DL,List.getElem_map]
theorem zvj{bl:List Nat}{xs:List Value}{x:MN}(w:World)(h:qC w bl xs x)(hk:∀ c∈x.cs,c.1.length<=300)(hl2:2<=x.cs.length)(hl:x.cs.length<=1000):
   CQ 115 [.agg xs.toArray] w (λv w'=>∃ xsL xsR kp kc br,v= .tuple #[.agg xsL.toArray, .agg xsR.toArray, .slice kp (wM (x.cs.drop (vJ x.lv x.cs))).length kc]/\qC w' bl xsL ⟨x.n,x.lv,x.cs.take (vJ x.lv x.cs)⟩/\qC w' (br++bl) xsR ⟨0,x.lv,rZ x.lv (x.cs.drop (vJ x.lv x.cs))⟩/\
     (∀ b∈br,w.heap.size<=b/\b<w'.heap.size)/\nM w' kp (wM (x.cs.drop (vJ x.lv x.cs))).length 1 (bv (wM (x.cs.drop (vJ x.lv x.cs))))/\(∀ g o,kp=some ⟨g,o,none⟩->g∈bl)/\VD w w'):=by
 obtain⟨p,T,vs,rfl,V,S,i5,p0⟩:=h;have l:=Below.refl w.heap.size w;have p1:maxLen=9223372036854775807:=by decide
 have p2:=V.max;have d8:=j_ x.lv x.cs hk;have f8:=zsR (L:=x.cs.map λc=>(qh x.lv c).length) (by rw[aP];exact hl2) (by
   cases hxc:x.cs with
   |nil=>rw[hxc]at hl2;simp at hl2
   |cons c r=>simp only[bi,dh];have:=Ac x.lv c;omega)
 rw[aP]at f8;obtain⟨i6,i7,_,_⟩:=f8;obtain⟨m,J⟩:=aa (vJ x.lv x.cs);have d9:Ef (x.cs.map λc=>(qh x.lv c).length)=m:=J;rw[d9]at i6 i7;rw[J];obtain⟨c0,a7⟩:∃ c0,x.cs[0]?=some c0:=⟨_,aG dB⟩;obtain⟨D,E,p3,p4,rfl,i8,i9⟩:=S.ld V rfl a7;have j0:=λw' (hb:VD w w')=>Et (lv:=x.lv) w' (i8.new hb) (hk c0 (aO a7))
 have p5:=vQ x (some ⟨D,E,none⟩) T;have p6:=wV x (some ⟨D,E,none⟩) T;obtain⟨a8,e0⟩:∃ a8,(x.cs.map λc=>(qh x.lv c).length).sum=a8:=⟨_,rfl⟩;have j1:=VX S;have j2:=S.len;have j3:((x.cs.map λc=>(qh x.lv c).length).take x.cs.length).sum=a8:=by rw[aQ lK];exact e0
 have j4:=d8 x.cs.length;rw[j3]at j4;refine nZ (rs:=[.cell 2 87, .cell 3 87, .tmp 4]) (n:=81) Tryz.func115 rfl rfl Tryz.ntmps115 dA rfl<|ny<|nK<|qi (oQ x (some ⟨D,E,none⟩) T) rfl<|λH w1 j5 q j6=>?_
 have f9:=ag l.size j5;replace l:=l.acc j6;refine nK<|oD ([VB 0,VB 0,VC]) dA<|λI w2 g0 s g1=>?_
 have g2:=ag l.size g0;have b9:H<I:=ae q.lt g0;replace q:=q.new g1;replace l:=l.acc g1;refine nK<|oD ([VB 0,VB 0,VC]) dA<|λG p7 e1 t e2=>?_
 have g3:=ag l.size e1;have c4:H<G:=ae q.lt e1;have c5:I<G:=ae s.lt e1;replace q:=q.new e2;replace s:=s.new e2;replace l:=l.acc e2;refine oG<|nA<|nk<|nI<|ny<|mZ (nG 2)<|mZ (nH q)<|mZ (oV (e:=90) (sz:=4) dA rfl rfl)<|ng<|nk<|pE ?_
 refine qY (α:=Nat) 0 (λk=>[(15,VB (k:Nat)),(14,VB (x.cs.length:Nat)),(13, .slice (some ⟨D,E,none⟩) x.cs.length T),(5,VB (((x.cs.map λc=>(qh x.lv c).length).take k).sum:Nat)),(1,VA H),(2,VA I),(3,VA G)])
   (λk w'=>k<=x.cs.length/\row w' H (oQ x (some ⟨D,E,none⟩) T) 87/\row w' I [VB 0,VB 0,VC] 87/\row w' G [VB 0,VB 0,VC] 87/\VD w w') (λk=>x.cs.length - k)
   VF ⟨aC _,q,s,t,l⟩ ?_
 have p8:w.heap.size<=H:=by omega
 have p9:H<I:=by omega
 have q0:I<G:=by omega
 clear q s t l;rintro i f j7 ⟨q1,q,s,t,l⟩;refine ny<|mZ (pI rfl rfl)<|nk<|nI<|oZ rfl (λj8=>?_)<|λj8=>?_
 ·
  refine lN ?_;have Q:∃ c,x.cs[i]?=some c:=⟨_,aG dB⟩;obtain⟨c,M⟩:=Q;have Q:=S.ld V rfl M;obtain⟨j9,oq,c6,c7,e3,e4,e5⟩:=Q;cases e3;have q2:=zt c6 c7 c;have q3:(pV c6 c7 c).length=4:=rfl;have g4:=Ux (lv:=x.lv) M;have k0:=d8 (i+1);refine nO<|mZ (qZ (e:=90) (sz:=4) dA rfl rfl i dB dB)<|mZ (oK rfl (e5 _ l))<|nK<|oD ([VC,VB 0,VB 0,VB 0]) dA<|λe6 q4 c8 a9 c9=>?_
  have k7:=ag l.size c8;have k8:H<e6:=ae q.lt c8;have k9:I<e6:=ae s.lt c8;have l0:G<e6:=ae t.lt c8;replace q:=q.new c9;replace s:=s.new c9;replace t:=t.new c9;replace l:=l.acc c9;refine nT<|oC 4 (pV c6 c7 c) a9<|λl1 a9 d0=>?_
  replace q:=q.only d0 (ai k8);replace s:=s.only d0 (ai k9);replace t:=t.only d0 (ai l0);replace l:=d0.below l k7;refine nk<|nO<|ng<|mZ (pz 4 a9)<|mZ (nG 1)<|mZ (nH q)<|nP (Et l1 (e4.new l) (hk c (aO M))) ?_
  rintro _ q5 ⟨⟨q6,q7,rfl⟩,b0⟩;replace q:=q.new b0;replace s:=s.new b0;replace t:=t.new b0;replace a9:=a9.new b0;replace l:=l.acc b0;refine mZ (oV (e:=5) (sz:=1) dA rfl rfl)<|mZ (oJ rfl rfl (Coup.nV dB))<|nA<|oI<|pO<|nJ<|nO<|mZ (oJ rfl rfl (Coup.nV dB))<|ng<|oI<|oM ⟨i+1,dB,⟨rfl,rfl,rfl,congrArg (Value.int .i64) (by rw[g4];simp),rfl,rfl,rfl,rfl⟩,dB,q,s,t,l⟩
 ·
  obtain rfl:i=x.cs.length:=by omega
  have l2:DL a8 1 (qh x.lv c0).length ((x.cs.map λc=>(qh x.lv c).length).drop 1)=m:=by
    cases hxc:x.cs with
    |nil=>rw[hxc]at hl2;simp at hl2
    |cons c r=>
      rw[hxc]at a7 d9 e0;cases a7;rw[<-d9,<-e0];rfl
  have l3:((x.cs.map λc=>(qh x.lv c).length).take 1).sum=(qh x.lv c0).length:=by
    have:=Ux (lv:=x.lv) a7;simpa using this
  refine qL<|qK<|rq<|qO<|nJ<|nI<|qH [] dA ?_
  intro l4 d1 l5;replace q:=q.new d1;replace s:=s.new d1;replace t:=t.new d1;replace l:=l.acc d1;have g5:=q;have q8:=s;have q9:=t;have l6:=l;refine nu 0 (nG 2)<|nR 1 (λw' B=>nH (g5.kq B))<|nu 2 (qZ (e:=90) (sz:=4) dA rfl rfl (0) dB dB)<|nR 3 (λw' B=>oK rfl (i9 _ (l6.nD B kv)))<|nu 4 (nG 1)<|nR 5 (λw' B=>nH (g5.kq B))<|oh 6 dA<|qw rfl rfl (oz dA rfl) (j0 l4 l) ?_
  rintro _ r0 ⟨⟨r1,r2,rfl⟩,b2⟩;have l7:=l5.add0 b2;refine⟨l7,?_⟩;replace q:=q.new b2;replace s:=s.new b2;replace t:=t.new b2;replace l:=l.acc b2;refine nu 7 (oV (e:=5) (sz:=1) dA rfl rfl)<|nu 8 (rO)<|nu 9 (rO)<|pq dA<|nJ<|nI<|pE ?_;refine qY (α:=Nat × Nat) (1,(qh x.lv c0).length) (λa=>[(9,VB (a.2:Nat)),(8,VB (a.1:Nat)),(5,VB (((x.cs.map λc=>(qh x.lv c).length).take x.cs.length).sum:Nat)),(1,VA H),(2,VA I),(3,VA G)])
    (λa w'=>1<=a.1/\a.1<=x.cs.length/\a.2=((x.cs.map λc=>(qh x.lv c).length).take a.1).sum/\DL a8 a.1 a.2 ((x.cs.map λc=>(qh x.lv c).length).drop a.1)=m/\row w' H (oQ x (some ⟨D,E,none⟩) T) 87/\row w' I [VB 0,VB 0,VC] 87/\row w' G [VB 0,VB 0,VC] 87/\VD w w') (λa=>x.cs.length - a.1)
    VF ⟨ax _,by dsimp only;omega,l3.symm,l2,q,s,t,l⟩ ?_
  clear q s t l;rintro⟨i,sz⟩ r3 j7 ⟨l8,g6,l9,U,q,s,t,l⟩;dsimp only at l8 g6 l9 U;have e7:i<x.cs.length:=by
    refine Nat.lt_of_le_of_ne g6 λe=>?_
    rw[cK (by rw[aP,e];exact ax _),DL]at U;omega
  have Q:∃ c,x.cs[i]?=some c:=⟨_,aG e7⟩;obtain⟨c,M⟩:=Q;rw[ztl M]at U;have Q:=S.ld V rfl M;obtain⟨j9,oq,c6,c7,e3,e4,e5⟩:=Q;cases e3;have g4:=Ux (lv:=x.lv) M;have k0:=d8 (i+1);have Q:=S.at_ _ _ M;obtain⟨d2,d3,m0,g7,g8,_⟩:=Q;have g9:wM (x.cs.drop i)=c.1:=by unfold wM;rw[List.head?_drop,M];rfl
  have m1:(vs.drop (i*4))[0]?=some (.slice d2 c.1.length d3):=by
    have h0:((vs.drop (i*4)).take 4)[0]?=some (.slice d2 c.1.length d3):=by rw[m0];rfl
    rw[bD,if_pos dB]at h0;exact h0
  have m2:(vs.drop (i*4)).length=(x.cs.length - i)*4:=by rw[aM,j2];omega
  have h1:∀ w',VD w w'->CQ 47 [.slice (some ⟨D,E+i*4,none⟩) (x.cs.length - i) (T - i)] w' (λv w2=>(∃ g o c,v= .slice (some ⟨g,o,none⟩) (x.cs.length - i) c/\qU w2 w'.heap.size 90 4 g o (x.cs.length - i) c (vs.drop (i*4)))/\VD w' w2):=λw' hb=>by
    have R:=(V.new hb).sub i (x.cs.length - i) dB;rw[aQ (by rw[m2];exact ax _)]at R;exact(zti w' R (λu b1=>j1 u (eP b1)) dB).to λv w2 ⟨X,d4⟩=>by
      have Q:=X.form' dB;obtain⟨g,o,m3,rfl,_⟩:=Q;exact⟨⟨g,o,m3,rfl,X⟩,d4⟩
  have Y:(x.cs.take i).length=i:=by rw[aI];omega
  have d5:(rZ x.lv (x.cs.drop i)).length=x.cs.length - i:=by
    unfold rZ
    split
    · rw[aM]
    · cases hx:x.cs.drop i with
      |nil=>have:=congrArg List.length hx;rw[aM]at this;simp at this;omega
      |cons a b=>have:=congrArg List.length hx;rw[aM]at this;simp only[aD]at this |-;omega
  have h2:∀ g o,(some ⟨D,E+0*4,none⟩:Option Addr)=some ⟨g,o,none⟩->g∈bl:=λg o e=>by cases e;exact i5 _ _ rfl
  have h3:nM w (some ⟨D,E,none⟩) i 4 (vs.take (i*4)):=by
    have R:=V.sub 0 i dB;rw[cO,bV,dx]at R;exact R
  refine pE<|nI<|qH [] dA ?_
  intro m4 d6 m5;replace q:=q.new d6;replace s:=s.new d6;replace t:=t.new d6;replace l:=l.acc d6;have h4:=q;have r4:=s;have r5:=t;have m6:=l;refine nu 0 (nS)<|nu 1 (nG 2)<|nR 2 (λw' B=>nH (h4.kq B))<|nu 3 (nS)<|nu 4 (qZ (e:=90) (sz:=4) dA rfl rfl (i) dB dB)<|nR 5 (λw' B=>oK rfl (e5 _ (m6.nD B kv)))<|nu 6 (nG 1)<|nR 7 (λw' B=>nH (h4.kq B))<|oh 8 dA<|qw rfl rfl (oz dA rfl) (Et m4 (e4.new l) (hk c (aO M))) ?_
  rintro _ r6 ⟨⟨r7,r8,rfl⟩,b3⟩;have m7:=m5.add0 b3;refine⟨m7,?_⟩;replace q:=q.new b3;replace s:=s.new b3;replace t:=t.new b3;replace l:=l.acc b3;refine nu 9 (oV (e:=5) (sz:=1) dA rfl rfl)<|nu 10 (oJ rfl rfl (Coup.nV dB))<|nu 11 (rO)<|pq dA<|nJ<|nI<|ny<|ng<|mZ (yR rfl rfl (Coup.nV dB))<|ng<|mZ (rz rfl rfl)<|nk<|oZ rfl (λm8=>?_)<|λm8=>?_
  ·
   refine qL<|qK<|MR rfl<|rq<|qO<|nJ<|wO (λa:Nat × Nat × Nat × Nat=>[(10,VA a.1),(8,VB (i:Nat)),(1,VA H),(2,VA I),(3,VA G)]) (λa w'=>row w' H (oQ x (some ⟨D,E,none⟩) T) 87/\row w' I [VB 0,VB 0,VC] 87/\row w' G [VB 0,VB 0,VC] 87/\row w' a.1 [VB 0,VB (x.lv:Int), .slice (some ⟨a.2.1,a.2.2.1,none⟩) (x.cs.length - i) a.2.2.2] 87/\qU w' w.heap.size 90 4 a.2.1 a.2.2.1 (x.cs.length - i) a.2.2.2 (vs.drop (i*4))/\G<a.2.1/\G<a.1/\a.1≠a.2.1/\VD w w') ?_ ?_
   ·
    refine qH [] dA ?_;intro m9 d7 e8;replace q:=q.new d7;replace s:=s.new d7;replace t:=t.new d7;replace l:=l.acc d7;have h5:=q;have r9:=s;have s0:=t;have s1:=l;refine nu 0 (nG 1)<|nR 1 (λw' B=>nH (h5.kq B))<|nu 2 (nG 2)<|nR 3 (λw' B=>nH (h5.kq B))<|nu 4 (nS)<|nu 5 (xn (e:=90) (sz:=4) i (x.cs.length) T (x.cs.length - i) dA rfl ⟨_,_,rfl,dB⟩ rfl rfl ig dB dB dB dB dB)<|zw 6 8 dA ?_ ?_
    ·
     have e9:=q.lt;have n0:=t.lt;have f0:=s.lt;have f1:=t.lt;have f2:=l.size;refine qw rfl rfl (oz dA rfl) (h1 m9 l) ?_;rintro _ n1 ⟨⟨A,C,F,rfl,y⟩,N⟩;have f3:=e8.add0 N;refine⟨f3,?_⟩;replace q:=q.new N;replace s:=s.new N;replace t:=t.new N;replace l:=l.acc N;have h6:=y.NU;refine nu 7 (AC (VB (x.lv:Int)) (.slice (some ⟨A,C,none⟩) (x.cs.length - i) F) [VB 0,VB (x.lv:Int), .slice (some ⟨A,C,none⟩) (x.cs.length - i) F] rfl rfl dA)<|oh 8 dA<|rf rfl rfl<|oD ([VB 0,VB 0,VC]) dA<|λK h7 O z P=>?_
     have h8:=f3.add0 P;refine⟨h8,?_⟩;have s2:=ag f3.size O;have f4:=ag l.size O;have f5:H<K:=ae q.lt O;have f6:I<K:=ae s.lt O;have f7:G<K:=ae t.lt O;have n2:A<K:=ae y.lt O;replace q:=q.new P;replace s:=s.new P;replace t:=t.new P;replace y:=y.new P;replace l:=l.acc P;refine oh 9 dA<|rA rfl rfl<|oC 3 ([VB 0,VB (x.lv:Int), .slice (some ⟨A,C,none⟩) (x.cs.length - i) F]) z<|λs3 z Z=>?_
     have n3:=h8.aq Z;refine⟨n3,?_⟩;replace q:=q.only Z (ai f5);replace s:=s.only Z (ai f6);replace t:=t.only Z (ai f7);replace y:=y.only Z (ai n2);replace l:=Z.below l f4;refine pq dA ?_;have n4:=y.lt;refine oM ⟨(K,A,C,F),VF,q,s,t,z,og.mono y f2,by dsimp only;omega,by dsimp only;omega,by dsimp only;omega,l⟩
    ·
     refine rf rfl rfl<|oD ([VB 0,VB 0,VC]) dA<|λK h7 O z P=>?_
     have h9:=e8.add0 P;refine⟨h9,?_⟩;have s4:=ag e8.size O;have f4:=ag l.size O;have f5:H<K:=ae q.lt O;have f6:I<K:=ae s.lt O;have f7:G<K:=ae t.lt O;replace q:=q.new P;replace s:=s.new P;replace t:=t.new P;replace l:=l.acc P;refine oh 6 dA ?_;have e9:=q.lt;have n0:=z.lt;have f0:=s.lt;have f1:=t.lt;have f2:=l.size;refine qw rfl rfl (oz dA rfl) (h1 h7 l) ?_;rintro _ n1 ⟨⟨A,C,F,rfl,y⟩,N⟩;have i0:=h9.add0 N;refine⟨i0,?_⟩;replace q:=q.new N;replace s:=s.new N;replace t:=t.new N;replace z:=z.new N;replace l:=l.acc N;have h6:=y.NU;refine nu 7 (AC (VB (x.lv:Int)) (.slice (some ⟨A,C,none⟩) (x.cs.length - i) F) [VB 0,VB (x.lv:Int), .slice (some ⟨A,C,none⟩) (x.cs.length - i) F] rfl rfl dA)<|oh 9 dA<|rA rfl rfl<|oC 3 ([VB 0,VB (x.lv:Int), .slice (some ⟨A,C,none⟩) (x.cs.length - i) F]) z<|λs5 z a0=>?_
     have n5:=i0.aq a0;refine⟨n5,?_⟩;replace q:=q.only a0 (ai f5);replace s:=s.only a0 (ai f6);replace t:=t.only a0 (ai f7);replace y:=y.only a0 dB;replace l:=a0.below l f4;refine pq dA ?_;have n4:=y.lt;refine oM ⟨(K,A,C,F),VF,q,s,t,z,og.mono y f2,by dsimp only;omega,by dsimp only;omega,by dsimp only;omega,l⟩
   ·
    clear q s t l;rintro⟨K,A,C,F⟩ s6 s7 ⟨q,s,t,z,y,e9,f0,f1,l⟩;dsimp only at z y e9 f0 f1;rw[if_pos dB]at U;subst U;have h6:=y.NU;refine ny<|mZ (nG 2)<|mZ (nH z)<|mZ (qZ (e:=90) (sz:=4) dA rfl rfl (0) dB dB)<|mZ (nG 0)<|mZ (oK rfl (Ld.sl1 (off:=C) (j:=0) y.sl dA m1))<|nA<|nk<|nI<|ny<|mZ (nG 1)<|mZ (nH q)<|mZ (rz rfl rfl)<|nk<|oZ rfl (λn6=>?_)<|λn6=>?_
    ·
     refine nO<|mZ (nG 2)<|mZ (nH z)<|mZ (qZ (e:=90) (sz:=4) dA rfl rfl (0) dB dB)<|mZ (nG 0)<|nT<|Jj ([VC]) (0) y rfl rfl dA kI kD<|λs8 y b4=>?_
     replace q:=q.only b4 dB;replace s:=s.only b4 dB;replace t:=t.only b4 dB;replace z:=z.only b4 dB;replace l:=b4.below l dB;refine qx<|mZ (nG 2)<|mZ (nH q)<|ng<|ng<|mZ (xn (e:=90) (sz:=4) (0) (i) (i) (i) dA rfl rfl ⟨_,_,rfl,dB⟩ ⟨_,_,rfl,dB⟩ ig dB dB dB dB dB)<|mZ (nG 2)<|nT<|pQ q<|λi1 q b5=>?_
     replace s:=s.only b5 (bu b9);replace t:=t.only b5 (bu c4);replace z:=z.only b5 dB;replace y:=y.only b5 dB;replace l:=b5.below l f9;replace q:row i1 H (oQ ⟨x.n,x.lv,x.cs.take i⟩ (some ⟨D,E+0*4,none⟩) i) 87:=by unfold oQ;rw[Y];exact q
     have n7:=vQ ⟨x.n,x.lv,x.cs.take i⟩ (some ⟨D,E+0*4,none⟩) i;have n8:=wV ⟨x.n,x.lv,x.cs.take i⟩ (some ⟨D,E+0*4,none⟩) i;replace z:row i1 K (oQ ⟨0,x.lv,rZ x.lv (x.cs.drop i)⟩ (some ⟨A,C,none⟩) F) 87:=by unfold oQ;rw[d5];exact z
     have n9:=vQ ⟨0,x.lv,rZ x.lv (x.cs.drop i)⟩ (some ⟨A,C,none⟩) F;have o0:=wV ⟨0,x.lv,rZ x.lv (x.cs.drop i)⟩ (some ⟨A,C,none⟩) F;refine nk<|nI<|qH [I,G] dA ?_
     intro s9 a1 o1;replace q:=q.new a1;replace s:=s.new a1;replace t:=t.new a1;replace z:=z.new a1;replace y:=y.new a1;replace l:=l.acc a1;have o2:=q;have t0:=s;have t1:=t;have o3:=z;have t2:=y;have t3:=l;refine nR 0 (λw' B=>pz 3 (o2.kq B))<|nR 1 (λw' B=>pz 3 (o3.kq B))<|nu 2 (nS)<|oh 3 dA<|rA rfl rfl<|oC 3 (oQ ⟨x.n,x.lv,x.cs.take i⟩ (some ⟨D,E+0*4,none⟩) i) s<|λt4 s a2=>?_
     have i2:=o1.aq a2;refine⟨i2,?_⟩;replace q:=q.only a2 (ai b9);replace t:=t.only a2 (bu c5);replace z:=z.only a2 dB;replace y:=y.only a2 dB;replace l:=a2.below l g2;refine oh 4 dA<|rA rfl rfl<|oC 3 (oQ ⟨0,x.lv,rZ x.lv (x.cs.drop i)⟩ (some ⟨A,C,none⟩) F) t<|λo4 t a3=>?_
     have o5:=i2.aq a3;refine⟨o5,?_⟩;replace q:=q.only a3 (ai c4);replace s:=s.only a3 (ai c5);replace z:=z.only a3 dB;replace y:=y.only a3 dB;replace l:=a3.below l g3;refine mP ?_;rw[g9];have b6:=LK y;have b7:=y.sl;rw[<-d5]at b7 b6;refine⟨_,_,d2,d3,[A],rfl,⟨_,_,vs.take (i*4),rfl,?_,(S.new l).take i,h2,fJ Y⟩,⟨_,_,_,rfl,b7,?_,(λg o e=>by cases e;simp),b6⟩,(λb hb=>by have R:b=A:=kR;have X:=y.lt;omega),g7.new l,g8,l⟩
     · rw[Y,cO,dx]
       exact h3.new l
     · have R:rZ x.lv (x.cs.drop i)=([],c.2)::x.cs.drop (i+1):=by
        unfold rZ;rw[if_neg dB,dm e7];have:=(aL.1 M).2;rw[this]
       rw[R];have X:rD o4 ([A]++bl) (vs.drop (i*4)) (c::x.cs.drop (i+1)):=by
        have d4:=((S.new l).drop i).mono (bl':=[A]++bl) (λb hb=>aB _ hb);rw[dm e7,(aL.1 M).2]at d4;exact d4
       exact X.head
    ·
     refine nU<|nJ<|ny<|mZ (nG 2)<|mZ (nH q)<|ng<|ng<|mZ (xn (e:=90) (sz:=4) (0) i i i dA rfl rfl ⟨_,_,rfl,dB⟩ ⟨_,_,rfl,dB⟩ ig dB dB dB dB dB)<|mZ (nG 2)<|nT<|pQ q<|λi3 q b8=>?_
     replace s:=s.only b8 (bu b9);replace t:=t.only b8 (bu c4);replace z:=z.only b8 dB;replace y:=y.only b8 dB;replace l:=b8.below l f9;replace q:row i3 H (oQ ⟨x.n,x.lv,x.cs.take i⟩ (some ⟨D,E+0*4,none⟩) i) 87:=by unfold oQ;rw[Y];exact q
     have n7:=vQ ⟨x.n,x.lv,x.cs.take i⟩ (some ⟨D,E+0*4,none⟩) i;have n8:=wV ⟨x.n,x.lv,x.cs.take i⟩ (some ⟨D,E+0*4,none⟩) i;replace z:row i3 K (oQ ⟨0,x.lv,rZ x.lv (x.cs.drop i)⟩ (some ⟨A,C,none⟩) F) 87:=by unfold oQ;rw[d5];exact z
     have n9:=vQ ⟨0,x.lv,rZ x.lv (x.cs.drop i)⟩ (some ⟨A,C,none⟩) F;have o0:=wV ⟨0,x.lv,rZ x.lv (x.cs.drop i)⟩ (some ⟨A,C,none⟩) F;refine nk<|nI<|qH [I,G] dA ?_
     intro t5 a4 o6;replace q:=q.new a4;replace s:=s.new a4;replace t:=t.new a4;replace z:=z.new a4;replace y:=y.new a4;replace l:=l.acc a4;have o7:=q;have t6:=s;have t7:=t;have o8:=z;have t8:=y;have t9:=l;refine nR 0 (λw' B=>pz 3 (o7.kq B))<|nR 1 (λw' B=>pz 3 (o8.kq B))<|nu 2 (nS)<|oh 3 dA<|rA rfl rfl<|oC 3 (oQ ⟨x.n,x.lv,x.cs.take i⟩ (some ⟨D,E+0*4,none⟩) i) s<|λu0 s a5=>?_
     have i4:=o6.aq a5;refine⟨i4,?_⟩;replace q:=q.only a5 (ai b9);replace t:=t.only a5 (bu c5);replace z:=z.only a5 dB;replace y:=y.only a5 dB;replace l:=a5.below l g2;refine oh 4 dA<|rA rfl rfl<|oC 3 (oQ ⟨0,x.lv,rZ x.lv (x.cs.drop i)⟩ (some ⟨A,C,none⟩) F) t<|λu1 t a6=>?_
     have o9:=i4.aq a6;refine⟨o9,?_⟩;replace q:=q.only a6 (ai c4);replace s:=s.only a6 (ai c5);replace z:=z.only a6 dB;replace y:=y.only a6 dB;replace l:=a6.below l g3;refine mP ?_;rw[g9];have b6:=LK y;have b7:=y.sl;rw[<-d5]at b7 b6;refine⟨_,_,d2,d3,[A],rfl,⟨_,_,vs.take (i*4),rfl,?_,(S.new l).take i,h2,fJ Y⟩,⟨_,_,_,rfl,b7,?_,(λg o e=>by cases e;simp),b6⟩,(λb hb=>by have R:b=A:=kR;have X:=y.lt;omega),g7.new l,g8,l⟩
     · rw[Y,cO,dx]
       exact h3.new l
     · have R:rZ x.lv (x.cs.drop i)=x.cs.drop i:=by unfold rZ;rw[if_pos dB]
       rw[R];exact((S.new l).drop i).mono (λb hb=>aB _ hb)
  ·
   rw[if_neg dB]at U;refine nU<|nJ<|nO<|ng<|mZ (oJ rfl rfl (Coup.nV dB))<|nA<|oI<|pO<|oM ⟨(i+1,sz+(qh x.lv c).length),by dsimp only;omega,VF,by dsimp only;omega,by dsimp only;omega,by dsimp only;omega,U,q,s,t,l⟩
theorem Ox{α:Type}{x:α}:∀ {l:List α} {i:Nat},i<=l.length->l.insertIdx i x=l.take i++[x]++l.drop i
 |_,0,_=>rfl
 |[],i+1,h=>by simp at h
 |a::l,i+1,h=>by rw[jf,Ox (l:=l) lD];rfl
theorem Yn{α:Type}{x:α}:∀ {l:List α} {i:Nat},i<l.length->l.set i x=l.take i++[x]++l.drop (i+1)
 |[],i,h=>by simp at h
 |a::l,0,_=>rfl
 |a::l,i+1,h=>by rw[jC,Yn (l:=l) lD];rfl
namespace rD
variable {w:World}{bl:List Nat}{vs xs:List Value}{cs:List (Key × V3)}{c:Key × V3}
theorem ins(h:rD w bl vs cs)(hc:sV w bl xs c){i:Nat}(hi:i<=cs.length):rD w bl (vs.take (i*4)++xs++vs.drop (i*4)) (cs.insertIdx i c):=by
 rw[Ox hi];exact((h.take i).app (rD.one hc)).app (h.drop i)
theorem set(h:rD w bl vs cs)(hc:sV w bl xs c){i:Nat}(hi:i<cs.length):rD w bl (splice vs (i*4) xs) (cs.set i c):=by
 rw[Yn hi];have a:xs.length=4:=by obtain⟨p,c,rfl,_⟩:=hc;rfl
 have e:splice vs (i*4) xs=vs.take (i*4)++xs++vs.drop ((i+1)*4):=by
  unfold splice;rw[a,show i*4+4=(i+1)*4 by omega]
  first |rfl|rw[aH]
 rw[e];exact((h.take i).app (rD.one hc)).app (h.drop (i+1))
end rD
structure yj(w:World)(bl:List Nat)(vs:List Value)(os:List MN):Prop where
 len:vs.length=os.length*3
 at_:∀ j x,os[j]?=some x->qC w bl ((vs.drop (j*3)).take 3) x
namespace yj
variable {w w':World}{bl bl':List Nat}{vs xs:List Value}{os:List MN}{x:MN}
theorem nil(w:World)(bl:List Nat):yj w bl [] []:=⟨rfl,λj c a=>by cases a⟩
theorem nD{M:List Nat}(h:yj w bl vs os)(k:Kp M w w')(hM:∀ b∈bl,b∉M):yj w' bl vs os:=⟨h.len,λj a c=>(h.at_ j a c).nD k hM⟩
theorem ll{lo:Nat}{L:List Nat}(h:yj w bl vs os)(k:nC lo L w w')(hb:∀ b∈bl,b<lo\/b∈L):yj w' bl vs os:=h.nD k.kp λb a=>pG (hb b a)
theorem mono(h:yj w bl vs os)(hb:∀ b∈bl,b∈bl'):yj w bl' vs os:=⟨h.len,λj a c=>(h.at_ j a c).mono hb⟩
theorem new(h:yj w bl vs os)(hb:VD w w'):yj w' bl vs os:=h.nD (M:=[]) (Kp.of_below hb) ig
theorem snoc(h:yj w bl vs os)(hx:qC w bl xs x):yj w bl (vs++xs) (os++[x]):=by
 have c:=h.len;have e:xs.length=3:=by obtain⟨p,i,_,rfl,_⟩:=hx;rfl
 refine⟨by simp[c,e];omega,λj f a=>?_⟩
 by_cases g:j<os.length
 .rw[bF g]at a
  rw[dS dB,eX lu];exact h.at_ j f a
 .rw[bB dB]at a
  obtain rfl:j=os.length:=by
   have:=(aL.1 a).1;simp at this;omega
  rw[bO]at a;cases a;rw[<-c,dK,aQ dB];exact hx
end yj
theorem qC.QW{w:World}{bl:List Nat}{xs:List Value}{x:MN}(h:qC w bl xs x):xs.length=3/\∀ u∈xs,u.oneCell'=true:=by
 obtain⟨p,a,_,rfl,_⟩:=h;exact⟨rfl,vQ _ _ _⟩
def yo:List MN->Key × V3->List Nat->Nat
 |[],_,_=>0
 |x::up,c,gs=>
  if uM x.lv (qo x.cs c)=true then 0
  else 1+yo up (wM ((qo x.cs c).drop (vJ x.lv (qo x.cs c))),(0,0,gs.headD 0)) gs.tail
theorem I_:∀ (l:List MN) (c:Key × V3) (gs:List Nat),(qV l c gs).2.2=gs.drop (yo l c gs)
 |[],_,_=>by rw[qV,yo];rfl
 |x::up,c,gs=>by
  rw[qV,yo]
  split
  .rfl
  .dsimp only
   rw[I_ up,Nat.add_comm 1];cases gs with
   |nil=>simp
   |cons a r=>rfl
def zL(path:List MN)(c:Key × V3)(gs:List Nat):Bool:=(qV path.reverse c gs).2.1.isSome
def wo(path:List MN)(c:Key × V3)(gs:List Nat):Nat:=yo path.reverse c gs+if zL path c gs=true then 1 else 0
end Go.Proofs.YtpaniebomegnbaaGreat
