import Derived.Test.YtpaniebomegnbaaGreatM7
set_option maxHeartbeats 8000000
set_option maxRecDepth 20000
namespace Go.Proofs.YtpaniebomegnbaaGreat
open Go Go.RowKit Coup
theorem Wn(p:Option Addr)(n c:Nat)(l:List UInt8)(w:World)(h:nC w p n 1 (bv l))(hn:n<=7):CQ 179 [.slice p n c] w (λv w'=>v= .int .i64 (qK l)/\w=w'):=by
 have m:l.length=n:=by simpa [oh]using h.len
 refine nP (fn:=Tryz.f179) (rs:=[.tmp 2]) (n:=18) Tryz.func179 rfl rfl Tryz.ntmps179 dA rfl<|mR<|mV<|mQ<|ng<|mR<|mP<|mO (oQ (e:=5) (sz:=1) dA rfl rfl)<|mP<|mQ<|oU ?_
 refine qZ (α:=Nat) 0 (λk=>[(2, .int .i64 (qK (l.take k):Nat)),(7, .int .i64 (k:Nat)),(6, .int .i64 (n:Int)),(5, .slice p n c)]) (λk w'=>k<=n/\w=w') (λk=>n - k)
   ⟨rfl,rfl,rfl,rfl,rfl⟩ ⟨aC _,rfl⟩ ?_
 rintro k f q ⟨r,rfl⟩;refine mR<|mO (pE rfl rfl)<|mQ<|ng<|oP rfl (λj=>?_)<|λj=>?_
 ·
  refine lF ?_;have a:∃ x,l[k]?=some x:=⟨_,aI eu⟩;obtain⟨x,i⟩:=a;have a:=h.some eu;obtain⟨g,o,rfl,s⟩:=a;have t:qK (l.take k)<2 ^ 48:=Cw _ 6 kE;have hb:=x.toNat_lt;refine nM<|mO (vg (e:=5) dA rfl rfl k eu eu)<|mO (ou rfl (Ld.sl1 h dA (show(bv l)[k]?=some (.int .u8 (x.toNat:Int)) by rw[DW,i];rfl)))<|mV<|mQ<|nM<|mP<|mO (QH rfl rfl eu (show IntKind.i64.wrap (((qK (l.take k):Nat):Int)*2 ^ (min (8:Int).toNat IntKind.i64.bits))=((256*qK (l.take k):Nat):Int) by rw[show(2:Int) ^ (min (8:Int).toNat IntKind.i64.bits)=256 from rfl,nN eu];omega))<|mP<|mO (rz (k:=.i64) dA dA rfl (Coup.nN eu))<|mO (Pm rfl rfl ((SH 8 (qK (l.take k):Nat) eu eu eu eu).trans (show _=((qK (l.take (k+1)):Nat):Int) by rw[Si l k x i];omega)))<|mV<|oH<|pW<|ny<|nM<|mO (om rfl rfl (Coup.nN eu))<|mP<|oH<|oO ⟨k+1,eu,⟨rfl,by go_num,rfl,rfl,rfl⟩,eu,rfl⟩
 ·
  refine qP<|qL<|rf<|qX<|ny<|mR<|mP<|mV<|mQ<|nQ<|nR [_] ⟨rfl,trivial⟩<|⟨?_,rfl⟩
  rw[aP eu]
  rfl
def Rz(lv:Nat)(c:Key × V3):Prop:=c.1.length<=100/\if lv=0 then c.2.1<4294967296/\c.2.2.1<65536/\c.2.2.2=0 else c.2.1=0/\c.2.2.1=0/\c.2.2.2<4294967296
theorem w_(lv:Nat)(c:Key × V3):((pK lv c).drop 1).take c.1.length=c.1:=by
 unfold pK;rw[List.drop_one,List.tail_cons,dR]
theorem ZC(lv:Nat)(c:Key × V3):(pK lv c).drop (1+c.1.length)=if lv=0 then nZ 4 c.2.1++nZ 2 c.2.2.1 else nZ 4 c.2.2.2:=by
 unfold pK;rw[show 1+c.1.length=c.1.length+1 by omega,List.drop_succ_cons,dF]
theorem PN{n:Nat}(h:n<65536):qK (nZ 2 n)=n:=by rw[QU,iX eu]
theorem zuf{g o cb lv:Nat}{c:Key × V3}(w:World)(h:nC w (some ⟨g,o,none⟩) (pK lv c).length 1 (bv (pK lv c)))(hcb:(pK lv c).length<=cb)(hc:Rz lv c)(hl0:lv=0):
  CQ 121 [.slice (some ⟨g,o,none⟩) (pK lv c).length cb, .int .i64 (lv:Int)] w (λv w'=>(∃ xs,v= .tuple #[.agg xs.toArray, .bool true]/\sw w' [g] xs c)/\Below w.heap.size w w'):=by
 have a:=Below.refl w.heap.size w;have T:maxLen=9223372036854775807:=by decide
 have j:=zJ lv c;obtain⟨E,hc⟩:=hc;have m:(pK lv c)[0]?=some (u8 c.1.length):=rfl;have p:=MO (n:=c.1.length) eu;obtain⟨kl,q⟩:=aa (c.1.length);have r:=w_ lv c;have l:=ZC lv c;obtain⟨B,F⟩:=aa (pK lv c);rw[F]at h hcb j m r l |-;rw[q]at j m p r l E;obtain⟨pk,s⟩:∃ pk,(if 1+kl=1 then(some ⟨g,o,none⟩:Option Addr)else(some ⟨g,o,none⟩:Option Addr).map (·.add (1*1)))=pk:=⟨_,rfl⟩;have t:∀ w',Below w.heap.size w w'->sw w' [g] (pI pk kl c) c:=λw' hb=>by
  have y:=(h.new hb).Eh 1 kl (by rw[j];omega);rw[r]at y
  by_cases U:kl=0
  .refine⟨some ⟨g,o,none⟩,kl,by rw[<-s,if_pos eu],?_,λG H e=>by cases e;simp,eu⟩
   have:c.1=[]:=bH eu;rw[this];exact nC.nil _ _ _
  .refine⟨some ⟨g,o+1,none⟩,kl,by rw[<-s,if_neg eu];rfl,by rw[q];exact y,λG H e=>by cases e;simp,eu⟩
 unfold pI at t;rw[q]at t;obtain⟨N,I⟩:=aa (B.length);rw[I]at h hcb j |-;rw[if_pos hl0]at j l hc;have z:∀ w',Below w.heap.size w w'->nC w' (some ⟨g,o+(1+kl),none⟩) 4 1 (bv (nZ 4 c.2.1)):=λw' hb=>by
  have:=(h.new hb).Eh (1+kl) 4 eu;rw[l,bJ (ry _ _)]at this;exact this
 have A:∀ w',Below w.heap.size w w'->nC w' (some ⟨g,o+(1+kl+4),none⟩) 2 1 (bv (nZ 2 c.2.2.1)):=λw' hb=>by
  have:=(h.new hb).Eh (1+kl+4) 2 eu;rw[<-dP,l,fw (ry _ _),aP kN]at this;exact this
 have J:∀ w' i,Below w.heap.size w w'->CQ 179 [.slice (some ⟨g,o+(1+kl),none⟩) 4 i] w' (λv w2=>v= .int .i64 (c.2.1:Int)/\w'=w2):=λw' i hb=>by
  have:=Wn _ 4 i _ w' (z w' hb) eu;rw[Dl hc.1]at this;exact this
 have K:∀ w' i,Below w.heap.size w w'->CQ 179 [.slice (some ⟨g,o+(1+kl+4),none⟩) 2 i] w' (λv w2=>v= .int .i64 (c.2.2.1:Int)/\w'=w2):=λw' i hb=>by
  have:=Wn _ 2 i _ w' (A w' hb) eu;rw[PN hc.2.1]at this;exact this
 clear z A;refine nP (fn:=Tryz.f121) (rs:=[.cell 4 90, .tmp 5]) (n:=62) Tryz.func121 rfl rfl Tryz.ntmps121 dA rfl<|mR<|nz<|nU ([Value.slice none 0 0,Value.int .i64 0,Value.int .i64 0,Value.int .i64 0]) dA<|λL V M f O=>?_
 have u:=ag a.size M;replace a:=a.acc O;refine nV<|mV<|mQ<|ng<|mR<|mP<|mO (qy rfl rfl)<|mQ<|sU rfl (eu)<|nM<|mV<|mQ<|ng<|mR<|mP<|mO (oQ (e:=5) (sz:=1) dA rfl rfl)<|mP<|mO (om rfl rfl (Coup.nN eu))<|mO (pE rfl rfl)<|mP<|rD 16 rfl (eu)<|mY<|mP<|mY<|mO (oQ (e:=5) (sz:=1) dA rfl rfl)<|mY<|mP<|mY<|mO (vg (e:=5) dA rfl rfl (0) eu eu)<|mY<|mO (ou rfl (Ld.sl1 (h.new a) dA (show(bv B)[0]?=some (.int .u8 ((u8 kl).toNat:Int)) by rw[DW,m];rfl)))<|mY<|mO (rz (k:=.i64) dA dA rfl (Coup.nN eu))<|mY<|mO (om rfl rfl (Coup.nN eu))<|mY<|mP<|mY<|mO (om rfl rfl (Coup.nN eu))<|mY ?_
 refine mO (oD rfl rfl)<|mO (oo rfl)<|mQ<|pJ rfl ((by rw[p];omega))<|nL<|ny<|mR<|mP<|mO (vg (e:=5) dA rfl rfl (0) eu eu)<|mO (ou rfl (Ld.sl1 (h.new a) dA (show(bv B)[0]?=some (.int .u8 ((u8 kl).toNat:Int)) by rw[DW,m];rfl)))<|mO (rz (k:=.i64) dA dA rfl (Coup.nN eu))<|mO (om rfl rfl (show IntKind.i64.wrap (1+((u8 kl).toNat:Int))=((1+kl:Nat):Int) by rw[p,nN eu];omega))<|nV<|mP<|mP<|mP<|mO (Nh (e:=5) (sz:=1) 1 (1+kl) (1+kl) kl kl s dA rfl ⟨_,_,rfl,rfl⟩ ⟨_,_,rfl,rfl⟩ ⟨_,_,rfl,rfl⟩ ig eu eu eu eu eu)<|mO (nk 0)<|nH<|oW f<|λC f P=>?_
 replace a:=P.below a u;refine mQ<|ng<|mR<|mP<|mP<|mP<|mO (om rfl rfl (show IntKind.i64.wrap (((1+kl:Nat):Int)+4)=((1+kl+4:Nat):Int) by rw[nN eu];omega))<|mO (II (e:=5) (1+kl) (1+kl+4) (cb) (4) dA rfl ⟨_,_,rfl,eu⟩ ⟨_,_,rfl,eu⟩ rfl ig eu eu eu eu eu)<|nD (J C _ a) ?_
 rintro _ _ ⟨rfl,rfl⟩;refine nV<|mP<|mO (qy rfl rfl)<|mQ<|sU rfl (eu)<|nM<|mP<|mP<|mP<|mO (om rfl rfl (show IntKind.i64.wrap (((1+kl:Nat):Int)+4)=((1+kl+4:Nat):Int) by rw[nN eu];omega))<|mO (II (e:=5) (1+kl+4) (N) (cb) (2) dA rfl ⟨_,_,rfl,eu⟩ rfl rfl ig eu eu eu eu eu)<|nD (K C _ a) ?_;rintro _ _ ⟨rfl,rfl⟩;refine mO (AL (.int .i64 (c.2.1:Int)) (.int .i64 (c.2.2.1:Int)) [.int .i64 (c.2.1:Int), .int .i64 (c.2.2.1:Int)] rfl rfl dA)<|mO (nk 1)<|nH<|NW [.int .i64 (c.2.1:Int), .int .i64 (c.2.2.1:Int)] rfl rfl f dA ig ko<|λQ f R=>?_
 replace a:=R.below a u;replace f:row Q L [.slice pk kl kl, .int .i64 (c.2.1:Int), .int .i64 (c.2.2.1:Int), .int .i64 0] 90:=f;refine pV<|mO (oI 4 f)<|mO (nk 0)<|mO (mZ f)<|mO (oQ (e:=5) (sz:=1) dA rfl rfl)<|mO (Kl rfl rfl)<|nH<|nT 4 (_) f<|λX f S=>?_
 replace a:=S.below a u;refine mV<|mQ<|nQ<|nR [_,_] ⟨⟨_,rfl,Ld.qp (k:=4) f dA dA gp⟩,rfl,trivial⟩ ?_
 have D:=t _ a;rw[hc.2.2]at D;refine⟨⟨_,?_,D⟩,a⟩;show Value.tuple #[.agg #[.slice pk kl kl, .int .i64 (c.2.1:Int), .int .i64 (c.2.2.1:Int), .int .i64 0], .bool (decide ((kl:Int)<=100))]=_;rw[decide_eq_true eu]
 rfl
theorem zug{g o cb lv:Nat}{c:Key × V3}(w:World)(h:nC w (some ⟨g,o,none⟩) (pK lv c).length 1 (bv (pK lv c)))(hcb:(pK lv c).length<=cb)(hc:Rz lv c)(hl0:¬lv=0):
  CQ 121 [.slice (some ⟨g,o,none⟩) (pK lv c).length cb, .int .i64 (lv:Int)] w (λv w'=>(∃ xs,v= .tuple #[.agg xs.toArray, .bool true]/\sw w' [g] xs c)/\Below w.heap.size w w'):=by
 have a:=Below.refl w.heap.size w;have R:maxLen=9223372036854775807:=by decide
 have i:=zJ lv c;obtain⟨C,hc⟩:=hc;have j:(pK lv c)[0]?=some (u8 c.1.length):=rfl;have m:=MO (n:=c.1.length) eu;obtain⟨kl,p⟩:=aa (c.1.length);have q:=w_ lv c;have l:=ZC lv c;obtain⟨B,D⟩:=aa (pK lv c);rw[D]at h hcb i j q l |-;rw[p]at i j m q l C;obtain⟨pk,r⟩:∃ pk,(if 1+kl=1 then(some ⟨g,o,none⟩:Option Addr)else(some ⟨g,o,none⟩:Option Addr).map (·.add (1*1)))=pk:=⟨_,rfl⟩;have s:∀ w',Below w.heap.size w w'->sw w' [g] (pI pk kl c) c:=λw' hb=>by
  have y:=(h.new hb).Eh 1 kl (by rw[i];omega);rw[q]at y
  by_cases S:kl=0
  .refine⟨some ⟨g,o,none⟩,kl,by rw[<-r,if_pos eu],?_,λE F e=>by cases e;simp,eu⟩
   have:c.1=[]:=bH eu;rw[this];exact nC.nil _ _ _
  .refine⟨some ⟨g,o+1,none⟩,kl,by rw[<-r,if_neg eu];rfl,by rw[p];exact y,λE F e=>by cases e;simp,eu⟩
 unfold pI at s;rw[p]at s;obtain⟨N,G⟩:=aa (B.length);rw[G]at h hcb i |-;rw[if_neg hl0]at i l hc;have z:∀ w',Below w.heap.size w w'->nC w' (some ⟨g,o+(1+kl),none⟩) 4 1 (bv (nZ 4 c.2.2.2)):=λw' hb=>by
  have:=(h.new hb).Eh (1+kl) 4 eu;rw[l,aP kN]at this;exact this
 have H:∀ w' t,Below w.heap.size w w'->CQ 179 [.slice (some ⟨g,o+(1+kl),none⟩) 4 t] w' (λv w2=>v= .int .i64 (c.2.2.2:Int)/\w'=w2):=λw' t hb=>by
  have:=Wn _ 4 t _ w' (z w' hb) eu;rw[Dl hc.2.2]at this;exact this
 clear z;refine nP (fn:=Tryz.f121) (rs:=[.cell 4 90, .tmp 5]) (n:=62) Tryz.func121 rfl rfl Tryz.ntmps121 dA rfl<|mR<|nz<|nU ([Value.slice none 0 0,Value.int .i64 0,Value.int .i64 0,Value.int .i64 0]) dA<|λI T J f K=>?_
 have u:=ag a.size J;replace a:=a.acc K;refine nV<|mV<|mQ<|ng<|mR<|mP<|mO (qy rfl rfl)<|mQ<|pJ rfl (eu)<|nL<|ny<|ng<|mR<|mP<|mO (oQ (e:=5) (sz:=1) dA rfl rfl)<|mP<|mO (om rfl rfl (Coup.nN eu))<|mO (pE rfl rfl)<|mP<|rD 16 rfl (eu)<|mY<|mP<|mY<|mO (oQ (e:=5) (sz:=1) dA rfl rfl)<|mY<|mP<|mY<|mO (vg (e:=5) dA rfl rfl (0) eu eu)<|mY<|mO (ou rfl (Ld.sl1 (h.new a) dA (show(bv B)[0]?=some (.int .u8 ((u8 kl).toNat:Int)) by rw[DW,j];rfl)))<|mY<|mO (rz (k:=.i64) dA dA rfl (Coup.nN eu))<|mY<|mO (om rfl rfl (Coup.nN eu))<|mY<|mP<|mY<|mO (om rfl rfl (Coup.nN eu))<|mY ?_
 refine mO (oD rfl rfl)<|mO (oo rfl)<|mQ<|pJ rfl ((by rw[m];omega))<|nL<|ny<|mR<|mP<|mO (vg (e:=5) dA rfl rfl (0) eu eu)<|mO (ou rfl (Ld.sl1 (h.new a) dA (show(bv B)[0]?=some (.int .u8 ((u8 kl).toNat:Int)) by rw[DW,j];rfl)))<|mO (rz (k:=.i64) dA dA rfl (Coup.nN eu))<|mO (om rfl rfl (show IntKind.i64.wrap (1+((u8 kl).toNat:Int))=((1+kl:Nat):Int) by rw[m,nN eu];omega))<|nV<|mP<|mP<|mP<|mO (Nh (e:=5) (sz:=1) 1 (1+kl) (1+kl) kl kl r dA rfl ⟨_,_,rfl,rfl⟩ ⟨_,_,rfl,rfl⟩ ⟨_,_,rfl,rfl⟩ ig eu eu eu eu eu)<|mO (nk 0)<|nH<|oW f<|λL f M=>?_
 replace a:=M.below a u;refine mQ<|ng<|mR<|mP<|mP<|mP<|mO (om rfl rfl (show IntKind.i64.wrap (((1+kl:Nat):Int)+4)=((1+kl+4:Nat):Int) by rw[nN eu];omega))<|mO (II (e:=5) (1+kl) (1+kl+4) (cb) (4) dA rfl ⟨_,_,rfl,eu⟩ ⟨_,_,rfl,eu⟩ rfl ig eu eu eu eu eu)<|nD (H L _ a) ?_
 rintro _ _ ⟨rfl,rfl⟩;refine nV<|mP<|mO (qy rfl rfl)<|mQ<|pJ rfl (eu)<|nM<|mP<|mO (nk 3)<|nH<|oW f<|λO f P=>?_
 replace a:=P.below a u;replace f:row O I [.slice pk kl kl, .int .i64 0, .int .i64 0, .int .i64 (c.2.2.2:Int)] 90:=f;refine pV<|mO (oI 4 f)<|mO (nk 0)<|mO (mZ f)<|mO (oQ (e:=5) (sz:=1) dA rfl rfl)<|mO (Kl rfl rfl)<|nH<|nT 4 (_) f<|λU f Q=>?_
 replace a:=Q.below a u;refine mV<|mQ<|nQ<|nR [_,_] ⟨⟨_,rfl,Ld.qp (k:=4) f dA dA gp⟩,rfl,trivial⟩ ?_
 have A:=s _ a;rw[hc.1,hc.2.1]at A;refine⟨⟨_,?_,A⟩,a⟩;show Value.tuple #[.agg #[.slice pk kl kl, .int .i64 0, .int .i64 0, .int .i64 (c.2.2.2:Int)], .bool (decide ((kl:Int)<=100))]=_;rw[decide_eq_true eu]
 rfl
theorem EO{g o cb lv:Nat}{c:Key × V3}(w:World)(h:nC w (some ⟨g,o,none⟩) (pK lv c).length 1 (bv (pK lv c)))(hcb:(pK lv c).length<=cb)(hc:Rz lv c):
  CQ 121 [.slice (some ⟨g,o,none⟩) (pK lv c).length cb, .int .i64 (lv:Int)] w (λv w'=>(∃ xs,v= .tuple #[.agg xs.toArray, .bool true]/\sw w' [g] xs c)/\Below w.heap.size w w'):=
 if hl:lv=0 then zuf w h hcb hc hl else zug w h hcb hc hl
theorem zuh{vs:List Value}{i:Nat}{q:Option Addr}{qc:Nat}{c:Key × V3}(h:(vs.drop (i*4)).take 4=pI q qc c):vs[i*4]?=some (.slice q c.1.length qc):=by
 have a:((vs.drop (i*4)).take 4)[0]?=some (.slice q c.1.length qc):=by rw[h];rfl
 rw[bF,if_pos eu,bD]at a;exact a
def CW(x:MN):Prop:=uH x.cs/\∀ i c,x.cs[i]?=some c->(c.1=[]↔i=0/\0<x.lv)
theorem Kr{ks:List (Key × V3)}(h:uH ks){i:Nat}{a b:Key × V3}(ha:ks[i]?=some a)(hb:ks[i+1]?=some b):tY a.1 b.1<0:=by
 obtain⟨a,rfl⟩:=aO.1 ha;obtain⟨c,rfl⟩:=aO.1 hb;exact List.pairwise_iff_getElem.1 h i (i+1) a c eu
theorem FO{bl:List Nat}{xs:List Value}{x:MN}(w:World)(h:qj w bl xs x)(hk:CW x):
   CQ 122 [.agg xs.toArray] w (λv w'=>v= .bool true/\Below w.heap.size w w'):=by
 obtain⟨p,t,vs,rfl,u,E,_,_⟩:=h;have a:=Below.refl w.heap.size w;have a5:maxLen=9223372036854775807:=by decide
 have a6:=u.max;refine nP (fn:=Tryz.f122) (rs:=[.tmp 2]) (n:=43) Tryz.func122 rfl rfl Tryz.ntmps122 dA rfl<|mR<|nz<|oV (oz x p t) rfl<|λv w1 a7 l L=>?_
 replace a:=a.acc L;refine mV<|mQ<|ng<|mR<|mO (nk 2)<|mO (mZ l)<|mO (oQ (e:=90) (sz:=4) dA rfl rfl)<|mP<|mQ<|oU ?_
 refine qZ (α:=Nat) 0 (λk=>[(8, .int .i64 (k:Nat)),(7, .int .i64 (x.cs.length:Nat)),(6, .slice p x.cs.length t),(1, .pointer (some ⟨v,0,none⟩))])
   (λk w'=>k<=x.cs.length/\row w' v (oz x p t) 87/\Below w.heap.size w w') (λk=>x.cs.length - k)
   ⟨rfl,rfl,rfl,rfl,rfl⟩ ⟨aC _,l,a⟩ ?_
 clear l a;rintro i f a8 ⟨a9,l,a⟩;refine mR<|mO (pE rfl rfl)<|mQ<|ng<|oP rfl (λM=>?_)<|λM=>?_
 ·
  refine lF ?_;have q:∃ c,x.cs[i]?=some c:=⟨_,aI eu⟩;obtain⟨c,y⟩:=q;have q:=E.ld u rfl y;obtain⟨b0,N,z,A,rfl,O,P⟩:=q;have b1:=zi z A c;have b2:(pI z A c).length=4:=rfl;refine nM<|mP<|mO (rE (e:=90) (sz:=4) dA rfl rfl i eu eu)<|mO (ou rfl (P _ a))<|nz<|nU ([Value.slice none 0 0,Value.int .i64 0,Value.int .i64 0,Value.int .i64 0]) dA<|λQ b3 F r G=>?_
  have R:=ag a.size F;have S:v<Q:=ae l.lt F;replace l:=l.new G;replace a:=a.acc G;refine mV<|nH<|nT 4 (pI z A c) r<|λb4 r H=>?_
  replace l:=l.only H (ai S);replace a:=H.below a R;refine mQ<|ng ?_
  have B:=hk.2 i c y;have T:i=0->decide ((c.1.length:Int)=0)=decide (0<(x.lv:Int)):=λh=>by
    subst h;refine decide_eq_decide.2 ⟨λh=>?_,λh=>?_⟩
    .have:=(B.1 (bH eu)).2;omega
    .rw[B.2 ⟨rfl,eu⟩];rfl
  have U:i≠0->decide ((c.1.length:Int)=0)=false:=λh=>by
    refine decide_eq_false λb5=>h (B.1 (bH eu)).1
  refine qz [] dA ?_;intro V C X;replace l:=l.new C;replace r:=r.new C;replace a:=a.acc C;have I:=l;have J:=r;have Y:=a;refine mU 0 (nk 0)<|nI 1 (λw' m=>mZ (J.kq m))<|mU 2 (oQ (e:=5) (sz:=1) dA rfl rfl)<|mU 3 (qy rfl rfl)<|mU 4 (nK)<|mU 5 (qy rfl rfl)<|mU 6 (nK)<|DJ 19 rfl (λZ=>?_)<|λZ=>?_
  ·
   refine mU 7 (nk 1)<|nI 8 (λw' m=>mZ (I.kq m))<|mU 9 (rq rfl rfl)<|mU 10 (pO rfl)<|mU 11 (Zd dA rfl rfl)<|mU 12 (nK)<|Br 25 rfl ((T eu))<|mU 13 (nK)<|mU 14 (rq rfl rfl)<|mU 15 (nK)<|Aw 28 rfl (eu)<|oK 16 dA rfl<|oK 17 dA rfl<|oK 18 dA rfl<|oK 19 dA rfl<|oK 20 dA rfl<|oK 21 dA rfl<|oK 22 dA rfl<|oK 23 dA rfl<|oK 24 dA rfl<|oK 25 dA rfl<|oK 26 dA rfl<|mU 27 (oo rfl)<|mU 28 (oo rfl) ?_
   refine oL dA<|ny<|Ni rfl<|nL<|pW<|ny<|nM<|mO (om rfl rfl (Coup.nN eu))<|mP<|oH<|oO ⟨i+1,eu,⟨rfl,rfl,rfl,rfl,rfl⟩,eu,l,a⟩
  ·
   refine oK 7 dA rfl<|oK 8 dA rfl<|oK 9 dA rfl<|mU 10 (oo rfl)<|mU 11 (Zd dA rfl rfl)<|mU 12 (nK)<|Br 25 rfl ((U eu))<|mU 13 (nK)<|mU 14 (rq rfl rfl)<|mU 15 (nK)<|EN 28 rfl (eu)<|mU 16 (nk 2)<|nI 17 (λw' m=>mZ (I.kq m))<|mU 18 (nK)<|mU 19 (vE rfl rfl (Coup.nN eu)) ?_
   have q:∃ c2,x.cs[i - 1]?=some c2:=⟨_,aI eu⟩;obtain⟨c2,K⟩:=q;have q:=E.at_ _ _ K;obtain⟨b6,b7,a0,a1,_,_⟩:=q;have b8:tY c2.1 c.1<0:=Kr hk.1 K (by rw[show i - 1+1=i by omega];exact y);obtain⟨b9,c4,a2,a3,_,_⟩:=O;cases a2;refine mU 20 (rE (e:=90) (sz:=4) dA rfl rfl (i - 1) eu eu)<|mU 21 (nk 0)<|nI 22 (λw' m=>ou rfl (Ld.sl1 (off:=N) (j:=(i - 1)*4) (u.new (Y.nu m (by first |(simp;done)|(simp;omega)|(simp[*];done)|exact pG (Or.inl eu)|exact pG (Or.inr ig)|exact λg s=>ag eu (vI s).1|(intro b o e;cases e;exact pG (Or.inl eu))|(intro b s;have:=(hu.lt b (ah.1 s)).1;omega)|(intro b o e;cases e;intro s;have:=(hu.lt _ (ah.1 s)).1;omega)|assumption))) dA (zuh a0)))<|mU 23 (nk 0)<|nI 24 (λw' m=>mZ (J.kq m))<|nS 25 dA<|qf rfl rfl (nX dA rfl) (JY V (a1.new a) (a3.new a)) ?_
   rintro _ c5 ⟨rfl,D⟩;have a4:=X.add0 D;refine⟨a4,?_⟩;replace l:=l.new D;replace a:=a.acc D;refine mU 26 (tN rfl rfl)<|mU 27 (pO rfl)<|mU 28 (oo rfl)<|oL dA<|ny<|pJ rfl (eu)<|nL<|pW<|ny<|nM<|mO (om rfl rfl (Coup.nN eu))<|mP<|oH<|oO ⟨i+1,eu,⟨rfl,rfl,rfl,rfl,rfl⟩,eu,l,a⟩
 ·
  refine lV ?_;exact⟨rfl,a⟩
theorem qQ.snoc{w:World}{bl:List Nat}{vs xs:List Value}{cs:List (Key × V3)}{c:Key × V3}(h:qQ w bl vs cs)(hc:sw w bl xs c):qQ w bl (vs++xs) (cs++[c]):=by
 obtain⟨p,e,rfl,f⟩:=hc;have c:=h.len;refine⟨by rw[aA,aA,c];show _+4=(_+1)*4;omega,λi d a=>?_⟩
 by_cases g:i<cs.length
 .rw[bG g]at a
  rw[eH eu,fF lc];exact h.at_ i d a
 .rw[bC eu]at a
  obtain rfl:i=cs.length:=by
   have:=(aO.1 a).1;simp at this;omega
  rw[bL]at a;cases a;rw[<-c,dF];exact⟨p,e,rfl,f⟩
structure xq(x:MN):Prop where
 lv:x.lv<256
 fit:tK x.lv x.cs=true
 keys:CW x
 wf:∀ c∈x.cs,Rz x.lv c
 ne:x.lv=0\/x.cs≠[]
namespace xq
variable {x:MN}
theorem size(h:xq x):qW (pv x.lv x.cs)<=512:=by
 have:=h.fit;rw[NH]at this;exact of_decide_eq_true this
theorem k3(h:xq x):∀ c∈x.cs,c.1.length<=300:=λc a=>ag (h.wf c a).1 eu
theorem good(h:xq x):Good (rH x):=Fp h.k3 h.size
theorem few(h:xq x):x.cs.length<=123:=by
 have:=h.size;rw[KR]at this;omega
end xq
def zQ(x:MN)(i:Nat):List UInt8:=if i=0 then[u8 x.lv]else((x.cs[i - 1]?).map (pK x.lv)).getD []
theorem Fw{x:MN}{i:Nat}(hi:i<=x.cs.length):(rH x).slots.getD i none=some (zQ x i)/\0<(zQ x i).length:=by
 show((some [u8 x.lv]::x.cs.map λc=>some (pK x.lv c)):List (Option (List UInt8))).getD i none=_/\_;unfold zQ;cases i with
 |zero=>exact⟨rfl,Nat.zero_lt_one⟩
 |succ j=>
  rw[bI,iQ,aW,if_neg eu,show j+1 - 1=j by omega,aI eu];exact⟨rfl,by show 0<(pK _ _).length;rw[zJ];omega⟩
theorem PP {x : MN} (h : xq x) {i : Nat} (hi : i <= x.cs.length) (w : World) : Calls Tryz.prog 120 [.agg (bv (oG (rH x))).toArray, .int .i64 (i : Int)].toArray w
  (pX λv w' => (∃ g o cp, v = .tuple #[.slice (some ⟨g, o, none⟩) (zQ x i).length cp, .int .i64 0] /\ nC w' (some ⟨g, o, none⟩) (zQ x i).length 1 (bv (zQ x i)) /\ (zQ x i).length <= cp /\ w.heap.size <= g /\ g < w'.heap.size) /\ Below w.heap.size w w') :=
 (SB (rH x) (i : Int) w h.good).to λv w' ⟨⟨q, cp, h1, h2, h3, h4⟩, hB⟩ => by
  obtain ⟨hs, hl⟩ := Fw (x := x) hi
  have hv : zX (rH x).slots (i : Int) = true := by
   unfold zX
   rw [Int.toNat_natCast, hs, decide_eq_true (by omega)]
   rfl
  have hg : zN (rH x).slots (i : Int) = zQ x i := by
   unfold zN
   rw [hv, if_pos rfl, Int.toNat_natCast, hs]
   rfl
  rw [hv, hg, if_pos rfl] at h1
  rw [hg] at h2 h3
  obtain ⟨g, o, rfl, hgl⟩ := h2.some (by omega)
  exact ⟨⟨g, o, cp, h1, h2, h3, h4 g o rfl, hgl⟩, hB⟩
def wW(e:Int):Value:=.iface 175 (.agg #[.int .i64 e])
theorem Jp(w:World):CQ 45 [.int .i64 0] w (λv w'=>v= .tuple #[]/\w=w'):=by
 refine nP (fn:=Tryz.f45) (rs:=[]) (n:=7) Tryz.func45 rfl rfl Tryz.ntmps45 dA rfl<|mR<|mP<|mO (oD rfl rfl)<|mQ<|pJ rfl (iT)<|nL<|zI [] trivial ?_
 exact⟨rfl,rfl⟩
theorem Iw(e:Int)(he:e≠0)(w:World):Calls Tryz.prog 45 [.int .i64 e].toArray w (sM (λ_ _=>False) λc w'=>c=pe (wW e)/\w=w'):=by
 refine vQ (fn:=Tryz.f45) (rs:=[]) (n:=7) Tryz.func45 rfl rfl Tryz.ntmps45 dA rfl<|mR<|mP<|mO (oD rfl rfl)<|mQ<|sU rfl (he)<|nM<|mP<|mO (xC (.int .i64 e) [.int .i64 e] rfl dA)<|mO (YQ dA)<|ZE rfl ?_
 exact vP ⟨rfl,rfl⟩
theorem sw.only{w w':World}{g gq:Nat}{xs:List Value}{c:Key × V3}(h:sw w [gq] xs c)(ho:Only g w w')(hg:gq≠g):sw w' [gq] xs c:=h.nu (Kp.rC ho) kY
theorem _root_.Go.RowKit.OL{w:World}{base e sz m c:Nat}{p:Option Addr}{xs:List Value}(h:nY w base e sz (.slice p m c) m xs):m<=c:=by
 rcases h.2 with⟨a,e⟩|⟨g,f,i,j,c,hb,k,l,m,o,p⟩
 .cases a;omega
 .cases c;omega
theorem vO(x:MN)(p:Option Addr)(cp:Nat):∀ u∈oz x p cp,u.oneCell'=true:=by
 intro u a;simp only[oz,ak,bu,or_false]at a;rcases a with rfl|rfl|rfl<;>rfl
section
variable {Y:World->List Nat->Prop}[hYT:mW Y]{q N lo:Nat}{L:List Nat}{G V:Nat->Pg}{k:Nat}{w:World}
theorem PM(tb hb:Nat)(h:Two (GZ q N G V k) Y lo L w)(hr:row w tb [.pointer (some ⟨q,0,none⟩), .pointer (some ⟨hb,0,none⟩)] 50){n:Nat}(hn:n<N){x:MN}(hx:x.n=n)(hG:G n=oG (rH x))(hok:xq x):
   CQ 62 [.pointer (some ⟨tb,0,none⟩), .int .i64 (n:Int)] w (λv w'=>∃ xs bl,v= .agg xs.toArray/\qj w' bl xs x/\(∀ b∈bl,w.heap.size<=b)/\Two (GZ q N G V k) Y lo (bl++L) w'/\mX lo L w w'):=by
 have m8:=Below.refl w.heap.size w;have J:=mX.refl lo L w;have m9:maxLen=9223372036854775807:=by decide
 have K:=h;have n0:=hok.few;have h5:=hok.k3;have f5:=λi d4 w'=>PP hok (i:=i) d4 w'
 have f6:∀ w',CQ 108 [.agg (bv (oG (rH x))).toArray] w' (λv w2=>v= .int .i64 3/\Below w'.heap.size w' w2):=λw'=>MW (rH x) w' hok.good
 have d5:∀ w',CQ 119 [.agg (bv (oG (rH x))).toArray] w' (λv w2=>v= .int .i64 ((x.cs.length+1:Nat):Int)/\Below w'.heap.size w' w2):=λw'=>(He (rH x) w' hok.good).to λv w2 ⟨M,O⟩=>⟨by rw[M];show Value.int .i64 (((some [u8 x.lv]::x.cs.map λc=>some (pK x.lv c)):List (Option (List UInt8))).length:Int)=_;rw[aD,aQ],O⟩
 have f7:∀ w' bl xs,qj w' bl xs x->CQ 70 [.agg xs.toArray] w' (λv w2=>v= .tuple #[.agg (bv (oG (rH x))).toArray, .bool true]/\Below w'.heap.size w' w2):=λw' bl xs X=>by
   have:=Ac w' X hok.lv h5;rw[hok.fit,if_pos rfl]at this;exact this
 have f8:=uO hok.good;have f9:∀ w' L',Two (GZ q N G V k) Y lo L' w'->CQ 118 [.pointer (some ⟨q,0,none⟩), .int .i64 (n:Int)] w' (λv w2=>v= .tuple #[.agg (bv (oG (rH x))).toArray, .int .i64 0]/\Two (GZ q N G V k) Y lo L' w2/\mX lo L' w' w2):=λw' L' h6=>by
   have:=Fz h6 n hn;rw[hG]at this;exact this
 obtain⟨Z,h7⟩:=aa (oG (rH x));rw[h7]at f5 f6 d5 f7 f8 f9;have g0:Z.length=512:=by rw[<-oh];exact f8
 refine nP (fn:=Tryz.f62) (rs:=[.cell 4 87]) (n:=114) Tryz.func62 rfl rfl Tryz.ntmps62 dA rfl<|mR<|nz<|nU ([Value.int .i64 0,Value.int .i64 0,Value.slice none 0 0]) dA<|λC n1 h8 l d6=>?_
 replace K:=K.nA d6 h8 l.lt;replace J:=J.new d6;replace hr:=hr.new d6;refine pV<|mP<|mO (nW rfl)<|mO (nk 0)<|mO (mZ hr)<|mP<|nD (f9 _ _ K) ?_
 rintro _ n2 ⟨rfl,K,g1⟩;replace J:=J.lq g1;replace l:=l.kl g1;refine mP<|mO (nJ rfl rfl)<|mO (nJ rfl rfl)<|nz<|nU (List.replicate 512 (Value.int .u8 0)) dA<|λa0 n3 g2 r d7=>?_
 have h9:C<a0:=ae l.lt g2;replace K:=K.nA d7 g2 r.lt;replace J:=J.new d7;replace l:=l.new d7;refine nH<|nT 512 (bv Z) r<|λa8 r d8=>?_
 replace K:=K.only d8 eG;replace J:=J.oq d8;replace l:=l.only d8 (ai h9);refine mV<|mQ<|ng<|mR<|mP<|mO (qy rfl rfl)<|mQ<|pJ rfl (iT)<|nL<|ny<|mR<|mP<|nD (Jp a8) ?_
 rintro _ _ ⟨rfl,rfl⟩;have d9:=K;have a9:=J;have i0:=Below.refl (a8).heap.size a8;obtain⟨W1,g3⟩:=aa (a8);have s:Below W1.heap.size W1 a8:=by rw[<-g3];exact i0
 rw[g3]at d9 a9;refine pV<|mP<|mO (xC (.int .i64 (n:Int)) [.int .i64 (n:Int), .int .i64 0, .slice none 0 0] rfl dA)<|nz<|nU ([Value.int .i64 0,Value.int .i64 0,Value.slice none 0 0]) dA<|λA n4 e0 p b0=>?_
 have e1:=ag s.size e0;have e2:C<A:=ae l.lt e0;have e3:a0<A:=ae r.lt e0;replace l:=l.new b0;replace r:=r.new b0;replace s:=s.acc b0;refine nH<|nT 3 ([.int .i64 (n:Int), .int .i64 0, .slice none 0 0]) p<|λi1 p e4=>?_
 replace l:=l.only e4 (ai e2);replace r:=r.only e4 (ai e3);replace s:=e4.below s e1;refine pV<|mO (oI 512 r)<|nD (f6 i1) ?_
 rintro _ i2 ⟨rfl,c8⟩;replace l:=l.new c8;replace r:=r.new c8;replace p:=p.new c8;replace s:=s.acc c8;refine mO (qy rfl rfl)<|mP<|zU 33 rfl (iT)<|mY<|mO (oI 512 r)<|mY<|nD (d5 i2) ?_;rintro _ g4 ⟨rfl,c9⟩;replace l:=l.new c9;replace r:=r.new c9;replace p:=p.new c9;replace s:=s.acc c9;refine mY<|mO (rq rfl rfl)<|mO (pO rfl)<|mV<|mQ<|ng<|mR<|mV<|mQ<|oU ?_;obtain⟨B0,g5⟩:=aa ((g4).heap.size);have g6:=ym g4 B0 90 4;refine qZ (α:=Nat × Value × List Value × List Nat) (0, .slice none 0 0,[],[]) (λa=>[(9, .int .i64 (a.1:Nat)),(8, .bool true),(5, .pointer (some ⟨a0,0,none⟩)),(7, .pointer (some ⟨A,0,none⟩)),(4, .pointer (some ⟨C,0,none⟩)),(0, .pointer (some ⟨tb,0,none⟩)),(1, .int .i64 (n:Int))])
   (λa w'=>a.1<=x.cs.length+1/\row w' a0 (bv Z) 121/\row w' A [.int .i64 (n:Int), .int .i64 ((if a.1=0 then 0 else x.lv:Nat):Int),a.2.1] 87/\row w' C [.int .i64 0, .int .i64 0, .slice none 0 0] 87/\nY w' B0 90 4 a.2.1 (a.1 - 1) a.2.2.1/\qQ w' a.2.2.2 a.2.2.1 (x.cs.take (a.1 - 1))/\(∀ b∈a.2.2.2,B0<=b/\b<w'.heap.size/\b∉a.2.1.ownBlock.toList)/\Below W1.heap.size W1 w'/\B0<=w'.heap.size) (λa=>x.cs.length+1 - a.1)
   ⟨rfl,congrArg Value.bool (decide_eq_true eu),rfl,rfl,rfl,rfl,rfl,rfl⟩ ⟨aC _,r,p,l,g6,qQ.nil _ _,(λb hb=>nomatch hb),s,fG g5.symm⟩ ?_
 have n5:W1.heap.size<=B0:=by rw[<-g5];exact s.size
 have n6:=r.lt;have n7:=p.lt;have n8:=l.lt;clear r p l s g6;rintro⟨i,v,vs,bl⟩ f e5 ⟨d4,r,p,l,t,b1,D,s,n9⟩;dsimp only at d4 r p t b1 D;have y:=sI.refl [A] e5;have e6:∀ b,v.ownBlock=some b->b<e5.heap.size:=λb e=>(t.lt b e).2
 refine ng<|mR<|mP<|mP<|OX 39 rfl (rfl)<|mY<|mP<|mY<|mO (oI 512 r)<|mY<|nD (d5 e5) ?_
 rintro _ T ⟨rfl,a1⟩;replace l:=l.new a1;replace r:=r.new a1;replace p:=p.new a1;replace t:=t.new a1;replace y:=y.new a1;replace s:=s.acc a1;refine mY<|mO (pE rfl rfl)<|mO (pO rfl)<|mQ<|oP rfl (λe7=>?_)<|λe7=>?_
 ·
  refine lF ?_;have o0:=p.lt;have o1:=r.lt;have o2:=l.lt;have o3:=y.k.size;have i3:i=0->(zQ x i).length=1:=λh=>by rw[h];rfl
  refine nM<|mO (oI 512 r)<|mP<|qi rfl (nX dA rfl) (f5 i eu T) ?_
  rintro _ i4 ⟨⟨H,oq,i5,rfl,E,g7,o4,o5⟩,a2⟩;replace l:=l.new a2;replace r:=r.new a2;replace p:=p.new a2;replace t:=t.new a2;replace y:=y.new a2;replace s:=s.acc a2;refine mP<|mO (nJ rfl rfl)<|mO (nJ rfl rfl)<|mV<|mV<|mQ<|oU<|mR<|mP<|mO (oD rfl rfl)<|mP<|rD 69 rfl (iT)<|mY<|mP<|mY<|mO (qy rfl rfl)<|mY<|mP<|ui 72 rfl (λe8=>?_)<|λe8=>?_
  ·
   refine mY<|mP<|mY<|mO (oQ (e:=5) (sz:=1) dA rfl rfl)<|mY<|mO (oD rfl rfl)<|mY<|mO (pO rfl)<|mO (oo rfl)<|mV<|mQ<|pJ rfl ((by have:=i3 eu;omega))<|mR<|mP<|mO (qy rfl rfl)<|mV<|mQ<|sU rfl eu ?_
   obtain rfl:i=0:=by omega
   refine nM<|mP<|mO (vg (e:=5) dA rfl rfl (0) eu eu)<|mO (ou rfl (Ld.sl1 E dA (show(bv [u8 x.lv])[0]?=some (.int .u8 ((u8 x.lv).toNat:Int))from rfl)))<|mO (rz (k:=.i64) dA dA rfl (show IntKind.i64.wrap ((u8 x.lv).toNat:Int)=(x.lv:Int) by rw[MO hok.lv,nN (by have:=hok.lv;omega)]))<|mO (nk 1)<|nH<|oW p<|λo6 p b2=>?_
   replace l:=l.only b2 (ai e2);replace r:=r.only b2 (ai e3);replace t:=t.only b2 eu;replace y:=y.only b2 iB;replace s:=b2.below s e1;refine oH<|pW<|pW<|ny<|nM<|mP<|mO (om rfl rfl (Coup.nN eu))<|mV<|oH ?_
   have d0:=y.k.size;have i6:=b1.nu y.k λb hb u=>by
     have M:=(D b hb).1;have O:b=A:=by simpa using u
     omega
   refine oO ⟨(1,v,vs,bl),by dsimp only;omega,⟨rfl,rfl,rfl,rfl,rfl,rfl,rfl,rfl⟩,by dsimp only;omega,r,p,l,t,i6,(λb hb=>⟨(D b hb).1,ae (D b hb).2.1 d0,(D b hb).2.2⟩),s,eu⟩
  ·
   have o7:i≠0:=by omega
   have b3:∃ j,i=j+1:=⟨i - 1,eu⟩;obtain⟨j,rfl⟩:=b3;have b3:∃ c,x.cs[j]?=some c:=⟨_,aI eu⟩;obtain⟨c,e9⟩:=b3;have i7:=hok.wf c (aN e9);have g8:zQ x (j+1)=pK x.lv c:=by
     unfold zQ;rw[if_neg eu,show j+1 - 1=j by omega,e9]
     rfl
   have i8:∀ w',nC w' (some ⟨H,oq,none⟩) (zQ x (j+1)).length 1 (bv (zQ x (j+1)))->CQ 121 [.slice (some ⟨H,oq,none⟩) (zQ x (j+1)).length i5, .int .i64 (x.lv:Int)] w' (λv w2=>(∃ xs,v= .tuple #[.agg xs.toArray, .bool true]/\sw w2 [H] xs c)/\Below w'.heap.size w' w2):=by
     rw[g8]at g7 |-;exact λw' i9=>EO w' i9 g7 i7
   replace p:row i4 A [.int .i64 (n:Int), .int .i64 (x.lv:Int),v] 87:=p;refine nE<|nE<|nE<|mY<|mO (oo rfl)<|mO (oo rfl)<|mV<|mQ<|tC rfl (iT)<|mR<|mP<|mO (qy rfl rfl)<|mV<|mQ<|pJ rfl (eu)<|mR ?_
   have o8:=y.k.size;refine nz<|nU ([Value.slice none 0 0,Value.int .i64 0,Value.int .i64 0,Value.int .i64 0]) dA<|λd1 j0 d2 b4 U=>?_
   have j1:=ag s.size d2;have j2:C<d1:=ae l.lt d2;have j3:a0<d1:=ae r.lt d2;have j4:A<d1:=ae p.lt d2;replace l:=l.new U;replace r:=r.new U;replace p:=p.new U;replace t:=t.new U;replace y:=y.new U;replace E:=E.new U;replace s:=s.acc U;refine pV<|mP<|mO (nk 1)<|mO (mZ p)<|nD (i8 j0 E) ?_
   rintro _ o9 ⟨⟨p0,rfl,a3⟩,P⟩;replace l:=l.new P;replace r:=r.new P;replace p:=p.new P;replace t:=t.new P;replace y:=y.new P;replace E:=E.new P;replace b4:=b4.new P;replace s:=s.acc P;have j5:=a3;have b3:=j5;obtain⟨a4,a5,j6,_,_,_⟩:=b3;subst j6;have j7:=zi a4 a5 c;have g9:(pI a4 a5 c).length=4:=rfl;refine lK ?_;have j8:=t;refine nH<|nT 4 (pI a4 a5 c) b4<|λp1 b4 Q=>?_
   replace l:=l.only Q (ai j2);replace r:=r.only Q (ai j3);replace p:=p.only Q (ai j4);replace y:=y.only Q iB;replace E:=E.only Q eu;replace a3:=a3.only Q eu;replace s:=Q.below s j1;have t:=j8.nu (Kp.rC Q) λb u e=>by
     have M:=e6 b e;have O:b=d1:=by simpa using u
     omega
   refine mV<|mQ<|nM<|mO (nk 2)<|mO (mZ p)<|mO (oI 4 b4)<|nz<|uE (e:=90) (.agg (pI a4 a5 c).toArray) (pI a4 a5 c) ([Value.slice none 0 0,Value.int .i64 0,Value.int .i64 0,Value.int .i64 0]) 4 dA dA rfl rfl iw ⟨iT,iT⟩<|λp2 j9 p3 k0 R=>?_
   replace l:=l.new R;replace r:=r.new R;replace p:=p.new R;replace y:=y.new R;replace E:=E.new R;replace a3:=a3.new R;replace t:=t.new R;replace s:=s.acc R;have k7:=k0.ul (m:=1) (sz:=4) rfl eu;have k8:=b1.nu y.k λb hb u=>by
     have M:=(D b hb).1;have O:b=A:=by simpa using u
     omega
   have k9:=a3;have p4:=y;have p5:=λb e=>(t.lt b e)
   have d0:=y.k.size;have p6:H<(j9).heap.size:=E.some (by rw[g8,zJ];omega) |>.elim λa ⟨b,e,e7⟩=>by cases e;exact e7
   refine nz<|uf (e:=90) (sz:=4) (bytes:=48) (z:=.agg ([Value.slice none 0 0,Value.int .i64 0,Value.int .i64 0,Value.int .i64 0]).toArray) dA rfl dA rfl iT rfl t rfl k7 j7 jo eu (λp7=>eu)<|λp8 nN d3 b5 l0=>?_
   replace l:=l.own t b5 eu;replace r:=r.own t b5 eu;replace p:=p.own t b5 eu;replace s:=s.own t b5 eu;have f0:=Kp.rX b5;have p9:=f0.size;have l1:=(k8.nu f0 λb hb u=>(D b hb).2.2 u).mono (bl':=H::bl) λb hb=>by simp[hb]
   have l2:=(k9.nu f0 λb hb u=>by
     have M:=e6 b (ah.1 u);have O:b=H:=by simpa using hb
     omega).mono (bl':=H::bl) λb hb=>by simpa using Or.inl (show b=H by simpa using hb)
   have h0:=l1.snoc l2;have h1:=l0;obtain⟨l3,l4,rfl⟩:=d3.form;refine mO (nk 2)<|nH<|oW p<|λq0 p b6=>?_
   replace l:=l.only b6 (ai e2);replace r:=r.only b6 (ai e3);replace d3:=d3.only b6 eu;replace s:=b6.below s e1;refine oH<|pW<|pW<|ny<|nM<|mP<|mO (om rfl rfl (Coup.nN eu))<|mV<|oH ?_
   have I:=Kp.rC b6;have h2:=I.size;have l5:x.cs.take (j+1 - 1)++[c]=x.cs.take (j+1+1 - 1):=by rw[show j+1 - 1=j by omega,show j+1+1 - 1=j+1 by omega,bf,e9];rfl
   rw[l5]at h0;have b0:∀ b∈H::bl,b∉[A]:=λb hb u=>by
     have O:b=A:=by simpa using u
     rcases ak.1 hb with F|F
     · omega
     · have M:=(D b F).1;omega
   refine oO ⟨(j+1+1, .slice l3 _ l4,vs++pI a4 a5 c,H::bl),by dsimp only;omega,⟨rfl,rfl,rfl,rfl,rfl,rfl,rfl,rfl⟩,by dsimp only;omega,r,p,l,d3,h0.nu I b0,(λb hb=>?_),s,eu⟩;rcases ak.1 hb with F|F
   · subst F
     refine⟨eu,eu,λu=>?_⟩;rcases h1 b (ah.1 u)with b7|b7
     · have:=e6 b b7;omega
     · omega
   · obtain⟨l6,q1,l7⟩:=D b F
     refine⟨l6,eu,λu=>?_⟩;rcases h1 b (ah.1 u)with b7|b7
     · exact l7<|ah.2 b7
     · omega
 ·
  obtain rfl:i=x.cs.length+1:=by omega
  obtain⟨pv,cv,rfl⟩:=t.form;obtain⟨bs,f1⟩:=aa ((Value.slice pv (x.cs.length+1 - 1) cv).ownBlock.toList++bl);have g9:=t.lt;have d0:=y.k.size;have X:qj T bs (oz x pv cv) x:=by
    refine⟨pv,cv,vs,rfl,t.sl,?_,λg o e=>?_,OL t⟩
    · rw[show x.cs.take (x.cs.length+1 - 1)=x.cs from aP eu]at b1
      exact(b1.nu y.k λb hb u=>by
        have M:=(D b hb).1;have O:b=A:=by simpa using u
        omega).mono λb hb=>by rw[<-f1];exact aB _ hb
    · rw[<-f1]
      refine aF _<|ah.2 ?_
      subst e
      rfl
  have S:∀ b∈bs,B0<=b/\b<(T).heap.size:=λb hb=>by
    rw[<-f1]at hb;rcases ay.1 hb with F|F
    · exact g9 b<|ah.1 F
    · exact⟨(D b F).1,ae (D b F).2.1 d0⟩
  replace p:row T A (oz x pv cv) 87:=by unfold oz;rw[hx];exact p
  have q2:(oz x pv cv).length=3:=rfl;have q3:=vO x pv cv;have B:=Below.refl (T).heap.size T;have l8:=hok.ne;refine qP<|qL<|rf<|qX<|ny<|ng<|mR<|mP<|mQ<|uC rfl (rfl)<|mR<|mO (oI 3 p)<|nD (f7 T _ _ (X.new B)) ?_
  rintro _ q4 ⟨rfl,b8⟩;replace l:=l.new b8;replace r:=r.new b8;replace p:=p.new b8;replace s:=s.acc b8;replace B:=B.acc b8;refine mP<|mO (nJ rfl rfl)<|mO (nJ rfl rfl)<|nz<|nU (List.replicate 512 (Value.int .u8 0)) dA<|λf2 q5 b9 a6 c4=>?_
  have l9:=ag s.size b9;have m0:=ag B.size b9;have m1:C<f2:=ae l.lt b9;have m2:a0<f2:=ae r.lt b9;have m3:A<f2:=ae p.lt b9;replace l:=l.new c4;replace r:=r.new c4;replace p:=p.new c4;replace s:=s.acc c4;replace B:=B.acc c4;rw[AP]at a6;refine nH<|nT 512 (bv Z) a6<|λm4 a6 c5=>?_
  replace l:=l.only c5 (ai m1);replace r:=r.only c5 (ai m2);replace p:=p.only c5 (ai m3);replace s:=c5.below s l9;replace B:=c5.below B m0;refine mV<|mQ<|nM<|mO (oI 3 p)<|nD (FO m4 (X.new B) hok.keys) ?_
  rintro _ q6 ⟨rfl,a7⟩;replace l:=l.new a7;replace r:=r.new a7;replace p:=p.new a7;replace a6:=a6.new a7;replace s:=s.acc a7;replace B:=B.acc a7;refine mP<|OX 94 rfl (rfl)<|mY<|mO (oI 512 a6)<|mY<|mO (oI 512 r)<|mY<|mO (VA (n:=512) dA rfl rfl g0 g0)<|mO (pO rfl)<|mP<|zU 99 rfl (rfl)<|mY<|mO (nk 1)<|mY<|mO (mZ p)<|mY<|mO (qy rfl rfl)<|mY<|mP<|ui 103 rfl (λe8=>?_)<|λe8=>?_
  ·
   refine nE<|nE<|nE<|nE<|mY<|mO (pO rfl)<|mO (pO rfl)<|mV<|mQ<|ng<|ng<|nM<|mP<|mO (sD rfl)<|mQ<|Ni rfl<|nL<|ny<|mR<|mO (oI 3 p) ?_
   have c6:=s;have c7:=B;have m5:=s.size;refine nH<|nT 3 (oz x pv cv) l<|λq7 l h3=>?_
   refine mQ<|nQ<|nR [_] ⟨⟨_,rfl,Ld.qp (k:=3) l dA dA gp⟩,trivial⟩ ?_
   have I:=Kp.rC h3;have h2:=I.size;have m6:=c7.size;have m7:=a9.size;have f3:=((sI.refl [C] W1).nu (N:=[]) (Kp.of_below c6) (λ_ u=>nomatch u)).nu I ig;have f4:=(X.new c7).nu I λb hb u=>by
     have M:=(S b hb).1;have O:b=C:=by simpa using u
     omega
   refine⟨oz x pv cv,bs,rfl,f4,(λb hb=>by have:=(S b hb).1;omega),(d9.more f3.k (N:=bs) (λb hb=>.inr (by simpa using Or.inr (Or.inl (show b=C by simpa using hb)))) (λb hb=>.inr (by have:=(S b hb).1;omega)) λb hb=>by have:=(S b hb).2;omega).weak λb hb=>?_,(a9.new c6).only h3 (.inl eu)⟩;rcases ay.1 hb with hb|hb
   · exact aF _ hb
   · exact aB _ jP
  ·
   refine mY<|mO (nk 2)<|mY<|mO (mZ p)<|mY<|mO (oQ (e:=90) (sz:=4) dA rfl rfl)<|mY<|mO (rq rfl rfl)<|mY<|mO (oo rfl)<|mO (pO rfl)<|mV<|mQ<|ng<|mR<|mP<|mO (sD rfl)<|mQ<|GU rfl ((by have:=fJ.2 (l8.resolve_left eu);omega))<|nL<|ny<|mR<|mO (oI 3 p) ?_
   have c6:=s;have c7:=B;have m5:=s.size;refine nH<|nT 3 (oz x pv cv) l<|λq8 l h4=>?_
   refine mQ<|nQ<|nR [_] ⟨⟨_,rfl,Ld.qp (k:=3) l dA dA gp⟩,trivial⟩ ?_
   have I:=Kp.rC h4;have h2:=I.size;have m6:=c7.size;have m7:=a9.size;have f3:=((sI.refl [C] W1).nu (N:=[]) (Kp.of_below c6) (λ_ u=>nomatch u)).nu I ig;have f4:=(X.new c7).nu I λb hb u=>by
     have M:=(S b hb).1;have O:b=C:=by simpa using u
     omega
   refine⟨oz x pv cv,bs,rfl,f4,(λb hb=>by have:=(S b hb).1;omega),(d9.more f3.k (N:=bs) (λb hb=>.inr (by simpa using Or.inr (Or.inl (show b=C by simpa using hb)))) (λb hb=>.inr (by have:=(S b hb).1;omega)) λb hb=>by have:=(S b hb).2;omega).weak λb hb=>?_,(a9.new c6).only h4 (.inl eu)⟩;rcases ay.1 hb with hb|hb
   · exact aF _ hb
   · exact aB _ jP
end
theorem SS{bl:List Nat}{xs:List Value}{x:MN}{pk:Option Addr}{ck:Nat}{k:Key}(w:World)(h:qj w bl xs x)(hn:x.cs.length<=1000)(hr:uH x.cs)(hk:nC w pk k.length 1 (bv k)):
  CQ 44 [.agg xs.toArray, .slice pk k.length ck] w (λv w'=>v= .tuple #[.int .i64 (pz x.cs k:Int), .bool (isK x.cs k)]/\Below w.heap.size w w'):=by
 obtain⟨p,c,vs,rfl,e,f,_,_⟩:=h;have a:=Below.refl w.heap.size w;refine nP (fn:=Tryz.f44) (rs:=[.tmp 4, .tmp 5]) (n:=12) Tryz.func44 rfl rfl Tryz.ntmps44 dA rfl<|mR<|nz<|oV (oz x p c) rfl<|λk w2 l g i=>?_
 replace a:=a.acc i;refine mV<|nV<|mO (nk 2)<|mO (mZ g)<|mP<|nD (zsr w2 rfl hn (e.new a) (f.new a) hr (hk.new a)) ?_
 rintro _ m ⟨rfl,j⟩;replace a:=a.acc j;refine mO (nJ rfl rfl)<|mO (nJ rfl rfl)<|mV<|mV<|mQ<|nQ<|nR [_,_] ⟨rfl,rfl,trivial⟩ ?_;exact⟨rfl,a⟩
structure Ji(w:World)(s e:Nat)(bl:List Nat)(xs:List Value)(x:MN):Prop where
 nd:qj w bl xs x
 rg:∀ b∈bl,s<=b/\b<e
theorem Ji.new{w w':World}{s e:Nat}{bl:List Nat}{xs:List Value}{x:MN}(h:Ji w s e bl xs x)(hb:Below w.heap.size w w'):Ji w' s e bl xs x:=⟨h.nd.new hb,h.rg⟩
theorem Ji.only{w w':World}{s e g:Nat}{bl:List Nat}{xs:List Value}{x:MN}(h:Ji w s e bl xs x)(ho:Only g w w')(hg:g<s\/e<=g):Ji w' s e bl xs x:=⟨h.nd.nu (Kp.rC ho) λb hb a=>by
 have c:=h.rg b hb;have e:b=g:=by simpa using a
 omega,h.rg⟩
theorem qj.ll{w w':World}{lo:Nat}{L bl:List Nat}{xs:List Value}{x:MN}(h:qj w bl xs x)(k:mX lo L w w')(hb:∀ b∈bl,b<lo\/b∈L):qj w' bl xs x:=h.nu k.kp λb a=>pG (hb b a)
theorem Yk{vs:List Value}{i:Nat}{q:Option Addr}{qc:Nat}{c:Key × V3}(h:(vs.drop (i*4)).take 4=pI q qc c):vs[i*4+3]?=some (.int .i64 (c.2.2.2:Int)):=by
 have a:((vs.drop (i*4)).take 4)[3]?=some (.int .i64 (c.2.2.2:Int)):=by rw[h];rfl
 rw[bF,if_pos eu,bD]at a;exact a
theorem wM(x:MN)(p:Option Addr)(cp:Nat):(oz x p cp).length=3:=rfl
section
variable {Y:World->List Nat->Prop}[hYT:mW Y]{q N lo:Nat}{L:List Nat}{G V:Nat->Pg}{k:Nat}{w:World}
theorem WQ(tb hb:Nat)(h:Two (GZ q N G V k) Y lo L w)(hr:row w tb [.pointer (some ⟨q,0,none⟩), .pointer (some ⟨hb,0,none⟩)] 50){bl:List Nat}{xs:List Value}{x:MN}(hnd:qj w bl xs x){c:Key × V3}{i:Nat}(hci:x.cs[i]?=some c)(hn:c.2.2.2<N){x2:MN}(hx2:x2.n=c.2.2.2)(hG:G c.2.2.2=oG (rH x2))(hok:xq x2)(hlv:x.lv=x2.lv+1):
  CQ 50 [.pointer (some ⟨tb,0,none⟩), .agg xs.toArray, .int .i64 (i:Int)] w (λv w'=>∃ xs bl,v= .agg xs.toArray/\qj w' bl xs x2/\(∀ b∈bl,w.heap.size<=b)/\Two (GZ q N G V k) Y lo (bl++L) w'/\mX lo L w w'):=by
 obtain⟨p,T,vs,rfl,C,U,_,_⟩:=hnd;have g:=Below.refl w.heap.size w;have c:=mX.refl lo L w;have r:=h;have b2:maxLen=9223372036854775807:=by decide
 have b3:=C.max;have b4:=hok.lv;have b5:=(aO.1 hci).1;obtain⟨X,K,rfl,b6⟩:=C.some eu;obtain⟨b7,b8,Z,_,_,_⟩:=U.at_ _ _ hci;have a0:=Yk Z;have a1:=λw' L' (a2:Two (GZ q N G V k) Y lo L' w') (a3:row w' tb [.pointer (some ⟨q,0,none⟩), .pointer (some ⟨hb,0,none⟩)] 50)=>PM tb hb a2 a3 hn hx2 hG hok
 refine nP (fn:=Tryz.f50) (rs:=[.cell 6 87]) (n:=24) Tryz.func50 rfl rfl Tryz.ntmps50 dA rfl<|mR<|nz<|oV (oz x (some ⟨X,K,none⟩) T) rfl<|λD b9 E a y=>?_
 have c4:=ag g.size E;have c5:=c.size;have c6:tb<D:=ae hr.lt E;replace r:=r.nA y E a.lt;replace c:=c.new y;replace hr:=hr.new y;replace g:=g.acc y;refine nz<|nU ([Value.int .i64 0,Value.int .i64 0,Value.slice none 0 0]) dA<|λF H z f s=>?_
 have c7:=ag g.size z;have c8:tb<F:=ae hr.lt z;have a4:D<F:=ae a.lt z;replace r:=r.nA s z f.lt;replace c:=c.new s;replace hr:=hr.new s;replace a:=a.new s;replace g:=g.acc s;refine pV<|mP<|mO (nk 2)<|mO (mZ a)<|mP<|mO (rE (e:=90) (sz:=4) dA rfl rfl (i) eu eu)<|mO (nk 3)<|mO (ou rfl (Ld.sl1 (off:=K) (j:=i*4+3) (C.new g) dA a0)) ?_
 have c9:=g.size;have d0:=ax (H).heap.size;obtain⟨W1,M⟩:=aa (H);have a5:=a.lt;have a6:=f.lt;refine nD (a1 H _ r hr) ?_;rintro _ O ⟨a7,P,rfl,Q,a8,l,I⟩;replace c:=c.lq I;replace a:=a.kl I;replace f:=f.kl I;have m:Ji O W1.heap.size (O).heap.size P a7 x2:=⟨Q,λb hb=>⟨by rw[<-M];exact a8 b hb,l.lt b (aF _ hb)⟩⟩;have a9:=Q;obtain⟨A,B,_,b0,_,_,_,_⟩:=a9;subst b0;have d1:=vO x2 A B;have d2:=wM x2 A B;rw[M]at a5 a6;have d3:=c.size;refine nz<|nU ([Value.int .i64 0,Value.int .i64 0,Value.slice none 0 0]) dA<|λR d4 J o t=>?_
 have b1:D<R:=ae a.lt J;have S:F<R:=ae f.lt J;replace c:=c.new t;replace a:=a.new t;replace f:=f.new t;replace l:=l.nA t J o.lt;replace m:=m.new t;refine nH<|nT 3 (oz x2 A B) o<|λd5 o u=>?_
 replace c:=c.oq u;replace a:=a.only u (ai b1);replace f:=f.only u (ai S);replace l:=l.only u eG;replace m:=m.only u eu;refine mQ<|ng<|mR<|mO (nk 1)<|mO (mZ o)<|mO (nk 1)<|mO (mZ a)<|mO (vE rfl rfl (Coup.nN eu))<|mO (oD rfl rfl)<|mQ<|pJ rfl (eu)<|nL<|ny<|mR<|mO (oI 3 o)<|nH<|nT 3 (oz x2 A B) f<|λd6 f v=>?_
 replace c:=c.oq v;replace a:=a.only v (ai a4);replace l:=l.only v eG;replace m:=m.only v eu;replace o:=o.only v (bA S);refine mQ<|nQ<|nR [_] ⟨⟨_,rfl,Ld.qp (k:=3) f dA dA gp⟩,trivial⟩ ?_
 exact⟨_,P,rfl,m.nd,(λb hb=>by have:=(m.rg b hb).1;omega),l.weak (λb hb=>by
  rcases ay.1 hb with h|h
  .simp[h]
  .simp[h]),c⟩
end
theorem WS{l:Nat}{ks:List (Key × Val l)}{c:Key × V3}(h:c∈toM l ks):∃ x∈ks,c=(x.1,v3 l x.2):=by
 obtain⟨x,a,rfl⟩:=bB.1 h;exact⟨x,a,rfl⟩
theorem E_{l:Nat}{ks:List (Key × Val l)}(h:uH ks):uH (toM l ks):=List.pairwise_map.2 h
theorem Oq{l i:Nat}{ks:List (Key × Val l)}{x:Key × Val l}(h:ks[i]?=some x):(toM l ks)[i]?=some (x.1,v3 l x.2):=by
 unfold toM;rw[aW,h];rfl
theorem ED:∀ {l:Nat} {t:Tr l} {lo hi:Key},qA l t lo hi->(∀ n∈og l t,n<4294967296)->l<256->xq (nO l t)
 |0,t,lo,hi,h,_,_=>by
  refine⟨by show 0<256;omega,by show tK 0 (toM 0 t.ks)=true;rw[Us];exact h.fit,⟨E_ h.AB,λi c g=>⟨λe=>?_,λe=>absurd e.2 (gW 0)⟩⟩,λc g=>?_, .inl rfl⟩
  .obtain⟨x,a,rfl⟩:=WS (aN g)
   exact absurd e (h.2.1 x a).1.1
  .obtain⟨x,a,rfl⟩:=WS g
   obtain⟨j,_,_,f,q⟩:=h.2.1 x a;exact⟨j.2,by rw[if_pos (show(nO 0 t).lv=0 from rfl)];exact⟨by show x.2.1<4294967296;omega,q,rfl⟩⟩
 |l+1,t,lo,hi,h,hp,hl=>by
  have o:∀ i x,t.ks[i]?=some x->(i=0/\x.1=[]\/i≠0/\qD x.1):=λi x a=>by
   obtain⟨s,r,e,p⟩:=h.1;cases i with
   |zero=>rw[e]at a;cases a;exact .inl ⟨rfl,p⟩
   |succ i=>
    obtain⟨k,u⟩:=aO.1 a;refine .inr ⟨eu,(h.2.2.1 (t.ks.take (i+1)) x (t.ks.drop (i+2)) ?_ λv=>?_).1⟩
    .rw[<-u,<-dG k,bM]
    .have:=congrArg List.length v
     rw[aH]at this;simp only[aX]at this;omega
  refine⟨hl,by show tK (l+1) (toM (l+1) t.ks)=true;rw[Us];exact h.fit,⟨E_ h.AB,λi c g=>?_⟩,λc g=>?_, .inr ?_⟩
  .have m:(toM (l+1) t.ks)[i]?=some c:=g
   unfold toM at m;rw[aW]at m;obtain⟨x,a,rfl⟩:=dm.1 m;rcases o i x a with⟨j,f⟩|⟨j,f⟩
   .exact⟨λ_=>⟨j,gH l⟩,λ_=>f⟩
   .exact⟨λe=>absurd e f.1,λe=>absurd e.1 j⟩
  .obtain⟨x,a,rfl⟩:=WS g
   obtain⟨i,k⟩:=fB.1 a;refine⟨?_,?_⟩
   .rcases o i x k with⟨_,f⟩|⟨_,f⟩
    .show x.1.length<=100;rw[f];exact aC _
    .exact f.2
   .rw[if_neg (show¬(nO (l+1) t).lv=0 from jE l)]
    exact⟨rfl,rfl,hp x.2.n (aj _ (bR.2 ⟨x,a,vN⟩))⟩
  .obtain⟨s,r,e,p⟩:=h.1
   show toM (l+1) t.ks≠[];rw[e];exact List.cons_ne_nil _ _
def yS:(l:Nat)->Tr l->Key->List (MN × Nat)
 |0,t,_=>[(nO 0 t,0)]
 |l+1,t,k=>(nO (l+1) t,qE t.ks k)::match t.ks[qE t.ks k]? with|some x=>yS l x.2 k|none=>[]
theorem NK{l:Nat}{t:Tr (l+1)}{k:Key}{x:Key × Val (l+1)}(h:t.ks[qE t.ks k]?=some x):yS (l+1) t k=(nO (l+1) t,qE t.ks k)::yS l x.2 k:=by
 rw[yS,h]
theorem WX{l:Nat}(ks:List (Key × Val l))(k:Key):pz (toM l ks) k=pz ks k:=VH (v3 l) ks k
theorem Qr{l:Nat}(ks:List (Key × Val l))(k:Key):isK (toM l ks) k=isK ks k:=ZY (v3 l) ks k
theorem Ex{l:Nat}{t:Tr (l+1)}{lo hi k:Key}(h:qA (l+1) t lo hi)(hk:qD k):1<=pz t.ks k:=by
 obtain⟨x,r,e,a⟩:=h.1;unfold pz;rw[e,List.takeWhile_cons,a,if_pos (decide_eq_true (Na hk.1))];simp
theorem Rj:∀ {l:Nat} {t:Tr l} {k lo hi:Key},qA l t lo hi->qD k->qa lo k->rO k hi->(yS l t k).length=l+1
 |0,_,_,_,_,_,_,_,_=>rfl
 |l+1,t,k,lo,hi,h,hk,hlo,hhi=>by
  obtain⟨A,x,B,e,g,a,c,f,_,_,_⟩:=zK h hk hlo hhi;rw[NK a,aD,Rj (h.2.2.2.2 A x B e) hk c f]
structure xX(N:Nat)(H:HS)(l:Nat)(t:Tr l):Prop where
 rg:∀ n∈og l t,1<=n/\n<H.F.fresh
 hold:uM H.S l t
 lv:l<256
 fN:H.F.fresh<=N
 n2:N<=2048
namespace xX
variable {N:Nat}{H:HS}{l:Nat}
theorem page{t:Tr l}(h:xX N H l t):t.n<N/\nG H t.n=oG (rH (nO l t)):=by
 have a:=h.rg t.n vN;have c:=h.fN;refine⟨eu,?_⟩;unfold nG;rw[if_neg eu,if_pos a.2,h.hold.top,Ct]
theorem yZ{t:Tr l}(h:xX N H l t){lo hi:Key}(hs:qA l t lo hi):xq (nO l t):=ED hs (λn a=>by have:=h.rg n a;have:=h.fN;have:=h.n2;omega) h.lv
theorem kid{t:Tr (l+1)}(h:xX N H (l+1) t){x:Key × Val (l+1)}(hx:x∈t.ks):xX N H l x.2:=
 ⟨λn a=>h.rg n (aj _ (bR.2 ⟨x,hx,a⟩)),h.hold.2 x hx,by have:=h.lv;omega,h.fN,h.n2⟩
end xX
structure wV(w:World)(bl:List Nat)(vs:List Value)(ps:List (MN × Nat)):Prop where
 len:vs.length=ps.length*4
 at_:∀ j z,ps[j]?=some z->∃ xs,(vs.drop (j*4)).take 4=xs++[.int .i64 (z.2:Int)]/\qj w bl xs z.1
namespace wV
variable {w w':World}{bl bl':List Nat}{vs:List Value}{ps:List (MN × Nat)}
theorem nil(w:World)(bl:List Nat):wV w bl [] []:=⟨rfl,λj c a=>by cases a⟩
theorem nu{M:List Nat}(h:wV w bl vs ps)(k:Kp M w w')(hM:∀ b∈bl,b∉M):wV w' bl vs ps:=⟨h.len,λj a c=>let ⟨xs,h1,h2⟩:=h.at_ j a c;⟨xs,h1,h2.nu k hM⟩⟩
theorem ll{lo:Nat}{L:List Nat}(h:wV w bl vs ps)(k:mX lo L w w')(hb:∀ b∈bl,b<lo\/b∈L):wV w' bl vs ps:=h.nu k.kp λb a=>pG (hb b a)
theorem mono(h:wV w bl vs ps)(hb:∀ b∈bl,b∈bl'):wV w bl' vs ps:=⟨h.len,λj a c=>let ⟨xs,h1,h2⟩:=h.at_ j a c;⟨xs,h1,h2.mono hb⟩⟩
theorem new(h:wV w bl vs ps)(hb:Below w.heap.size w w'):wV w' bl vs ps:=h.nu (M:=[]) (Kp.of_below hb) ig
theorem snoc{xs:List Value}{x:MN}{i:Nat}(h:wV w bl vs ps)(hx:qj w bl xs x):wV w bl (vs++(xs++[.int .i64 (i:Int)])) (ps++[(x,i)]):=by
 have c:=h.len;have e:xs.length=3:=by obtain⟨p,l,_,rfl,_⟩:=hx;rfl
 refine⟨by simp[c,e];omega,λj f a=>?_⟩
 by_cases g:j<ps.length
 .rw[bG g]at a
  obtain⟨ys,i,k⟩:=h.at_ j f a;refine⟨ys,?_,k⟩;rw[eH eu,fF lc];exact i
 .rw[bC eu]at a
  obtain rfl:j=ps.length:=by
   have:=(aO.1 a).1;simp at this;omega
  rw[bL]at a;cases a;refine⟨xs,?_,hx⟩;rw[<-c,dF,aP kw]
end wV
theorem _root_.Coup.nC.sS{w w':World}{p:Option Addr}{m sz lo:Nat}{cs:List Value}{L:List Nat}(h:nC w p m sz cs)(k:mX lo L w w')(hg:∀ g o,p=some ⟨g,o,none⟩->g<lo\/g∈L):nC w' p m sz cs:=h.nu k.kp λg o e=>pG (hg g o e)
def zg(x:MN)(p:Option Addr)(cp i:Nat):List Value:=[.int .i64 (x.n:Int), .int .i64 (x.lv:Int), .slice p x.cs.length cp, .int .i64 (i:Int)]
theorem Yw(x:MN)(p:Option Addr)(cp i:Nat):∀ u∈zg x p cp i,u.oneCell'=true:=by
 intro u a;simp only[zg,ak,bu,or_false]at a;rcases a with rfl|rfl|rfl|rfl<;>rfl
structure YA where
 l:Nat
 t:Tr l
 ps:List (MN × Nat)
 v:Value
 vs:List Value
 bl:List Nat
 p:Option Addr
 cp:Nat
 Lc:List Nat
structure WyI(N:Nat)(H:HS)(l0:Nat)(t0:Tr l0)(key:Key)(L:List Nat)(B0 g5:Nat)(s:YA)(w:World):Prop where
 path:yS l0 t0 key=s.ps++yS s.l s.t key
 len:s.ps.length+s.l=l0
 snd_:∃ lo hi,qA s.l s.t lo hi/\qa lo key/\rO key hi
 tin:xX N H s.l s.t
 nd:qj w s.bl (oz (nO s.l s.t) s.p s.cp) (nO s.l s.t)
 row:row w g5 (oz (nO s.l s.t) s.p s.cp) 87
 own:nY w B0 97 4 s.v s.ps.length s.vs
 wy:wV w s.bl s.vs s.ps
 bl:∀ b∈s.bl,b∈s.Lc/\b≠g5/\b∉s.v.ownBlock.toList
 vL:∀ b∈s.v.ownBlock.toList,b∈s.Lc
 gL:g5∈s.Lc
 LL:∀ b∈L,b∈s.Lc
section
variable {Y:World->List Nat->Prop}[hYT:mW Y]{q N lo:Nat}{L:List Nat}{V:Nat->Pg}{k:Nat}{H:HS}{fl:List Nat}{w:World}
theorem BB (tb hb:Nat) (h:Two (GZ q N (nG H) V k) Y lo L w) (hH:qO N H fl) (hr:row w tb [.pointer (some ⟨q,0,none⟩), .pointer (some ⟨hb,0,none⟩)] 50) (htb:tb<lo\/tb∈L) (hrh:row w hb [.pointer (some ⟨q,0,none⟩)] 201) (hhb:hb<lo\/hb∈L)
   {l:Nat} {t:Tr l} (ht:xX N H l t) (hs:qA l t [] []) (hroot:H.F.root=t.n) {pk:Option Addr} {ck:Nat} {key:Key} (hkey:nC w pk key.length 1 (bv key)) (hkL:∀ g o,pk=some ⟨g,o,none⟩->g<lo\/g∈L) (hkk:qD key):
   CQ 43 [.pointer (some ⟨tb,0,none⟩), .slice pk key.length ck] w (λv w'=>∃ vs bl Lc,nY w' w.heap.size 97 4 v (l+1) vs/\wV w' bl vs (yS l t key)/\(∀ b∈bl,b∈Lc/\b∉v.ownBlock.toList)/\(∀ b∈v.ownBlock.toList,b∈Lc)/\(∀ b∈L,b∈Lc)/\Two (GZ q N (nG H) V k) Y lo Lc w'/\mX lo L w w'):=by
 have c:=mX.refl lo L w;have j:=h;have m1:maxLen=9223372036854775807:=by decide
 have m2:=h.lo;have g5:∀ w' L',Two (GZ q N (nG H) V k) Y lo L' w'->row w' hb [.pointer (some ⟨q,0,none⟩)] 201->(hb<lo\/hb∈L')->CQ 51 [.pointer (some ⟨hb,0,none⟩)] w' (λv w2=>v= .int .i64 (t.n:Int)/\Two (GZ q N (nG H) V k) Y lo L' w2/\mX lo L' w' w2):=λw' L' o I U=>by
   have:=IJ hb o hH I U;rw[hroot]at this;exact this
 have g6:=λw' L' (o:Two (GZ q N (nG H) V k) Y lo L' w') (I:row w' tb [.pointer (some ⟨q,0,none⟩), .pointer (some ⟨hb,0,none⟩)] 50)=>PM tb hb o I ht.page.1 (x:=nO l t) rfl ht.page.2 (ht.yZ hs)
 refine nP (fn:=Tryz.f43) (rs:=[.tmp 4]) (n:=44) Tryz.func43 rfl rfl Tryz.ntmps43 dA rfl<|mR<|nV<|mP<|mP<|mO (nW rfl)<|mO (nk 1)<|mO (mZ hr)<|nD (g5 w _ j hrh hhb) ?_
 rintro _ g7 ⟨rfl,j,g8⟩;replace c:=c.lq g8;have g9:=hr.kl c htb;have h0:=c.size;refine nD (g6 g7 _ j g9) ?_;rintro _ e2 ⟨h1,b5,rfl,e3,h2,j,h3⟩;replace c:=c.lq h3;have X:Ji e2 w.heap.size (e2).heap.size b5 h1 (nO l t):=⟨e3,λb hb=>⟨ag h0 (h2 b hb),j.lt b (aF _ hb)⟩⟩;obtain⟨a6,a7,_,b6,_,_,_,_⟩:=e3;subst b6;have h4:=vO (nO l t) a6 a7;have h5:=wM (nO l t) a6 a7;have m3:=c.size;refine nz<|nU ([Value.int .i64 0,Value.int .i64 0,Value.slice none 0 0]) dA<|λC m4 h6 f b7=>?_
 have m5:=c.size;replace j:=j.nA b7 h6 f.lt;replace c:=c.new b7;replace X:=X.new b7;refine nH<|nT 3 (oz (nO l t) a6 a7) f<|λe4 f b8=>?_
 replace j:=j.only b8 eG;replace c:=c.oq b8;replace X:=X.only b8 eu;refine pV<|mV<|mQ<|ng<|oU ?_
 obtain⟨B0,m6⟩:=aa ((e4).heap.size);have e5:=ym e4 B0 97 4;have m7:=f.lt;have m8:=c.size;have m9:=j.lt;refine qZ (α:=YA) ⟨l,t,[], .slice none 0 0,[],b5,a6,a7,C::(b5++L)⟩ (λs=>[(5, .pointer (some ⟨C,0,none⟩)),(6,s.v),(0, .pointer (some ⟨tb,0,none⟩)),(1, .slice pk key.length ck)])
   (λs w'=>WyI N H l t key L B0 C s w'/\Two (GZ q N (nG H) V k) Y lo s.Lc w'/\mX lo L w w'/\B0<=w'.heap.size) (λs=>s.l)
   ⟨rfl,rfl,rfl,rfl,rfl⟩ ⟨⟨rfl,by show 0+l=l;omega,⟨[],[],hs,uT _, .inl rfl⟩,ht,X.nd,f,e5,wV.nil _ _,λb hb=>⟨aj _ (aF _ hb),λe=>by have o:=(X.rg b hb).2;omega,(λi=>nomatch i)⟩,(λb i=>nomatch i),aK ..,λb hb=>aj _ (aB _ hb)⟩,j,c,eu⟩ ?_
 have h7:w.heap.size<=B0:=by omega
 have n0:w.heap.size<=C:=by omega
 clear e5 j c f X;rintro⟨D,a,ps,v,vs,bl,p,r,Lc⟩ n1 b9 ⟨h8,j,c,n2⟩;obtain⟨c4,h9,⟨i0,i1,a0,e6,e7⟩,c5,E,f,y,J,u,a1,e8,c6⟩:=h8;dsimp only at c4 h9 i0 i1 a0 e6 e7 c5 E f y J u a1 e8 c6 j;have e9:=c5.yZ a0;have i2:=e9.few;have i3:=e9.keys.1;have h4:=vO (nO D a) p r;have h5:=wM (nO D a) p r;have Z:=hkey.sS c hkL;have f0:=hr.kl c htb;have f1:=Yw (nO D a) p r;have F:=Below.refl b9.heap.size b9;refine ng<|mR<|mO (nk 1)<|mO (mZ f)<|mO (rq rfl rfl)<|mQ<|oP rfl (λi4=>?_)<|λi4=>?_
 ·
  refine nL<|ny<|oU<|mR<|mO (oI 3 f)<|mP ?_
  have c7:∃ g,D=g+1:=⟨D - 1,by have:(nO D a).lv=D:=rfl;omega⟩;obtain⟨g,rfl⟩:=c7;have c7:=zK a0 hkk e6 e7;obtain⟨A,x,B,e,n3,f2,i5,i6,_,_,_⟩:=c7;have f3:=a0.2.2.2.2 A x B e;have a8:=c5.kid (x:=x) kg;have n4:=Ex a0 hkk;have n5:=WI a.ks key;have n6:(nO (g+1) a).cs.length=a.ks.length:=aQ _;have i7:isK a.ks key=false->(pz a.ks key:Int) - 1=(qE a.ks key:Int):=λo=>by unfold qE;rw[o,if_neg eF];omega
  have i8:isK a.ks key=true->(pz a.ks key:Int)=(qE a.ks key:Int):=λo=>by unfold qE;rw[o,if_pos rfl]
  have i9:∀ w',qj w' bl (oz (nO (g+1) a) p r) (nO (g+1) a)->nC w' pk key.length 1 (bv key)->CQ 44 [.agg (oz (nO (g+1) a) p r).toArray, .slice pk key.length ck] w' (λv w2=>v= .tuple #[.int .i64 (pz a.ks key:Int), .bool (isK a.ks key)]/\Below w'.heap.size w' w2):=λw' o I=>by
    have U:=SS (x:=nO (g+1) a) (ck:=ck) w' o eu i3 I;have j0:pz (nO (g+1) a).cs key=pz a.ks key:=WX _ _;have j1:isK (nO (g+1) a).cs key=isK a.ks key:=Qr _ _;rw[j0,j1]at U;exact U
  have j2:=λw' L' (o:Two (GZ q N (nG H) V k) Y lo L' w') (I:row w' tb [.pointer (some ⟨q,0,none⟩), .pointer (some ⟨hb,0,none⟩)] 50) (U:qj w' bl (oz (nO (g+1) a) p r) (nO (g+1) a))=>WQ tb hb o I U (Oq f2) (x2:=nO g x.2) a8.page.1 rfl a8.page.2 (a8.yZ f3) rfl
  have c8:=f1 (qE a.ks key);refine nD (i9 b9 E Z) ?_;rintro _ j3 ⟨rfl,P⟩;replace j:=j.new P;replace c:=c.new P;replace f:=f.new P;replace E:=E.new P;replace Z:=Z.new P;replace y:=y.new P;replace J:=J.new P;replace F:=F.acc P;refine mP<|mO (nJ rfl rfl)<|mO (nJ rfl rfl)<|mV<|mV<|mQ<|xO (λ_:Unit=>[(7, .int .i64 (qE a.ks key:Nat)),(6,v),(5, .pointer (some ⟨C,0,none⟩)),(0, .pointer (some ⟨tb,0,none⟩)),(1, .slice pk key.length ck)]) (λ_ w'=>j3=w') ?_ ?_
  ·
   refine mR<|mP<|mO (sD rfl)<|mQ<|MU rfl (λc9=>?_)<|λc9=>?_
   ·
    refine nM<|mP<|mO (vE rfl rfl (Coup.nN eu))<|mV<|oH<|oO ⟨(),⟨congrArg (Value.int .i64) (i7 c9),rfl,rfl,rfl,rfl,rfl⟩,rfl⟩
   ·
    refine nL<|oO ⟨(),⟨congrArg (Value.int .i64) (i8 c9),rfl,rfl,rfl,rfl,rfl⟩,rfl⟩
  ·
   rintro _ n7 n8 rfl;refine mR<|mP<|mO (oI 3 f)<|mP<|mO (AL (.agg (oz (nO (g+1) a) p r).toArray) (.int .i64 (qE a.ks key:Int)) (zg (nO (g+1) a) p r (qE a.ks key)) rfl rfl dA)<|nz<|uE (e:=97) (.agg (zg (nO (g+1) a) p r (qE a.ks key)).toArray) (zg (nO (g+1) a) p r (qE a.ks key)) ([Value.int .i64 0,Value.int .i64 0,Value.slice none 0 0,Value.int .i64 0]) 4 dA dA rfl rfl iw ⟨iT,iT⟩<|λj4 n9 d0 f4 Q=>?_
   have o0:=ag F.size d0;have o1:C<j4:=ae f.lt d0;replace j:=j.nA Q d0 f4.lt;replace c:=c.new Q;replace f:=f.new Q;replace E:=E.new Q;replace Z:=Z.new Q;replace y:=y.new Q;replace J:=J.new Q;replace F:=F.acc Q;have j5:=f4.ul (m:=1) (sz:=4) rfl eu;have o2:=y.lt;have a2:=j.weak (L2:=Lc) (λb hb=>aj _ hb);have a9:=a2.lt;have d1:=E;have d2:=J;have o3:=i2;have j6:ps.length<=256:=by have:=ht.lv;omega
   have j7:=F.size;refine nz<|uf (e:=97) (sz:=4) (bytes:=48) (z:=.agg ([Value.int .i64 0,Value.int .i64 0,Value.slice none 0 0,Value.int .i64 0]).toArray) dA rfl dA rfl iT rfl y rfl j5 c8 jo eu (λj8=>eu)<|λo4 a3 G d3 f5=>?_
   replace c:=c.own y d3 eu;replace f:=f.own y d3 eu;have K:=Kp.rX d3;have j9:=K.size;obtain⟨M,O,rfl⟩:=G.form;have a4:=a2.more K (N:=(Value.slice M (ps.length+1) O).ownBlock.toList) (λb hb=>.inr (a1 b hb)) (λb hb=>(f5 b (ah.1 hb)).imp (λe=>a1 b (ah.2 e)) id) (λb hb=>(G.lt b (ah.1 hb)).2);have b0:∀ b∈(Value.slice M (ps.length+1) O).ownBlock.toList,b∈(Value.slice M (ps.length+1) O).ownBlock.toList++Lc:=λb hb=>aF _ hb
   have f6:∀ b∈bl,b∉(Value.slice M (ps.length+1) O).ownBlock.toList:=λb hb i=>(f5 b (ah.1 i)).elim (λe=>(u b hb).2.2 (ah.2 e)) λk0=>by
     have:=a9 b (u b hb).1;omega
   have d4:∀ b∈(Value.slice M (ps.length+1) O).ownBlock.toList,b<(a3).heap.size:=λb hb=>(G.lt b (ah.1 hb)).2
   have k7:∀ b∈(Value.slice M (ps.length+1) O).ownBlock.toList,B0<=b:=λb hb=>(G.lt b (ah.1 hb)).1
   obtain⟨O2,b1⟩:=aa ((Value.slice M (ps.length+1) O).ownBlock.toList);obtain⟨L2,f7⟩:=aa (O2++Lc);rw[b1]at a4 b0 f6 d4 k7;rw[f7]at a4 b0;have k8:∀ b,(Value.slice M (ps.length+1) O).ownBlock=some b->b∈L2:=λb e=>b0 b (by rw[<-b1];exact ah.2 e)
   have b2:∀ b∈Lc,b∈L2:=λb hb=>by rw[<-f7];exact aB _ hb
   have f8:=b2 _ e8;have f9:∀ b∈L,b∈L2:=λb hb=>b2 b (c6 b hb)
   have b3:=d1.nu K λb hb i=>(u b hb).2.2 i
   have d5:wV a3 bl (vs++zg (nO (g+1) a) p r (qE a.ks key)) (ps++[(nO (g+1) a,qE a.ks key)]):=(d2.nu K λb hb i=>(u b hb).2.2 i).snoc b3;have k9:∀ b∈bl,b<(a3).heap.size:=λb hb=>by have:=a9 b (u b hb).1;omega
   refine mV<|mQ<|nM<|mP<|mO (oI 3 f)<|mP ?_
   have f0:=hr.kl c htb;have l0:=f.lt;have l1:∀ R S,(oz (nO g x.2) R S).length=3:=λR S=>wM (nO g x.2) R S
   obtain⟨W8,l2⟩:=aa (a3);refine nD (j2 a3 _ a4 f0 b3) ?_;rintro _ o5 ⟨o6,d6,rfl,g0,d7,d8,a5⟩;have o7:=a5.size;replace c:=c.ll a5 f9;replace f:=f.kl a5 (.inr f8);replace G:=Coup.nY.nu G a5.kp (λb i e=>pG (.inr (k8 b e)) i);have l3:=d5.ll a5 (λb hb=>.inr (b2 b (u b hb).1));rw[l2]at d7 l0 d4 k9;have l4:=g0;obtain⟨R,S,_,b6,_,_,_,_⟩:=l4;subst b6;have o8:=vO (nO g x.2) R S;have o9:=l1 R S;have p0:=c.size;have p1:=G.lt;refine nH<|nT 3 (oz (nO g x.2) R S) f<|λp2 f b4=>?_
   replace d8:=d8.only b4 eG;replace c:=c.oq b4;replace G:=G.only b4 eu;refine oH<|pW ?_
   have d9:=Kp.rC b4;have p3:=d9.size;have g1:∀ b∈d6,b∉[C]:=λb hb i=>by
     have o:=d7 b hb;have I:b=C:=by simpa using i
     omega
   have l5:∀ b∈bl,b∉[C]:=λb hb i=>(u b hb).2.1 (by simpa using i)
   refine oO ⟨⟨g,x.2,ps++[(nO (g+1) a,qE a.ks key)], .slice M (ps.length+1) O,vs++zg (nO (g+1) a) p r (qE a.ks key),d6++bl,R,S,d6++L2⟩,gY g,⟨rfl,rfl,rfl,rfl,rfl⟩,⟨?_,?_,⟨_,_,f3,i5,i6⟩,a8,(g0.nu d9 g1).mono λb hb=>aF _ hb,f,?_,(l3.nu d9 l5).mono λb hb=>aB _ hb,λb hb=>?_,λb hb=>?_,aB _ f8,λb hb=>aB _ (f9 b hb)⟩,d8,c,eu⟩
   · dsimp only
     rw[c4,NK f2,aG];rfl
   · dsimp only
     rw[aA,dM];omega
   · dsimp only
     rw[aA];exact G
   · dsimp only at hb |-
     rw[b1];rcases ay.1 hb with o|o
     · exact⟨aF _ o,λe=>g1 b o kw,λi=>by have I:=d7 b o;have U:=d4 b i;omega⟩
     · exact⟨aB _ (b2 b (u b o).1),(u b o).2.1,f6 b o⟩
   · dsimp only at hb |-
     rw[b1]at hb;exact aB _<|b0 b hb
 ·
  obtain rfl:D=0:=by have:(nO D a).lv=D:=rfl;omega
  have c8:=f1 0;refine qP<|qL<|rf<|qX<|ny<|mR<|mP<|mO (oI 3 f)<|mO (AL (.agg (oz (nO 0 a) p r).toArray) (.int .i64 0) (zg (nO 0 a) p r 0) rfl rfl dA)<|nz<|uE (e:=97) (.agg (zg (nO 0 a) p r 0).toArray) (zg (nO 0 a) p r 0) ([Value.int .i64 0,Value.int .i64 0,Value.slice none 0 0,Value.int .i64 0]) 4 dA dA rfl rfl iw ⟨iT,iT⟩<|λl6 p4 e0 g2 T=>?_
  have p5:=ag F.size e0;have p6:C<l6:=ae f.lt e0;replace j:=j.nA T e0 g2.lt;replace c:=c.new T;replace f:=f.new T;replace E:=E.new T;replace Z:=Z.new T;replace y:=y.new T;replace J:=J.new T;replace F:=F.acc T;have l7:=g2.ul (m:=1) (sz:=4) rfl eu;have a2:=j.weak (L2:=Lc) (λb hb=>aj _ hb);have a9:=a2.lt;have d1:=E;have d2:=J;have j6:ps.length<=256:=by have:=ht.lv;omega
  have j7:=F.size;refine nz<|uf (e:=97) (sz:=4) (bytes:=48) (z:=.agg ([Value.int .i64 0,Value.int .i64 0,Value.slice none 0 0,Value.int .i64 0]).toArray) dA rfl dA rfl iT rfl y rfl l7 c8 jo eu (λj8=>eu)<|λp7 l8 e1 g3 g4=>?_
  replace c:=c.own y g3 eu;refine lQ ?_;have K:=Kp.rX g3;have j9:=K.size;obtain⟨l9,m0,rfl⟩:=e1.form;have a4:=a2.more K (N:=(Value.slice l9 (ps.length+1) m0).ownBlock.toList) (λb hb=>.inr (a1 b hb)) (λb hb=>(g4 b (ah.1 hb)).imp (λe=>a1 b (ah.2 e)) id) (λb hb=>(e1.lt b (ah.1 hb)).2);have b3:=d1.nu K λb hb i=>(u b hb).2.2 i
  have d5:wV l8 bl (vs++zg (nO 0 a) p r 0) (ps++[(nO 0 a,0)]):=(d2.nu K λb hb i=>(u b hb).2.2 i).snoc b3;obtain rfl:ps.length=l:=by omega
  refine⟨_,bl,_,nY.mono e1 h7,by rw[c4];exact d5,λb hb=>⟨aB _ (u b hb).1,λi=>(g4 b (ah.1 i)).elim (λe=>(u b hb).2.2 (ah.2 e)) λk0=>by
      have:=a9 b (u b hb).1;omega⟩,λb hb=>aF _ hb,λb hb=>aB _ (c6 b hb),a4,c⟩
end
end Go.Proofs.YtpaniebomegnbaaGreat
namespace Coup
open Go Go.RowKit
section
variable {P:Program}{ρ:Env}{w:World}{d:Option Nat}{ty:TypeId}{pos:String}{af:Array Edge}{gd:Option (Nat × Bool)}{K:Value->World->Prop}
theorem zui {dT sT e sz:Nat} {x y:Operand} {dp sp:Option Addr} {dLen dCap sLen sCap:Nat} (hu:P.underlying dT=some (.slice e)) (hsz:vM P e sz=true) (hd:ev ρ x= .slice dp dLen dCap) (hs:ev ρ y= .slice sp sLen sCap)
  (g off:Nat) {l:List Value} {t:Nat} (hr:row w g l t) (cs:List Value) (hn:cs.length=Nat.min sLen dLen*sz)
  (hpos:dp=some ⟨g,off,none⟩/\∃ ad,sp=some ad/\∀ j v,cs[j]?=some v->w.cell? (ad.add j)=some v) (hfit:off+cs.length<=l.length) (h1:∀ v∈cs,v.oneCell'=true)
  (h:∀ w' n,row w' g (splice l off cs) t->Only g w w'->K (goInt n) w'):Mk P ρ w ⟨d, .call ⟨.builtin .copy,#[x,y],#[dT,sT]⟩,ty,pos,af,gd⟩ K:=by
 obtain⟨rfl,ad,rfl,a⟩:=hpos;obtain⟨k,c,e⟩:=Fy hsz;have f:=run_loadCells_list (P:=P) w ad cs a;have i:=run_storeCells_at P g off t cs 0 l.toArray w hr kR h1;have j:(Builtin.copy_ #[dT,sT] ty #[.slice (some ⟨g,off,none⟩) dLen dCap, .slice (some ad) sLen sCap]).run P w= .ok (goInt (Nat.min sLen dLen)) (w.setRow g (l.take off++cs++l.drop (off+cs.length)).toArray):=by
  simp[Builtin.copy_,run_underlying hu,Builtin.lenOf,Builtin.firstCells,Go.sizeOf,typeInfo,c,e,<-hn,f,i]
 refine⟨_,_,?_,h _ (Nat.min sLen dLen) kM (Only.setRow _)⟩;simp[execOp,resolve,invoke,builtin,hd,hs,j,Result.andThen]
end
section
variable {P:Program}{ρ:Env}{w:World}{d:Option Nat}{ty:TypeId}{pos:String}{af:Array Edge}{gd:Option (Nat × Bool)}{K:Value->World->Prop}
theorem Rm {dT sT e sz:Nat} {x y:Operand} {sp:Option Addr} {dLen dCap sLen sCap base g o m c j:Nat} {xs:List Value} (hu:P.underlying dT=some (.slice e)) (hsz:vM P e sz=true) (hd:ev ρ x= .slice (some ⟨g,o+j,none⟩) dLen dCap) (hs:ev ρ y= .slice sp sLen sCap)
  (cs:List Value) (hn:cs.length=Nat.min sLen dLen*sz) (hsrc:∃ ad,sp=some ad/\∀ i v,cs[i]?=some v->w.cell? (ad.add i)=some v) (hown:qI w base e sz g o m c xs) (hfit:j+cs.length<=xs.length) (h1:∀ v∈cs,v.oneCell'=true)
  (h:∀ w' n,qI w' base e sz g o m c (splice xs j cs)->Only g w w'->K (goInt n) w'):Mk P ρ w ⟨d, .call ⟨.builtin .copy,#[x,y],#[dT,sT]⟩,ty,pos,af,gd⟩ K:=by
 obtain⟨i,hr,a,c⟩:=Tv cs j hown hfit;exact zui hu hsz hd hs g (o+j) hr cs hn ⟨rfl,hsrc⟩ a h1 λw' n e f=>h w' n (c w' e) f
theorem Ko{base e sz g o n c k:Nat}{xs:List Value}(h:qI w base e sz g o n c xs)(hk:n+k<=c):∃ js,js.length=k*sz/\qI w base e sz g o (n+k) c (xs++js):=by
 have i:=h.1;rcases h.2 with⟨j,_⟩|⟨s,t,u,a,l,hb,m,v,p,q,r⟩
 .cases j
 .cases l
  have w:(n+k)*sz<=c*sz:=cO _ hk;have f:((a.toList.drop o).take ((n+k)*sz)).length=(n+k)*sz:=by rw[aH,aL,fH];omega
  have e:xs++((a.toList.drop o).drop (n*sz)).take (k*sz)=(a.toList.drop o).take ((n+k)*sz):=by
   rw[<-r,cB,List.take_add]
  refine⟨((a.toList.drop o).drop (n*sz)).take (k*sz),?_,?_, .inr ⟨g,o,c,a,rfl,hb,m,hk,p,q,?_⟩⟩
  .have:=congrArg List.length e
   rw[aA,f,i,cB]at this;omega
  .rw[e,f]
  .rw[e]
theorem zim {t ti ty e sLen sCap n:Nat} {i:TypeInfo} {z:Value} {ik:IntKind} (ht:P.underlying t=some (.slice e)) (hti:P.underlying ti=some (.int ik)) (hi:P.info? e=some i) (hz:i.zero=some z) (hzs:z.cells.size=i.size) (hsz:0<i.size)
  (b:Addr) (olds:List Value) (hlo:olds.length=sLen*i.size) (holds:∀ j v,olds[j]?=some v->w.cell? (b.add j)=some v) (hn0:0<n)
  (hg:sCap<sLen+n) (h63:sLen+n<=maxLen) (hbytes:(sLen+n)*i.bytes<=140737488355328):
  (Builtin.append_ #[t,ti] ty #[.slice (some b) sLen sCap, .int .i64 (n:Int)]).run P w=
   .ok (.slice (some ⟨w.heap.size,0,none⟩) (sLen+n) (grownCap w (sLen+n) sCap e))
    (w.drew.alloc (.cells (olds.toArray++Builtin.zeroCells z.cells n++Builtin.zeroCells z.cells (grownCap w (sLen+n) sCap e - (sLen+n))) e)):=by
 have l:maxLen=9223372036854775807:=by decide
 have a:¬(sLen+n<=sCap):=by omega
 have c:¬(9223372036854775807<((sLen:Int)+(n:Int))):=by omega
 have m:=growslice_fits hg hbytes;have e:¬(281474976710656<Builtin.nextslicecap (sLen+n) sCap*i.bytes):=by omega
 have f:IntKind.i64.wrap (n:Int)=(n:Int):=nN eu;have g:¬((n:Int)<0):=by omega
 have o:n*i.bytes<=140737488355328:=ag (cO _ eu) hbytes;have h:¬(281474976710656<(n:Int)*(i.bytes:Int)):=by
  have:((n*i.bytes:Nat):Int)=(n:Int)*(i.bytes:Int):=by simp
  omega
 have j:¬(n*i.size=0):=bA (fo hn0 hsz);have p:n≠0:=by omega
 have q:i.size≠0:=by omega
 have k:=run_firstCells_some (P:=P) w.drew i.size sLen b sLen sCap olds hlo (by simpa using holds);simp[Builtin.append_,run_underlying ht,run_underlying hti,Go.sizeOf,typeInfo,zeroValue,hi,hz,Go.asInt,Go.asIntOf,Builtin.lenOf,a,c,e,f,g,h,Question.forced,k,newRow,grownCap,Result.andThen];rw[if_neg j]
 rfl
theorem zqm {t ti e sz bytes:Nat} {ik:IntKind} {s x:Operand} {m n cap g0 o0 base r:Nat} {xs:List Value} {z:Value} (ht:P.underlying t=some (.slice e)) (hti:P.underlying ti=some (.int ik))
  (hi:(P.info? e).map (λi=>(i.zero,i.size,i.bytes))=some (some z,sz,bytes)) (hzs:z.cells.size=sz) (hsz:0<sz) (hs:ev ρ s= .slice (some ⟨g0,o0,none⟩) m cap) (hold:nC w (some ⟨g0,o0,none⟩) m sz xs)
  (hx:ev ρ x= .int .i64 (n:Int)) (hn:0<n) (hcap:cap<m+n) (h63:m+n<=maxLen) (hbytes:(m+n)*bytes<=140737488355328) (hb:base<=w.heap.size) (hr':m+n=r)
  (h:∀ g c' zs w',zs.length=n*sz->qI w' base e sz g 0 r c' (xs++zs)->w.heap.size<=g->Below w.heap.size w w'->K (.slice (some ⟨g,0,none⟩) r c') w'):Mk P ρ w ⟨d, .call ⟨.builtin .append,#[s,x],#[t,ti]⟩,ty,pos,af,gd⟩ K:=by
 obtain⟨i,g,f⟩:=dm.1 hi;simp only[fP]at f;obtain⟨l,o,p⟩:=f;subst o;subst p;subst hr';have a:=hold.len;have hr:=zim (P:=P) (w:=w) (ty:=ty) ht hti g l hzs hsz ⟨g0,o0,none⟩ xs a (λj u q=>by rw[Addr.add_lit];exact hold.cell j q) hn hcap h63 hbytes;have r:=grownCap_ge w (m+n) cap e;have s:grownCap w (m+n) cap e<=maxLen:=grownCap_le_maxLen w (m+n) cap e h63;have c:(Builtin.zeroCells z.cells n).toList.length=n*i.size:=by rw[fH,size_zeroCells,hzs]
 refine⟨_,_,(by simp[execOp,resolve,invoke,builtin,hs,hx,hr,Result.andThen];exact rfl),h w.heap.size _ (Builtin.zeroCells z.cells n).toList _ c ⟨?_, .inr ⟨w.heap.size,0,_,_,rfl,hb,heap_alloc_new w.drew _,r,s,?_,?_⟩⟩ (ax _) ⟨rfl,rfl,rfl,ig,λk t=>heap_alloc_old w.drew _ t⟩⟩
 .rw[aA,a,c,cB]
 .simp only[Array.size_append,eT,size_zeroCells,hzs,a]
  rw[bg,<-cB,<-cB];exact cO _ eu
 .simp only[Array.toList_append,cK]
  rw[<-aG];refine bJ ?_;rw[aA,c,a,cB]
theorem zsy{t t':Nat}{x:Operand}(ht:Nn P t=true)(hx:ev ρ x= .nilIface):(execOp (ev ρ) ⟨d, .binOp .eql t x (.const .nilIface) t',ty,pos,af,gd⟩).run P w= .ok (.value (.bool true)) w:=by
 unfold Nn at ht
 split at ht
 .rename_i h a
  have c:(eqGuard .eql t x (.const .nilIface) (.nilIface) .nilIface).run P w= .ok () w:=by
   unfold eqGuard;simp
  have e:∀ n,(Op.equalIn (n+1) t (.nilIface) .nilIface).run P w= .ok true w:=λn=>by
   simp only[Op.equalIn,Sem.run_bind,run_underlying a,Result.andThen_ok]
   rfl
  have f:(binOp .eql t (.nilIface) .nilIface).run P w= .ok (.bool true) w:=by
   simp only[binOp];simp[Op.equal,Op.maxDepth,e 9999]
  have g:ev ρ (.const .nilIface)= .nilIface:=rfl;simp only[execOp,hx,g,Sem.run_bind,c,f,Result.andThen_ok]
  rfl
 .cases ht
theorem zsz{t t' k:Nat}{v:Value}{x:Operand}(ht:Nn P t=true)(hx:ev ρ x= .iface k v):(execOp (ev ρ) ⟨d, .binOp .eql t x (.const .nilIface) t',ty,pos,af,gd⟩).run P w= .ok (.value (.bool false)) w:=by
 unfold Nn at ht
 split at ht
 .rename_i h a
  have c:(eqGuard .eql t x (.const .nilIface) (.iface k v) .nilIface).run P w= .ok () w:=by
   unfold eqGuard;simp
  have e:∀ n,(Op.equalIn (n+1) t (.iface k v) .nilIface).run P w= .ok false w:=λn=>by
   simp only[Op.equalIn,Sem.run_bind,run_underlying a,Result.andThen_ok]
   rfl
  have f:(binOp .eql t (.iface k v) .nilIface).run P w= .ok (.bool false) w:=by
   simp only[binOp];simp[Op.equal,Op.maxDepth,e 9999]
  have g:ev ρ (.const .nilIface)= .nilIface:=rfl;simp only[execOp,hx,g,Sem.run_bind,c,f,Result.andThen_ok]
  rfl
 .cases ht
end
end Coup
namespace Go.Proofs.YtpaniebomegnbaaGreat
open Go Go.RowKit Coup
theorem ZX{p:Option Addr}{n c:Nat}{vs:List Value}(w:World)(h:nC w p n 4 vs)(h1:∀ u∈vs,u.oneCell'=true)(hn:n<=1000):
  CQ 47 [.slice p n c] w (λv w'=>nY w' w.heap.size 90 4 v n vs/\Below w.heap.size w w'):=by
 have c:=Below.refl w.heap.size w;have r:maxLen=9223372036854775807:=by decide
 have s:=h.max;cases p with
 |none=>
  obtain rfl:n=0:=by
   rcases gy n with f|f
   .exact f
   .obtain⟨g,o,e,_⟩:=h.some (fo f iT);cases e
  obtain rfl:=bH (by simpa using h.len);refine nP (fn:=Tryz.f47) (rs:=[.tmp 2]) (n:=8) Tryz.func47 rfl rfl Tryz.ntmps47 dA rfl<|mR<|mV<|mQ<|ng<|mR<|mP<|mO (KL (e:=90) dA rfl rfl)<|mQ<|uC rfl (rfl)<|mR<|mV<|mQ<|nQ<|qb<|nR [_] ⟨rfl,trivial⟩ ?_;exact⟨ym _ _ _ _,Below.refl _ _⟩
 |some a=>
  refine nP (fn:=Tryz.f47) (rs:=[.tmp 2]) (n:=8) Tryz.func47 rfl rfl Tryz.ntmps47 dA rfl<|mR<|mV<|mQ<|ng<|mR<|mP<|mO (KL (e:=90) dA rfl rfl)<|mQ<|tC rfl (rfl)<|nL<|ny<|mR<|nz<|Tk (e:=90) (sz:=4) dA dA<|λt u v l i=>?_
  replace h:=h.new i;replace c:=c.acc i;refine mP ?_;have j:=l.owns (base:=w.heap.size) (m:=0) (sz:=4) eu rfl eu;have y:=c.size;refine nz<|uf (e:=90) (sz:=4) (bytes:=48) (z:=.agg ([Value.slice none 0 0,Value.int .i64 0,Value.int .i64 0,Value.int .i64 0]).toArray) dA rfl dA rfl iT rfl j rfl h h1 jo eu (λA=>eu)<|λB C k q D=>?_
  replace c:=c.own j q eu;refine lQ ?_;rw[aV,bg]at k;exact⟨k,c⟩
theorem zuj{p:Option Addr}{n c:Nat}{vs:List Value}(w:World)(h:nC w p n 1 vs)(h1:∀ u∈vs,u.oneCell'=true)(hn:n<=1000):
  CQ 41 [.slice p n c] w (λv w'=>nY w' w.heap.size 5 1 v n vs/\Below w.heap.size w w'):=by
 have c:=Below.refl w.heap.size w;have r:maxLen=9223372036854775807:=by decide
 have s:=h.max;cases p with
 |none=>
  obtain rfl:n=0:=by
   rcases gy n with f|f
   .exact f
   .obtain⟨g,o,e,_⟩:=h.some (fo f iT);cases e
  obtain rfl:=bH (by simpa using h.len);refine nP (fn:=Tryz.f41) (rs:=[.tmp 2]) (n:=8) Tryz.func41 rfl rfl Tryz.ntmps41 dA rfl<|mR<|mV<|mQ<|ng<|mR<|mP<|mO (KL (e:=5) dA rfl rfl)<|mQ<|uC rfl (rfl)<|mR<|mV<|mQ<|nQ<|qb<|nR [_] ⟨rfl,trivial⟩ ?_;exact⟨ym _ _ _ _,Below.refl _ _⟩
 |some a=>
  refine nP (fn:=Tryz.f41) (rs:=[.tmp 2]) (n:=8) Tryz.func41 rfl rfl Tryz.ntmps41 dA rfl<|mR<|mV<|mQ<|ng<|mR<|mP<|mO (KL (e:=5) dA rfl rfl)<|mQ<|tC rfl (rfl)<|nL<|ny<|mR<|nz<|Tk (e:=5) (sz:=1) dA dA<|λt u v l i=>?_
  replace h:=h.new i;replace c:=c.acc i;refine mP ?_;have j:=l.owns (base:=w.heap.size) (m:=0) (sz:=1) eu rfl eu;have y:=c.size;refine nz<|uf (e:=5) (sz:=1) (bytes:=1) (z:=Value.int .u8 0) dA rfl dA rfl iT rfl j rfl h h1 jo eu (λA=>eu)<|λB C k q D=>?_
  replace c:=c.own j q eu;refine lQ ?_;rw[aV,bg]at k;exact⟨k,c⟩
theorem zuk:∀ v∈(Value.agg #[.slice none 0 0, .int .i64 0, .int .i64 0, .int .i64 0]).cells.toList,v.oneCell'=true:=by
 intro v a;simp only[Value.cells,ak,bu,or_false]at a;rcases a with rfl|rfl|rfl|rfl<;>rfl
theorem NQ(w:World):(zeroValue 90).run Tryz.prog w= .ok (.agg #[.slice none 0 0, .int .i64 0, .int .i64 0, .int .i64 0]) w:=by kernel_rfl
theorem zul{g o n c base i:Nat}{vs:List Value}(w:World)(h:qI w base 90 4 g o n c vs)(h1:∀ u∈vs,u.oneCell'=true)(hi:i<n)(hn:n<=1000):
  CQ 46 [.slice (some ⟨g,o,none⟩) n c, .int .i64 (i:Int), .int .i64 ((i+1:Nat):Int)] w (λv w'=>v= .slice (some ⟨g,o,none⟩) (n - 1) c/\qI w' base 90 4 g o (n - 1) c (vs.take (i*4)++vs.drop ((i+1)*4))/\sI [g] w w'):=by
 have a:=sI.refl [g] w;have F:maxLen=9223372036854775807:=by decide
 have G:=h.sl.max;have H:=h.lt;have I:=LX h;have f:=h.len;obtain⟨pk,j⟩:∃ pk,(if c=i+1 then(some ⟨g,o,none⟩:Option Addr)else(some ⟨g,o,none⟩:Option Addr).map (·.add ((i+1)*4)))=pk:=⟨_,rfl⟩;obtain⟨k,rfl⟩:∃ k,pk=some ⟨g,k,none⟩:=by
  rw[<-j]
  split
  .exact⟨_,rfl⟩
  .exact⟨o+(i+1)*4,by rw[dZ,Addr.add_lit]⟩
 have r:∀ w',qI w' base 90 4 g o n c vs->nC w' (some ⟨g,k,none⟩) (n - i - 1) 4 (vs.drop ((i+1)*4)):=λw' s=>by
  by_cases t:i+1=n
  .have e:vs.drop ((i+1)*4)=[]:=dC (by rw[f,t];exact ax _)
   rw[e,show n - i - 1=0 by omega];exact nC.nil _ _ _
  .have l:=s.sl.sub (i+1) (n - i - 1) eu
   rw[aP (by rw[aL,f];omega)]at l;rw[if_neg eu,dZ,Addr.add_lit]at j;cases j;exact l
 have v:∀ u∈vs.drop ((i+1)*4),u.oneCell'=true:=λu y=>h1 u (ek y)
 have z:(vs.drop ((i+1)*4)).length=(n - i - 1)*4:=by rw[aL,f];omega
 refine nP (fn:=Tryz.f46) (rs:=[.tmp 6]) (n:=33) Tryz.func46 rfl rfl Tryz.ntmps46 dA rfl<|mR<|nV<|mP<|mP<|mP<|mP<|mO (oQ (e:=90) (sz:=4) dA rfl rfl)<|mO (wL (e:=90) (sz:=4) i (i+1) n (1) dA rfl ⟨_,_,rfl,eu⟩ ⟨_,_,rfl,eu⟩ ⟨_,_,rfl,eu⟩ ig eu eu eu eu eu)<|mQ<|ng<|mR<|mP<|mP<|mO (qy rfl rfl)<|mQ<|pJ rfl (eu)<|nL<|ny<|mR<|mP<|mO (oQ (e:=90) (sz:=4) dA rfl rfl)<|mV<|mQ<|ng<|qz [g] dA ?_
 intro J m A;replace a:=a.new m;replace h:=h.new m;refine mU 0 (nK)<|mU 1 (nK)<|mU 2 (wL (e:=90) (sz:=4) (0) (i) (c) (i) dA rfl rfl ⟨_,_,rfl,eu⟩ rfl ig eu eu eu eu eu)<|mU 3 (nK)<|mU 4 (nK)<|mU 5 (Nh (e:=90) (sz:=4) (i+1) n c (n - i - 1) (c - (i+1)) j dA rfl ⟨_,_,rfl,eu⟩ rfl rfl ig eu eu eu eu eu)<|nS 6 dA<|qJ rfl rfl<|zkt (e:=90) (sz:=4) dA rfl dA rfl h rfl (r _ h) v eu<|λK h p=>?_
 have B:=A.aq p;refine⟨B,?_⟩;replace a:=a.only p iB;refine mU 7 (rA)<|oL dA<|ny<|mR<|mP<|mP<|mO (oQ (e:=90) (sz:=4) dA rfl rfl)<|mP<|mO (wL (e:=90) (sz:=4) (n - 1) (n) (c) (1) dA rfl ⟨_,_,rfl,eu⟩ ⟨_,_,rfl,eu⟩ rfl ig eu eu eu eu eu)<|nz<|Uw (e0:=90) ((n - 1)) dA NQ dA zuk h rfl eu<|λL M N h C=>?_
 replace a:=a.only C iB;refine mD ?_;have q:=Sq h (n:=n - 1) eu;have D:(splice vs (i*4) (vs.drop ((i+1)*4))).take ((n - 1)*4)=vs.take (i*4)++vs.drop ((i+1)*4):=by
  unfold splice;rw[<-aG,bJ (by rw[aA,aH,z,f];omega)]
 have E:(splice vs (i*4) (vs.drop ((i+1)*4))).length=n*4:=by
  simp only[splice,aA,aH,aL,f];omega
 rw[UL _ (by rw[E];omega),D]at q;exact⟨by show Value.slice (some ⟨g,o+0*4,none⟩) (i+(n - i - 1)) (c - 0)=_;rw[bZ,dD,fV,show i+(n - i - 1)=n - 1 by omega],q,a⟩
theorem RX{A Z C:List Value}{j:Nat}(hj:A.length=j):splice (A++Z) j C=A++(C++Z.drop C.length):=by
 unfold splice;rw[bJ hj,<-hj,<-dP,dF]
theorem zum{vs zs cs:List Value}{i n:Nat}(hl:vs.length=n*4)(hi:i<n)(hz:zs.length=(n+1 - i)*4)(hc:cs.length=4):splice (splice (vs.take (i*4)++zs) (i*4) cs) ((i+1)*4) (vs.drop (i*4))=vs.take (i*4)++cs++vs.drop (i*4):=by
 have a:(vs.take (i*4)).length=i*4:=by rw[aH,hl];omega
 have c:(vs.drop (i*4)).length=(n - i)*4:=by rw[aL,hl];omega
 rw[RX a,<-aG,RX (by rw[aA,a,hc];omega),dC (l:=zs.drop cs.length) (by rw[aL,hz,c,hc];omega),aU]
theorem zun{vs js cs:List Value}{i n:Nat}(hl:vs.length=n*4)(hi:i<n)(hz:js.length=1*4)(hc:cs.length=4):splice (splice (vs++js) ((i+1)*4) (vs.drop (i*4))) (i*4) cs=vs.take (i*4)++cs++vs.drop (i*4):=by
 have a:(vs.take (i*4)).length=i*4:=by rw[aH,hl];omega
 have c:(vs.drop (i*4)).length=(n - i)*4:=by rw[aL,hl];omega
 have f:(vs.drop (i*4)++js).length=(n - i)*4+4:=by rw[aA,c,hz]
 have e:vs++js=vs.take (i*4)++(vs.drop (i*4)++js).take 4++(vs.drop (i*4)++js).drop 4:=by
  rw[aG,bM,<-aG,bM]
 have g:((vs.drop (i*4)++js).take 4).length=4:=by rw[aH,f];omega
 rw[e,RX (by rw[aA,a,g];omega),dC (l:=(vs.drop (i*4)++js).drop 4) (by rw[aL,f,c];omega),aU,aG,RX a,hc,fw g,aG]
theorem zsB{p:Option Addr}{n c base gv i tv:Nat}{vs cs:List Value}(w:World)(h:nY w base 90 4 (.slice p n c) n vs)(h1:∀ u∈vs,u.oneCell'=true)(hv:row w gv cs tv)(hc4:cs.length=4)(hc1:∀ u∈cs,u.oneCell'=true)(hgv:∀ o,p≠some ⟨gv,o,none⟩)(hb:base<=w.heap.size)(hi:i<=n)(hn:n<=1000):
  CQ 114 [.slice p n c, .int .i64 (i:Int), .slice (some ⟨gv,0,none⟩) 1 1] w (λv w'=>nY w' base 90 4 v (n+1) (vs.take (i*4)++cs++vs.drop (i*4))/\Kp (Value.slice p n c).ownBlock.toList w w'):=by
 have a3:maxLen=9223372036854775807:=by decide
 have l:=h.1;have a4:=OL h;have a5:=h.sl.max;obtain⟨pk,B⟩:∃ pk,(if c=i then p else p.map (·.add (i*4)))=pk:=⟨_,rfl⟩;have C:=λw' (hr:row w' gv cs tv)=>(show nC w' (some ⟨gv,0,none⟩) 1 4 cs from hr.ul (m:=1) (sz:=4) (by rw[hc4]) eu)
 have a6:=hv.lt
 by_cases O:i=n
 .subst O
  have a7:=Below.refl w.heap.size w;rw[aP eu,dC eu,aU];refine nP (fn:=Tryz.f114) (rs:=[.tmp 6]) (n:=95) Tryz.func114 rfl rfl Tryz.ntmps114 dA rfl<|mR<|nV<|mP<|mP<|mO (Nh (e:=90) (sz:=4) i i c 0 (c - i) B dA rfl ⟨_,_,rfl,eu⟩ rfl rfl ig eu eu eu eu eu)<|pV<|mP<|mO (oQ (e:=90) (sz:=4) dA rfl rfl)<|mV<|mQ<|ng<|mR<|mP<|mO (qy rfl rfl)<|mQ<|pJ rfl (iT)<|nL<|ny<|mR<|mP<|mO (oQ (e:=90) (sz:=4) dA rfl rfl)<|mV<|mQ<|ng<|mR<|mP<|mP<|mO (qy rfl rfl)<|mQ<|sU rfl (rfl)<|mR<|mP<|mP<|nz<|uf (e:=90) (sz:=4) (bytes:=48) (z:=.agg ([Value.slice none 0 0,Value.int .i64 0,Value.int .i64 0,Value.int .i64 0]).toArray) dA rfl dA rfl iT rfl h rfl (C _ hv) hc1 jo eu (λa8=>eu)<|λa9 b0 Q R b1=>?_
  refine mV<|mQ<|nQ<|qb<|nR [_] ⟨rfl,trivial⟩ ?_
  exact⟨Q,Kp.rX R⟩
 .obtain⟨g,o,b2,e,b3,b4,b5⟩:=h.form' eu
  cases e;replace h:qI w base 90 4 g o n c vs:=h;have S:gv≠g:=λe=>hgv o (by rw[e])
  have f:=sI.refl [g] w;have s:(vs.drop (i*4)).length=(n - i)*4:=by rw[aL,l];omega
  have K:∀ u∈vs.drop (i*4),u.oneCell'=true:=λu T=>h1 u (ek T)
  by_cases b6:c<n+1
  .have U:=λw' (t:qI w' base 90 4 g o n c vs)=>(show nC w' (some ⟨g,o,none⟩) i 4 (vs.take (i*4))from(Sq t (n:=i) eu).sl)
   have D:=λw' (t:qI w' base 90 4 g o n c vs)=>(show nC w' (some ⟨g,o+i*4,none⟩) (n - i) 4 (vs.drop (i*4))from by
    have y:=t.sl.sub i (n - i) eu;rw[aP (by rw[s];exact ax _)]at y;exact y)
   refine nP (fn:=Tryz.f114) (rs:=[.tmp 6]) (n:=95) Tryz.func114 rfl rfl Tryz.ntmps114 dA rfl<|mR<|nV<|mP<|mP<|mO (Nh (e:=90) (sz:=4) i n c (n - i) (c - i) B dA rfl ⟨_,_,rfl,eu⟩ rfl rfl ig eu eu eu eu eu)<|pV<|mP<|mO (oQ (e:=90) (sz:=4) dA rfl rfl)<|mV<|mQ<|ng<|mR<|mP<|mO (qy rfl rfl)<|mQ<|pJ rfl (iT)<|nL<|ny<|mR<|mP<|mO (oQ (e:=90) (sz:=4) dA rfl rfl)<|mV<|mQ<|ng<|mR<|mP<|mP<|mO (qy rfl rfl)<|mQ<|pJ rfl (eu)<|nL<|ny<|ng<|mR<|mP<|mP<|mO (om rfl rfl (Coup.nN eu))<|mP<|mO (F_ (e:=90) (sz:=4) dA rfl rfl)<|mO (rq rfl rfl)<|mQ<|sU rfl (eu)<|mR<|mP<|mP<|mO (wL (e:=90) (sz:=4) (0) i c i dA rfl rfl ⟨_,_,rfl,eu⟩ rfl ig eu eu eu eu eu) ?_
   refine mP<|mP<|mO (om rfl rfl (Coup.nN eu))<|mP<|mO (vE rfl rfl (show IntKind.i64.wrap (((n:Int)+1) - (i:Int))=((n+1 - i:Nat):Int) by rw[nN eu];omega))<|nz<|zqm (P:=Tryz.prog) (e:=90) (sz:=4) (bytes:=48) (ik:=.i64) (base:=base) (z:=.agg #[.slice none 0 0, .int .i64 0, .int .i64 0, .int .i64 0]) dA dA dA rfl iT rfl (U _ h) rfl eu eu jo eu hb (show i+(n+1 - i)=n+1 by omega)<|λV L b7 b8 E a b9 F=>?_
   replace f:=f.new F;replace h:=h.new F;replace hv:=hv.new F;refine nV<|mP<|mP ?_
   have c4:=LX a;refine mO (wL (e:=90) (sz:=4) (i) (n+1) (L) (n+1 - i) dA rfl ⟨_,_,rfl,eu⟩ rfl rfl ig eu eu eu eu eu)<|mP<|nz<|Rm (P:=Tryz.prog) (e:=90) (sz:=4) (j:=i*4) dA dA rfl rfl cs (by rw[hc4];show 4=min 1 (n+1 - i)*4;omega) ⟨_,rfl,λk v q=>by rw[Addr.add_lit];exact(C _ hv).cell k q⟩ a (by rw[aA,E,aH,l,hc4];omega) hc1<|λc5 c6 a M=>?_
   replace f:=f.only M iB;replace h:=h.only M eu;refine mQ<|ng<|qz [V] dA ?_
   intro X r G;replace f:=f.new r;replace h:=h.new r;replace a:=a.new r;refine mU 0 (nK)<|mU 1 (nK)<|mU 2 (nK)<|mU 3 (om rfl rfl (Coup.nN eu))<|mU 4 (wL (e:=90) (sz:=4) (i+1) (n+1) (L) (n - i) dA rfl ⟨_,_,rfl,eu⟩ rfl rfl ig eu eu eu eu eu)<|mU 5 (nK)<|mU 6 (nK)<|mU 7 (wL (e:=90) (sz:=4) (i) (n) (c) (n - i) dA rfl ⟨_,_,rfl,eu⟩ rfl rfl ig eu eu eu eu eu)<|nS 8 dA<|qJ rfl rfl<|Rm (P:=Tryz.prog) (e:=90) (sz:=4) (j:=(i+1)*4) dA dA rfl rfl (vs.drop (i*4)) (by rw[s];show _=min (n - i) (n - i)*4;omega) ⟨_,rfl,λk v q=>by rw[Addr.add_lit];exact(D _ h).cell k q⟩ a (by simp only[splice,aA,E,aH,aL,l,hc4];omega) K<|λc7 c8 a N=>?_
   have H:=G.aq N;refine⟨H,?_⟩;replace f:=f.only N iB;refine oL dA<|ny<|mR<|mP<|mV<|mQ<|nQ<|qb<|nR [_] ⟨rfl,trivial⟩<|⟨?_,f.k⟩
   rw[zum l eu E hc4]at a;exact a
  .obtain⟨Y,A,a⟩:=Ko h (k:=1) eu
   have D:=λw' (t:qI w' base 90 4 g o (n+1) c (vs++Y))=>(show nC w' (some ⟨g,o+i*4,none⟩) (n - i) 4 (vs.drop (i*4))from by
    have y:=t.sl.sub i (n - i) eu;rw[eH eu,bJ (by rw[s])]at y;exact y)
   have I:∃ k2,w.shape? g=some (90,k2)/\k2≠0:=by
    obtain⟨c9,Z,d0,_⟩:=Tv cs 0 a (by rw[aA,A,l,hc4];omega);exact⟨_,Z.shape,eu⟩
   obtain⟨k2,I,a0⟩:=I;have a1:=hv;refine nP (fn:=Tryz.f114) (rs:=[.tmp 6]) (n:=95) Tryz.func114 rfl rfl Tryz.ntmps114 dA rfl<|mR<|nV<|mP<|mP<|mO (Nh (e:=90) (sz:=4) i n c (n - i) (c - i) B dA rfl ⟨_,_,rfl,eu⟩ rfl rfl ig eu eu eu eu eu)<|pV<|mP<|mO (oQ (e:=90) (sz:=4) dA rfl rfl)<|mV<|mQ<|ng<|mR<|mP<|mO (qy rfl rfl)<|mQ<|pJ rfl (iT)<|nL<|ny<|mR<|mP<|mO (oQ (e:=90) (sz:=4) dA rfl rfl)<|mV<|mQ<|ng<|mR<|mP<|mP<|mO (qy rfl rfl)<|mQ<|pJ rfl (eu)<|nL<|ny<|ng<|mR<|mP<|mP<|mO (om rfl rfl (Coup.nN eu))<|mP<|mO (F_ (e:=90) (sz:=4) dA rfl rfl)<|mO (rq rfl rfl)<|mQ<|pJ rfl (eu)<|nL<|ny<|mR<|mP<|mP<|mP<|mO (om rfl rfl (Coup.nN eu)) ?_;refine mO (zpE (e:=90) (sz:=4) ((n+1)) dA rfl ⟨_,_,rfl,eu⟩ eu)<|mV<|mQ<|ng<|mR<|mP<|mP<|mP<|mP<|mO (om rfl rfl (Coup.nN eu))<|mO (wL (e:=90) (sz:=4) (i+1) (n+1) (c) (n - i) dA rfl ⟨_,_,rfl,eu⟩ rfl rfl ig eu eu eu eu eu)<|mO (zue (tS:=83) (tR:=4) (e:=90) (size:=4) Tryz.func174 dA dA dA dA dA rfl rfl a1 I a0 S)<|mO (sD rfl)<|mQ<|Td rfl (rfl)<|ng<|qz [g] dA ?_;intro X r G;replace f:=f.new r;replace a:=a.new r;replace hv:=hv.new r;refine mU 0 (nK)<|mU 1 (nK)<|mU 2 (nK)<|mU 3 (om rfl rfl (Coup.nN eu))<|mU 4 (wL (e:=90) (sz:=4) (i+1) (n+1) (c) (n - i) dA rfl ⟨_,_,rfl,eu⟩ rfl rfl ig eu eu eu eu eu)<|mU 5 (nK)<|mU 6 (nK)<|mU 7 (wL (e:=90) (sz:=4) (i) (n+1) (c) (n+1 - i) dA rfl ⟨_,_,rfl,eu⟩ rfl rfl ig eu eu eu eu eu)<|nS 8 dA<|qJ rfl rfl<|Rm (P:=Tryz.prog) (e:=90) (sz:=4) (j:=(i+1)*4) dA dA rfl rfl (vs.drop (i*4)) (by rw[s];show _=min (n+1 - i) (n - i)*4;omega) ⟨_,rfl,λk v q=>by rw[Addr.add_lit];exact(D _ a).cell k q⟩ a (by rw[s,aA,A,l];omega) K<|λd1 d2 a J=>?_
   have H:=G.aq J;refine⟨H,?_⟩;replace f:=f.only J iB;replace hv:=hv.only J eu;refine oL dA<|ny<|mR<|mP<|mP<|mO (wL (e:=90) (sz:=4) (i) (n+1) (c) (n+1 - i) dA rfl ⟨_,_,rfl,eu⟩ rfl rfl ig eu eu eu eu eu)<|mP<|nz<|Rm (P:=Tryz.prog) (e:=90) (sz:=4) (j:=i*4) dA dA rfl rfl cs (by rw[hc4];show 4=min 1 (n+1 - i)*4;omega) ⟨_,rfl,λk v q=>by rw[Addr.add_lit];exact(C _ hv).cell k q⟩ a (by simp only[splice,aA,A,aH,aL,l,hc4];omega) hc1<|λd3 d4 a a2=>?_
   replace f:=f.only a2 iB;refine pV<|mP<|mV<|mQ<|nQ<|qb<|nR [_] ⟨rfl,trivial⟩<|⟨?_,f.k⟩
   rw[zun l eu A hc4]at a;exact a
namespace qQ
variable {w:World}{bl:List Nat}{vs:List Value}{cs:List (Key × V3)}
theorem drop(h:qQ w bl vs cs)(m:Nat):qQ w bl (vs.drop (m*4)) (cs.drop m):=by
 refine⟨by rw[aL,aL,h.len];omega,λi c a=>?_⟩;rw[bD]at a;have:=h.at_ _ _ a;rw[dP,show m*4+i*4=(m+i)*4 by omega];exact this
theorem take(h:qQ w bl vs cs)(m:Nat):qQ w bl (vs.take (m*4)) (cs.take m):=by
 refine⟨by rw[aH,aH,h.len];omega,λi c a=>?_⟩;rw[bF]at a
 split at a
 .rename_i f
  have e:=h.at_ _ _ a;rw[eU,dL,bP eu];exact e
 .cases a
theorem app{vs2:List Value}{cs2:List (Key × V3)}(h:qQ w bl vs cs)(h2:qQ w bl vs2 cs2):qQ w bl (vs++vs2) (cs++cs2):=by
 have e:=h.len;refine⟨by rw[aA,aA,e,h2.len];omega,λi c a=>?_⟩
 by_cases f:i<cs.length
 .rw[bG f]at a
  rw[eH eu,fF lc];exact h.at_ i c a
 .rw[bC eu]at a
  have g:=h2.at_ _ _ a;rw[show i*4=vs.length+(i - cs.length)*4 by omega,<-dP,dF];exact g
theorem one{xs:List Value}{c:Key × V3}(h:sw w bl xs c):qQ w bl xs [c]:=by
 have:=(qQ.nil w bl).snoc h;exact this
theorem head{c:Key × V3}{r:List (Key × V3)}(h:qQ w bl vs (c::r)):qQ w bl (splice vs 0 [.slice none 0 0]) (([],c.2)::r):=by
 have f:=h.at_ 0 c rfl;have l:=h.len;obtain⟨p,i,a,_⟩:=f;rw[bZ,cK]at a;have j:=(qQ.drop h 1);have e:splice vs 0 [.slice none 0 0]=pI none 0 (([]:Key),c.2)++vs.drop (1*4):=by
  have k:vs=pI p i c++vs.drop (1*4):=by
   conv=>lhs;rw[<-bM 4 vs,a]
  conv=>lhs;rw[k]
  rfl
 rw[e];exact(qQ.one ⟨none,0,rfl,nC.nil _ _ _,(λg o h=>nomatch h),ax _⟩).app j
end qQ
theorem Ut{w:World}{bl:List Nat}{vs:List Value}{cs:List (Key × V3)}(h:qQ w bl vs cs):∀ u∈vs,u.oneCell'=true:=λu c=>by
 obtain⟨j,a⟩:=fB.1 c;have i:=h.len;have k:=(aO.1 a).1;obtain⟨p,e,f,_⟩:=h.at_ (j / 4) cs[j / 4] (aI eu);refine zi p e cs[j / 4] u ?_;rw[<-f];have g:((vs.drop (j / 4*4)).take 4)[j % 4]?=some u:=by
  rw[bF,if_pos eu,bD,show j / 4*4+j % 4=j by omega];exact a
 exact aN g
theorem CP{bl:List Nat}{xs:List Value}{c:Key × V3}{lv:Nat}(w:World)(hc:sw w bl xs c)(hok:c.1.length<=300):
  CQ 135 [.agg xs.toArray, .int .i64 (lv:Int)] w (λv w'=>(∃ p cp,v= .slice p (pK lv c).length cp)/\Below w.heap.size w w'):=
 (zy w hc hok).to λv w' ⟨a,c⟩=>⟨a.form,c⟩
theorem ZW(lv:Nat)(cs:List (Key × V3))(h:∀ c∈cs,c.1.length<=300)(k:Nat):((cs.map λc=>(pK lv c).length).take k).sum<=307*k:=by
 induction k with
 |zero=>simp
 |succ k ih=>
  by_cases a:k<cs.length
  .rw[bf,aW,aI a,fM]
   have e:=h _ (jD a);have c:=zJ lv cs[k];have f:(pK lv cs[k]).length<=307:=by rw[c];split<;>omega
   simp only[dZ,gI,List.sum_singleton];omega
  .rw[aP (by rw[aQ];omega)]
   rw[aP (by rw[aQ];omega)]at ih;omega
theorem Vf{lv k:Nat}{cs:List (Key × V3)}{c:Key × V3}(h:cs[k]?=some c):((cs.map λc=>(pK lv c).length).take (k+1)).sum=((cs.map λc=>(pK lv c).length).take k).sum+(pK lv c).length:=by
 rw[bf,aW,h,fM];rfl
theorem zsD{all n size:Nat}{cs:List (Key × V3)}{lv:Nat}{c:Key × V3}(h:cs[n]?=some c):BA all n size ((cs.map λc=>(pK lv c).length).drop n)=if 2*(size+(pK lv c).length)>all then n else BA all (n+1) (size+(pK lv c).length) ((cs.map λc=>(pK lv c).length).drop (n+1)):=by
 obtain⟨a,rfl⟩:=aO.1 h;rw[dG (by rw[aQ];exact a),BA,List.getElem_map]
theorem zuo{bl:List Nat}{xs:List Value}{x:MN}(w:World)(h:qj w bl xs x)(hk:∀ c∈x.cs,c.1.length<=300)(hl2:2<=x.cs.length)(hl:x.cs.length<=1000):
   CQ 115 [.agg xs.toArray] w (λv w'=>∃ xsL xsR kp kc br,v= .tuple #[.agg xsL.toArray, .agg xsR.toArray, .slice kp (vZ (x.cs.drop (ve x.lv x.cs))).length kc]/\qj w' bl xsL ⟨x.n,x.lv,x.cs.take (ve x.lv x.cs)⟩/\qj w' (br++bl) xsR ⟨0,x.lv,rM x.lv (x.cs.drop (ve x.lv x.cs))⟩/\
     (∀ b∈br,w.heap.size<=b/\b<w'.heap.size)/\nC w' kp (vZ (x.cs.drop (ve x.lv x.cs))).length 1 (bv (vZ (x.cs.drop (ve x.lv x.cs))))/\(∀ g o,kp=some ⟨g,o,none⟩->g∈bl)/\Below w.heap.size w w'):=by
 obtain⟨p,T,vs,rfl,V,S,i5,p0⟩:=h;have l:=Below.refl w.heap.size w;have p1:maxLen=9223372036854775807:=by decide
 have p2:=V.max;have d8:=ZW x.lv x.cs hk;have f8:=XC (L:=x.cs.map λc=>(pK x.lv c).length) (by rw[aQ];exact hl2) (by
   cases hxc:x.cs with
   |nil=>rw[hxc]at hl2;simp at hl2
   |cons c r=>simp only[aZ,cZ];have:=zJ x.lv c;omega)
 rw[aQ]at f8;obtain⟨i6,i7,_,_⟩:=f8;obtain⟨m,J⟩:=aa (ve x.lv x.cs);have d9:Co (x.cs.map λc=>(pK x.lv c).length)=m:=J;rw[d9]at i6 i7;rw[J];obtain⟨c0,a7⟩:∃ c0,x.cs[0]?=some c0:=⟨_,aI eu⟩;obtain⟨D,E,p3,p4,rfl,i8,i9⟩:=S.ld V rfl a7;have j0:=λw' (hb:Below w.heap.size w w')=>CP (lv:=x.lv) w' (i8.new hb) (hk c0 (aN a7))
 have p5:=vO x (some ⟨D,E,none⟩) T;have p6:=wM x (some ⟨D,E,none⟩) T;obtain⟨a8,e0⟩:∃ a8,(x.cs.map λc=>(pK x.lv c).length).sum=a8:=⟨_,rfl⟩;have j1:=Ut S;have j2:=S.len;have j3:((x.cs.map λc=>(pK x.lv c).length).take x.cs.length).sum=a8:=by rw[aP lm];exact e0
 have j4:=d8 x.cs.length;rw[j3]at j4;refine nP (fn:=Tryz.f115) (rs:=[.cell 2 87, .cell 3 87, .tmp 4]) (n:=81) Tryz.func115 rfl rfl Tryz.ntmps115 dA rfl<|mR<|nz<|oV (oz x (some ⟨D,E,none⟩) T) rfl<|λH w1 j5 q j6=>?_
 have f9:=ag l.size j5;replace l:=l.acc j6;refine nz<|nU ([Value.int .i64 0,Value.int .i64 0,Value.slice none 0 0]) dA<|λI w2 g0 s g1=>?_
 have g2:=ag l.size g0;have b9:H<I:=ae q.lt g0;replace q:=q.new g1;replace l:=l.acc g1;refine nz<|nU ([Value.int .i64 0,Value.int .i64 0,Value.slice none 0 0]) dA<|λG p7 e1 t e2=>?_
 have g3:=ag l.size e1;have c4:H<G:=ae q.lt e1;have c5:I<G:=ae s.lt e1;replace q:=q.new e2;replace s:=s.new e2;replace l:=l.acc e2;refine nV<|mV<|mQ<|ng<|mR<|mO (nk 2)<|mO (mZ q)<|mO (oQ (e:=90) (sz:=4) dA rfl rfl)<|mP<|mQ<|oU ?_
 refine qZ (α:=Nat) 0 (λk=>[(15, .int .i64 (k:Nat)),(14, .int .i64 (x.cs.length:Nat)),(13, .slice (some ⟨D,E,none⟩) x.cs.length T),(5, .int .i64 (((x.cs.map λc=>(pK x.lv c).length).take k).sum:Nat)),(1, .pointer (some ⟨H,0,none⟩)),(2, .pointer (some ⟨I,0,none⟩)),(3, .pointer (some ⟨G,0,none⟩))])
   (λk w'=>k<=x.cs.length/\row w' H (oz x (some ⟨D,E,none⟩) T) 87/\row w' I [.int .i64 0, .int .i64 0, .slice none 0 0] 87/\row w' G [.int .i64 0, .int .i64 0, .slice none 0 0] 87/\Below w.heap.size w w') (λk=>x.cs.length - k)
   ⟨rfl,rfl,rfl,rfl,rfl,rfl,rfl,rfl⟩ ⟨aC _,q,s,t,l⟩ ?_
 have p8:w.heap.size<=H:=by omega
 have p9:H<I:=by omega
 have q0:I<G:=by omega
 clear q s t l;rintro i f j7 ⟨q1,q,s,t,l⟩;refine mR<|mO (pE rfl rfl)<|mQ<|ng<|oP rfl (λj8=>?_)<|λj8=>?_
 ·
  refine lF ?_;have Q:∃ c,x.cs[i]?=some c:=⟨_,aI eu⟩;obtain⟨c,M⟩:=Q;have Q:=S.ld V rfl M;obtain⟨j9,oq,c6,c7,e3,e4,e5⟩:=Q;cases e3;have q2:=zi c6 c7 c;have q3:(pI c6 c7 c).length=4:=rfl;have g4:=Vf (lv:=x.lv) M;have k0:=d8 (i+1);refine nM<|mO (rE (e:=90) (sz:=4) dA rfl rfl i eu eu)<|mO (ou rfl (e5 _ l))<|nz<|nU ([Value.slice none 0 0,Value.int .i64 0,Value.int .i64 0,Value.int .i64 0]) dA<|λe6 q4 c8 a9 c9=>?_
  have k7:=ag l.size c8;have k8:H<e6:=ae q.lt c8;have k9:I<e6:=ae s.lt c8;have l0:G<e6:=ae t.lt c8;replace q:=q.new c9;replace s:=s.new c9;replace t:=t.new c9;replace l:=l.acc c9;refine nH<|nT 4 (pI c6 c7 c) a9<|λl1 a9 d0=>?_
  replace q:=q.only d0 (ai k8);replace s:=s.only d0 (ai k9);replace t:=t.only d0 (ai l0);replace l:=d0.below l k7;refine mQ<|nM<|mP<|mO (oI 4 a9)<|mO (nk 1)<|mO (mZ q)<|nD (CP l1 (e4.new l) (hk c (aN M))) ?_
  rintro _ q5 ⟨⟨q6,q7,rfl⟩,b0⟩;replace q:=q.new b0;replace s:=s.new b0;replace t:=t.new b0;replace a9:=a9.new b0;replace l:=l.acc b0;refine mO (oQ (e:=5) (sz:=1) dA rfl rfl)<|mO (om rfl rfl (Coup.nN eu))<|mV<|oH<|pW<|ny<|nM<|mO (om rfl rfl (Coup.nN eu))<|mP<|oH<|oO ⟨i+1,eu,⟨rfl,rfl,rfl,congrArg (Value.int .i64) (by rw[g4];simp),rfl,rfl,rfl,rfl⟩,eu,q,s,t,l⟩
 ·
  obtain rfl:i=x.cs.length:=by omega
  have l2:BA a8 1 (pK x.lv c0).length ((x.cs.map λc=>(pK x.lv c).length).drop 1)=m:=by
    cases hxc:x.cs with
    |nil=>rw[hxc]at hl2;simp at hl2
    |cons c r=>
      rw[hxc]at a7 d9 e0;cases a7;rw[<-d9,<-e0];rfl
  have l3:((x.cs.map λc=>(pK x.lv c).length).take 1).sum=(pK x.lv c0).length:=by
    have:=Vf (lv:=x.lv) a7;simpa using this
  refine qP<|qL<|rf<|qX<|ny<|ng<|qz [] dA ?_
  intro l4 d1 l5;replace q:=q.new d1;replace s:=s.new d1;replace t:=t.new d1;replace l:=l.acc d1;have g5:=q;have q8:=s;have q9:=t;have l6:=l;refine mU 0 (nk 2)<|nI 1 (λw' B=>mZ (g5.kq B))<|mU 2 (rE (e:=90) (sz:=4) dA rfl rfl (0) eu eu)<|nI 3 (λw' B=>ou rfl (i9 _ (l6.nu B jX)))<|mU 4 (nk 1)<|nI 5 (λw' B=>mZ (g5.kq B))<|nS 6 dA<|qf rfl rfl (nX dA rfl) (j0 l4 l) ?_
  rintro _ r0 ⟨⟨r1,r2,rfl⟩,b2⟩;have l7:=l5.add0 b2;refine⟨l7,?_⟩;replace q:=q.new b2;replace s:=s.new b2;replace t:=t.new b2;replace l:=l.acc b2;refine mU 7 (oQ (e:=5) (sz:=1) dA rfl rfl)<|mU 8 (rA)<|mU 9 (rA)<|oL dA<|ny<|ng<|oU ?_;refine qZ (α:=Nat × Nat) (1,(pK x.lv c0).length) (λa=>[(9, .int .i64 (a.2:Nat)),(8, .int .i64 (a.1:Nat)),(5, .int .i64 (((x.cs.map λc=>(pK x.lv c).length).take x.cs.length).sum:Nat)),(1, .pointer (some ⟨H,0,none⟩)),(2, .pointer (some ⟨I,0,none⟩)),(3, .pointer (some ⟨G,0,none⟩))])
    (λa w'=>1<=a.1/\a.1<=x.cs.length/\a.2=((x.cs.map λc=>(pK x.lv c).length).take a.1).sum/\BA a8 a.1 a.2 ((x.cs.map λc=>(pK x.lv c).length).drop a.1)=m/\row w' H (oz x (some ⟨D,E,none⟩) T) 87/\row w' I [.int .i64 0, .int .i64 0, .slice none 0 0] 87/\row w' G [.int .i64 0, .int .i64 0, .slice none 0 0] 87/\Below w.heap.size w w') (λa=>x.cs.length - a.1)
    ⟨rfl,rfl,rfl,rfl,rfl,rfl,rfl⟩ ⟨ax _,by dsimp only;omega,l3.symm,l2,q,s,t,l⟩ ?_
  clear q s t l;rintro⟨i,sz⟩ r3 j7 ⟨l8,g6,l9,U,q,s,t,l⟩;dsimp only at l8 g6 l9 U;have e7:i<x.cs.length:=by
    refine Nat.lt_of_le_of_ne g6 λe=>?_
    rw[dC (by rw[aQ,e];exact ax _),BA]at U;omega
  have Q:∃ c,x.cs[i]?=some c:=⟨_,aI e7⟩;obtain⟨c,M⟩:=Q;rw[zsD M]at U;have Q:=S.ld V rfl M;obtain⟨j9,oq,c6,c7,e3,e4,e5⟩:=Q;cases e3;have g4:=Vf (lv:=x.lv) M;have k0:=d8 (i+1);have Q:=S.at_ _ _ M;obtain⟨d2,d3,m0,g7,g8,_⟩:=Q;have g9:vZ (x.cs.drop i)=c.1:=by unfold vZ;rw[List.head?_drop,M];rfl
  have m1:(vs.drop (i*4))[0]?=some (.slice d2 c.1.length d3):=by
    have h0:((vs.drop (i*4)).take 4)[0]?=some (.slice d2 c.1.length d3):=by rw[m0];rfl
    rw[bF,if_pos eu]at h0;exact h0
  have m2:(vs.drop (i*4)).length=(x.cs.length - i)*4:=by rw[aL,j2];omega
  have h1:∀ w',Below w.heap.size w w'->CQ 47 [.slice (some ⟨D,E+i*4,none⟩) (x.cs.length - i) (T - i)] w' (λv w2=>(∃ g o c,v= .slice (some ⟨g,o,none⟩) (x.cs.length - i) c/\qI w2 w'.heap.size 90 4 g o (x.cs.length - i) c (vs.drop (i*4)))/\Below w'.heap.size w' w2):=λw' hb=>by
    have R:=(V.new hb).sub i (x.cs.length - i) eu;rw[aP (by rw[m2];exact ax _)]at R;exact(ZX w' R (λu b1=>j1 u (ek b1)) eu).to λv w2 ⟨X,d4⟩=>by
      have Q:=X.form' eu;obtain⟨g,o,m3,rfl,_⟩:=Q;exact⟨⟨g,o,m3,rfl,X⟩,d4⟩
  have Y:(x.cs.take i).length=i:=by rw[aH];omega
  have d5:(rM x.lv (x.cs.drop i)).length=x.cs.length - i:=by
    unfold rM
    split
    · rw[aL]
    · cases hx:x.cs.drop i with
      |nil=>have:=congrArg List.length hx;rw[aL]at this;simp at this;omega
      |cons a b=>have:=congrArg List.length hx;rw[aL]at this;simp only[aD]at this |-;omega
  have h2:∀ g o,(some ⟨D,E+0*4,none⟩:Option Addr)=some ⟨g,o,none⟩->g∈bl:=λg o e=>by cases e;exact i5 _ _ rfl
  have h3:nC w (some ⟨D,E,none⟩) i 4 (vs.take (i*4)):=by
    have R:=V.sub 0 i eu;rw[bZ,cK,dD]at R;exact R
  refine oU<|ng<|qz [] dA ?_
  intro m4 d6 m5;replace q:=q.new d6;replace s:=s.new d6;replace t:=t.new d6;replace l:=l.acc d6;have h4:=q;have r4:=s;have r5:=t;have m6:=l;refine mU 0 (nK)<|mU 1 (nk 2)<|nI 2 (λw' B=>mZ (h4.kq B))<|mU 3 (nK)<|mU 4 (rE (e:=90) (sz:=4) dA rfl rfl (i) eu eu)<|nI 5 (λw' B=>ou rfl (e5 _ (m6.nu B jX)))<|mU 6 (nk 1)<|nI 7 (λw' B=>mZ (h4.kq B))<|nS 8 dA<|qf rfl rfl (nX dA rfl) (CP m4 (e4.new l) (hk c (aN M))) ?_
  rintro _ r6 ⟨⟨r7,r8,rfl⟩,b3⟩;have m7:=m5.add0 b3;refine⟨m7,?_⟩;replace q:=q.new b3;replace s:=s.new b3;replace t:=t.new b3;replace l:=l.acc b3;refine mU 9 (oQ (e:=5) (sz:=1) dA rfl rfl)<|mU 10 (om rfl rfl (Coup.nN eu))<|mU 11 (rA)<|oL dA<|ny<|ng<|mR<|mP<|mO (yD rfl rfl (Coup.nN eu))<|mP<|mO (rq rfl rfl)<|mQ<|oP rfl (λm8=>?_)<|λm8=>?_
  ·
   refine qP<|qL<|Mf rfl<|rf<|qX<|ny<|xO (λa:Nat × Nat × Nat × Nat=>[(10, .pointer (some ⟨a.1,0,none⟩)),(8, .int .i64 (i:Nat)),(1, .pointer (some ⟨H,0,none⟩)),(2, .pointer (some ⟨I,0,none⟩)),(3, .pointer (some ⟨G,0,none⟩))]) (λa w'=>row w' H (oz x (some ⟨D,E,none⟩) T) 87/\row w' I [.int .i64 0, .int .i64 0, .slice none 0 0] 87/\row w' G [.int .i64 0, .int .i64 0, .slice none 0 0] 87/\row w' a.1 [.int .i64 0, .int .i64 (x.lv:Int), .slice (some ⟨a.2.1,a.2.2.1,none⟩) (x.cs.length - i) a.2.2.2] 87/\qI w' w.heap.size 90 4 a.2.1 a.2.2.1 (x.cs.length - i) a.2.2.2 (vs.drop (i*4))/\G<a.2.1/\G<a.1/\a.1≠a.2.1/\Below w.heap.size w w') ?_ ?_
   ·
    refine qz [] dA ?_;intro m9 d7 e8;replace q:=q.new d7;replace s:=s.new d7;replace t:=t.new d7;replace l:=l.acc d7;have h5:=q;have r9:=s;have s0:=t;have s1:=l;refine mU 0 (nk 1)<|nI 1 (λw' B=>mZ (h5.kq B))<|mU 2 (nk 2)<|nI 3 (λw' B=>mZ (h5.kq B))<|mU 4 (nK)<|mU 5 (wL (e:=90) (sz:=4) i (x.cs.length) T (x.cs.length - i) dA rfl ⟨_,_,rfl,eu⟩ rfl rfl ig eu eu eu eu eu)<|yP 6 8 dA ?_ ?_
    ·
     have e9:=q.lt;have n0:=t.lt;have f0:=s.lt;have f1:=t.lt;have f2:=l.size;refine qf rfl rfl (nX dA rfl) (h1 m9 l) ?_;rintro _ n1 ⟨⟨A,C,F,rfl,y⟩,N⟩;have f3:=e8.add0 N;refine⟨f3,?_⟩;replace q:=q.new N;replace s:=s.new N;replace t:=t.new N;replace l:=l.acc N;have h6:=y.MQ;refine mU 7 (AL (.int .i64 (x.lv:Int)) (.slice (some ⟨A,C,none⟩) (x.cs.length - i) F) [.int .i64 0, .int .i64 (x.lv:Int), .slice (some ⟨A,C,none⟩) (x.cs.length - i) F] rfl rfl dA)<|nS 8 dA<|qJ rfl rfl<|nU ([Value.int .i64 0,Value.int .i64 0,Value.slice none 0 0]) dA<|λK h7 O z P=>?_
     have h8:=f3.add0 P;refine⟨h8,?_⟩;have s2:=ag f3.size O;have f4:=ag l.size O;have f5:H<K:=ae q.lt O;have f6:I<K:=ae s.lt O;have f7:G<K:=ae t.lt O;have n2:A<K:=ae y.lt O;replace q:=q.new P;replace s:=s.new P;replace t:=t.new P;replace y:=y.new P;replace l:=l.acc P;refine nS 9 dA<|qR rfl rfl<|nT 3 ([.int .i64 0, .int .i64 (x.lv:Int), .slice (some ⟨A,C,none⟩) (x.cs.length - i) F]) z<|λs3 z Z=>?_
     have n3:=h8.aq Z;refine⟨n3,?_⟩;replace q:=q.only Z (ai f5);replace s:=s.only Z (ai f6);replace t:=t.only Z (ai f7);replace y:=y.only Z (ai n2);replace l:=Z.below l f4;refine oL dA ?_;have n4:=y.lt;refine oO ⟨(K,A,C,F),⟨rfl,rfl,rfl,rfl,rfl,rfl⟩,q,s,t,z,nY.mono y f2,by dsimp only;omega,by dsimp only;omega,by dsimp only;omega,l⟩
    ·
     refine qJ rfl rfl<|nU ([Value.int .i64 0,Value.int .i64 0,Value.slice none 0 0]) dA<|λK h7 O z P=>?_
     have h9:=e8.add0 P;refine⟨h9,?_⟩;have s4:=ag e8.size O;have f4:=ag l.size O;have f5:H<K:=ae q.lt O;have f6:I<K:=ae s.lt O;have f7:G<K:=ae t.lt O;replace q:=q.new P;replace s:=s.new P;replace t:=t.new P;replace l:=l.acc P;refine nS 6 dA ?_;have e9:=q.lt;have n0:=z.lt;have f0:=s.lt;have f1:=t.lt;have f2:=l.size;refine qf rfl rfl (nX dA rfl) (h1 h7 l) ?_;rintro _ n1 ⟨⟨A,C,F,rfl,y⟩,N⟩;have i0:=h9.add0 N;refine⟨i0,?_⟩;replace q:=q.new N;replace s:=s.new N;replace t:=t.new N;replace z:=z.new N;replace l:=l.acc N;have h6:=y.MQ;refine mU 7 (AL (.int .i64 (x.lv:Int)) (.slice (some ⟨A,C,none⟩) (x.cs.length - i) F) [.int .i64 0, .int .i64 (x.lv:Int), .slice (some ⟨A,C,none⟩) (x.cs.length - i) F] rfl rfl dA)<|nS 9 dA<|qR rfl rfl<|nT 3 ([.int .i64 0, .int .i64 (x.lv:Int), .slice (some ⟨A,C,none⟩) (x.cs.length - i) F]) z<|λs5 z a0=>?_
     have n5:=i0.aq a0;refine⟨n5,?_⟩;replace q:=q.only a0 (ai f5);replace s:=s.only a0 (ai f6);replace t:=t.only a0 (ai f7);replace y:=y.only a0 eu;replace l:=a0.below l f4;refine oL dA ?_;have n4:=y.lt;refine oO ⟨(K,A,C,F),⟨rfl,rfl,rfl,rfl,rfl,rfl⟩,q,s,t,z,nY.mono y f2,by dsimp only;omega,by dsimp only;omega,by dsimp only;omega,l⟩
   ·
    clear q s t l;rintro⟨K,A,C,F⟩ s6 s7 ⟨q,s,t,z,y,e9,f0,f1,l⟩;dsimp only at z y e9 f0 f1;rw[if_pos eu]at U;subst U;have h6:=y.MQ;refine mR<|mO (nk 2)<|mO (mZ z)<|mO (rE (e:=90) (sz:=4) dA rfl rfl (0) eu eu)<|mO (nk 0)<|mO (ou rfl (Ld.sl1 (off:=C) (j:=0) y.sl dA m1))<|mV<|mQ<|ng<|mR<|mO (nk 1)<|mO (mZ q)<|mO (rq rfl rfl)<|mQ<|oP rfl (λn6=>?_)<|λn6=>?_
    ·
     refine nM<|mO (nk 2)<|mO (mZ z)<|mO (rE (e:=90) (sz:=4) dA rfl rfl (0) eu eu)<|mO (nk 0)<|nH<|Jg ([.slice none 0 0]) (0) y rfl rfl dA ku ko<|λs8 y b4=>?_
     replace q:=q.only b4 eu;replace s:=s.only b4 eu;replace t:=t.only b4 eu;replace z:=z.only b4 eu;replace l:=b4.below l eu;refine pV<|mO (nk 2)<|mO (mZ q)<|mP<|mP<|mO (wL (e:=90) (sz:=4) (0) (i) (i) (i) dA rfl rfl ⟨_,_,rfl,eu⟩ ⟨_,_,rfl,eu⟩ ig eu eu eu eu eu)<|mO (nk 2)<|nH<|oW q<|λi1 q b5=>?_
     replace s:=s.only b5 (bA b9);replace t:=t.only b5 (bA c4);replace z:=z.only b5 eu;replace y:=y.only b5 eu;replace l:=b5.below l f9;replace q:row i1 H (oz ⟨x.n,x.lv,x.cs.take i⟩ (some ⟨D,E+0*4,none⟩) i) 87:=by unfold oz;rw[Y];exact q
     have n7:=vO ⟨x.n,x.lv,x.cs.take i⟩ (some ⟨D,E+0*4,none⟩) i;have n8:=wM ⟨x.n,x.lv,x.cs.take i⟩ (some ⟨D,E+0*4,none⟩) i;replace z:row i1 K (oz ⟨0,x.lv,rM x.lv (x.cs.drop i)⟩ (some ⟨A,C,none⟩) F) 87:=by unfold oz;rw[d5];exact z
     have n9:=vO ⟨0,x.lv,rM x.lv (x.cs.drop i)⟩ (some ⟨A,C,none⟩) F;have o0:=wM ⟨0,x.lv,rM x.lv (x.cs.drop i)⟩ (some ⟨A,C,none⟩) F;refine mQ<|ng<|qz [I,G] dA ?_
     intro s9 a1 o1;replace q:=q.new a1;replace s:=s.new a1;replace t:=t.new a1;replace z:=z.new a1;replace y:=y.new a1;replace l:=l.acc a1;have o2:=q;have t0:=s;have t1:=t;have o3:=z;have t2:=y;have t3:=l;refine nI 0 (λw' B=>oI 3 (o2.kq B))<|nI 1 (λw' B=>oI 3 (o3.kq B))<|mU 2 (nK)<|nS 3 dA<|qR rfl rfl<|nT 3 (oz ⟨x.n,x.lv,x.cs.take i⟩ (some ⟨D,E+0*4,none⟩) i) s<|λt4 s a2=>?_
     have i2:=o1.aq a2;refine⟨i2,?_⟩;replace q:=q.only a2 (ai b9);replace t:=t.only a2 (bA c5);replace z:=z.only a2 eu;replace y:=y.only a2 eu;replace l:=a2.below l g2;refine nS 4 dA<|qR rfl rfl<|nT 3 (oz ⟨0,x.lv,rM x.lv (x.cs.drop i)⟩ (some ⟨A,C,none⟩) F) t<|λo4 t a3=>?_
     have o5:=i2.aq a3;refine⟨o5,?_⟩;replace q:=q.only a3 (ai c4);replace s:=s.only a3 (ai c5);replace z:=z.only a3 eu;replace y:=y.only a3 eu;replace l:=a3.below l g3;refine mE ?_;rw[g9];have b6:=LX y;have b7:=y.sl;rw[<-d5]at b7 b6;refine⟨_,_,d2,d3,[A],rfl,⟨_,_,vs.take (i*4),rfl,?_,(S.new l).take i,h2,fG Y⟩,⟨_,_,_,rfl,b7,?_,(λg o e=>by cases e;simp),b6⟩,(λb hb=>by have R:b=A:=kG;have X:=y.lt;omega),g7.new l,g8,l⟩
     · rw[Y,bZ,dD]
       exact h3.new l
     · have R:rM x.lv (x.cs.drop i)=([],c.2)::x.cs.drop (i+1):=by
        unfold rM;rw[if_neg eu,dG e7];have:=(aO.1 M).2;rw[this]
       rw[R];have X:qQ o4 ([A]++bl) (vs.drop (i*4)) (c::x.cs.drop (i+1)):=by
        have d4:=((S.new l).drop i).mono (bl':=[A]++bl) (λb hb=>aB _ hb);rw[dG e7,(aO.1 M).2]at d4;exact d4
       exact X.head
    ·
     refine nL<|ny<|mR<|mO (nk 2)<|mO (mZ q)<|mP<|mP<|mO (wL (e:=90) (sz:=4) (0) i i i dA rfl rfl ⟨_,_,rfl,eu⟩ ⟨_,_,rfl,eu⟩ ig eu eu eu eu eu)<|mO (nk 2)<|nH<|oW q<|λi3 q b8=>?_
     replace s:=s.only b8 (bA b9);replace t:=t.only b8 (bA c4);replace z:=z.only b8 eu;replace y:=y.only b8 eu;replace l:=b8.below l f9;replace q:row i3 H (oz ⟨x.n,x.lv,x.cs.take i⟩ (some ⟨D,E+0*4,none⟩) i) 87:=by unfold oz;rw[Y];exact q
     have n7:=vO ⟨x.n,x.lv,x.cs.take i⟩ (some ⟨D,E+0*4,none⟩) i;have n8:=wM ⟨x.n,x.lv,x.cs.take i⟩ (some ⟨D,E+0*4,none⟩) i;replace z:row i3 K (oz ⟨0,x.lv,rM x.lv (x.cs.drop i)⟩ (some ⟨A,C,none⟩) F) 87:=by unfold oz;rw[d5];exact z
     have n9:=vO ⟨0,x.lv,rM x.lv (x.cs.drop i)⟩ (some ⟨A,C,none⟩) F;have o0:=wM ⟨0,x.lv,rM x.lv (x.cs.drop i)⟩ (some ⟨A,C,none⟩) F;refine mQ<|ng<|qz [I,G] dA ?_
     intro t5 a4 o6;replace q:=q.new a4;replace s:=s.new a4;replace t:=t.new a4;replace z:=z.new a4;replace y:=y.new a4;replace l:=l.acc a4;have o7:=q;have t6:=s;have t7:=t;have o8:=z;have t8:=y;have t9:=l;refine nI 0 (λw' B=>oI 3 (o7.kq B))<|nI 1 (λw' B=>oI 3 (o8.kq B))<|mU 2 (nK)<|nS 3 dA<|qR rfl rfl<|nT 3 (oz ⟨x.n,x.lv,x.cs.take i⟩ (some ⟨D,E+0*4,none⟩) i) s<|λu0 s a5=>?_
     have i4:=o6.aq a5;refine⟨i4,?_⟩;replace q:=q.only a5 (ai b9);replace t:=t.only a5 (bA c5);replace z:=z.only a5 eu;replace y:=y.only a5 eu;replace l:=a5.below l g2;refine nS 4 dA<|qR rfl rfl<|nT 3 (oz ⟨0,x.lv,rM x.lv (x.cs.drop i)⟩ (some ⟨A,C,none⟩) F) t<|λu1 t a6=>?_
     have o9:=i4.aq a6;refine⟨o9,?_⟩;replace q:=q.only a6 (ai c4);replace s:=s.only a6 (ai c5);replace z:=z.only a6 eu;replace y:=y.only a6 eu;replace l:=a6.below l g3;refine mE ?_;rw[g9];have b6:=LX y;have b7:=y.sl;rw[<-d5]at b7 b6;refine⟨_,_,d2,d3,[A],rfl,⟨_,_,vs.take (i*4),rfl,?_,(S.new l).take i,h2,fG Y⟩,⟨_,_,_,rfl,b7,?_,(λg o e=>by cases e;simp),b6⟩,(λb hb=>by have R:b=A:=kG;have X:=y.lt;omega),g7.new l,g8,l⟩
     · rw[Y,bZ,dD]
       exact h3.new l
     · have R:rM x.lv (x.cs.drop i)=x.cs.drop i:=by unfold rM;rw[if_pos eu]
       rw[R];exact((S.new l).drop i).mono (λb hb=>aB _ hb)
  ·
   rw[if_neg eu]at U;refine nL<|ny<|nM<|mP<|mO (om rfl rfl (Coup.nN eu))<|mV<|oH<|pW<|oO ⟨(i+1,sz+(pK x.lv c).length),by dsimp only;omega,⟨rfl,rfl,rfl,rfl,rfl,rfl,rfl⟩,by dsimp only;omega,by dsimp only;omega,by dsimp only;omega,U,q,s,t,l⟩
theorem Qm{α:Type}{x:α}:∀ {l:List α} {i:Nat},i<=l.length->l.insertIdx i x=l.take i++[x]++l.drop i
 |_,0,_=>rfl
 |[],i+1,h=>by simp at h
 |a::l,i+1,h=>by rw[jc,Qm (l:=l) kU];rfl
theorem J_{α:Type}{x:α}:∀ {l:List α} {i:Nat},i<l.length->l.set i x=l.take i++[x]++l.drop (i+1)
 |[],i,h=>by simp at h
 |a::l,0,_=>rfl
 |a::l,i+1,h=>by rw[jv,J_ (l:=l) kU];rfl
namespace qQ
variable {w:World}{bl:List Nat}{vs xs:List Value}{cs:List (Key × V3)}{c:Key × V3}
theorem ins(h:qQ w bl vs cs)(hc:sw w bl xs c){i:Nat}(hi:i<=cs.length):qQ w bl (vs.take (i*4)++xs++vs.drop (i*4)) (cs.insertIdx i c):=by
 rw[Qm hi];exact((h.take i).app (qQ.one hc)).app (h.drop i)
theorem set(h:qQ w bl vs cs)(hc:sw w bl xs c){i:Nat}(hi:i<cs.length):qQ w bl (splice vs (i*4) xs) (cs.set i c):=by
 rw[J_ hi];have a:xs.length=4:=by obtain⟨p,c,rfl,_⟩:=hc;rfl
 have e:splice vs (i*4) xs=vs.take (i*4)++xs++vs.drop ((i+1)*4):=by
  unfold splice;rw[a,show i*4+4=(i+1)*4 by omega]
  first |rfl|rw[aG]
 rw[e];exact((h.take i).app (qQ.one hc)).app (h.drop (i+1))
end qQ
structure xP(w:World)(bl:List Nat)(vs:List Value)(os:List MN):Prop where
 len:vs.length=os.length*3
 at_:∀ j x,os[j]?=some x->qj w bl ((vs.drop (j*3)).take 3) x
namespace xP
variable {w w':World}{bl bl':List Nat}{vs xs:List Value}{os:List MN}{x:MN}
theorem nil(w:World)(bl:List Nat):xP w bl [] []:=⟨rfl,λj c a=>by cases a⟩
theorem nu{M:List Nat}(h:xP w bl vs os)(k:Kp M w w')(hM:∀ b∈bl,b∉M):xP w' bl vs os:=⟨h.len,λj a c=>(h.at_ j a c).nu k hM⟩
theorem ll{lo:Nat}{L:List Nat}(h:xP w bl vs os)(k:mX lo L w w')(hb:∀ b∈bl,b<lo\/b∈L):xP w' bl vs os:=h.nu k.kp λb a=>pG (hb b a)
theorem mono(h:xP w bl vs os)(hb:∀ b∈bl,b∈bl'):xP w bl' vs os:=⟨h.len,λj a c=>(h.at_ j a c).mono hb⟩
theorem new(h:xP w bl vs os)(hb:Below w.heap.size w w'):xP w' bl vs os:=h.nu (M:=[]) (Kp.of_below hb) ig
theorem snoc(h:xP w bl vs os)(hx:qj w bl xs x):xP w bl (vs++xs) (os++[x]):=by
 have c:=h.len;have e:xs.length=3:=by obtain⟨p,i,_,rfl,_⟩:=hx;rfl
 refine⟨by simp[c,e];omega,λj f a=>?_⟩
 by_cases g:j<os.length
 .rw[bG g]at a
  rw[eH eu,fF lc];exact h.at_ j f a
 .rw[bC eu]at a
  obtain rfl:j=os.length:=by
   have:=(aO.1 a).1;simp at this;omega
  rw[bL]at a;cases a;rw[<-c,dF,aP eu];exact hx
end xP
theorem qj.PS{w:World}{bl:List Nat}{xs:List Value}{x:MN}(h:qj w bl xs x):xs.length=3/\∀ u∈xs,u.oneCell'=true:=by
 obtain⟨p,a,_,rfl,_⟩:=h;exact⟨rfl,vO _ _ _⟩
def xU:List MN->Key × V3->List Nat->Nat
 |[],_,_=>0
 |x::up,c,gs=>
  if tK x.lv (pQ x.cs c)=true then 0
  else 1+xU up (vZ ((pQ x.cs c).drop (ve x.lv (pQ x.cs c))),(0,0,gs.headD 0)) gs.tail
theorem zmY:∀ (l:List MN) (c:Key × V3) (gs:List Nat),(qG l c gs).2.2=gs.drop (xU l c gs)
 |[],_,_=>by rw[qG,xU];rfl
 |x::up,c,gs=>by
  rw[qG,xU]
  split
  .rfl
  .dsimp only
   rw[zmY up,Nat.add_comm 1];cases gs with
   |nil=>simp
   |cons a r=>rfl
def zz(path:List MN)(c:Key × V3)(gs:List Nat):Bool:=(qG path.reverse c gs).2.1.isSome
def vD(path:List MN)(c:Key × V3)(gs:List Nat):Nat:=xU path.reverse c gs+if zz path c gs=true then 1 else 0
end Go.Proofs.YtpaniebomegnbaaGreat
