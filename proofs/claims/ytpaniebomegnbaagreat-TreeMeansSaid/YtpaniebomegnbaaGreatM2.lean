import Derived.Test.YtpaniebomegnbaaGreatM1
import Derived.Laws.Bits64b
import Derived.Deep.RegionHeld3
import Derived.RegionTactic
import Derived.Laws.ShiftsVarLaws
set_option maxHeartbeats 8000000
set_option maxRecDepth 20000
namespace Go.Proofs.YtpaniebomegnbaaGreat
open Go Go.RowKit Coup
abbrev qz:=List UInt8
structure Dk where
 V:List (List qz)
 left:Int
 dead:Bool
def Dk.n(D:Dk):Nat:=D.V.length
def sG:qz:=List.replicate 128 0
def zo(L:List qz):Prop:=∀ s∈L,s.length=128
structure yX(D:Dk):Prop where
 n:D.V.length<=8192
 ne:∀ v∈D.V,v≠[]
 sec:∀ v∈D.V,zo v
 short:∀ v∈D.V,v.length<=100000
def pR(D:Dk)(i:Nat):List qz:=D.V.getD i []
def Ad(v:List qz):qz:=v.getLastD sG
def JB(v:List qz):qz:=v.headD sG
def qa(D:Dk)(i:Nat):qz:=Ad (pR D i)
def qM(D:Dk):Bool:=!(D.dead || D.left == 0)
def uF(D:Dk):Dk:=if qM D then {D with left:=if 0<D.left then D.left - 1 else D.left}else {D with dead:=true}
def xB(D:Dk)(i:Nat)(v:List qz):Dk:={D with V:=D.V.set i v}
def KR(D:Dk)(i:Nat)(s:qz):Dk:=if qM D then xB (uF D) i (pR D i++[s])else uF D
def sP(D:Dk):Dk:=if qM D then {uF D with V:=D.V.map λv=>[Ad v]}else uF D
def sF(D:Dk)(i:Nat):Bool:=decide (1<(pR D i).length)
def vV(D:Dk):List Nat:=(List.range D.V.length).filter (sF D)
theorem Sw{L:List qz}(h:zo L):L.flatten.length=L.length*128:=by
 induction L with
 |nil=>rfl
 |cons s L ih=>
  rw[eY,aA,ih (λx a=>h x (aj _ a)),h s (aK ..),aD];omega
theorem ZH{L:List qz}(h:zo L){i:Nat}{s:qz}(hs:L[i]?=some s):(L.flatten.drop (i*128)).take 128=s:=by
 induction L generalizing i with
 |nil=>simp at hs
 |cons t L ih=>
  have a:=h t (aK ..);cases i with
  |zero=>
   have:t=s:=by simpa using hs
   rw[cO,bV,eY,this,bN (this▸a)]
  |succ i=>
   have c:L[i]?=some s:=by simpa using hs
   rw[eY,show(i+1)*128=t.length+i*128 by omega,fC,show(t.drop (t.length+i*128))=[]from cK dB,aU,show t.length+i*128 - t.length=i*128 by omega];exact ih (λx e=>h x (aj _ e)) c
theorem zuh{L:List qz}(h:zo L){i:Nat}{s:qz}(hi:i<L.length)(hs:s.length=128):splice (bv L.flatten) (i*128) (bv s)=bv (L.set i s).flatten:=by
 have e:∀ (L:List qz) (i:Nat),zo L->i<L.length->(L.set i s).flatten=L.flatten.take (i*128)++(s++L.flatten.drop (i*128+128)):=by
  intro L
  induction L with
  |nil=>intro i _ h;simp at h
  |cons t L ih=>
   intro i h hi;have a:=h t (aK ..);cases i with
   |zero=>
    rw[List.set_cons_zero,eY,eY,cO,dz,aU,aZ,fE a]
   |succ i=>
    have c:=ih i (λx f=>h x (aj _ f)) (by simpa using hi);have g:∀ (X:List UInt8) (k:Nat),(t++X).take (t.length+k)=t++X.take k:=λX k=>by rw[jD,aQ (l:=t) (Nat.le_add_right _ _),gF]
    have j:∀ (X:List UInt8) (k:Nat),(t++X).drop (t.length+k)=X.drop k:=λX k=>by rw[fC,cK (l:=t) (Nat.le_add_right _ _),gF,aU]
    rw[jC,eY,c,eY,show(i+1)*128=t.length+i*128 by omega,show t.length+i*128+128=t.length+(i*128+128) by omega,g,j,aH]
 rw[e L i h hi];simp only[splice,bv,bJ,fA,fB,aP,hs]
def zD(D:Dk):List qz:=D.V.map JB
theorem Vb{D:Dk}(h:yX D):zo (zD D):=λs e=>by
 obtain⟨v,c,rfl⟩:=bg.1 e;obtain⟨a,l,rfl⟩:=jE (h.ne v c);exact h.sec _ c a<|aK ..
theorem Ml{D:Dk}{i:Nat}(hi:i<D.V.length):D.V[i]?=some (pR D i):=by
 rw[pR,bI,aG hi];rfl
theorem Gi{D:Dk}(h:yX D){i:Nat}(hi:i<D.V.length):pR D i≠[]/\zo (pR D i)/\(pR D i).length<=100000:=by
 have a:=aO (Ml hi);exact⟨h.ne _ a,h.sec _ a,h.short _ a⟩
theorem P_{D:Dk}{i:Nat}(hi:i<D.V.length):(zD D)[i]?=some (JB (pR D i)):=by
 rw[zD,aV,Ml hi];rfl
theorem Fs{v:List qz}(h:zo v):zo v.tail:=λs a=>h s (List.mem_of_mem_tail a)
theorem RZ{v:List qz}(h:zo v):(Ad v).length=128:=by
 unfold Ad;rcases iL v with rfl|⟨l,s,rfl⟩
 .simp[sG]
 .rw[iM]at h |-
  rw[List.getLastD_concat];exact h s ig
theorem zqr{v:List qz}(h:1<v.length):v.tail[v.length - 2]?=some (Ad v):=by
 rcases iL v with rfl|⟨l,s,rfl⟩
 .simp at h
 .rw[iM]at h |-
  cases l with
  |nil=>simp at h
  |cons a l=>
   rw[Ad,List.getLastD_concat];simp
theorem zrH{v:List qz}(h:v.length=1):Ad v=JB v:=by
 obtain⟨a,rfl⟩:=ib.1 h
 rfl
def since(D:Dk)(sv:Nat->Value):Nat->Option Value:=λi=>if sF D i then some (sv i)else none
structure uB(w:World)(g pl m:Nat)(G:List Nat)(D:Dk)(ol cl:Nat)(st:Int)(fu:Bool)(sv:Nat->Value):Prop where
 row:Coup.row w g [.slice (some ⟨pl,ol,none⟩) D.V.length cl, .map (some m),VB st, .bool fu, .bool D.dead] 193
 own:qU w 0 265 128 pl ol D.V.length cl (bv (zD D).flatten)
 map:MapAt Tryz.prog 3 w m D.V.length (since D sv)
 sv:∀ i,sF D i=true->∃ p c,sv i= .slice p ((pR D i).length - 1) c/\nM w p ((pR D i).length - 1) 128 (bv (pR D i).tail.flatten)/\∀ b o,p=some ⟨b,o,none⟩->b∈G
 inG:∀ b∈G,b<w.heap.size
 ne:g≠pl/\g≠m/\pl≠m/\∀ b∈G,b≠g/\b≠pl/\b≠m
 left:0<=st/\st<=9223372036854775807/\D.left=(if fu then st else -1)
 ok:yX D
 pos:0<D.V.length
namespace uB
variable {w w':World}{g pl m:Nat}{G:List Nat}{D:Dk}{ol cl:Nat}{st:Int}{fu:Bool}{sv:Nat->Value}
theorem nD{M:List Nat}(h:uB w g pl m G D ol cl st fu sv)(k:Kp M w w')(hM:g∉M/\pl∉M/\m∉M/\∀ b∈G,b∉M):uB w' g pl m G D ol cl st fu sv:=
 ⟨h.row.nD k hM.1,h.own.nD k hM.2.1,h.map.nD k hM.2.2.1,λi f=>by
  obtain⟨p,c,g,j,a⟩:=h.sv i f;exact⟨p,c,g,j.nD k λb o e=>hM.2.2.2 b (a b o e),a⟩,λb hb=>ae (h.inG b hb) k.size,h.ne,h.left,h.ok,h.pos⟩
theorem new(h:uB w g pl m G D ol cl st fu sv)(hb:VD w w'):uB w' g pl m G D ol cl st fu sv:=h.nD (M:=[]) (Kp.of_below hb) ig
theorem look(h:uB w g pl m G D ol cl st fu sv)(i:Nat)(hi:i<D.V.length):∃ p c,(since D sv i).getD (VC)= .slice p ((pR D i).length - 1) c/\nM w p ((pR D i).length - 1) 128 (bv (pR D i).tail.flatten)/\∀ b o,p=some ⟨b,o,none⟩->b∈G:=by
 by_cases f:sF D i=true
 .obtain⟨p,c,j,g,k⟩:=h.sv i f
  exact⟨p,c,by rw[since,if_pos f];exact j,g,k⟩
 .have j:=(Gi h.ok hi).1
  have g:(pR D i).length=1:=by
   have:=fF.2 j;simp only[sF,decide_eq_true_eq]at f;omega
  obtain⟨a,l⟩:=ib.1 g;refine⟨none,0,by rw[since,if_neg f,g];rfl,?_,λb o e=>by cases e⟩;rw[l];exact nM.nil _ _ _
theorem turn (h:uB w g pl m G D ol cl st fu sv) (ho:Only g w w') {st':Int} {fu':Bool} {left':Int} {dead':Bool} (hr:Coup.row w' g [.slice (some ⟨pl,ol,none⟩) D.V.length cl, .map (some m),VB st', .bool fu', .bool dead'] 193)
  (hl:0<=st'/\st'<=9223372036854775807/\left'=(if fu' then st' else -1)):uB w' g pl m G {D with left:=left',dead:=dead'} ol cl st' fu' sv:=by
 have k:=Kp.rJ ho;refine⟨hr,h.own.nD k (by simpa using bT h.ne.1),h.map.nD k (by simpa using bT h.ne.2.1),λi f=>?_,λb hb=>ae (h.inG b hb) k.size,h.ne,hl,⟨h.ok.n,h.ok.ne,h.ok.sec,h.ok.short⟩,h.pos⟩;obtain⟨p,c,g,j,a⟩:=h.sv i f;exact⟨p,c,g,j.nD k λb o e=>by simpa using(h.ne.2.2.2 b (a b o e)).1,a⟩
end uB
theorem XU{w:World}{g pl m:Nat}{G:List Nat}{D:Dk}{ol cl:Nat}{st:Int}{fu:Bool}{sv:Nat->Value}(h:uB w g pl m G D ol cl st fu sv):
  CQ 180 [VA g] w (λv w'=>v=VB (D.V.length:Int)/\w=w'):=by
 have hr:=h.row;refine nZ (rs:=[.tmp 2]) (n:=10) Tryz.func180 rfl rfl Tryz.ntmps180 dA rfl<|ny<|nA<|nk<|nI<|ny<|ng<|mZ (yU dA rfl rfl)<|nk<|ui rfl (rfl)<|nU<|nJ<|ny<|ng<|mZ (oo rfl)<|mZ (nG 0)<|mZ (nH hr)<|mZ (oV (e:=265) (sz:=128) dA rfl rfl)<|nA<|nk<|nY<|ou [_] ⟨rfl,trivial⟩ ?_
 exact⟨rfl,rfl⟩
theorem Gf{w:World}{g pl m:Nat}{G:List Nat}{D:Dk}{ol cl:Nat}{st:Int}{fu:Bool}{sv:Nat->Value}(h:uB w g pl m G D ol cl st fu sv)(i:Int):
   CQ 228 [VA g,VB i] w (λv w'=>v=VB (if 0<=i/\i<D.V.length then 0 else 2)/\w=w'):=by
 have hr:=h.row;have hp:=h.pos;have a:=XU h;refine nZ (rs:=[.tmp 4]) (n:=21) Tryz.func228 rfl rfl Tryz.ntmps228 dA rfl<|ny<|nA<|nk<|nI<|pE<|ny<|ng<|nP (a) ?_
 rintro _ _ ⟨rfl,rfl⟩;refine mZ (qB rfl rfl)<|nA<|nk<|qg rfl (dB)<|ny<|ng<|mZ (pI rfl rfl)<|ng<|sZ 12 rfl (λc=>?_)<|λc=>?_
 ·
  refine nN<|nN<|nN<|nN<|nN<|nN<|nN<|mZ (pK rfl)<|nA<|nk<|vD rfl (rfl)<|ny<|nA<|nk<|nY<|sS<|qy<|ou [_] ⟨rfl,trivial⟩ ?_
  exact⟨by rw[if_neg dB];rfl,rfl⟩
 ·
  refine nE<|ng<|nE<|ng<|nE<|mZ (oo rfl)<|nE<|mZ (nG 0)<|nE<|mZ (nH hr)<|nE<|mZ (oV (e:=265) (sz:=128) dA rfl rfl)<|nE<|mZ (tV rfl rfl)<|mZ (oP rfl)<|nA<|nk<|oZ rfl (λf=>?_)<|λf=>?_
  ·
   refine lW ?_;exact⟨by rw[if_neg dB];rfl,rfl⟩
  ·
   refine lX ?_;exact⟨by rw[if_pos dB];rfl,rfl⟩
theorem zkw{D:Dk}(h:D.dead=true):qM D=false/\uF D=D:=by
 have a:qM D=false:=by unfold qM;rw[h];rfl
 refine⟨a,?_⟩;rw[uF,a];cases D;cases h
 rfl
theorem Ce{w:World}{g pl m:Nat}{G:List Nat}{D:Dk}{ol cl:Nat}{st:Int}{fu:Bool}{sv:Nat->Value}(h:uB w g pl m G D ol cl st fu sv):
   CQ 210 [VA g] w (λv w'=>v=VB (if qM D then 0 else 10)/\(∃ st',uB w' g pl m G (uF D) ol cl st' fu sv)/\Only g w w'):=by
 have hr:=h.row;obtain⟨o,p,e⟩:=h.left;refine nZ (rs:=[.tmp 2]) (n:=30) Tryz.func210 rfl rfl Tryz.ntmps210 dA rfl<|ny<|nA<|nk<|nI<|ny<|ng<|mZ (oo rfl)<|mZ (nG 3)<|mZ (nH hr)<|ng<|Kg 7 rfl (λg=>?_)<|λg=>?_
 ·
  refine nE<|ng<|nE<|mZ (oo rfl)<|nE<|mZ (nG 2)<|nE<|mZ (nH hr)<|nE<|mZ (qB rfl rfl)<|mZ (pK rfl)<|nk<|oZ rfl (λi=>?_)<|λi=>?_
  ·
   refine nO<|ng<|mZ (oo rfl)<|mZ (nG 4)<|nT<|pQ hr<|λq hr k=>?_
   refine nk<|nI<|ny<|ng<|mZ (oo rfl)<|mZ (nG 4)<|mZ (nH hr)<|nk<|vD rfl (rfl)<|ny<|nA<|nk<|nY<|qy<|ou [_] ⟨rfl,trivial⟩ ?_
   have a:qM D=false:=by unfold qM;rw[e,g,if_pos rfl,i];simp
   refine⟨by rw[a];rfl,⟨st,?_⟩,k⟩;have f:=h.turn k (left':=D.left) (dead':=true) (fu':=fu) hr ⟨o,p,e⟩;rw[uF,a];exact f
  ·
   have j:D.left≠0:=by rw[e,g];simpa using i
   refine nU<|nJ<|nI<|ny<|ng<|mZ (oo rfl)<|mZ (nG 4)<|mZ (nH hr)<|nk<|xy rfl (λc=>?_)<|λc=>?_
   ·
    refine lY ?_;have a:=zkw c;exact⟨by rw[a.1];rfl,⟨st,by rw[a.2];exact h⟩,Only.refl _ _⟩
   ·
    have a:qM D=true:=by
      unfold qM;rw[c];simp[j]
    refine nU<|nJ<|ny<|ng<|ng<|mZ (oo rfl)<|mZ (nG 2)<|mZ (nH hr)<|mZ (vZ rfl rfl (Coup.nV dB))<|mZ (UN rfl rfl)<|mZ (oo rfl)<|mZ (nG 2)<|nT<|pQ hr<|λr hr l=>?_
    refine qx<|nA<|nk<|nY<|ou [_] ⟨rfl,trivial⟩<|⟨by rw[a];rfl,⟨max 0 (st - 1),?_⟩,l⟩
    have f:=h.turn l (left':=if 0<D.left then D.left - 1 else D.left) (dead':=D.dead) (fu':=fu) hr ⟨dB,dB,by rw[e];cases fu<;>simp<;>omega⟩;rw[uF,a];exact f
 ·
  have j:D.left≠0:=by rw[e,g];simp
  refine nN<|nN<|nN<|nN<|nN<|mZ (oP rfl)<|nk<|Nu rfl<|nU<|nJ<|nI<|ny<|ng<|mZ (oo rfl)<|mZ (nG 4)<|mZ (nH hr)<|nk<|xy rfl (λc=>?_)<|λc=>?_
  ·
   refine lY ?_;have a:=zkw c;exact⟨by rw[a.1];rfl,⟨st,by rw[a.2];exact h⟩,Only.refl _ _⟩
  ·
   have a:qM D=true:=by
     unfold qM;rw[c];simp[j]
   refine nU<|nJ<|ny<|ng<|ng<|mZ (oo rfl)<|mZ (nG 2)<|mZ (nH hr)<|mZ (vZ rfl rfl (Coup.nV dB))<|mZ (UN rfl rfl)<|mZ (oo rfl)<|mZ (nG 2)<|nT<|pQ hr<|λs hr m=>?_
   refine qx<|nA<|nk<|nY<|ou [_] ⟨rfl,trivial⟩<|⟨by rw[a];rfl,⟨max 0 (st - 1),?_⟩,m⟩
   have f:=h.turn m (left':=if 0<D.left then D.left - 1 else D.left) (dead':=D.dead) (fu':=fu) hr ⟨dB,dB,by rw[e];cases fu<;>simp<;>omega⟩;rw[uF,a];exact f
theorem Xk{w:World}{g o n:Nat}{L:List qz}(h:nM w (some ⟨g,o,none⟩) n 128 (bv L.flatten))(hL:zo L){i:Nat}{s:qz}(hs:L[i]?=some s):Ld Tryz.prog w 265 ⟨g,o+i*128,none⟩ (.agg (bv s).toArray):=by
 have a:=(aL.1 hs).1;have c:=Sw hL;have:=Ld.zu (P:=Tryz.prog) (t:=265) (j:=i*128) (k:=128) h dA dA (by rw[oL];omega);rw[<-AA,<-EE,ZH hL hs]at this;exact this
theorem Jl{w:World}{g pl m:Nat}{G:List Nat}{D:Dk}{ol cl:Nat}{st:Int}{fu:Bool}{sv:Nat->Value}(h:uB w g pl m G D ol cl st fu sv)(i:Nat)(hi:i<D.V.length):
   CQ 213 [VA g,VB (i:Int)] w (λv w'=>v= .agg (bv (qa D i)).toArray/\VD w w'):=by
 have a:=Below.refl w.heap.size w;have hr:=h.row;have l:=h.map;have m:=h.own;have o:=Gi h.ok hi;have H:=h.ok.n;obtain⟨S,g⟩:=aa (qa D i);have I:(bv S).length=128:=by rw[oL,<-g];exact RZ o.2.1
 rw[g];refine nZ (rs:=[.cell 4 265]) (n:=28) Tryz.func213 rfl rfl Tryz.ntmps213 dA rfl<|ny<|nK<|oD (List.replicate 128 (Value.int .u8 0)) dA<|λJ K y f j=>?_
 have r:=ag a.size y;replace hr:=hr.new j;replace l:=l.new j;replace m:=m.new j;replace a:=a.acc j;refine nk<|nI<|ny<|ng<|mZ (oo rfl)<|mZ (nG 1)<|mZ (nH hr)<|ng ?_
 have q:=h.look i hi;obtain⟨p,c,z,A,L⟩:=q;refine mZ (NJ (k:=3) (e:=190) (VC) dA dA kG l rfl rfl (i) ky dB dB z)<|oG<|ng<|mZ (oV (e:=265) (sz:=128) dA rfl rfl)<|mZ (rz rfl rfl)<|nk<|oZ rfl (λB=>?_)<|λB=>?_
 ·
  refine nI ?_;have s:=zqr (v:=pR D i) dB;rw[show Ad (pR D i)=S from g]at s;have t:=A.below a (ax _);have q:=t.some dB;obtain⟨M,op,rfl,N⟩:=q;refine nO<|ng<|ng<|mZ (oV (e:=265) (sz:=128) dA rfl rfl)<|mZ (vZ rfl rfl (Coup.nV dB))<|mZ (qZ (e:=265) (sz:=128) dA rfl rfl ((pR D i).length - 2) dB dB)<|mZ (oK rfl (Xk t (Fs o.2.1) s))<|nT<|oC 128 (bv S) f<|λO f C=>?_
  replace a:=C.below a r;refine nk<|nY<|qy<|ou [_] ⟨⟨_,rfl,Ld.qI (k:=128) f dA dA gp⟩,trivial⟩ ?_
  exact⟨rfl,a⟩
 ·
  have E:(pR D i).length=1:=by
    have:=fF.2 o.1;omega
  have F:JB (pR D i)=S:=by rw[<-g,qa,zrH E]
  have u:=P_ hi;rw[F]at u;refine nU<|nJ<|ny<|ng<|mZ (oo rfl)<|mZ (nG 0)<|mZ (nH hr)<|ng<|mZ (qZ (e:=265) (sz:=128) dA rfl rfl (i) dB dB)<|mZ (oK rfl (Xk m.sl (Vb h.ok) u))<|nT<|oC 128 (bv S) f<|λP f G=>?_
  replace a:=G.below a r;refine nk<|nY<|ou [_] ⟨⟨_,rfl,Ld.qI (k:=128) f dA dA gp⟩,trivial⟩ ?_
  exact⟨rfl,a⟩
theorem zui:List.replicate 128 (Value.int .u8 0)=bv sG:=by
 rw[sG,bv,fP];rfl
theorem WW:∃ Z,sG=Z/\List.replicate 128 (Value.int .u8 0)=bv Z/\(bv Z).length=128:=⟨_,rfl,zui,by rw[oL,sG,bz]⟩
def xC(D:Dk)(i:Int):Bool:=decide (0<=i/\i<D.V.length)
theorem Gl {w:World} {g:Nat} {i:Int} {S Z:qz} (hzb:List.replicate 128 (Value.int .u8 0)=bv Z) (hzl:(bv Z).length=128) (hSl:(bv S).length=128)
  (hA:∀ w',VD w w'->CQ 228 [VA g,VB i] w' (λv w2=>v=VB 0/\w'=w2))
  (hN:∀ w',VD w w'->CQ 213 [VA g,VB i] w' (λv w2=>v= .agg (bv S).toArray/\VD w' w2)):
  CQ 185 [VA g,VB i] w (λv w'=>v= .tuple #[.agg (bv S).toArray,VB 0]/\VD w w'):=by
 have a:=Below.refl w.heap.size w;refine nZ (rs:=[.cell 4 265, .tmp 5]) (n:=17) Tryz.func185 rfl rfl Tryz.ntmps185 dA rfl<|ny<|nK<|oD (List.replicate 128 (Value.int .u8 0)) dA<|λl e g c h=>?_
 have i:=ag a.size g;replace a:=a.acc h;rw[hzb]at c;refine nA<|nk<|nI<|ny<|ng<|ng<|nP (hA e a) ?_
 rintro _ _ ⟨rfl,rfl⟩;refine oG<|ng<|mZ (pJ rfl rfl)<|nk<|qg rfl (dB)<|nU<|nJ<|ny<|ng<|ng<|nP (hN e a) ?_;rintro _ m ⟨rfl,f⟩;replace c:=c.new f;replace a:=a.acc f;refine nT<|oC 128 (bv S) c<|λo c j=>?_
 replace a:=j.below a i;refine nA<|nk<|nY<|ou [_,_] ⟨⟨_,rfl,Ld.qI (k:=128) c dA dA gp⟩,rfl,trivial⟩ ?_
 exact⟨rfl,a⟩
theorem GX {w:World} {g:Nat} {i:Int} {Z:qz} (hzb:List.replicate 128 (Value.int .u8 0)=bv Z) (hzl:(bv Z).length=128)
  (hA:∀ w',VD w w'->CQ 228 [VA g,VB i] w' (λv w2=>v=VB 2/\w'=w2)):
  CQ 185 [VA g,VB i] w (λv w'=>v= .tuple #[.agg (bv Z).toArray,VB 2]/\VD w w'):=by
 have a:=Below.refl w.heap.size w;refine nZ (rs:=[.cell 4 265, .tmp 5]) (n:=17) Tryz.func185 rfl rfl Tryz.ntmps185 dA rfl<|ny<|nK<|oD (List.replicate 128 (Value.int .u8 0)) dA<|λj e f c g=>?_
 have h:=ag a.size f;replace a:=a.acc g;rw[hzb]at c;refine nA<|nk<|nI<|ny<|ng<|ng<|nP (hA e a) ?_
 rintro _ _ ⟨rfl,rfl⟩;refine oG<|ng<|mZ (pJ rfl rfl)<|nk<|uT rfl (dB)<|ny<|mZ (BF (bv Z) (by rw[<-hzb];kernel_rfl))<|ng<|nT<|oC 128 (bv Z) c<|λl c i=>?_
 replace a:=i.below a h;refine nA<|nk<|nY<|qy<|ou [_,_] ⟨⟨_,rfl,Ld.qI (k:=128) c dA dA gp⟩,rfl,trivial⟩ ?_
 exact⟨rfl,a⟩
theorem KW{w:World}{g pl m:Nat}{G:List Nat}{D:Dk}{ol cl:Nat}{st:Int}{fu:Bool}{sv:Nat->Value}(h:uB w g pl m G D ol cl st fu sv)(i:Int):
  CQ 185 [VA g,VB i] w (λv w'=>v= .tuple #[.agg (bv (if xC D i then qa D i.toNat else sG)).toArray,VB (if xC D i then 0 else 2)]/\VD w w'):=by
 have p:=Below.refl w.heap.size w;obtain⟨Z,m,f,g⟩:=WW;rw[m]
 by_cases c:0<=i/\i<D.V.length
 .obtain⟨k,rfl⟩:∃ k:Nat,i=k:=⟨i.toNat,dB⟩
  have e:xC D (k:Int)=true:=decide_eq_true c;rw[e,if_pos rfl,if_pos rfl,aW];have o:=Gi h.ok (i:=k) dB;have j:(bv (qa D k)).length=128:=by rw[oL];exact RZ o.2.1
  have a:=λw' (hb:VD w w')=>Gf (h.new hb) (k:Int)
  have l:=λw' (hb:VD w w')=>Jl (h.new hb) k dB
  rw[if_pos c]at a;generalize qa D k=S at l j |-;exact Gl f g j a l
 .have e:xC D i=false:=decide_eq_false c
  rw[e];have a:=λw' (hb:VD w w')=>Gf (h.new hb) i
  rw[if_neg c]at a;exact GX f g a
theorem d_(D:Dk)(sv:Nat->Value):∀ (m a:Nat),keysOf (since D sv) a m=((List.range' a m).filter (sF D)).map (λi:Nat=>(i:Int))
 |0,a=>rfl
 |m+1,a=>by
  have e:=d_ D sv m (a+1);rw[keysOf,List.range'_succ]
  by_cases c:sF D a=true
  .rw[if_pos (by unfold since;rw[if_pos c];rfl),e,List.filter_cons_of_pos c];rfl
  .rw[if_neg (by unfold since;rw[if_neg c];simp),e,List.filter_cons_of_neg c]
theorem zqs(D:Dk)(sv:Nat->Value):keysOf (since D sv) 0 D.V.length=(vV D).map (λi:Nat=>(i:Int)):=by
 rw[d_,vV,List.range_eq_range']
def Ak(D:Dk):List Int:=(vV D).map (λi:Nat=>(i:Int))
theorem Nh{w:World}{g pl m:Nat}{G:List Nat}{D:Dk}{ol cl:Nat}{st:Int}{fu:Bool}{sv:Nat->Value}(h:uB w g pl m G D ol cl st fu sv):
  CQ 211 [VA g] w (λv w'=>∃ p c,v= .slice p (Ak D).length c/\nM w' p (Ak D).length 1 (iv (Ak D))/\(∀ b o,p=some ⟨b,o,none⟩->w.heap.size<=b)/\VD w w'):=by
 have a:=Below.refl w.heap.size w;have hr:=h.row;have z:=h.ok.n;have j:=h.map;have k:=zqs D sv;have f:=λw' W g (i:MapAt Tryz.prog 3 w' m D.V.length (since D sv))=>Hg w' W g i dB
 rw[k]at f
 change ∀ w' (W:World) g i,Calls _ _ _ _ (qb λv w2=>∃ p c,v= .slice p (Ak D).length c/\nM w2 p (Ak D).length 1 (iv (Ak D))/\(∀ b o,p=some ⟨b,o,none⟩->W.heap.size<=b)/\Below _ _ _)at f
 refine nZ (rs:=[.tmp 2]) (n:=11) Tryz.func211 rfl rfl Tryz.ntmps211 dA rfl<|ny<|nA<|nk<|nI<|ny<|ng<|mZ (yU dA rfl rfl)<|nk<|ui rfl (rfl)<|nU<|nJ<|ny<|ng<|mZ (oo rfl)<|mZ (nG 1)<|mZ (nH hr)<|nP (Rm (some m) w) ?_
 rintro _ l ⟨rfl,q,r⟩;replace a:=a.acc r;have s:=a.size;refine nP (f w l q j) ?_;rintro _ A ⟨p,c,rfl,t,u,y⟩;replace a:=a.acc y;refine lZ ?_;exact⟨p,c,rfl,t,λb o e=>ag s (u b o e),a⟩
theorem JY{D:Dk}{i j:Nat}{v:List qz}(hi:i<D.V.length):pR (xB D i v) j=if i=j then v else pR D j:=by
 unfold pR xB;dsimp only;rw[bI,bI,ek]
 by_cases a:i=j
 .rw[if_pos a,if_pos a,if_pos hi];rfl
 .rw[if_neg a,if_neg a]
theorem ZX{D:Dk}(h:yX D){i:Nat}{v:List qz}(h1:v≠[])(h2:zo v)(h3:v.length<=100000):yX (xB D i v):=by
 refine⟨by show(D.V.set i v).length<=8192;rw[bA];exact h.n,λx a=>?_,λx a=>?_,λx a=>?_⟩
 all_goals
  rcases iO a with e|e
 .exact h.ne x e
 .rw[e];exact h1
 .exact h.sec x e
 .rw[e];exact h2
 .exact h.short x e
 .rw[e];exact h3
theorem zmo(D:Dk)(i:Nat)(v:List qz):zD (xB D i v)=(zD D).set i (JB v):=by
 unfold zD xB;dsimp only;rw[fO]
theorem zmp{D:Dk}{sv:Nat->Value}{i:Nat}{s:qz}(hi:i<D.V.length):since (xB D i [s]) sv=vY (since D sv) i none:=by
 funext j
 unfold since vY sF;rw[JY hi]
 by_cases a:j=i
 .subst a;simp
 .rw[if_neg (show¬i=j from λe=>a e.symm),if_neg a]
theorem zuj{w:World}{g pl m:Nat}{G:List Nat}{D:Dk}{ol cl:Nat}{st:Int}{fu:Bool}{sv:Nat->Value}(h:uB w g pl m G D ol cl st fu sv)(i:Nat)(s:qz)(hi:i<D.V.length)(hs:s.length=128):
  CQ 212 [VA g,VB (i:Int), .agg (bv s).toArray] w (λ_ w'=>uB w' g pl m G (xB D i [s]) ol cl st fu sv/\Kp [pl,m] w w'):=by
 have hr:=h.row;have f:=h.map;have a:=h.own;have P:=h.ok.n;have g:=tC.refl [pl,m] w;have Q:=Sw (Vb h.ok);have R:(zD D).length=D.V.length:=by simp[zD]
 have F:(bv s).length=128:=by rw[oL];exact hs
 have S:=uf s;obtain⟨T,U,V,G⟩:=h.ne;have X:=f.lt;have Y:=a.lt;have Z:=hr.lt;refine nZ (rs:=[]) (n:=18) Tryz.func212 rfl rfl Tryz.ntmps212 dA rfl<|ny<|nK<|qi ((bv s)) rfl<|λa0 a1 a2 y r=>?_
 replace hr:=hr.new r;replace f:=f.new r;replace a:=a.new r;replace g:=g.new r;refine nk<|nI<|qH [pl] dA ?_
 intro a3 q H;replace hr:=hr.new q;replace f:=f.new q;replace a:=a.new q;replace g:=g.new q;replace y:=y.new q;have I:=hr;have J:=y;refine nu 0 (nS)<|nu 1 (oo rfl)<|nu 2 (nG 0)<|nR 3 (λw' z=>nH (I.kq z))<|nu 4 (nS)<|nR 5 (λw' z=>pz 128 (J.kq z))<|nu 6 (qZ (e:=265) (sz:=128) dA rfl rfl (i) dB dB)<|oh 7 dA<|rA rfl rfl<|Jj (bv s) (i*128) a rfl rfl (by rw[F];kernel_rfl) kS (uf _)<|λa4 a t=>?_
 have K:=H.aq t;refine⟨K,?_⟩;replace hr:=hr.only t dB;replace f:=f.only t dB;replace g:=g.only t iB;rw[zuh (Vb h.ok) dB hs]at a;refine pq dA<|nJ<|nO<|ng<|mZ (oo rfl)<|mZ (nG 1)<|mZ (nH hr)<|ng<|nK<|S_ (k:=3) (e:=190) dA dA f rfl rfl (i) ky dB dB<|λa5 f A=>?_
 replace hr:=hr.only A dB;replace a:=a.only A dB;replace g:=g.only A iB;refine mf ?_;have B:=zmo D i [s];rw[show JB [s]=s from rfl]at B;rw[<-B]at a;rw[<-zmp (s:=s) hi]at f;have u:(xB D i [s]).V.length=D.V.length:=bA ..;refine⟨⟨by rw[u];exact hr,by rw[u];exact a,by rw[u];exact f,λj l=>?_,λb hb=>ae (h.inG b hb) g.k.size,h.ne,h.left,ZX h.ok ig (λx C=>by simp at C;rw[C];exact hs) ig,by rw[u];exact h.pos⟩,g.k⟩;have L:¬i=j:=λe=>by
  unfold sF at l;rw[JY hi,if_pos e]at l;simp at l
 unfold sF at l;rw[JY hi,if_neg L]at l |-;have M:=h.sv j l;obtain⟨p,c,N,O,E⟩:=M;exact⟨p,c,N,O.nD g.k λb o e=>by have:=G b (E b o e);simp[this],E⟩
def xq(D:Dk)(xs:List (Nat × qz)):Dk:=xs.foldl (λD p=>xB D p.1 [p.2]) D
theorem Wz(D:Dk):∀ xs,(xq D xs).V.length=D.V.length:=by
 intro xs
 induction xs generalizing D with
 |nil=>rfl
 |cons x xs ih=>
  show(xq (xB D x.1 [x.2]) xs).V.length=_;rw[ih];exact bA ..
theorem Ur:∀ (xs:List (Nat × qz)) (D:Dk) (j:Nat),(∀ p∈xs,p.1<D.V.length)->(∀ p∈xs,p.1≠j)->pR (xq D xs) j=pR D j
 |[],D,j,_,_=>rfl
 |x::xs,D,j,h1,h2=>by
  show pR (xq (xB D x.1 [x.2]) xs) j=_;have a:(xB D x.1 [x.2]).V.length=D.V.length:=bA ..;rw[Ur xs _ j (λp hp=>by rw[a];exact h1 p (aj _ hp)) (λp hp=>h2 p (aj _ hp)),JY (h1 x (aK ..)),if_neg (h2 x (aK ..))]
theorem p_:∀ (xs:List (Nat × qz)) (D:Dk) (j:Nat) (s:qz),(∀ p∈xs,p.1<D.V.length)->(xs.map (·.1)).Nodup->(j,s)∈xs->pR (xq D xs) j=[s]
 |x::xs,D,j,s,h1,h2,h3=>by
  show pR (xq (xB D x.1 [x.2]) xs) j=_;have a:(xB D x.1 [x.2]).V.length=D.V.length:=bA ..;rw[bi,cB]at h2;rcases ak.1 h3 with e|e
  .subst e
   rw[Ur xs _ j (λp hp=>by rw[a];exact h1 p (aj _ hp)) (λp hp e=>h2.1 (bg.2 ⟨p,hp,e⟩)),JY (h1 _ (aK ..)),if_pos rfl]
  .exact p_ xs _ j s (λp hp=>by rw[a];exact h1 p (aj _ hp)) h2.2 e
theorem znY(D:Dk)(xs:List (Nat × qz)){k:Nat}{p:Nat × qz}(h:xs[k]?=some p):xq D (xs.take (k+1))=xB (xq D (xs.take k)) p.1 [p.2]:=by
 rw[bf,h];simp[xq,fG]
theorem znZ(D:Dk)(xs:List (Nat × qz)):(xq D xs).left=D.left/\(xq D xs).dead=D.dead:=by
 induction xs generalizing D with
 |nil=>exact⟨rfl,rfl⟩
 |cons x xs ih=>exact ih (xB D x.1 [x.2])
theorem Qm{D:Dk}{i:Nat}:i∈vV D↔i<D.V.length/\sF D i=true:=by
 rw[vV,dU,bZ]
theorem O_(D:Dk):(vV D).Nodup:=List.Nodup.sublist List.filter_sublist List.nodup_range
def xY(D:Dk)(f:Nat->Nat->qz):List (Nat × qz):=(vV D).zipIdx.map λx=>(x.1,f x.2 x.1)
theorem zpe{D:Dk}{f:Nat->Nat->qz}{k i:Nat}(h:(vV D)[k]?=some i):(xY D f)[k]?=some (i,f k i):=by
 rw[xY,aV,List.getElem?_zipIdx,h];simp
theorem OY(D:Dk)(f:Nat->Nat->qz):(xY D f).map (·.1)=vV D:=by
 rw[xY,dJ];show(vV D).zipIdx.map (λx=>x.1)=vV D;exact List.zipIdx_map_fst ..
theorem zrL(D:Dk)(f:Nat->Nat->qz):(xY D f).length=(vV D).length:=by rw[<-OY D f,aP]
theorem UE{D:Dk}{f:Nat->Nat->qz}{p:Nat × qz}(h:p∈xY D f):p.1<D.V.length:=by
 have:p.1∈(xY D f).map (·.1):=iP h;rw[OY]at this;exact(Qm.1 this).1
theorem zn0{D:Dk}{f:Nat->Nat->qz}{k i:Nat}(h:(vV D)[k]?=some i):pR (xq D ((xY D f).take k)) i=pR D i:=by
 refine Ur _ D i (λp hp=>UE (fH hp)) λp hp e=>?_
 obtain⟨j,a⟩:=iQ hp;rw[bD]at a
 split at a
 .rename_i q
  have c:((xY D f).map (·.1))[j]?=some p.1:=by rw[aV,a];rfl
  rw[OY,e]at c;have g:=O_ D;have k:=(aL.1 c);have l:=(aL.1 h);obtain⟨r,m⟩:=k;obtain⟨s,o⟩:=l;have:=(List.getElem_inj g).1 (m.trans o.symm);omega
 .cases a
theorem Mt{D:Dk}{k:Nat}(h:k<(vV D).length):∃ i,(vV D)[k]?=some i/\(iv (Ak D))[k]?=some (VB (i:Int))/\i<D.V.length:=by
 obtain⟨i,a⟩:∃ i,(vV D)[k]?=some i:=⟨_,aG h⟩;refine⟨i,a,?_,(Qm.1 (aO a)).1⟩;rw[WN,Ak,aV,a];rfl
theorem FH(D:Dk):(Ak D).length=(vV D).length:=by simp[Ak]
theorem Dt(D:Dk):(uF D).V=D.V:=by unfold uF;split<;>rfl
def Qi(D:Dk):Dk:=if qM D then xq (uF D) (xY (uF D) λ_ i=>qa (uF D) i)else uF D
theorem Iy{w:World}{g pl m:Nat}{G:List Nat}{D:Dk}{ol cl:Nat}{st:Int}{fu:Bool}{sv:Nat->Value}(h:uB w g pl m G D ol cl st fu sv):
   CQ 152 [VA g] w (λv w'=>v=VB (if qM D then 0 else 10)/\(∃ st',uB w' g pl m G (Qi D) ol cl st' fu sv)/\Kp [g,pl,m] w w'):=by
 have H:=XU h;have hp:=h.pos;have t:=Ce h;have a:=tC.refl [g,pl,m] w;obtain⟨ok,I⟩:=aa (qM D);rw[Qi];rw[I]at t |-;obtain⟨D1,J⟩:=aa (uF D);rw[J]at t |-;have a2:=h.row.lt;refine nZ (rs:=[.tmp 2]) (n:=28) Tryz.func152 rfl rfl Tryz.ntmps152 dA rfl<|ny<|nA<|nk<|nI<|ny<|ng<|nP (H) ?_
 rintro _ _ ⟨rfl,rfl⟩;refine mZ (qB rfl rfl)<|nk<|qg rfl (dB)<|nU<|nJ<|nI<|ny<|ng<|nP (t) ?_;rintro _ a3 ⟨rfl,⟨s,j⟩,K⟩;replace a:=a.only K iB;refine oG<|ng<|mZ (pJ rfl rfl)<|nk<|oZ rfl (λu=>?_)<|λu=>?_
 ·
  refine mg ?_;have z:ok=false:=by cases ok with|false=>rfl|true=>simp at u
  refine⟨by rw[z];rfl,⟨s,by rw[z];exact j⟩,a.k⟩
 ·
  have L:ok=true:=by cases ok with|true=>rfl|false=>simp at u
  rw[L,if_pos rfl,if_pos rfl];have M:=Nh j;have a4:=FH D1;have a5:=j.row.lt;have a6:=j.own.lt;have a7:=j.map.lt;refine nU<|nJ<|nI<|ny<|ng<|nP (M) ?_
  rintro _ N ⟨p,c,rfl,l,O,P⟩;replace a:=a.new P;refine mh ?_;have a8:=j.ok.n;have a9:(vV D1).length<=D1.V.length:=ag (gG _ _) (by rw[gH];exact ax _);have r:∃ X,(xY D1 λ_ i=>qa D1 i)=X:=⟨_,rfl⟩;obtain⟨X,hX⟩:=r;rw[hX];have b0:X.length=(vV D1).length:=by rw[<-hX,zrL]
  have Q:∀ b o,p=some ⟨b,o,none⟩->b∉[pl,m]:=λb o e R=>by
    have:=O b o e;simp only[ak,bq,or_false]at R;omega
  have A:uB N g pl m G (xq D1 (X.take 0)) ol cl s fu sv:=j.new kQ;refine qY (α:=Nat) 0 (λk=>[(17,VB (k:Nat)),(16,VB ((Ak D1).length:Nat)),(15, .slice p (Ak D1).length c),(0,VA g)])
    (λk w'=>k<=(vV D1).length/\uB w' g pl m G (xq D1 (X.take k)) ol cl s fu sv/\nM w' p (Ak D1).length 1 (iv (Ak D1))/\tC [g,pl,m] w w') (λk=>(vV D1).length - k)
    VF ⟨aC _,A,l,a⟩ ?_
  clear A l a;rintro k f b1 ⟨b2,q,l,a⟩;refine ny<|mZ (pI rfl rfl)<|nk<|nI<|oZ rfl (λS=>?_)<|λS=>?_
  ·
   refine lN ?_;have r:=Mt (D:=D1) (k:=k) dB;obtain⟨i,B,T,U⟩:=r;have r:=l.some dB;obtain⟨b3,op,rfl,b4⟩:=r;have V:qa (xq D1 (X.take k)) i=qa D1 i:=by rw[qa,<-hX,zn0 B];rfl
   have b5:=Wz D1 (X.take k);have Y:X[k]?=some (i,qa D1 i):=by rw[<-hX];exact zpe B
   have C:=Jl q i dB;rw[V]at C;have Z:=znY D1 X Y;have a0:(qa D1 i).length=128:=RZ (Gi j.ok U).2.1;refine nO<|mZ (uX (e:=3) dA rfl rfl (k) dB dB)<|mZ (oK rfl (Ld.sl1 l dA T))<|nA<|nk<|nO<|ng<|ng<|ng<|ng<|nP (C) ?_
   rintro _ b6 ⟨rfl,y⟩;replace a:=a.new y;replace q:=q.new y;refine qA rfl (oz dA rfl) (zuj q i _ dB a0) ?_;rintro _ b7 ⟨E,F⟩;replace a:=a.nD F lG;rw[<-Z]at E;refine oI<|pO<|nJ<|nO<|mZ (oJ rfl rfl (Coup.nV dB))<|ng<|oI<|oM ⟨k+1,dB,⟨by go_num,rfl,rfl,rfl,rfl⟩,dB,E,(l.new y).nD F Q,a⟩
  ·
   have a1:k=(vV D1).length:=by omega
   rw[a1,aQ dB]at q;refine mi ?_;exact⟨rfl,⟨s,q⟩,a.k⟩
structure ym(w:World)(G:List Nat)(D:Dk)(sv:Nat->Value):Prop where
 own:∀ i,sF D i=true->og w 0 265 128 (sv i) ((pR D i).length - 1) (bv (pR D i).tail.flatten)/\∀ b,(sv i).ownBlock=some b->b∈G
 sep:∀ i j b,sF D i=true->sF D j=true->(sv i).ownBlock=some b->(sv j).ownBlock=some b->i=j
theorem ym.nD{w w':World}{G M:List Nat}{D:Dk}{sv:Nat->Value}(h:ym w G D sv)(k:Kp M w w')(hM:∀ b∈G,b∉M):ym w' G D sv:=
 ⟨λi a=>⟨(h.own i a).1.nD k λb hb e=>hM b ((h.own i a).2 b e) hb,(h.own i a).2⟩,h.sep⟩
theorem ym.alike{w:World}{G:List Nat}{D D':Dk}{sv:Nat->Value}(h:ym w G D sv)(hV:D'.V=D.V):ym w G D' sv:=by
 have e:∀ i,pR D' i=pR D i:=λi=>by unfold pR;rw[hV]
 have a:∀ i,sF D' i=sF D i:=λi=>by unfold sF;rw[e]
 exact⟨λi c=>by rw[e];exact h.own i (by rw[<-a];exact c),λi j b c f=>h.sep i j b (by rw[<-a];exact c) (by rw[<-a];exact f)⟩
theorem ym.look{w:World}{g pl m:Nat}{G:List Nat}{D:Dk}{ol cl:Nat}{st:Int}{fu:Bool}{sv:Nat->Value}(h:uB w g pl m G D ol cl st fu sv)(ho:ym w G D sv)(i:Nat)(hi:i<D.V.length):
  ∃ p c,(since D sv i).getD (VC)= .slice p ((pR D i).length - 1) c/\og w 0 265 128 (.slice p ((pR D i).length - 1) c) ((pR D i).length - 1) (bv (pR D i).tail.flatten)/\(∀ b,Value.ownBlock (.slice p ((pR D i).length - 1) c)=some b->b∈G)/\∀ j b,sF D j=true->j≠i->Value.ownBlock (.slice p ((pR D i).length - 1) c)=some b->(sv j).ownBlock≠some b:=by
 by_cases hb:sF D i=true
 .obtain⟨p,c,g,_,_⟩:=h.sv i hb
  have f:=ho.own i hb;rw[g]at f;refine⟨p,c,by rw[since,if_pos hb];exact g,f.1,f.2,λj b k l e m=>l ?_⟩;exact ho.sep j i b k hb m (by rw[g];exact e)
 .have g:=(Gi h.ok hi).1
  have f:(pR D i).length=1:=by
   have:=fF.2 g;simp only[sF,decide_eq_true_eq]at hb;omega
  obtain⟨a,o⟩:=ib.1 f;refine⟨none,0,by rw[since,if_neg hb,f];rfl,?_,(λb e=>nomatch e),(λj b _ _ e=>nomatch e)⟩;rw[o];exact xV _ _ _ _
theorem zn1{D:Dk}{sv:Nat->Value}{i:Nat}{v:List qz}{u:Value}(hi:i<D.V.length)(hv:1<v.length):since (xB D i v) (λj=>if j=i then u else sv j)=vY (since D sv) i (some u):=by
 funext j
 unfold since vY sF;rw[JY hi]
 by_cases a:j=i
 .subst a;simp[hv]
 .simp only[if_neg (show¬i=j from λe=>a e.symm),if_neg a]
theorem zpf {w w':World} {g pl m:Nat} {G:List Nat} {D:Dk} {ol cl:Nat} {st:Int} {fu:Bool} {sv:Nat->Value} {i:Nat} {s:qz} {u:Value} {ob:Option Nat} {p:Option Addr} {c:Nat}
  (h:uB w g pl m G D ol cl st fu sv) (ho:ym w G D sv) (hi:i<D.V.length) (hs:s.length=128) (hsh:(pR D i).length<100000)
  (k:Kp (m::ob.toList) w w') (hmap:MapAt Tryz.prog 3 w' m D.V.length (vY (since D sv) i (some u))) (hu:u= .slice p ((pR D i).length - 1+1) c)
  (hv:og w' 0 265 128 u ((pR D i).length - 1+1) (bv (pR D i).tail.flatten++bv s)) (hpG:∀ b,ob=some b->b∈G)
  (hsep:∀ j b,sF D j=true->j≠i->ob=some b->(sv j).ownBlock≠some b) (hva:∀ b,u.ownBlock=some b->ob=some b\/w.heap.size<=b):
  ∃ G' sv',uB w' g pl m G' (xB D i (pR D i++[s])) ol cl st fu sv'/\ym w' G' (xB D i (pR D i++[s])) sv'/\∀ b∈G',b∈G\/w.heap.size<=b:=by
 obtain⟨J,a0,b2⟩:=Gi h.ok hi;have b3:=fF.2 J;obtain⟨a1,O,P,B⟩:=h.ne;have hX:∀ b,b∉G->b≠m->b∉m::ob.toList:=λb hb a2 e=>by
  rcases ak.1 e with e|e
  .exact a2 e
  .exact hb<|hpG b<|ah.1 e
 obtain⟨D',f⟩:=aa (xB D i (pR D i++[s]));have C:∀ j,pR D' j=if i=j then pR D i++[s]else pR D j:=λj=>by rw[<-f];exact JY hi
 have H:D'.V.length=D.V.length:=by rw[<-f];exact bA ..
 have b4:sF D' i=true:=by unfold sF;rw[C,if_pos rfl];simp;omega
 have I:∀ j,j≠i->sF D' j=sF D j:=λj c=>by unfold sF;rw[C,if_neg (bT c)]
 have a3:zD D'=zD D:=by
  rw[<-f,zmo];have a4:JB (pR D i++[s])=JB (pR D i):=by obtain⟨a,l,e⟩:=jE J;rw[e];rfl
  rw[a4];have Q:=P_ hi;refine dI λj=>?_
  rw[ek]
  by_cases R:i=j
  .subst R
   rw[if_pos rfl,if_pos (aL.1 Q).1,Q]
  .rw[if_neg R]
 have a5:bv (pR D' i).tail.flatten=bv (pR D i).tail.flatten++bv s:=by
  rw[C,if_pos rfl,<-wR];obtain⟨a,l,e⟩:=jE J;rw[e];simp
 have a6:(pR D' i).length - 1=(pR D i).length - 1+1:=by rw[C,if_pos rfl,aA,dV];omega
 obtain⟨sv',K⟩:∃ sv':Nat->Value,sv'=λj=>if j=i then u else sv j:=⟨_,rfl⟩
 have L:sv' i=u:=by rw[K];simp
 have E:∀ j,j≠i->sv' j=sv j:=λj c=>by rw[K];simp[c]
 have a7:=k.size;have a8:∀ b,u.ownBlock=some b->b∈G\/w.heap.size<=b:=λb e=>(hva b e).imp (hpG b) id
 have S:∀ b,b∈u.ownBlock.toList->b∈G\/w.heap.size<=b:=λb hb=>a8 b (ah.1 hb)
 have b5:=h.row.lt;have b6:=h.own.lt;have b7:=h.map.lt;have T:∀ j,sF D' j=true->og w' 0 265 128 (sv' j) ((pR D' j).length - 1) (bv (pR D' j).tail.flatten)/\∀ b,(sv' j).ownBlock=some b->b∈G++u.ownBlock.toList:=λj c=>by
  by_cases e:j=i
  .subst e
   rw[L,a6,a5];exact⟨hv,λb e=>aB _ (ah.2 e)⟩
  .rw[I j e]at c
   rw[E j e,C,if_neg (bT e)];have:=ho.own j c;refine⟨this.1.nD k λb hb t=>?_,λb t=>aF _ (this.2 b t)⟩;rcases ak.1 hb with hb|hb
   .exact(B b (this.2 b t)).2.2 hb
   .exact hsep j b c e (ah.1 hb) t
 rw[f];refine⟨G++u.ownBlock.toList,sv',?_,⟨T,λa b x U hb y z=>?_⟩,λb hb=>?_⟩
 .have a9:since D' sv'=vY (since D sv) i (some u):=by rw[<-f,K];exact zn1 hi (by rw[aA,dV];omega)
  refine⟨by rw[H];rw[show D'.dead=D.dead by rw[<-f];rfl];exact h.row.nD k (hX g (λe=>(B g e).1 rfl) O),by rw[H,a3];exact h.own.nD k (hX pl (λe=>(B pl e).2.1 rfl) P),by rw[H,a9];exact hmap,λj c=>?_,λb hb=>?_,⟨a1,O,P,λb hb=>?_⟩,by rw[show D'.left=D.left by rw[<-f];rfl];exact h.left,?_,by rw[H];exact h.pos⟩
  .obtain⟨M,V⟩:=T j c
   obtain⟨q,b0,e⟩:=M.form;rw[e]at M V;exact⟨q,b0,e,M.sl,λb o t=>V b (by rw[t];rfl)⟩
  .rcases ay.1 hb with hb|hb
   .exact ae (h.inG b hb) a7
   .exact(hv.lt b (ah.1 hb)).2
  .rcases ay.1 hb with hb|hb
   .exact B b hb
   .rcases S b hb with hb|hb
    .exact B b hb
    .exact⟨dB,dB,dB⟩
  .rw[<-f]
   refine ZX h.ok ig (λx F=>?_) (by rw[aA,dV];omega);rcases ay.1 F with F|F
   .exact a0 x F
   .rw[aJ.1 F];exact hs
 .have X:∀ p,p≠i->sF D' p=true->u.ownBlock=some x->(sv p).ownBlock=some x->False:=λp Y N b1 Z=>by
   rw[I p Y]at N;rcases hva x b1 with e|e
   .exact hsep p x N Y e Z
   .have:=h.inG x ((ho.own p N).2 x Z);omega
  by_cases A:a=i
  .by_cases r:b=i
   .rw[A,r]
   .rw[A,L]at y
    rw[E b r]at z;exact(X b r hb y z).elim
  .by_cases r:b=i
   .rw[r,L]at z
    rw[E a A]at y;exact(X a A U z y).elim
   .rw[E a A]at y
    rw[E b r]at z;exact ho.sep a b x (by rw[<-I a A];exact U) (by rw[<-I b r];exact hb) y z
 .rcases ay.1 hb with hb|hb
  .exact .inl hb
  .exact S b hb
theorem zuk{w:World}{g pl m:Nat}{G:List Nat}{D:Dk}{ol cl:Nat}{st:Int}{fu:Bool}{sv:Nat->Value}(h:uB w g pl m G D ol cl st fu sv)(ho:ym w G D sv)(i:Nat)(s:qz)(hi:i<D.V.length)(hs:s.length=128)(hsh:(pR D i).length<100000):
   Calls Tryz.prog 181 [VA g,VB (i:Int), .agg (bv s).toArray].toArray w
    (qb λv w'=>v=VB (if qM D then 0 else 10)/\(∃ st' G' sv',uB w' g pl m G' (KR D i s) ol cl st' fu sv'/\ym w' G' (KR D i s) sv'/\∀ b∈G',b∈G\/w.heap.size<=b)/\Kp ([g,pl,m]++G) w w'):=by
 have e9:maxLen=9223372036854775807:=by decide
 have A:=tC.refl ([g,pl,m]++G) w;have b9:(bv s).length=128:=by rw[oL];exact hs
 obtain⟨D1,Z⟩:=aa (uF D);obtain⟨ok,c4⟩:=aa (qM D);have a0:D1.V=D.V:=by rw[<-Z];exact Dt D
 have a1:pR D1 i=pR D i:=by unfold pR;rw[a0]
 rw[KR,Z,c4,<-a1];rw[<-a1]at hsh;refine nZ (rs:=[.tmp 6]) (n:=34) Tryz.func181 rfl rfl Tryz.ntmps181 dA rfl<|ny<|nK<|qi ((bv s)) rfl<|λS f0 f1 B C=>?_
 replace A:=A.new C;have c5:=h.new C;have c6:=Gf c5 (i:Int);rw[if_pos dB]at c6;have c7:=Ce c5;rw[Z,c4]at c7;have d5:=ho.nD (M:=[]) (Kp.of_below C) ig;have f2:S≠g:=by have:=h.row.lt;omega
 refine nA<|nk<|nI<|ny<|ng<|ng<|nP c6 ?_
 rintro _ _ ⟨rfl,rfl⟩;refine oG<|ng<|mZ (pJ rfl rfl)<|nk<|qg rfl (ig)<|nU<|nJ<|nI<|ny<|ng<|nP (c7) ?_;rintro _ T ⟨rfl,⟨U,j⟩,E⟩;replace A:=A.only E iB;replace B:=B.only E dB;have V:=(d5.nD (Kp.rJ E) (λb hb=>by simpa using(h.ne.2.2.2 b hb).1)).alike a0;refine oG<|ng<|mZ (pJ rfl rfl)<|nk<|oZ rfl (λl=>?_)<|λl=>?_
 ·
  refine mg ?_;have a2:ok=false:=by cases ok with|false=>rfl|true=>simp at l
  refine⟨by rw[a2];rfl,⟨U,G,sv,by rw[a2];exact j,by rw[a2];exact V,λb hb=>.inl hb⟩,A.k⟩
 ·
  have d6:ok=true:=by cases ok with|true=>rfl|false=>simp at l
  have hr:=j.row;have a:=j.map;have f3:=j.ok.n;rw[d6,if_pos rfl,if_pos rfl];have X:i<D1.V.length:=by rw[a0];exact hi
  have F:=ym.look j V i X;obtain⟨p,c,c8,q,t,a3⟩:=F;obtain⟨ob,H⟩:=aa ((Value.slice p ((pR D1 i).length - 1) c).ownBlock);have l:=h.ne;clear a1;rw[H]at t a3;have Y:∀ b,b∉G->ob≠some b:=λb hb e=>hb (t b e)
  have f4:=Y g λu=>(l.2.2.2 g u).1 rfl
  have c9:=Y m λu=>(l.2.2.2 m u).2.2 rfl
  have f5:=Y pl λu=>(l.2.2.2 pl u).2.1 rfl
  have f6:=Y S λu=>by have:=h.inG S u;omega
  have f7:S≠m:=by have:=h.map.lt;omega
  have f8:g≠m:=l.2.1;have f9:pl≠m:=l.2.2.1;have g0:=fF.2 (Gi j.ok X).1;have g1:uB T g pl m G D1 ol cl U fu sv:=j;have f:=tC.refl (m::ob.toList) T;have d0:=A;refine nU<|nJ<|nI<|qH (m::(Value.slice p ((pR D1 i).length - 1) c).ownBlock.toList) dA ?_
  intro g2 y a4;replace B:=B.new y;replace hr:=hr.new y;replace a:=a.new y;replace f:=f.new y;replace q:=q.new y;have d7:=B;have d1:=hr;refine nu 0 (nS)<|nu 1 (oo rfl)<|nu 2 (nG 1)<|nR 3 (λw' I=>nH (d1.kq I))<|nu 4 (nS)<|nu 5 (nS)<|nu 6 (oo rfl)<|nu 7 (nG 1)<|nR 8 (λw' I=>nH (d1.kq I))<|nu 9 (nS)<|nR 11 (λw' I=>pz 128 (d7.kq I))<|zw 10 12 dA ?_ ?_
  ·
   refine Bi rfl rfl (NJ (k:=3) (e:=190) (VC) dA dA kG a rfl rfl i ky dB dB c8) a4<|oh 12 dA<|rf rfl rfl<|tT (e:=265) (.agg (bv s).toArray) (bv s) (List.replicate 128 (Value.int .u8 0)) 128 dA dA rfl rfl iw ⟨iT,iT⟩<|λd8 J d9 a5 o=>?_
   have d2:=a4.add0 o;refine⟨d2,?_⟩;replace a:=a.new o;replace f:=f.new o;replace q:=q.new o;refine oh 13 dA ?_;have a6:=a5.tY (m:=1) (sz:=128) b9 dB;refine rf rfl rfl<|tu (e:=265) (sz:=128) (bytes:=128) (z:=.agg (List.replicate 128 (Value.int .u8 0)).toArray) dA rfl dA rfl iT rfl q rfl a6 (uf _) jB dB (λe0=>dB)<|λK a7 a8 L a9=>?_
   have d3:=d2.Gp q L kN;refine⟨d3,?_⟩;have N:Kp ob.toList J a7:=by rw[<-H];exact Kp.rU L
   have O:∀ b,K.ownBlock=some b->ob=some b\/J.heap.size<=b:=by rw[<-H];exact a9
   replace a:=a.nD N (by simpa using c9);replace f:=f.nD N (λe1 b0=>.inl (aj _ b0));refine oh 14 dA<|rA rfl rfl<|Kt (k:=3) (e:=190) (_) dA dA a rfl rfl rfl (i) ky dB dB<|λg3 a b1=>?_
   have e2:=d3.aq b1;refine⟨e2,?_⟩;replace f:=f.only b1 iB;refine mo ?_;have e3:=j.map.lt;have P:=ag y.size o.size;have b2:∀ b,K.ownBlock=some b->b∈G\/T.heap.size<=b:=λb e=>(O b e).imp (t b) (λr=>ag P r)
   have Q:=a8.nD (Kp.rJ b1) (λb hb e=>by
    have j:b=m:=by simpa using hb
    rcases b2 b e with R|R
    .exact(l.2.2.2 b R).2.2 j
    .omega)
   obtain⟨e4,e5,b3⟩:=Q.form;have F:=zpf (s:=s) j V X hs hsh f.k a b3 Q t a3 (λb e=>(O b e).imp id (λr=>ag P r));obtain⟨G',sv',b4,b5,b6⟩:=F;refine⟨rfl,⟨U,G',sv',b4,b5,λb hb=>(b6 b hb).imp id λr=>?_⟩,?_⟩
   .have e6:=C.size
    have e7:=(Kp.rJ E).size;omega
   .refine(d0.nD f.k λb hb=>.inl ?_).k
    rcases ak.1 hb with hb|hb
    .rw[hb];simp
    .exact aB _<|t b<|ah.1 hb
  ·
   refine rf rfl rfl<|tT (e:=265) (.agg (bv s).toArray) (bv s) (List.replicate 128 (Value.int .u8 0)) 128 dA dA rfl rfl iw ⟨iT,iT⟩<|λd8 J d9 a5 o=>?_
   have b7:=a4.add0 o;refine⟨b7,?_⟩;replace a:=a.new o;replace f:=f.new o;replace q:=q.new o;refine oh 10 dA<|Bi rfl rfl (NJ (k:=3) (e:=190) (VC) dA dA kG a rfl rfl (i) ky dB dB c8) b7<|oh 13 dA ?_
   have a6:=a5.tY (m:=1) (sz:=128) b9 dB;refine rf rfl rfl<|tu (e:=265) (sz:=128) (bytes:=128) (z:=.agg (List.replicate 128 (Value.int .u8 0)).toArray) dA rfl dA rfl iT rfl q rfl a6 (uf _) jB dB (λe0=>dB)<|λK a7 a8 L a9=>?_
   have d4:=b7.Gp q L kN;refine⟨d4,?_⟩;have N:Kp ob.toList J a7:=by rw[<-H];exact Kp.rU L
   have O:∀ b,K.ownBlock=some b->ob=some b\/J.heap.size<=b:=by rw[<-H];exact a9
   replace a:=a.nD N (by simpa using c9);replace f:=f.nD N (λe1 b0=>.inl (aj _ b0));refine oh 14 dA<|rA rfl rfl<|Kt (k:=3) (e:=190) (_) dA dA a rfl rfl rfl (i) ky dB dB<|λg4 a b8=>?_
   have e8:=d4.aq b8;refine⟨e8,?_⟩;replace f:=f.only b8 iB;refine mo ?_;have e3:=j.map.lt;have P:=ag y.size o.size;have b2:∀ b,K.ownBlock=some b->b∈G\/T.heap.size<=b:=λb e=>(O b e).imp (t b) (λr=>ag P r)
   have Q:=a8.nD (Kp.rJ b8) (λb hb e=>by
    have j:b=m:=by simpa using hb
    rcases b2 b e with R|R
    .exact(l.2.2.2 b R).2.2 j
    .omega)
   obtain⟨e4,e5,b3⟩:=Q.form;have F:=zpf (s:=s) j V X hs hsh f.k a b3 Q t a3 (λb e=>(O b e).imp id (λr=>ag P r));obtain⟨G',sv',b4,b5,b6⟩:=F;refine⟨rfl,⟨U,G',sv',b4,b5,λb hb=>(b6 b hb).imp id λr=>?_⟩,?_⟩
   .have e6:=C.size
    have e7:=(Kp.rJ E).size;omega
   .refine(d0.nD f.k λb hb=>.inl ?_).k
    rcases ak.1 hb with hb|hb
    .rw[hb];simp
    .exact aB _<|t b<|ah.1 hb
theorem zul{w:World}{g pl m:Nat}{G:List Nat}{D:Dk}{ol cl:Nat}{st:Int}{fu:Bool}{sv:Nat->Value}(h:uB w g pl m G D ol cl st fu sv)(i:Int)(s:qz)(hi:¬(0<=i/\i<D.V.length))(hs:s.length=128):
  Calls Tryz.prog 181 [VA g,VB i, .agg (bv s).toArray].toArray w
   (qb λv w'=>v=VB 2/\VD w w'):=by
 have a:=Below.refl w.heap.size w;have g:(bv s).length=128:=by rw[oL];exact hs
 refine nZ (rs:=[.tmp 6]) (n:=34) Tryz.func181 rfl rfl Tryz.ntmps181 dA rfl<|ny<|nK<|qi ((bv s)) rfl<|λj k l m c=>?_
 replace a:=a.acc c;have f:=h.new c;have e:=Gf f i;rw[if_neg hi]at e;refine nA<|nk<|nI<|ny<|ng<|ng<|nP (e) ?_
 rintro _ _ ⟨rfl,rfl⟩;refine mq ?_;exact⟨rfl,a⟩
def xe(n:Nat):Dk:=⟨List.replicate n [sG],-1,false⟩
theorem Fg{n:Nat}(hn:n<=8192):yX (xe n):=by
 have c:∀ v∈(xe n).V,v=[sG]:=λv a=>(eB.1 a).2
 refine⟨by show(List.replicate n [sG]).length<=_;rw[bz];exact hn,λv a=>by rw[c v a];simp,λv a s e=>?_,λv a=>by rw[c v a];simp⟩;rw[c v a]at e;rw[aJ.1 e,sG,bz]
theorem Oq(n:Nat):(xe n).V.length=n:=bz ..
theorem TP{n i:Nat}:sF (xe n) i=false:=by
 unfold sF pR xe;dsimp only;rw[bI,iR]
 split<;>simp
theorem zkx(n:Nat):List.replicate (n*128) (Value.int .u8 0)=bv (zD (xe n)).flatten:=by
 have e:zD (xe n)=List.replicate n sG:=by
  unfold zD xe;dsimp only;rw[fP];rfl
 have a:∀ n,(List.replicate n sG).flatten=List.replicate (n*128) 0:=by
  intro n
  induction n with
  |zero=>rfl
  |succ n ih=>
   rw[List.replicate_succ,eY,ih,sG,gZ]
   congr 1;omega
 rw[e,a,bv,fP];rfl
theorem Ls{w:World}(n:Nat)(h1:1<=n)(h2:n<=8192):
  CQ 63 [VB (n:Int)] w (λv w'=>∃ g pl m,v= .tuple #[VA g,VB 0]/\uB w' g pl m [] (xe n) 0 n 0 false (λ_=>VC)/\w.heap.size<=g/\w.heap.size<=pl/\w.heap.size<=m/\VD w w'):=by
 have a:=Below.refl w.heap.size w;have z:maxLen=9223372036854775807:=by decide
 refine nZ (rs:=[.tmp 2, .tmp 3]) (n:=15) Tryz.func63 rfl rfl Tryz.ntmps63 dA rfl<|ny<|nA<|nA<|nk<|nI<|ny<|ng<|mZ (pI rfl rfl)<|ng<|uy 6 rfl (dB)<|nE<|ng<|nE<|mZ (rz rfl rfl)<|mZ (oP rfl)<|nk<|qg rfl (dB)<|nU<|nJ<|ny<|ng<|nK<|WP (e:=265) n (List.replicate 128 (.int .u8 0)) 128 128 (.int .u8 0) dA dA ⟨_,rfl,rfl⟩ ⟨_,rfl,rfl⟩ (by intro u p;exact(eB.1 p).2) ig dB dB<|λf A B c q=>?_
 replace a:=a.acc q;rw[zkx n]at c;have C:=c.lt;refine nK<|QA (k:=3) (n)<|λg D E h m=>?_
 replace c:=c.new m;replace a:=a.acc m;have F:=h.lt;refine mZ (AC (.slice (some ⟨f,0,none⟩) n n) (.map (some g)) [.slice (some ⟨f,0,none⟩) n n, .map (some g),VB 0, .bool false, .bool false] rfl rfl dA)<|nK<|qi ([.slice (some ⟨f,0,none⟩) n n, .map (some g),VB 0, .bool false, .bool false]) rfl<|λr G H s j=>?_
 replace c:=c.new j;replace h:=h.new j;replace a:=a.acc j;refine nA<|nA<|nk<|nY<|ou [_,_] ⟨rfl,rfl,trivial⟩ ?_
 have l:=Oq n;have t:since (xe n) (λ_=>VC)=λ_=>none:=by
  funext i
  unfold since;rw[TP];rfl
 have y:(bv (zD (xe n)).flatten).length=n*128:=by rw[<-zkx,bz]
 refine⟨r,f,g,rfl,⟨by rw[l];exact s,by rw[l];exact c.owns (aC _) y dB,by rw[l,t];exact h,λi o=>?_,(λb hb=>nomatch hb),⟨dB,dB,dB,λb hb=>(nomatch hb)⟩,⟨dB,dB,rfl⟩,Fg h2,dB⟩,dB,dB,dB,a⟩;rw[TP]at o;cases o
end Go.Proofs.YtpaniebomegnbaaGreat
namespace Coup
open Go Go.RowKit
theorem Kp.BH{M:List Nat}{w w':World}(h:VD w w'):Kp M w w':=(Kp.of_below (M:=[]) h).weak λ_ _ a=>nomatch a
structure Mv(B B':List Nat)(w w':World):Prop where
 k:Kp B w w'
 sub:∀ b∈B',b∈B\/w.heap.size<=b
theorem Mv.LA{B:List Nat}{w w':World}(h:Kp B w w'):Mv B B w w':=⟨h,λ_ hb=>.inl hb⟩
theorem Kp.Pw{lo:Nat}{w w':World}(h:Below lo w w'):Kp (List.range' lo (w.heap.size - lo)) w w':=
 ⟨h.os,h.tape,h.output,h.size,λi e a=>h.block i (dW.1 λc=>a (dw.2 ⟨c,dB⟩))⟩
theorem VQ{lo n b:Nat}(h:b∈List.range' lo n):lo<=b:=(dw.1 h).1
theorem Qg{w0 w w':World}{lo:Nat}(h:VD w0 w)(k:Below lo w w')(hl:w0.heap.size<=lo):VD w0 w':=h.nD (Kp.Pw k) λ_ a=>ag hl (VQ a)
class nz (X:VE):Prop where
 nD:∀ {w w':World} {B M:List Nat},X w B->Kp M w w'->(∀ b∈B,b∉M)->X w' B
 lt:∀ {w:World} {B:List Nat},X w B->∀ b∈B,b<w.heap.size
def None:VE:=λ_ B=>B=[]
instance:nz None:=⟨λa _ _=>a,λa b hb=>by rw[a]at hb;cases hb⟩
def Duo(X Y:VE)(lo:Nat)(w:World):Prop:=∃ B C,X w B/\Y w C/\(∀ b∈B,lo<=b/\b∉C)/\∀ b∈C,lo<=b
namespace Duo
variable {X X' Y Y':VE}{lo:Nat}{w w':World}
end Duo
end Coup
namespace Go.Proofs.YtpaniebomegnbaaGreat
open Go Go.RowKit Coup
def xS(w:World)(g:Nat)(B:List Nat)(D:Dk):Prop:=∃ pl m G ol cl st fu sv,B=[g,pl,m]++G/\uB w g pl m G D ol cl st fu sv/\ym w G D sv
namespace xS
variable {w w':World}{g:Nat}{B M:List Nat}{D:Dk}
theorem nD(h:xS w g B D)(k:Kp M w w')(hM:∀ b∈B,b∉M):xS w' g B D:=by
 obtain⟨pl,m,G,ol,cl,st,fu,sv,rfl,a,c⟩:=h;exact⟨pl,m,G,ol,cl,st,fu,sv,rfl,a.nD k ⟨hM g ig,hM pl ig,hM m ig,λb hb=>hM b jX⟩,c.nD k λb hb=>hM b jX⟩
theorem lt(h:xS w g B D):∀ b∈B,b<w.heap.size:=by
 obtain⟨pl,m,G,ol,cl,st,fu,sv,rfl,a,c⟩:=h;intro b hb;simp only[bL,aU,ak]at hb;rcases hb with rfl|rfl|rfl|hb
 .exact a.row.lt
 .exact a.own.lt
 .exact a.map.lt
 .exact a.inG b hb
theorem ok(h:xS w g B D):yX D:=by
 obtain⟨pl,m,G,ol,cl,st,fu,sv,rfl,a,c⟩:=h;exact a.ok
theorem pos(h:xS w g B D):0<D.V.length:=by
 obtain⟨pl,m,G,ol,cl,st,fu,sv,rfl,a,c⟩:=h;exact a.pos
instance(g:Nat)(D:Dk):nz (λw B=>xS w g B D):=⟨nD,lt⟩
end xS
variable {w:World}{g:Nat}{B:List Nat}{D:Dk}
theorem Gm(h:xS w g B D):CQ 180 [VA g] w (λv w'=>v=VB (D.V.length:Int)/\w=w'):=by
 obtain⟨pl,m,G,ol,cl,st,fu,sv,rfl,a,c⟩:=h;exact XU a
theorem read(h:xS w g B D)(i:Int):CQ 185 [VA g,VB i] w (λv w'=>v= .tuple #[.agg (bv (if xC D i then qa D i.toNat else sG)).toArray,VB (if xC D i then 0 else 2)]/\VD w w'):=by
 obtain⟨pl,m,G,ol,cl,st,fu,sv,rfl,a,c⟩:=h;exact KW a i
def uC(D:Dk)(i:Int)(s:qz):Dk:=if xC D i then KR D i.toNat s else D
def Kz(D:Dk)(i:Int):Int:=if xC D i then(if qM D then 0 else 10)else 2
def tJ(D:Dk)(k:Nat):Prop:=∀ v∈D.V,v.length<=k
theorem tJ.pR{k i:Nat}(h:tJ D k)(hi:i<D.V.length):(pR D i).length<=k:=h _ (aO (Ml hi))
theorem write(h:xS w g B D)(i:Int)(s:qz)(hs:s.length=128)(hsh:tJ D 90000):
  CQ 181 [VA g,VB i, .agg (bv s).toArray] w (λv w'=>v=VB (Kz D i)/\∃ B',xS w' g B' (uC D i s)/\Mv B B' w w'):=by
 obtain⟨pl,m,G,ol,cl,st,fu,sv,rfl,c,o⟩:=h;rw[uC,Kz]
 by_cases f:0<=i/\i<D.V.length
 .obtain⟨k,rfl⟩:∃ k:Nat,i=k:=⟨i.toNat,dB⟩
  have j:xC D (k:Int)=true:=decide_eq_true f;rw[j,if_pos rfl,if_pos rfl,aW];have p:k<D.V.length:=by omega
  refine(zuk c o k s p hs (jk (hsh.pR p) dB)).to λv w' l=>?_
  obtain⟨e,⟨q,G',r,a,t,u⟩,y⟩:=l;refine⟨e,[g,pl,m]++G',⟨pl,m,G',ol,cl,q,fu,r,rfl,a,t⟩,y,λb hb=>?_⟩;rcases ay.1 hb with hb|hb
  .exact .inl<|aF _ hb
  .exact(u b hb).imp (aB _) id
 .have j:xC D i=false:=decide_eq_false f
  rw[j];refine(zul c i s f hs).to λv w' l=>?_
  obtain⟨e,a⟩:=l;exact⟨e,_,⟨pl,m,G,ol,cl,st,fu,sv,rfl,c.new a,o.nD (M:=[]) (Kp.of_below a) ig⟩,Kp.BH a,λb hb=>.inl hb⟩
theorem zrM{f:Nat->Nat->qz}{k i:Nat}(h:(vV D)[k]?=some i):(i,f k i)∈xY D f:=aO (zpe h)
theorem zjj{f:Nat->Nat->qz}{k i:Nat}(h:(vV D)[k]?=some i):pR (xq D (xY D f)) i=[f k i]:=
 p_ _ D i _ (λ_ hp=>UE hp) (by rw[OY];exact O_ D) (zrM h)
theorem zhl{f:Nat->Nat->qz}{i:Nat}(h:sF D i=false):pR (xq D (xY D f)) i=pR D i:=by
 refine Ur _ D i (λ_ hp=>UE hp) λp hp e=>?_
 have a:p.1∈(xY D f).map (·.1):=iP hp;rw[OY,e]at a;rw[(Qm.1 a).2]at h;cases h
theorem ym.settled{w:World}{G:List Nat}{D D1:Dk}{sv:Nat->Value}(h:ym w G D sv)(hV:D1.V=D.V)(f:Nat->Nat->qz):ym w G (xq D1 (xY D1 f)) sv:=by
 have e:ym w G D1 sv:=h.alike hV;have c:∀ i,sF (xq D1 (xY D1 f)) i=true->sF D1 i=true/\pR (xq D1 (xY D1 f)) i=pR D1 i:=λi a=>by
  cases hb:sF D1 i with
  |false=>rw[sF,zhl hb]at a;rw[sF]at hb;rw[hb]at a;cases a
  |true=>
   have g:i<D1.V.length:=by
    rw[sF]at hb;have:=of_decide_eq_true hb
    by_cases l:i<D1.V.length
    .exact l
    .rw[pR,bI,bK dB]at this;simp at this
   obtain⟨k,m⟩:=iQ (Qm.2 ⟨g,hb⟩);rw[sF,zjj m]at a;simp at a
 exact⟨λi a=>by rw[(c i a).2];exact e.own i (c i a).1,λi j b a o=>e.sep i j b (c i a).1 (c j o).1⟩
theorem zrN(h:yX D){i:Nat}(hi:i<D.V.length)(ho:sF D i=false):∃ s,pR D i=[s]:=by
 have a:=fF.2 (Gi h hi).1;have c:¬1<(pR D i).length:=of_decide_eq_false ho;exact ib.1 dB
theorem Dk.ext'{D D':Dk}(h1:D.V=D'.V)(h2:D.left=D'.left)(h3:D.dead=D'.dead):D=D':=by
 cases D;cases D';simp_all
theorem QY{D D':Dk}(hl:D.V.length=D'.V.length)(h:∀ i,i<D.V.length->pR D i=pR D' i):D.V=D'.V:=by
 refine dI λi=>?_
 by_cases a:i<D.V.length
 .rw[Ml a,Ml (hl▸a),h i a]
 .rw[bK dB,bK dB]
theorem zrO(h:yX D):Qi D=sP D:=by
 unfold Qi sP
 by_cases a:qM D=true
 .rw[if_pos a,if_pos a]
  have g:yX (uF D):=by have:=Dt D;exact⟨by rw[this];exact h.n,by rw[this];exact h.ne,by rw[this];exact h.sec,by rw[this];exact h.short⟩
  have f:=znZ (uF D) (xY (uF D) λ_ i=>qa (uF D) i);refine Dk.ext' (QY ?_ λi c=>?_) f.1 f.2
  .rw[Wz];simp[Dt]
  .rw[Wz]at c
   have e:pR {uF D with V:=(uF D).V.map λv=>[Ad v]} i=[Ad (pR (uF D) i)]:=by
    unfold pR;dsimp only;rw[bI,aV,Ml c];rfl
   have j:pR {uF D with V:=D.V.map λv=>[Ad v]} i=[Ad (pR (uF D) i)]:=by rw[<-e,Dt]
   rw[j];cases hb:sF (uF D) i with
   |true=>
    obtain⟨k,l⟩:=iQ (Qm.2 ⟨c,hb⟩);rw[zjj l];rfl
   |false=>
    rw[zhl hb];obtain⟨s,m⟩:=zrN g c hb;rw[m];rfl
 .rw[if_neg a,if_neg a]
theorem flush(h:xS w g B D):CQ 152 [VA g] w (λv w'=>v=VB (if qM D then 0 else 10)/\xS w' g B (sP D)/\Kp B w w'):=by
 obtain⟨pl,m,G,ol,cl,st,fu,sv,rfl,a,g⟩:=h;rw[<-zrO a.ok];refine(Iy a).to λv w' i=>?_
 obtain⟨e,⟨j,l⟩,c⟩:=i;refine⟨e,⟨pl,m,G,ol,cl,j,fu,sv,rfl,l,?_⟩,c.weak λk _ o=>aF _ o⟩;have f:=g.nD c (λb hb=>by have:=a.ne.2.2.2 b hb;simp[this]);unfold Qi
 split
 .exact f.settled (Dt D) _
 .exact f.alike<|Dt D
end Go.Proofs.YtpaniebomegnbaaGreat
namespace Coup
open Go Go.RowKit
structure nC(lo:Nat)(L:List Nat)(w w':World):Prop where
 os:w'.os=w.os
 tape:w'.tape=w.tape
 output:w'.output=w.output
 size:w.heap.size<=w'.heap.size
 block:∀ i,i<w.heap.size->(i<lo\/i∈L)->w'.heap[i]?=w.heap[i]?
def EO(lo:Nat)(L:List Nat)(n:Nat):List Nat:=(List.range n).filter λi=>decide (¬(i<lo\/i∈L))
theorem pG{lo n b:Nat}{L:List Nat}(h:b<lo\/b∈L):b∉EO lo L n:=λa=>by
 have:=(dU.1 a).2;simp only[decide_eq_true_eq]at this;exact this h
theorem wh{lo n b:Nat}{L:List Nat}(h:b∈EO lo L n):lo<=b/\b∉L:=by
 have:=(dU.1 h).2;simp only[decide_eq_true_eq,not_or,bW]at this;exact this
namespace nC
variable {lo:Nat}{L:List Nat}{w w1 w2 w':World}
theorem refl(lo:Nat)(L:List Nat)(w:World):nC lo L w w:=⟨rfl,rfl,rfl,ax _,λ_ _ _=>rfl⟩
theorem kp(h:nC lo L w w'):Kp (EO lo L w.heap.size) w w':=
 ⟨h.os,h.tape,h.output,h.size,λi a e=>h.block i a (by
  by_cases c:i<lo\/i∈L
  .exact c
  .exact absurd (dU.2 ⟨bZ.2 a,decide_eq_true c⟩) e)⟩
theorem LA{M:List Nat}(h:Kp M w w')(hM:∀ b∈M,(lo<=b/\b∉L)\/w.heap.size<=b):nC lo L w w':=
 ⟨h.os,h.tape,h.output,h.size,λi e a=>h.block i e λf=>by
  rcases hM i f with c|c
  .exact a.elim (λa=>dB) c.2
  .omega⟩
theorem of_below(h:VD w w'):nC lo L w w':=LA (M:=[]) (Kp.of_below h) ig
theorem nD{M:List Nat}(h:nC lo L w w1)(k:Kp M w1 w')(hM:∀ b∈M,(lo<=b/\b∉L)\/w.heap.size<=b):nC lo L w w':=
 ⟨k.os.trans h.os,k.tape.trans h.tape,k.output.trans h.output,ag h.size k.size,λi c a=>(k.block i (ae c h.size) λf=>by
  rcases hM i f with e|e
  .exact a.elim (λa=>dB) e.2
  .omega).trans (h.block i c a)⟩
theorem new(h:nC lo L w w1)(hb:VD w1 w'):nC lo L w w':=h.nD (M:=[]) (Kp.of_below hb) ig
theorem only{g:Nat}(h:nC lo L w w1)(ho:Only g w1 w')(hg:w.heap.size<=g\/lo<=g/\g∉L):nC lo L w w':=h.nD (Kp.rJ ho) λb hb=>by
 rw[aJ.1 hb];exact hg.symm
theorem own{base e sz m:Nat}{v:Value}{xs:List Value}(h:nC lo L w w1)(ho:og w1 base e sz v m xs)(hg:w1.grownBy w' v.ownBlock)(hk:w.heap.size<=base):nC lo L w w':=
 h.nD (Kp.rU hg) λb hb=>by
  have:=(ho.lt b (ah.1 hb)).1
  right;omega
theorem ll{L2:List Nat}(h:nC lo L w w1)(k:nC lo L2 w1 w')(hL:∀ b∈L,b∈L2):nC lo L w w':=h.nD k.kp λb hb=>.inl ⟨(wh hb).1,λa=>(wh hb).2 (hL b a)⟩
theorem weak{lo2:Nat}{L2:List Nat}(h:nC lo L w w')(h1:lo2<=lo)(h2:∀ b∈L2,b∈L):nC lo2 L2 w w':=⟨h.os,h.tape,h.output,h.size,λi a c=>h.block i a (c.imp (λh=>dB) (h2 i))⟩
end nC
theorem row.kL{lo n g t:Nat}{L:List Nat}{cs:List Value}{w w':World}(h:row w g cs t)(k:Kp (EO lo L n) w w')(hg:g<lo\/g∈L:=by first |(left;omega)|(right;simp;done)|(right;simp[*];done)):row w' g cs t:=h.nD k (pG hg)
theorem row.kl{lo g t:Nat}{L:List Nat}{cs:List Value}{w w':World}(h:row w g cs t)(k:nC lo L w w')(hg:g<lo\/g∈L:=by first |(left;omega)|(right;simp;done)|(right;simp[*];done)):row w' g cs t:=h.nD k.kp (pG hg)
theorem nC.lq{lo:Nat}{L L2:List Nat}{w w1 w':World}(h:nC lo L w w1)(k:nC lo L2 w1 w')(hL:∀ b∈L,b∈L2:=by first |(intro b hb;exact hb)|(intro b hb;simp[hb];done)|(intro b hb;simp only[ak]at hb |-;rcases hb with hb|hb<;>simp[hb];done)|(intro b hb;simp only[ak]at hb |-;rcases hb with hb|hb|hb<;>simp[hb];done)|simp):nC lo L w w':=h.ll k hL
theorem nC.wk{lo:Nat}{L L2:List Nat}{w w':World}(h:nC lo L2 w w')(hL:∀ b∈L,b∈L2:=by first |(intro b hb;exact hb)|(intro b hb;simp[hb];done)|(intro b hb;simp only[ak]at hb |-;rcases hb with hb|hb<;>simp[hb];done)|simp):nC lo L w w':=h.weak (ax _) hL
theorem nC.oq{lo g:Nat}{L:List Nat}{w w1 w':World}(h:nC lo L w w1)(ho:Only g w1 w')(hg:w.heap.size<=g\/lo<=g/\g∉L:=by first |omega|(right;exact⟨dB,by assumption⟩)):nC lo L w w':=h.only ho hg
theorem RA{w0 w w':World}{lo:Nat}{L:List Nat}(h:VD w0 w)(k:nC lo L w w')(hl:w0.heap.size<=lo):VD w0 w':=h.nD k.kp λ_ a=>ag hl (wh a).1
section
variable {md:Option Nat->Prop}{P:Program}{n:Nat}{Q:Post}{ρ:Env}{w w1 wc w':World}{l:List Oper}{lo:Nat}{L:List Nat}
theorem vX{id:Nat}(lo:Nat)(L:List Nat)(hm:P.follows .mixedOrders=true)(h:∀ w1,VD w w1->w.heap.size=w1.heap.size->Kp (EO lo L w.heap.size) w1 w1->WA md P n l (Kp (EO lo L w.heap.size) w1) Q [] ρ w1):W md P n (.region id l.toArray true) Q ρ w:=
 Da (Kp (EO lo L w.heap.size) w.drew) hm (Kp.refl _ _) (h w.drew (Below.refl _ _).drew rfl (Kp.refl _ _))
theorem Kp.vv{k:Nat}(hS:Kp (EO lo L k) w1 wc)(hn:k=w1.heap.size)(h:nC lo L wc w'):Kp (EO lo L k) w1 w':=
 hS.add h.kp λg a=>by
  by_cases c:g<k
  .exact .inr<|dU.2 ⟨bZ.2 c,decide_eq_true λe=>e.elim (λf=>absurd (wh a).1 (dW.2 f)) (wh a).2⟩
  .left;omega
end
structure Two(X Y:VE)(lo:Nat)(L:List Nat)(w:World):Prop where
 ex:∃ B C,X w B/\Y w C/\(∀ b∈B,lo<=b/\b∉C/\b∉L)/\∀ b∈C,lo<=b/\b∉L
 lo:lo<=w.heap.size
 lt:∀ b∈L,b<w.heap.size
namespace Two
variable {X X' Y Y':VE}{lo:Nat}{L:List Nat}{w w':World}
theorem nD{M:List Nat}[hX:nz X][hY:nz Y](h:Two X Y lo L w)(k:Kp M w w')(hM:∀ b∈M,b<lo\/b∈L):Two X Y lo L w':=by
 obtain⟨⟨B,C,g,i,a,c⟩,j,l⟩:=h;exact⟨⟨B,C,hX.nD g k λb hb e=>(hM b e).elim (λf=>absurd (a b hb).1 (dW.2 f)) (a b hb).2.2,hY.nD i k λb hb e=>(hM b e).elim (λf=>absurd (c b hb).1 (dW.2 f)) (c b hb).2,a,c⟩,ag j k.size,λb hb=>ae (l b hb) k.size⟩
theorem new [hX:nz X][hY:nz Y](h:Two X Y lo L w)(hb:VD w w'):Two X Y lo L w':=h.nD (M:=[]) (Kp.of_below hb) ig
theorem nL{g:Nat}[hX:nz X][hY:nz Y](h:Two X Y lo L w)(hb:VD w w')(hg:w.heap.size<=g)(hg':g<w'.heap.size):Two X Y lo (g::L) w':=by
 obtain⟨⟨B,C,e,f,c,g⟩,i,j⟩:=h;refine⟨⟨B,C,hX.nD e (M:=[]) (Kp.of_below hb) ig,hY.nD f (M:=[]) (Kp.of_below hb) ig,λb hb=>⟨(c b hb).1,(c b hb).2.1,λa=>?_⟩,λb hb=>⟨(g b hb).1,λa=>?_⟩⟩,ag i hb.size,λb a=>?_⟩
 .rcases ak.1 a with rfl|a
  .exact absurd (hX.lt e _ hb)<|bW.2 hg
  .exact(c b hb).2.2 a
 .rcases ak.1 a with rfl|a
  .exact absurd (hY.lt f _ hb)<|bW.2 hg
  .exact(g b hb).2 a
 .rcases ak.1 a with rfl|a
  .exact hg'
  .exact ae (j b a) hb.size
theorem only{g:Nat}[hX:nz X][hY:nz Y](h:Two X Y lo L w)(ho:Only g w w')(hg:g<lo\/g∈L):Two X Y lo L w':=h.nD (Kp.rJ ho) λb hb=>by rw[aJ.1 hb];exact hg
theorem weak{L2:List Nat}(h:Two X Y lo L w)(h2:∀ b∈L2,b∈L):Two X Y lo L2 w:=by
 obtain⟨⟨B,C,a,b,e,g⟩,i,j⟩:=h;exact⟨⟨B,C,a,b,λx c=>⟨(e x c).1,(e x c).2.1,λf=>(e x c).2.2 (h2 x f)⟩,λx c=>⟨(g x c).1,λf=>(g x c).2 (h2 x f)⟩⟩,i,λb hb=>j b (h2 b hb)⟩
theorem swap(h:Two X Y lo L w):Two Y X lo L w:=by
 obtain⟨⟨B,C,e,f,a,c⟩,g,i⟩:=h;exact⟨⟨C,B,f,e,λb hb=>⟨(c b hb).1,λj=>(a b j).2.1 hb,(c b hb).2⟩,λb hb=>⟨(a b hb).1,(a b hb).2.2⟩⟩,g,i⟩
theorem mv{B B' C:List Nat}[hX:nz X][hY:nz Y](h1:X' w' B')(h2:Y w C)(h3:∀ b∈B,lo<=b/\b∉C/\b∉L)(h4:∀ b∈C,lo<=b/\b∉L)(h5:lo<=w.heap.size)(h6:∀ b∈L,b<w.heap.size)(hm:Mv B B' w w'):Two X' Y lo L w':=
 ⟨⟨B',C,h1,hY.nD h2 hm.k λb hb a=>(h3 b a).2.1 hb,λb hb=>by
  rcases hm.sub b hb with a|a
  .exact h3 b a
  .exact⟨ag h5 a,λc=>absurd (hY.lt h2 b c) (bW.2 a),λc=>absurd (h6 b c) (bW.2 a)⟩,h4⟩,ag h5 hm.k.size,λb hb=>ae (h6 b hb) hm.k.size⟩
theorem left [hX:nz X] [hY:nz Y] {P:Program} {f:FuncId} {args:Array Value} {R:Value->Prop} (h:Two X Y lo L w)
  (hc:∀ B,X w B->(∀ b∈B,lo<=b/\b∉L)->Calls P f args w (qb λv w'=>R v/\∃ B',X' w' B'/\Mv B B' w w')):Calls P f args w (qb λv w'=>R v/\Two X' Y lo L w'/\nC lo L w w'):=by
 obtain⟨⟨B,C,e,f,a,g⟩,i,j⟩:=h;exact(hc B e λb hb=>⟨(a b hb).1,(a b hb).2.2⟩).to λv w' ⟨k,B',l,c⟩=>⟨k,mv (X:=X) l f a g i j c,nC.LA c.k λb hb=>.inl ⟨(a b hb).1,(a b hb).2.2⟩⟩
theorem add{C:List Nat}[hX:nz X](h:Two X None lo L w)(hb:VD w w')(hY:Y w' C)(hC:∀ b∈C,w.heap.size<=b):Two X Y lo L w':=by
 obtain⟨⟨B,_,c,rfl,e,j⟩,f,g⟩:=h;exact⟨⟨B,C,hX.nD c (M:=[]) (Kp.of_below hb) ig,hY,λb hb=>⟨(e b hb).1,λi=>absurd (hX.lt c b hb) (bW.2 (hC b i)),(e b hb).2.2⟩,λb hb=>⟨ag f (hC b hb),λa=>absurd (g b a) (bW.2 (hC b hb))⟩⟩,ag f hb.size,λb a=>ae (g b a) hb.size⟩
end Two
def VY(e sz:Nat)(u:Value)(m:Nat)(xs:List Value):VE:=λw C=>C=u.ownBlock.toList/\og w 0 e sz u m xs
instance(e sz:Nat)(u:Value)(m:Nat)(xs:List Value):nz (VY e sz u m xs):=
 ⟨fun {w w' B M} a k c=>⟨a.1,a.2.nD k λg f e=>c g (by rw[a.1];exact ah.2 e) f⟩,fun {w B} a b hb=>by rw[a.1]at hb;exact(a.2.lt b (ah.1 hb)).2⟩
namespace Two
variable {X:VE}{lo:Nat}{L:List Nat}{w w':World}{e sz:Nat}{u v:Value}{m k:Nat}{xs ys:List Value}
end Two
end Coup
namespace Go.Proofs.YtpaniebomegnbaaGreat
open Go Go.RowKit Coup
abbrev DZ(g:Nat)(D:Dk):VE:=λw B=>xS w g B D
instance(g:Nat)(D:Dk):nz (DZ g D):=⟨xS.nD,xS.lt⟩
theorem yD{D:Dk}{k k':Nat}(h:tJ D k)(hk:k<=k'):tJ D k':=λv a=>ag (h v a) hk
theorem zrP{D:Dk}{i:Int}(h:xC D i=true):∃ k:Nat,i=k/\k<D.V.length:=by
 have:=of_decide_eq_true h;exact⟨i.toNat,dB,dB⟩
section
variable {Y:VE}[nz Y]{g lo:Nat}{L:List Nat}{D:Dk}{w:World}
omit [nz Y] in
theorem zz(h:Two (DZ g D) Y lo L w):yX D/\0<D.V.length:=by
 obtain⟨⟨B,C,a,c,e,f⟩,g,i⟩:=h;exact⟨a.ok,a.pos⟩
theorem TQ(h:Two (DZ g D) Y lo L w)(i:Int)(s:qz)(hs:s.length=128)(hsh:tJ D 90000):
  CQ 181 [VA g,VB i, .agg (bv s).toArray] w (λv w'=>v=VB (Kz D i)/\Two (DZ g (uC D i s)) Y lo L w'/\nC lo L w w'):=
 h.left λB hX _=>write hX i s hs hsh
theorem Ui(h:Two (DZ g D) Y lo L w):
  CQ 152 [VA g] w (λv w'=>v=VB (if qM D then 0 else 10)/\Two (DZ g (sP D)) Y lo L w'/\nC lo L w w'):=
 h.left λB hX _=>(flush hX).to λ_ _ ⟨a,c,e⟩=>⟨a,B,c, .LA e⟩
omit [nz Y]
theorem VT(h:Two (DZ g D) Y lo L w):CQ 180 [VA g] w (λv w'=>v=VB (D.V.length:Int)/\w=w'):=by
 obtain⟨⟨B,C,a,c,e,f⟩,g,i⟩:=h;exact Gm a
theorem DY(h:Two (DZ g D) Y lo L w)(i:Int):CQ 185 [VA g,VB i] w (λv w'=>v= .tuple #[.agg (bv (if xC D i then qa D i.toNat else sG)).toArray,VB (if xC D i then 0 else 2)]/\VD w w'):=by
 obtain⟨⟨B,C,a,c,e,f⟩,g,j⟩:=h;exact read a i
end
theorem VJ {w : World} (n : Nat) (h1 : 1 <= n) (h2 : n <= 8192) :
  CQ 63 [.int .i64 (n : Int)] w (λv w' => ∃ g B, v = .tuple #[.pointer (some ⟨g, 0, none⟩), .int .i64 0] /\ xS w' g B (xe n) /\ (∀ b ∈ B, w.heap.size <= b) /\ Below w.heap.size w w') :=
 (Ls n h1 h2).to λv w' ⟨g, pl, m, e, hM, l1, l2, l3, hb⟩ => ⟨g, [g, pl, m] ++ [], e, ⟨pl, m, [], 0, n, 0, false, _, rfl, hM, ⟨λi hi => absurd hi (by rw [TP]; simp), λi j b hi => absurd hi (by rw [TP]; simp)⟩⟩, (λb hb => by
  simp only [List.append_nil, List.mem_cons, List.not_mem_nil, or_false] at hb
  rcases hb with rfl | rfl | rfl <;> assumption), hb⟩
theorem zqt(n:Nat):tJ (xe n) 1:=λv a=>by rw[(eB.1 a).2];simp
theorem Ia{D:Dk}(h1:D.left=-1)(h2:D.dead=false):qM D=true/\uF D=D:=by
 have a:qM D=true:=by unfold qM;rw[h1,h2];rfl
 refine⟨a,?_⟩;rw[uF,if_pos a,h1];exact Dk.ext' rfl h1.symm rfl
structure tL(D:Dk)(k:Nat):Prop where
 left:D.left=-1
 dead:D.dead=false
 pos:0<D.V.length
 short:tJ D k
theorem tL.weak{D:Dk}{k k':Nat}(h:tL D k)(hk:k<=k'):tL D k':=⟨h.left,h.dead,h.pos,yD h.short hk⟩
theorem tL.uC{D:Dk}{k:Nat}(h:tL D k)(i:Int)(s:qz):tL (uC D i s) (k+1)/\(Go.Proofs.YtpaniebomegnbaaGreat.uC D i s).V.length=D.V.length/\
  ∀ j,j<D.V.length->pR (Go.Proofs.YtpaniebomegnbaaGreat.uC D i s) j=if i=(j:Int)then pR D j++[s]else pR D j:=by
 unfold Go.Proofs.YtpaniebomegnbaaGreat.uC
 split
 .rename_i a
  obtain⟨m,rfl,c⟩:=zrP a;obtain⟨f,g⟩:=Ia h.left h.dead;rw[aW,KR,if_pos f,g];refine⟨⟨h.left,h.dead,by show 0<(D.V.set _ _).length;rw[bA];exact h.pos,λv i=>?_⟩,bA ..,λj k=>?_⟩
  .rcases iO i with e|e
   .exact ag (h.short v e) dB
   .rw[e,aA,dV]
    have:=h.short.pR c;omega
  .rw[JY c]
   by_cases e:m=j
   .subst e;rw[if_pos rfl,if_pos rfl]
   .rw[if_neg e,if_neg dB]
 .rename_i a
  refine⟨h.weak dB,rfl,λj k=>?_⟩;rw[if_neg];intro e;exact a<|decide_eq_true (by rw[e];omega)
theorem zms{n:Nat}(h:0<n):tL (xe n) 1:=⟨rfl,rfl,by rw[Oq];exact h,zqt n⟩
theorem zrQ{D:Dk}(hs:qM D=true){i:Nat}(hi:i<D.V.length):pR (sP D) i=[qa D i]:=by
 rw[sP,if_pos hs];unfold pR;dsimp only;rw[bI,aV,Ml hi];rfl
theorem Gh{D:Dk}:(sP D).V.length=D.V.length:=by
 unfold sP
 split
 .simp
 .rw[Dt]
theorem QO{D:Dk}{k:Nat}(h:tL D k):qM D=true/\tL (sP D) 1:=by
 obtain⟨a,c⟩:=Ia h.left h.dead;refine⟨a,?_⟩;rw[sP,if_pos a,c];exact⟨h.left,h.dead,by show 0<(D.V.map _).length;rw[aP];exact h.pos,λv e=>by obtain⟨u,_,rfl⟩:=bg.1 e;simp⟩
def zpi:Int:=4611686018427387904
def vT(c n:Int):Bool:=decide (1<=c) && decide (c<=zpi) && decide (0<=n) && decide (n<2147483648)
theorem zmt(c n:Int):(Hid (vT c n=false)/\c<1)\/(Hid (vT c n=false)/\1<=c/\4611686018427387904<c)\/(Hid (vT c n=false)/\1<=c/\c<=4611686018427387904/\n<0)\/
  (Hid (vT c n=false)/\1<=c/\c<=4611686018427387904/\0<=n/\2147483648<=n)\/(Hid (vT c n=true)/\1<=c/\c<=4611686018427387904/\0<=n/\n<2147483648):=by
 have h:∀ b,(vT c n=b)=((decide (1<=c) && decide (c<=4611686018427387904) && decide (0<=n) && decide (n<2147483648))=b):=λ_=>rfl
 simp only[Hid,h]
 by_cases a:1<=c
 .by_cases e:c<=4611686018427387904
  .by_cases f:0<=n
   .by_cases g:n<2147483648
    .right;right;right;right;simp[a,e,f,g]
    .right;right;right;left;simp[a,e,f,g];omega
   .right;right;left;simp[a,e,f];omega
  .right;left;simp[a,e];omega
 .left;simp[a];omega
theorem IV(c n:Int)(w:World):Calls Tryz.prog 215 #[.agg #[.int .u64 c,VB n]] w λe w'=>e= .returned (.bool (vT c n))/\VD w w':=by
 rcases zmt c n with⟨HM,a⟩|⟨HM,a,e⟩|⟨HM,a,e,f⟩|⟨HM,a,e,f,g⟩|⟨HM,a,e,f,g⟩
 all_goals
  go_enter Tryz.func215,Tryz.ntmps215
  go_wp2
  go_ret
  exact⟨ztU (by rw[HM.out];try (first |rfl|(simp<;>omega))),(Below.refl _ _).alloc (ax _) _⟩
def qE(n:Nat):Nat:=(n+51) / 48
theorem zpj(n:Nat)(hn:n<=1000000)(w:World):Calls Tryz.prog 209 #[VB n] w λe w'=>e= .returned (VB (qE n))/\w=w':=by
 go_enter Tryz.func209,Tryz.ntmps209
 go_wp2
 go_ret
 exact⟨Ua (by rw[qE];omega),rfl⟩
def MZ(n:Int):Int:=if 0<=n/\n<=32768 then((qE n.toNat+1) / 2:Nat)else 0
theorem Yp{n:Int}(h:¬(0<=n/\n<=32768)):MZ n=0:=if_neg h
theorem zmu{n:Nat}(h:n<=32768):MZ n=((qE n+1) / 2:Nat):=by rw[MZ,if_pos dB,aW]
theorem LD(n:Int)(w:World):Calls Tryz.prog 150 #[VB n] w λe w'=>e= .returned (VB (MZ n))/\w=w':=by
 by_cases a:n<0
 .have HN:=Lib.hid (Yp (n:=n) dB)
  go_enter Tryz.func150,Tryz.ntmps150
  go_wp2
  go_ret
  exact⟨Ua HN.out.symm,rfl⟩
 .by_cases c:32768<n
  .have HN:=Lib.hid (Yp (n:=n) dB)
   go_enter Tryz.func150,Tryz.ntmps150
   go_wp2
   go_ret
   exact⟨Ua HN.out.symm,rfl⟩
  .obtain⟨m,rfl⟩:=Int.eq_ofNat_of_zero_le (by omega:0<=n)
   have HN:=Lib.hid (zmu (n:=m) dB);have hb:qE m<=1000:=by unfold qE;omega
   go_enter Tryz.func150,Tryz.ntmps150
   go_wp2_with (first |(go_at_call 209;refine(zpj _ dB _).mono ?_;rintro e w' ⟨rfl,rfl⟩))
   go_ret
   refine⟨Ua ?_,rfl⟩;rw[HN.out];omega
theorem FP{α:Type}{p:List α->Prop}(h0:p [])(h1:∀ l b,p l->p (l++[b]))(l:List α):p l:=by
 have:∀ m:List α,p m.reverse:=λm=>by
  induction m with
  |nil=>exact h0
  |cons b m ih=>rw[iU];exact h1 _ _ ih
 have:=this l.reverse
 rwa [List.reverse_reverse]at this
def qX(l:List UInt8):Nat:=l.foldl (λa b=>256*a+b.toNat) 0
theorem QT(l:List UInt8):∀ a:Nat,l.foldl (λa b=>256*a+b.toNat) a=a*256 ^ l.length+qX l:=by
 induction l with
 |nil=>intro a;simp[qX]
 |cons b l ih=>
  intro a;rw[qX,gQ,gQ,ih,ih];simp only[aD,iV];rw[cZ,cZ];have:256*a*256 ^ l.length=a*(256 ^ l.length*256):=by rw[eF 256 a,Nat.mul_assoc,eF 256]
  omega
theorem zn4(l m:List UInt8):qX (l++m)=qX l*256 ^ m.length+qX m:=by
 rw[qX,fG,QT];rfl
theorem Xd(l:List UInt8)(b:UInt8):qX (l++[b])=256*qX l+b.toNat:=by
 rw[zn4];simp[qX];omega
theorem Zf(l:List UInt8):qX l<256 ^ l.length:=by
 refine FP (p:=λl=>qX l<256 ^ l.length) ?_ ?_ l
 .simp[qX]
 .intro l b a
  rw[Xd,aA,dV,iV];have:=b.toNat_lt;omega
def oH:Nat->Nat->List UInt8
 |0,_=>[]
 |k+1,n=>oH k (n / 256)++[UInt8.ofNat n]
theorem rT(k n:Nat):(oH k n).length=k:=by
 induction k generalizing n with
 |zero=>rfl
 |succ k ih=>simp[oH,ih]
theorem SH(k n:Nat):qX (oH k n)=n % 256 ^ k:=by
 induction k generalizing n with
 |zero=>simp[oH,qX,Nat.mod_one]
 |succ k ih=>
  rw[oH,Xd,ih,iV,eF (256 ^ k) 256,Nat.mod_mul];simp;omega
theorem Hq(a:Nat)(b:UInt8):(256*a) |||b.toNat=256*a+b.toNat:=by
 have:=Nat.two_pow_add_eq_or_of_lt (i:=8) (b:=b.toNat) (by have:=b.toNat_lt;omega) a;simpa using this.symm
theorem RF(l:List UInt8)(k:Nat)(b:UInt8)(h:l[k]?=some b):qX (l.take (k+1))=256*qX (l.take k)+b.toNat:=by
 rw[bf,h,fV,Xd]
theorem zmv(l:List UInt8)(k:Nat)(hk:k<=7):qX (l.take k)<72057594037927936:=by
 have a:=Zf (l.take k);have:256 ^ (l.take k).length<=256 ^ 7:=Nat.pow_le_pow_right dB jY;omega
theorem Qy(p:Option Addr)(n c:Nat)(l:List UInt8)(w:World)(h:nM w p n 1 (bv l))(hn:n<=8):Calls Tryz.prog 257 #[.slice p n c] w λe w'=>e= .returned (.int .u64 (qX l))/\w=w':=by
 obtain⟨c,m,g⟩:=h;have H1:l.length=n:=by simpa [oL]using c
 clear c m;have HL:=Lib.hid H1;clear H1
 go_enter Tryz.func257,Tryz.ntmps257
 go_wp2
 go_loop [2,7] (λa i=>∃ k:Nat,k<=n/\i=VB k/\a= .int .u64 (qX (l.take k))) (λ_ i=>n - (intOf i).toNat)
 case atStart=>exact⟨0,dB,rfl,by simp[qX]⟩
 case round=>
  obtain⟨k,p,rfl,rfl⟩:=hrel
  by_cases q:k<n
  .obtain⟨b,r,rfl,s,j⟩:=g dB
   have o:=HL.out;obtain⟨x,f⟩:∃ x,l[k]?=some x:=⟨_,aG dB⟩;have c:=j k dB;rw[ES,f]at c;clear j g o;obtain⟨a,e⟩:∃ a,a=qX (l.take k):=⟨_,rfl⟩;have t:a<72057594037927936:=by rw[e];exact zmv l k dB
   rw[<-e];have HA:=Lib.hid e;clear e;have HX:=Lib.hid f;clear f;simp only[dP,vE]at c
   go_wp2
   go_round
   case rel=>
    refine⟨k+1,dB,by go_num,?_⟩;have hb:=x.toNat_lt;rw[RF l k x HX.out,<-HA.out,show(a:Int)*256=((256*a:Nat):Int) by omega,show IntKind.u64.wrap (x.toNat:Int)=((x.toNat:Nat):Int) by rw[IntKind.wrap_u64];omega,
     bits_or_u64_nat _ _ dB dB,Hq]
   case measure=>simp[intOf]<;>omega
  .go_wp2
   go_ret
   refine⟨?_,rfl⟩;have:=HL.out;rw[aQ dB]
   rfl
theorem zun(k n:Nat):oH (k+1) n=UInt8.ofNat (n / 256 ^ k)::oH k n:=by
 induction k generalizing n with
 |zero=>simp[oH]
 |succ k ih=>rw[oH,ih,oH,Nat.div_div_eq_div_mul,iV,eF 256];rfl
def pX(n:Nat):List UInt8:=List.replicate n 0
theorem PT(n:Nat):bv (pX n)=List.replicate n (vE 0):=by simp[bv,pX]
def pF(l:List UInt8)(i:Nat):List UInt8:=(l.drop (64*i)).take 64
theorem Ry(l:List UInt8)(i:Nat)(h:64*i+64<=l.length):(pF l i).length=64:=by simp[pF];omega
def EK(l:List UInt8)(k:Nat):List UInt8:=(l.drop (128*k)).take 128
theorem zmw(l:List UInt8)(k:Nat)(h:128*k+128<=l.length):(EK l k).length=128:=by simp[EK];omega
theorem zn5(l:List UInt8)(q r:Nat)(hr:r<2):((EK l q).drop (64*r)).take 64=pF l (2*q+r):=by
 unfold EK pF;rw[fw,dQ,dR]
 congr 1
 .omega
 .congr 1;omega
theorem Om{α:Type}(l m:List α)(h:l.length=m.length):splice l 0 m=m:=by
 simp[splice,<-h]
theorem zik:(Tryz.prog.info? 296).map (λi=>i.zero.map (·.cells))=some (some (bv (pX 64)).toArray):=by kernel_rfl
theorem zil:(Tryz.prog.info? 265).map (λi=>i.zero.map (·.cells))=some (some (bv (pX 128)).toArray):=by kernel_rfl
theorem NK:(Tryz.prog.info? 296).map (·.size)=some 64:=by kernel_rfl
theorem Pp:(Tryz.prog.info? 265).map (·.size)=some 128:=by kernel_rfl
theorem CY:(Tryz.prog.underlying 265).any (·.isRow)=true:=by kernel_rfl
theorem Sn:(Tryz.prog.underlying 296).any (·.isRow)=true:=by kernel_rfl
theorem _root_.Coup.nM.range{w:World}{b off n sz:Nat}{cs:List Value}(h:nM w (some ⟨b,off,none⟩) n sz cs)(o m:Nat)(ho:o+m<=n*sz):w.rangeAt b (off+o) ((cs.drop o).take m):=by
 intro j v a;have c:j<m:=by
  have:=(aL.1 a).1;simp at this;omega
 obtain⟨g,i,e,_,f⟩:=h.at_ dB;cases e;rw[bD,if_pos c,bC]at a;rw[fM,f _ dB,a]
theorem Ns(p:Option Addr)(n c:Nat)(l:List UInt8)(i:Nat)(w:World)(h:nM w p n 128 (bv l))(hi:i / 2<n)(hn:n<=1000000):
  Calls Tryz.prog 256 #[.slice p n c,VB i] w λe w'=>e= .returned (.agg (bv (pF l i)).toArray)/\VD w w':=by
 obtain⟨q,y⟩:∃ q,q=i / 2:=⟨_,rfl⟩;have z:l.length=n*128:=by simpa [oL]using h.len
 obtain⟨b,s,rfl,S,A⟩:=h.at_ dB;have B:∀ w1,VD w w1->w1.rangeAt b (s+q*128) (bv (EK l q)):=λw1 hb=>by
  have:=(h.below hb (ax _)).range (q*128) 128 dB
  rwa [<-AA,<-EE,eF q 128,show(l.drop (128*q)).take 128=EK l q from rfl,eF 128 q]at this
 have T:(i:Int) / 2=(q:Int):=by omega
 have U:q<n:=by omega
 have C:(bv (EK l q)).length=128:=by rw[oL,zmw l q dB]
 have HQ:=Lib.hid y;have HC:=Lib.hid A;have HH:=Lib.hid h;have HR:=Lib.hid B;have HL:=Lib.hid z;have j:=Lib.hid C;clear y A h B z hi C;have D:∀ r:Nat,r<2->(i:Int) % 2=r->i=2*q+r->Calls Tryz.prog 256 #[.slice (some ⟨b,s,none⟩) n c,VB i] w λe w'=>e= .returned (.agg (bv (pF l i)).toArray)/\VD w w':=by
  intro r hr V t;have HI:=Lib.hid t;have E:∀ (a:Nat) (k:World) (m:List Value),Hid (m=splice (bv (pX 128)) 0 (bv (EK l q)))->row k a m 265->k.rangeAt a (64*r) (bv (pF l i)):=λa k m u o=>by
   rw[u.out,Om _ _ (by rw[j.out,oL,pX];simp)]at o;have:=o.zkl (64*r) 64
   rwa [<-AA,<-EE,zn5 _ _ _ hr,<-t]at this
  have F:(bv (pF l i)).length=64:=by rw[oL,Ry l i (by have:=HL.out;omega)]
  have HR3:=Lib.hid E;have f:=Lib.hid F;clear t E F;have X:=run_arrayAt (P:=Tryz.prog) 296 5 64 dA;rcases(by omega:r=0\/r=1)with rfl|rfl
  all_goals
   go_enter Tryz.func256,Tryz.ntmps256
   go_wp2_with (first
    |(with_reducible refine ww (.alloc 296) ?_;refine Lp rfl 296 rfl _ zik ?_;intro g w1 J G p)
    |(with_reducible refine ww (.load 265 _) ?_;refine QR rfl 265 _ rfl b (s+q*128) rfl (bv (EK l q)) (HR.out _ p) CY (by rw[j.out];exact Pp) ?_)
    |(with_reducible refine ww (.alloc 265) ?_;refine Lp rfl 265 rfl _ zil ?_;intro a w2 K L H)
    |(with_reducible refine ww (.store 265 _ _) ?_;refine Mc rfl 265 _ _ rfl a 0 rfl (bv (EK l q)) rfl _ 265 L (by rw[j.out];exact Pp) (by rw[j.out,oL,pX];simp) (uf _) ?_;intro m k u o I)
    |(with_reducible refine ww (.load 296 _) ?_;refine QR rfl 296 _ rfl a _ rfl (bv (pF l i)) (HR3.out a _ _ u o) Sn (by rw[f.out];exact NK) ?_)
    |(with_reducible refine ww (.store 296 _ _) ?_;refine Mc rfl 296 _ _ rfl g 0 rfl (bv (pF l i)) rfl _ 296 ((G.new H).only I (by have:=G.lt;omega)) (by rw[f.out];exact NK) (by rw[f.out,oL,pX];simp) (uf _) ?_;intro M Y N O Q))
   have R:M=bv (pF l i):=by rw[N.out,Om _ _ (by rw[f.out,oL,pX];simp)]
   subst R;refine bodyPost_ret (UU rfl _ _ g 296 _ rfl O Sn (by rw[f.out];exact NK)) rfl ?_;exact⟨rfl,Q.below (I.below (p.trans (H.mono p.size)) (ag p.size K)) J⟩
 rcases Nat.mod_two_eq_zero_or_one i with e|e
 .exact D 0 dB dB (by have:=HQ.out;omega)
 .exact D 1 dB dB (by have:=HQ.out;omega)
def uk(h:List UInt8):Nat:=qX (h.take 8)
def ut(h:List UInt8):Nat:=qX ((h.drop 8).take 4)
def EP(h:List UInt8):Nat:=qX ((h.drop 12).take 2)
def vU(h:List UInt8):Nat:=qX ((h.drop 14).take 2)
def wL(h:List UInt8):List UInt8:=h.drop 16
def sW(c n p m:Int)(b:List UInt8):List Value:=[.int .u64 c,VB n,VB p,VB m]++bv b
theorem SI(c n p m:Int)(b:List UInt8):∀ v∈sW c n p m b,v.oneCell'=true:=by
 intro v a;simp only[sW,ay]at a;rcases a with a|a
 .simp at a;rcases a with rfl|rfl|rfl|rfl<;>rfl
 .exact uf b v a
theorem Ol(c n p m:Int)(b:List UInt8):(sW c n p m b).length=4+b.length:=by simp[sW,oL];omega
theorem zmy:(Tryz.prog.info? 298).map (λi=>i.zero.map (·.cells))=some (some (sW 0 0 0 0 (pX 48)).toArray):=by kernel_rfl
theorem XK:(Tryz.prog.info? 298).map (·.size)=some 52:=by kernel_rfl
theorem Db:(Tryz.prog.info? 295).map (·.size)=some 48:=by kernel_rfl
theorem MS:(Tryz.prog.info? 236).map (·.size)=some 2:=by kernel_rfl
theorem Kh:(Tryz.prog.underlying 298).any (·.isRow)=true:=by kernel_rfl
theorem Rp:(Tryz.prog.underlying 295).any (·.isRow)=true:=by kernel_rfl
theorem Jd:(Tryz.prog.underlying 236).any (·.isRow)=true:=by kernel_rfl
theorem Ck(l:List UInt8)(k:Nat)(h:l.length<=k):qX l<256 ^ k:=ae (Zf l) (Nat.pow_le_pow_right dB h)
theorem zhV {fn:Func} {p q:Tmp} {ty:TypeId} (h:fn.results=#[.cell p ty, .tmp q]) {P:Program} (tmps:Array Value) (w:World) (g:Nat) (t:TypeId) (cs:List Value) (hp:tmps.getD p undef=VA g)
  (hg:row w g cs t) (hu:(P.underlying ty).any (·.isRow)=true) (hi:(P.info? ty).map (·.size)=some cs.length):(results fn tmps).run P w= .ok (.tuple #[.agg cs.toArray,tmps.getD q undef]) w:=by
 cases hd:P.underlying ty with
 |none=>simp[hd]at hu
 |some d=>
  have hr:d.isRow=true:=by simpa [hd]using hu
  have a:tmps[p]?.getD undef=VA g:=by simpa using hp
  have c:w.rangeAt g 0 cs:=hg.range 0 cs λj v e=>by simpa using e
  simp[results,h,a,asAddr,run_loadVar_mid w g 0 ty cs d c hd hr hi]
theorem zqu(c n p m x:Int)(b:List UInt8):(sW c n p m b).set 0 (.int .u64 x)=sW x n p m b:=rfl
theorem zqv(c n p m x:Int)(b:List UInt8):(sW c n p m b).set 1 (VB x)=sW c x p m b:=rfl
theorem zqw(c n p m x:Int)(b:List UInt8):(sW c n p m b).set 2 (VB x)=sW c n x m b:=rfl
theorem zqx(c n p m x:Int)(b:List UInt8):(sW c n p m b).set 3 (VB x)=sW c n p x b:=rfl
theorem zqy(c n p m:Int)(b b':List UInt8)(h:b.length=b'.length):splice (sW c n p m b) 4 (bv b')=sW c n p m b':=by
 have:(bv b').length=(bv b).length:=by simp[oL,h]
 simp[splice,sW,this];omega
theorem MJ(hb:List UInt8)(hl:hb.length=64)(w:World):
  Calls Tryz.prog 255 #[.agg (bv hb).toArray] w λe w'=>e= .returned (.tuple #[.agg (sW (uk hb) (ut hb) (EP hb) (vU hb) (wL hb)).toArray, .bool (vT (uk hb) (ut hb))])/\Below w.heap.size w w':=by
 obtain⟨c,r⟩:∃ c,c=uk hb:=⟨_,rfl⟩
 obtain⟨n,s⟩:∃ n,n=ut hb:=⟨_,rfl⟩
 obtain⟨pl,t⟩:∃ pl,pl=EP hb:=⟨_,rfl⟩
 obtain⟨m,u⟩:∃ m,m=vU hb:=⟨_,rfl⟩
 have b8:c<18446744073709551616:=by rw[r];exact Ck _ 8 jY
 have b9:n<4294967296:=by rw[s];exact Ck _ 4 jY
 have c4:pl<65536:=by rw[t];exact Ck _ 2 jY
 have c5:m<65536:=by rw[u];exact Ck _ 2 jY
 have sl:∀ (o k:Nat),o+k<=64->k<=8->∀ (g:Nat) (w':World),row w' g (bv hb) 296->nM w' (some ⟨g,o,none⟩) k 1 (bv ((hb.drop o).take k)):=λo k c6 c7 g w' hr=>by
  have:=hr.PN o k 1 (by rw[oL];omega) jB
  rwa [<-AA,dD,<-EE]at this
 have c1:∀ (g:Nat) (w':World),row w' g (bv hb) 296->Calls Tryz.prog 257 #[.slice (some ⟨g,0,none⟩) 8 8] w' λe w2=>e= .returned (.int .u64 c)/\w'=w2:=λg w' hr=>by
  have:=Qy (some ⟨g,0,none⟩) 8 8 _ w' (sl 0 8 dB dB g w' hr) dB
  rwa [r]
 have c2:∀ (g:Nat) (w':World),row w' g (bv hb) 296->Calls Tryz.prog 257 #[.slice (some ⟨g,8,none⟩) 4 4] w' λe w2=>e= .returned (.int .u64 n)/\w'=w2:=λg w' hr=>by
  have:=Qy (some ⟨g,8,none⟩) 4 4 _ w' (sl 8 4 dB dB g w' hr) dB
  rwa [s]
 have c3:∀ (g:Nat) (w':World),row w' g (bv hb) 296->Calls Tryz.prog 257 #[.slice (some ⟨g,12,none⟩) 2 2] w' λe w2=>e= .returned (.int .u64 pl)/\w'=w2:=λg w' hr=>by
  have:=Qy (some ⟨g,12,none⟩) 2 2 _ w' (sl 12 2 dB dB g w' hr) dB
  rwa [t]
 have L:∀ (g:Nat) (w':World),row w' g (bv hb) 296->Calls Tryz.prog 257 #[.slice (some ⟨g,14,none⟩) 2 2] w' λe w2=>e= .returned (.int .u64 m)/\w'=w2:=λg w' hr=>by
  have:=Qy (some ⟨g,14,none⟩) 2 2 _ w' (sl 14 2 dB dB g w' hr) dB
  rwa [u]
 rw[<-r,<-s,<-t,<-u]
 have C1:=Lib.hid c1
 have C2:=Lib.hid c2
 have C3:=Lib.hid c3
 have C4:=Lib.hid L
 have HL:=Lib.hid hl
 have c8:IntKind.i64.wrap (n:Int)=n:=by rw[IntKind.wrap_i64];omega
 have c9:IntKind.i64.wrap (pl:Int)=pl:=by rw[IntKind.wrap_i64];omega
 have d0:IntKind.i64.wrap (m:Int)=m:=by rw[IntKind.wrap_i64];omega
 have d1:=run_arrayAt (P:=Tryz.prog) 295 5 48 dA
 clear c1 c2 c3 L sl r s t u hl
 have M:(sW 0 0 0 0 (pX 48)).length=52:=by rw[Ol];simp[pX]
 have a2:=Lib.hid M
 clear M
 go_enter Tryz.func255,Tryz.ntmps255
 go_wp2_with (first
  |(with_reducible refine ww (.box 296 _) ?_;refine RS rfl 296 _ rfl (bv hb) rfl ?_;intro f w1 d2 N B)
  |(with_reducible refine ww (.alloc 298) ?_;refine Lp rfl 298 rfl _ zmy ?_;intro a w2 a3 O Q))
 have l:f≠a:=by have:=N.lt;omega
 have R:HS f (bv hb) 296 a 52 w2:=⟨N.new Q,by have:=O.there;rwa [a2.out]at this⟩
 have k1:∀ (j:Nat),j<52->∀ w',HS f (bv hb) 296 a 52 w'->w'.cell? ⟨a,j,none⟩=some (cellOf w' ⟨a,j,none⟩):=HS.cell
 have k2:∀ (j:Nat),j<52->∀ w',HS f (bv hb) 296 a 52 w'->w'.frozen? ⟨a,j,none⟩=false:=HS.frozen
 go_region_held3 (HS f (bv hb) 296 a 52) (first |assumption|(exact HS.drew kQ)|(exact HS.sw kQ l _ _)|(exact HS.sw (HS.sw kQ l _ _) l _ _))
  (first
   |(go_at_call_of 257 (Value.slice (some ⟨f,0,none⟩) 8 8);refine(C1.out _ _ (HS.Gg kQ)).mono ?_;rintro e w' ⟨rfl,rfl⟩)
   |(go_at_call_of 257 (Value.slice (some ⟨f,8,none⟩) 4 4);refine(C2.out _ _ (HS.Gg kQ)).mono ?_;rintro e w' ⟨rfl,rfl⟩))
 have C:=((O.sw 0 (.int .u64 c)).sw 1 (.int .i64 n)).drew
 rw[zqu,zqv]at C
 have T:=((Only.setCell w2 a 0 (.int .u64 c)).trans (Only.setCell _ a 1 (.int .i64 n))).drew
 obtain⟨D,E⟩:∃ x,x=((w2.setCell ⟨a,0,none⟩ (Value.int .u64 c)).setCell ⟨a,1,none⟩ (.int .i64 n)).drew:=⟨_,rfl⟩
 rw[<-E]at C T |-
 have U:HS f (bv hb) 296 a 52 D:=by rw[E];exact((R.sw l _ _).sw l _ _).drew
 clear E
 go_wp2
 go_region_held3 (HS f (bv hb) 296 a 52) (first |assumption|(exact HS.drew kQ)|(exact HS.sw kQ l _ _)|(exact HS.sw (HS.sw kQ l _ _) l _ _))
  (first
   |(go_at_call_of 257 (Value.slice (some ⟨f,12,none⟩) 2 2);refine(C3.out _ _ (HS.Gg kQ)).mono ?_;rintro e w' ⟨rfl,rfl⟩)
   |(go_at_call_of 257 (Value.slice (some ⟨f,14,none⟩) 2 2);refine(C4.out _ _ (HS.Gg kQ)).mono ?_;rintro e w' ⟨rfl,rfl⟩))
 have F:=((C.sw 2 (.int .i64 pl)).sw 3 (.int .i64 m)).drew
 rw[zqw,zqx]at F
 have V:=((Only.setCell D a 2 (.int .i64 pl)).trans (Only.setCell _ a 3 (.int .i64 m))).drew
 obtain⟨X,G⟩:∃ x,x=((D.setCell ⟨a,2,none⟩ (Value.int .i64 pl)).setCell ⟨a,3,none⟩ (.int .i64 m)).drew:=⟨_,rfl⟩
 rw[<-G]at F V |-
 have a4:HS f (bv hb) 296 a 52 X:=by rw[G];exact((U.sw l _ _).sw l _ _).drew
 clear G U R
 have Y:(wL hb).length=48:=by rw[wL,aM,HL.out]
 have Z:X.rangeAt f 16 (bv (wL hb)):=by
  refine a4.1.range 16 _ λj v q=>?_
  rw[wL,AA,bC]at q
  exact q
 have HB:=Lib.hid Y
 have a5:=Lib.hid Z
 clear Y Z
 go_wp2_with (first
  |(with_reducible refine ww (.load 295 _) ?_;refine QR rfl 295 _ rfl f 16 rfl (bv (wL hb)) a5.out Rp (by rw[oL,HB.out];exact Db) ?_)
  |(with_reducible refine ww (.store 295 _ _) ?_;refine Mc rfl 295 _ _ rfl a 4 rfl (bv (wL hb)) rfl _ 298 F (by rw[oL,HB.out];exact Db) (by rw[Ol,oL,HB.out,pX,bz];omega) (uf _) ?_;intro p d3 a6 a7 a8))
 have y:p=sW c n pl m (wL hb):=by rw[a6.out,zqy _ _ _ _ _ _ (by rw[HB.out,pX,bz])]
 have hp:∀ v∈p,v.oneCell'=true:=by rw[y];exact SI _ _ _ _ _
 have H:p.length=52:=by rw[y,Ol,HB.out]
 have a9:=Lib.hid y
 have b0:∀ w',row w' a p 298->w'.rangeAt a 0 [.int .u64 c, .int .i64 n]:=λw' h=>h.range 0 _ λj v q=>by
  rw[y]
  rcases j with _|_|j
  .exact q
  .exact q
  .simp at q
 refine wp_region_held_drew (S:=λw'=>row w' a p 298) dA (row.drew a7) (λz=>?_)
 refine wpAnyH_take (i:=1) (v:=.pointer (some ⟨a,0,none⟩)) rfl dA dA dA (λ_ _ _ h=>h) (Or.inl ⟨by rfl,λw _=>by go_simp⟩) z (wpAnyH_take (i:=0) (v:=.agg p.toArray) rfl dA dA dA (λ_ _ _ h=>h) (Or.inl ⟨by rfl,λw h=>Uz _ 298 _ rfl a 0 rfl p h.XR Kh (by rw[H];exact XK)⟩) z (wpAnyH_take (i:=2) (v:=.agg #[.int .u64 c, .int .i64 n]) rfl dA dA dA (λ_ _ _ h=>h) (Or.inl ⟨by rfl,λw h=>Uz _ 236 _ rfl a 0 rfl [.int .u64 c, .int .i64 n] (b0 w h) Jd MS⟩) z (wpAnyH_ready (rs:=[3]) dA ig ?_)))
 have b1:∀ w',(callFunc 215 (#[]++#[Value.agg #[.int .u64 c, .int .i64 n]]++#[])).run Tryz.prog w'= .ok (.enter 215 #[.agg #[.int .u64 c, .int .i64 n]]) w':=λw'=>by go_simp
 refine AllReadyH.cons rfl (λK I=>?_) AllReadyH.nil
 refine zl8 rfl 215 _ _ rfl [.agg #[.int .u64 c, .int .i64 n]] rfl (b1 _) ((IV c n _).mono ?_)
 rintro e d4 ⟨rfl,a0⟩
 refine⟨_,rfl,I.out _ _ (row.new z a0) (λb2=>?_)⟩
 refine wpAnyH_ready (rs:=[4]) dA ig (AllReadyH.cons rfl (λK I=>?_) AllReadyH.nil)
 refine zk8 rfl 298 _ _ rfl a 0 rfl p rfl p 298 b2 (by rw[H];exact XK) dB hp ?_
 intro b3 d5 b4 J b5
 rw[show b3=p by rw[b4.out,Om _ _ rfl]]at J
 refine I.out _ _ J (λb6=>?_)
 refine wpAnyH_take (i:=5) (v:=.bool (vT c n)) rfl dA dA dA (λ_ _ _ h=>h) (Or.inl ⟨by rfl,λw _=>by rfl⟩) b6 (wpAnyH_done dA ?_ _)
 go_wp2
 refine bodyPost_ret (zhV rfl _ _ a 298 _ rfl J Kh (by rw[H];exact XK)) rfl ?_
 rw[a9.out]
 refine⟨rfl,?_⟩
 have b7:=B.trans (Q.mono B.size)
 have A:w.heap.size<=a:=ag B.size a3
 have a1:=a8.below (V.below (T.below b7 A) A) A
 exact b5.below (a1.drew.trans (a0.mono a1.size)) A
theorem Zz(m x i:Nat)(h:i<m):(oH m x)[i]?=some (UInt8.ofNat (x / 256 ^ (m - 1 - i))):=by
 induction m generalizing i with
 |zero=>omega
 |succ m ih=>
  rw[zun];rcases i with _|i
  .simp
  .rw[gI,ih i dB,show m - 1 - i=m+1 - 1 - (i+1) by omega]
theorem zn6(l:List Value)(off:Nat)(m x i:Nat)(h:i<m)(hl:off+m<=l.length):
  (splice l off (bv ((oH m x).take i))).set (off+i) (vE (UInt8.ofNat (x / 256 ^ (m - 1 - i))))=splice l off (bv ((oH m x).take (i+1))):=by
 have e:(oH m x).take (i+1)=(oH m x).take i++[UInt8.ofNat (x / 256 ^ (m - 1 - i))]:=by rw[bf,Zz _ _ _ h];rfl
 have a:(bv ((oH m x).take i)).length=i:=by rw[oL,aI,rT];omega
 have c:(bv ((oH m x).take (i+1))).length=i+1:=by rw[oL,aI,rT];omega
 rw[splice,splice,c,a,e,wR,dN _ _ jY,dN _ _ jY];rw[aI,bS dB,a,gF,bO];have:l.drop (off+i)=l[off+i]'dB::l.drop (off+i+1):=dm dB;rw[this];simp[bv,fM]
theorem YT(x k:Nat):Value.int .u8 ((x:Int) / 2 ^ (8*k) % 256)=vE (UInt8.ofNat (x / 256 ^ k)):=by
 have a:(256:Nat) ^ k=2 ^ (8*k):=by rw[show 256=2 ^ 8 by rfl,<-Nat.pow_mul]
 rw[vE,a]
 congr 1
theorem QP(x m:Nat)(hm:m<=8)(gh ga:Nat)(l:List Value)(at_:Nat)(w:World)(hr:row w gh l 296)(hl:l.length=64)(ha:row w ga [VB at_] 3)(hat:at_+m<=64)(hne:gh≠ga):
  Calls Tryz.prog 247 #[.int .u64 x,VB m,VA gh,VA ga] w λe w'=>e= .returned (.tuple #[])/\row w' gh (splice l at_ (bv (oH m x))) 296/\row w' ga [VB (at_+m:Nat)] 3/\
   ∀ B,B<=gh->B<=ga->Below B w w':=by
 go_enter Tryz.func247,Tryz.ntmps247
 go_wp2
 go_loopw [8] (λi h=>∃ k:Nat,k<=m/\i=VB k/\row h gh (splice l at_ (bv ((oH m x).take k))) 296/\row h ga [VB at_] 3/\∀ B,B<=gh->B<=ga->Below B w h) (λi _=>m - (intOf i).toNat)
 case atStart=>exact⟨0,dB,rfl,by simpa [splice,bv]using hr,ha,λB _ _=>Below.refl B w⟩
 case round=>
  obtain⟨k,t,rfl,a,c,e⟩:=hrel
  by_cases p:k<m
  .have q:=c.cell 0 (v:=VB at_) rfl
   have r:(splice l at_ (bv ((oH m x).take k))).length=64:=by rw[length_splice _ _ _ (by rw[oL,aI,rT];omega),hl]
   obtain⟨u,j⟩:∃ u,(splice l at_ (bv ((oH m x).take k)))[at_+k]?=some u:=⟨_,aG dB⟩;have y:=a.cell (at_+k) j;have s:=a.frozen (at_+k);have H2:=Lib.hid a;have A2:=Lib.hid c;have B2:=Lib.hid e;have HL:=Lib.hid hl;clear a c e r j hr ha hl
   go_wp2
   go_region
   go_wp2
   go_roundw
   case rel=>
    refine⟨k+1,dB,by go_num,?_,?_,?_⟩
    .have:=(H2.out.sw (at_+k) (vE (UInt8.ofNat (x / 256 ^ (m - 1 - k))))).drew
     rw[zn6 _ _ _ _ _ p (by rw[HL.out];omega)]at this;rw[YT];exact this
    .exact(A2.out.only (Only.setCell _ gh _ _) dB).drew
    .exact λB f g=>((Only.setCell _ gh _ _).below (B2.out B f g) f).drew
   case measure=>simp[intOf]<;>omega
  .obtain rfl:k=m:=by omega
   have q:=c.cell 0 (v:=VB at_) rfl;have s:=c.frozen 0;have o:(oH k x).take k=oH k x:=aQ kX;rw[o]at a;have H2:=Lib.hid a;have A2:=Lib.hid c;have B2:=Lib.hid e;clear a c e hr ha hl o
   go_wp2
   go_end0
   refine⟨rfl,H2.out.only (Only.setCell _ ga _ _) hne,?_,λB f g=>(Only.setCell _ ga _ _).below (B2.out B f g) g⟩;have:=A2.out.sw 0 (VB (at_+k:Nat));simpa using this
def wz(c n p m:Nat)(b:List UInt8):List UInt8:=oH 8 c++(oH 4 n++(oH 2 p++(oH 2 m++b)))
theorem IW(c n p m:Nat)(b:List UInt8):(wz c n p m b).length=16+b.length:=by simp[wz,rT];omega
theorem NY{α:Type}(pre x y post:List α)(h:x.length=y.length):splice (pre++(x++post)) pre.length y=pre++(y++post):=by
 rw[splice,dY,<-h,<-dR,dK,dK]
theorem zn7(c n p m:Nat)(b:List UInt8)(hb:b.length=48):
  splice (splice (splice (splice (splice (bv (pX 64)) 0 (bv (oH 8 c))) 8 (bv (oH 4 n))) 12 (bv (oH 2 p))) 14 (bv (oH 2 m))) 16 (bv b)=bv (wz c n p m b):=by
 have k:bv (pX 64)=[]++(bv (pX 8)++(bv (pX 4)++(bv (pX 2)++(bv (pX 2)++bv (pX 48))))):=by simp only[<-wR,aU];rfl
 have l:(bv (pX 8)).length=(bv (oH 8 c)).length:=by rw[oL,oL,rT];rfl
 have o:(bv (pX 4)).length=(bv (oH 4 n)).length:=by rw[oL,oL,rT];rfl
 have q:(bv (pX 2)).length=(bv (oH 2 p)).length:=by rw[oL,oL,rT];rfl
 have r:(bv (pX 2)).length=(bv (oH 2 m)).length:=by rw[oL,oL,rT];rfl
 have s:(bv (pX 48)).length=(bv b).length:=by rw[oL,oL,hb];rfl
 have t:(bv (oH 8 c)).length=8:=by rw[oL,rT]
 have a:(bv (oH 8 c)++bv (oH 4 n)).length=12:=by rw[aA,oL,oL,rT,rT]
 have e:((bv (oH 8 c)++bv (oH 4 n))++bv (oH 2 p)).length=14:=by rw[aA,a,oL,rT]
 have u:(((bv (oH 8 c)++bv (oH 4 n))++bv (oH 2 p))++bv (oH 2 m)).length=16:=by rw[aA,e,oL,rT]
 rw[k];have f:=NY [] (bv (pX 8)) (bv (oH 8 c)) (bv (pX 4)++(bv (pX 2)++(bv (pX 2)++bv (pX 48)))) l;simp only[aY]at f;rw[f,aU];have g:=NY (bv (oH 8 c)) (bv (pX 4)) (bv (oH 4 n)) (bv (pX 2)++(bv (pX 2)++bv (pX 48))) o;rw[t]at g;rw[g,<-aH];have h:=NY (bv (oH 8 c)++bv (oH 4 n)) (bv (pX 2)) (bv (oH 2 p)) (bv (pX 2)++bv (pX 48)) q;rw[a]at h;rw[h,<-aH];have i:=NY ((bv (oH 8 c)++bv (oH 4 n))++bv (oH 2 p)) (bv (pX 2)) (bv (oH 2 m)) (bv (pX 48)) r;rw[e]at i;rw[i,<-aH];have j:=NY (((bv (oH 8 c)++bv (oH 4 n))++bv (oH 2 p))++bv (oH 2 m)) (bv (pX 48)) (bv b) [] s;rw[u,aR,aR]at j;rw[j,wz];simp only[wR,aH]
structure BI(B g1 g2 ga:Nat)(L l:List Value)(x:Int)(w0 w:World):Prop where
 p:row w g1 L 298
 h:row w g2 l 296
 a:row w ga [VB x] 3
 b:Below B w0 w
 o1:g1<g2
 o2:g2<ga
 o3:B<=g1
 len:l.length=64
theorem SG{B g1 g2 ga:Nat}{L l:List Value}{x:Nat}{w0 w:World}(h:BI B g1 g2 ga L l x w0 w)(v m:Nat)(hm:m<=8)(hx:x+m<=64):
  Calls Tryz.prog 247 #[.int .u64 v,VB m,VA g2,VA ga] w λe w'=>e= .returned (.tuple #[])/\BI B g1 g2 ga L (splice l x (bv (oH m v))) ((x+m:Nat):Int) w0 w':=by
 have:=h.o2;refine(QP v m hm g2 ga l x w h.h h.len h.a hx dB).mono ?_;rintro e w' ⟨rfl,a,c,f⟩;have hb:=f g2 (ax _) dB;exact⟨rfl,h.p.below hb h.o1,a,c,h.b.trans (hb.mono (by have:=h.o1;have:=h.o3;omega)),h.o1,h.o2,h.o3,by rw[length_splice _ _ _ (by rw[oL,rT,h.len];omega),h.len]⟩
theorem BI.c0{B g1 g2 ga:Nat}{c n p m:Int}{b:List UInt8}{l:List Value}{x:Int}{w0 w:World}(h:BI B g1 g2 ga (sW c n p m b) l x w0 w):w.cell? ⟨g1,0,none⟩=some (.int .u64 c):=h.p.cell 0 rfl
theorem BI.c1{B g1 g2 ga:Nat}{c n p m:Int}{b:List UInt8}{l:List Value}{x:Int}{w0 w:World}(h:BI B g1 g2 ga (sW c n p m b) l x w0 w):w.cell? ⟨g1,1,none⟩=some (VB n):=h.p.cell 1 rfl
theorem BI.c2{B g1 g2 ga:Nat}{c n p m:Int}{b:List UInt8}{l:List Value}{x:Int}{w0 w:World}(h:BI B g1 g2 ga (sW c n p m b) l x w0 w):w.cell? ⟨g1,2,none⟩=some (VB p):=h.p.cell 2 rfl
theorem BI.c3{B g1 g2 ga:Nat}{c n p m:Int}{b:List UInt8}{l:List Value}{x:Int}{w0 w:World}(h:BI B g1 g2 ga (sW c n p m b) l x w0 w):w.cell? ⟨g1,3,none⟩=some (VB m):=h.p.cell 3 rfl
theorem BI.start {L:List Value} {w:World} {g1 g2 ga:Nat} {w1 w2 w3 w4:World} {l4:List Value} (a1:w.heap.size<=g1) (a2:row w1 g1 L 298) (a3:VD w w1) (b1:w1.heap.size<=g2) (b2:row w2 g2 (bv (pX 64)) 296) (b3:VD w1 w2)
  (c1:w2.heap.size<=ga) (_c2:row w3 ga [VB 0] 3) (c3:VD w2 w3) (d1:Hid (l4=splice [VB 0] 0 [VB 0])) (d2:row w4 ga l4 3) (d3:Only ga w3 w4):BI w.heap.size g1 g2 ga L (bv (pX 64)) ((0:Nat):Int) w w4:=by
 have c:=a2.lt;have e:=b2.lt;have a:=a3.size;have f:=b3.size;rw[show l4=[VB 0]from d1.out]at d2;exact⟨((a2.new b3).new c3).only d3 dB,(b2.new c3).only d3 dB,d2,d3.below ((a3.trans (b3.mono a)).trans (c3.mono dB)) dB,dB,dB,a1,by rw[oL];rfl⟩
theorem Hf (c n p m : Nat) (b : List UInt8) (hb : b.length = 48) (_hc : c < 18446744073709551616) (hn : n < 4294967296) (hp : p < 65536) (hm : m < 65536) (w : World) :
    Calls Tryz.prog 217 #[.agg (sW c n p m b).toArray] w λe w' => e = .returned (.agg (bv (wz c n p m b)).toArray) /\ Below w.heap.size w w' := by
  have HB := Lib.hid hb
  clear hb
  have wn : IntKind.u64.wrap (n : Int) = n := by rw [IntKind.wrap_u64]; omega
  have wp : IntKind.u64.wrap (p : Int) = p := by rw [IntKind.wrap_u64]; omega
  have wm : IntKind.u64.wrap (m : Int) = m := by rw [IntKind.wrap_u64]; omega
  have hz3 : (Tryz.prog.info? 3).map (λi => i.zero.map (·.cells)) = some (some [Value.int .i64 0].toArray) := by kernel_rfl
  go_enter Tryz.func217, Tryz.ntmps217
  go_wp2_with (first
    | (with_reducible refine ww (.box 298 _) ?_; refine RS rfl 298 _ rfl (sW c n p m b) rfl ?_; intro g1 w1 hg1 hr1 hb1)
    | (with_reducible refine ww (.alloc 296) ?_; refine Lp rfl 296 rfl _ zik ?_; intro g2 w2 hg2 hr2 hb2)
    | (with_reducible refine ww (.alloc 3) ?_; refine Lp rfl 3 rfl _ hz3 ?_; intro ga w3 hga ha3 hb3)
    | (with_reducible refine ww (.store 3 _ _) ?_; refine Mc rfl 3 _ _ rfl ga 0 rfl [.int .i64 0] rfl _ 3 ha3 (by kernel_rfl) (by simp) (by simp [Value.oneCell']) ?_; intro l4 w4 HL4 hr4 ho4
       have I0 := BI.start hg1 hr1 hb1 hg2 hr2 hb2 hga ha3 hb3 HL4 hr4 ho4
       clear hg1 hr1 hb1 hg2 hr2 hb2 hga ha3 hb3 HL4 hr4 ho4
       have q0 := I0.c0)
    | (go_at_call_of 247 (Value.int .u64 (c : Int)); refine (SG I0 c 8 (by omega) (by omega)).mono ?_; rintro e w5 ⟨rfl, I1⟩; clear I0 q0; have q1 := I1.c1)
    | (go_at_call_of 247 (Value.int .u64 (n : Int)); refine (SG I1 n 4 (by omega) (by omega)).mono ?_; rintro e w6 ⟨rfl, I2⟩; clear I1 q1; have q2 := I2.c2)
    | (go_at_call_of 247 (Value.int .u64 (p : Int)); refine (SG I2 p 2 (by omega) (by omega)).mono ?_; rintro e w7 ⟨rfl, I3⟩; clear I2 q2; have q3 := I3.c3)
    | (go_at_call_of 247 (Value.int .u64 (m : Int)); refine (SG I3 m 2 (by omega) (by omega)).mono ?_; rintro e w8 ⟨rfl, I4⟩; clear I3 q3))
  have hx : row w8 ga [.int .i64 16] 3 := I4.a
  have hg2 := I4.h
  rw [show ((0 + 8 + 4 : Nat) + 2 : Nat) = 14 from rfl, show ((0 + 8 : Nat) + 4 : Nat) = 12 from rfl, show (0 + 8 : Nat) = 8 from rfl] at hg2
  have hlen := I4.len
  rw [show ((0 + 8 + 4 : Nat) + 2 : Nat) = 14 from rfl, show ((0 + 8 : Nat) + 4 : Nat) = 12 from rfl, show (0 + 8 : Nat) = 8 from rfl] at hlen
  have hst := zn7 c n p m b HB.out
  generalize splice (splice (splice (splice (bv (pX 64)) 0 (bv (oH 8 c))) 8 (bv (oH 4 n))) 12 (bv (oH 2 p))) 14 (bv (oH 2 m)) = l8 at hg2 hlen hst
  have hp1 := I4.p
  have hob := I4.b
  have o2 := I4.o2
  have o1 := I4.o1
  have o3 := I4.o3
  clear I4
  have hx0 := hx.cell 0 (v := .int .i64 16) rfl
  have hsrc : ∀ j v, (bv b)[j]? = some v -> w8.drew.cell? ((⟨g1, 4, none⟩ : Addr).add j) = some v := λj v hv => by
    rw [Addr.add_lit]
    exact hp1.drew.cell (4 + j) (by rw [sW, List.getElem?_append_right (by simp)]; simpa using hv)
  have HS := Lib.hid hsrc
  have HST := Lib.hid hst
  have HL := Lib.hid hlen
  clear hsrc hst hlen
  go_region_held3 (λw' => w'.cell? ⟨ga, 0, none⟩ = some (.int .i64 16)) (first | assumption | go_keep)
    (first
      | (refine Zv rfl _ _ _ _ rfl 5 (by kernel_rfl) (by kernel_rfl) _ _ _ _ _ _ rfl rfl g2 16 l8 296 hg2.drew (bv b) (by rw [oL, HB.out]; rfl) (λ_ => ⟨rfl, _, rfl, HS.out⟩) (by rw [oL, HB.out, HL.out]; omega) (uf b) ?_; intro l9 w9 HL9 hr9 ho9
         have hx9 : w9.cell? ⟨ga, 0, none⟩ = some (.int .i64 16) := (hx.drew.only ho9 (by omega)).cell 0 rfl))
  have h9 : l9 = bv (wz c n p m b) := by rw [HL9.out]; exact HST.out
  have h64 : (bv (wz c n p m b)).length = 64 := by rw [oL, IW, HB.out]
  have hb9 := ho9.below hob.drew (by omega)
  rw [h9] at hr9
  have HR9 := Lib.hid hr9
  have H64 := Lib.hid h64
  have HB9 := Lib.hid hb9
  clear h9 HL9 hr9 h64 hb9 hx9 hg2 ho9 HST HS hob hp1 hx hx0
  go_wp2_with (first
    | (with_reducible refine ww (.load 296 _) ?_; refine QR rfl 296 _ rfl g2 0 rfl (bv (wz c n p m b)) HR9.out.XR Sn (by rw [H64.out]; exact NK) ?_)
    | (with_reducible refine ww (.store 296 _ _) ?_; refine Mc rfl 296 _ _ rfl g2 0 rfl (bv (wz c n p m b)) rfl _ 296 HR9.out (by rw [H64.out]; exact NK) (by rw [H64.out]; omega) (uf _) ?_; intro l10 w10 HL10 hr10 ho10))
  rw [show l10 = bv (wz c n p m b) by rw [HL10.out, Om _ _ rfl]] at hr10
  refine bodyPost_ret (UU rfl _ _ g2 296 _ rfl hr10 Sn (by rw [H64.out]; exact NK)) rfl ?_
  exact ⟨rfl, ho10.below HB9.out (by omega)⟩
def Av(a b:List UInt8):List UInt8:=a.take 64++b.drop 64
theorem zim(a b:List UInt8)(ha:a.length=128)(hb:b.length=128):(Av a b).length=128:=by simp[Av];omega
theorem KY(a b:List UInt8)(ha:a.length=128)(hb:b.length=128)(w:World):Calls Tryz.prog 231 #[.agg (bv a).toArray, .agg (bv b).toArray] w λe w'=>e= .returned (.agg (bv (Av a b)).toArray)/\Below w.heap.size w w':=by
 have HA:=Lib.hid ha
 have HB:=Lib.hid hb
 clear ha hb
 go_enter Tryz.func231,Tryz.ntmps231
 go_wp2_with (first
  |(with_reducible refine ww (.box 265 (.tmp 0)) ?_;refine RS rfl 265 _ rfl (bv a) rfl ?_;intro o w1 M p e)
  |(with_reducible refine ww (.box 265 (.tmp 1)) ?_;refine RS rfl 265 _ rfl (bv b) rfl ?_;intro f w2 N q g)
  |(with_reducible refine ww (.alloc 265) ?_;refine Lp rfl 265 rfl _ zil ?_;intro h B O C i))
 have D:=(p.new g).new i
 have E:=q.new i
 have P:o<f:=by have:=p.lt;omega
 have Q:f<h:=by have:=q.lt;omega
 have F:=(e.trans (g.mono e.size)).trans (i.mono (ag e.size g.size))
 have r:∀ j v,(bv (a.take 64))[j]?=some v->B.drew.cell? ((⟨o,0,none⟩:Addr).add j)=some v:=λj v k=>by
  rw[Addr.add_lit]
  rw[EE,bD]at k
  split at k
  .exact D.drew.cell (0+j) (by rwa [aZ])
  .cases k
 have HS:=Lib.hid r
 have s:(bv (a.take 64)).length=64:=by rw[oL,aI,HA.out];rfl
 have l:=Lib.hid s
 clear r s
 go_region_held3 (λ_=>True) (exact trivial)
  (first
   |(refine Zv rfl _ _ _ _ rfl 5 dA dA _ _ _ _ _ _ rfl rfl f 0 (bv b) 265 E.drew (bv (a.take 64)) (by rw[l.out];rfl) (λ_=>⟨rfl,_,rfl,HS.out⟩) (by rw[l.out,oL,HB.out];omega) (uf _) ?_;intro G R t m u))
 have y:G=bv (Av a b):=by
  rw[t.out,splice,l.out,Av,wR,AA]
  simp
 rw[y]at m
 have z:(bv (Av a b)).length=128:=by rw[oL,zim _ _ HA.out HB.out]
 have H:=C.drew.only u dB
 have I:=u.below F.drew dB
 have HR:=Lib.hid m
 have c:=Lib.hid z
 clear y t m z HS
 go_wp2_with (first
  |(with_reducible refine ww (.load 265 _) ?_;refine QR rfl 265 _ rfl f 0 rfl (bv (Av a b)) HR.out.XR CY (by rw[c.out];exact Pp) ?_)
  |(with_reducible refine ww (.store 265 _ _) ?_;refine Mc rfl 265 _ _ rfl h 0 rfl (bv (Av a b)) rfl _ 265 H (by rw[c.out];exact Pp) (by rw[c.out,oL,pX,bz];omega) (uf _) ?_;intro J S K A L))
 rw[show J=bv (Av a b) by rw[K.out,Om _ _ (by rw[c.out,oL,pX,bz])]]at A
 refine bodyPost_ret (UU rfl _ _ h 265 _ rfl A CY (by rw[c.out];exact Pp)) rfl ?_
 exact⟨rfl,L.below I (by have:=e.size;have:=g.size;omega)⟩
theorem zmz:(Tryz.prog.info? 236).map (λi=>i.zero.map (·.cells))=some (some [Value.int .u64 0,VB 0].toArray):=by kernel_rfl
theorem Wd{l:List Value}{a b:Value}(h0:l[0]?=some a)(h1:l[1]?=some b):∀ j v,[a,b][j]?=some v->l[0+j]?=some v:=by
 intro j v a;rcases j with _|_|j
 .rw[h0];simpa using a
 .rw[aZ,h1];simpa using a
 .simp at a
def Tq:Value:=.tuple #[.agg #[.int .u64 0,VB 0],VC,VB 0,VB 4]
theorem zlr {fn:Func} {p q r s:Tmp} {ty:TypeId} (h:fn.results=#[.cell p ty, .tmp q, .tmp r, .tmp s]) {P:Program} (tmps:Array Value) (w:World) (g:Nat) (t:TypeId) (cs:List Value) (hp:tmps.getD p undef=VA g)
  (hg:row w g cs t) (hu:(P.underlying ty).any (·.isRow)=true) (hi:(P.info? ty).map (·.size)=some cs.length):(results fn tmps).run P w= .ok (.tuple #[.agg cs.toArray,tmps.getD q undef,tmps.getD r undef,tmps.getD s undef]) w:=by
 cases hd:P.underlying ty with
 |none=>simp[hd]at hu
 |some d=>
  have hr:d.isRow=true:=by simpa [hd]using hu
  have a:tmps[p]?.getD undef=VA g:=by simpa using hp
  have c:w.rangeAt g 0 cs:=hg.range 0 cs λj v e=>by simpa using e
  simp[results,h,a,asAddr,run_loadVar_mid w g 0 ty cs d c hd hr hi]
theorem Km(w:World):Calls Tryz.prog 254 #[] w λe w'=>e= .returned (.tuple #[.agg #[.int .u64 0,VB 0],VC,VB 0,VB 4])/\VD w w':=by
 go_enter Tryz.func254,Tryz.ntmps254
 go_wp2_with (first
  |(with_reducible refine ww (.alloc 236) ?_;refine Lp rfl 236 rfl _ zmz ?_;intro a w2 e f g)
  |(with_reducible refine ww (.store 236 _ _) ?_;refine Mc rfl 236 _ _ rfl a 0 rfl [.int .u64 0,VB 0] rfl _ 236 f dA ig kD ?_;intro h k i c j))
 rw[show h=_ from i.out.trans (Om _ _ rfl)]at c;refine bodyPost_ret (zlr rfl _ _ a 236 _ rfl c Jd dA) rfl ?_;exact⟨rfl,j.below g e⟩
def DK(b:List UInt8):List UInt8:=oH 4 b.length++b++pX (48*qE b.length - (4+b.length))
def xL(b:List UInt8)(i:Nat):List UInt8:=((DK b).drop (48*i)).take 48
def zM(c n:Nat)(b:List UInt8):List (List UInt8):=(List.range (qE b.length)).map λi=>wz c n i (qE b.length) (xL b i)
theorem XC(n:Nat):4+n<=48*qE n:=by unfold qE;omega
theorem zjm(b:List UInt8):(DK b).length=48*qE b.length:=by
 have:=XC b.length;simp[DK,rT,pX];omega
theorem Qf(b:List UInt8)(i:Nat)(h:i<qE b.length):(xL b i).length=48:=by
 simp[xL,zjm];omega
theorem XH(n:Nat)(x:Nat):(bv (oH n x)).length=n*1:=by simp[oL,rT]
theorem VV(n:Nat)(hn:n<=1000000)(w:World):CQ 209 [VB n] w (λv w'=>v=VB (qE n)/\w=w'):=Ho (zpj n hn w)
def QC(b:List UInt8)(i:Nat):List Value:=[VB i, .agg (bv (xL b i)).toArray]
def Cf(b:List UInt8):List (List Value):=(List.range (qE b.length)).map (QC b)
theorem zmB(b:List UInt8)(i:Nat)(hi:i<qE b.length):splice (List.replicate 48 (vE 0)) 0 (bv (((oH 4 b.length++b).drop (48*i)).take 48))=bv (xL b i):=by
 have g:=zjm b;have h:=XC b.length;have c:DK b=(oH 4 b.length++b)++pX (48*qE b.length - (4+b.length)):=by simp[DK]
 obtain⟨A,a⟩:∃ A,A=oH 4 b.length++b:=⟨_,rfl⟩;have j:A.length=4+b.length:=by rw[a];simp[rT]
 rw[xL,c,<-a];have e:List.replicate 48 (vE 0)=bv (pX 48):=(PT 48).symm;rw[e,fC,jD];have f:((A.drop (48*i)).take 48).length=min 48 (A.length - 48*i):=by simp
 rw[splice,dz,aU,aZ,oL,f,wR,<-AA]
 congr 2
 simp only[pX,iW,List.take_replicate,aM]
 congr 1
 have:qE b.length<=(b.length+51) / 48:=ax _;omega
theorem SS(n:Nat):[Value.int .u8 (IntKind.u8.wrap ((n:Int).fdiv (2 ^ 24))), .int .u8 (IntKind.u8.wrap ((n:Int).fdiv (2 ^ 16))), .int .u8 (IntKind.u8.wrap ((n:Int).fdiv (2 ^ 8))), .int .u8 (IntKind.u8.wrap (n:Int))]=bv (oH 4 n):=by
 simp only[oH,bv,bJ,bi,dZ,aU,bL,vE,gY _ (by omega:(0:Int)<=2 ^ 24),gY _ (by omega:(0:Int)<=2 ^ 16),gY _ (by omega:(0:Int)<=2 ^ 8),IntKind.wrap_u8];simp;omega
theorem zrU (b:List UInt8) (g3 g4 ga oa n c:Nat) (w:World) (hl:b.length=n) (hn:n<=40000) (r3:row w g3 [VB n] 3) (r4:row w g4 [.slice (some ⟨ga,oa,none⟩) (4+n) c] 23)
   (hs:nM w (some ⟨ga,oa,none⟩) (4+n) 1 (bv (oH 4 n++b))) (hcap:4+n<=c):Lj Tryz.prog 246 [VA g3,VA g4] (Cf b) [g3,g4,ga] w:=by
 intro l J Jx W p F a4 G H;have s:=r3.new p;have I:=r4.new p;have t:=hs.new p;have u:=t.some dB;obtain⟨_,_,K,u⟩:=u;cases K;have a5:=Below.refl W.heap.size W;refine nZ (rs:=[]) (n:=23) Tryz.func246 rfl rfl Tryz.ntmps246 dA rfl<|ny<|mZ (nH s)<|qA rfl (oz dA rfl) (VV n dB W) ?_
 rintro _ _ ⟨rfl,rfl⟩;refine ng<|nk<|pE ?_;refine qY (0:Nat) (λk=>[(0, .func (.yield l) #[] #[]),(1,VA g3),(2,VA g4),(7,VB (qE n:Nat)),(8,VB (k:Nat))])
   (λk w'=>k<=qE n/\J k w'/\(∀ x,x∈[g3,g4,ga]->w'.heap[x]?=W.heap[x]?)/\W.heap.size<=w'.heap.size) (λk=>qE n - k) VF ⟨aC _,H,λ_ _=>rfl,ax _⟩ ?_
 rintro k f j ⟨a6,y,q,z⟩;have a:=Below.refl j.heap.size j;have A:row j g4 [.slice (some ⟨ga,oa,none⟩) (4+n) c] 23:=(q g4 ig).trans I;have L:=t.blk (q ga ig) z;have a7:48*qE n<=n+51:=by unfold qE;omega
 refine ny<|mZ (pI rfl rfl)<|nk<|nI<|oZ rfl (λM=>?_)<|λM=>?_
 ·
  refine nU<|nJ<|nI<|pE<|ny<|ng<|oG<|nK<|oD (List.replicate 48 (vE 0)) dA<|λB a8 N h O=>?_
  have P:=ag a.size N;replace a:=a.acc O;refine nk<|nI<|qH [B] dA ?_
  intro a9 C Q;replace h:=h.new C;replace a:=a.acc C;have R:=a;refine nu 0 (yw (e:=5) (n:=48) (0) (48) (48) (48) dA rfl rfl rfl rfl ig dB dB dB dB dB)<|nR 1 (λw' S=>oK rfl (Ld.ru (A.new (R.nD S (by first |(simp;done)|(simp;omega)|(simp[*];done)|exact pG (Or.inl dB)|exact pG (Or.inr ig)|exact λg i=>ag dB (wh i).1|(intro b o e;cases e;exact pG (Or.inl dB))|(intro b i;have:=(hu.lt b (ah.1 i)).1;omega)|(intro b o e;cases e;intro i;have:=(hu.lt _ (ah.1 i)).1;omega)|assumption))) dA rfl))<|nu 2 (nS)<|nu 3 (yR rfl rfl (nV dB))<|nu 4 (JW (e:=5) (48*k) (_) (_) (_) dA rfl ⟨_,_,rfl,dB⟩ rfl rfl ig dB dB dB dB rfl)<|oh 5 dA ?_
  have T:(bv (((oH 4 n++b).drop (48*k)).take 48)).length=Nat.min (4+n - 48*k) 48:=by rw[oL,aI,aM,aA,rT,hl,Nat.min_comm]
  have r:k<qE b.length:=by rw[hl];omega
  refine rf rfl rfl<|Rt (e:=5) dA dA rfl rfl B (0) h (bv (((oH 4 n++b).drop (48*k)).take 48)) T (λ_=>⟨rfl,_,rfl,(L.new a).src (48*k) 48⟩) (by rw[oL,aI,bz];omega) (uf _)<|λU h D=>?_
  have V:=Q.aq D;refine⟨V,?_⟩;replace a:=D.below a P;have E:=zmB b k r;rw[hl]at E;rw[E]at h;refine pq dA<|nJ<|ny<|ng<|ng<|mZ (oK rfl (Ld.qI h dA dA (by rw[oL,Qf b k r]))) ?_
  have X:(Cf b)[k]?=some (QC b k):=by
    rw[Cf,aV,eH r];rfl
  have Y:=G k (QC b k) U X (F _ _ _ y a);refine WK (vl:=QC b k) rfl rfl Y ?_;rintro e b0 (⟨rfl,Z,a0,b1⟩|⟨rfl,a1⟩)
  · refine⟨_,rfl,?_⟩
    refine mZ (sj rfl)<|nk<|Nu rfl<|nU<|pO<|nJ<|nO<|mZ (oJ rfl rfl (Coup.nV dB))<|ng<|oI<|oM ⟨k+1,dB,⟨rfl,rfl,rfl,rfl,by go_num,rfl⟩,dB,Z,λx m=>?_,by have:=a.size;omega⟩
    have a2:x<j.heap.size:=by
     have a3:=A.lt;simp only[ak,bq,or_false]at m;rcases m with rfl|rfl|rfl
     .exact ae s.lt z
     .exact a3
     .omega
    rw[a0 x m,a.block x a2,q x m]
  · refine⟨_,rfl,?_⟩
    refine mZ (sj rfl)<|nk<|yB rfl<|nY<|sS<|qy<|zH<|sS<|ou [] trivial ?_
    exact Or.inr a1
 ·
  refine qL<|qK<|rq<|qO<|zS [] trivial ?_
  obtain rfl:k=qE n:=by omega
  refine Or.inl ?_;rw[Cf,aP,gH,hl];exact y
theorem zuq(b:List UInt8)(p:Option Addr)(n cp:Nat)(w:World)(h:nM w p n 1 (bv b))(hn:n<=40000):
  CQ 216 [.slice p n cp] w (λv w'=>∃ g3 g4 ga,v= .func (.func 246) #[] [VA g3,VA g4].toArray/\g3<w'.heap.size/\g4<w'.heap.size/\ga<w'.heap.size/\w.heap.size<=g3/\w.heap.size<=g4/\w.heap.size<=ga/\
   VD w w'/\Lj Tryz.prog 246 [VA g3,VA g4] (Cf b) [g3,g4,ga] w'):=by
 have A:b.length=n:=by simpa [oL]using h.len
 have a:=Below.refl w.heap.size w;refine nZ (rs:=[.tmp 2]) (n:=22) Tryz.func216 rfl rfl Tryz.ntmps216 dA rfl<|ny<|oG<|ng<|mZ (oV (e:=5) (sz:=1) dA rfl rfl)<|nK<|oD ([VB 0]) dA<|λg3 P B c C=>?_
 have D:=ag a.size B;replace a:=a.acc C;refine nT<|pQ c<|λQ c E=>?_
 replace a:=E.below a D;refine qx<|mZ (nH c)<|mZ (xm rfl rfl dB rfl)<|mZ (rP (k:=.u8) dA dA rfl rfl)<|mZ (nH c)<|mZ (xm rfl rfl dB rfl)<|mZ (rP (k:=.u8) dA dA rfl rfl)<|mZ (nH c)<|mZ (xm rfl rfl dB rfl)<|mZ (rP (k:=.u8) dA dA rfl rfl)<|mZ (nH c)<|mZ (rP (k:=.u8) dA dA rfl rfl)<|nK<|Jp (e:=5) [(0, .int .u8 (IntKind.u8.wrap ((n:Int).fdiv (2 ^ 24)))),(1, .int .u8 (IntKind.u8.wrap ((n:Int).fdiv (2 ^ 16)))),(2, .int .u8 (IntKind.u8.wrap ((n:Int).fdiv (2 ^ 8)))),(3, .int .u8 (IntKind.u8.wrap (n:Int)))] [.int .u8 0] 1 dA dA rfl dB dB (by intro i F;rcases i with _|_|_|_|i<;>first |(simp[Value.cells];done)|(exfalso;simp only[aD,aY]at F;omega)) kY<|λj G r l s=>?_
 have R:=ag a.size r;have S:g3<j:=ae c.lt r;replace c:=c.new s;replace a:=a.acc s;replace l:row G j (bv (oH 4 n)) 5:=by rw[<-SS n];exact l
 refine ng ?_;have o:=l.owns (base:=j) (m:=4) (sz:=1) (ax _) (XH 4 n) jB;have T:=a.size;refine nK<|tu (e:=5) (sz:=1) (bytes:=1) (z:=Value.int .u8 0) dA rfl dA rfl iT rfl o rfl (h.below a (ax _)) (uf _) jB dB (λU=>dB)<|λV X t u Y=>?_
 replace c:=c.own o u dB;replace a:=a.own o u dB;have H:=t.form' dB;obtain⟨ga,I,J,rfl,Z,a0,K⟩:=H;have f:=t.sl;rw[<-wR]at f;refine nK<|oD ([VC]) dA<|λg4 a1 y g p=>?_
 have L:=ag a.size y;have M:g3<g4:=ae c.lt y;replace c:=c.new p;replace f:=f.new p;replace a:=a.acc p;refine nT<|pQ g<|λa2 g q=>?_
 replace c:=c.only q (ai M);replace f:=f.only q dB;replace a:=q.below a L;refine qx<|mZ (uV)<|nA<|nk<|nY<|ou [_] ⟨rfl,trivial⟩<|⟨g3,g4,ga,rfl,c.lt,g.lt,?_,dB,dB,dB,a,?_⟩
 .obtain⟨_,_,N,O⟩:=f.some dB;cases N;exact O
 .exact zrU b g3 g4 ga I n J _ A hn c g f K
theorem KM(c n:Int)(w:World):CQ 215 [.agg #[.int .u64 c,VB n]] w (λv w'=>v= .bool (vT c n)/\VD w w'):=Ho (IV c n w)
theorem K_(n:Int)(w:World):CQ 150 [VB n] w (λv w'=>v=VB (MZ n)/\w=w'):=Ho (LD n w)
theorem zpn(c n p m:Nat)(b:List UInt8)(hb:b.length=48)(hc:c<18446744073709551616)(hn:n<4294967296)(hp:p<65536)(hm:m<65536)(w:World):
 CQ 217 [.agg (sW c n p m b).toArray] w (λv w'=>v= .agg (bv (wz c n p m b)).toArray/\VD w w'):=Ho (Hf c n p m b hb hc hn hp hm w)
def qN(n:Nat):Nat:=(qE n+1) / 2
def zI(c n:Nat)(b:List UInt8):List UInt8:=(zM c n b).flatten++pX (128*qN b.length - 64*qE b.length)
def AV(c n:Nat)(b:List UInt8)(k:Nat):List UInt8:=((zM c n b).take k).flatten++pX (128*qN b.length - 64*k)
theorem Va(c n:Nat)(b:List UInt8)(k:Nat)(hk:k<qE b.length):(zM c n b)[k]?=some (wz c n k (qE b.length) (xL b k)):=by
 rw[zM,aV,eH hk];rfl
theorem Wh(c n:Nat)(b:List UInt8):∀ k,k<=qE b.length->((zM c n b).take k).flatten.length=64*k
 |0,_=>rfl
 |k+1,h=>by
  rw[bf,Va c n b k dB,jF,aA,Wh c n b k dB];simp[IW,Qf b k dB];omega
theorem zmC(c n:Nat)(b:List UInt8)(k:Nat)(h:k<=qE b.length):(AV c n b k).length=128*qN b.length:=by
 rw[AV,aA,Wh c n b k h,pX,bz];unfold qN;omega
theorem Yl(c n:Nat)(b:List UInt8)(k:Nat)(h:k<qE b.length):splice (bv (AV c n b k)) (64*k) (bv (wz c n k (qE b.length) (xL b k)))=bv (AV c n b (k+1)):=by
 have a:=Wh c n b k dB;have e:(wz c n k (qE b.length) (xL b k)).length=64:=by rw[IW,Qf b k h]
 have f:pX (128*qN b.length - 64*k)=pX 64++pX (128*qN b.length - 64*(k+1)):=by
  rw[pX,pX,pX,gZ]
  congr 1
  unfold qN;omega
 have g:(zM c n b).take (k+1)=(zM c n b).take k++[wz c n k (qE b.length) (xL b k)]:=by
  rw[bf,Va c n b k h];rfl
 have i:bv (AV c n b k)=bv ((zM c n b).take k).flatten++(bv (pX 64)++bv (pX (128*qN b.length - 64*(k+1)))):=by rw[AV,f];simp only[wR]
 have j:bv (AV c n b (k+1))=bv ((zM c n b).take k).flatten++(bv (wz c n k (qE b.length) (xL b k))++bv (pX (128*qN b.length - 64*(k+1)))):=by
  rw[AV,g];simp[wR]
 rw[i,j];have l:(bv ((zM c n b).take k).flatten).length=64*k:=by rw[oL,a]
 have:=NY (bv ((zM c n b).take k).flatten) (bv (pX 64)) (bv (wz c n k (qE b.length) (xL b k))) (bv (pX (128*qN b.length - 64*(k+1)))) (by rw[oL,oL,e];rfl);rw[l]at this;exact this
theorem zur {ρ:Env} {w:World} {d:Option Nat} {ty:TypeId} {pos:String} {af:Array Edge} {gd:Option (Nat × Bool)} {x0 x1 x2 x3:Operand} {c n p m:Int} {b:List UInt8} (hb:b.length=48)
  (h0:ev ρ x0= .agg #[.int .u64 c,VB n]) (h1:ev ρ x1=VB p) (h2:ev ρ x2=VB m) (h3:ev ρ x3= .agg (bv b).toArray):
  (execOp (ev ρ) ⟨d, .build 298 #[(0,x0),(1,x1),(2,x2),(3,x3)],ty,pos,af,gd⟩).run Tryz.prog w= .ok (.value (.agg (sW c n p m b).toArray)) w:=by
 have a:(bv b).length=48:=by rw[oL,hb]
 have:=VN (P:=Tryz.prog) (ρ:=ρ) (w:=w) (d:=d) (ty:=ty) (pos:=pos) (af:=af) (gd:=gd) (t:=298) (parts:=[(0,x0),(1,x1),(2,x2),(3,x3)]) (k:=52) [(0, .agg #[.int .u64 c,VB n]),(1,VB p),(2,VB m),(3, .agg (bv b).toArray)]
  [(0,2),(2,1),(3,1),(4,48)] dA dA (by simp[h0,h1,h2,h3])
  (by intro i f;rcases i with _|_|_|_|i<;>first |(simp[Value.cells,a];done)|(exfalso;simp only[aD,aY]at f;omega)) (by simp[Value.cells,a])
 have e:(([(0,Value.agg #[Value.int IntKind.u64 c,Value.int IntKind.i64 n]),(1,Value.int IntKind.i64 p),(2,Value.int IntKind.i64 m),(3,Value.agg (bv b).toArray)]:List (Nat × Value)).map λq=>q.2.cells.toList).flatten=sW c n p m b:=by simp[Value.cells,sW]
 rw[e]at this;exact this
theorem zkA{c nn:Int}(h:vT c nn=true):1<=c/\c<=4611686018427387904/\0<=nn/\nn<2147483648:=by
 rcases zmt c nn with⟨HM,_⟩|⟨HM,_⟩|⟨HM,_⟩|⟨HM,_⟩|⟨_,a⟩
 .rw[HM.out]at h;cases h
 .rw[HM.out]at h;cases h
 .rw[HM.out]at h;cases h
 .rw[HM.out]at h;cases h
 .exact a
theorem zrW(c nn:Nat)(hm:vT c nn=true)(b:List UInt8)(p:Option Addr)(n cp:Nat)(w:World)(h:nM w p n 1 (bv b))(hn:n<=32768):
  Calls Tryz.prog 156 [.agg #[.int .u64 c,VB nn], .slice p n cp].toArray w
    (qb λv w'=>∃ g,v= .tuple #[.slice (some ⟨g,0,none⟩) (qN n) (qN n),VB 0]/\w.heap.size<=g/\row w' g (bv (zI c nn b)) 265/\VD w w'):=by
 have f:=Below.refl w.heap.size w;have R:b.length=n:=by simpa [oL]using h.len
 have c9:MZ n=(qN n:Nat):=zmu hn;have h7:=zkA hm;have h8:qN n<=1000:=by unfold qN qE;omega
 have h9:qN n=(qE n+1) / 2:=rfl;refine nZ (rs:=[.tmp 4, .tmp 5]) (n:=45) Tryz.func156 rfl rfl Tryz.ntmps156 dA rfl<|ny<|nK<|qi ([.int .u64 c,VB nn]) rfl<|λa1 w2 e2 q e3=>?_
 have i0:=ag f.size e2;replace f:=f.acc e3;refine nK<|qi ([.slice p n cp]) rfl<|λa2 e4 d0 t d1=>?_
 have i1:=ag f.size d0;have i2:a1<a2:=ae q.lt d0;replace q:=q.new d1;replace f:=f.acc d1;refine nA<|nA<|nk<|nI<|pE<|ny<|mZ (pz 2 q)<|nP (KM c nn e4) ?_
 rintro _ e5 ⟨rfl,a9⟩;replace q:=q.new a9;replace t:=t.new a9;replace f:=f.acc a9;refine mZ (sj rfl)<|nA<|nk<|EJ rfl (hm)<|ny<|mZ (nH t)<|mZ (oV (e:=5) (sz:=1) dA rfl rfl)<|mZ (rz rfl rfl)<|nA<|nk<|qg rfl (dB)<|nU<|pO<|nJ<|ny<|mZ (nH t)<|mZ (oV (e:=5) (sz:=1) dA rfl rfl)<|nP (K_ n e5) ?_;rintro _ _ ⟨rfl,rfl⟩;refine nK<|WP (e:=265) (qN n) (bv (pX 128)) 128 128 (vE 0) dA dA ⟨_,rfl,c9⟩ ⟨_,rfl,c9⟩ (by rw[PT];intro u T;exact(eB.1 T).2) (by rw[PT];simp) dB dB<|λA i3 b0 H b1=>?_
 have i4:=ag f.size b0;have i5:a1<A:=ae q.lt b0;have i6:a2<A:=ae t.lt b0;replace q:=q.new b1;replace t:=t.new b1;replace f:=f.acc b1;refine nK<|oD ([VC]) dA<|λS i7 a3 O a4=>?_
 have e6:=ag f.size a3;have e7:a1<S:=ae q.lt a3;have e8:a2<S:=ae t.lt a3;have b2:A<S:=ae H.lt a3;replace q:=q.new a4;replace t:=t.new a4;replace H:=H.new a4;replace f:=f.acc a4;refine nT<|pQ O<|λe9 O a5=>?_
 replace q:=q.only a5 (ai e7);replace t:=t.only a5 (ai e8);replace H:=H.only a5 (ai b2);replace f:=a5.below f e6;refine nk<|nI<|ny<|mZ (nH t) ?_
 have i8:=H.lt;have i9:=q.lt;have j0:=t.lt;have j1:=O.lt;refine qA rfl (oz dA rfl) (zuq b p n cp e9 (h.below f (ax _)) dB) ?_;rintro _ j2 ⟨f0,f1,ga,rfl,j3,j4,j5,j6,j7,j8,U,f2⟩;replace q:=q.new U;replace t:=t.new U;replace H:=H.new U;replace O:=O.new U;replace f:=f.acc U;refine nk<|pE ?_
 have d2:=H;have j9:=H.lt;have k0:=q.lt;have k7:=t.lt;have k8:=O.lt;rw[show List.replicate (qN n*128) (vE 0)=bv (AV c nn b 0) by rw[AV,dz,List.flatten_nil,aU,PT,R];congr 1;omega]at d2;refine znM (ps:=[24,25]) (xs:=Cf b) (ks:=[f0,f1,ga]) (λ_ h=>h) rfl dA f2 (Below.refl _ _) (by intro v I;rw[Cf,bg]at I;obtain⟨i,_,rfl⟩:=I;rfl) dA ig
  (by intro x C;simp only[ak,bq,or_false]at C;rcases C with rfl|rfl|rfl<;>assumption)
  (λk W=>k<=qE n/\row W a1 [.int .u64 c,VB nn] 236/\row W a2 [.slice p n cp] 23/\row W S [.slice (some ⟨A,0,none⟩) (qN n) (qN n)] 190/\row W A (bv (AV c nn b k)) 265/\VD w W)
  (λ_ _=>False) (λk W W' ⟨f3,f4,f5,f6,f7,f8⟩ z=>⟨f3,f4.soft z,f5.soft z,f6.soft z,f7.soft z,f8.soft z f.size⟩) (λ_ _ _ h _=>h.elim) ⟨aC _,q,t,O,d2,f⟩ ?_ ?_ (λ_ _ _ _ h _=>h.elim)
 .intro l k v W1 I b3 k9
  obtain⟨f9,b4,b5,a6,V,b6⟩:=b3;have X:k<qE b.length:=by
    have:=(aL.1 I).1;rw[Cf,aP,gH]at this;exact this
  have l0:k<qE n:=by rw[<-R];exact X
  obtain rfl:v=QC b k:=by
    rw[Cf,aV,eH X]at I;exact(bQ I).symm
  have E:=Below.refl W1.heap.size W1;have K:=Qf b k X;have l1:qE n<=700:=by unfold qE;omega
  have l2:(wz c nn k (qE n) (xL b k)).length=64:=by rw[IW,K]
  refine ny<|nA<|nk<|nO<|nK<|oD (List.replicate 48 (vE 0)) dA<|λd3 l3 g0 a g1=>?_
  have g2:=ag E.size g0;replace E:=E.acc g1;refine nT<|oC 48 (bv (xL b k)) a<|λl4 a g3=>?_
  replace E:=g3.below E g2;refine oI<|⟨rfl,E,λW2 z=>?_⟩
  have a:=a.soft z;have a7:=(b4.new E).soft z;have a8:=(b5.new E).soft z;have y:=(a6.new E).soft z;have r:=(V.new E).soft z;have d4:=(b6.acc E).soft z f.size;have m:=Below.refl W2.heap.size W2;have l5:=z.size;have l6:=E.size;have l7:=a7.lt;have l8:=a8.lt;have l9:=y.lt;have m0:=r.lt;have m1:=b4.lt;have m2:=a6.lt;have m3:=V.lt;have v3:=b5.lt;refine pE<|nI<|qH [] dA ?_
  intro g4 d5 b7;replace a:=a.new d5;replace m:=m.acc d5;have g5:=a;have d6:=m;refine nR 0 (λw' J=>oK rfl (Ld.qI (k:=2) (a7.new (d6.nD J kr)) dA dA rfl))<|nu 1 (nS)<|nR 2 (λw' J=>oK rfl (Ld.ru (a8.new (d6.nD J kr)) dA rfl))<|nu 3 (oV (e:=5) (sz:=1) dA rfl rfl)<|zh 4 dA rfl (λ_=>oz dA rfl) (λw' J=>VV n dB w')<|nR 5 (λw' J=>oK rfl (Ld.qI (k:=48) (g5.kq J) dA dA (by rw[oL,K])))<|nu 6 (zur K rfl rfl rfl rfl)<|zw 7 8 dA ?_ ?_
  ·
   refine qw rfl rfl (oz dA rfl) (zpn c nn k (qE n) (xL b k) K dB dB dB dB g4) ?_;rintro _ g6 ⟨rfl,M⟩;have b8:=b7.add0 M;refine⟨b8,?_⟩;replace a:=a.new M;replace m:=m.acc M;refine oh 8 dA<|rf rfl rfl<|oD (List.replicate 64 (vE 0)) dA<|λY d7 P s Q=>?_
   have d8:=b8.add0 Q;refine⟨d8,?_⟩;have m4:=ag b8.size P;have b9:=ag m.size P;have c4:d3<Y:=ae a.lt P;replace a:=a.new Q;replace m:=m.acc Q;refine oh 9 dA<|rA rfl rfl<|oC 64 (bv (wz c nn k (qE n) (xL b k))) s<|λm5 s c5=>?_
   have g7:=d8.aq c5;refine⟨g7,?_⟩;replace a:=a.only c5 (ai c4);replace m:=c5.below m b9;refine pq dA<|nJ ?_
   have r:=r.new m;have y:=y.new m;have L:=m;have g8:S≠Y:=by omega
   refine qH [A] dA ?_;intro m6 Z g9;replace a:=a.new Z;replace s:=s.new Z;replace r:=r.new Z;replace y:=y.new Z;replace L:=L.acc Z;have m7:=a;have m8:=s;have m9:=r;have h0:=y;have n0:=L;refine nR 0 (λw' J=>nH (h0.kq J))<|nu 1 (nS)<|nu 2 (NN rfl rfl dB dB)<|nu 3 (qZ (e:=265) (sz:=128) dA rfl rfl (k / 2) dB dB)<|nu 4 (nS)<|nu 5 (Yk rfl rfl dB dB)<|nu 6 (yR rfl rfl (nV dB))<|nu 7 (yw (e:=5) (n:=128) (k % 2*64) (128) (128) _ dA rfl ⟨_,_,rfl,dB⟩ rfl rfl ig dB dB dB dB rfl)<|nu 8 (yw (e:=5) (n:=64) (0) (64) (64) (64) dA rfl rfl rfl rfl ig dB dB dB dB dB)<|oh 9 dA ?_
   have c6:=L;refine rf rfl rfl<|Rt (e:=5) dA dA rfl rfl A ((0+k / 2*128+k % 2*64)) r (bv (wz c nn k (qE n) (xL b k))) (by rw[oL,IW,K];simp[Nat.min_def];omega) (λ_=>⟨rfl,_,rfl,λj v I=>by rw[Addr.add_lit,aZ];exact s.cell j I⟩) lL (uf _)<|λc7 r F=>?_
   have h1:=g9.aq F;refine⟨h1,?_⟩;replace a:=a.only F dB;replace s:=s.only F dB;replace y:=y.only F (bu b2);refine pq dA<|pO ?_
   have G:Kp [A] W2 c7:=(Kp.of_below c6).add (N:=[A]) (Kp.rJ F) ig;rw[show 0+k / 2*128+k % 2*64=64*k by omega,<-R,Yl c nn b k X]at r;exact⟨KQ G (by simp;left;omega),λx C=>G.block x (by simp at C;rcases C with rfl|rfl|rfl<;>omega) (by simp at C |-;rcases C with rfl|rfl|rfl<;>omega),dB,a7.kp G jY,a8.kp G jY,y,r,d4.nD G jY⟩
  ·
   refine rf rfl rfl<|oD (List.replicate 64 (vE 0)) dA<|λY d7 P s Q=>?_
   have d9:=b7.add0 Q;refine⟨d9,?_⟩;have n1:=ag b7.size P;have b9:=ag m.size P;have c4:d3<Y:=ae a.lt P;replace a:=a.new Q;replace m:=m.acc Q;refine oh 7 dA<|qw rfl rfl (oz dA rfl) (zpn c nn k (qE n) (xL b k) K dB dB dB dB d7) ?_
   rintro _ g6 ⟨rfl,M⟩;have e0:=d9.add0 M;refine⟨e0,?_⟩;replace a:=a.new M;replace s:=s.new M;replace m:=m.acc M;refine oh 9 dA<|rA rfl rfl<|oC 64 (bv (wz c nn k (qE n) (xL b k))) s<|λn2 s c8=>?_
   have h2:=e0.aq c8;refine⟨h2,?_⟩;replace a:=a.only c8 (ai c4);replace m:=c8.below m b9;refine pq dA<|nJ ?_
   have r:=r.new m;have y:=y.new m;have L:=m;have g8:S≠Y:=by omega
   refine qH [A] dA ?_;intro n3 a0 h3;replace a:=a.new a0;replace s:=s.new a0;replace r:=r.new a0;replace y:=y.new a0;replace L:=L.acc a0;have n4:=a;have n5:=s;have n6:=r;have h4:=y;have n7:=L;refine nR 0 (λw' J=>nH (h4.kq J))<|nu 1 (nS)<|nu 2 (NN rfl rfl dB dB)<|nu 3 (qZ (e:=265) (sz:=128) dA rfl rfl (k / 2) dB dB)<|nu 4 (nS)<|nu 5 (Yk rfl rfl dB dB)<|nu 6 (yR rfl rfl (nV dB))<|nu 7 (yw (e:=5) (n:=128) (k % 2*64) (128) (128) _ dA rfl ⟨_,_,rfl,dB⟩ rfl rfl ig dB dB dB dB rfl)<|nu 8 (yw (e:=5) (n:=64) (0) (64) (64) (64) dA rfl rfl rfl rfl ig dB dB dB dB dB)<|oh 9 dA ?_
   have c6:=L;refine rf rfl rfl<|Rt (e:=5) dA dA rfl rfl A ((0+k / 2*128+k % 2*64)) r (bv (wz c nn k (qE n) (xL b k))) (by rw[oL,IW,K];simp[Nat.min_def];omega) (λ_=>⟨rfl,_,rfl,λj v I=>by rw[Addr.add_lit,aZ];exact s.cell j I⟩) lL (uf _)<|λc7 r F=>?_
   have h5:=h3.aq F;refine⟨h5,?_⟩;replace a:=a.only F dB;replace s:=s.only F dB;replace y:=y.only F (bu b2);refine pq dA<|pO ?_
   have G:Kp [A] W2 c7:=(Kp.of_below c6).add (N:=[A]) (Kp.rJ F) ig;rw[show 0+k / 2*128+k % 2*64=64*k by omega,<-R,Yl c nn b k X]at r;exact⟨KQ G (by simp;left;omega),λx C=>G.block x (by simp at C;rcases C with rfl|rfl|rfl<;>omega) (by simp at C |-;rcases C with rfl|rfl|rfl<;>omega),dB,a7.kp G jY,a8.kp G jY,y,r,d4.nD G jY⟩
 .intro D W n8 b3 e1
  obtain⟨f9,b4,b5,a6,V,b6⟩:=b3;have h6:(Cf b).length=qE b.length:=by rw[Cf,aP,gH]
  rw[h6,show AV c nn b (qE b.length)=zI c nn b by rw[AV,zI,aQ (by simp[zM])]]at V;refine pO<|nJ<|ny<|mZ (nH a6)<|nA<|nA<|nk<|nY<|OM [_,_] D e1 ⟨rfl,rfl,trivial⟩ ?_
  have z:=uP.put (B:=w.heap.size) (.deferred none) e1 (by have:=f.size;omega) rfl;exact⟨A,rfl,dB,V.soft z,b6.soft z (ax _)⟩
theorem Eo:∀ (L:List (List UInt8)),(∀ l,l∈L->l.length=64)->L.flatten.length=64*L.length
 |[],_=>rfl
 |a::L,h=>by rw[eY,aA,Eo L (λl c=>h l (by simp[c])),h a ig,aD];omega
theorem f_(c n:Nat)(b:List UInt8):(zM c n b).length=qE b.length:=by simp[zM]
theorem zqz(c n:Nat)(b:List UInt8):∀ l,l∈zM c n b->l.length=64:=by
 intro l f;obtain⟨i,a⟩:=eZ.1 f;have e:i<qE b.length:=by
  have:=(aL.1 a).1
  rwa [f_]at this
 rw[Va c n b i e]at a;cases a;rw[IW,Qf b i e]
end Go.Proofs.YtpaniebomegnbaaGreat
