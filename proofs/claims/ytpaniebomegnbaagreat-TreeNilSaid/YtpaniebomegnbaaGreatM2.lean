import Derived.Test.YtpaniebomegnbaaGreatM1
import Derived.Laws.Bits64b
import Derived.Deep.RegionHeld3
import Derived.RegionTactic
import Derived.Laws.ShiftsVarLaws
set_option maxHeartbeats 8000000
set_option maxRecDepth 20000
namespace Go.Proofs.YtpaniebomegnbaaGreat
open Go Go.RowKit Coup
abbrev qg:=List UInt8
structure Dk where
 V:List (List qg)
 left:Int
 dead:Bool
def Dk.n(D:Dk):Nat:=D.V.length
def rR:qg:=List.replicate 128 0
def yX(L:List qg):Prop:=∀ s∈L,s.length=128
structure yL(D:Dk):Prop where
 n:D.V.length<=8192
 ne:∀ v∈D.V,v≠[]
 sec:∀ v∈D.V,yX v
 short:∀ v∈D.V,v.length<=100000
def oZ(D:Dk)(i:Nat):List qg:=D.V.getD i []
def zL(v:List qg):qg:=v.getLastD rR
def HZ(v:List qg):qg:=v.headD rR
def pF(D:Dk)(i:Nat):qg:=zL (oZ D i)
def qB(D:Dk):Bool:=!(D.dead || D.left == 0)
def uq(D:Dk):Dk:=if qB D then {D with left:=if 0<D.left then D.left - 1 else D.left}else {D with dead:=true}
def wT(D:Dk)(i:Nat)(v:List qg):Dk:={D with V:=D.V.set i v}
def LJ(D:Dk)(i:Nat)(s:qg):Dk:=if qB D then wT (uq D) i (oZ D i++[s])else uq D
def su(D:Dk):Dk:=if qB D then {uq D with V:=D.V.map λv=>[zL v]}else uq D
def rU(D:Dk)(i:Nat):Bool:=decide (1<(oZ D i).length)
def vJ(D:Dk):List Nat:=(List.range D.V.length).filter (rU D)
theorem RU{L:List qg}(h:yX L):L.flatten.length=L.length*128:=by
 induction L with
 |nil=>rfl
 |cons s L ih=>
  rw[eP,aA,ih (λx a=>h x (aj _ a)),h s (aK ..),aD];omega
theorem Xk{L:List qg}(h:yX L){i:Nat}{s:qg}(hs:L[i]?=some s):(L.flatten.drop (i*128)).take 128=s:=by
 induction L generalizing i with
 |nil=>simp at hs
 |cons t L ih=>
  have a:=h t (aK ..);cases i with
  |zero=>
   have:t=s:=by simpa using hs
   rw[bZ,cK,eP,this,bJ (this▸a)]
  |succ i=>
   have c:L[i]?=some s:=by simpa using hs
   rw[eP,show(i+1)*128=t.length+i*128 by omega,eZ,show(t.drop (t.length+i*128))=[]from dC eu,aV,show t.length+i*128 - t.length=i*128 by omega];exact ih (λx e=>h x (aj _ e)) c
theorem ztm{L:List qg}(h:yX L){i:Nat}{s:qg}(hi:i<L.length)(hs:s.length=128):splice (bv L.flatten) (i*128) (bv s)=bv (L.set i s).flatten:=by
 have e:∀ (L:List qg) (i:Nat),yX L->i<L.length->(L.set i s).flatten=L.flatten.take (i*128)++(s++L.flatten.drop (i*128+128)):=by
  intro L
  induction L with
  |nil=>intro i _ h;simp at h
  |cons t L ih=>
   intro i h hi;have a:=h t (aK ..);cases i with
   |zero=>
    rw[List.set_cons_zero,eP,eP,bZ,dw,aV,bg,fw a]
   |succ i=>
    have c:=ih i (λx f=>h x (aj _ f)) (by simpa using hi);have g:∀ (X:List UInt8) (k:Nat),(t++X).take (t.length+k)=t++X.take k:=λX k=>by rw[jw,aP (l:=t) (Nat.le_add_right _ _),gz]
    have j:∀ (X:List UInt8) (k:Nat),(t++X).drop (t.length+k)=X.drop k:=λX k=>by rw[eZ,dC (l:=t) (Nat.le_add_right _ _),gz,aV]
    rw[jv,eP,c,eP,show(i+1)*128=t.length+i*128 by omega,show t.length+i*128+128=t.length+(i*128+128) by omega,g,j,aG]
 rw[e L i h hi];simp only[splice,bv,bK,eX,eY,aQ,hs]
def zG(D:Dk):List qg:=D.V.map HZ
theorem Ug{D:Dk}(h:yL D):yX (zG D):=λs e=>by
 obtain⟨v,c,rfl⟩:=bB.1 e;obtain⟨a,l,rfl⟩:=jy (h.ne v c);exact h.sec _ c a<|aK ..
theorem LB{D:Dk}{i:Nat}(hi:i<D.V.length):D.V[i]?=some (oZ D i):=by
 rw[oZ,bI,aI hi];rfl
theorem EK{D:Dk}(h:yL D){i:Nat}(hi:i<D.V.length):oZ D i≠[]/\yX (oZ D i)/\(oZ D i).length<=100000:=by
 have a:=aN (LB hi);exact⟨h.ne _ a,h.sec _ a,h.short _ a⟩
theorem Zi{D:Dk}{i:Nat}(hi:i<D.V.length):(zG D)[i]?=some (HZ (oZ D i)):=by
 rw[zG,aW,LB hi];rfl
theorem Hw{v:List qg}(h:yX v):yX v.tail:=λs a=>h s (List.mem_of_mem_tail a)
theorem TD{v:List qg}(h:yX v):(zL v).length=128:=by
 unfold zL;rcases iH v with rfl|⟨l,s,rfl⟩
 .simp[rR]
 .rw[iI]at h |-
  rw[List.getLastD_concat];exact h s ig
theorem zpM{v:List qg}(h:1<v.length):v.tail[v.length - 2]?=some (zL v):=by
 rcases iH v with rfl|⟨l,s,rfl⟩
 .simp at h
 .rw[iI]at h |-
  cases l with
  |nil=>simp at h
  |cons a l=>
   rw[zL,List.getLastD_concat];simp
theorem zq3{v:List qg}(h:v.length=1):zL v=HZ v:=by
 obtain⟨a,rfl⟩:=gU.1 h
 rfl
def since(D:Dk)(sv:Nat->Value):Nat->Option Value:=λi=>if rU D i then some (sv i)else none
structure uj(w:World)(g pl m:Nat)(G:List Nat)(D:Dk)(ol cl:Nat)(st:Int)(fu:Bool)(sv:Nat->Value):Prop where
 row:Coup.row w g [.slice (some ⟨pl,ol,none⟩) D.V.length cl, .map (some m), .int .i64 st, .bool fu, .bool D.dead] 193
 own:qI w 0 265 128 pl ol D.V.length cl (bv (zG D).flatten)
 map:MapAt Tryz.prog 3 w m D.V.length (since D sv)
 sv:∀ i,rU D i=true->∃ p c,sv i= .slice p ((oZ D i).length - 1) c/\nC w p ((oZ D i).length - 1) 128 (bv (oZ D i).tail.flatten)/\∀ b o,p=some ⟨b,o,none⟩->b∈G
 inG:∀ b∈G,b<w.heap.size
 ne:g≠pl/\g≠m/\pl≠m/\∀ b∈G,b≠g/\b≠pl/\b≠m
 left:0<=st/\st<=9223372036854775807/\D.left=(if fu then st else -1)
 ok:yL D
 pos:0<D.V.length
namespace uj
variable {w w':World}{g pl m:Nat}{G:List Nat}{D:Dk}{ol cl:Nat}{st:Int}{fu:Bool}{sv:Nat->Value}
theorem nu{M:List Nat}(h:uj w g pl m G D ol cl st fu sv)(k:Kp M w w')(hM:g∉M/\pl∉M/\m∉M/\∀ b∈G,b∉M):uj w' g pl m G D ol cl st fu sv:=
 ⟨h.row.nu k hM.1,h.own.nu k hM.2.1,h.map.nu k hM.2.2.1,λi f=>by
  obtain⟨p,c,g,j,a⟩:=h.sv i f;exact⟨p,c,g,j.nu k λb o e=>hM.2.2.2 b (a b o e),a⟩,λb hb=>ae (h.inG b hb) k.size,h.ne,h.left,h.ok,h.pos⟩
theorem new(h:uj w g pl m G D ol cl st fu sv)(hb:Below w.heap.size w w'):uj w' g pl m G D ol cl st fu sv:=h.nu (M:=[]) (Kp.of_below hb) ig
theorem look(h:uj w g pl m G D ol cl st fu sv)(i:Nat)(hi:i<D.V.length):∃ p c,(since D sv i).getD (.slice none 0 0)= .slice p ((oZ D i).length - 1) c/\nC w p ((oZ D i).length - 1) 128 (bv (oZ D i).tail.flatten)/\∀ b o,p=some ⟨b,o,none⟩->b∈G:=by
 by_cases f:rU D i=true
 .obtain⟨p,c,j,g,k⟩:=h.sv i f
  exact⟨p,c,by rw[since,if_pos f];exact j,g,k⟩
 .have j:=(EK h.ok hi).1
  have g:(oZ D i).length=1:=by
   have:=fJ.2 j;simp only[rU,decide_eq_true_eq]at f;omega
  obtain⟨a,l⟩:=gU.1 g;refine⟨none,0,by rw[since,if_neg f,g];rfl,?_,λb o e=>by cases e⟩;rw[l];exact nC.nil _ _ _
theorem turn (h:uj w g pl m G D ol cl st fu sv) (ho:Only g w w') {st':Int} {fu':Bool} {left':Int} {dead':Bool} (hr:Coup.row w' g [.slice (some ⟨pl,ol,none⟩) D.V.length cl, .map (some m), .int .i64 st', .bool fu', .bool dead'] 193)
  (hl:0<=st'/\st'<=9223372036854775807/\left'=(if fu' then st' else -1)):uj w' g pl m G {D with left:=left',dead:=dead'} ol cl st' fu' sv:=by
 have k:=Kp.rC ho;refine⟨hr,h.own.nu k (by simpa using bW h.ne.1),h.map.nu k (by simpa using bW h.ne.2.1),λi f=>?_,λb hb=>ae (h.inG b hb) k.size,h.ne,hl,⟨h.ok.n,h.ok.ne,h.ok.sec,h.ok.short⟩,h.pos⟩;obtain⟨p,c,g,j,a⟩:=h.sv i f;exact⟨p,c,g,j.nu k λb o e=>by simpa using(h.ne.2.2.2 b (a b o e)).1,a⟩
end uj
theorem WB{w:World}{g pl m:Nat}{G:List Nat}{D:Dk}{ol cl:Nat}{st:Int}{fu:Bool}{sv:Nat->Value}(h:uj w g pl m G D ol cl st fu sv):
  CQ 180 [.pointer (some ⟨g,0,none⟩)] w (λv w'=>v= .int .i64 (D.V.length:Int)/\w=w'):=by
 have hr:=h.row;refine nP (fn:=Tryz.f180) (rs:=[.tmp 2]) (n:=10) Tryz.func180 rfl rfl Tryz.ntmps180 dA rfl<|mR<|mV<|mQ<|ng<|mR<|mP<|mO (xJ dA rfl rfl)<|mQ<|tC rfl (rfl)<|nL<|ny<|mR<|mP<|mO (nW rfl)<|mO (nk 0)<|mO (mZ hr)<|mO (oQ (e:=265) (sz:=128) dA rfl rfl)<|mV<|mQ<|nQ<|nR [_] ⟨rfl,trivial⟩ ?_
 exact⟨rfl,rfl⟩
theorem Gw{w:World}{g pl m:Nat}{G:List Nat}{D:Dk}{ol cl:Nat}{st:Int}{fu:Bool}{sv:Nat->Value}(h:uj w g pl m G D ol cl st fu sv)(i:Int):
   CQ 228 [.pointer (some ⟨g,0,none⟩), .int .i64 i] w (λv w'=>v= .int .i64 (if 0<=i/\i<D.V.length then 0 else 2)/\w=w'):=by
 have hr:=h.row;have hp:=h.pos;have a:=WB h;refine nP (fn:=Tryz.f228) (rs:=[.tmp 4]) (n:=21) Tryz.func228 rfl rfl Tryz.ntmps228 dA rfl<|mR<|mV<|mQ<|ng<|oU<|mR<|mP<|nD (a) ?_
 rintro _ _ ⟨rfl,rfl⟩;refine mO (qy rfl rfl)<|mV<|mQ<|pJ rfl (eu)<|mR<|mP<|mO (pE rfl rfl)<|mP<|ui 12 rfl (λc=>?_)<|λc=>?_
 ·
  refine nE<|nE<|nE<|nE<|nE<|nE<|nE<|mO (pO rfl)<|mV<|mQ<|uC rfl (rfl)<|mR<|mV<|mQ<|nQ<|tu<|qb<|nR [_] ⟨rfl,trivial⟩ ?_
  exact⟨by rw[if_neg eu];rfl,rfl⟩
 ·
  refine mY<|mP<|mY<|mP<|mY<|mO (nW rfl)<|mY<|mO (nk 0)<|mY<|mO (mZ hr)<|mY<|mO (oQ (e:=265) (sz:=128) dA rfl rfl)<|mY<|mO (tN rfl rfl)<|mO (oo rfl)<|mV<|mQ<|oP rfl (λf=>?_)<|λf=>?_
  ·
   refine lL ?_;exact⟨by rw[if_neg eu];rfl,rfl⟩
  ·
   refine lM ?_;exact⟨by rw[if_pos eu];rfl,rfl⟩
theorem z_{D:Dk}(h:D.dead=true):qB D=false/\uq D=D:=by
 have a:qB D=false:=by unfold qB;rw[h];rfl
 refine⟨a,?_⟩;rw[uq,a];cases D;cases h
 rfl
theorem CE{w:World}{g pl m:Nat}{G:List Nat}{D:Dk}{ol cl:Nat}{st:Int}{fu:Bool}{sv:Nat->Value}(h:uj w g pl m G D ol cl st fu sv):
   CQ 210 [.pointer (some ⟨g,0,none⟩)] w (λv w'=>v= .int .i64 (if qB D then 0 else 10)/\(∃ st',uj w' g pl m G (uq D) ol cl st' fu sv)/\Only g w w'):=by
 have hr:=h.row;obtain⟨o,p,e⟩:=h.left;refine nP (fn:=Tryz.f210) (rs:=[.tmp 2]) (n:=30) Tryz.func210 rfl rfl Tryz.ntmps210 dA rfl<|mR<|mV<|mQ<|ng<|mR<|mP<|mO (nW rfl)<|mO (nk 3)<|mO (mZ hr)<|mP<|Nr 7 rfl (λg=>?_)<|λg=>?_
 ·
  refine mY<|mP<|mY<|mO (nW rfl)<|mY<|mO (nk 2)<|mY<|mO (mZ hr)<|mY<|mO (qy rfl rfl)<|mO (pO rfl)<|mQ<|oP rfl (λi=>?_)<|λi=>?_
  ·
   refine nM<|mP<|mO (nW rfl)<|mO (nk 4)<|nH<|oW hr<|λq hr k=>?_
   refine mQ<|ng<|mR<|mP<|mO (nW rfl)<|mO (nk 4)<|mO (mZ hr)<|mQ<|uC rfl (rfl)<|mR<|mV<|mQ<|nQ<|qb<|nR [_] ⟨rfl,trivial⟩ ?_
   have a:qB D=false:=by unfold qB;rw[e,g,if_pos rfl,i];simp
   refine⟨by rw[a];rfl,⟨st,?_⟩,k⟩;have f:=h.turn k (left':=D.left) (dead':=true) (fu':=fu) hr ⟨o,p,e⟩;rw[uq,a];exact f
  ·
   have j:D.left≠0:=by rw[e,g];simpa using i
   refine nL<|ny<|ng<|mR<|mP<|mO (nW rfl)<|mO (nk 4)<|mO (mZ hr)<|mQ<|xm rfl (λc=>?_)<|λc=>?_
   ·
    refine lN ?_;have a:=z_ c;exact⟨by rw[a.1];rfl,⟨st,by rw[a.2];exact h⟩,Only.refl _ _⟩
   ·
    have a:qB D=true:=by
      unfold qB;rw[c];simp[j]
    refine nL<|ny<|mR<|mP<|mP<|mO (nW rfl)<|mO (nk 2)<|mO (mZ hr)<|mO (vE rfl rfl (Coup.nN eu))<|mO (Xg rfl rfl)<|mO (nW rfl)<|mO (nk 2)<|nH<|oW hr<|λr hr l=>?_
    refine pV<|mV<|mQ<|nQ<|nR [_] ⟨rfl,trivial⟩<|⟨by rw[a];rfl,⟨max 0 (st - 1),?_⟩,l⟩
    have f:=h.turn l (left':=if 0<D.left then D.left - 1 else D.left) (dead':=D.dead) (fu':=fu) hr ⟨eu,eu,by rw[e];cases fu<;>simp<;>omega⟩;rw[uq,a];exact f
 ·
  have j:D.left≠0:=by rw[e,g];simp
  refine nE<|nE<|nE<|nE<|nE<|mO (oo rfl)<|mQ<|Ni rfl<|nL<|ny<|ng<|mR<|mP<|mO (nW rfl)<|mO (nk 4)<|mO (mZ hr)<|mQ<|xm rfl (λc=>?_)<|λc=>?_
  ·
   refine lN ?_;have a:=z_ c;exact⟨by rw[a.1];rfl,⟨st,by rw[a.2];exact h⟩,Only.refl _ _⟩
  ·
   have a:qB D=true:=by
     unfold qB;rw[c];simp[j]
   refine nL<|ny<|mR<|mP<|mP<|mO (nW rfl)<|mO (nk 2)<|mO (mZ hr)<|mO (vE rfl rfl (Coup.nN eu))<|mO (Xg rfl rfl)<|mO (nW rfl)<|mO (nk 2)<|nH<|oW hr<|λs hr m=>?_
   refine pV<|mV<|mQ<|nQ<|nR [_] ⟨rfl,trivial⟩<|⟨by rw[a];rfl,⟨max 0 (st - 1),?_⟩,m⟩
   have f:=h.turn m (left':=if 0<D.left then D.left - 1 else D.left) (dead':=D.dead) (fu':=fu) hr ⟨eu,eu,by rw[e];cases fu<;>simp<;>omega⟩;rw[uq,a];exact f
theorem Um{w:World}{g o n:Nat}{L:List qg}(h:nC w (some ⟨g,o,none⟩) n 128 (bv L.flatten))(hL:yX L){i:Nat}{s:qg}(hs:L[i]?=some s):Ld Tryz.prog w 265 ⟨g,o+i*128,none⟩ (.agg (bv s).toArray):=by
 have a:=(aO.1 hs).1;have c:=RU hL;have:=Ld.zB (P:=Tryz.prog) (t:=265) (j:=i*128) (k:=128) h dA dA (by rw[oh];omega);rw[<-Al,<-Ee,Xk hL hs]at this;exact this
theorem Jw{w:World}{g pl m:Nat}{G:List Nat}{D:Dk}{ol cl:Nat}{st:Int}{fu:Bool}{sv:Nat->Value}(h:uj w g pl m G D ol cl st fu sv)(i:Nat)(hi:i<D.V.length):
   CQ 213 [.pointer (some ⟨g,0,none⟩), .int .i64 (i:Int)] w (λv w'=>v= .agg (bv (pF D i)).toArray/\Below w.heap.size w w'):=by
 have a:=Below.refl w.heap.size w;have hr:=h.row;have l:=h.map;have m:=h.own;have o:=EK h.ok hi;have H:=h.ok.n;obtain⟨S,g⟩:=aa (pF D i);have I:(bv S).length=128:=by rw[oh,<-g];exact TD o.2.1
 rw[g];refine nP (fn:=Tryz.f213) (rs:=[.cell 4 265]) (n:=28) Tryz.func213 rfl rfl Tryz.ntmps213 dA rfl<|mR<|nz<|nU (List.replicate 128 (Value.int .u8 0)) dA<|λJ K y f j=>?_
 have r:=ag a.size y;replace hr:=hr.new j;replace l:=l.new j;replace m:=m.new j;replace a:=a.acc j;refine mQ<|ng<|mR<|mP<|mO (nW rfl)<|mO (nk 1)<|mO (mZ hr)<|mP ?_
 have q:=h.look i hi;obtain⟨p,c,z,A,L⟩:=q;refine mO (Nb (k:=3) (e:=190) (.slice none 0 0) dA dA kv l rfl rfl (i) jZ eu eu z)<|nV<|mP<|mO (oQ (e:=265) (sz:=128) dA rfl rfl)<|mO (rq rfl rfl)<|mQ<|oP rfl (λB=>?_)<|λB=>?_
 ·
  refine ng ?_;have s:=zpM (v:=oZ D i) eu;rw[show zL (oZ D i)=S from g]at s;have t:=A.below a (ax _);have q:=t.some eu;obtain⟨M,op,rfl,N⟩:=q;refine nM<|mP<|mP<|mO (oQ (e:=265) (sz:=128) dA rfl rfl)<|mO (vE rfl rfl (Coup.nN eu))<|mO (rE (e:=265) (sz:=128) dA rfl rfl ((oZ D i).length - 2) eu eu)<|mO (ou rfl (Um t (Hw o.2.1) s))<|nH<|nT 128 (bv S) f<|λO f C=>?_
  replace a:=C.below a r;refine mQ<|nQ<|qb<|nR [_] ⟨⟨_,rfl,Ld.qp (k:=128) f dA dA gp⟩,trivial⟩ ?_
  exact⟨rfl,a⟩
 ·
  have E:(oZ D i).length=1:=by
    have:=fJ.2 o.1;omega
  have F:HZ (oZ D i)=S:=by rw[<-g,pF,zq3 E]
  have u:=Zi hi;rw[F]at u;refine nL<|ny<|mR<|mP<|mO (nW rfl)<|mO (nk 0)<|mO (mZ hr)<|mP<|mO (rE (e:=265) (sz:=128) dA rfl rfl (i) eu eu)<|mO (ou rfl (Um m.sl (Ug h.ok) u))<|nH<|nT 128 (bv S) f<|λP f G=>?_
  replace a:=G.below a r;refine mQ<|nQ<|nR [_] ⟨⟨_,rfl,Ld.qp (k:=128) f dA dA gp⟩,trivial⟩ ?_
  exact⟨rfl,a⟩
theorem ztn:List.replicate 128 (Value.int .u8 0)=bv rR:=by
 rw[rR,bv,gu];rfl
theorem TV:∃ Z,rR=Z/\List.replicate 128 (Value.int .u8 0)=bv Z/\(bv Z).length=128:=⟨_,rfl,ztn,by rw[oh,rR,bi]⟩
def xy(D:Dk)(i:Int):Bool:=decide (0<=i/\i<D.V.length)
theorem Hq {w:World} {g:Nat} {i:Int} {S Z:qg} (hzb:List.replicate 128 (Value.int .u8 0)=bv Z) (hzl:(bv Z).length=128) (hSl:(bv S).length=128)
  (hA:∀ w',Below w.heap.size w w'->CQ 228 [.pointer (some ⟨g,0,none⟩), .int .i64 i] w' (λv w2=>v= .int .i64 0/\w'=w2))
  (hN:∀ w',Below w.heap.size w w'->CQ 213 [.pointer (some ⟨g,0,none⟩), .int .i64 i] w' (λv w2=>v= .agg (bv S).toArray/\Below w'.heap.size w' w2)):
  CQ 185 [.pointer (some ⟨g,0,none⟩), .int .i64 i] w (λv w'=>v= .tuple #[.agg (bv S).toArray, .int .i64 0]/\Below w.heap.size w w'):=by
 have a:=Below.refl w.heap.size w;refine nP (fn:=Tryz.f185) (rs:=[.cell 4 265, .tmp 5]) (n:=17) Tryz.func185 rfl rfl Tryz.ntmps185 dA rfl<|mR<|nz<|nU (List.replicate 128 (Value.int .u8 0)) dA<|λl e g c h=>?_
 have i:=ag a.size g;replace a:=a.acc h;rw[hzb]at c;refine mV<|mQ<|ng<|mR<|mP<|mP<|nD (hA e a) ?_
 rintro _ _ ⟨rfl,rfl⟩;refine nV<|mP<|mO (oD rfl rfl)<|mQ<|pJ rfl (eu)<|nL<|ny<|mR<|mP<|mP<|nD (hN e a) ?_;rintro _ m ⟨rfl,f⟩;replace c:=c.new f;replace a:=a.acc f;refine nH<|nT 128 (bv S) c<|λo c j=>?_
 replace a:=j.below a i;refine mV<|mQ<|nQ<|nR [_,_] ⟨⟨_,rfl,Ld.qp (k:=128) c dA dA gp⟩,rfl,trivial⟩ ?_
 exact⟨rfl,a⟩
theorem Hl {w:World} {g:Nat} {i:Int} {Z:qg} (hzb:List.replicate 128 (Value.int .u8 0)=bv Z) (hzl:(bv Z).length=128)
  (hA:∀ w',Below w.heap.size w w'->CQ 228 [.pointer (some ⟨g,0,none⟩), .int .i64 i] w' (λv w2=>v= .int .i64 2/\w'=w2)):
  CQ 185 [.pointer (some ⟨g,0,none⟩), .int .i64 i] w (λv w'=>v= .tuple #[.agg (bv Z).toArray, .int .i64 2]/\Below w.heap.size w w'):=by
 have a:=Below.refl w.heap.size w;refine nP (fn:=Tryz.f185) (rs:=[.cell 4 265, .tmp 5]) (n:=17) Tryz.func185 rfl rfl Tryz.ntmps185 dA rfl<|mR<|nz<|nU (List.replicate 128 (Value.int .u8 0)) dA<|λj e f c g=>?_
 have h:=ag a.size f;replace a:=a.acc g;rw[hzb]at c;refine mV<|mQ<|ng<|mR<|mP<|mP<|nD (hA e a) ?_
 rintro _ _ ⟨rfl,rfl⟩;refine nV<|mP<|mO (oD rfl rfl)<|mQ<|sU rfl (eu)<|mR<|mO (Ae (bv Z) (by rw[<-hzb];kernel_rfl))<|mP<|nH<|nT 128 (bv Z) c<|λl c i=>?_
 replace a:=i.below a h;refine mV<|mQ<|nQ<|qb<|nR [_,_] ⟨⟨_,rfl,Ld.qp (k:=128) c dA dA gp⟩,rfl,trivial⟩ ?_
 exact⟨rfl,a⟩
theorem Kn{w:World}{g pl m:Nat}{G:List Nat}{D:Dk}{ol cl:Nat}{st:Int}{fu:Bool}{sv:Nat->Value}(h:uj w g pl m G D ol cl st fu sv)(i:Int):
  CQ 185 [.pointer (some ⟨g,0,none⟩), .int .i64 i] w (λv w'=>v= .tuple #[.agg (bv (if xy D i then pF D i.toNat else rR)).toArray, .int .i64 (if xy D i then 0 else 2)]/\Below w.heap.size w w'):=by
 have p:=Below.refl w.heap.size w;obtain⟨Z,m,f,g⟩:=TV;rw[m]
 by_cases c:0<=i/\i<D.V.length
 .obtain⟨k,rfl⟩:∃ k:Nat,i=k:=⟨i.toNat,eu⟩
  have e:xy D (k:Int)=true:=decide_eq_true c;rw[e,if_pos rfl,if_pos rfl,aR];have o:=EK h.ok (i:=k) eu;have j:(bv (pF D k)).length=128:=by rw[oh];exact TD o.2.1
  have a:=λw' (hb:Below w.heap.size w w')=>Gw (h.new hb) (k:Int)
  have l:=λw' (hb:Below w.heap.size w w')=>Jw (h.new hb) k eu
  rw[if_pos c]at a;generalize pF D k=S at l j |-;exact Hq f g j a l
 .have e:xy D i=false:=decide_eq_false c
  rw[e];have a:=λw' (hb:Below w.heap.size w w')=>Gw (h.new hb) i
  rw[if_neg c]at a;exact Hl f g a
theorem Yf(D:Dk)(sv:Nat->Value):∀ (m a:Nat),keysOf (since D sv) a m=((List.range' a m).filter (rU D)).map (λi:Nat=>(i:Int))
 |0,a=>rfl
 |m+1,a=>by
  have e:=Yf D sv m (a+1);rw[keysOf,List.range'_succ]
  by_cases c:rU D a=true
  .rw[if_pos (by unfold since;rw[if_pos c];rfl),e,List.filter_cons_of_pos c];rfl
  .rw[if_neg (by unfold since;rw[if_neg c];simp),e,List.filter_cons_of_neg c]
theorem zpN(D:Dk)(sv:Nat->Value):keysOf (since D sv) 0 D.V.length=(vJ D).map (λi:Nat=>(i:Int)):=by
 rw[Yf,vJ,List.range_eq_range']
def zR(D:Dk):List Int:=(vJ D).map (λi:Nat=>(i:Int))
theorem KH{w:World}{g pl m:Nat}{G:List Nat}{D:Dk}{ol cl:Nat}{st:Int}{fu:Bool}{sv:Nat->Value}(h:uj w g pl m G D ol cl st fu sv):
  CQ 211 [.pointer (some ⟨g,0,none⟩)] w (λv w'=>∃ p c,v= .slice p (zR D).length c/\nC w' p (zR D).length 1 (iv (zR D))/\(∀ b o,p=some ⟨b,o,none⟩->w.heap.size<=b)/\Below w.heap.size w w'):=by
 have a:=Below.refl w.heap.size w;have hr:=h.row;have z:=h.ok.n;have j:=h.map;have k:=zpN D sv;have f:=λw' W g (i:MapAt Tryz.prog 3 w' m D.V.length (since D sv))=>Fx w' W g i eu
 rw[k]at f
 change ∀ w' (W:World) g i,Calls _ _ _ _ (pX λv w2=>∃ p c,v= .slice p (zR D).length c/\nC w2 p (zR D).length 1 (iv (zR D))/\(∀ b o,p=some ⟨b,o,none⟩->W.heap.size<=b)/\Below _ _ _)at f
 refine nP (fn:=Tryz.f211) (rs:=[.tmp 2]) (n:=11) Tryz.func211 rfl rfl Tryz.ntmps211 dA rfl<|mR<|mV<|mQ<|ng<|mR<|mP<|mO (xJ dA rfl rfl)<|mQ<|tC rfl (rfl)<|nL<|ny<|mR<|mP<|mO (nW rfl)<|mO (nk 1)<|mO (mZ hr)<|nD (PI (some m) w) ?_
 rintro _ l ⟨rfl,q,r⟩;replace a:=a.acc r;have s:=a.size;refine nD (f w l q j) ?_;rintro _ A ⟨p,c,rfl,t,u,y⟩;replace a:=a.acc y;refine lQ ?_;exact⟨p,c,rfl,t,λb o e=>ag s (u b o e),a⟩
theorem Jj{D:Dk}{i j:Nat}{v:List qg}(hi:i<D.V.length):oZ (wT D i v) j=if i=j then v else oZ D j:=by
 unfold oZ wT;dsimp only;rw[bI,bI,eO]
 by_cases a:i=j
 .rw[if_pos a,if_pos a,if_pos hi];rfl
 .rw[if_neg a,if_neg a]
theorem zq6{D:Dk}(h:yL D){i:Nat}{v:List qg}(h1:v≠[])(h2:yX v)(h3:v.length<=100000):yL (wT D i v):=by
 refine⟨by show(D.V.set i v).length<=8192;rw[bq];exact h.n,λx a=>?_,λx a=>?_,λx a=>?_⟩
 all_goals
  rcases iJ a with e|e
 .exact h.ne x e
 .rw[e];exact h1
 .exact h.sec x e
 .rw[e];exact h2
 .exact h.short x e
 .rw[e];exact h3
theorem Zu(D:Dk)(i:Nat)(v:List qg):zG (wT D i v)=(zG D).set i (HZ v):=by
 unfold zG wT;dsimp only;rw[fZ]
theorem zl4{D:Dk}{sv:Nat->Value}{i:Nat}{s:qg}(hi:i<D.V.length):since (wT D i [s]) sv=vF (since D sv) i none:=by
 funext j
 unfold since vF rU;rw[Jj hi]
 by_cases a:j=i
 .subst a;simp
 .rw[if_neg (show¬i=j from λe=>a e.symm),if_neg a]
theorem zto{w:World}{g pl m:Nat}{G:List Nat}{D:Dk}{ol cl:Nat}{st:Int}{fu:Bool}{sv:Nat->Value}(h:uj w g pl m G D ol cl st fu sv)(i:Nat)(s:qg)(hi:i<D.V.length)(hs:s.length=128):
  CQ 212 [.pointer (some ⟨g,0,none⟩), .int .i64 (i:Int), .agg (bv s).toArray] w (λ_ w'=>uj w' g pl m G (wT D i [s]) ol cl st fu sv/\Kp [pl,m] w w'):=by
 have hr:=h.row;have f:=h.map;have a:=h.own;have O:=h.ok.n;have g:=sI.refl [pl,m] w;have P:=RU (Ug h.ok);have Q:(zG D).length=D.V.length:=by simp[zG]
 have E:(bv s).length=128:=by rw[oh];exact hs
 have R:=tq s;obtain⟨S,T,U,F⟩:=h.ne;have V:=f.lt;have X:=a.lt;have Y:=hr.lt;refine nP (fn:=Tryz.f212) (rs:=[]) (n:=18) Tryz.func212 rfl rfl Tryz.ntmps212 dA rfl<|mR<|nz<|oV ((bv s)) rfl<|λZ a0 a1 v r=>?_
 replace hr:=hr.new r;replace f:=f.new r;replace a:=a.new r;replace g:=g.new r;refine mQ<|ng<|qz [pl] dA ?_
 intro a2 q G;replace hr:=hr.new q;replace f:=f.new q;replace a:=a.new q;replace g:=g.new q;replace v:=v.new q;have H:=hr;have I:=v;refine mU 0 (nK)<|mU 1 (nW rfl)<|mU 2 (nk 0)<|nI 3 (λw' y=>mZ (H.kq y))<|mU 4 (nK)<|nI 5 (λw' y=>oI 128 (I.kq y))<|mU 6 (rE (e:=265) (sz:=128) dA rfl rfl (i) eu eu)<|nS 7 dA<|qR rfl rfl<|Jg (bv s) (i*128) a rfl rfl (by rw[E];kernel_rfl) kH (tq _)<|λa3 a t=>?_
 have J:=G.aq t;refine⟨J,?_⟩;replace hr:=hr.only t eu;replace f:=f.only t eu;replace g:=g.only t iB;rw[ztm (Ug h.ok) eu hs]at a;refine oL dA<|ny<|nM<|mP<|mO (nW rfl)<|mO (nk 1)<|mO (mZ hr)<|mP<|nz<|ZM (k:=3) (e:=190) dA dA f rfl rfl (i) jZ eu eu<|λa4 f z=>?_
 replace hr:=hr.only z eu;replace a:=a.only z eu;replace g:=g.only z iB;refine lS ?_;have A:=Zu D i [s];rw[show HZ [s]=s from rfl]at A;rw[<-A]at a;rw[<-zl4 (s:=s) hi]at f;have u:(wT D i [s]).V.length=D.V.length:=bq ..;refine⟨⟨by rw[u];exact hr,by rw[u];exact a,by rw[u];exact f,λj l=>?_,λb hb=>ae (h.inG b hb) g.k.size,h.ne,h.left,zq6 h.ok ig (λx B=>by simp at B;rw[B];exact hs) ig,by rw[u];exact h.pos⟩,g.k⟩;have K:¬i=j:=λe=>by
  unfold rU at l;rw[Jj hi,if_pos e]at l;simp at l
 unfold rU at l;rw[Jj hi,if_neg K]at l |-;have L:=h.sv j l;obtain⟨p,c,M,N,C⟩:=L;exact⟨p,c,M,N.nu g.k λb o e=>by have:=F b (C b o e);simp[this],C⟩
def wP(D:Dk)(xs:List (Nat × qg)):Dk:=xs.foldl (λD p=>wT D p.1 [p.2]) D
theorem UM(D:Dk):∀ xs,(wP D xs).V.length=D.V.length:=by
 intro xs
 induction xs generalizing D with
 |nil=>rfl
 |cons x xs ih=>
  show(wP (wT D x.1 [x.2]) xs).V.length=_;rw[ih];exact bq ..
theorem TA:∀ (xs:List (Nat × qg)) (D:Dk) (j:Nat),(∀ p∈xs,p.1<D.V.length)->(∀ p∈xs,p.1≠j)->oZ (wP D xs) j=oZ D j
 |[],D,j,_,_=>rfl
 |x::xs,D,j,h1,h2=>by
  show oZ (wP (wT D x.1 [x.2]) xs) j=_;have a:(wT D x.1 [x.2]).V.length=D.V.length:=bq ..;rw[TA xs _ j (λp hp=>by rw[a];exact h1 p (aj _ hp)) (λp hp=>h2 p (aj _ hp)),Jj (h1 x (aK ..)),if_neg (h2 x (aK ..))]
theorem Zg:∀ (xs:List (Nat × qg)) (D:Dk) (j:Nat) (s:qg),(∀ p∈xs,p.1<D.V.length)->(xs.map (·.1)).Nodup->(j,s)∈xs->oZ (wP D xs) j=[s]
 |x::xs,D,j,s,h1,h2,h3=>by
  show oZ (wP (wT D x.1 [x.2]) xs) j=_;have a:(wT D x.1 [x.2]).V.length=D.V.length:=bq ..;rw[aZ,df]at h2;rcases ak.1 h3 with e|e
  .subst e
   rw[TA xs _ j (λp hp=>by rw[a];exact h1 p (aj _ hp)) (λp hp e=>h2.1 (bB.2 ⟨p,hp,e⟩)),Jj (h1 _ (aK ..)),if_pos rfl]
  .exact Zg xs _ j s (λp hp=>by rw[a];exact h1 p (aj _ hp)) h2.2 e
theorem zns(D:Dk)(xs:List (Nat × qg)){k:Nat}{p:Nat × qg}(h:xs[k]?=some p):wP D (xs.take (k+1))=wT (wP D (xs.take k)) p.1 [p.2]:=by
 rw[bf,h];simp[wP,fK]
theorem znt(D:Dk)(xs:List (Nat × qg)):(wP D xs).left=D.left/\(wP D xs).dead=D.dead:=by
 induction xs generalizing D with
 |nil=>exact⟨rfl,rfl⟩
 |cons x xs ih=>exact ih (wT D x.1 [x.2])
theorem QN{D:Dk}{i:Nat}:i∈vJ D↔i<D.V.length/\rU D i=true:=by
 rw[vJ,dW,cz]
theorem XW(D:Dk):(vJ D).Nodup:=List.Nodup.sublist List.filter_sublist List.nodup_range
def xH(D:Dk)(f:Nat->Nat->qg):List (Nat × qg):=(vJ D).zipIdx.map λx=>(x.1,f x.2 x.1)
theorem Y_{D:Dk}{f:Nat->Nat->qg}{k i:Nat}(h:(vJ D)[k]?=some i):(xH D f)[k]?=some (i,f k i):=by
 rw[xH,aW,List.getElem?_zipIdx,h];simp
theorem Ph(D:Dk)(f:Nat->Nat->qg):(xH D f).map (·.1)=vJ D:=by
 rw[xH,dE];show(vJ D).zipIdx.map (λx=>x.1)=vJ D;exact List.zipIdx_map_fst ..
theorem zq7(D:Dk)(f:Nat->Nat->qg):(xH D f).length=(vJ D).length:=by rw[<-Ph D f,aQ]
theorem Vk{D:Dk}{f:Nat->Nat->qg}{p:Nat × qg}(h:p∈xH D f):p.1<D.V.length:=by
 have:p.1∈(xH D f).map (·.1):=iK h;rw[Ph]at this;exact(QN.1 this).1
theorem znu{D:Dk}{f:Nat->Nat->qg}{k i:Nat}(h:(vJ D)[k]?=some i):oZ (wP D ((xH D f).take k)) i=oZ D i:=by
 refine TA _ D i (λp hp=>Vk (fA hp)) λp hp e=>?_
 obtain⟨j,a⟩:=iL hp;rw[bF]at a
 split at a
 .rename_i q
  have c:((xH D f).map (·.1))[j]?=some p.1:=by rw[aW,a];rfl
  rw[Ph,e]at c;have g:=XW D;have k:=(aO.1 c);have l:=(aO.1 h);obtain⟨r,m⟩:=k;obtain⟨s,o⟩:=l;have:=(List.getElem_inj g).1 (m.trans o.symm);omega
 .cases a
theorem JM{D:Dk}{k:Nat}(h:k<(vJ D).length):∃ i,(vJ D)[k]?=some i/\(iv (zR D))[k]?=some (.int .i64 (i:Int))/\i<D.V.length:=by
 obtain⟨i,a⟩:∃ i,(vJ D)[k]?=some i:=⟨_,aI h⟩;refine⟨i,a,?_,(QN.1 (aN a)).1⟩;rw[Li,zR,aW,a];rfl
theorem Gz(D:Dk):(zR D).length=(vJ D).length:=by simp[zR]
theorem Cs(D:Dk):(uq D).V=D.V:=by unfold uq;split<;>rfl
def Pf(D:Dk):Dk:=if qB D then wP (uq D) (xH (uq D) λ_ i=>pF (uq D) i)else uq D
theorem EB{w:World}{g pl m:Nat}{G:List Nat}{D:Dk}{ol cl:Nat}{st:Int}{fu:Bool}{sv:Nat->Value}(h:uj w g pl m G D ol cl st fu sv):
   CQ 152 [.pointer (some ⟨g,0,none⟩)] w (λv w'=>v= .int .i64 (if qB D then 0 else 10)/\(∃ st',uj w' g pl m G (Pf D) ol cl st' fu sv)/\Kp [g,pl,m] w w'):=by
 have F:=WB h;have hp:=h.pos;have t:=CE h;have a:=sI.refl [g,pl,m] w;obtain⟨ok,H⟩:=aa (qB D);rw[Pf];rw[H]at t |-;obtain⟨D1,I⟩:=aa (uq D);rw[I]at t |-;have a1:=h.row.lt;refine nP (fn:=Tryz.f152) (rs:=[.tmp 2]) (n:=28) Tryz.func152 rfl rfl Tryz.ntmps152 dA rfl<|mR<|mV<|mQ<|ng<|mR<|mP<|nD (F) ?_
 rintro _ _ ⟨rfl,rfl⟩;refine mO (qy rfl rfl)<|mQ<|pJ rfl (eu)<|nL<|ny<|ng<|mR<|mP<|nD (t) ?_;rintro _ a2 ⟨rfl,⟨s,j⟩,J⟩;replace a:=a.only J iB;refine nV<|mP<|mO (oD rfl rfl)<|mQ<|oP rfl (λu=>?_)<|λu=>?_
 ·
  refine lT ?_;have y:ok=false:=by cases ok with|false=>rfl|true=>simp at u
  refine⟨by rw[y];rfl,⟨s,by rw[y];exact j⟩,a.k⟩
 ·
  have K:ok=true:=by cases ok with|true=>rfl|false=>simp at u
  rw[K,if_pos rfl,if_pos rfl];have L:=KH j;have a3:=Gz D1;have a4:=j.row.lt;have a5:=j.own.lt;have a6:=j.map.lt;refine nL<|ny<|ng<|mR<|mP<|nD (L) ?_
  rintro _ M ⟨p,c,rfl,l,N,O⟩;replace a:=a.new O;refine lU ?_;have a7:=j.ok.n;have a8:(vJ D1).length<=D1.V.length:=ag (jA _ _) (by rw[gV];exact ax _);have r:∃ X,(xH D1 λ_ i=>pF D1 i)=X:=⟨_,rfl⟩;obtain⟨X,hX⟩:=r;rw[hX];have a9:X.length=(vJ D1).length:=by rw[<-hX,zq7]
  have P:∀ b o,p=some ⟨b,o,none⟩->b∉[pl,m]:=λb o e Q=>by
    have:=N b o e;simp only[ak,bu,or_false]at Q;omega
  have z:uj M g pl m G (wP D1 (X.take 0)) ol cl s fu sv:=j.new kF;refine qZ (α:=Nat) 0 (λk=>[(17, .int .i64 (k:Nat)),(16, .int .i64 ((zR D1).length:Nat)),(15, .slice p (zR D1).length c),(0, .pointer (some ⟨g,0,none⟩))])
    (λk w'=>k<=(vJ D1).length/\uj w' g pl m G (wP D1 (X.take k)) ol cl s fu sv/\nC w' p (zR D1).length 1 (iv (zR D1))/\sI [g,pl,m] w w') (λk=>(vJ D1).length - k)
    ⟨rfl,rfl,rfl,rfl,rfl⟩ ⟨aC _,z,l,a⟩ ?_
  clear z l a;rintro k f b0 ⟨b1,q,l,a⟩;refine mR<|mO (pE rfl rfl)<|mQ<|ng<|oP rfl (λR=>?_)<|λR=>?_
  ·
   refine lF ?_;have r:=JM (D:=D1) (k:=k) eu;obtain⟨i,A,S,T⟩:=r;have r:=l.some eu;obtain⟨b2,op,rfl,b3⟩:=r;have U:pF (wP D1 (X.take k)) i=pF D1 i:=by rw[pF,<-hX,znu A];rfl
   have b4:=UM D1 (X.take k);have V:X[k]?=some (i,pF D1 i):=by rw[<-hX];exact Y_ A
   have B:=Jw q i eu;rw[U]at B;have Y:=zns D1 X V;have Z:(pF D1 i).length=128:=TD (EK j.ok T).2.1;refine nM<|mO (vg (e:=3) dA rfl rfl (k) eu eu)<|mO (ou rfl (Ld.sl1 l dA S))<|mV<|mQ<|nM<|mP<|mP<|mP<|mP<|nD (B) ?_
   rintro _ b5 ⟨rfl,v⟩;replace a:=a.new v;replace q:=q.new v;refine qi rfl (nX dA rfl) (zto q i _ eu Z) ?_;rintro _ b6 ⟨C,E⟩;replace a:=a.nu E kV;rw[<-Y]at C;refine oH<|pW<|ny<|nM<|mO (om rfl rfl (Coup.nN eu))<|mP<|oH<|oO ⟨k+1,eu,⟨by go_num,rfl,rfl,rfl,rfl⟩,eu,C,(l.new v).nu E P,a⟩
  ·
   have a0:k=(vJ D1).length:=by omega
   rw[a0,aP eu]at q;refine lV ?_;exact⟨rfl,⟨s,q⟩,a.k⟩
structure xW(w:World)(G:List Nat)(D:Dk)(sv:Nat->Value):Prop where
 own:∀ i,rU D i=true->nY w 0 265 128 (sv i) ((oZ D i).length - 1) (bv (oZ D i).tail.flatten)/\∀ b,(sv i).ownBlock=some b->b∈G
 sep:∀ i j b,rU D i=true->rU D j=true->(sv i).ownBlock=some b->(sv j).ownBlock=some b->i=j
theorem xW.nu{w w':World}{G M:List Nat}{D:Dk}{sv:Nat->Value}(h:xW w G D sv)(k:Kp M w w')(hM:∀ b∈G,b∉M):xW w' G D sv:=
 ⟨λi a=>⟨(h.own i a).1.nu k λb hb e=>hM b ((h.own i a).2 b e) hb,(h.own i a).2⟩,h.sep⟩
theorem xW.alike{w:World}{G:List Nat}{D D':Dk}{sv:Nat->Value}(h:xW w G D sv)(hV:D'.V=D.V):xW w G D' sv:=by
 have e:∀ i,oZ D' i=oZ D i:=λi=>by unfold oZ;rw[hV]
 have a:∀ i,rU D' i=rU D i:=λi=>by unfold rU;rw[e]
 exact⟨λi c=>by rw[e];exact h.own i (by rw[<-a];exact c),λi j b c f=>h.sep i j b (by rw[<-a];exact c) (by rw[<-a];exact f)⟩
theorem xW.look{w:World}{g pl m:Nat}{G:List Nat}{D:Dk}{ol cl:Nat}{st:Int}{fu:Bool}{sv:Nat->Value}(h:uj w g pl m G D ol cl st fu sv)(ho:xW w G D sv)(i:Nat)(hi:i<D.V.length):
  ∃ p c,(since D sv i).getD (.slice none 0 0)= .slice p ((oZ D i).length - 1) c/\nY w 0 265 128 (.slice p ((oZ D i).length - 1) c) ((oZ D i).length - 1) (bv (oZ D i).tail.flatten)/\(∀ b,Value.ownBlock (.slice p ((oZ D i).length - 1) c)=some b->b∈G)/\∀ j b,rU D j=true->j≠i->Value.ownBlock (.slice p ((oZ D i).length - 1) c)=some b->(sv j).ownBlock≠some b:=by
 by_cases hb:rU D i=true
 .obtain⟨p,c,g,_,_⟩:=h.sv i hb
  have f:=ho.own i hb;rw[g]at f;refine⟨p,c,by rw[since,if_pos hb];exact g,f.1,f.2,λj b k l e m=>l ?_⟩;exact ho.sep j i b k hb m (by rw[g];exact e)
 .have g:=(EK h.ok hi).1
  have f:(oZ D i).length=1:=by
   have:=fJ.2 g;simp only[rU,decide_eq_true_eq]at hb;omega
  obtain⟨a,o⟩:=gU.1 f;refine⟨none,0,by rw[since,if_neg hb,f];rfl,?_,(λb e=>nomatch e),(λj b _ _ e=>nomatch e)⟩;rw[o];exact ym _ _ _ _
theorem znv{D:Dk}{sv:Nat->Value}{i:Nat}{v:List qg}{u:Value}(hi:i<D.V.length)(hv:1<v.length):since (wT D i v) (λj=>if j=i then u else sv j)=vF (since D sv) i (some u):=by
 funext j
 unfold since vF rU;rw[Jj hi]
 by_cases a:j=i
 .subst a;simp[hv]
 .simp only[if_neg (show¬i=j from λe=>a e.symm),if_neg a]
theorem Ye {w w':World} {g pl m:Nat} {G:List Nat} {D:Dk} {ol cl:Nat} {st:Int} {fu:Bool} {sv:Nat->Value} {i:Nat} {s:qg} {u:Value} {ob:Option Nat} {p:Option Addr} {c:Nat}
  (h:uj w g pl m G D ol cl st fu sv) (ho:xW w G D sv) (hi:i<D.V.length) (hs:s.length=128) (hsh:(oZ D i).length<100000)
  (k:Kp (m::ob.toList) w w') (hmap:MapAt Tryz.prog 3 w' m D.V.length (vF (since D sv) i (some u))) (hu:u= .slice p ((oZ D i).length - 1+1) c)
  (hv:nY w' 0 265 128 u ((oZ D i).length - 1+1) (bv (oZ D i).tail.flatten++bv s)) (hpG:∀ b,ob=some b->b∈G)
  (hsep:∀ j b,rU D j=true->j≠i->ob=some b->(sv j).ownBlock≠some b) (hva:∀ b,u.ownBlock=some b->ob=some b\/w.heap.size<=b):
  ∃ G' sv',uj w' g pl m G' (wT D i (oZ D i++[s])) ol cl st fu sv'/\xW w' G' (wT D i (oZ D i++[s])) sv'/\∀ b∈G',b∈G\/w.heap.size<=b:=by
 obtain⟨I,Z,b1⟩:=EK h.ok hi;have b2:=fJ.2 I;obtain⟨a0,N,O,A⟩:=h.ne;have hX:∀ b,b∉G->b≠m->b∉m::ob.toList:=λb hb a1 e=>by
  rcases ak.1 e with e|e
  .exact a1 e
  .exact hb<|hpG b<|ah.1 e
 obtain⟨D',f⟩:=aa (wT D i (oZ D i++[s]));have B:∀ j,oZ D' j=if i=j then oZ D i++[s]else oZ D j:=λj=>by rw[<-f];exact Jj hi
 have F:D'.V.length=D.V.length:=by rw[<-f];exact bq ..
 have b3:rU D' i=true:=by unfold rU;rw[B,if_pos rfl];simp;omega
 have H:∀ j,j≠i->rU D' j=rU D j:=λj c=>by unfold rU;rw[B,if_neg (bW c)]
 have a2:zG D'=zG D:=by
  rw[<-f,Zu];have a3:HZ (oZ D i++[s])=HZ (oZ D i):=by obtain⟨a,l,e⟩:=jy I;rw[e];rfl
  rw[a3];have P:=Zi hi;refine dV λj=>?_
  rw[eO]
  by_cases Q:i=j
  .subst Q
   rw[if_pos rfl,if_pos (aO.1 P).1,P]
  .rw[if_neg Q]
 have a4:bv (oZ D' i).tail.flatten=bv (oZ D i).tail.flatten++bv s:=by
  rw[B,if_pos rfl,<-wK];obtain⟨a,l,e⟩:=jy I;rw[e];simp
 have a5:(oZ D' i).length - 1=(oZ D i).length - 1+1:=by rw[B,if_pos rfl,aA,dM];omega
 obtain⟨sv',J⟩:∃ sv':Nat->Value,sv'=λj=>if j=i then u else sv j:=⟨_,rfl⟩
 have K:sv' i=u:=by rw[J];simp
 have C:∀ j,j≠i->sv' j=sv j:=λj c=>by rw[J];simp[c]
 have a6:=k.size;have a7:∀ b,u.ownBlock=some b->b∈G\/w.heap.size<=b:=λb e=>(hva b e).imp (hpG b) id
 have R:∀ b,b∈u.ownBlock.toList->b∈G\/w.heap.size<=b:=λb hb=>a7 b (ah.1 hb)
 have b4:=h.row.lt;have b5:=h.own.lt;have b6:=h.map.lt;have S:∀ j,rU D' j=true->nY w' 0 265 128 (sv' j) ((oZ D' j).length - 1) (bv (oZ D' j).tail.flatten)/\∀ b,(sv' j).ownBlock=some b->b∈G++u.ownBlock.toList:=λj c=>by
  by_cases e:j=i
  .subst e
   rw[K,a5,a4];exact⟨hv,λb e=>aB _ (ah.2 e)⟩
  .rw[H j e]at c
   rw[C j e,B,if_neg (bW e)];have:=ho.own j c;refine⟨this.1.nu k λb hb t=>?_,λb t=>aF _ (this.2 b t)⟩;rcases ak.1 hb with hb|hb
   .exact(A b (this.2 b t)).2.2 hb
   .exact hsep j b c e (ah.1 hb) t
 rw[f];refine⟨G++u.ownBlock.toList,sv',?_,⟨S,λa b x T hb v y=>?_⟩,λb hb=>?_⟩
 .have a8:since D' sv'=vF (since D sv) i (some u):=by rw[<-f,J];exact znv hi (by rw[aA,dM];omega)
  refine⟨by rw[F];rw[show D'.dead=D.dead by rw[<-f];rfl];exact h.row.nu k (hX g (λe=>(A g e).1 rfl) N),by rw[F,a2];exact h.own.nu k (hX pl (λe=>(A pl e).2.1 rfl) O),by rw[F,a8];exact hmap,λj c=>?_,λb hb=>?_,⟨a0,N,O,λb hb=>?_⟩,by rw[show D'.left=D.left by rw[<-f];rfl];exact h.left,?_,by rw[F];exact h.pos⟩
  .obtain⟨L,U⟩:=S j c
   obtain⟨q,a9,e⟩:=L.form;rw[e]at L U;exact⟨q,a9,e,L.sl,λb o t=>U b (by rw[t];rfl)⟩
  .rcases ay.1 hb with hb|hb
   .exact ae (h.inG b hb) a6
   .exact(hv.lt b (ah.1 hb)).2
  .rcases ay.1 hb with hb|hb
   .exact A b hb
   .rcases R b hb with hb|hb
    .exact A b hb
    .exact⟨eu,eu,eu⟩
  .rw[<-f]
   refine zq6 h.ok ig (λx E=>?_) (by rw[aA,dM];omega);rcases ay.1 E with E|E
   .exact Z x E
   .rw[aM.1 E];exact hs
 .have V:∀ p,p≠i->rU D' p=true->u.ownBlock=some x->(sv p).ownBlock=some x->False:=λp X M b0 Y=>by
   rw[H p X]at M;rcases hva x b0 with e|e
   .exact hsep p x M X e Y
   .have:=h.inG x ((ho.own p M).2 x Y);omega
  by_cases z:a=i
  .by_cases r:b=i
   .rw[z,r]
   .rw[z,K]at v
    rw[C b r]at y;exact(V b r hb v y).elim
  .by_cases r:b=i
   .rw[r,K]at y
    rw[C a z]at v;exact(V a z T y v).elim
   .rw[C a z]at v
    rw[C b r]at y;exact ho.sep a b x (by rw[<-H a z];exact T) (by rw[<-H b r];exact hb) v y
 .rcases ay.1 hb with hb|hb
  .exact .inl hb
  .exact R b hb
theorem ztp{w:World}{g pl m:Nat}{G:List Nat}{D:Dk}{ol cl:Nat}{st:Int}{fu:Bool}{sv:Nat->Value}(h:uj w g pl m G D ol cl st fu sv)(ho:xW w G D sv)(i:Nat)(s:qg)(hi:i<D.V.length)(hs:s.length=128)(hsh:(oZ D i).length<100000):
   Calls Tryz.prog 181 [.pointer (some ⟨g,0,none⟩), .int .i64 (i:Int), .agg (bv s).toArray].toArray w
    (pX λv w'=>v= .int .i64 (if qB D then 0 else 10)/\(∃ st' G' sv',uj w' g pl m G' (LJ D i s) ol cl st' fu sv'/\xW w' G' (LJ D i s) sv'/\∀ b∈G',b∈G\/w.heap.size<=b)/\Kp ([g,pl,m]++G) w w'):=by
 have e8:maxLen=9223372036854775807:=by decide
 have y:=sI.refl ([g,pl,m]++G) w;have b8:(bv s).length=128:=by rw[oh];exact hs
 obtain⟨D1,Y⟩:=aa (uq D);obtain⟨ok,b9⟩:=aa (qB D);have Z:D1.V=D.V:=by rw[<-Y];exact Cs D
 have a0:oZ D1 i=oZ D i:=by unfold oZ;rw[Z]
 rw[LJ,Y,b9,<-a0];rw[<-a0]at hsh;refine nP (fn:=Tryz.f181) (rs:=[.tmp 6]) (n:=34) Tryz.func181 rfl rfl Tryz.ntmps181 dA rfl<|mR<|nz<|oV ((bv s)) rfl<|λR e9 f0 A B=>?_
 replace y:=y.new B;have c4:=h.new B;have c5:=Gw c4 (i:Int);rw[if_pos eu]at c5;have c6:=CE c4;rw[Y,b9]at c6;have d4:=ho.nu (M:=[]) (Kp.of_below B) ig;have f1:R≠g:=by have:=h.row.lt;omega
 refine mV<|mQ<|ng<|mR<|mP<|mP<|nD c5 ?_
 rintro _ _ ⟨rfl,rfl⟩;refine nV<|mP<|mO (oD rfl rfl)<|mQ<|pJ rfl (ig)<|nL<|ny<|ng<|mR<|mP<|nD (c6) ?_;rintro _ S ⟨rfl,⟨T,j⟩,C⟩;replace y:=y.only C iB;replace A:=A.only C eu;have U:=(d4.nu (Kp.rC C) (λb hb=>by simpa using(h.ne.2.2.2 b hb).1)).alike Z;refine nV<|mP<|mO (oD rfl rfl)<|mQ<|oP rfl (λl=>?_)<|λl=>?_
 ·
  refine lT ?_;have a1:ok=false:=by cases ok with|false=>rfl|true=>simp at l
  refine⟨by rw[a1];rfl,⟨T,G,sv,by rw[a1];exact j,by rw[a1];exact U,λb hb=>.inl hb⟩,y.k⟩
 ·
  have d5:ok=true:=by cases ok with|true=>rfl|false=>simp at l
  have hr:=j.row;have a:=j.map;have f2:=j.ok.n;rw[d5,if_pos rfl,if_pos rfl];have V:i<D1.V.length:=by rw[Z];exact hi
  have E:=xW.look j U i V;obtain⟨p,c,c7,q,t,a2⟩:=E;obtain⟨ob,F⟩:=aa ((Value.slice p ((oZ D1 i).length - 1) c).ownBlock);have l:=h.ne;clear a0;rw[F]at t a2;have X:∀ b,b∉G->ob≠some b:=λb hb e=>hb (t b e)
  have f3:=X g λu=>(l.2.2.2 g u).1 rfl
  have c8:=X m λu=>(l.2.2.2 m u).2.2 rfl
  have f4:=X pl λu=>(l.2.2.2 pl u).2.1 rfl
  have f5:=X R λu=>by have:=h.inG R u;omega
  have f6:R≠m:=by have:=h.map.lt;omega
  have f7:g≠m:=l.2.1;have f8:pl≠m:=l.2.2.1;have f9:=fJ.2 (EK j.ok V).1;have g0:uj S g pl m G D1 ol cl T fu sv:=j;have f:=sI.refl (m::ob.toList) S;have c9:=y;refine nL<|ny<|ng<|qz (m::(Value.slice p ((oZ D1 i).length - 1) c).ownBlock.toList) dA ?_
  intro g1 v a3;replace A:=A.new v;replace hr:=hr.new v;replace a:=a.new v;replace f:=f.new v;replace q:=q.new v;have d6:=A;have d0:=hr;refine mU 0 (nK)<|mU 1 (nW rfl)<|mU 2 (nk 1)<|nI 3 (λw' H=>mZ (d0.kq H))<|mU 4 (nK)<|mU 5 (nK)<|mU 6 (nW rfl)<|mU 7 (nk 1)<|nI 8 (λw' H=>mZ (d0.kq H))<|mU 9 (nK)<|nI 11 (λw' H=>oI 128 (d6.kq H))<|yP 10 12 dA ?_ ?_
  ·
   refine Ap rfl rfl (Nb (k:=3) (e:=190) (.slice none 0 0) dA dA kv a rfl rfl i jZ eu eu c7) a3<|nS 12 dA<|qJ rfl rfl<|uE (e:=265) (.agg (bv s).toArray) (bv s) (List.replicate 128 (Value.int .u8 0)) 128 dA dA rfl rfl iw ⟨iT,iT⟩<|λd7 I d8 a4 o=>?_
   have d1:=a3.add0 o;refine⟨d1,?_⟩;replace a:=a.new o;replace f:=f.new o;replace q:=q.new o;refine nS 13 dA ?_;have a5:=a4.ul (m:=1) (sz:=128) b8 eu;refine qJ rfl rfl<|uf (e:=265) (sz:=128) (bytes:=128) (z:=.agg (List.replicate 128 (Value.int .u8 0)).toArray) dA rfl dA rfl iT rfl q rfl a5 (tq _) jo eu (λd9=>eu)<|λJ a6 a7 K a8=>?_
   have d2:=d1.EF q K kz;refine⟨d2,?_⟩;have L:Kp ob.toList I a6:=by rw[<-F];exact Kp.rX K
   have N:∀ b,J.ownBlock=some b->ob=some b\/I.heap.size<=b:=by rw[<-F];exact a8
   replace a:=a.nu L (by simpa using c8);replace f:=f.nu L (λe0 a9=>.inl (aj _ a9));refine nS 14 dA<|qR rfl rfl<|LM (k:=3) (e:=190) (_) dA dA a rfl rfl rfl (i) jZ eu eu<|λg2 a b0=>?_
   have e1:=d2.aq b0;refine⟨e1,?_⟩;replace f:=f.only b0 iB;refine lW ?_;have e2:=j.map.lt;have O:=ag v.size o.size;have b1:∀ b,J.ownBlock=some b->b∈G\/S.heap.size<=b:=λb e=>(N b e).imp (t b) (λr=>ag O r)
   have P:=a7.nu (Kp.rC b0) (λb hb e=>by
    have j:b=m:=by simpa using hb
    rcases b1 b e with Q|Q
    .exact(l.2.2.2 b Q).2.2 j
    .omega)
   obtain⟨e3,e4,b2⟩:=P.form;have E:=Ye (s:=s) j U V hs hsh f.k a b2 P t a2 (λb e=>(N b e).imp id (λr=>ag O r));obtain⟨G',sv',b3,b4,b5⟩:=E;refine⟨rfl,⟨T,G',sv',b3,b4,λb hb=>(b5 b hb).imp id λr=>?_⟩,?_⟩
   .have e5:=B.size
    have e6:=(Kp.rC C).size;omega
   .refine(c9.nu f.k λb hb=>.inl ?_).k
    rcases ak.1 hb with hb|hb
    .rw[hb];simp
    .exact aB _<|t b<|ah.1 hb
  ·
   refine qJ rfl rfl<|uE (e:=265) (.agg (bv s).toArray) (bv s) (List.replicate 128 (Value.int .u8 0)) 128 dA dA rfl rfl iw ⟨iT,iT⟩<|λd7 I d8 a4 o=>?_
   have b6:=a3.add0 o;refine⟨b6,?_⟩;replace a:=a.new o;replace f:=f.new o;replace q:=q.new o;refine nS 10 dA<|Ap rfl rfl (Nb (k:=3) (e:=190) (.slice none 0 0) dA dA kv a rfl rfl (i) jZ eu eu c7) b6<|nS 13 dA ?_
   have a5:=a4.ul (m:=1) (sz:=128) b8 eu;refine qJ rfl rfl<|uf (e:=265) (sz:=128) (bytes:=128) (z:=.agg (List.replicate 128 (Value.int .u8 0)).toArray) dA rfl dA rfl iT rfl q rfl a5 (tq _) jo eu (λd9=>eu)<|λJ a6 a7 K a8=>?_
   have d3:=b6.EF q K kz;refine⟨d3,?_⟩;have L:Kp ob.toList I a6:=by rw[<-F];exact Kp.rX K
   have N:∀ b,J.ownBlock=some b->ob=some b\/I.heap.size<=b:=by rw[<-F];exact a8
   replace a:=a.nu L (by simpa using c8);replace f:=f.nu L (λe0 a9=>.inl (aj _ a9));refine nS 14 dA<|qR rfl rfl<|LM (k:=3) (e:=190) (_) dA dA a rfl rfl rfl (i) jZ eu eu<|λg3 a b7=>?_
   have e7:=d3.aq b7;refine⟨e7,?_⟩;replace f:=f.only b7 iB;refine lW ?_;have e2:=j.map.lt;have O:=ag v.size o.size;have b1:∀ b,J.ownBlock=some b->b∈G\/S.heap.size<=b:=λb e=>(N b e).imp (t b) (λr=>ag O r)
   have P:=a7.nu (Kp.rC b7) (λb hb e=>by
    have j:b=m:=by simpa using hb
    rcases b1 b e with Q|Q
    .exact(l.2.2.2 b Q).2.2 j
    .omega)
   obtain⟨e3,e4,b2⟩:=P.form;have E:=Ye (s:=s) j U V hs hsh f.k a b2 P t a2 (λb e=>(N b e).imp id (λr=>ag O r));obtain⟨G',sv',b3,b4,b5⟩:=E;refine⟨rfl,⟨T,G',sv',b3,b4,λb hb=>(b5 b hb).imp id λr=>?_⟩,?_⟩
   .have e5:=B.size
    have e6:=(Kp.rC C).size;omega
   .refine(c9.nu f.k λb hb=>.inl ?_).k
    rcases ak.1 hb with hb|hb
    .rw[hb];simp
    .exact aB _<|t b<|ah.1 hb
theorem ztq{w:World}{g pl m:Nat}{G:List Nat}{D:Dk}{ol cl:Nat}{st:Int}{fu:Bool}{sv:Nat->Value}(h:uj w g pl m G D ol cl st fu sv)(i:Int)(s:qg)(hi:¬(0<=i/\i<D.V.length))(hs:s.length=128):
  Calls Tryz.prog 181 [.pointer (some ⟨g,0,none⟩), .int .i64 i, .agg (bv s).toArray].toArray w
   (pX λv w'=>v= .int .i64 2/\Below w.heap.size w w'):=by
 have a:=Below.refl w.heap.size w;have g:(bv s).length=128:=by rw[oh];exact hs
 refine nP (fn:=Tryz.f181) (rs:=[.tmp 6]) (n:=34) Tryz.func181 rfl rfl Tryz.ntmps181 dA rfl<|mR<|nz<|oV ((bv s)) rfl<|λj k l m c=>?_
 replace a:=a.acc c;have f:=h.new c;have e:=Gw f i;rw[if_neg hi]at e;refine mV<|mQ<|ng<|mR<|mP<|mP<|nD (e) ?_
 rintro _ _ ⟨rfl,rfl⟩;refine lX ?_;exact⟨rfl,a⟩
def wJ(n:Nat):Dk:=⟨List.replicate n [rR],-1,false⟩
theorem FC{n:Nat}(hn:n<=8192):yL (wJ n):=by
 have c:∀ v∈(wJ n).V,v=[rR]:=λv a=>(dX.1 a).2
 refine⟨by show(List.replicate n [rR]).length<=_;rw[bi];exact hn,λv a=>by rw[c v a];simp,λv a s e=>?_,λv a=>by rw[c v a];simp⟩;rw[c v a]at e;rw[aM.1 e,rR,bi]
theorem Ny(n:Nat):(wJ n).V.length=n:=bi ..
theorem Ti{n i:Nat}:rU (wJ n) i=false:=by
 unfold rU oZ wJ;dsimp only;rw[bI,iM]
 split<;>simp
theorem zkl(n:Nat):List.replicate (n*128) (Value.int .u8 0)=bv (zG (wJ n)).flatten:=by
 have e:zG (wJ n)=List.replicate n rR:=by
  unfold zG wJ;dsimp only;rw[gu];rfl
 have a:∀ n,(List.replicate n rR).flatten=List.replicate (n*128) 0:=by
  intro n
  induction n with
  |zero=>rfl
  |succ n ih=>
   rw[List.replicate_succ,eP,ih,rR,gT]
   congr 1;omega
 rw[e,a,bv,gu];rfl
theorem Lt{w:World}(n:Nat)(h1:1<=n)(h2:n<=8192):
  CQ 63 [.int .i64 (n:Int)] w (λv w'=>∃ g pl m,v= .tuple #[.pointer (some ⟨g,0,none⟩), .int .i64 0]/\uj w' g pl m [] (wJ n) 0 n 0 false (λ_=>.slice none 0 0)/\w.heap.size<=g/\w.heap.size<=pl/\w.heap.size<=m/\Below w.heap.size w w'):=by
 have a:=Below.refl w.heap.size w;have y:maxLen=9223372036854775807:=by decide
 refine nP (fn:=Tryz.f63) (rs:=[.tmp 2, .tmp 3]) (n:=15) Tryz.func63 rfl rfl Tryz.ntmps63 dA rfl<|mR<|mV<|mV<|mQ<|ng<|mR<|mP<|mO (pE rfl rfl)<|mP<|rD 6 rfl (eu)<|mY<|mP<|mY<|mO (rq rfl rfl)<|mO (oo rfl)<|mQ<|pJ rfl (eu)<|nL<|ny<|mR<|mP<|nz<|Sr (e:=265) n (List.replicate 128 (.int .u8 0)) 128 128 (.int .u8 0) dA dA ⟨_,rfl,rfl⟩ ⟨_,rfl,rfl⟩ (by intro u p;exact(dX.1 p).2) ig eu eu<|λf z A c q=>?_
 replace a:=a.acc q;rw[zkl n]at c;have B:=c.lt;refine nz<|Og (k:=3) (n)<|λg C D h m=>?_
 replace c:=c.new m;replace a:=a.acc m;have E:=h.lt;refine mO (AL (.slice (some ⟨f,0,none⟩) n n) (.map (some g)) [.slice (some ⟨f,0,none⟩) n n, .map (some g), .int .i64 0, .bool false, .bool false] rfl rfl dA)<|nz<|oV ([.slice (some ⟨f,0,none⟩) n n, .map (some g), .int .i64 0, .bool false, .bool false]) rfl<|λr F G s j=>?_
 replace c:=c.new j;replace h:=h.new j;replace a:=a.acc j;refine mV<|mV<|mQ<|nQ<|nR [_,_] ⟨rfl,rfl,trivial⟩ ?_
 have l:=Ny n;have t:since (wJ n) (λ_=>.slice none 0 0)=λ_=>none:=by
  funext i
  unfold since;rw[Ti];rfl
 have v:(bv (zG (wJ n)).flatten).length=n*128:=by rw[<-zkl,bi]
 refine⟨r,f,g,rfl,⟨by rw[l];exact s,by rw[l];exact c.owns (aC _) v eu,by rw[l,t];exact h,λi o=>?_,(λb hb=>nomatch hb),⟨eu,eu,eu,λb hb=>(nomatch hb)⟩,⟨eu,eu,rfl⟩,FC h2,eu⟩,eu,eu,eu,a⟩;rw[Ti]at o;cases o
end Go.Proofs.YtpaniebomegnbaaGreat
namespace Coup
open Go Go.RowKit
theorem Kp.AX{M:List Nat}{w w':World}(h:Below w.heap.size w w'):Kp M w w':=(Kp.of_below (M:=[]) h).weak λ_ _ a=>nomatch a
structure Mv(B B':List Nat)(w w':World):Prop where
 k:Kp B w w'
 sub:∀ b∈B',b∈B\/w.heap.size<=b
theorem Mv.Lj{B:List Nat}{w w':World}(h:Kp B w w'):Mv B B w w':=⟨h,λ_ hb=>.inl hb⟩
theorem Kp.Od{lo:Nat}{w w':World}(h:Below lo w w'):Kp (List.range' lo (w.heap.size - lo)) w w':=
 ⟨h.os,h.tape,h.output,h.size,λi e a=>h.block i (dN.1 λc=>a (dh.2 ⟨c,eu⟩))⟩
theorem Wp{lo n b:Nat}(h:b∈List.range' lo n):lo<=b:=(dh.1 h).1
theorem OQ{w0 w w':World}{lo:Nat}(h:Below w0.heap.size w0 w)(k:Below lo w w')(hl:w0.heap.size<=lo):Below w0.heap.size w0 w':=h.nu (Kp.Od k) λ_ a=>ag hl (Wp a)
class mW (X:World->List Nat->Prop):Prop where
 nu:∀ {w w':World} {B M:List Nat},X w B->Kp M w w'->(∀ b∈B,b∉M)->X w' B
 lt:∀ {w:World} {B:List Nat},X w B->∀ b∈B,b<w.heap.size
def None:World->List Nat->Prop:=λ_ B=>B=[]
instance:mW None:=⟨λa _ _=>a,λa b hb=>by rw[a]at hb;cases hb⟩
def Duo(X Y:World->List Nat->Prop)(lo:Nat)(w:World):Prop:=∃ B C,X w B/\Y w C/\(∀ b∈B,lo<=b/\b∉C)/\∀ b∈C,lo<=b
namespace Duo
variable {X X' Y Y':World->List Nat->Prop}{lo:Nat}{w w':World}
end Duo
end Coup
namespace Go.Proofs.YtpaniebomegnbaaGreat
open Go Go.RowKit Coup
def xA(w:World)(g:Nat)(B:List Nat)(D:Dk):Prop:=∃ pl m G ol cl st fu sv,B=[g,pl,m]++G/\uj w g pl m G D ol cl st fu sv/\xW w G D sv
namespace xA
variable {w w':World}{g:Nat}{B M:List Nat}{D:Dk}
theorem nu(h:xA w g B D)(k:Kp M w w')(hM:∀ b∈B,b∉M):xA w' g B D:=by
 obtain⟨pl,m,G,ol,cl,st,fu,sv,rfl,a,c⟩:=h;exact⟨pl,m,G,ol,cl,st,fu,sv,rfl,a.nu k ⟨hM g ig,hM pl ig,hM m ig,λb hb=>hM b jP⟩,c.nu k λb hb=>hM b jP⟩
theorem lt(h:xA w g B D):∀ b∈B,b<w.heap.size:=by
 obtain⟨pl,m,G,ol,cl,st,fu,sv,rfl,a,c⟩:=h;intro b hb;simp only[bV,aV,ak]at hb;rcases hb with rfl|rfl|rfl|hb
 .exact a.row.lt
 .exact a.own.lt
 .exact a.map.lt
 .exact a.inG b hb
theorem ok(h:xA w g B D):yL D:=by
 obtain⟨pl,m,G,ol,cl,st,fu,sv,rfl,a,c⟩:=h;exact a.ok
theorem pos(h:xA w g B D):0<D.V.length:=by
 obtain⟨pl,m,G,ol,cl,st,fu,sv,rfl,a,c⟩:=h;exact a.pos
instance(g:Nat)(D:Dk):mW (λw B=>xA w g B D):=⟨nu,lt⟩
end xA
variable {w:World}{g:Nat}{B:List Nat}{D:Dk}
theorem FZ(h:xA w g B D):CQ 180 [.pointer (some ⟨g,0,none⟩)] w (λv w'=>v= .int .i64 (D.V.length:Int)/\w=w'):=by
 obtain⟨pl,m,G,ol,cl,st,fu,sv,rfl,a,c⟩:=h;exact WB a
theorem read(h:xA w g B D)(i:Int):CQ 185 [.pointer (some ⟨g,0,none⟩), .int .i64 i] w (λv w'=>v= .tuple #[.agg (bv (if xy D i then pF D i.toNat else rR)).toArray, .int .i64 (if xy D i then 0 else 2)]/\Below w.heap.size w w'):=by
 obtain⟨pl,m,G,ol,cl,st,fu,sv,rfl,a,c⟩:=h;exact Kn a i
def ug(D:Dk)(i:Int)(s:qg):Dk:=if xy D i then LJ D i.toNat s else D
def KI(D:Dk)(i:Int):Int:=if xy D i then(if qB D then 0 else 10)else 2
def sK(D:Dk)(k:Nat):Prop:=∀ v∈D.V,v.length<=k
theorem sK.oZ{k i:Nat}(h:sK D k)(hi:i<D.V.length):(oZ D i).length<=k:=h _ (aN (LB hi))
theorem write(h:xA w g B D)(i:Int)(s:qg)(hs:s.length=128)(hsh:sK D 90000):
  CQ 181 [.pointer (some ⟨g,0,none⟩), .int .i64 i, .agg (bv s).toArray] w (λv w'=>v= .int .i64 (KI D i)/\∃ B',xA w' g B' (ug D i s)/\Mv B B' w w'):=by
 obtain⟨pl,m,G,ol,cl,st,fu,sv,rfl,c,o⟩:=h;rw[ug,KI]
 by_cases f:0<=i/\i<D.V.length
 .obtain⟨k,rfl⟩:∃ k:Nat,i=k:=⟨i.toNat,eu⟩
  have j:xy D (k:Int)=true:=decide_eq_true f;rw[j,if_pos rfl,if_pos rfl,aR];have p:k<D.V.length:=by omega
  refine(ztp c o k s p hs (jg (hsh.oZ p) eu)).to λv w' l=>?_
  obtain⟨e,⟨q,G',r,a,t,u⟩,w⟩:=l;refine⟨e,[g,pl,m]++G',⟨pl,m,G',ol,cl,q,fu,r,rfl,a,t⟩,w,λb hb=>?_⟩;rcases ay.1 hb with hb|hb
  .exact .inl<|aF _ hb
  .exact(u b hb).imp (aB _) id
 .have j:xy D i=false:=decide_eq_false f
  rw[j];refine(ztq c i s f hs).to λv w' l=>?_
  obtain⟨e,a⟩:=l;exact⟨e,_,⟨pl,m,G,ol,cl,st,fu,sv,rfl,c.new a,o.nu (M:=[]) (Kp.of_below a) ig⟩,Kp.AX a,λb hb=>.inl hb⟩
theorem zq8{f:Nat->Nat->qg}{k i:Nat}(h:(vJ D)[k]?=some i):(i,f k i)∈xH D f:=aN (Y_ h)
theorem Q_{f:Nat->Nat->qg}{k i:Nat}(h:(vJ D)[k]?=some i):oZ (wP D (xH D f)) i=[f k i]:=
 Zg _ D i _ (λ_ hp=>Vk hp) (by rw[Ph];exact XW D) (zq8 h)
theorem zhf{f:Nat->Nat->qg}{i:Nat}(h:rU D i=false):oZ (wP D (xH D f)) i=oZ D i:=by
 refine TA _ D i (λ_ hp=>Vk hp) λp hp e=>?_
 have a:p.1∈(xH D f).map (·.1):=iK hp;rw[Ph,e]at a;rw[(QN.1 a).2]at h;cases h
theorem xW.settled{w:World}{G:List Nat}{D D1:Dk}{sv:Nat->Value}(h:xW w G D sv)(hV:D1.V=D.V)(f:Nat->Nat->qg):xW w G (wP D1 (xH D1 f)) sv:=by
 have e:xW w G D1 sv:=h.alike hV;have c:∀ i,rU (wP D1 (xH D1 f)) i=true->rU D1 i=true/\oZ (wP D1 (xH D1 f)) i=oZ D1 i:=λi a=>by
  cases hb:rU D1 i with
  |false=>rw[rU,zhf hb]at a;rw[rU]at hb;rw[hb]at a;cases a
  |true=>
   have g:i<D1.V.length:=by
    rw[rU]at hb;have:=of_decide_eq_true hb
    by_cases l:i<D1.V.length
    .exact l
    .rw[oZ,bI,bQ eu]at this;simp at this
   obtain⟨k,m⟩:=iL (QN.2 ⟨g,hb⟩);rw[rU,Q_ m]at a;simp at a
 exact⟨λi a=>by rw[(c i a).2];exact e.own i (c i a).1,λi j b a o=>e.sep i j b (c i a).1 (c j o).1⟩
theorem zq9(h:yL D){i:Nat}(hi:i<D.V.length)(ho:rU D i=false):∃ s,oZ D i=[s]:=by
 have a:=fJ.2 (EK h hi).1;have c:¬1<(oZ D i).length:=of_decide_eq_false ho;exact gU.1 eu
theorem Dk.ext'{D D':Dk}(h1:D.V=D'.V)(h2:D.left=D'.left)(h3:D.dead=D'.dead):D=D':=by
 cases D;cases D';simp_all
theorem Oz{D D':Dk}(hl:D.V.length=D'.V.length)(h:∀ i,i<D.V.length->oZ D i=oZ D' i):D.V=D'.V:=by
 refine dV λi=>?_
 by_cases a:i<D.V.length
 .rw[LB a,LB (hl▸a),h i a]
 .rw[bQ eu,bQ eu]
theorem zra(h:yL D):Pf D=su D:=by
 unfold Pf su
 by_cases a:qB D=true
 .rw[if_pos a,if_pos a]
  have g:yL (uq D):=by have:=Cs D;exact⟨by rw[this];exact h.n,by rw[this];exact h.ne,by rw[this];exact h.sec,by rw[this];exact h.short⟩
  have f:=znt (uq D) (xH (uq D) λ_ i=>pF (uq D) i);refine Dk.ext' (Oz ?_ λi c=>?_) f.1 f.2
  .rw[UM];simp[Cs]
  .rw[UM]at c
   have e:oZ {uq D with V:=(uq D).V.map λv=>[zL v]} i=[zL (oZ (uq D) i)]:=by
    unfold oZ;dsimp only;rw[bI,aW,LB c];rfl
   have j:oZ {uq D with V:=D.V.map λv=>[zL v]} i=[zL (oZ (uq D) i)]:=by rw[<-e,Cs]
   rw[j];cases hb:rU (uq D) i with
   |true=>
    obtain⟨k,l⟩:=iL (QN.2 ⟨c,hb⟩);rw[Q_ l];rfl
   |false=>
    rw[zhf hb];obtain⟨s,m⟩:=zq9 g c hb;rw[m];rfl
 .rw[if_neg a,if_neg a]
theorem flush(h:xA w g B D):CQ 152 [.pointer (some ⟨g,0,none⟩)] w (λv w'=>v= .int .i64 (if qB D then 0 else 10)/\xA w' g B (su D)/\Kp B w w'):=by
 obtain⟨pl,m,G,ol,cl,st,fu,sv,rfl,a,g⟩:=h;rw[<-zra a.ok];refine(EB a).to λv w' i=>?_
 obtain⟨e,⟨j,l⟩,c⟩:=i;refine⟨e,⟨pl,m,G,ol,cl,j,fu,sv,rfl,l,?_⟩,c.weak λk _ o=>aF _ o⟩;have f:=g.nu c (λb hb=>by have:=a.ne.2.2.2 b hb;simp[this]);unfold Pf
 split
 .exact f.settled (Cs D) _
 .exact f.alike<|Cs D
end Go.Proofs.YtpaniebomegnbaaGreat
namespace Coup
open Go Go.RowKit
structure mX(lo:Nat)(L:List Nat)(w w':World):Prop where
 os:w'.os=w.os
 tape:w'.tape=w.tape
 output:w'.output=w.output
 size:w.heap.size<=w'.heap.size
 block:∀ i,i<w.heap.size->(i<lo\/i∈L)->w'.heap[i]?=w.heap[i]?
def Eo(lo:Nat)(L:List Nat)(n:Nat):List Nat:=(List.range n).filter λi=>decide (¬(i<lo\/i∈L))
theorem pG{lo n b:Nat}{L:List Nat}(h:b<lo\/b∈L):b∉Eo lo L n:=λa=>by
 have:=(dW.1 a).2;simp only[decide_eq_true_eq]at this;exact this h
theorem vI{lo n b:Nat}{L:List Nat}(h:b∈Eo lo L n):lo<=b/\b∉L:=by
 have:=(dW.1 h).2;simp only[decide_eq_true_eq,not_or,bT]at this;exact this
namespace mX
variable {lo:Nat}{L:List Nat}{w w1 w2 w':World}
theorem refl(lo:Nat)(L:List Nat)(w:World):mX lo L w w:=⟨rfl,rfl,rfl,ax _,λ_ _ _=>rfl⟩
theorem kp(h:mX lo L w w'):Kp (Eo lo L w.heap.size) w w':=
 ⟨h.os,h.tape,h.output,h.size,λi a e=>h.block i a (by
  by_cases c:i<lo\/i∈L
  .exact c
  .exact absurd (dW.2 ⟨cz.2 a,decide_eq_true c⟩) e)⟩
theorem Lj{M:List Nat}(h:Kp M w w')(hM:∀ b∈M,(lo<=b/\b∉L)\/w.heap.size<=b):mX lo L w w':=
 ⟨h.os,h.tape,h.output,h.size,λi e a=>h.block i e λf=>by
  rcases hM i f with c|c
  .exact a.elim (λa=>eu) c.2
  .omega⟩
theorem of_below(h:Below w.heap.size w w'):mX lo L w w':=Lj (M:=[]) (Kp.of_below h) ig
theorem nu{M:List Nat}(h:mX lo L w w1)(k:Kp M w1 w')(hM:∀ b∈M,(lo<=b/\b∉L)\/w.heap.size<=b):mX lo L w w':=
 ⟨k.os.trans h.os,k.tape.trans h.tape,k.output.trans h.output,ag h.size k.size,λi c a=>(k.block i (ae c h.size) λf=>by
  rcases hM i f with e|e
  .exact a.elim (λa=>eu) e.2
  .omega).trans (h.block i c a)⟩
theorem new(h:mX lo L w w1)(hb:Below w1.heap.size w1 w'):mX lo L w w':=h.nu (M:=[]) (Kp.of_below hb) ig
theorem only{g:Nat}(h:mX lo L w w1)(ho:Only g w1 w')(hg:w.heap.size<=g\/lo<=g/\g∉L):mX lo L w w':=h.nu (Kp.rC ho) λb hb=>by
 rw[aM.1 hb];exact hg.symm
theorem own{base e sz m:Nat}{v:Value}{xs:List Value}(h:mX lo L w w1)(ho:nY w1 base e sz v m xs)(hg:w1.grownBy w' v.ownBlock)(hk:w.heap.size<=base):mX lo L w w':=
 h.nu (Kp.rX hg) λb hb=>by
  have:=(ho.lt b (ah.1 hb)).1
  right;omega
theorem ll{L2:List Nat}(h:mX lo L w w1)(k:mX lo L2 w1 w')(hL:∀ b∈L,b∈L2):mX lo L w w':=h.nu k.kp λb hb=>.inl ⟨(vI hb).1,λa=>(vI hb).2 (hL b a)⟩
theorem weak{lo2:Nat}{L2:List Nat}(h:mX lo L w w')(h1:lo2<=lo)(h2:∀ b∈L2,b∈L):mX lo2 L2 w w':=⟨h.os,h.tape,h.output,h.size,λi a c=>h.block i a (c.imp (λh=>eu) (h2 i))⟩
end mX
theorem row.kL{lo n g t:Nat}{L:List Nat}{cs:List Value}{w w':World}(h:row w g cs t)(k:Kp (Eo lo L n) w w')(hg:g<lo\/g∈L:=by first |(left;omega)|(right;simp;done)|(right;simp[*];done)):row w' g cs t:=h.nu k (pG hg)
theorem row.kl{lo g t:Nat}{L:List Nat}{cs:List Value}{w w':World}(h:row w g cs t)(k:mX lo L w w')(hg:g<lo\/g∈L:=by first |(left;omega)|(right;simp;done)|(right;simp[*];done)):row w' g cs t:=h.nu k.kp (pG hg)
theorem mX.lq{lo:Nat}{L L2:List Nat}{w w1 w':World}(h:mX lo L w w1)(k:mX lo L2 w1 w')(hL:∀ b∈L,b∈L2:=by first |(intro b hb;exact hb)|(intro b hb;simp[hb];done)|(intro b hb;simp only[ak]at hb |-;rcases hb with hb|hb<;>simp[hb];done)|(intro b hb;simp only[ak]at hb |-;rcases hb with hb|hb|hb<;>simp[hb];done)|simp):mX lo L w w':=h.ll k hL
theorem mX.wk{lo:Nat}{L L2:List Nat}{w w':World}(h:mX lo L2 w w')(hL:∀ b∈L,b∈L2:=by first |(intro b hb;exact hb)|(intro b hb;simp[hb];done)|(intro b hb;simp only[ak]at hb |-;rcases hb with hb|hb<;>simp[hb];done)|simp):mX lo L w w':=h.weak (ax _) hL
theorem mX.oq{lo g:Nat}{L:List Nat}{w w1 w':World}(h:mX lo L w w1)(ho:Only g w1 w')(hg:w.heap.size<=g\/lo<=g/\g∉L:=by first |omega|(right;exact⟨eu,by assumption⟩)):mX lo L w w':=h.only ho hg
theorem zo{w0 w w':World}{lo:Nat}{L:List Nat}(h:Below w0.heap.size w0 w)(k:mX lo L w w')(hl:w0.heap.size<=lo):Below w0.heap.size w0 w':=h.nu k.kp λ_ a=>ag hl (vI a).1
section
variable {md:Option Nat->Prop}{P:Program}{n:Nat}{Q:Post}{ρ:Env}{w w1 wc w':World}{l:List Oper}{lo:Nat}{L:List Nat}
theorem vK{id:Nat}(lo:Nat)(L:List Nat)(hm:P.follows .mixedOrders=true)(h:∀ w1,Below w.heap.size w w1->w.heap.size=w1.heap.size->Kp (Eo lo L w.heap.size) w1 w1->WA md P n l (Kp (Eo lo L w.heap.size) w1) Q [] ρ w1):W md P n (.region id l.toArray true) Q ρ w:=
 BF (Kp (Eo lo L w.heap.size) w.drew) hm (Kp.refl _ _) (h w.drew (Below.refl _ _).drew rfl (Kp.refl _ _))
theorem Kp.uK{k:Nat}(hS:Kp (Eo lo L k) w1 wc)(hn:k=w1.heap.size)(h:mX lo L wc w'):Kp (Eo lo L k) w1 w':=
 hS.add h.kp λg a=>by
  by_cases c:g<k
  .exact .inr<|dW.2 ⟨cz.2 c,decide_eq_true λe=>e.elim (λf=>absurd (vI a).1 (dN.2 f)) (vI a).2⟩
  .left;omega
end
structure Two(X Y:World->List Nat->Prop)(lo:Nat)(L:List Nat)(w:World):Prop where
 ex:∃ B C,X w B/\Y w C/\(∀ b∈B,lo<=b/\b∉C/\b∉L)/\∀ b∈C,lo<=b/\b∉L
 lo:lo<=w.heap.size
 lt:∀ b∈L,b<w.heap.size
namespace Two
variable {X X' Y Y':World->List Nat->Prop}{lo:Nat}{L:List Nat}{w w':World}
theorem nu{M:List Nat}[hX:mW X][hY:mW Y](h:Two X Y lo L w)(k:Kp M w w')(hM:∀ b∈M,b<lo\/b∈L):Two X Y lo L w':=by
 obtain⟨⟨B,C,g,i,a,c⟩,j,l⟩:=h;exact⟨⟨B,C,hX.nu g k λb hb e=>(hM b e).elim (λf=>absurd (a b hb).1 (dN.2 f)) (a b hb).2.2,hY.nu i k λb hb e=>(hM b e).elim (λf=>absurd (c b hb).1 (dN.2 f)) (c b hb).2,a,c⟩,ag j k.size,λb hb=>ae (l b hb) k.size⟩
theorem new [hX:mW X][hY:mW Y](h:Two X Y lo L w)(hb:Below w.heap.size w w'):Two X Y lo L w':=h.nu (M:=[]) (Kp.of_below hb) ig
theorem nA{g:Nat}[hX:mW X][hY:mW Y](h:Two X Y lo L w)(hb:Below w.heap.size w w')(hg:w.heap.size<=g)(hg':g<w'.heap.size):Two X Y lo (g::L) w':=by
 obtain⟨⟨B,C,e,f,c,g⟩,i,j⟩:=h;refine⟨⟨B,C,hX.nu e (M:=[]) (Kp.of_below hb) ig,hY.nu f (M:=[]) (Kp.of_below hb) ig,λb hb=>⟨(c b hb).1,(c b hb).2.1,λa=>?_⟩,λb hb=>⟨(g b hb).1,λa=>?_⟩⟩,ag i hb.size,λb a=>?_⟩
 .rcases ak.1 a with rfl|a
  .exact absurd (hX.lt e _ hb)<|bT.2 hg
  .exact(c b hb).2.2 a
 .rcases ak.1 a with rfl|a
  .exact absurd (hY.lt f _ hb)<|bT.2 hg
  .exact(g b hb).2 a
 .rcases ak.1 a with rfl|a
  .exact hg'
  .exact ae (j b a) hb.size
theorem only{g:Nat}[hX:mW X][hY:mW Y](h:Two X Y lo L w)(ho:Only g w w')(hg:g<lo\/g∈L):Two X Y lo L w':=h.nu (Kp.rC ho) λb hb=>by rw[aM.1 hb];exact hg
theorem weak{L2:List Nat}(h:Two X Y lo L w)(h2:∀ b∈L2,b∈L):Two X Y lo L2 w:=by
 obtain⟨⟨B,C,a,b,e,g⟩,i,j⟩:=h;exact⟨⟨B,C,a,b,λx c=>⟨(e x c).1,(e x c).2.1,λf=>(e x c).2.2 (h2 x f)⟩,λx c=>⟨(g x c).1,λf=>(g x c).2 (h2 x f)⟩⟩,i,λb hb=>j b (h2 b hb)⟩
theorem swap(h:Two X Y lo L w):Two Y X lo L w:=by
 obtain⟨⟨B,C,e,f,a,c⟩,g,i⟩:=h;exact⟨⟨C,B,f,e,λb hb=>⟨(c b hb).1,λj=>(a b j).2.1 hb,(c b hb).2⟩,λb hb=>⟨(a b hb).1,(a b hb).2.2⟩⟩,g,i⟩
theorem mv{B B' C:List Nat}[hX:mW X][hY:mW Y](h1:X' w' B')(h2:Y w C)(h3:∀ b∈B,lo<=b/\b∉C/\b∉L)(h4:∀ b∈C,lo<=b/\b∉L)(h5:lo<=w.heap.size)(h6:∀ b∈L,b<w.heap.size)(hm:Mv B B' w w'):Two X' Y lo L w':=
 ⟨⟨B',C,h1,hY.nu h2 hm.k λb hb a=>(h3 b a).2.1 hb,λb hb=>by
  rcases hm.sub b hb with a|a
  .exact h3 b a
  .exact⟨ag h5 a,λc=>absurd (hY.lt h2 b c) (bT.2 a),λc=>absurd (h6 b c) (bT.2 a)⟩,h4⟩,ag h5 hm.k.size,λb hb=>ae (h6 b hb) hm.k.size⟩
theorem left [hX:mW X] [hY:mW Y] {P:Program} {f:FuncId} {args:Array Value} {R:Value->Prop} (h:Two X Y lo L w)
  (hc:∀ B,X w B->(∀ b∈B,lo<=b/\b∉L)->Calls P f args w (pX λv w'=>R v/\∃ B',X' w' B'/\Mv B B' w w')):Calls P f args w (pX λv w'=>R v/\Two X' Y lo L w'/\mX lo L w w'):=by
 obtain⟨⟨B,C,e,f,a,g⟩,i,j⟩:=h;exact(hc B e λb hb=>⟨(a b hb).1,(a b hb).2.2⟩).to λv w' ⟨k,B',l,c⟩=>⟨k,mv (X:=X) l f a g i j c,mX.Lj c.k λb hb=>.inl ⟨(a b hb).1,(a b hb).2.2⟩⟩
theorem add{C:List Nat}[hX:mW X](h:Two X None lo L w)(hb:Below w.heap.size w w')(hY:Y w' C)(hC:∀ b∈C,w.heap.size<=b):Two X Y lo L w':=by
 obtain⟨⟨B,_,c,rfl,e,j⟩,f,g⟩:=h;exact⟨⟨B,C,hX.nu c (M:=[]) (Kp.of_below hb) ig,hY,λb hb=>⟨(e b hb).1,λi=>absurd (hX.lt c b hb) (bT.2 (hC b i)),(e b hb).2.2⟩,λb hb=>⟨ag f (hC b hb),λa=>absurd (g b a) (bT.2 (hC b hb))⟩⟩,ag f hb.size,λb a=>ae (g b a) hb.size⟩
end Two
def TU(e sz:Nat)(u:Value)(m:Nat)(xs:List Value):World->List Nat->Prop:=λw C=>C=u.ownBlock.toList/\nY w 0 e sz u m xs
instance(e sz:Nat)(u:Value)(m:Nat)(xs:List Value):mW (TU e sz u m xs):=
 ⟨fun {w w' B M} a k c=>⟨a.1,a.2.nu k λg f e=>c g (by rw[a.1];exact ah.2 e) f⟩,fun {w B} a b hb=>by rw[a.1]at hb;exact(a.2.lt b (ah.1 hb)).2⟩
namespace Two
variable {X:World->List Nat->Prop}{lo:Nat}{L:List Nat}{w w':World}{e sz:Nat}{u v:Value}{m k:Nat}{xs ys:List Value}
end Two
end Coup
namespace Go.Proofs.YtpaniebomegnbaaGreat
open Go Go.RowKit Coup
abbrev DZ(g:Nat)(D:Dk):World->List Nat->Prop:=λw B=>xA w g B D
instance(g:Nat)(D:Dk):mW (DZ g D):=⟨xA.nu,xA.lt⟩
theorem xZ{D:Dk}{k k':Nat}(h:sK D k)(hk:k<=k'):sK D k':=λv a=>ag (h v a) hk
theorem YU{D:Dk}{i:Int}(h:xy D i=true):∃ k:Nat,i=k/\k<D.V.length:=by
 have:=of_decide_eq_true h;exact⟨i.toNat,eu,eu⟩
section
variable {Y:World->List Nat->Prop}[mW Y]{g lo:Nat}{L:List Nat}{D:Dk}{w:World}
omit [mW Y] in
theorem yV(h:Two (DZ g D) Y lo L w):yL D/\0<D.V.length:=by
 obtain⟨⟨B,C,a,c,e,f⟩,g,i⟩:=h;exact⟨a.ok,a.pos⟩
theorem RY(h:Two (DZ g D) Y lo L w)(i:Int)(s:qg)(hs:s.length=128)(hsh:sK D 90000):
  CQ 181 [.pointer (some ⟨g,0,none⟩), .int .i64 i, .agg (bv s).toArray] w (λv w'=>v= .int .i64 (KI D i)/\Two (DZ g (ug D i s)) Y lo L w'/\mX lo L w w'):=
 h.left λB hX _=>write hX i s hs hsh
theorem Sy(h:Two (DZ g D) Y lo L w):
  CQ 152 [.pointer (some ⟨g,0,none⟩)] w (λv w'=>v= .int .i64 (if qB D then 0 else 10)/\Two (DZ g (su D)) Y lo L w'/\mX lo L w w'):=
 h.left λB hX _=>(flush hX).to λ_ _ ⟨a,c,e⟩=>⟨a,B,c, .Lj e⟩
omit [mW Y]
theorem WK(h:Two (DZ g D) Y lo L w):CQ 180 [.pointer (some ⟨g,0,none⟩)] w (λv w'=>v= .int .i64 (D.V.length:Int)/\w=w'):=by
 obtain⟨⟨B,C,a,c,e,f⟩,g,i⟩:=h;exact FZ a
theorem Dh(h:Two (DZ g D) Y lo L w)(i:Int):CQ 185 [.pointer (some ⟨g,0,none⟩), .int .i64 i] w (λv w'=>v= .tuple #[.agg (bv (if xy D i then pF D i.toNat else rR)).toArray, .int .i64 (if xy D i then 0 else 2)]/\Below w.heap.size w w'):=by
 obtain⟨⟨B,C,a,c,e,f⟩,g,j⟩:=h;exact read a i
end
theorem VI {w : World} (n : Nat) (h1 : 1 <= n) (h2 : n <= 8192) :
  CQ 63 [.int .i64 (n : Int)] w (λv w' => ∃ g B, v = .tuple #[.pointer (some ⟨g, 0, none⟩), .int .i64 0] /\ xA w' g B (wJ n) /\ (∀ b ∈ B, w.heap.size <= b) /\ Below w.heap.size w w') :=
 (Lt n h1 h2).to λv w' ⟨g, pl, m, e, hM, l1, l2, l3, hb⟩ => ⟨g, [g, pl, m] ++ [], e, ⟨pl, m, [], 0, n, 0, false, _, rfl, hM, ⟨λi hi => absurd hi (by rw [Ti]; simp), λi j b hi => absurd hi (by rw [Ti]; simp)⟩⟩, (λb hb => by
  simp only [List.append_nil, List.mem_cons, List.not_mem_nil, or_false] at hb
  rcases hb with rfl | rfl | rfl <;> assumption), hb⟩
theorem zpO(n:Nat):sK (wJ n) 1:=λv a=>by rw[(dX.1 a).2];simp
theorem FY{D:Dk}(h1:D.left=-1)(h2:D.dead=false):qB D=true/\uq D=D:=by
 have a:qB D=true:=by unfold qB;rw[h1,h2];rfl
 refine⟨a,?_⟩;rw[uq,if_pos a,h1];exact Dk.ext' rfl h1.symm rfl
structure sJ(D:Dk)(k:Nat):Prop where
 left:D.left=-1
 dead:D.dead=false
 pos:0<D.V.length
 short:sK D k
theorem sJ.weak{D:Dk}{k k':Nat}(h:sJ D k)(hk:k<=k'):sJ D k':=⟨h.left,h.dead,h.pos,xZ h.short hk⟩
theorem sJ.ug{D:Dk}{k:Nat}(h:sJ D k)(i:Int)(s:qg):sJ (ug D i s) (k+1)/\(Go.Proofs.YtpaniebomegnbaaGreat.ug D i s).V.length=D.V.length/\
  ∀ j,j<D.V.length->oZ (Go.Proofs.YtpaniebomegnbaaGreat.ug D i s) j=if i=(j:Int)then oZ D j++[s]else oZ D j:=by
 unfold Go.Proofs.YtpaniebomegnbaaGreat.ug
 split
 .rename_i a
  obtain⟨m,rfl,c⟩:=YU a;obtain⟨f,g⟩:=FY h.left h.dead;rw[aR,LJ,if_pos f,g];refine⟨⟨h.left,h.dead,by show 0<(D.V.set _ _).length;rw[bq];exact h.pos,λv i=>?_⟩,bq ..,λj k=>?_⟩
  .rcases iJ i with e|e
   .exact ag (h.short v e) eu
   .rw[e,aA,dM]
    have:=h.short.oZ c;omega
  .rw[Jj c]
   by_cases e:m=j
   .subst e;rw[if_pos rfl,if_pos rfl]
   .rw[if_neg e,if_neg eu]
 .rename_i a
  refine⟨h.weak eu,rfl,λj k=>?_⟩;rw[if_neg];intro e;exact a<|decide_eq_true (by rw[e];omega)
theorem zl7{n:Nat}(h:0<n):sJ (wJ n) 1:=⟨rfl,rfl,by rw[Ny];exact h,zpO n⟩
theorem zrc{D:Dk}(hs:qB D=true){i:Nat}(hi:i<D.V.length):oZ (su D) i=[pF D i]:=by
 rw[su,if_pos hs];unfold oZ;dsimp only;rw[bI,aW,LB hi];rfl
theorem FK{D:Dk}:(su D).V.length=D.V.length:=by
 unfold su
 split
 .simp
 .rw[Cs]
theorem OH{D:Dk}{k:Nat}(h:sJ D k):qB D=true/\sJ (su D) 1:=by
 obtain⟨a,c⟩:=FY h.left h.dead;refine⟨a,?_⟩;rw[su,if_pos a,c];exact⟨h.left,h.dead,by show 0<(D.V.map _).length;rw[aQ];exact h.pos,λv e=>by obtain⟨u,_,rfl⟩:=bB.1 e;simp⟩
def zoK:Int:=4611686018427387904
def vB(c n:Int):Bool:=decide (1<=c) && decide (c<=zoK) && decide (0<=n) && decide (n<2147483648)
theorem zl8(c n:Int):(Hid (vB c n=false)/\c<1)\/(Hid (vB c n=false)/\1<=c/\4611686018427387904<c)\/(Hid (vB c n=false)/\1<=c/\c<=4611686018427387904/\n<0)\/
  (Hid (vB c n=false)/\1<=c/\c<=4611686018427387904/\0<=n/\2147483648<=n)\/(Hid (vB c n=true)/\1<=c/\c<=4611686018427387904/\0<=n/\n<2147483648):=by
 have h:∀ b,(vB c n=b)=((decide (1<=c) && decide (c<=4611686018427387904) && decide (0<=n) && decide (n<2147483648))=b):=λ_=>rfl
 simp only[Hid,h]
 by_cases a:1<=c
 .by_cases e:c<=4611686018427387904
  .by_cases f:0<=n
   .by_cases g:n<2147483648
    .right;right;right;right;simp[a,e,f,g]
    .right;right;right;left;simp[a,e,f,g];omega
   .right;right;left;simp[a,e,f];omega
  .right;left;simp[a,e];omega
 .left;simp[a];omega
theorem Jh(c n:Int)(w:World):Calls Tryz.prog 215 #[.agg #[.int .u64 c, .int .i64 n]] w λe w'=>e= .returned (.bool (vB c n))/\Below w.heap.size w w':=by
 rcases zl8 c n with⟨HM,a⟩|⟨HM,a,e⟩|⟨HM,a,e,f⟩|⟨HM,a,e,f,g⟩|⟨HM,a,e,f,g⟩
 all_goals
  go_enter Tryz.func215,Tryz.ntmps215
  go_wp2
  go_ret
  exact⟨zs5 (by rw[HM.out];try (first |rfl|(simp<;>omega))),(Below.refl _ _).alloc (ax _) _⟩
def qw(n:Nat):Nat:=(n+51) / 48
theorem XU(n:Nat)(hn:n<=1000000)(w:World):Calls Tryz.prog 209 #[.int .i64 n] w λe w'=>e= .returned (.int .i64 (qw n))/\w=w':=by
 go_enter Tryz.func209,Tryz.ntmps209
 go_wp2
 go_ret
 exact⟨SC (by rw[qw];omega),rfl⟩
def Ki(n:Int):Int:=if 0<=n/\n<=32768 then((qw n.toNat+1) / 2:Nat)else 0
theorem zoM{n:Int}(h:¬(0<=n/\n<=32768)):Ki n=0:=if_neg h
theorem B_{n:Nat}(h:n<=32768):Ki n=((qw n+1) / 2:Nat):=by rw[Ki,if_pos eu,aR]
theorem JL(n:Int)(w:World):Calls Tryz.prog 150 #[.int .i64 n] w λe w'=>e= .returned (.int .i64 (Ki n))/\w=w':=by
 by_cases a:n<0
 .have HN:=Lib.hid (zoM (n:=n) eu)
  go_enter Tryz.func150,Tryz.ntmps150
  go_wp2
  go_ret
  exact⟨SC HN.out.symm,rfl⟩
 .by_cases c:32768<n
  .have HN:=Lib.hid (zoM (n:=n) eu)
   go_enter Tryz.func150,Tryz.ntmps150
   go_wp2
   go_ret
   exact⟨SC HN.out.symm,rfl⟩
  .obtain⟨m,rfl⟩:=Int.eq_ofNat_of_zero_le (by omega:0<=n)
   have HN:=Lib.hid (B_ (n:=m) eu);have hb:qw m<=1000:=by unfold qw;omega
   go_enter Tryz.func150,Tryz.ntmps150
   go_wp2_with (first |(go_at_call 209;refine(XU _ eu _).mono ?_;rintro e w' ⟨rfl,rfl⟩))
   go_ret
   refine⟨SC ?_,rfl⟩;rw[HN.out];omega
theorem Hg{α:Type}{p:List α->Prop}(h0:p [])(h1:∀ l b,p l->p (l++[b]))(l:List α):p l:=by
 have:∀ m:List α,p m.reverse:=λm=>by
  induction m with
  |nil=>exact h0
  |cons b m ih=>rw[iO];exact h1 _ _ ih
 have:=this l.reverse
 rwa [List.reverse_reverse]at this
def qK(l:List UInt8):Nat:=l.foldl (λa b=>256*a+b.toNat) 0
theorem PX(l:List UInt8):∀ a:Nat,l.foldl (λa b=>256*a+b.toNat) a=a*256 ^ l.length+qK l:=by
 induction l with
 |nil=>intro a;simp[qK]
 |cons b l ih=>
  intro a;rw[qK,je,je,ih,ih];simp only[aD,iP];rw[cB,cB];have:256*a*256 ^ l.length=a*(256 ^ l.length*256):=by rw[dY 256 a,Nat.mul_assoc,dY 256]
  omega
theorem zny(l m:List UInt8):qK (l++m)=qK l*256 ^ m.length+qK m:=by
 rw[qK,fK,PX];rfl
theorem Vd(l:List UInt8)(b:UInt8):qK (l++[b])=256*qK l+b.toNat:=by
 rw[zny];simp[qK];omega
theorem ZF(l:List UInt8):qK l<256 ^ l.length:=by
 refine Hg (p:=λl=>qK l<256 ^ l.length) ?_ ?_ l
 .simp[qK]
 .intro l b a
  rw[Vd,aA,dM,iP];have:=b.toNat_lt;omega
def nZ:Nat->Nat->List UInt8
 |0,_=>[]
 |k+1,n=>nZ k (n / 256)++[UInt8.ofNat n]
theorem ry(k n:Nat):(nZ k n).length=k:=by
 induction k generalizing n with
 |zero=>rfl
 |succ k ih=>simp[nZ,ih]
theorem QU(k n:Nat):qK (nZ k n)=n % 256 ^ k:=by
 induction k generalizing n with
 |zero=>simp[nZ,qK,Nat.mod_one]
 |succ k ih=>
  rw[nZ,Vd,ih,iP,dY (256 ^ k) 256,Nat.mod_mul];simp;omega
theorem Fs(a:Nat)(b:UInt8):(256*a) |||b.toNat=256*a+b.toNat:=by
 have:=Nat.two_pow_add_eq_or_of_lt (i:=8) (b:=b.toNat) (by have:=b.toNat_lt;omega) a;simpa using this.symm
theorem Si(l:List UInt8)(k:Nat)(b:UInt8)(h:l[k]?=some b):qK (l.take (k+1))=256*qK (l.take k)+b.toNat:=by
 rw[bf,h,gI,Vd]
theorem Zh(l:List UInt8)(k:Nat)(hk:k<=7):qK (l.take k)<72057594037927936:=by
 have a:=ZF (l.take k);have:256 ^ (l.take k).length<=256 ^ 7:=Nat.pow_le_pow_right eu jQ;omega
theorem Pj(p:Option Addr)(n c:Nat)(l:List UInt8)(w:World)(h:nC w p n 1 (bv l))(hn:n<=8):Calls Tryz.prog 257 #[.slice p n c] w λe w'=>e= .returned (.int .u64 (qK l))/\w=w':=by
 obtain⟨c,m,g⟩:=h;have H1:l.length=n:=by simpa [oh]using c
 clear c m;have HL:=Lib.hid H1;clear H1
 go_enter Tryz.func257,Tryz.ntmps257
 go_wp2
 go_loop [2,7] (λa i=>∃ k:Nat,k<=n/\i= .int .i64 k/\a= .int .u64 (qK (l.take k))) (λ_ i=>n - (intOf i).toNat)
 case atStart=>exact⟨0,eu,rfl,by simp[qK]⟩
 case round=>
  obtain⟨k,p,rfl,rfl⟩:=hrel
  by_cases q:k<n
  .obtain⟨b,r,rfl,s,j⟩:=g eu
   have o:=HL.out;obtain⟨x,f⟩:∃ x,l[k]?=some x:=⟨_,aI eu⟩;have c:=j k eu;rw[DW,f]at c;clear j g o;obtain⟨a,e⟩:∃ a,a=qK (l.take k):=⟨_,rfl⟩;have t:a<72057594037927936:=by rw[e];exact Zh l k eu
   rw[<-e];have HA:=Lib.hid e;clear e;have HX:=Lib.hid f;clear f;simp only[dZ,uk]at c
   go_wp2
   go_round
   case rel=>
    refine⟨k+1,eu,by go_num,?_⟩;have hb:=x.toNat_lt;rw[Si l k x HX.out,<-HA.out,show(a:Int)*256=((256*a:Nat):Int) by omega,show IntKind.u64.wrap (x.toNat:Int)=((x.toNat:Nat):Int) by rw[IntKind.wrap_u64];omega,
     bits_or_u64_nat _ _ eu eu,Fs]
   case measure=>simp[intOf]<;>omega
  .go_wp2
   go_ret
   refine⟨?_,rfl⟩;have:=HL.out;rw[aP eu]
   rfl
theorem ztr(k n:Nat):nZ (k+1) n=UInt8.ofNat (n / 256 ^ k)::nZ k n:=by
 induction k generalizing n with
 |zero=>simp[nZ]
 |succ k ih=>rw[nZ,ih,nZ,Nat.div_div_eq_div_mul,iP,dY 256];rfl
def pq(n:Nat):List UInt8:=List.replicate n 0
theorem Nk(n:Nat):bv (pq n)=List.replicate n (uk 0):=by simp[bv,pq]
def oM(l:List UInt8)(i:Nat):List UInt8:=(l.drop (64*i)).take 64
theorem OW(l:List UInt8)(i:Nat)(h:64*i+64<=l.length):(oM l i).length=64:=by simp[oM];omega
def DX(l:List UInt8)(k:Nat):List UInt8:=(l.drop (128*k)).take 128
theorem zmb(l:List UInt8)(k:Nat)(h:128*k+128<=l.length):(DX l k).length=128:=by simp[DX];omega
theorem znz(l:List UInt8)(q r:Nat)(hr:r<2):((DX l q).drop (64*r)).take 64=oM l (2*q+r):=by
 unfold DX oM;rw[eU,dL,dP]
 congr 1
 .omega
 .congr 1;omega
theorem NF{α:Type}(l m:List α)(h:l.length=m.length):splice l 0 m=m:=by
 simp[splice,<-h]
theorem Xu:(Tryz.prog.info? 296).map (λi=>i.zero.map (·.cells))=some (some (bv (pq 64)).toArray):=by kernel_rfl
theorem zia:(Tryz.prog.info? 265).map (λi=>i.zero.map (·.cells))=some (some (bv (pq 128)).toArray):=by kernel_rfl
theorem Nz:(Tryz.prog.info? 296).map (·.size)=some 64:=by kernel_rfl
theorem Pv:(Tryz.prog.info? 265).map (·.size)=some 128:=by kernel_rfl
theorem Bt:(Tryz.prog.underlying 265).any (·.isRow)=true:=by kernel_rfl
theorem QW:(Tryz.prog.underlying 296).any (·.isRow)=true:=by kernel_rfl
theorem _root_.Coup.nC.range{w:World}{b off n sz:Nat}{cs:List Value}(h:nC w (some ⟨b,off,none⟩) n sz cs)(o m:Nat)(ho:o+m<=n*sz):w.rangeAt b (off+o) ((cs.drop o).take m):=by
 intro j v a;have c:j<m:=by
  have:=(aO.1 a).1;simp at this;omega
 obtain⟨g,i,e,_,f⟩:=h.at_ eu;cases e;rw[bF,if_pos c,bD]at a;rw[gN,f _ eu,a]
theorem Kt(p:Option Addr)(n c:Nat)(l:List UInt8)(i:Nat)(w:World)(h:nC w p n 128 (bv l))(hi:i / 2<n)(hn:n<=1000000):
  Calls Tryz.prog 256 #[.slice p n c, .int .i64 i] w λe w'=>e= .returned (.agg (bv (oM l i)).toArray)/\Below w.heap.size w w':=by
 obtain⟨q,v⟩:∃ q,q=i / 2:=⟨_,rfl⟩;have y:l.length=n*128:=by simpa [oh]using h.len
 obtain⟨b,s,rfl,R,z⟩:=h.at_ eu;have A:∀ w1,Below w.heap.size w w1->w1.rangeAt b (s+q*128) (bv (DX l q)):=λw1 hb=>by
  have:=(h.below hb (ax _)).range (q*128) 128 eu
  rwa [<-Al,<-Ee,dY q 128,show(l.drop (128*q)).take 128=DX l q from rfl,dY 128 q]at this
 have S:(i:Int) / 2=(q:Int):=by omega
 have T:q<n:=by omega
 have B:(bv (DX l q)).length=128:=by rw[oh,zmb l q eu]
 have HQ:=Lib.hid v;have HC:=Lib.hid z;have HH:=Lib.hid h;have HR:=Lib.hid A;have HL:=Lib.hid y;have j:=Lib.hid B;clear v z h A y hi B;have C:∀ r:Nat,r<2->(i:Int) % 2=r->i=2*q+r->Calls Tryz.prog 256 #[.slice (some ⟨b,s,none⟩) n c, .int .i64 i] w λe w'=>e= .returned (.agg (bv (oM l i)).toArray)/\Below w.heap.size w w':=by
  intro r hr U t;have HI:=Lib.hid t;have D:∀ (a:Nat) (k:World) (m:List Value),Hid (m=splice (bv (pq 128)) 0 (bv (DX l q)))->row k a m 265->k.rangeAt a (64*r) (bv (oM l i)):=λa k m u o=>by
   rw[u.out,NF _ _ (by rw[j.out,oh,pq];simp)]at o;have:=o.zj5 (64*r) 64
   rwa [<-Al,<-Ee,znz _ _ _ hr,<-t]at this
  have E:(bv (oM l i)).length=64:=by rw[oh,OW l i (by have:=HL.out;omega)]
  have HR3:=Lib.hid D;have f:=Lib.hid E;clear t D E;have V:=run_arrayAt (P:=Tryz.prog) 296 5 64 dA;rcases(by omega:r=0\/r=1)with rfl|rfl
  all_goals
   go_enter Tryz.func256,Tryz.ntmps256
   go_wp2_with (first
    |(with_reducible refine wu (.alloc 296) ?_;refine MB rfl 296 rfl _ Xu ?_;intro g w1 I F p)
    |(with_reducible refine wu (.load 265 _) ?_;refine PK rfl 265 _ rfl b (s+q*128) rfl (bv (DX l q)) (HR.out _ p) Bt (by rw[j.out];exact Pv) ?_)
    |(with_reducible refine wu (.alloc 265) ?_;refine MB rfl 265 rfl _ zia ?_;intro a w2 J K G)
    |(with_reducible refine wu (.store 265 _ _) ?_;refine Mj rfl 265 _ _ rfl a 0 rfl (bv (DX l q)) rfl _ 265 K (by rw[j.out];exact Pv) (by rw[j.out,oh,pq];simp) (tq _) ?_;intro m k u o H)
    |(with_reducible refine wu (.load 296 _) ?_;refine PK rfl 296 _ rfl a _ rfl (bv (oM l i)) (HR3.out a _ _ u o) QW (by rw[f.out];exact Nz) ?_)
    |(with_reducible refine wu (.store 296 _ _) ?_;refine Mj rfl 296 _ _ rfl g 0 rfl (bv (oM l i)) rfl _ 296 ((F.new G).only H (by have:=F.lt;omega)) (by rw[f.out];exact Nz) (by rw[f.out,oh,pq];simp) (tq _) ?_;intro L X M N O))
   have Q:L=bv (oM l i):=by rw[M.out,NF _ _ (by rw[f.out,oh,pq];simp)]
   subst Q;refine bodyPost_ret (Ue rfl _ _ g 296 _ rfl N QW (by rw[f.out];exact Nz)) rfl ?_;exact⟨rfl,O.below (H.below (p.trans (G.mono p.size)) (ag p.size J)) I⟩
 rcases Nat.mod_two_eq_zero_or_one i with e|e
 .exact C 0 eu eu (by have:=HQ.out;omega)
 .exact C 1 eu eu (by have:=HQ.out;omega)
def tJ(h:List UInt8):Nat:=qK (h.take 8)
def tZ(h:List UInt8):Nat:=qK ((h.drop 8).take 4)
def DL(h:List UInt8):Nat:=qK ((h.drop 12).take 2)
def vz(h:List UInt8):Nat:=qK ((h.drop 14).take 2)
def vW(h:List UInt8):List UInt8:=h.drop 16
def sF(c n p m:Int)(b:List UInt8):List Value:=[.int .u64 c, .int .i64 n, .int .i64 p, .int .i64 m]++bv b
theorem TG(c n p m:Int)(b:List UInt8):∀ v∈sF c n p m b,v.oneCell'=true:=by
 intro v a;simp only[sF,ay]at a;rcases a with a|a
 .simp at a;rcases a with rfl|rfl|rfl|rfl<;>rfl
 .exact tq b v a
theorem NC(c n p m:Int)(b:List UInt8):(sF c n p m b).length=4+b.length:=by simp[sF,oh];omega
theorem zmd:(Tryz.prog.info? 298).map (λi=>i.zero.map (·.cells))=some (some (sF 0 0 0 0 (pq 48)).toArray):=by kernel_rfl
theorem Uo:(Tryz.prog.info? 298).map (·.size)=some 52:=by kernel_rfl
theorem Cb:(Tryz.prog.info? 295).map (·.size)=some 48:=by kernel_rfl
theorem JV:(Tryz.prog.info? 236).map (·.size)=some 2:=by kernel_rfl
theorem Jl:(Tryz.prog.underlying 298).any (·.isRow)=true:=by kernel_rfl
theorem QR:(Tryz.prog.underlying 295).any (·.isRow)=true:=by kernel_rfl
theorem Iy:(Tryz.prog.underlying 236).any (·.isRow)=true:=by kernel_rfl
theorem Cw(l:List UInt8)(k:Nat)(h:l.length<=k):qK l<256 ^ k:=ae (ZF l) (Nat.pow_le_pow_right eu h)
theorem zhO {fn:Func} {p q:Tmp} {ty:TypeId} (h:fn.results=#[.cell p ty, .tmp q]) {P:Program} (tmps:Array Value) (w:World) (g:Nat) (t:TypeId) (cs:List Value) (hp:tmps.getD p undef= .pointer (some ⟨g,0,none⟩))
  (hg:row w g cs t) (hu:(P.underlying ty).any (·.isRow)=true) (hi:(P.info? ty).map (·.size)=some cs.length):(results fn tmps).run P w= .ok (.tuple #[.agg cs.toArray,tmps.getD q undef]) w:=by
 cases hd:P.underlying ty with
 |none=>simp[hd]at hu
 |some d=>
  have hr:d.isRow=true:=by simpa [hd]using hu
  have a:tmps[p]?.getD undef= .pointer (some ⟨g,0,none⟩):=by simpa using hp
  have c:w.rangeAt g 0 cs:=hg.range 0 cs λj v e=>by simpa using e
  simp[results,h,a,asAddr,run_loadVar_mid w g 0 ty cs d c hd hr hi]
theorem zpP(c n p m x:Int)(b:List UInt8):(sF c n p m b).set 0 (.int .u64 x)=sF x n p m b:=rfl
theorem zpQ(c n p m x:Int)(b:List UInt8):(sF c n p m b).set 1 (.int .i64 x)=sF c x p m b:=rfl
theorem zpR(c n p m x:Int)(b:List UInt8):(sF c n p m b).set 2 (.int .i64 x)=sF c n x m b:=rfl
theorem zpS(c n p m x:Int)(b:List UInt8):(sF c n p m b).set 3 (.int .i64 x)=sF c n p x b:=rfl
theorem zpT(c n p m:Int)(b b':List UInt8)(h:b.length=b'.length):splice (sF c n p m b) 4 (bv b')=sF c n p m b':=by
 have:(bv b').length=(bv b).length:=by simp[oh,h]
 simp[splice,sF,this];omega
theorem Jz(hb:List UInt8)(hl:hb.length=64)(w:World):
  Calls Tryz.prog 255 #[.agg (bv hb).toArray] w λe w'=>e= .returned (.tuple #[.agg (sF (tJ hb) (tZ hb) (DL hb) (vz hb) (vW hb)).toArray, .bool (vB (tJ hb) (tZ hb))])/\Below w.heap.size w w':=by
 obtain⟨c,r⟩:∃ c,c=tJ hb:=⟨_,rfl⟩
 obtain⟨n,s⟩:∃ n,n=tZ hb:=⟨_,rfl⟩
 obtain⟨pl,t⟩:∃ pl,pl=DL hb:=⟨_,rfl⟩
 obtain⟨m,u⟩:∃ m,m=vz hb:=⟨_,rfl⟩
 have b8:c<18446744073709551616:=by rw[r];exact Cw _ 8 jQ
 have b9:n<4294967296:=by rw[s];exact Cw _ 4 jQ
 have c4:pl<65536:=by rw[t];exact Cw _ 2 jQ
 have c5:m<65536:=by rw[u];exact Cw _ 2 jQ
 have sl:∀ (o k:Nat),o+k<=64->k<=8->∀ (g:Nat) (w':World),row w' g (bv hb) 296->nC w' (some ⟨g,o,none⟩) k 1 (bv ((hb.drop o).take k)):=λo k c6 c7 g w' hr=>by
  have:=hr.Ou o k 1 (by rw[oh];omega) jo
  rwa [<-Al,dz,<-Ee]at this
 have c1:∀ (g:Nat) (w':World),row w' g (bv hb) 296->Calls Tryz.prog 257 #[.slice (some ⟨g,0,none⟩) 8 8] w' λe w2=>e= .returned (.int .u64 c)/\w'=w2:=λg w' hr=>by
  have:=Pj (some ⟨g,0,none⟩) 8 8 _ w' (sl 0 8 eu eu g w' hr) eu
  rwa [r]
 have c2:∀ (g:Nat) (w':World),row w' g (bv hb) 296->Calls Tryz.prog 257 #[.slice (some ⟨g,8,none⟩) 4 4] w' λe w2=>e= .returned (.int .u64 n)/\w'=w2:=λg w' hr=>by
  have:=Pj (some ⟨g,8,none⟩) 4 4 _ w' (sl 8 4 eu eu g w' hr) eu
  rwa [s]
 have c3:∀ (g:Nat) (w':World),row w' g (bv hb) 296->Calls Tryz.prog 257 #[.slice (some ⟨g,12,none⟩) 2 2] w' λe w2=>e= .returned (.int .u64 pl)/\w'=w2:=λg w' hr=>by
  have:=Pj (some ⟨g,12,none⟩) 2 2 _ w' (sl 12 2 eu eu g w' hr) eu
  rwa [t]
 have L:∀ (g:Nat) (w':World),row w' g (bv hb) 296->Calls Tryz.prog 257 #[.slice (some ⟨g,14,none⟩) 2 2] w' λe w2=>e= .returned (.int .u64 m)/\w'=w2:=λg w' hr=>by
  have:=Pj (some ⟨g,14,none⟩) 2 2 _ w' (sl 14 2 eu eu g w' hr) eu
  rwa [u]
 rw[<-r,<-s,<-t,<-u]
 have C1:=Lib.hid c1
 have C2:=Lib.hid c2
 have C3:=Lib.hid c3
 have C4:=Lib.hid L
 have HL:=Lib.hid hl
 have c8:IntKind.i64.wrap (n:Int)=n:=by rw[IntKind.wrap_i64];omega
 have c9:IntKind.i64.wrap (pl:Int)=pl:=by rw[IntKind.wrap_i64];omega
 have d0:IntKind.i64.wrap (m:Int)=m:=by rw[IntKind.wrap_i64];omega
 have d1:=run_arrayAt (P:=Tryz.prog) 295 5 48 dA
 clear c1 c2 c3 L sl r s t u hl
 have M:(sF 0 0 0 0 (pq 48)).length=52:=by rw[NC];simp[pq]
 have a2:=Lib.hid M
 clear M
 go_enter Tryz.func255,Tryz.ntmps255
 go_wp2_with (first
  |(with_reducible refine wu (.box 296 _) ?_;refine SI rfl 296 _ rfl (bv hb) rfl ?_;intro f w1 d2 N B)
  |(with_reducible refine wu (.alloc 298) ?_;refine MB rfl 298 rfl _ zmd ?_;intro a w2 a3 O Q))
 have l:f≠a:=by have:=N.lt;omega
 have R:HS f (bv hb) 296 a 52 w2:=⟨N.new Q,by have:=O.there;rwa [a2.out]at this⟩
 have k1:∀ (j:Nat),j<52->∀ w',HS f (bv hb) 296 a 52 w'->w'.cell? ⟨a,j,none⟩=some (cellOf w' ⟨a,j,none⟩):=HS.cell
 have k2:∀ (j:Nat),j<52->∀ w',HS f (bv hb) 296 a 52 w'->w'.frozen? ⟨a,j,none⟩=false:=HS.frozen
 go_region_held3 (HS f (bv hb) 296 a 52) (first |assumption|(exact HS.drew kF)|(exact HS.rP kF l _ _)|(exact HS.rP (HS.rP kF l _ _) l _ _))
  (first
   |(go_at_call_of 257 (Value.slice (some ⟨f,0,none⟩) 8 8);refine(C1.out _ _ (HS.Hm kF)).mono ?_;rintro e w' ⟨rfl,rfl⟩)
   |(go_at_call_of 257 (Value.slice (some ⟨f,8,none⟩) 4 4);refine(C2.out _ _ (HS.Hm kF)).mono ?_;rintro e w' ⟨rfl,rfl⟩))
 have C:=((O.rP 0 (.int .u64 c)).rP 1 (.int .i64 n)).drew
 rw[zpP,zpQ]at C
 have T:=((Only.setCell w2 a 0 (.int .u64 c)).trans (Only.setCell _ a 1 (.int .i64 n))).drew
 obtain⟨D,E⟩:∃ x,x=((w2.setCell ⟨a,0,none⟩ (Value.int .u64 c)).setCell ⟨a,1,none⟩ (.int .i64 n)).drew:=⟨_,rfl⟩
 rw[<-E]at C T |-
 have U:HS f (bv hb) 296 a 52 D:=by rw[E];exact((R.rP l _ _).rP l _ _).drew
 clear E
 go_wp2
 go_region_held3 (HS f (bv hb) 296 a 52) (first |assumption|(exact HS.drew kF)|(exact HS.rP kF l _ _)|(exact HS.rP (HS.rP kF l _ _) l _ _))
  (first
   |(go_at_call_of 257 (Value.slice (some ⟨f,12,none⟩) 2 2);refine(C3.out _ _ (HS.Hm kF)).mono ?_;rintro e w' ⟨rfl,rfl⟩)
   |(go_at_call_of 257 (Value.slice (some ⟨f,14,none⟩) 2 2);refine(C4.out _ _ (HS.Hm kF)).mono ?_;rintro e w' ⟨rfl,rfl⟩))
 have F:=((C.rP 2 (.int .i64 pl)).rP 3 (.int .i64 m)).drew
 rw[zpR,zpS]at F
 have V:=((Only.setCell D a 2 (.int .i64 pl)).trans (Only.setCell _ a 3 (.int .i64 m))).drew
 obtain⟨X,G⟩:∃ x,x=((D.setCell ⟨a,2,none⟩ (Value.int .i64 pl)).setCell ⟨a,3,none⟩ (.int .i64 m)).drew:=⟨_,rfl⟩
 rw[<-G]at F V |-
 have a4:HS f (bv hb) 296 a 52 X:=by rw[G];exact((U.rP l _ _).rP l _ _).drew
 clear G U R
 have Y:(vW hb).length=48:=by rw[vW,aL,HL.out]
 have Z:X.rangeAt f 16 (bv (vW hb)):=by
  refine a4.1.range 16 _ λj v q=>?_
  rw[vW,Al,bD]at q
  exact q
 have HB:=Lib.hid Y
 have a5:=Lib.hid Z
 clear Y Z
 go_wp2_with (first
  |(with_reducible refine wu (.load 295 _) ?_;refine PK rfl 295 _ rfl f 16 rfl (bv (vW hb)) a5.out QR (by rw[oh,HB.out];exact Cb) ?_)
  |(with_reducible refine wu (.store 295 _ _) ?_;refine Mj rfl 295 _ _ rfl a 4 rfl (bv (vW hb)) rfl _ 298 F (by rw[oh,HB.out];exact Cb) (by rw[NC,oh,HB.out,pq,bi];omega) (tq _) ?_;intro p d3 a6 a7 a8))
 have y:p=sF c n pl m (vW hb):=by rw[a6.out,zpT _ _ _ _ _ _ (by rw[HB.out,pq,bi])]
 have hp:∀ v∈p,v.oneCell'=true:=by rw[y];exact TG _ _ _ _ _
 have H:p.length=52:=by rw[y,NC,HB.out]
 have a9:=Lib.hid y
 have b0:∀ w',row w' a p 298->w'.rangeAt a 0 [.int .u64 c, .int .i64 n]:=λw' h=>h.range 0 _ λj v q=>by
  rw[y]
  rcases j with _|_|j
  .exact q
  .exact q
  .simp at q
 refine wp_region_held_drew (S:=λw'=>row w' a p 298) dA (row.drew a7) (λz=>?_)
 refine wpAnyH_take (i:=1) (v:=.pointer (some ⟨a,0,none⟩)) rfl dA dA dA (λ_ _ _ h=>h) (Or.inl ⟨by rfl,λw _=>by go_simp⟩) z (wpAnyH_take (i:=0) (v:=.agg p.toArray) rfl dA dA dA (λ_ _ _ h=>h) (Or.inl ⟨by rfl,λw h=>WP _ 298 _ rfl a 0 rfl p h.Vx Jl (by rw[H];exact Uo)⟩) z (wpAnyH_take (i:=2) (v:=.agg #[.int .u64 c, .int .i64 n]) rfl dA dA dA (λ_ _ _ h=>h) (Or.inl ⟨by rfl,λw h=>WP _ 236 _ rfl a 0 rfl [.int .u64 c, .int .i64 n] (b0 w h) Iy JV⟩) z (wpAnyH_ready (rs:=[3]) dA ig ?_)))
 have b1:∀ w',(callFunc 215 (#[]++#[Value.agg #[.int .u64 c, .int .i64 n]]++#[])).run Tryz.prog w'= .ok (.enter 215 #[.agg #[.int .u64 c, .int .i64 n]]) w':=λw'=>by go_simp
 refine AllReadyH.cons rfl (λK I=>?_) AllReadyH.nil
 refine zlN rfl 215 _ _ rfl [.agg #[.int .u64 c, .int .i64 n]] rfl (b1 _) ((Jh c n _).mono ?_)
 rintro e d4 ⟨rfl,a0⟩
 refine⟨_,rfl,I.out _ _ (row.new z a0) (λb2=>?_)⟩
 refine wpAnyH_ready (rs:=[4]) dA ig (AllReadyH.cons rfl (λK I=>?_) AllReadyH.nil)
 refine zkU rfl 298 _ _ rfl a 0 rfl p rfl p 298 b2 (by rw[H];exact Uo) eu hp ?_
 intro b3 d5 b4 J b5
 rw[show b3=p by rw[b4.out,NF _ _ rfl]]at J
 refine I.out _ _ J (λb6=>?_)
 refine wpAnyH_take (i:=5) (v:=.bool (vB c n)) rfl dA dA dA (λ_ _ _ h=>h) (Or.inl ⟨by rfl,λw _=>by rfl⟩) b6 (wpAnyH_done dA ?_ _)
 go_wp2
 refine bodyPost_ret (zhO rfl _ _ a 298 _ rfl J Jl (by rw[H];exact Uo)) rfl ?_
 rw[a9.out]
 refine⟨rfl,?_⟩
 have b7:=B.trans (Q.mono B.size)
 have A:w.heap.size<=a:=ag B.size a3
 have a1:=a8.below (V.below (T.below b7 A) A) A
 exact b5.below (a1.drew.trans (a0.mono a1.size)) A
theorem XF(m x i:Nat)(h:i<m):(nZ m x)[i]?=some (UInt8.ofNat (x / 256 ^ (m - 1 - i))):=by
 induction m generalizing i with
 |zero=>omega
 |succ m ih=>
  rw[ztr];rcases i with _|i
  .simp
  .rw[iQ,ih i eu,show m - 1 - i=m+1 - 1 - (i+1) by omega]
theorem znA(l:List Value)(off:Nat)(m x i:Nat)(h:i<m)(hl:off+m<=l.length):
  (splice l off (bv ((nZ m x).take i))).set (off+i) (uk (UInt8.ofNat (x / 256 ^ (m - 1 - i))))=splice l off (bv ((nZ m x).take (i+1))):=by
 have e:(nZ m x).take (i+1)=(nZ m x).take i++[UInt8.ofNat (x / 256 ^ (m - 1 - i))]:=by rw[bf,XF _ _ _ h];rfl
 have a:(bv ((nZ m x).take i)).length=i:=by rw[oh,aH,ry];omega
 have c:(bv ((nZ m x).take (i+1))).length=i+1:=by rw[oh,aH,ry];omega
 rw[splice,splice,c,a,e,wK,dJ _ _ jQ,dJ _ _ jQ];rw[aH,bP eu,a,gz,bL];have:l.drop (off+i)=l[off+i]'eu::l.drop (off+i+1):=dG eu;rw[this];simp[bv,gN]
theorem zoN(x k:Nat):Value.int .u8 ((x:Int) / 2 ^ (8*k) % 256)=uk (UInt8.ofNat (x / 256 ^ k)):=by
 have a:(256:Nat) ^ k=2 ^ (8*k):=by rw[show 256=2 ^ 8 by rfl,<-Nat.pow_mul]
 rw[uk,a]
 congr 1
theorem Pz(x m:Nat)(hm:m<=8)(gh ga:Nat)(l:List Value)(at_:Nat)(w:World)(hr:row w gh l 296)(hl:l.length=64)(ha:row w ga [.int .i64 at_] 3)(hat:at_+m<=64)(hne:gh≠ga):
  Calls Tryz.prog 247 #[.int .u64 x, .int .i64 m, .pointer (some ⟨gh,0,none⟩), .pointer (some ⟨ga,0,none⟩)] w λe w'=>e= .returned (.tuple #[])/\row w' gh (splice l at_ (bv (nZ m x))) 296/\row w' ga [.int .i64 (at_+m:Nat)] 3/\
   ∀ B,B<=gh->B<=ga->Below B w w':=by
 go_enter Tryz.func247,Tryz.ntmps247
 go_wp2
 go_loopw [8] (λi h=>∃ k:Nat,k<=m/\i= .int .i64 k/\row h gh (splice l at_ (bv ((nZ m x).take k))) 296/\row h ga [.int .i64 at_] 3/\∀ B,B<=gh->B<=ga->Below B w h) (λi _=>m - (intOf i).toNat)
 case atStart=>exact⟨0,eu,rfl,by simpa [splice,bv]using hr,ha,λB _ _=>Below.refl B w⟩
 case round=>
  obtain⟨k,t,rfl,a,c,e⟩:=hrel
  by_cases p:k<m
  .have q:=c.cell 0 (v:=.int .i64 at_) rfl
   have r:(splice l at_ (bv ((nZ m x).take k))).length=64:=by rw[length_splice _ _ _ (by rw[oh,aH,ry];omega),hl]
   obtain⟨u,j⟩:∃ u,(splice l at_ (bv ((nZ m x).take k)))[at_+k]?=some u:=⟨_,aI eu⟩;have y:=a.cell (at_+k) j;have s:=a.frozen (at_+k);have H2:=Lib.hid a;have A2:=Lib.hid c;have B2:=Lib.hid e;have HL:=Lib.hid hl;clear a c e r j hr ha hl
   go_wp2
   go_region
   go_wp2
   go_roundw
   case rel=>
    refine⟨k+1,eu,by go_num,?_,?_,?_⟩
    .have:=(H2.out.rP (at_+k) (uk (UInt8.ofNat (x / 256 ^ (m - 1 - k))))).drew
     rw[znA _ _ _ _ _ p (by rw[HL.out];omega)]at this;rw[zoN];exact this
    .exact(A2.out.only (Only.setCell _ gh _ _) eu).drew
    .exact λB f g=>((Only.setCell _ gh _ _).below (B2.out B f g) f).drew
   case measure=>simp[intOf]<;>omega
  .obtain rfl:k=m:=by omega
   have q:=c.cell 0 (v:=.int .i64 at_) rfl;have s:=c.frozen 0;have o:(nZ k x).take k=nZ k x:=aP kN;rw[o]at a;have H2:=Lib.hid a;have A2:=Lib.hid c;have B2:=Lib.hid e;clear a c e hr ha hl o
   go_wp2
   go_end0
   refine⟨rfl,H2.out.only (Only.setCell _ ga _ _) hne,?_,λB f g=>(Only.setCell _ ga _ _).below (B2.out B f g) g⟩;have:=A2.out.rP 0 (.int .i64 (at_+k:Nat));simpa using this
def ww(c n p m:Nat)(b:List UInt8):List UInt8:=nZ 8 c++(nZ 4 n++(nZ 2 p++(nZ 2 m++b)))
theorem IQ(c n p m:Nat)(b:List UInt8):(ww c n p m b).length=16+b.length:=by simp[ww,ry];omega
theorem MK{α:Type}(pre x y post:List α)(h:x.length=y.length):splice (pre++(x++post)) pre.length y=pre++(y++post):=by
 rw[splice,dR,<-h,<-dP,dF,dF]
theorem znB(c n p m:Nat)(b:List UInt8)(hb:b.length=48):
  splice (splice (splice (splice (splice (bv (pq 64)) 0 (bv (nZ 8 c))) 8 (bv (nZ 4 n))) 12 (bv (nZ 2 p))) 14 (bv (nZ 2 m))) 16 (bv b)=bv (ww c n p m b):=by
 have k:bv (pq 64)=[]++(bv (pq 8)++(bv (pq 4)++(bv (pq 2)++(bv (pq 2)++bv (pq 48))))):=by simp only[<-wK,aV];rfl
 have l:(bv (pq 8)).length=(bv (nZ 8 c)).length:=by rw[oh,oh,ry];rfl
 have o:(bv (pq 4)).length=(bv (nZ 4 n)).length:=by rw[oh,oh,ry];rfl
 have q:(bv (pq 2)).length=(bv (nZ 2 p)).length:=by rw[oh,oh,ry];rfl
 have r:(bv (pq 2)).length=(bv (nZ 2 m)).length:=by rw[oh,oh,ry];rfl
 have s:(bv (pq 48)).length=(bv b).length:=by rw[oh,oh,hb];rfl
 have t:(bv (nZ 8 c)).length=8:=by rw[oh,ry]
 have a:(bv (nZ 8 c)++bv (nZ 4 n)).length=12:=by rw[aA,oh,oh,ry,ry]
 have e:((bv (nZ 8 c)++bv (nZ 4 n))++bv (nZ 2 p)).length=14:=by rw[aA,a,oh,ry]
 have u:(((bv (nZ 8 c)++bv (nZ 4 n))++bv (nZ 2 p))++bv (nZ 2 m)).length=16:=by rw[aA,e,oh,ry]
 rw[k];have f:=MK [] (bv (pq 8)) (bv (nZ 8 c)) (bv (pq 4)++(bv (pq 2)++(bv (pq 2)++bv (pq 48)))) l;simp only[aX]at f;rw[f,aV];have g:=MK (bv (nZ 8 c)) (bv (pq 4)) (bv (nZ 4 n)) (bv (pq 2)++(bv (pq 2)++bv (pq 48))) o;rw[t]at g;rw[g,<-aG];have h:=MK (bv (nZ 8 c)++bv (nZ 4 n)) (bv (pq 2)) (bv (nZ 2 p)) (bv (pq 2)++bv (pq 48)) q;rw[a]at h;rw[h,<-aG];have i:=MK ((bv (nZ 8 c)++bv (nZ 4 n))++bv (nZ 2 p)) (bv (pq 2)) (bv (nZ 2 m)) (bv (pq 48)) r;rw[e]at i;rw[i,<-aG];have j:=MK (((bv (nZ 8 c)++bv (nZ 4 n))++bv (nZ 2 p))++bv (nZ 2 m)) (bv (pq 48)) (bv b) [] s;rw[u,aU,aU]at j;rw[j,ww];simp only[wK,aG]
structure BI(B g1 g2 ga:Nat)(L l:List Value)(x:Int)(w0 w:World):Prop where
 p:row w g1 L 298
 h:row w g2 l 296
 a:row w ga [.int .i64 x] 3
 b:Below B w0 w
 o1:g1<g2
 o2:g2<ga
 o3:B<=g1
 len:l.length=64
theorem RA{B g1 g2 ga:Nat}{L l:List Value}{x:Nat}{w0 w:World}(h:BI B g1 g2 ga L l x w0 w)(v m:Nat)(hm:m<=8)(hx:x+m<=64):
  Calls Tryz.prog 247 #[.int .u64 v, .int .i64 m, .pointer (some ⟨g2,0,none⟩), .pointer (some ⟨ga,0,none⟩)] w λe w'=>e= .returned (.tuple #[])/\BI B g1 g2 ga L (splice l x (bv (nZ m v))) ((x+m:Nat):Int) w0 w':=by
 have:=h.o2;refine(Pz v m hm g2 ga l x w h.h h.len h.a hx eu).mono ?_;rintro e w' ⟨rfl,a,c,f⟩;have hb:=f g2 (ax _) eu;exact⟨rfl,h.p.below hb h.o1,a,c,h.b.trans (hb.mono (by have:=h.o1;have:=h.o3;omega)),h.o1,h.o2,h.o3,by rw[length_splice _ _ _ (by rw[oh,ry,h.len];omega),h.len]⟩
theorem BI.c0{B g1 g2 ga:Nat}{c n p m:Int}{b:List UInt8}{l:List Value}{x:Int}{w0 w:World}(h:BI B g1 g2 ga (sF c n p m b) l x w0 w):w.cell? ⟨g1,0,none⟩=some (.int .u64 c):=h.p.cell 0 rfl
theorem BI.c1{B g1 g2 ga:Nat}{c n p m:Int}{b:List UInt8}{l:List Value}{x:Int}{w0 w:World}(h:BI B g1 g2 ga (sF c n p m b) l x w0 w):w.cell? ⟨g1,1,none⟩=some (.int .i64 n):=h.p.cell 1 rfl
theorem BI.c2{B g1 g2 ga:Nat}{c n p m:Int}{b:List UInt8}{l:List Value}{x:Int}{w0 w:World}(h:BI B g1 g2 ga (sF c n p m b) l x w0 w):w.cell? ⟨g1,2,none⟩=some (.int .i64 p):=h.p.cell 2 rfl
theorem BI.c3{B g1 g2 ga:Nat}{c n p m:Int}{b:List UInt8}{l:List Value}{x:Int}{w0 w:World}(h:BI B g1 g2 ga (sF c n p m b) l x w0 w):w.cell? ⟨g1,3,none⟩=some (.int .i64 m):=h.p.cell 3 rfl
theorem BI.start {L:List Value} {w:World} {g1 g2 ga:Nat} {w1 w2 w3 w4:World} {l4:List Value} (a1:w.heap.size<=g1) (a2:row w1 g1 L 298) (a3:Below w.heap.size w w1) (b1:w1.heap.size<=g2) (b2:row w2 g2 (bv (pq 64)) 296) (b3:Below w1.heap.size w1 w2)
  (c1:w2.heap.size<=ga) (_c2:row w3 ga [.int .i64 0] 3) (c3:Below w2.heap.size w2 w3) (d1:Hid (l4=splice [.int .i64 0] 0 [.int .i64 0])) (d2:row w4 ga l4 3) (d3:Only ga w3 w4):BI w.heap.size g1 g2 ga L (bv (pq 64)) ((0:Nat):Int) w w4:=by
 have c:=a2.lt;have e:=b2.lt;have a:=a3.size;have f:=b3.size;rw[show l4=[.int .i64 0]from d1.out]at d2;exact⟨((a2.new b3).new c3).only d3 eu,(b2.new c3).only d3 eu,d2,d3.below ((a3.trans (b3.mono a)).trans (c3.mono eu)) eu,eu,eu,a1,by rw[oh];rfl⟩
theorem Gt (c n p m : Nat) (b : List UInt8) (hb : b.length = 48) (_hc : c < 18446744073709551616) (hn : n < 4294967296) (hp : p < 65536) (hm : m < 65536) (w : World) :
    Calls Tryz.prog 217 #[.agg (sF c n p m b).toArray] w λe w' => e = .returned (.agg (bv (ww c n p m b)).toArray) /\ Below w.heap.size w w' := by
  have HB := Lib.hid hb
  clear hb
  have wn : IntKind.u64.wrap (n : Int) = n := by rw [IntKind.wrap_u64]; omega
  have wp : IntKind.u64.wrap (p : Int) = p := by rw [IntKind.wrap_u64]; omega
  have wm : IntKind.u64.wrap (m : Int) = m := by rw [IntKind.wrap_u64]; omega
  have hz3 : (Tryz.prog.info? 3).map (λi => i.zero.map (·.cells)) = some (some [Value.int .i64 0].toArray) := by kernel_rfl
  go_enter Tryz.func217, Tryz.ntmps217
  go_wp2_with (first
    | (with_reducible refine wu (.box 298 _) ?_; refine SI rfl 298 _ rfl (sF c n p m b) rfl ?_; intro g1 w1 hg1 hr1 hb1)
    | (with_reducible refine wu (.alloc 296) ?_; refine MB rfl 296 rfl _ Xu ?_; intro g2 w2 hg2 hr2 hb2)
    | (with_reducible refine wu (.alloc 3) ?_; refine MB rfl 3 rfl _ hz3 ?_; intro ga w3 hga ha3 hb3)
    | (with_reducible refine wu (.store 3 _ _) ?_; refine Mj rfl 3 _ _ rfl ga 0 rfl [.int .i64 0] rfl _ 3 ha3 (by kernel_rfl) (by simp) (by simp [Value.oneCell']) ?_; intro l4 w4 HL4 hr4 ho4
       have I0 := BI.start hg1 hr1 hb1 hg2 hr2 hb2 hga ha3 hb3 HL4 hr4 ho4
       clear hg1 hr1 hb1 hg2 hr2 hb2 hga ha3 hb3 HL4 hr4 ho4
       have q0 := I0.c0)
    | (go_at_call_of 247 (Value.int .u64 (c : Int)); refine (RA I0 c 8 (by omega) (by omega)).mono ?_; rintro e w5 ⟨rfl, I1⟩; clear I0 q0; have q1 := I1.c1)
    | (go_at_call_of 247 (Value.int .u64 (n : Int)); refine (RA I1 n 4 (by omega) (by omega)).mono ?_; rintro e w6 ⟨rfl, I2⟩; clear I1 q1; have q2 := I2.c2)
    | (go_at_call_of 247 (Value.int .u64 (p : Int)); refine (RA I2 p 2 (by omega) (by omega)).mono ?_; rintro e w7 ⟨rfl, I3⟩; clear I2 q2; have q3 := I3.c3)
    | (go_at_call_of 247 (Value.int .u64 (m : Int)); refine (RA I3 m 2 (by omega) (by omega)).mono ?_; rintro e w8 ⟨rfl, I4⟩; clear I3 q3))
  have hx : row w8 ga [.int .i64 16] 3 := I4.a
  have hg2 := I4.h
  rw [show ((0 + 8 + 4 : Nat) + 2 : Nat) = 14 from rfl, show ((0 + 8 : Nat) + 4 : Nat) = 12 from rfl, show (0 + 8 : Nat) = 8 from rfl] at hg2
  have hlen := I4.len
  rw [show ((0 + 8 + 4 : Nat) + 2 : Nat) = 14 from rfl, show ((0 + 8 : Nat) + 4 : Nat) = 12 from rfl, show (0 + 8 : Nat) = 8 from rfl] at hlen
  have hst := znB c n p m b HB.out
  generalize splice (splice (splice (splice (bv (pq 64)) 0 (bv (nZ 8 c))) 8 (bv (nZ 4 n))) 12 (bv (nZ 2 p))) 14 (bv (nZ 2 m)) = l8 at hg2 hlen hst
  have hp1 := I4.p
  have hob := I4.b
  have o2 := I4.o2
  have o1 := I4.o1
  have o3 := I4.o3
  clear I4
  have hx0 := hx.cell 0 (v := .int .i64 16) rfl
  have hsrc : ∀ j v, (bv b)[j]? = some v -> w8.drew.cell? ((⟨g1, 4, none⟩ : Addr).add j) = some v := λj v hv => by
    rw [Addr.add_lit]
    exact hp1.drew.cell (4 + j) (by rw [sF, List.getElem?_append_right (by simp)]; simpa using hv)
  have HS := Lib.hid hsrc
  have HST := Lib.hid hst
  have HL := Lib.hid hlen
  clear hsrc hst hlen
  go_region_held3 (λw' => w'.cell? ⟨ga, 0, none⟩ = some (.int .i64 16)) (first | assumption | go_keep)
    (first
      | (refine l_ rfl _ _ _ _ rfl 5 (by kernel_rfl) (by kernel_rfl) _ _ _ _ _ _ rfl rfl g2 16 l8 296 hg2.drew (bv b) (by rw [oh, HB.out]; rfl) (λ_ => ⟨rfl, _, rfl, HS.out⟩) (by rw [oh, HB.out, HL.out]; omega) (tq b) ?_; intro l9 w9 HL9 hr9 ho9
         have hx9 : w9.cell? ⟨ga, 0, none⟩ = some (.int .i64 16) := (hx.drew.only ho9 (by omega)).cell 0 rfl))
  have h9 : l9 = bv (ww c n p m b) := by rw [HL9.out]; exact HST.out
  have h64 : (bv (ww c n p m b)).length = 64 := by rw [oh, IQ, HB.out]
  have hb9 := ho9.below hob.drew (by omega)
  rw [h9] at hr9
  have HR9 := Lib.hid hr9
  have H64 := Lib.hid h64
  have HB9 := Lib.hid hb9
  clear h9 HL9 hr9 h64 hb9 hx9 hg2 ho9 HST HS hob hp1 hx hx0
  go_wp2_with (first
    | (with_reducible refine wu (.load 296 _) ?_; refine PK rfl 296 _ rfl g2 0 rfl (bv (ww c n p m b)) HR9.out.Vx QW (by rw [H64.out]; exact Nz) ?_)
    | (with_reducible refine wu (.store 296 _ _) ?_; refine Mj rfl 296 _ _ rfl g2 0 rfl (bv (ww c n p m b)) rfl _ 296 HR9.out (by rw [H64.out]; exact Nz) (by rw [H64.out]; omega) (tq _) ?_; intro l10 w10 HL10 hr10 ho10))
  rw [show l10 = bv (ww c n p m b) by rw [HL10.out, NF _ _ rfl]] at hr10
  refine bodyPost_ret (Ue rfl _ _ g2 296 _ rfl hr10 QW (by rw [H64.out]; exact Nz)) rfl ?_
  exact ⟨rfl, ho10.below HB9.out (by omega)⟩
def Af(a b:List UInt8):List UInt8:=a.take 64++b.drop 64
theorem YJ(a b:List UInt8)(ha:a.length=128)(hb:b.length=128):(Af a b).length=128:=by simp[Af];omega
theorem LF(a b:List UInt8)(ha:a.length=128)(hb:b.length=128)(w:World):Calls Tryz.prog 231 #[.agg (bv a).toArray, .agg (bv b).toArray] w λe w'=>e= .returned (.agg (bv (Af a b)).toArray)/\Below w.heap.size w w':=by
 have HA:=Lib.hid ha
 have HB:=Lib.hid hb
 clear ha hb
 go_enter Tryz.func231,Tryz.ntmps231
 go_wp2_with (first
  |(with_reducible refine wu (.box 265 (.tmp 0)) ?_;refine SI rfl 265 _ rfl (bv a) rfl ?_;intro o w1 L p e)
  |(with_reducible refine wu (.box 265 (.tmp 1)) ?_;refine SI rfl 265 _ rfl (bv b) rfl ?_;intro f w2 M q g)
  |(with_reducible refine wu (.alloc 265) ?_;refine MB rfl 265 rfl _ zia ?_;intro h A N B i))
 have C:=(p.new g).new i
 have D:=q.new i
 have O:o<f:=by have:=p.lt;omega
 have P:f<h:=by have:=q.lt;omega
 have E:=(e.trans (g.mono e.size)).trans (i.mono (ag e.size g.size))
 have r:∀ j v,(bv (a.take 64))[j]?=some v->A.drew.cell? ((⟨o,0,none⟩:Addr).add j)=some v:=λj v k=>by
  rw[Addr.add_lit]
  rw[Ee,bF]at k
  split at k
  .exact C.drew.cell (0+j) (by rwa [bg])
  .cases k
 have HS:=Lib.hid r
 have s:(bv (a.take 64)).length=64:=by rw[oh,aH,HA.out];rfl
 have l:=Lib.hid s
 clear r s
 go_region_held3 (λ_=>True) (exact trivial)
  (first
   |(refine l_ rfl _ _ _ _ rfl 5 dA dA _ _ _ _ _ _ rfl rfl f 0 (bv b) 265 D.drew (bv (a.take 64)) (by rw[l.out];rfl) (λ_=>⟨rfl,_,rfl,HS.out⟩) (by rw[l.out,oh,HB.out];omega) (tq _) ?_;intro F Q t m u))
 have w:F=bv (Af a b):=by
  rw[t.out,splice,l.out,Af,wK,Al]
  simp
 rw[w]at m
 have y:(bv (Af a b)).length=128:=by rw[oh,YJ _ _ HA.out HB.out]
 have G:=B.drew.only u eu
 have H:=u.below E.drew eu
 have HR:=Lib.hid m
 have c:=Lib.hid y
 clear w t m y HS
 go_wp2_with (first
  |(with_reducible refine wu (.load 265 _) ?_;refine PK rfl 265 _ rfl f 0 rfl (bv (Af a b)) HR.out.Vx Bt (by rw[c.out];exact Pv) ?_)
  |(with_reducible refine wu (.store 265 _ _) ?_;refine Mj rfl 265 _ _ rfl h 0 rfl (bv (Af a b)) rfl _ 265 G (by rw[c.out];exact Pv) (by rw[c.out,oh,pq,bi];omega) (tq _) ?_;intro I R J z K))
 rw[show I=bv (Af a b) by rw[J.out,NF _ _ (by rw[c.out,oh,pq,bi])]]at z
 refine bodyPost_ret (Ue rfl _ _ h 265 _ rfl z Bt (by rw[c.out];exact Pv)) rfl ?_
 exact⟨rfl,K.below H (by have:=e.size;have:=g.size;omega)⟩
theorem zme:(Tryz.prog.info? 236).map (λi=>i.zero.map (·.cells))=some (some [Value.int .u64 0, .int .i64 0].toArray):=by kernel_rfl
theorem UW{l:List Value}{a b:Value}(h0:l[0]?=some a)(h1:l[1]?=some b):∀ j v,[a,b][j]?=some v->l[0+j]?=some v:=by
 intro j v a;rcases j with _|_|j
 .rw[h0];simpa using a
 .rw[bg,h1];simpa using a
 .simp at a
def Rl:Value:=.tuple #[.agg #[.int .u64 0, .int .i64 0], .slice none 0 0, .int .i64 0, .int .i64 4]
theorem zld {fn:Func} {p q r s:Tmp} {ty:TypeId} (h:fn.results=#[.cell p ty, .tmp q, .tmp r, .tmp s]) {P:Program} (tmps:Array Value) (w:World) (g:Nat) (t:TypeId) (cs:List Value) (hp:tmps.getD p undef= .pointer (some ⟨g,0,none⟩))
  (hg:row w g cs t) (hu:(P.underlying ty).any (·.isRow)=true) (hi:(P.info? ty).map (·.size)=some cs.length):(results fn tmps).run P w= .ok (.tuple #[.agg cs.toArray,tmps.getD q undef,tmps.getD r undef,tmps.getD s undef]) w:=by
 cases hd:P.underlying ty with
 |none=>simp[hd]at hu
 |some d=>
  have hr:d.isRow=true:=by simpa [hd]using hu
  have a:tmps[p]?.getD undef= .pointer (some ⟨g,0,none⟩):=by simpa using hp
  have c:w.rangeAt g 0 cs:=hg.range 0 cs λj v e=>by simpa using e
  simp[results,h,a,asAddr,run_loadVar_mid w g 0 ty cs d c hd hr hi]
theorem Kh(w:World):Calls Tryz.prog 254 #[] w λe w'=>e= .returned (.tuple #[.agg #[.int .u64 0, .int .i64 0], .slice none 0 0, .int .i64 0, .int .i64 4])/\Below w.heap.size w w':=by
 go_enter Tryz.func254,Tryz.ntmps254
 go_wp2_with (first
  |(with_reducible refine wu (.alloc 236) ?_;refine MB rfl 236 rfl _ zme ?_;intro a w2 e f g)
  |(with_reducible refine wu (.store 236 _ _) ?_;refine Mj rfl 236 _ _ rfl a 0 rfl [.int .u64 0, .int .i64 0] rfl _ 236 f dA ig ko ?_;intro h k i c j))
 rw[show h=_ from i.out.trans (NF _ _ rfl)]at c;refine bodyPost_ret (zld rfl _ _ a 236 _ rfl c Iy dA) rfl ?_;exact⟨rfl,j.below g e⟩
def BN(b:List UInt8):List UInt8:=nZ 4 b.length++b++pq (48*qw b.length - (4+b.length))
def wZ(b:List UInt8)(i:Nat):List UInt8:=((BN b).drop (48*i)).take 48
def zF(c n:Nat)(b:List UInt8):List (List UInt8):=(List.range (qw b.length)).map λi=>ww c n i (qw b.length) (wZ b i)
theorem WF(n:Nat):4+n<=48*qw n:=by unfold qw;omega
theorem Zx(b:List UInt8):(BN b).length=48*qw b.length:=by
 have:=WF b.length;simp[BN,ry,pq];omega
theorem QP(b:List UInt8)(i:Nat)(h:i<qw b.length):(wZ b i).length=48:=by
 simp[wZ,Zx];omega
theorem Xa(n:Nat)(x:Nat):(bv (nZ n x)).length=n*1:=by simp[oh,ry]
theorem VE(n:Nat)(hn:n<=1000000)(w:World):CQ 209 [.int .i64 n] w (λv w'=>v= .int .i64 (qw n)/\w=w'):=EE (XU n hn w)
def Ow(b:List UInt8)(i:Nat):List Value:=[.int .i64 i, .agg (bv (wZ b i)).toArray]
def CL(b:List UInt8):List (List Value):=(List.range (qw b.length)).map (Ow b)
theorem zmg(b:List UInt8)(i:Nat)(hi:i<qw b.length):splice (List.replicate 48 (uk 0)) 0 (bv (((nZ 4 b.length++b).drop (48*i)).take 48))=bv (wZ b i):=by
 have g:=Zx b;have h:=WF b.length;have c:BN b=(nZ 4 b.length++b)++pq (48*qw b.length - (4+b.length)):=by simp[BN]
 obtain⟨A,a⟩:∃ A,A=nZ 4 b.length++b:=⟨_,rfl⟩;have j:A.length=4+b.length:=by rw[a];simp[ry]
 rw[wZ,c,<-a];have e:List.replicate 48 (uk 0)=bv (pq 48):=(Nk 48).symm;rw[e,eZ,jw];have f:((A.drop (48*i)).take 48).length=min 48 (A.length - 48*i):=by simp
 rw[splice,dw,aV,bg,oh,f,wK,<-Al]
 congr 2
 simp only[pq,iR,List.take_replicate,aL]
 congr 1
 have:qw b.length<=(b.length+51) / 48:=ax _;omega
theorem Tq(n:Nat):[Value.int .u8 (IntKind.u8.wrap ((n:Int).fdiv (2 ^ 24))), .int .u8 (IntKind.u8.wrap ((n:Int).fdiv (2 ^ 16))), .int .u8 (IntKind.u8.wrap ((n:Int).fdiv (2 ^ 8))), .int .u8 (IntKind.u8.wrap (n:Int))]=bv (nZ 4 n):=by
 simp only[nZ,bv,bK,aZ,dS,aV,bV,uk,gQ _ (by omega:(0:Int)<=2 ^ 24),gQ _ (by omega:(0:Int)<=2 ^ 16),gQ _ (by omega:(0:Int)<=2 ^ 8),IntKind.wrap_u8];simp;omega
theorem zrg (b:List UInt8) (g3 g4 ga oa n c:Nat) (w:World) (hl:b.length=n) (hn:n<=40000) (r3:row w g3 [.int .i64 n] 3) (r4:row w g4 [.slice (some ⟨ga,oa,none⟩) (4+n) c] 23)
   (hs:nC w (some ⟨ga,oa,none⟩) (4+n) 1 (bv (nZ 4 n++b))) (hcap:4+n<=c):JI Tryz.prog 246 [.pointer (some ⟨g3,0,none⟩), .pointer (some ⟨g4,0,none⟩)] (CL b) [g3,g4,ga] w:=by
 intro l J Jx W p D a2 E F;have s:=r3.new p;have G:=r4.new p;have t:=hs.new p;have u:=t.some eu;obtain⟨_,_,H,u⟩:=u;cases H;have a3:=Below.refl W.heap.size W;refine nP (fn:=Tryz.f246) (rs:=[]) (n:=23) Tryz.func246 rfl rfl Tryz.ntmps246 dA rfl<|mR<|mO (mZ s)<|qi rfl (nX dA rfl) (VE n eu W) ?_
 rintro _ _ ⟨rfl,rfl⟩;refine mP<|mQ<|oU ?_;refine qZ (0:Nat) (λk=>[(0, .func (.yield l) #[] #[]),(1, .pointer (some ⟨g3,0,none⟩)),(2, .pointer (some ⟨g4,0,none⟩)),(7, .int .i64 (qw n:Nat)),(8, .int .i64 (k:Nat))])
   (λk w'=>k<=qw n/\J k w'/\(∀ x,x∈[g3,g4,ga]->w'.heap[x]?=W.heap[x]?)/\W.heap.size<=w'.heap.size) (λk=>qw n - k) ⟨rfl,rfl,rfl,rfl,rfl,rfl⟩ ⟨aC _,F,λ_ _=>rfl,ax _⟩ ?_
 rintro k f j ⟨a4,v,q,w⟩;have a:=Below.refl j.heap.size j;have y:row j g4 [.slice (some ⟨ga,oa,none⟩) (4+n) c] 23:=(q g4 ig).trans G;have I:=t.blk (q ga ig) w;have a5:48*qw n<=n+51:=by unfold qw;omega
 refine mR<|mO (pE rfl rfl)<|mQ<|ng<|oP rfl (λK=>?_)<|λK=>?_
 ·
  refine nL<|ny<|ng<|oU<|mR<|mP<|nV<|nz<|nU (List.replicate 48 (uk 0)) dA<|λz a6 L h M=>?_
  have N:=ag a.size L;replace a:=a.acc M;refine mQ<|ng<|qz [z] dA ?_
  intro a7 A O;replace h:=h.new A;replace a:=a.acc A;have P:=a;refine mU 0 (xQ (e:=5) (n:=48) (0) (48) (48) (48) dA rfl rfl rfl rfl ig eu eu eu eu eu)<|nI 1 (λw' Q=>ou rfl (Ld.qN (y.new (P.nu Q (by first |(simp;done)|(simp;omega)|(simp[*];done)|exact pG (Or.inl eu)|exact pG (Or.inr ig)|exact λg i=>ag eu (vI i).1|(intro b o e;cases e;exact pG (Or.inl eu))|(intro b i;have:=(hu.lt b (ah.1 i)).1;omega)|(intro b o e;cases e;intro i;have:=(hu.lt _ (ah.1 i)).1;omega)|assumption))) dA rfl))<|mU 2 (nK)<|mU 3 (yD rfl rfl (nN eu))<|mU 4 (II (e:=5) (48*k) (_) (_) (_) dA rfl ⟨_,_,rfl,eu⟩ rfl rfl ig eu eu eu eu rfl)<|nS 5 dA ?_
  have R:(bv (((nZ 4 n++b).drop (48*k)).take 48)).length=Nat.min (4+n - 48*k) 48:=by rw[oh,aH,aL,aA,ry,hl,Nat.min_comm]
  have r:k<qw b.length:=by rw[hl];omega
  refine qJ rfl rfl<|Qd (e:=5) dA dA rfl rfl z (0) h (bv (((nZ 4 n++b).drop (48*k)).take 48)) R (λ_=>⟨rfl,_,rfl,(I.new a).src (48*k) 48⟩) (by rw[oh,aH,bi];omega) (tq _)<|λS h B=>?_
  have T:=O.aq B;refine⟨T,?_⟩;replace a:=B.below a N;have C:=zmg b k r;rw[hl]at C;rw[C]at h;refine oL dA<|ny<|mR<|mP<|mP<|mO (ou rfl (Ld.qp h dA dA (by rw[oh,QP b k r]))) ?_
  have U:(CL b)[k]?=some (Ow b k):=by
    rw[CL,aW,eQ r];rfl
  have V:=E k (Ow b k) S U (D _ _ _ v a);refine YD (vl:=Ow b k) rfl rfl V ?_;rintro e a8 (⟨rfl,X,Y,a9⟩|⟨rfl,Z⟩)
  · refine⟨_,rfl,?_⟩
    refine mO (sD rfl)<|mQ<|Ni rfl<|nL<|pW<|ny<|nM<|mO (om rfl rfl (Coup.nN eu))<|mP<|oH<|oO ⟨k+1,eu,⟨rfl,rfl,rfl,rfl,by go_num,rfl⟩,eu,X,λx m=>?_,by have:=a.size;omega⟩
    have a0:x<j.heap.size:=by
     have a1:=y.lt;simp only[ak,bu,or_false]at m;rcases m with rfl|rfl|rfl
     .exact ae s.lt w
     .exact a1
     .omega
    rw[Y x m,a.block x a0,q x m]
  · refine⟨_,rfl,?_⟩
    refine mO (sD rfl)<|mQ<|yj rfl<|nQ<|tu<|qb<|Bc<|tu<|nR [] trivial ?_
    exact Or.inr Z
 ·
  refine qP<|qL<|rf<|qX<|zI [] trivial ?_
  obtain rfl:k=qw n:=by omega
  refine Or.inl ?_;rw[CL,aQ,gV,hl];exact v
theorem ztu(b:List UInt8)(p:Option Addr)(n cp:Nat)(w:World)(h:nC w p n 1 (bv b))(hn:n<=40000):
  CQ 216 [.slice p n cp] w (λv w'=>∃ g3 g4 ga,v= .func (.func 246) #[] [.pointer (some ⟨g3,0,none⟩), .pointer (some ⟨g4,0,none⟩)].toArray/\g3<w'.heap.size/\g4<w'.heap.size/\ga<w'.heap.size/\w.heap.size<=g3/\w.heap.size<=g4/\w.heap.size<=ga/\
   Below w.heap.size w w'/\JI Tryz.prog 246 [.pointer (some ⟨g3,0,none⟩), .pointer (some ⟨g4,0,none⟩)] (CL b) [g3,g4,ga] w'):=by
 have y:b.length=n:=by simpa [oh]using h.len
 have a:=Below.refl w.heap.size w;refine nP (fn:=Tryz.f216) (rs:=[.tmp 2]) (n:=22) Tryz.func216 rfl rfl Tryz.ntmps216 dA rfl<|mR<|nV<|mP<|mO (oQ (e:=5) (sz:=1) dA rfl rfl)<|nz<|nU ([Value.int .i64 0]) dA<|λg3 O A c B=>?_
 have C:=ag a.size A;replace a:=a.acc B;refine nH<|oW c<|λP c D=>?_
 replace a:=D.below a C;refine pV<|mO (mZ c)<|mO (wQ rfl rfl eu rfl)<|mO (rz (k:=.u8) dA dA rfl rfl)<|mO (mZ c)<|mO (wQ rfl rfl eu rfl)<|mO (rz (k:=.u8) dA dA rfl rfl)<|mO (mZ c)<|mO (wQ rfl rfl eu rfl)<|mO (rz (k:=.u8) dA dA rfl rfl)<|mO (mZ c)<|mO (rz (k:=.u8) dA dA rfl rfl)<|nz<|IL (e:=5) [(0, .int .u8 (IntKind.u8.wrap ((n:Int).fdiv (2 ^ 24)))),(1, .int .u8 (IntKind.u8.wrap ((n:Int).fdiv (2 ^ 16)))),(2, .int .u8 (IntKind.u8.wrap ((n:Int).fdiv (2 ^ 8)))),(3, .int .u8 (IntKind.u8.wrap (n:Int)))] [.int .u8 0] 1 dA dA rfl eu eu (by intro i E;rcases i with _|_|_|_|i<;>first |(simp[Value.cells];done)|(exfalso;simp only[aD,aX]at E;omega)) kP<|λj F r l s=>?_
 have Q:=ag a.size r;have R:g3<j:=ae c.lt r;replace c:=c.new s;replace a:=a.acc s;replace l:row F j (bv (nZ 4 n)) 5:=by rw[<-Tq n];exact l
 refine mP ?_;have o:=l.owns (base:=j) (m:=4) (sz:=1) (ax _) (Xa 4 n) jo;have S:=a.size;refine nz<|uf (e:=5) (sz:=1) (bytes:=1) (z:=Value.int .u8 0) dA rfl dA rfl iT rfl o rfl (h.below a (ax _)) (tq _) jo eu (λT=>eu)<|λU V t u X=>?_
 replace c:=c.own o u eu;replace a:=a.own o u eu;have G:=t.form' eu;obtain⟨ga,H,I,rfl,Y,Z,J⟩:=G;have f:=t.sl;rw[<-wK]at f;refine nz<|nU ([Value.slice none 0 0]) dA<|λg4 a0 v g p=>?_
 have K:=ag a.size v;have L:g3<g4:=ae c.lt v;replace c:=c.new p;replace f:=f.new p;replace a:=a.acc p;refine nH<|oW g<|λa1 g q=>?_
 replace c:=c.only q (ai L);replace f:=f.only q eu;replace a:=q.below a K;refine pV<|mO (sV)<|mV<|mQ<|nQ<|nR [_] ⟨rfl,trivial⟩<|⟨g3,g4,ga,rfl,c.lt,g.lt,?_,eu,eu,eu,a,?_⟩
 .obtain⟨_,_,M,N⟩:=f.some eu;cases M;exact N
 .exact zrg b g3 g4 ga H n I _ y hn c g f J
theorem LK(c n:Int)(w:World):CQ 215 [.agg #[.int .u64 c, .int .i64 n]] w (λv w'=>v= .bool (vB c n)/\Below w.heap.size w w'):=EE (Jh c n w)
theorem YE(n:Int)(w:World):CQ 150 [.int .i64 n] w (λv w'=>v= .int .i64 (Ki n)/\w=w'):=EE (JL n w)
theorem Xx(c n p m:Nat)(b:List UInt8)(hb:b.length=48)(hc:c<18446744073709551616)(hn:n<4294967296)(hp:p<65536)(hm:m<65536)(w:World):
 CQ 217 [.agg (sF c n p m b).toArray] w (λv w'=>v= .agg (bv (ww c n p m b)).toArray/\Below w.heap.size w w'):=EE (Gt c n p m b hb hc hn hp hm w)
def qC(n:Nat):Nat:=(qw n+1) / 2
def zh(c n:Nat)(b:List UInt8):List UInt8:=(zF c n b).flatten++pq (128*qC b.length - 64*qw b.length)
def Am(c n:Nat)(b:List UInt8)(k:Nat):List UInt8:=((zF c n b).take k).flatten++pq (128*qC b.length - 64*k)
theorem WU(c n:Nat)(b:List UInt8)(k:Nat)(hk:k<qw b.length):(zF c n b)[k]?=some (ww c n k (qw b.length) (wZ b k)):=by
 rw[zF,aW,eQ hk];rfl
theorem VL(c n:Nat)(b:List UInt8):∀ k,k<=qw b.length->((zF c n b).take k).flatten.length=64*k
 |0,_=>rfl
 |k+1,h=>by
  rw[bf,WU c n b k eu,jC,aA,VL c n b k eu];simp[IQ,QP b k eu];omega
theorem zmh(c n:Nat)(b:List UInt8)(k:Nat)(h:k<=qw b.length):(Am c n b k).length=128*qC b.length:=by
 rw[Am,aA,VL c n b k h,pq,bi];unfold qC;omega
theorem ZZ(c n:Nat)(b:List UInt8)(k:Nat)(h:k<qw b.length):splice (bv (Am c n b k)) (64*k) (bv (ww c n k (qw b.length) (wZ b k)))=bv (Am c n b (k+1)):=by
 have a:=VL c n b k eu;have e:(ww c n k (qw b.length) (wZ b k)).length=64:=by rw[IQ,QP b k h]
 have f:pq (128*qC b.length - 64*k)=pq 64++pq (128*qC b.length - 64*(k+1)):=by
  rw[pq,pq,pq,gT]
  congr 1
  unfold qC;omega
 have g:(zF c n b).take (k+1)=(zF c n b).take k++[ww c n k (qw b.length) (wZ b k)]:=by
  rw[bf,WU c n b k h];rfl
 have i:bv (Am c n b k)=bv ((zF c n b).take k).flatten++(bv (pq 64)++bv (pq (128*qC b.length - 64*(k+1)))):=by rw[Am,f];simp only[wK]
 have j:bv (Am c n b (k+1))=bv ((zF c n b).take k).flatten++(bv (ww c n k (qw b.length) (wZ b k))++bv (pq (128*qC b.length - 64*(k+1)))):=by
  rw[Am,g];simp[wK]
 rw[i,j];have l:(bv ((zF c n b).take k).flatten).length=64*k:=by rw[oh,a]
 have:=MK (bv ((zF c n b).take k).flatten) (bv (pq 64)) (bv (ww c n k (qw b.length) (wZ b k))) (bv (pq (128*qC b.length - 64*(k+1)))) (by rw[oh,oh,e];rfl);rw[l]at this;exact this
theorem ztv {ρ:Env} {w:World} {d:Option Nat} {ty:TypeId} {pos:String} {af:Array Edge} {gd:Option (Nat × Bool)} {x0 x1 x2 x3:Operand} {c n p m:Int} {b:List UInt8} (hb:b.length=48)
  (h0:ev ρ x0= .agg #[.int .u64 c, .int .i64 n]) (h1:ev ρ x1= .int .i64 p) (h2:ev ρ x2= .int .i64 m) (h3:ev ρ x3= .agg (bv b).toArray):
  (execOp (ev ρ) ⟨d, .build 298 #[(0,x0),(1,x1),(2,x2),(3,x3)],ty,pos,af,gd⟩).run Tryz.prog w= .ok (.value (.agg (sF c n p m b).toArray)) w:=by
 have a:(bv b).length=48:=by rw[oh,hb]
 have:=UD (P:=Tryz.prog) (ρ:=ρ) (w:=w) (d:=d) (ty:=ty) (pos:=pos) (af:=af) (gd:=gd) (t:=298) (parts:=[(0,x0),(1,x1),(2,x2),(3,x3)]) (k:=52) [(0, .agg #[.int .u64 c, .int .i64 n]),(1, .int .i64 p),(2, .int .i64 m),(3, .agg (bv b).toArray)]
  [(0,2),(2,1),(3,1),(4,48)] dA dA (by simp[h0,h1,h2,h3])
  (by intro i f;rcases i with _|_|_|_|i<;>first |(simp[Value.cells,a];done)|(exfalso;simp only[aD,aX]at f;omega)) (by simp[Value.cells,a])
 have e:(([(0,Value.agg #[Value.int IntKind.u64 c,Value.int IntKind.i64 n]),(1,Value.int IntKind.i64 p),(2,Value.int IntKind.i64 m),(3,Value.agg (bv b).toArray)]:List (Nat × Value)).map λq=>q.2.cells.toList).flatten=sF c n p m b:=by simp[Value.cells,sF]
 rw[e]at this;exact this
theorem YK{c nn:Int}(h:vB c nn=true):1<=c/\c<=4611686018427387904/\0<=nn/\nn<2147483648:=by
 rcases zl8 c nn with⟨HM,_⟩|⟨HM,_⟩|⟨HM,_⟩|⟨HM,_⟩|⟨_,a⟩
 .rw[HM.out]at h;cases h
 .rw[HM.out]at h;cases h
 .rw[HM.out]at h;cases h
 .rw[HM.out]at h;cases h
 .exact a
theorem zri(c nn:Nat)(hm:vB c nn=true)(b:List UInt8)(p:Option Addr)(n cp:Nat)(w:World)(h:nC w p n 1 (bv b))(hn:n<=32768):
  Calls Tryz.prog 156 [.agg #[.int .u64 c, .int .i64 nn], .slice p n cp].toArray w
    (pX λv w'=>∃ g,v= .tuple #[.slice (some ⟨g,0,none⟩) (qC n) (qC n), .int .i64 0]/\w.heap.size<=g/\row w' g (bv (zh c nn b)) 265/\Below w.heap.size w w'):=by
 have f:=Below.refl w.heap.size w;have R:b.length=n:=by simpa [oh]using h.len
 have c9:Ki n=(qC n:Nat):=B_ hn;have h7:=YK hm;have h8:qC n<=1000:=by unfold qC qw;omega
 have h9:qC n=(qw n+1) / 2:=rfl;refine nP (fn:=Tryz.f156) (rs:=[.tmp 4, .tmp 5]) (n:=45) Tryz.func156 rfl rfl Tryz.ntmps156 dA rfl<|mR<|nz<|oV ([.int .u64 c, .int .i64 nn]) rfl<|λa1 w2 e2 q e3=>?_
 have i0:=ag f.size e2;replace f:=f.acc e3;refine nz<|oV ([.slice p n cp]) rfl<|λa2 e4 d0 t d1=>?_
 have i1:=ag f.size d0;have i2:a1<a2:=ae q.lt d0;replace q:=q.new d1;replace f:=f.acc d1;refine mV<|mV<|mQ<|ng<|oU<|mR<|mO (oI 2 q)<|nD (LK c nn e4) ?_
 rintro _ e5 ⟨rfl,a9⟩;replace q:=q.new a9;replace t:=t.new a9;replace f:=f.acc a9;refine mO (sD rfl)<|mV<|mQ<|Gb rfl (hm)<|mR<|mO (mZ t)<|mO (oQ (e:=5) (sz:=1) dA rfl rfl)<|mO (rq rfl rfl)<|mV<|mQ<|pJ rfl (eu)<|nL<|pW<|ny<|mR<|mO (mZ t)<|mO (oQ (e:=5) (sz:=1) dA rfl rfl)<|nD (YE n e5) ?_;rintro _ _ ⟨rfl,rfl⟩;refine nz<|Sr (e:=265) (qC n) (bv (pq 128)) 128 128 (uk 0) dA dA ⟨_,rfl,c9⟩ ⟨_,rfl,c9⟩ (by rw[Nk];intro u T;exact(dX.1 T).2) (by rw[Nk];simp) eu eu<|λA i3 b0 H b1=>?_
 have i4:=ag f.size b0;have i5:a1<A:=ae q.lt b0;have i6:a2<A:=ae t.lt b0;replace q:=q.new b1;replace t:=t.new b1;replace f:=f.acc b1;refine nz<|nU ([Value.slice none 0 0]) dA<|λS i7 a3 O a4=>?_
 have e6:=ag f.size a3;have e7:a1<S:=ae q.lt a3;have e8:a2<S:=ae t.lt a3;have b2:A<S:=ae H.lt a3;replace q:=q.new a4;replace t:=t.new a4;replace H:=H.new a4;replace f:=f.acc a4;refine nH<|oW O<|λe9 O a5=>?_
 replace q:=q.only a5 (ai e7);replace t:=t.only a5 (ai e8);replace H:=H.only a5 (ai b2);replace f:=a5.below f e6;refine mQ<|ng<|mR<|mO (mZ t) ?_
 have i8:=H.lt;have i9:=q.lt;have j0:=t.lt;have j1:=O.lt;refine qi rfl (nX dA rfl) (ztu b p n cp e9 (h.below f (ax _)) eu) ?_;rintro _ j2 ⟨f0,f1,ga,rfl,j3,j4,j5,j6,j7,j8,U,f2⟩;replace q:=q.new U;replace t:=t.new U;replace H:=H.new U;replace O:=O.new U;replace f:=f.acc U;refine mQ<|oU ?_
 have d2:=H;have j9:=H.lt;have k0:=q.lt;have k7:=t.lt;have k8:=O.lt;rw[show List.replicate (qC n*128) (uk 0)=bv (Am c nn b 0) by rw[Am,dw,List.flatten_nil,aV,Nk,R];congr 1;omega]at d2;refine znl (ps:=[24,25]) (xs:=CL b) (ks:=[f0,f1,ga]) (λ_ h=>h) rfl dA f2 (Below.refl _ _) (by intro v I;rw[CL,bB]at I;obtain⟨i,_,rfl⟩:=I;rfl) dA ig
  (by intro x C;simp only[ak,bu,or_false]at C;rcases C with rfl|rfl|rfl<;>assumption)
  (λk W=>k<=qw n/\row W a1 [.int .u64 c, .int .i64 nn] 236/\row W a2 [.slice p n cp] 23/\row W S [.slice (some ⟨A,0,none⟩) (qC n) (qC n)] 190/\row W A (bv (Am c nn b k)) 265/\Below w.heap.size w W)
  (λ_ _=>False) (λk W W' ⟨f3,f4,f5,f6,f7,f8⟩ z=>⟨f3,f4.soft z,f5.soft z,f6.soft z,f7.soft z,f8.soft z f.size⟩) (λ_ _ _ h _=>h.elim) ⟨aC _,q,t,O,d2,f⟩ ?_ ?_ (λ_ _ _ _ h _=>h.elim)
 .intro l k v W1 I b3 k9
  obtain⟨f9,b4,b5,a6,V,b6⟩:=b3;have X:k<qw b.length:=by
    have:=(aO.1 I).1;rw[CL,aQ,gV]at this;exact this
  have l0:k<qw n:=by rw[<-R];exact X
  obtain rfl:v=Ow b k:=by
    rw[CL,aW,eQ X]at I;exact(bX I).symm
  have E:=Below.refl W1.heap.size W1;have K:=QP b k X;have l1:qw n<=700:=by unfold qw;omega
  have l2:(ww c nn k (qw n) (wZ b k)).length=64:=by rw[IQ,K]
  refine mR<|mV<|mQ<|nM<|nz<|nU (List.replicate 48 (uk 0)) dA<|λd3 l3 g0 a g1=>?_
  have g2:=ag E.size g0;replace E:=E.acc g1;refine nH<|nT 48 (bv (wZ b k)) a<|λl4 a g3=>?_
  replace E:=g3.below E g2;refine oH<|⟨rfl,E,λW2 z=>?_⟩
  have a:=a.soft z;have a7:=(b4.new E).soft z;have a8:=(b5.new E).soft z;have y:=(a6.new E).soft z;have r:=(V.new E).soft z;have d4:=(b6.acc E).soft z f.size;have m:=Below.refl W2.heap.size W2;have l5:=z.size;have l6:=E.size;have l7:=a7.lt;have l8:=a8.lt;have l9:=y.lt;have m0:=r.lt;have m1:=b4.lt;have m2:=a6.lt;have m3:=V.lt;have v3:=b5.lt;refine oU<|ng<|qz [] dA ?_
  intro g4 d5 b7;replace a:=a.new d5;replace m:=m.acc d5;have g5:=a;have d6:=m;refine nI 0 (λw' J=>ou rfl (Ld.qp (k:=2) (a7.new (d6.nu J jU)) dA dA rfl))<|mU 1 (nK)<|nI 2 (λw' J=>ou rfl (Ld.qN (a8.new (d6.nu J jU)) dA rfl))<|mU 3 (oQ (e:=5) (sz:=1) dA rfl rfl)<|yM 4 dA rfl (λ_=>nX dA rfl) (λw' J=>VE n eu w')<|nI 5 (λw' J=>ou rfl (Ld.qp (k:=48) (g5.kq J) dA dA (by rw[oh,K])))<|mU 6 (ztv K rfl rfl rfl rfl)<|yP 7 8 dA ?_ ?_
  ·
   refine qf rfl rfl (nX dA rfl) (Xx c nn k (qw n) (wZ b k) K eu eu eu eu g4) ?_;rintro _ g6 ⟨rfl,M⟩;have b8:=b7.add0 M;refine⟨b8,?_⟩;replace a:=a.new M;replace m:=m.acc M;refine nS 8 dA<|qJ rfl rfl<|nU (List.replicate 64 (uk 0)) dA<|λY d7 P s Q=>?_
   have d8:=b8.add0 Q;refine⟨d8,?_⟩;have m4:=ag b8.size P;have b9:=ag m.size P;have c4:d3<Y:=ae a.lt P;replace a:=a.new Q;replace m:=m.acc Q;refine nS 9 dA<|qR rfl rfl<|nT 64 (bv (ww c nn k (qw n) (wZ b k))) s<|λm5 s c5=>?_
   have g7:=d8.aq c5;refine⟨g7,?_⟩;replace a:=a.only c5 (ai c4);replace m:=c5.below m b9;refine oL dA<|ny ?_
   have r:=r.new m;have y:=y.new m;have L:=m;have g8:S≠Y:=by omega
   refine qz [A] dA ?_;intro m6 Z g9;replace a:=a.new Z;replace s:=s.new Z;replace r:=r.new Z;replace y:=y.new Z;replace L:=L.acc Z;have m7:=a;have m8:=s;have m9:=r;have h0:=y;have n0:=L;refine nI 0 (λw' J=>mZ (h0.kq J))<|mU 1 (nK)<|mU 2 (Ns rfl rfl eu eu)<|mU 3 (rE (e:=265) (sz:=128) dA rfl rfl (k / 2) eu eu)<|mU 4 (nK)<|mU 5 (Ux rfl rfl eu eu)<|mU 6 (yD rfl rfl (nN eu))<|mU 7 (xQ (e:=5) (n:=128) (k % 2*64) (128) (128) _ dA rfl ⟨_,_,rfl,eu⟩ rfl rfl ig eu eu eu eu rfl)<|mU 8 (xQ (e:=5) (n:=64) (0) (64) (64) (64) dA rfl rfl rfl rfl ig eu eu eu eu eu)<|nS 9 dA ?_
   have c6:=L;refine qJ rfl rfl<|Qd (e:=5) dA dA rfl rfl A ((0+k / 2*128+k % 2*64)) r (bv (ww c nn k (qw n) (wZ b k))) (by rw[oh,IQ,K];simp[Nat.min_def];omega) (λ_=>⟨rfl,_,rfl,λj v I=>by rw[Addr.add_lit,bg];exact s.cell j I⟩) lC (tq _)<|λc7 r F=>?_
   have h1:=g9.aq F;refine⟨h1,?_⟩;replace a:=a.only F eu;replace s:=s.only F eu;replace y:=y.only F (bA b2);refine oL dA<|pW ?_
   have G:Kp [A] W2 c7:=(Kp.of_below c6).add (N:=[A]) (Kp.rC F) ig;rw[show 0+k / 2*128+k % 2*64=64*k by omega,<-R,ZZ c nn b k X]at r;exact⟨Jy G (by simp;left;omega),λx C=>G.block x (by simp at C;rcases C with rfl|rfl|rfl<;>omega) (by simp at C |-;rcases C with rfl|rfl|rfl<;>omega),eu,a7.kp G jQ,a8.kp G jQ,y,r,d4.nu G jQ⟩
  ·
   refine qJ rfl rfl<|nU (List.replicate 64 (uk 0)) dA<|λY d7 P s Q=>?_
   have d9:=b7.add0 Q;refine⟨d9,?_⟩;have n1:=ag b7.size P;have b9:=ag m.size P;have c4:d3<Y:=ae a.lt P;replace a:=a.new Q;replace m:=m.acc Q;refine nS 7 dA<|qf rfl rfl (nX dA rfl) (Xx c nn k (qw n) (wZ b k) K eu eu eu eu d7) ?_
   rintro _ g6 ⟨rfl,M⟩;have e0:=d9.add0 M;refine⟨e0,?_⟩;replace a:=a.new M;replace s:=s.new M;replace m:=m.acc M;refine nS 9 dA<|qR rfl rfl<|nT 64 (bv (ww c nn k (qw n) (wZ b k))) s<|λn2 s c8=>?_
   have h2:=e0.aq c8;refine⟨h2,?_⟩;replace a:=a.only c8 (ai c4);replace m:=c8.below m b9;refine oL dA<|ny ?_
   have r:=r.new m;have y:=y.new m;have L:=m;have g8:S≠Y:=by omega
   refine qz [A] dA ?_;intro n3 a0 h3;replace a:=a.new a0;replace s:=s.new a0;replace r:=r.new a0;replace y:=y.new a0;replace L:=L.acc a0;have n4:=a;have n5:=s;have n6:=r;have h4:=y;have n7:=L;refine nI 0 (λw' J=>mZ (h4.kq J))<|mU 1 (nK)<|mU 2 (Ns rfl rfl eu eu)<|mU 3 (rE (e:=265) (sz:=128) dA rfl rfl (k / 2) eu eu)<|mU 4 (nK)<|mU 5 (Ux rfl rfl eu eu)<|mU 6 (yD rfl rfl (nN eu))<|mU 7 (xQ (e:=5) (n:=128) (k % 2*64) (128) (128) _ dA rfl ⟨_,_,rfl,eu⟩ rfl rfl ig eu eu eu eu rfl)<|mU 8 (xQ (e:=5) (n:=64) (0) (64) (64) (64) dA rfl rfl rfl rfl ig eu eu eu eu eu)<|nS 9 dA ?_
   have c6:=L;refine qJ rfl rfl<|Qd (e:=5) dA dA rfl rfl A ((0+k / 2*128+k % 2*64)) r (bv (ww c nn k (qw n) (wZ b k))) (by rw[oh,IQ,K];simp[Nat.min_def];omega) (λ_=>⟨rfl,_,rfl,λj v I=>by rw[Addr.add_lit,bg];exact s.cell j I⟩) lC (tq _)<|λc7 r F=>?_
   have h5:=h3.aq F;refine⟨h5,?_⟩;replace a:=a.only F eu;replace s:=s.only F eu;replace y:=y.only F (bA b2);refine oL dA<|pW ?_
   have G:Kp [A] W2 c7:=(Kp.of_below c6).add (N:=[A]) (Kp.rC F) ig;rw[show 0+k / 2*128+k % 2*64=64*k by omega,<-R,ZZ c nn b k X]at r;exact⟨Jy G (by simp;left;omega),λx C=>G.block x (by simp at C;rcases C with rfl|rfl|rfl<;>omega) (by simp at C |-;rcases C with rfl|rfl|rfl<;>omega),eu,a7.kp G jQ,a8.kp G jQ,y,r,d4.nu G jQ⟩
 .intro D W n8 b3 e1
  obtain⟨f9,b4,b5,a6,V,b6⟩:=b3;have h6:(CL b).length=qw b.length:=by rw[CL,aQ,gV]
  rw[h6,show Am c nn b (qw b.length)=zh c nn b by rw[Am,zh,aP (by simp[zF])]]at V;refine pW<|ny<|mR<|mO (mZ a6)<|mV<|mV<|mQ<|nQ<|Oh [_,_] D e1 ⟨rfl,rfl,trivial⟩ ?_
  have z:=uz.put (B:=w.heap.size) (.deferred none) e1 (by have:=f.size;omega) rfl;exact⟨A,rfl,eu,V.soft z,b6.soft z (ax _)⟩
theorem Bu:∀ (L:List (List UInt8)),(∀ l,l∈L->l.length=64)->L.flatten.length=64*L.length
 |[],_=>rfl
 |a::L,h=>by rw[eP,aA,Bu L (λl c=>h l (by simp[c])),h a ig,aD];omega
theorem ZO(c n:Nat)(b:List UInt8):(zF c n b).length=qw b.length:=by simp[zF]
theorem zpU(c n:Nat)(b:List UInt8):∀ l,l∈zF c n b->l.length=64:=by
 intro l f;obtain⟨i,a⟩:=fB.1 f;have e:i<qw b.length:=by
  have:=(aO.1 a).1
  rwa [ZO]at this
 rw[WU c n b i e]at a;cases a;rw[IQ,QP b i e]
end Go.Proofs.YtpaniebomegnbaaGreat
