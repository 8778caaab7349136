import Derived.Test.YtpaniebomegnbaaGreatM0
import Derived.ArgAppend
import Derived.OpenShut
import Derived.Deep.Slices
import Derived.Lib.Builder
import Derived.Lib.OthersKept
import Derived.Laws.Externs
import Derived.Test.YtpaniebomegnbaaGreatProg
import Derived.Maps.OwnSet
import Derived.Maps.Keyed
import Derived.Shelf.SlIterI.Nil
import Derived.Shelf.SortM.Plain
import Derived.Shelf.SortM.SortNone
namespace Go.Proofs.YtpaniebomegnbaaGreat
open Go Go.RowKit Coup
abbrev CQ(f:Nat)(a:List Value)(w:World)(R:Value->World->Prop):Prop:=Calls Tryz.prog f a.toArray w (qb R)
end Go.Proofs.YtpaniebomegnbaaGreat
set_option maxHeartbeats 8000000
set_option maxRecDepth 20000
namespace Coup
open Go Go.RowKit
section
variable {P:Program}{ρ:Env}{w:World}{d:Option Nat}{ty:TypeId}{pos:String}{af:Array Edge}{gd:Option (Nat × Bool)}
theorem BF{t:Nat}(cs:List Value)(hb:P.built t []=some cs.toArray):(execOp (ev ρ) ⟨d, .build t #[],ty,pos,af,gd⟩).run P w= .ok (.value (.agg cs.toArray)) w:=by
 have:=run_build (P:=P) w t #[] cs.toArray kR;simp only[execOp,gz,dZ,Sem.run_bind,this,Result.andThen_ok]
 rfl
theorem SV{t:Nat}{k0 k1:IntKind}{x y:Operand}{a b:Int}(hp:placesOf P t=some [(0,1),(1,1)])(hk:(P.info? t).map (λi=>i.zero.map (·.cells.size))=some (some 2))(hx:ev ρ x= .int k0 a)(hy:ev ρ y= .int k1 b):
  (execOp (ev ρ) ⟨d, .build t #[(0,x),(1,y)],ty,pos,af,gd⟩).run P w= .ok (.value (.agg #[.int k0 a, .int k1 b])) w:=
 VN (parts:=[(0,x),(1,y)]) [(0, .int k0 a),(1, .int k1 b)] [(0,1),(1,1)] hp hk (by simp[hx,hy])
  (by intro i c;rcases i with _|_|i<;>first |rfl|(exfalso;simp only[aD,aY]at c;omega)) rfl
theorem UL{t t':TypeId}{x y:Operand}{a b:Bool}(ht:P.underlying t=some .bool)(hx:ev ρ x= .bool a)(hy:ev ρ y= .bool b):(execOp (ev ρ) ⟨d, .binOp .neq t x y t',ty,pos,af,gd⟩).run P w= .ok (.value (.bool (a != b))) w:=by
 have c:=run_equal_bool (P:=P) w t a b ht;have e:(a != b)=!(a == b):=rfl;simp[execOp,hx,hy,eqGuard,binOp,c,Result.andThen,e]
end
end Coup
namespace Coup
open Go Go.RowKit Go.ChangeShapes Go.WideShapes Go.Deep
theorem byte_of_wf{n:Int}(h:(Lit.int .u8 n).wf=true):∃ b:UInt8,n=(b.toNat:Int):=by
 have a:0<=n/\n<256:=by
  have c:IntKind.u8.min<=n/\n<=IntKind.u8.max:=by simpa [Lit.wf]using h
  have e:IntKind.u8.min=0:=by decide
  have f:IntKind.u8.max=255:=by decide
  omega
 refine⟨UInt8.ofNat n.toNat,?_⟩;rw[eU];omega
theorem zgz:∀ (cs:List Value),(∀ i,i<cs.length->∃ b,cs[i]?=some (vE b))->∃ l,cs=bv l
 |[],_=>⟨[],rfl⟩
 |c::cs,h=>by
  obtain⟨b,hb⟩:=h 0 ig;obtain⟨l,a⟩:=zgz cs λi e=>by
   have:=h (i+1) (by simpa using e);simpa using this
  simp at hb;exact⟨b::l,by rw[hb,a];rfl⟩
section
variable {H:Type}{enc:TypeId × Value->H}{P:Program}{W:World}{base:Nat}{spare:Nat->Bool}{held:Bool}
theorem add_add(a:Addr)(i j:Nat):(a.add i).add j=a.add (i+j):=by
 unfold Addr.add
 by_cases a:i=0
 .subst a;simp
 .by_cases c:j=0
  .subst c;simp[a]
  .have e:i+j≠0:=by omega
   simp[a,c,fM]
end
section
variable {H:Type}{enc:TypeId × Value->H}{P:Program}{W:World}{base:Nat}{spare:Nat->Bool}{held:Bool}
theorem Z_ {t e n:TypeId} {a:Option Addr} {len cap:Nat} {d:DataW H} {p:List MemPlace} {α:Type} (Q:α->List Value->Prop) (ht:P.underlying t=some (.slice e)) (hC:P.cellsOf e=n)
  (hf:∀ fuel cs x,DataW.trod enc P W base spare held fuel e cs=some x->∃ r,Q r cs)
  (h:DataW.Trod enc P W base spare held t (.slice a len cap) d p):(∃ (R:List α) (cs:List Value),R.length=len/\nM W a len n cs/\∀ i r,R[i]?=some r->Q r ((cs.drop (i*n)).take n))/\len<=cap:=by
 obtain⟨fuel,A⟩:=h;rcases open_slice ht A with⟨c,_⟩|⟨o,S,T,m,U,D,Pl,c,hb,p,B,C,V,E⟩
 .simp[Value.cells]at c
  obtain⟨rfl,rfl,rfl⟩:=c;exact⟨⟨[],[],rfl,nM.nil _ _ _,by intro i r h;simp at h⟩,ax _⟩
 .simp[Value.cells]at c
  obtain⟨rfl,rfl,rfl⟩:=c;refine⟨?_,p⟩;have X:len<=m:=by rw[C];split<;>omega
  have key:∀ k,k<=len->∃ (R:List α) (cs:List Value),R.length=k/\cs.length=k*n/\(∀ j,j<k*n->W.cell? (o.add j)=cs[j]?)/\∀ i r,R[i]?=some r->Q r ((cs.drop (i*n)).take n):=by
   intro k
   induction k with
   |zero=>intro _;exact⟨[],[],rfl,ig,by intro j q;omega,by intro i r h;simp at h⟩
   |succ k ih=>
    intro s;obtain⟨R,cs,e,f,g,l⟩:=ih dB;obtain⟨F,t,G⟩:=E k dB;obtain⟨r,hr⟩:=hf _ _ _ G;rw[hC]at t;obtain⟨_,H,I⟩:=World.cells?_some t;refine⟨R++[r],cs++F,by simp[e],by rw[aA,f,H,iJ],λj q=>?_,λi J a=>?_⟩
    .by_cases K:j<k*n
     .rw[bF dB];exact g j K
     .have L:j - k*n<n:=by rw[iJ]at q;omega
      have:=I (j - k*n) L;rw[add_add,show k*n+(j - k*n)=j by omega]at this;rw[bB dB,f];exact this
    .by_cases M:i<k
     .rw[bF dB]at a
      have Y:i*n+n<=k*n:=by rw[<-iJ];exact cz _ M
      rw[dS dB,eX lu];exact l i J a
     .have N:i=k:=by
       have:=(aL.1 a).1;simp at this;omega
      subst N;rw[bB dB,e]at a;simp at a;subst a;rw[dS dB,cK dB,aU,aQ dB];exact hr
  obtain⟨R,cs,e,f,g,l⟩:=key len (ax _);refine⟨R,cs,e,⟨f,ag p B,λO=>?_⟩,l⟩;obtain⟨b,u,y⟩:=o;have z:W.cell? ⟨b,u,y⟩=some (cs[0]'dB):=by
   have:=g 0 O;rw[aG dB]at this;simpa [Addr.add]using this
  have P:y=none:=by simpa using World.cell?_spot z
  subst P;exact⟨b,u,rfl,World.block_lt_of_cell? _ _ z,λk s=>by rw[<-g k s,Addr.add_lit]⟩
end
theorem WN(l:List Int)(i:Nat):(iv l)[i]?=(l[i]?).map (.int .i64):=by simp[iv]
theorem YX{l:List Int}{i:Nat}{x:Int}(h:l[i]?=some x):(iv l)[i]?=some (VB x):=by simp[iv,h]
theorem XQ(l:List Int)(i:Nat)(x:Int):(iv l).set i (VB x)=iv (l.set i x):=by simp[iv,fO]
section
variable {H:Type}{enc:TypeId × Value->H}{P:Program}{W:World}{base:Nat}{spare:Nat->Bool}{held:Bool}
end
end Coup
namespace Coup
open Go Go.RowKit
theorem vb{a b:Bool}(h:a=b):Value.bool a=Value.bool b:=congrArg _ h
theorem vi{k:IntKind}{a b:Int}(h:a=b):Value.int k a=Value.int k b:=congrArg _ h
section
variable {P:Program}{ρ:Env}{w:World}{d:Option Nat}{ty:TypeId}{pos:String}{af:Array Edge}{gd:Option (Nat × Bool)}
def Oe(P:Program)(t:Nat):Bool:=match P.underlying t with|some (.interface _)=>false|some _=>true|none=>false
theorem zo3{t:Nat}{x:Operand}(ht:Oe P t=true):(execOp (ev ρ) ⟨d, .makeInterface t x,ty,pos,af,gd⟩).run P w= .ok (.value (.iface t (ev ρ x))) w:=by
 unfold Oe at ht;cases hu:P.underlying t with
 |none=>simp[hu]at ht
 |some dd=>
  rw[hu]at ht;simp only[execOp,Instr.makeInterface,Sem.run_bind,run_underlying hu,Result.andThen_ok];cases dd<;>first |(simp at ht;done)|rfl
theorem zke{f:FuncId}(hc:vC P f=true)(vl:Array Value):(callFunc f vl).run P w= .ok (.enter f vl) w:=by
 unfold vC at hc;cases hfn:P.funcs[f]? with
 |none=>simp[hfn]at hc
 |some fn=>
  rw[hfn]at hc;simp only[aN,ed]at hc;cases hb:fn.body with
  |none=>simp[hb]at hc
  |some c=>
   have a:¬fn.name= "runtime.NumGoroutine" :=by simpa using hc.1
   simp[callFunc,program,Sem.run,hfn,a,hb,Result.andThen]
theorem zt5{f:FuncId}{x:Operand}{fl vl:List Value}{al:List Operand}{ats:Array Nat}(hc:vC P f=true)(hx:ev ρ x= .func (.func f) fl.toArray #[])(hv:al.map (ev ρ)=vl):
  (execOp (ev ρ) ⟨d, .call ⟨.value x,al.toArray,ats⟩,ty,pos,af,gd⟩).run P w= .ok (.enter f (fl++vl).toArray) w:=by
 have a:al.toArray.map (ev ρ)=vl.toArray:=by rw[<-hv];simp
 have c:=zke (w:=w) hc (fl++vl).toArray;simp[execOp,resolve,Deferred.ofValue,a,hx,invoke,c,Result.andThen]
end
theorem zrq{a:Int}(h:0<=a/\a<18446744073709551616):(BitVec.ofInt 64 a).toNat=a.toNat:=by
 rw[BitVec.toNat_ofInt];have:a % ((2 ^ 64:Nat):Int)=a:=Int.emod_eq_of_lt h.1 (by simpa using h.2);rw[this]
theorem KC{a b:Int}(s:Nat)(hb:b=(s:Int))(hs:s<=64):a.fdiv (2 ^ (min b.toNat IntKind.u64.bits))=a / 2 ^ s:=by
 subst hb;show a.fdiv (2 ^ (min ((s:Int).toNat) 64))=a / 2 ^ s;rw[aW,bS hs,gY _ (Int.le_of_lt (Int.pow_pos iT))]
theorem Yr{a b:Int}(s:Nat)(q:Int)(ha:0<=a/\a<18446744073709551616)(hq:a=q*2 ^ s)(hb:0<=b/\b<2 ^ s)(hs:a+b<18446744073709551616):
  IntKind.u64.wrap ((BitVec.ofInt IntKind.u64.bits a |||BitVec.ofInt IntKind.u64.bits b).toNat:Int)=a+b:=by
 show IntKind.u64.wrap ((BitVec.ofInt 64 a |||BitVec.ofInt 64 b).toNat:Int)=a+b;have g:0<=q:=by
  rcases Int.lt_or_le q 0 with c|c
  .have h:(0:Int)<2 ^ s:=Int.pow_pos iT
   have:=Int.mul_neg_of_neg_of_pos c h;omega
  .exact c
 rw[BitVec.toNat_or,zrq ha,zrq dB];have f:a.toNat=q.toNat<<<s:=by
  rw[Nat.shiftLeft_eq];have e:(q.toNat:Int)=q:=Int.toNat_of_nonneg g;have i:((q.toNat*2 ^ s:Nat):Int)=q*2 ^ s:=by rw[Int.natCast_mul,e,jy];rfl
  omega
 have e:b.toNat<2 ^ s:=by
  have i:((2 ^ s:Nat):Int)=2 ^ s:=by rw[jy];rfl
  omega
 rw[f,<-Nat.shiftLeft_add_eq_or_of_lt e,<-f,wu64 dB];omega
section
variable {P:Program}{ρ:Env}{w:World}{d:Option Nat}{ty:TypeId}{pos:String}{af:Array Edge}{gd:Option (Nat × Bool)}
end
section
variable {P:Program}{ρ:Env}{w:World}{d:Option Nat}{ty:TypeId}{pos:String}{af:Array Edge}{gd:Option (Nat × Bool)}{K:Value->World->Prop}
end
def qU(w:World)(base e sz g o m c:Nat)(xs:List Value):Prop:=og w base e sz (.slice (some ⟨g,o,none⟩) m c) m xs
namespace qU
variable {w w':World}{base e sz g o m c:Nat}{xs:List Value}
theorem lt(h:qU w base e sz g o m c xs):g<w.heap.size:=(og.lt h g rfl).2
theorem NU(h:qU w base e sz g o m c xs):base<=g:=(og.lt h g rfl).1
theorem len(h:qU w base e sz g o m c xs):xs.length=m*sz:=h.1
theorem new(h:qU w base e sz g o m c xs)(hb:VD w w'):qU w' base e sz g o m c xs:=og.new h hb
theorem nD{M:List Nat}(h:qU w base e sz g o m c xs)(k:Kp M w w')(hM:g∉M):qU w' base e sz g o m c xs:=og.nD h k λa c e=>hM (by
 have:g=a:=by simpa [Value.ownBlock]using e
 rw[this];exact c)
theorem only{g':Nat}(h:qU w base e sz g o m c xs)(ho:Only g' w w')(hg:g≠g'):qU w' base e sz g o m c xs:=h.nD (Kp.rJ ho) lH
theorem sl(h:qU w base e sz g o m c xs):nM w (some ⟨g,o,none⟩) m sz xs:=og.sl h
end qU
theorem OG{l vs:List Value}{k:Nat}(h:k+vs.length<=l.length)(i:Nat):(splice l k vs)[i]?=if i<k then l[i]? else if i<k+vs.length then vs[i - k]? else l[i]?:=by
 unfold splice
 by_cases a:i<k
 .rw[if_pos a,bF kJ,bD,if_pos a]
 .rw[if_neg a,bB kJ,aI,bS dB]
  by_cases c:i<k+vs.length
  .rw[if_pos c,bF dB]
  .rw[if_neg c,bB dB,bC]
   congr 1;omega
section
variable {P:Program}{ρ:Env}{w:World}{d:Option Nat}{ty:TypeId}{pos:String}{af:Array Edge}{gd:Option (Nat × Bool)}{Kw:World->Prop}
theorem Jj {t:Nat} {x y:Operand} {g o:Nat} {base e sz m c:Nat} {xs:List Value} (vs:List Value) (j:Nat) (hown:qU w base e sz g o m c xs) (hx:ev ρ x= .pointer (some ⟨g,o+j,none⟩))
  (hy:(ev ρ y).cells=vs.toArray) (hs:vS P t vs.length=true) (hfit:j+vs.length<=xs.length) (h1:∀ v∈vs,v.oneCell'=true)
  (h:∀ w',qU w' base e sz g o m c (splice xs j vs)->Only g w w'->Kw w'):Sk P ρ w ⟨d, .store t x y,ty,pos,af,gd⟩ Kw:=by
 have B:=hown.1;rcases hown.2 with⟨q,_⟩|⟨C,D,E,a,r,hb,s,k,t,F,u⟩
 .cases q
 .cases r
  have y:row w g a.toList e:=by unfold row;simpa using s
  have G:m*sz<=c*sz:=cz _ k;have H:a.toList.length=a.size:=by simp
  refine PD vs hx hy y hs dB h1 λw' hr z=>h w' ⟨?_,Or.inr ⟨g,o,c,(splice a.toList (o+j) vs).toArray,rfl,hb,hr,k,t,?_,?_⟩⟩ z
  .simp only[splice,aA,aI,aM];omega
  .simp only[splice,eQ,aA,aI,aM];omega
  .rw[<-u]
   have A:((a.toList.drop o).take (m*sz)).length=m*sz:=by rw[aI,aM];omega
   refine dI λi=>?_
   rw[bD,bC,OG dB,OG lF,bD,bC]
   by_cases f:i<m*sz
   .rw[if_pos f]
    by_cases l:i<j
    .rw[if_pos dB,if_pos l,if_pos f]
    .rw[if_neg dB,if_neg l]
     by_cases p:i<j+vs.length
     .rw[if_pos dB,if_pos p];congr 1;omega
     .rw[if_neg dB,if_neg p,if_pos f]
   .rw[if_neg f,if_neg dB,if_neg dB,if_neg f]
end
section
variable {P:Program}{ρ:Env}{w:World}{d:Option Nat}{ty:TypeId}{pos:String}{af:Array Edge}{gd:Option (Nat × Bool)}{K:Value->World->Prop}
def m_(P:Program)(t i off:Nat):Bool:=match P.underlying t with|some (.struct fs)=>(match fs[i]? with|some f=>Nat.beq f.offset off && Lf P f.type|none=>false)|_=>false
theorem Zx{t i off:Nat}{x:Operand}{cs:List Value}{v:Value}(ht:m_ P t i off=true)(hx:ev ρ x= .agg cs.toArray)(hv:cs[off]?=some v):(execOp (ev ρ) ⟨d, .field t x i,ty,pos,af,gd⟩).run P w= .ok (.value v) w:=by
 unfold m_ at ht;cases hu:P.underlying t with
 |none=>simp[hu]at ht
 |some dd=>
  rw[hu]at ht;cases dd with
  |struct fs=>
   cases hf:fs[i]? with
   |none=>simp[hf]at ht
   |some f=>
    simp only[hf,aN]at ht;have a:=bX ht.1;have c:=zko ht.2 w;simp[execOp,Instr.field,run_underlying hu,hf,hx,asAgg,part,c,a,hv,Result.andThen]
  |_=>simp at ht
theorem Uv{t e sz:Nat}(ht:P.underlying t=some (.slice e))(hs:vS P e sz=true)(h:∀ g w',w.heap.size<=g->row w' g [] e->VD w w'->K (.slice (some ⟨g,0,none⟩) 0 0) w'):Mk P ρ w ⟨d, .buildSlice t 0 #[],ty,pos,af,gd⟩ K:=by
 obtain⟨c,a,f⟩:=FI hs;refine⟨_,_,?_,h w.heap.size (w.alloc (.cells #[] e)) (ax _) (ML w _ e) (Jh w _)⟩;simp[execOp,Instr.buildSlice,run_underlying ht,Go.sizeOf,typeInfo,a,Instr.fill,newRow,Result.andThen]
 congr 2
 exact Array.eq_empty_of_size_eq_zero ig
end
section
variable {P:Program}{ρ:Env}{w:World}{d:Option Nat}{ty:TypeId}{pos:String}{af:Array Edge}{gd:Option (Nat × Bool)}
theorem zqj{t e sz:Nat}{x hi:Operand}{p:Option Addr}{len cap:Nat}(h:Nat)(ht:Df P t e sz=true)(hx:ev ρ x= .slice p len cap)(hh:∃ k a,ev ρ hi= .int k a/\a=(h:Int))(h2:h<=cap):
  (execOp (ev ρ) ⟨d, .slice t x none (some hi) none,ty,pos,af,gd⟩).run P w= .ok (.value (.slice p h cap)) w:=by
 have hr:=Oj (P:=P) (w:=w) (d:=d) (ty:=ty) (pos:=pos) (af:=af) (gd:=gd) (lo:=none) (hi:=some hi) (mx:=none) 0 h cap ht hx rfl hh rfl ig (aC _) h2 (ax _);rw[hr];have:(if cap=0 then p else p.map (·.add (0*sz)))=p:=by
  split
  .rfl
  .cases p with
   |none=>rfl
   |some a=>simp[Addr.add]
 rw[this,gB,gB]
end
theorem Kp.toB{M:List Nat}{B:Nat}{w w':World}(h:Kp M w w')(hM:∀ g,g∈M->B<=g)(hB:B<=w.heap.size):Below B w w':=⟨h.os,h.tape,h.output,h.size,λk c=>h.block k dB λa=>by have:=hM k a;omega⟩
structure zU(B:Nat)(w w':World):Prop where
 bel:Below B w w'
 size:B<=w'.heap.size
namespace zU
variable {B:Nat}{w0 w w':World}
theorem refl(h:B<=w.heap.size):zU B w w:=⟨Below.refl _ _,h⟩
theorem acc(h:zU B w0 w)(k:VD w w'):zU B w0 w':=⟨h.bel.trans (k.mono h.size),ag h.size k.size⟩
theorem tr(h:zU B w0 w)(k:Below B w w'):zU B w0 w':=⟨h.bel.trans k,ag h.size k.size⟩
theorem TC{g:Nat}(h:zU B w0 w)(ho:Only g w w')(hg:B<=g):zU B w0 w':=⟨ho.below h.bel hg,by rw[ho.size];exact h.size⟩
theorem nD{M:List Nat}(h:zU B w0 w)(k:Kp M w w')(hM:∀ g,g∈M->B<=g):zU B w0 w':=h.tr (k.toB hM h.size)
theorem own{base e sz m:Nat}{v:Value}{xs:List Value}(h:zU B w0 w)(ho:og w base e sz v m xs)(hg:w.grownBy w' v.ownBlock)(hk:B<=base):zU B w0 w':=h.nD (Kp.rU hg) λg a=>ag hk (ho.lt g (ah.1 a)).1
end zU
section
variable {md:Option Nat->Prop}{P:Program}{n:Nat}{Q:Post}{ρ:Env}{w:World}
theorem uK{ops:Array Oper}{rest:List Oper}{d:Option Nat}{op:Op}{ty:TypeId}{pos:String}{af:Array Edge}{j:Nat}{b:Bool}(hy:yl ops ρ j=none)(h:WR md P n ops rest Q (qD ρ d undef) w):
  WR md P n ops (⟨d,op,ty,pos,af,some (j,b)⟩::rest) Q ρ w:=by
 intro c e a i g;simp only[gu,aN]at c;have k:Region.wanted ⟨d,op,ty,pos,af,some (j,b)⟩ (yielded ops a.tmps)=false:=by
  simp only[Region.wanted,g.yl,hy];simp
 unfold wpListIn;rw[if_neg (by simp[k])];exact⟨λf _=>JN e f,h c.2 e _ i (g.put d (wT.lt c.1) undef)⟩
end
section
variable {P:Program}{ρ:Env}{w:World}{d:Option Nat}{ty:TypeId}{pos:String}{af:Array Edge}{gd:Option (Nat × Bool)}{K:Value->World->Prop}
def Ct(P:Program)(t:Nat):Bool:=match P.underlying t with|some (.pointer e)=>(P.info? e).isSome|_=>false
theorem zqk{t:Nat}(h:Ct P t=true):∃ e j,P.underlying t=some (.pointer e)/\P.info? e=some j:=by
 unfold Ct at h
 split at h
 .rename_i e a
  obtain⟨j,c⟩:=iE.1 h;exact⟨e,j,a,c⟩
 .cases h
theorem ZG{t:Nat}(ht:Ct P t=true)(n:Nat)(a:Addr):(Op.equalIn (n+1) t (.pointer (some a)) (.pointer none)).run P w= .ok false w:=by
 obtain⟨e,j,a,c⟩:=zqk ht;simp[Op.equalIn,run_underlying a,Go.sizeOf,typeInfo,c,Result.andThen]
theorem yU{t t':Nat}{x y:Operand}{a:Addr}(ht:Ct P t=true)(hx:ev ρ x= .pointer (some a))(hy:ev ρ y= .pointer none):(execOp (ev ρ) ⟨d, .binOp .eql t x y t',ty,pos,af,gd⟩).run P w= .ok (.value (.bool false)) w:=by
 have:=ZG (w:=w) ht 9999 a;simp[execOp,hx,hy,eqGuard,binOp,Op.equal,Op.maxDepth,this,Result.andThen]
theorem row.shape{g t:Nat}{l:List Value}(h:row w g l t):w.shape? g=some (t,l.length):=by unfold row at h;simp[World.shape?,h]
end
section
variable {P:Program}{ρ:Env}{w:World}{d:Option Nat}{ty:TypeId}{pos:String}{af:Array Edge}{gd:Option (Nat × Bool)}{K:Value->World->Prop}
def PQ(w:World)(g:Nat)(l:List UInt8)(i:Nat):Prop:=w.heap[g]?=some (.stringIter ⟨l.toArray⟩ i)
namespace PQ
variable {w w':World}{g i:Nat}{l:List UInt8}
end PQ
end
section
variable {P:Program}{ρ:Env}{w w':World}{d:Option Nat}{ty:TypeId}{pos:String}{af:Array Edge}{gd:Option (Nat × Bool)}{K:Value->World->Prop}
end
section
variable {P:Program}{ρ:Env}{w:World}{d:Option Nat}{ty:TypeId}{pos:String}{af:Array Edge}{gd:Option (Nat × Bool)}{K:Value->World->Prop}
end
section
variable {P:Program}{ρ:Env}{w:World}{d:Option Nat}{ty:TypeId}{pos:String}{af:Array Edge}{gd:Option (Nat × Bool)}
theorem a_{t e:Nat}(ht:P.underlying t=some (.slice e))(n:Nat)(p:Option Addr)(a b:Nat):(Op.equalIn (n+1) t (.slice p a b) (VC)).run P w= .ok p.isNone w:=by
 cases p<;>simp[Op.equalIn,run_underlying ht,Result.andThen]
theorem Mj{t t' e:Nat}{x y:Operand}{p:Option Addr}{a b:Nat}(ht:P.underlying t=some (.slice e))(hx:ev ρ x= .slice p a b)(hy:ev ρ y=VC):(execOp (ev ρ) ⟨d, .binOp .eql t x y t',ty,pos,af,gd⟩).run P w= .ok (.value (.bool p.isNone)) w:=by
 have:=a_ (w:=w) ht 9999 p a b;simp[execOp,hx,hy,eqGuard,binOp,Op.equal,Op.maxDepth,this,Result.andThen]
theorem zrr{t t' e:Nat}{x y:Operand}{p:Option Addr}{a b:Nat}(ht:P.underlying t=some (.slice e))(hx:ev ρ x= .slice p a b)(hy:ev ρ y=VC):(execOp (ev ρ) ⟨d, .binOp .neq t x y t',ty,pos,af,gd⟩).run P w= .ok (.value (.bool (!p.isNone))) w:=by
 have:=a_ (w:=w) ht 9999 p a b;simp[execOp,hx,hy,eqGuard,binOp,Op.equal,Op.maxDepth,this,Result.andThen]
theorem zi6 {t e n:Nat} {x:Operand} {lo hi mx:Option Operand} {g off:Nat} (l h m k:Nat) (ht:arrayOf P t n e 1=true) (hx:ev ρ x= .pointer (some ⟨g,off,none⟩))
  (hl:ob ρ lo 0 l) (hh:ob ρ hi n h) (hm:ob ρ mx n m) (hmh:mx.isSome=true->hi.isSome=true) (h1:l<=h) (h2:h<=m) (h3:m<=n) (hk:h - l=k):
  (execOp (ev ρ) ⟨d, .slice t x lo hi mx,ty,pos,af,gd⟩).run P w= .ok (.value (.slice (some ⟨g,if m=l then off else off+l,none⟩) k (m - l))) w:=by
 subst hk;rw[Zc l h m ht hx hl hh hm hmh h1 h2 h3]
 split<;>simp
theorem zku {K:Value->World->Prop} {t t' e sz bytes:Nat} {s x:Operand} {k c g0 o0:Nat} {news:List Value} {sp:Option Addr} {z:Value} (ht:P.underlying t=some (.slice e)) (ht':t'=t)
  (hi:(P.info? e).map (λi=>(i.zero,i.size,i.bytes))=some (some z,sz,bytes)) (hzs:z.cells.size=sz) (hsz:0<sz) (hs:ev ρ s= .slice (some ⟨g0,o0,none⟩) 0 0) (hg0:g0<w.heap.size)
  (hx:ev ρ x= .slice sp k c) (hsrc:nM w sp k sz news) (h63:k<=maxLen) (hbytes:k*bytes<=140737488355328)
  (h:∀ g o c' w',nM w' (some ⟨g,o,none⟩) k sz news->(g=g0\/w.heap.size<=g)->g<w'.heap.size->k<=c'->VD w w'->K (.slice (some ⟨g,o,none⟩) k c') w'):Mk P ρ w ⟨d, .call ⟨.builtin .append,#[s,x],#[t,t']⟩,ty,pos,af,gd⟩ K:=by
 subst ht';obtain⟨i,m,q⟩:=df.1 hi;simp only[fZ]at q;obtain⟨t,y,A⟩:=q
 by_cases f:k=0
 .subst f
  obtain rfl:news=[]:=bH (by simpa using hsrc.len);have B:(Builtin.append_ #[t',t'] ty #[.slice (some ⟨g0,o0,none⟩) 0 0, .slice sp 0 c]).run P w= .ok (.slice (some ⟨g0,o0,none⟩) 0 0) w:=by
   cases sp with
   |none=>simp[Builtin.append_,run_underlying ht,Go.sizeOf,typeInfo,m,Builtin.lenOf,Builtin.firstCells,storeCells,Result.andThen]
   |some a=>simp[Builtin.append_,run_underlying ht,Go.sizeOf,typeInfo,m,Builtin.lenOf,Builtin.firstCells,loadCells,loadCellsFrom,storeCells,Result.andThen]
  refine⟨_,w,?_,h g0 o0 0 w ⟨ig,aC _,λh=>dB⟩ (.inl rfl) hg0 (ax _) (Below.refl _ _)⟩;simp[execOp,resolve,invoke,builtin,hs,hx,B,Result.andThen]
 .have f:=iH f
  obtain⟨C,D,rfl,_⟩:=hsrc.some (eT f hsz);obtain⟨G,w',hr,r,l⟩:=run_append_arg_grows (P:=P) (w:=w) t' ty e i z sz bytes ht m t y A hzs hsz ⟨g0,o0,none⟩ 0 0 [] ig (λj u p=>by simp at p) ⟨C,D,none⟩ k c news hsrc.len
   (λj u p=>by rw[Addr.add_lit];exact hsrc.cell j p) dB dB (by rw[aZ];exact hbytes)
  rw[aZ,aU]at r;have s:=Sb r;obtain⟨g,o,c',rfl,hb,E,F⟩:=s.form' f;refine⟨_,w',?_,h g o c' w' s.sl (.inr hb) E F ⟨l.os,l.tape,l.output,l.size,λk f=>l.block k f ig⟩⟩;simp[execOp,resolve,invoke,builtin,hs,hx,hr,Result.andThen]
theorem row.slZ{g t:Nat}{L:List UInt8}(h:row w g (bv L) t)(o k:Nat)(ho:o+k<=L.length)(hm:k<=maxLen):nM w (some ⟨g,if o+k=o then 0 else 0+o,none⟩) k 1 (bv ((L.drop o).take k)):=by
 by_cases a:k=0
 .subst a
  exact⟨by simp[bv],aC _,λh=>dB⟩
 .rw[if_neg dB,aZ]
  exact h.TI o k ho hm
theorem Ay{t i:Nat}{x:Operand}(v:Value)(cs:List Value)(hx:ev ρ x=v)(hb:P.built t [(i,v)]=some cs.toArray):(execOp (ev ρ) ⟨d, .build t #[(i,x)],ty,pos,af,gd⟩).run P w= .ok (.value (.agg cs.toArray)) w:=by
 have:=run_build (P:=P) w t #[(i,v)] cs.toArray kR;simp only[execOp,gz,bi,dZ,hx,Sem.run_bind,this,Result.andThen_ok]
 rfl
theorem AC{t i j:Nat}{x y:Operand}(v u:Value)(cs:List Value)(hx:ev ρ x=v)(hy:ev ρ y=u)(hb:P.built t [(i,v),(j,u)]=some cs.toArray):(execOp (ev ρ) ⟨d, .build t #[(i,x),(j,y)],ty,pos,af,gd⟩).run P w= .ok (.value (.agg cs.toArray)) w:=by
 have:=run_build (P:=P) w t #[(i,v),(j,u)] cs.toArray kR;simp only[execOp,gz,bi,dZ,hx,hy,Sem.run_bind,this,Result.andThen_ok]
 rfl
end
end Coup
namespace Go.Proofs.YtpaniebomegnbaaGreat
open Go Go.RowKit Coup
structure View where
 kind:Nat
 next:Nat
 slots:List (Option (List UInt8))
def u8(n:Nat):UInt8:=UInt8.ofNat n
theorem Ob{n:Nat}(h:n<256):(u8 n).toNat=n:=by unfold u8;rw[eU];omega
def xM(n:Nat):List UInt8:=[u8 (n / 256),u8 (n % 256)]
def Kc(n:Nat):List UInt8:=[u8 (n / 16777216),u8 (n / 65536 % 256),u8 (n / 256 % 256),u8 (n % 256)]
def uR(s:Option (List UInt8)):List UInt8:=s.getD []
def xh:List (Option (List UInt8))->List UInt8
 |[]=>[]
 |s::S=>xh S++uR s
def pU:List (Option (List UInt8))->Nat
 |[]=>0
 |s::S=>(uR s).length+pU S
theorem Ul:∀ S,(xh S).length=pU S
 |[]=>rfl
 |s::S=>by rw[xh,aA,Ul S,pU];omega
theorem Vd:∀ S s,xh (S++[s])=uR s++xh S
 |[],s=>by simp[xh]
 |t::S,s=>by simp[xh,Vd S s]
theorem Ni:∀ S T,pU (S++T)=pU S+pU T
 |[],T=>by simp[pU]
 |s::S,T=>by simp[pU,Ni S T];omega
def Mm(e:Nat):Option (List UInt8)->List UInt8
 |none=>[0,0,0,0]
 |some r=>xM (e - r.length)++xM r.length
theorem zrs(e:Nat)(s:Option (List UInt8)):(Mm e s).length=4:=by cases s<;>rfl
def wF:Nat->List (Option (List UInt8))->List UInt8
 |_,[]=>[]
 |e,s::S=>Mm e s++wF (e - (uR s).length) S
theorem JC:∀ e S,(wF e S).length=4*S.length
 |_,[]=>rfl
 |e,s::S=>by rw[wF,aA,zrs,JC _ S,aD];omega
theorem Yb:∀ e S s,wF e (S++[s])=wF e S++Mm (e - pU S) s
 |e,[],s=>by simp[wF,pU]
 |e,t::S,s=>by
  simp only[bL,wF,Yb _ S s,pU,aH];rw[show e - (uR t).length - pU S=e - ((uR t).length+pU S) by omega]
def rG(V:View):Nat:=12+4*V.slots.length+pU V.slots
def wI(V:View)(e:List UInt8):List UInt8:=[u8 V.kind,0]++xM V.slots.length++e++[0,0]++Kc V.next
def uS(V:View)(e:List UInt8)(S:List (Option (List UInt8))):List UInt8:=wI V e++wF 512 S++List.replicate (500 - 4*S.length - pU S) 0++xh S
def oW(V:View):List UInt8:=uS V (xM (512 - pU V.slots)) V.slots
theorem TE{V:View}{e:List UInt8}{S:List (Option (List UInt8))}(he:e.length=2)(h:12+4*S.length+pU S<=512):(uS V e S).length=512:=by
 simp[uS,wI,xM,Kc,JC,Ul,he];omega
structure Good(V:View):Prop where
 kind:V.kind<=4
 next:V.next<2147483648
 size:rG V<=512
 cell:∀ r,some r∈V.slots->r.length<=400
 last:V.slots.getLast?≠some none
theorem zrt{V:View}{e:List UInt8}(he:e.length=2){S:List (Option (List UInt8))}{i:Nat}(h:i<12):(uS V e S)[i]?=(wI V e)[i]?:=by
 unfold uS;have a:(wI V e).length=12:=by simp[wI,xM,Kc,he]
 rw[aH,aH,bF dB]
theorem Gs(V:View)(e:List UInt8)(he:e.length=2)(S T:List (Option (List UInt8)))(s:Option (List UInt8))(k:Nat)(hk:k<4):
  (uS V e (S++s::T))[12+4*S.length+k]?=(Mm (512 - pU S) s)[k]?:=by
 have a:(wI V e).length=12:=by simp[wI,xM,Kc,he]
 have c:∀ (S:List (Option (List UInt8))) (e:Nat),wF e (S++s::T)=wF e S++(Mm (e - pU S) s++wF (e - pU S - (uR s).length) T):=by
  intro S
  induction S with
  |nil=>intro e;simp[wF,pU]
  |cons t S ih=>
   intro e;simp only[bL,wF,ih,pU,aH];rw[show e - (uR t).length - pU S=e - ((uR t).length+pU S) by omega]
 unfold uS;rw[c,aH,aH,bB dB,a,show 12+4*S.length+k - 12=4*S.length+k by omega,
  aH,bB (by rw[JC];omega),JC,show 4*S.length+k - 4*S.length=k by omega,aH,bF (by rw[zrs];exact hk)]
theorem Ih(V:View)(e:List UInt8)(he:e.length=2)(S T:List (Option (List UInt8)))(r:List UInt8)(hs:12+4*(S++some r::T).length+pU (S++some r::T)<=512):
  ((uS V e (S++some r::T)).drop (512 - pU S - r.length)).take r.length=r:=by
 have c:(wI V e).length=12:=by simp[wI,xM,Kc,he]
 have f:∀ (S:List (Option (List UInt8))),xh (S++some r::T)=xh T++(r++xh S):=by
  intro S
  induction S with
  |nil=>simp[xh,uR]
  |cons t S ih=>simp[xh,ih]
 have a:pU (S++some r::T)=pU S+(r.length+pU T):=by rw[Ni];rfl
 rw[a]at hs;unfold uS;rw[f,a];have g:(wF 512 (S++some r::T)).length=4*(S.length+(T.length+1)):=by rw[JC];simp
 have h:(wI V e++wF 512 (S++some r::T)++List.replicate (500 - 4*(S++some r::T).length - (pU S+(r.length+pU T))) 0++xh T).length=512 - pU S - r.length:=by
  rw[aA,aA,aA,c,g,bz,Ul];simp at hs |-;omega
 rw[<-aH (bs:=xh T),fE h,dY]
theorem zql{α:Type}(A B C D:List α)(h:B.length=D.length):(A++B++C).take A.length++D++(A++B++C).drop (A.length+D.length)=A++D++C:=by
 have a:(A++B++C).take A.length=A:=by rw[aH,dY]
 have c:(A++B++C).drop (A.length+D.length)=C:=by rw[<-h,<-aA,dK]
 rw[a,c]
theorem Wv(A Z:List UInt8)(x0 x1 x2 x3 a b c d:UInt8)(n:Nat)(h:n=A.length):
  ((((A++x0::x1::x2::x3::Z).set n a).set (n+1) b).set (n+2) c).set (n+3) d=A++a::b::c::d::Z:=by
 subst h;rw[dN _ _ dB,dN _ _ dB,dN _ _ dB,dN _ _ dB];rw[bO,show A.length+1 - A.length=1 by omega,show A.length+2 - A.length=2 by omega,show A.length+3 - A.length=3 by omega]
 rfl
theorem Pm(n:Nat)(h:4<=n):List.replicate n (0:UInt8)=0::0::0::0::List.replicate (n - 4) 0:=by
 obtain⟨m,rfl⟩:∃ m,n=m+4:=⟨n - 4,dB⟩
 rfl
theorem Xz{V:View}{e:List UInt8}(he:e.length=2):(wI V e).length=12:=by simp[wI,xM,Kc,he]
theorem zqm(V:View)(e:List UInt8)(S:List (Option (List UInt8)))(h:12+4*(S.length+1)+pU S<=512):uS V e (S++[none])=uS V e S:=by
 unfold uS;rw[Yb,Vd,Ni,aA];show wI V e++(wF 512 S++[0,0,0,0])++List.replicate (500 - 4*(S.length+1) - (pU S+(0+0))) 0++([]++xh S)=_;rw[aU,Pm (500 - 4*S.length - pU S) dB,show 500 - 4*S.length - pU S - 4=500 - 4*(S.length+1) - (pU S+(0+0)) by omega];simp only[aH,bL,aU]
def yG(V:View)(e:List UInt8)(S:List (Option (List UInt8)))(r:List UInt8):List UInt8:=
 wI V e++wF 512 S++List.replicate (500 - 4*S.length - pU S - r.length) 0++(r++xh S)
theorem zru(V:View)(e:List UInt8)(he:e.length=2)(S:List (Option (List UInt8)))(r:List UInt8)(h:12+4*S.length+pU S+r.length<=512):
  (uS V e S).take (512 - pU S - r.length)++(r++(uS V e S).drop (512 - pU S - r.length+r.length))=yG V e S r:=by
 have c:uS V e S=(wI V e++wF 512 S++List.replicate (500 - 4*S.length - pU S - r.length) 0)++List.replicate r.length 0++xh S:=by
  unfold uS;rw[show 500 - 4*S.length - pU S=(500 - 4*S.length - pU S - r.length)+r.length by omega,<-gZ,Nat.add_sub_cancel];simp only[aH]
 have f:(wI V e++wF 512 S++List.replicate (500 - 4*S.length - pU S - r.length) (0:UInt8)).length=512 - pU S - r.length:=by
  rw[aA,aA,Xz he,JC,bz];omega
 have a:=zql (wI V e++wF 512 S++List.replicate (500 - 4*S.length - pU S - r.length) 0) (List.replicate r.length 0) (xh S) r (by rw[bz]);rw[f,<-c]at a;rw[<-aH,a,yG];simp only[aH]
theorem IE(V:View)(e:List UInt8)(he:e.length=2)(S:List (Option (List UInt8)))(r:List UInt8)(h:12+4*S.length+pU S+r.length<=512):(yG V e S r).length=512:=by
 rw[yG,aA,aA,aA,aA,Xz he,JC,bz,Ul];omega
theorem zqn(V:View)(e:List UInt8)(he:e.length=2)(S:List (Option (List UInt8)))(r:List UInt8)(h:12+4*(S.length+1)+pU S+r.length<=512)(a b c d:UInt8)(ha:[a,b,c,d]=Mm (512 - pU S) (some r)):
  ((((yG V e S r).set (12+4*S.length) a).set (12+4*S.length+1) b).set (12+4*S.length+2) c).set (12+4*S.length+3) d=uS V e (S++[some r]):=by
 have f:yG V e S r=(wI V e++wF 512 S)++0::0::0::0::(List.replicate (500 - 4*S.length - pU S - r.length - 4) 0++(r++xh S)):=by
  rw[yG,Pm _ dB];simp only[aH,bL]
 rw[f,Wv _ _ _ _ _ _ _ _ _ _ _ (by rw[aA,Xz he,JC])];unfold uS;rw[Yb,Vd,Ni,aA,<-ha];show _=wI V e++(wF 512 S++[a,b,c,d])++List.replicate (500 - 4*(S.length+1) - (pU S+(r.length+0))) 0++(r++xh S);rw[show 500 - 4*S.length - pU S - r.length - 4=500 - 4*(S.length+1) - (pU S+(r.length+0)) by omega];simp only[aH,bL,aU]
theorem zrv(V:View)(S:List (Option (List UInt8)))(a b:UInt8):((uS V [0,0] S).set 4 a).set 5 b=uS V [a,b] S:=by
 simp only[uS,wI,xM,Kc,aH,bL,aU]
 rfl
theorem zrw(L r:List UInt8)(k:Nat):splice (bv L) k (bv r)=bv (L.take k++(r++L.drop (k+r.length))):=by
 simp only[splice,bv,bJ,fA,fB,aP,aH]
structure rF(w:World)(lo:Nat)(o:List Nat)(vs:List Value)(S:List (Option (List UInt8))):Prop where
 len:vs.length=S.length
 no:∀ (i:Nat),S[i]?=some none->vs[i]?=some (VC)
 yes:∀ (i:Nat) r,S[i]?=some (some r)->∃ b off c,vs[i]?=some (.slice (some ⟨b,off,none⟩) r.length c)/\nM w (some ⟨b,off,none⟩) r.length 1 (bv r)/\b<w.heap.size/\b∉o/\lo<=b/\r.length<=c
namespace rF
variable {w w':World}{lo:Nat}{o:List Nat}{vs:List Value}{S:List (Option (List UInt8))}
theorem nil(w:World)(lo:Nat)(o:List Nat):rF w lo o [] []:=⟨rfl,λi a=>by simp at a,λi r a=>by simp at a⟩
theorem kp{M:List Nat}(h:rF w lo o vs S)(k:Kp M w w')(hM:∀ g,g∈M->w.heap.size<=g\/g∈o\/g<lo):rF w' lo o vs S:=⟨h.len,h.no,λi r hr=>by
 obtain⟨b,f,c,g,j,l,a,m⟩:=h.yes i r hr;refine⟨b,f,c,g,j.nD k λp q e o=>?_,ae l k.size,a,m⟩;cases e;rcases hM b o with e|e|e
 .omega
 .exact a e
 .omega⟩
theorem new(h:rF w lo o vs S)(hb:VD w w'):rF w' lo o vs S:=h.kp (M:=[]) (Kp.of_below hb) ig
theorem yN{o':List Nat}(h:rF w lo o vs S)(ho:∀ g,g∈o'->g∈o\/w.heap.size<=g\/g<lo):rF w lo o' vs S:=⟨h.len,h.no,λi r hr=>by
 obtain⟨b,a,c,f,g,j,k,l⟩:=h.yes i r hr;refine⟨b,a,c,f,g,j,λm=>?_,l⟩;rcases ho b m with e|e|e
 .exact k e
 .omega
 .omega⟩
theorem only{g:Nat}(h:rF w lo o vs S)(ho:Only g w w')(hg:g<lo\/g∈o):rF w' lo o vs S:=h.kp (Kp.rJ ho) (λa c=>by
 have:a=g:=by simpa using c
 subst this;exact hg.elim (λe=>Or.inr (Or.inr e)) λe=>Or.inr (Or.inl e))
theorem nD{M:List Nat}(h:rF w lo o vs S)(k:Kp M w w')(hM:∀ g,g∈M->g<lo\/g∈o):rF w' lo o vs S:=h.kp k λg a=>(hM g a).elim (λe=>Or.inr (Or.inr e)) λe=>Or.inr (Or.inl e)
end rF
theorem orN{a b:Int}(s:Nat)(q:Int)(ha:0<=a)(hq:a=q*2 ^ s)(hb:0<=b/\b<2 ^ s)(hs:a+b<9223372036854775808):((BitVec.ofInt 64 a |||BitVec.ofInt 64 b).toNat:Int)=a+b:=by
 have c:=Yr (a:=a) (b:=b) s q ⟨ha,dB⟩ hq hb dB;have f:=(BitVec.ofInt 64 a |||BitVec.ofInt 64 b).isLt;have e:IntKind.u64.wrap ((BitVec.ofInt 64 a |||BitVec.ofInt 64 b).toNat:Int)=((BitVec.ofInt 64 a |||BitVec.ofInt 64 b).toNat:Int):=wu64 dB;exact e.symm.trans c
theorem RB{a b:Int}(s:Nat)(q:Int)(ha:0<=a)(hq:a=q*2 ^ s)(hb:0<=b/\b<2 ^ s)(hs:a+b<9223372036854775808):IntKind.i64.wrap ((BitVec.ofInt IntKind.i64.bits a |||BitVec.ofInt IntKind.i64.bits b).toNat:Int)=a+b:=by
 have c:=orN s q ha hq hb hs;show IntKind.i64.wrap ((BitVec.ofInt 64 a |||BitVec.ofInt 64 b).toNat:Int)=a+b;rw[c,nV dB]
theorem Rk(p:Option Addr)(n c:Nat)(a b:UInt8)(w:World)(hn:n=2)(h:nM w p n 1 (bv [a,b])):CQ 218 [.slice p n c] w (λv w'=>v=VB (256*(a.toNat:Int)+b.toNat)/\VD w w'):=by
 have f:=Below.refl w.heap.size w;subst hn;have m:=a.toNat_lt;have hb:=b.toNat_lt;obtain⟨g,o,rfl,p⟩:=h.some dB;refine nZ (rs:=[.tmp 2]) (n:=13) Tryz.func218 rfl rfl Tryz.ntmps218 dA rfl<|ny<|nA<|nk<|nI<|qH [] dA ?_
 intro q l r;replace f:=f.acc l;have j:=f;refine nu 0 (nS)<|nu 1 (uX (e:=5) dA rfl rfl (0) dB dB)<|nR 2 (λw' i=>oK rfl (Ld.sl1 (h.below (j.nD i ku) (ax _)) dA (show(bv [a,b])[0]?=some (.int .u8 (a.toNat:Int))from rfl)))<|nu 3 (rP (k:=.i64) dA dA rfl (Coup.nV dB))<|nu 4 (Qw rfl rfl dB (show IntKind.i64.wrap ((a.toNat:Int)*2 ^ 8)=256*(a.toNat:Int) by rw[nV dB];omega))<|nu 5 (nS)<|nu 6 (uX (e:=5) dA rfl rfl (1) dB dB)<|nR 7 (λw' i=>oK rfl (Ld.sl1 (h.below (j.nD i ku) (ax _)) dA (show(bv [a,b])[1]?=some (.int .u8 (b.toNat:Int))from rfl)))<|nu 8 (rP (k:=.i64) dA dA rfl (Coup.nV dB))<|nu 9 (OT rfl rfl (RB 8 a.toNat dB dB dB dB))<|nu 10 (rO)<|pq dA<|nJ<|nY<|ou [_] ⟨rfl,trivial⟩ ?_
 exact⟨rfl,f⟩
theorem QK{S:List (Option (List UInt8))}{i:Nat}{s:Option (List UInt8)}(h:S[i]?=some s):pU (S.take (i+1))=pU (S.take i)+(uR s).length:=by
 rw[bf,h,Ni];simp[pU]
theorem Ll(S:List (Option (List UInt8)))(i:Nat):pU (S.take i)<=pU S:=by
 have:=Ni (S.take i) (S.drop i);rw[bM]at this;omega
theorem rF.val{w:World}{lo:Nat}{o:List Nat}{vs:List Value}{S:List (Option (List UInt8))}(h:rF w lo o vs S){i:Nat}{s:Option (List UInt8)}(hs:S[i]?=some s):
  ∃ p c,vs[i]?=some (.slice p (uR s).length c)/\nM w p (uR s).length 1 (bv (uR s))/\(s=none↔p=none)/\(uR s).length<=c/\∀ b o,p=some ⟨b,o,none⟩->lo<=b:=by
 cases s with
 |none=>exact⟨none,0,h.no i hs,nM.nil _ _ _,ig,ax _,λb o e=>by cases e⟩
 |some r=>
  obtain⟨b,k,c,a,f,_,_,g,j⟩:=h.yes i r hs;exact⟨_,c,a,f,ig,j,λb o e=>by cases e;exact g⟩
theorem BS(V:View)(p:Option Addr)(c:Nat)(vs:List Value)(w:World)(lo:Nat)(o:List Nat)(h:nM w p V.slots.length 1 vs)(hs:rF w lo o vs V.slots)(hb:rG V<=1000000):
   CQ 219 [.agg #[VB (V.kind:Int),VB (V.next:Int), .slice p V.slots.length c]] w (λv w'=>v=VB (rG V:Int)/\VD w w'):=by
 have a:=Below.refl w.heap.size w;have A:maxLen=9223372036854775807:=by decide
 obtain⟨S,l⟩:=aa (V.slots);have r:rG V=12+4*S.length+pU S:=by rw[rG,l]
 rw[r]at hb |-;rw[l]at h hs |-;refine nZ (rs:=[.tmp 2]) (n:=24) Tryz.func219 rfl rfl Tryz.ntmps219 dA rfl<|ny<|nK<|qi ([_,_,_]) rfl<|λB w1 C m t=>?_
 replace a:=a.acc t;refine oG<|mZ (nG 2)<|mZ (nH m)<|mZ (oV (e:=23) (sz:=1) dA rfl rfl)<|mZ (yR rfl rfl (Coup.nV dB))<|mZ (oJ rfl rfl (Coup.nV dB))<|nA<|nk<|nI<|ny<|mZ (nG 2)<|mZ (nH m)<|mZ (oV (e:=23) (sz:=1) dA rfl rfl)<|ng<|nk<|pE ?_
 refine qY (α:=Nat) 0 (λk=>[(14,VB (k:Nat)),(13,VB (S.length:Nat)),(12, .slice p S.length c),(3,VB ((12+4*S.length+pU (S.take k):Nat):Int))]) (λk w'=>k<=S.length/\VD w w') (λk=>S.length - k)
   ⟨rfl,rfl,rfl,vi (by simp[pU]),rfl⟩ ⟨aC _,a⟩ ?_
 rintro i f D ⟨E,a⟩;have F:=Ll S i;refine ny<|mZ (pI rfl rfl)<|nk<|nI<|oZ rfl (λu=>?_)<|λu=>?_
 ·
  refine lN ?_;have j:∃ s,S[i]?=some s:=⟨_,aG dB⟩;obtain⟨s,o⟩:=j;have y:=hs.val o;obtain⟨q,G,z,H,I,-⟩:=y;have j:=h.some dB;obtain⟨g,J,rfl,K⟩:=j;have L:=QK o;have M:=Ll S (i+1);refine nO<|mZ (uX (e:=23) dA rfl rfl i dB dB)<|mZ (oK rfl (Ld.sl1 (h.below a (ax _)) dA z))<|nA<|nk<|nO<|ng<|ng<|mZ (oV (e:=5) (sz:=1) dA rfl rfl)<|mZ (oJ rfl rfl (Coup.nV dB))<|nA<|oI<|pO<|nJ<|nO<|mZ (oJ rfl rfl (Coup.nV dB))<|ng<|oI<|oM ⟨i+1,dB,⟨rfl,rfl,rfl,vi dB,rfl⟩,dB,a⟩
 ·
  obtain rfl:i=S.length:=by omega
  rw[aQ (ax _)];refine qL<|qK<|rq<|qO<|nJ<|ny<|ng<|nA<|nk<|nY<|ou [_] ⟨rfl,trivial⟩ ?_
  exact⟨rfl,a⟩
theorem OW(q:Option Addr)(n c:Nat)(w:World):CQ 239 [.slice q n c] w (λv w'=>v= .bool q.isNone/\w=w'):=by
 refine nZ (rs:=[.tmp 2]) (n:=5) Tryz.func239 rfl rfl Tryz.ntmps239 dA rfl<|ny<|oG<|ng<|mZ (Mj (e:=5) dA rfl rfl)<|nA<|nk<|nY<|ou [_] ⟨rfl,trivial⟩ ?_
 exact⟨rfl,rfl⟩
def Az(S:List (Option (List UInt8)))(i:Int):Bool:=decide (0<=i) && (S.getD i.toNat none).isSome
theorem PL(V:View)(p:Option Addr)(c:Nat)(vs:List Value)(k:Int)(w:World)(lo:Nat)(o:List Nat)(h:nM w p V.slots.length 1 vs)(hs:rF w lo o vs V.slots):
   CQ 178 [.agg #[VB (V.kind:Int),VB (V.next:Int), .slice p V.slots.length c],VB k] w (λv w'=>v= .bool (Az V.slots k)/\VD w w'):=by
 have a:=Below.refl w.heap.size w;obtain⟨S,l⟩:=aa (V.slots);rw[l]at h hs |-;refine nZ (rs:=[.tmp 4]) (n:=22) Tryz.func178 rfl rfl Tryz.ntmps178 dA rfl<|ny<|nK<|qi ([_,_,_]) rfl<|λu w2 y f m=>?_
 replace a:=a.acc m;refine oG<|ng<|mZ (tV rfl rfl)<|ng<|sZ 7 rfl (λo=>?_)<|λo=>?_
 ·
  refine nE<|ng<|nE<|mZ (nG 2)<|nE<|mZ (nH f)<|nE<|mZ (oV (e:=23) (sz:=1) dA rfl rfl)<|nE<|mZ (pI rfl rfl)<|mZ (pK rfl)<|ng<|sZ 14 rfl (λp=>?_)<|λp=>?_
  ·
   refine nE<|mZ (nG 2)<|nE<|mZ (nH f)<|nE<|ng<|nE ?_
   have c:∃ i:Nat,k=i:=⟨k.toNat,dB⟩;obtain⟨i,rfl⟩:=c;have c:∃ s,S[i]?=some s:=⟨_,aG dB⟩;obtain⟨s,j⟩:=c;have r:=hs.val j;obtain⟨q,z,t,A,B,-⟩:=r;have c:=h.some dB;obtain⟨g,C,rfl,D⟩:=c;refine mZ (uX (e:=23) dA rfl rfl (i) dB dB)<|nE<|mZ (oK rfl (Ld.sl1 (h.below a (ax _)) dA t))<|nE<|mZ (zrr (e:=5) dA rfl rfl)<|mZ (pK rfl)<|nA<|nk<|nY<|ou [_] ⟨rfl,trivial⟩<|⟨vb ?_,a⟩
   rw[Az,aW,bI,j,decide_eq_true dB];cases s<;>cases q<;>simp_all
  ·
   refine nN<|nN<|nN<|nN<|nN<|nN<|mZ (oP rfl)<|nA<|nk<|nY<|ou [_] ⟨rfl,trivial⟩<|⟨vb ?_,a⟩
   rw[Az,bI,bK dB];simp
 ·
  refine nN<|nN<|nN<|nN<|nN<|mZ (oP rfl)<|ng<|nN<|nN<|nN<|nN<|nN<|nN<|mZ (oP rfl)<|nA<|nk<|nY<|ou [_] ⟨rfl,trivial⟩<|⟨vb ?_,a⟩
  rw[Az,decide_eq_false dB];rfl
def xw(S:List (Option (List UInt8))):Nat:=S.findIdx λs=>s.isNone
theorem zt7{S:List (Option (List UInt8))}{i:Nat}(h:S[i]?=some none)(hf:i<=xw S):xw S=i:=by
 obtain⟨e,c⟩:=aL.1 h;rcases Nat.lt_or_eq_of_le hf with a|a
 .have:=jA a
  rw[c]at this;simp at this
 .exact a.symm
theorem zt8{S:List (Option (List UInt8))}{i:Nat}{r:List UInt8}(h:S[i]?=some (some r))(hf:i<=xw S):i+1<=xw S:=by
 obtain⟨g,i⟩:=aL.1 h;rcases Nat.lt_or_eq_of_le hf with a|a
 .exact a
 .exfalso
  have c:xw S<S.length:=by omega
  have:=iK (p:=λs:Option (List UInt8)=>s.isNone) (xs:=S) (w:=c);have e:S[List.findIdx (λs:Option (List UInt8)=>s.isNone) S]'c=some r:=by
   have f:S[xw S]?=some (some r):=by rw[<-a];exact h
   exact(aL.1 f).2
  rw[e]at this;simp at this
theorem GD(S:List (Option (List UInt8)))(p:Option Addr)(c:Nat)(vs:List Value)(w:World)(lo:Nat)(o:List Nat)(h:nM w p S.length 1 vs)(hs:rF w lo o vs S):
   CQ 238 [.slice p S.length c, .func (.func 239) #[] #[]] w (λv w'=>v=VB (if xw S<S.length then(xw S:Int)else -1)/\VD w w'):=by
 have j:=Below.refl w.heap.size w;have G:maxLen=9223372036854775807:=by decide
 have H:=h.max;refine nZ (rs:=[.tmp 4]) (n:=19) Tryz.func238 rfl rfl Tryz.ntmps238 dA rfl<|ny<|nA<|nk<|nI<|ny<|ng<|mZ (oV (e:=23) (sz:=1) dA rfl rfl)<|ng<|nk<|pE ?_
 refine qY (α:=Nat) 0 (λk=>[(8,VB (k:Nat)),(7,VB (S.length:Nat)),(0, .slice p S.length c),(1, .func (.func 239) #[] #[])]) (λk w'=>k<=S.length/\k<=xw S/\VD w w') (λk=>S.length - k)
   VF ⟨aC _,aC _,j⟩ ?_
 rintro i f y ⟨I,t,j⟩;refine ny<|mZ (pI rfl rfl)<|nk<|nI<|oZ rfl (λz=>?_)<|λz=>?_
 ·
  refine lQ ?_;have o:∃ s,S[i]?=some s:=⟨_,aG dB⟩;obtain⟨s,l⟩:=o;have A:=hs.val l;obtain⟨q,B,C,J,u,-⟩:=A;have o:=h.some dB;obtain⟨g,K,rfl,L⟩:=o;refine nO<|ng<|ng<|ng<|mZ (uX (e:=23) dA rfl rfl i dB dB)<|mZ (oK rfl (Ld.sl1 (h.below j (ax _)) dA C))<|qA rfl (zt5 dA rfl rfl) (OW q (uR s).length B y) ?_
  rintro _ _ ⟨rfl,rfl⟩;refine nk<|xy rfl (λm=>?_)<|λm=>?_
  ·
   refine lS ?_;have D:s=none:=by rw[u];cases q with|none=>rfl|some a=>simp at m
   rw[D]at l;have E:=zt7 l t;refine⟨?_,j⟩;rw[if_pos dB,E];rfl
  ·
   obtain⟨r,hr⟩:∃ r,s=some r:=by
    cases s with
    |none=>rw[u.1 rfl]at m;simp at m
    |some r=>exact⟨r,rfl⟩
   rw[hr]at l;have F:=zt8 l t;refine nU<|pO<|nJ<|nO<|mZ (oJ rfl rfl (Coup.nV dB))<|ng<|oI<|oM ⟨i+1,dB,VF,dB,F,j⟩
 ·
  obtain rfl:i=S.length:=by omega
  refine qL<|qK<|rq<|qO<|nJ<|ny<|nA<|nk<|nY<|ou [_] ⟨rfl,trivial⟩<|⟨?_,j⟩
  rw[if_neg dB];rfl
theorem Kq(V:View)(p:Option Addr)(c:Nat)(vs:List Value)(w:World)(lo:Nat)(o:List Nat)(h:nM w p V.slots.length 1 vs)(hs:rF w lo o vs V.slots):
   CQ 195 [.agg #[VB (V.kind:Int),VB (V.next:Int), .slice p V.slots.length c]] w (λv w'=>v=VB (xw V.slots:Nat)/\VD w w'):=by
 have a:=Below.refl w.heap.size w;have l:xw V.slots<=V.slots.length:=List.findIdx_le_length;obtain⟨S,m⟩:=aa (V.slots);rw[m]at h hs l |-;obtain⟨F,i⟩:∃ F:Int,(if xw S<S.length then(xw S:Int)else -1)=F:=⟨_,rfl⟩;have j:=GD S p c vs;rw[i]at j;refine nZ (rs:=[.tmp 2]) (n:=13) Tryz.func195 rfl rfl Tryz.ntmps195 dA rfl<|ny<|nK<|qi ([_,_,_]) rfl<|λs w1 t g q=>?_
 replace a:=a.acc q;refine nA<|nk<|nI<|ny<|mZ (nG 2)<|mZ (nH g)<|nP (j w1 lo o (h.below a (ax _)) (hs.new a)) ?_
 rintro _ u ⟨rfl,k⟩;replace g:=g.new k;replace a:=a.acc k;refine oG<|ng<|mZ (tV rfl rfl)<|nk<|oZ rfl (λf=>?_)<|λf=>?_
 ·
  refine ny<|ng<|nA<|nk<|nY<|qy<|ou [_] ⟨rfl,trivial⟩<|⟨vi ?_,a⟩
  rw[<-i]at f |-
  split at f
  · rename_i r;rw[if_pos r]
  · omega
 ·
  refine nU<|nJ<|ny<|mZ (nG 2)<|mZ (nH g)<|mZ (oV (e:=23) (sz:=1) dA rfl rfl)<|nA<|nk<|nY<|ou [_] ⟨rfl,trivial⟩<|⟨vi ?_,a⟩
  rw[<-i]at f
  split at f<;>omega
theorem Ex(n:Nat):IntKind.u8.wrap (n:Int)=((u8 n).toNat:Int):=by
 rw[IntKind.wrap_u8,u8,eU];omega
theorem Dr(n:Nat){b:Int}(s:Nat)(hb:b=(s:Int))(hs:s<=64):(n:Int).fdiv (2 ^ (min b.toNat IntKind.i64.bits))=((n / 2 ^ s:Nat):Int):=by
 have:=KC (a:=(n:Int)) s hb hs;rw[Int.natCast_ediv,jy];exact this
theorem Vp(n:Nat):u8 (n % 256)=u8 n:=by
 refine iI.1 ?_;unfold u8;rw[eU,eU];omega
theorem UY{a b:Int}(n s:Nat)(ha:a=(n:Int))(hb:b=(s:Int))(hs:s<=64):a.fdiv (2 ^ (min b.toNat IntKind.i64.bits))=((n / 2 ^ s:Nat):Int):=by
 subst ha;exact Dr n s hb hs
theorem zt9{a:Int}(n:Nat)(ha:a=(n:Int)):IntKind.u8.wrap a=((u8 n).toNat:Int):=by
 subst ha;exact Ex n
theorem OU{w:World}{g k:Nat}{l:List Value}{v:Value}{t:TypeId}(h:row w g (l.set (0+k) v) t):row w g (l.set k v) t:=by rw[aZ]at h;exact h
theorem zrz(L r:List UInt8)(j k:Nat)(h:r.length=0\/j=k):splice (bv L) j (bv r)=splice (bv L) k (bv r):=by
 rcases h with h|rfl
 .have:r=[]:=bH h
  subst this;simp[splice,bv]
 .rfl
def yV(L:List UInt8)(n:Nat):Nat->List UInt8
 |0=>L
 |k+1=>(yV L n k).set (8+k) (u8 (n / 2 ^ (24 - 8*k)))
theorem y_(L:List UInt8)(n:Nat):∀ k,(yV L n k).length=L.length
 |0=>rfl
 |k+1=>by rw[yV,bA,y_ L n k]
def uN:List UInt8:=List.replicate 512 0
theorem EL{l:List UInt8}{i:Nat}{b:UInt8}(h:i<l.length):(bv l).set i (.int .u8 (b.toNat:Int))=bv (l.set i b):=by
 simp only[bv,fO];rfl
theorem AR:List.replicate 512 (Value.int .u8 0)=bv uN:=by
 rw[uN,bv,fP];rfl
theorem zqo(V:View):yV (((uN.set 0 (u8 V.kind)).set 2 (u8 (V.slots.length / 2 ^ 8))).set 3 (u8 V.slots.length)) V.next 4=uS V [0,0] []:=by
 have e:uN=[0,0,0,0,0,0,0,0,0,0,0,0]++List.replicate 500 0:=by
  rw[uN,show(512:Nat)=12+500 from rfl,<-gZ];rfl
 have a:uS V [0,0] []=wI V [0,0]++List.replicate 500 0:=by
  simp only[uS,wF,xh,pU,aR,aY,Nat.mul_zero,gB]
 rw[e,a];generalize List.replicate 500 (0:UInt8)=T;have m:∀ n:Nat,u8 (n % 256)=u8 n:=λn=>by
  refine iI.1 ?_;unfold u8;rw[eU,eU];omega
 have c:V.next / 2 ^ (24 - 8*0)=V.next / 16777216:=rfl;have f:V.next / 2 ^ (24 - 8*1)=V.next / 65536:=rfl;have g:V.next / 2 ^ (24 - 8*2)=V.next / 256:=rfl;have h:V.next / 2 ^ (24 - 8*3)=V.next:=by rw[show 24 - 8*3=0 from rfl,Nat.pow_zero,Nat.div_one]
 simp only[yV,c,f,g,h,wI,xM,Kc,m]
 rfl
theorem SA(V:View)(p:Option Addr)(c:Nat)(vs:List Value)(w:World)(lo:Nat)(o:List Nat)(h:nM w p V.slots.length 1 vs)(hs:rF w lo o vs V.slots)(hk:V.kind<256)(hn:V.next<2147483648)(hz:rG V<=512):
   CQ 194 [.agg #[VB (V.kind:Int),VB (V.next:Int), .slice p V.slots.length c]] w (λv w'=>v= .agg (bv (oW V)).toArray/\VD w w'):=by
 have o:=Below.refl w.heap.size w;have f4:maxLen=9223372036854775807:=by decide
 obtain⟨Z,I⟩:=aa (uN);have b2:Z.length=512:=by rw[<-I,uN,bz]
 refine nZ (rs:=[.cell 2 121]) (n:=90) Tryz.func194 rfl rfl Tryz.ntmps194 dA rfl<|ny<|nK<|qi ([_,_,_]) rfl<|λB w1 f5 t b3=>?_
 replace o:=o.acc b3;refine nK<|oD (List.replicate 512 (Value.int .u8 0)) dA<|λu w2 a0 l a1=>?_
 have y:=ag o.size a0;have C:B<u:=ae t.lt a0;replace t:=t.new a1;replace o:=o.acc a1;rw[AR,I]at l;refine qx<|mZ (nG 0)<|mZ (nH t)<|mZ (rP (k:=.u8) dA dA rfl (Ex V.kind))<|mZ (Bl (e:=5) (m:=512) dA rfl rfl (0) rfl dB)<|nT<|pQ l<|λb4 l a2=>?_
 replace t:=t.only a2 (ai C);replace o:=a2.below o y;replace l:row b4 u ((bv Z).set 0 (.int .u8 ((u8 V.kind).toNat:Int))) 121:=l;rw[EL dB]at l;refine nk<|nI<|qH [u] dA ?_
 intro f6 J b5;replace t:=t.new J;replace l:=l.new J;replace o:=o.acc J;have a3:=t;refine nu 0 (nG 2)<|nR 1 (λw' K=>nH (a3.kq K))<|nu 2 (oV (e:=23) (sz:=1) dA rfl rfl)<|nu 3 (xm rfl rfl dB (Dr V.slots.length 8 rfl dB))<|nu 4 (rP (k:=.u8) dA dA rfl (Ex (V.slots.length / 2 ^ 8)))<|nu 5 (nG 2)<|nR 6 (λw' K=>nH (a3.kq K))<|nu 7 (oV (e:=23) (sz:=1) dA rfl rfl)<|nu 8 (rP (k:=.u8) dA dA rfl (Ex V.slots.length))<|nu 9 (Bl (e:=5) (m:=512) dA rfl rfl (2) rfl dB)<|oh 10 dA<|rA rfl rfl<|pQ l<|λb6 l N=>?_
 have a4:=b5.aq N;refine⟨a4,?_⟩;replace t:=t.only N (ai C);replace o:=N.below o y;replace l:row b6 u ((bv (Z.set 0 (u8 V.kind))).set 2 (.int .u8 ((u8 (V.slots.length / 2 ^ 8)).toNat:Int))) 121:=l;rw[EL (by rw[bA];omega)]at l;refine nu 11 (Bl (e:=5) (m:=512) dA rfl rfl (3) rfl dB)<|oh 12 dA<|rA rfl rfl<|pQ l<|λb7 l P=>?_
 have b8:=a4.aq P;refine⟨b8,?_⟩;replace t:=t.only P (ai C);replace o:=P.below o y;replace l:row b7 u ((bv ((Z.set 0 (u8 V.kind)).set 2 (u8 (V.slots.length / 2 ^ 8)))).set 3 (.int .u8 ((u8 V.slots.length).toNat:Int))) 121:=l;rw[EL (by rw[bA,bA];omega)]at l;refine pq dA<|nJ<|nI<|ny<|ng<|nk<|pE ?_
 have z:∃ L,((Z.set 0 (u8 V.kind)).set 2 (u8 (V.slots.length / 2 ^ 8))).set 3 (u8 V.slots.length)=L:=⟨_,rfl⟩;obtain⟨L1,R⟩:=z;have f7:L1.length=512:=by rw[<-R,bA,bA,bA];exact b2
 rw[R]at l;refine qY (α:=Nat) 0 (λk=>[(23,VB (k:Nat)),(1,VA B),(2,VA u)])
   (λk w'=>k<=4/\row w' B [VB (V.kind:Int),VB (V.next:Int), .slice p V.slots.length c] 242/\row w' u (bv (yV L1 V.next k)) 121/\VD w w') (λk=>4 - k)
   VF ⟨aC _,t,l,o⟩ ?_
 clear t l o;have f8:w.heap.size<=B:=by omega
 have f9:w.heap.size<=u:=by omega
 rintro i f b9 ⟨c4,t,l,o⟩;have g0:=y_ L1 V.next i;refine ny<|mZ (pI rfl rfl)<|nk<|nI<|oZ rfl (λS=>?_)<|λS=>?_
 ·
  refine nU<|nJ<|nI<|pE<|ny<|ng<|nA<|nk<|nO<|ng<|mZ (oJ rfl rfl (Coup.nV dB))<|mZ (nG 1)<|mZ (nH t)<|ng<|mZ (yR rfl rfl (Coup.nV dB))<|mZ (vZ rfl rfl (Coup.nV dB))<|mZ (xm rfl rfl dB (Dr V.next (24 - 8*i) dB dB))<|mZ (rP (k:=.u8) dA dA rfl (Ex (V.next / 2 ^ (24 - 8*i))))<|mZ (Bl (e:=5) (m:=512) dA rfl rfl (8+i) dB dB)<|nT<|pQ l<|λc5 l a5=>?_
  replace t:=t.only a5 (ai C);replace o:=a5.below o y;replace l:row c5 u ((bv (yV L1 V.next i)).set (8+i) (.int .u8 ((u8 (V.next / 2 ^ (24 - 8*i))).toNat:Int))) 121:=OU l;rw[EL dB]at l;refine oI<|pO<|nJ<|nO<|mZ (oJ rfl rfl (Coup.nV dB))<|ng<|oI<|oM ⟨i+1,dB,VF,dB,t,?_,o⟩
  exact l
 ·
  obtain rfl:i=4:=by omega
  have c6:yV L1 V.next 4=uS V [0,0] []:=by
    rw[<-R,<-I];exact zqo V
  rw[c6]at l;refine qL<|qK<|rq<|qO<|nJ<|ny<|nA<|nk<|nI<|nI<|nO<|mZ (nG 2)<|mZ (nH t)<|mZ (oV (e:=23) (sz:=1) dA rfl rfl)<|ng<|nk<|pE ?_
  refine qY (α:=Nat) 0 (λk=>[(40,VB (k:Nat)),(39,VB (V.slots.length:Nat)),(38, .slice p V.slots.length c),(4,VB ((512 - pU (V.slots.take k):Nat):Int)),(1,VA B),(2,VA u)])
    (λk w'=>k<=V.slots.length/\row w' u (bv (uS V [0,0] (V.slots.take k))) 121/\VD w w') (λk=>V.slots.length - k)
    ⟨rfl,rfl,rfl,vi (by simp[pU]),rfl,rfl,rfl⟩ ⟨aC _,l,o⟩ ?_
  clear t l o;rintro i f b9 ⟨c4,l,o⟩;have g1:=Ll V.slots i;unfold rG at hz;refine ny<|mZ (pI rfl rfl)<|nk<|nI<|oZ rfl (λS=>?_)<|λS=>?_
  ·
   refine lN ?_;have z:∃ s,V.slots[i]?=some s:=⟨_,aG dB⟩;obtain⟨s,D⟩:=z;have c7:=hs.val D;obtain⟨q,c8,F,g2,a6,-⟩:=c7;have z:=h.some dB;obtain⟨g,g3,rfl,g4⟩:=z;have a7:=QK D;have g5:=Ll V.slots (i+1);have a8:V.slots.take (i+1)=V.slots.take i++[s]:=by rw[bf,D];rfl
   have A:(V.slots.take i).length=i:=by rw[aI];omega
   refine nO<|ng<|mZ (uX (e:=23) dA rfl rfl i dB dB)<|mZ (oK rfl (Ld.sl1 (h.below o (ax _)) dA F))<|nA<|nA<|nk<|nI<|ny<|ng<|mZ (Mj (e:=5) dA rfl rfl)<|nk<|xy rfl (λG=>?_)<|λG=>?_
   ·
    refine qL<|qK<|qO<|nJ<|nO<|mZ (oJ rfl rfl (Coup.nV dB))<|ng<|oI ?_
    have c9:s=none:=by rw[a6];cases q with|none=>rfl|some a=>simp at G
    subst c9;rw[show(uR none).length=0 from rfl]at a7;have a9:=zqm V [0,0] (V.slots.take i) lF;rw[<-a8]at a9;rw[<-a9]at l;refine oM ⟨i+1,dB,⟨rfl,rfl,rfl,vi dB,rfl,rfl,rfl⟩,dB,l,o⟩
   ·
    obtain⟨r,rfl⟩:∃ r,s=some r:=by
      cases s with
      |none=>rw[a6.1 rfl]at G;simp at G
      |some r=>exact⟨r,rfl⟩
    have z:=hs.yes i r D;obtain⟨b,ob,d0,d1,d2,b0,-⟩:=z;obtain⟨rfl,-,rfl⟩:q=some ⟨b,ob,none⟩/\(uR (some r)).length=r.length/\c8=d0:=by
      have:=bQ (F.symm.trans d1)
      injection this with d3 d4 d5
      exact⟨d3,d4,d5⟩
    rw[show(uR (some r)).length=r.length from rfl]at a7 |-;obtain⟨E,b1⟩:=aa (512 - pU (V.slots.take i) - r.length);have T:=zru V [0,0] rfl (V.slots.take i) r lF;have d6:=IE V [0,0] rfl (V.slots.take i) r lF;have U:=zqn V [0,0] rfl (V.slots.take i) r lF (u8 (E / 2 ^ 8)) (u8 E) (u8 (r.length / 2 ^ 8)) (u8 r.length) (by rw[<-Vp E,<-Vp r.length,<-b1];rfl);rw[b1]at T;rw[A,<-a8]at U;have X:(uS V [0,0] (V.slots.take i)).length=512:=TE rfl lF;generalize yG V [0,0] (V.slots.take i) r=M at T d6 U;refine nU<|nJ<|ny<|ng<|ng<|mZ (oV (e:=5) (sz:=1) dA rfl rfl)<|mZ (vZ rfl rfl (Coup.nV dB))<|oG<|ng<|mZ (zi6 (e:=5) E 512 512 (512 - E) dA rfl ⟨_,_,rfl,dB⟩ rfl rfl ig dB dB dB rfl) ?_
    have z:∃ O,(if 512=E then 0 else 0+E)=O:=⟨_,rfl⟩;obtain⟨O,Y⟩:=z;have d7:r.length=0\/O=E:=by rw[<-Y];split<;>omega
    have d8:O+r.length<=512:=by rw[<-Y];split<;>omega
    rw[Y];refine ng<|nK<|Rt (e:=5) dA dA rfl rfl u (O) l (bv r) (by rw[oL];simp[Nat.min_def];omega) (λ_=>⟨rfl,_,rfl,λj v F=>by rw[Addr.add_lit];exact(d2.below o (ax _)).cell j F⟩) (by rw[oL,oL,X];exact d8) (uf _)<|λg6 l d9=>?_
    replace o:=d9.below o y;rw[zrz _ _ _ _ d7,zrw,T]at l;refine qx<|ng<|mZ (yR rfl rfl (Coup.nV dB))<|mZ (oJ rfl rfl (Coup.nV dB))<|nA<|nk<|nO<|ng<|ng<|mZ (oJ rfl rfl (Coup.nV dB))<|ng<|mZ (oJ rfl rfl (Coup.nV dB))<|ng<|mZ (oJ rfl rfl (Coup.nV dB))<|ng<|mZ (xm rfl rfl dB (UY E 8 dB rfl dB))<|mZ (rP (k:=.u8) dA dA rfl (Ex (E / 2 ^ 8)))<|ng<|mZ (rP (k:=.u8) dA dA rfl (zt9 E dB))<|ng<|mZ (oV (e:=5) (sz:=1) dA rfl rfl)<|mZ (xm rfl rfl dB (Dr r.length 8 rfl dB))<|mZ (rP (k:=.u8) dA dA rfl (Ex (r.length / 2 ^ 8)))<|ng<|mZ (oV (e:=5) (sz:=1) dA rfl rfl)<|mZ (rP (k:=.u8) dA dA rfl (Ex r.length))<|mZ (Bl (e:=5) (m:=512) dA rfl rfl (12+4*i) dB dB)<|nT<|pQ l<|λe0 l e1=>?_
    replace o:=e1.below o y;replace l:row e0 u ((bv M).set (12+4*i) (.int .u8 ((u8 (E / 2 ^ 8)).toNat:Int))) 121:=OU l;rw[EL dB]at l;refine mZ (Bl (e:=5) (m:=512) dA rfl rfl (12+4*i+1) dB dB)<|nT<|pQ l<|λe2 l e3=>?_
    replace o:=e3.below o y;replace l:row e2 u ((bv (M.set (12+4*i) (u8 (E / 2 ^ 8)))).set (12+4*i+1) (.int .u8 ((u8 E).toNat:Int))) 121:=OU l;rw[EL (by rw[bA];omega)]at l;refine mZ (Bl (e:=5) (m:=512) dA rfl rfl (12+4*i+2) dB dB)<|nT<|pQ l<|λe4 l e5=>?_
    replace o:=e5.below o y;replace l:row e4 u ((bv ((M.set (12+4*i) (u8 (E / 2 ^ 8))).set (12+4*i+1) (u8 E))).set (12+4*i+2) (.int .u8 ((u8 (r.length / 2 ^ 8)).toNat:Int))) 121:=OU l;rw[EL (by rw[bA,bA];omega)]at l;refine mZ (Bl (e:=5) (m:=512) dA rfl rfl (12+4*i+3) dB dB)<|nT<|pQ l<|λe6 l e7=>?_
    replace o:=e7.below o y;replace l:row e6 u ((bv (((M.set (12+4*i) (u8 (E / 2 ^ 8))).set (12+4*i+1) (u8 E)).set (12+4*i+2) (u8 (r.length / 2 ^ 8)))).set (12+4*i+3) (.int .u8 ((u8 r.length).toNat:Int))) 121:=OU l;rw[EL (by rw[bA,bA,bA];omega),U]at l;refine oI<|pO<|nJ<|nO<|mZ (oJ rfl rfl (Coup.nV dB))<|ng<|oI<|oM ⟨i+1,dB,⟨rfl,rfl,rfl,vi dB,rfl,rfl,rfl⟩,dB,l,o⟩
  ·
   obtain rfl:i=V.slots.length:=by omega
   rw[aQ (ax _)]at l |-;have X:(uS V [0,0] V.slots).length=512:=TE rfl dB;have H:=zrv V V.slots (u8 ((512 - pU V.slots) / 2 ^ 8)) (u8 (512 - pU V.slots));have e8:uS V [u8 ((512 - pU V.slots) / 2 ^ 8),u8 (512 - pU V.slots)] V.slots=oW V:=by
     rw[oW,<-Vp (512 - pU V.slots)];rfl
   rw[e8]at H;have b0:(oW V).length=512:=TE rfl dB;generalize oW V=Q at H b0 |-;generalize uS V [0,0] V.slots=M at H X l;refine qL<|qK<|rq<|qO<|nJ<|ny<|ng<|mZ (xm rfl rfl dB (Dr (512 - pU V.slots) 8 rfl dB))<|mZ (rP (k:=.u8) dA dA rfl (Ex ((512 - pU V.slots) / 2 ^ 8)))<|ng<|mZ (rP (k:=.u8) dA dA rfl (Ex (512 - pU V.slots)))<|mZ (Bl (e:=5) (m:=512) dA rfl rfl (4) rfl dB)<|nT<|pQ l<|λe9 l f0=>?_
   replace o:=f0.below o y;replace l:row e9 u ((bv M).set 4 (.int .u8 ((u8 ((512 - pU V.slots) / 2 ^ 8)).toNat:Int))) 121:=l;rw[EL dB]at l;refine mZ (Bl (e:=5) (m:=512) dA rfl rfl (5) rfl dB)<|nT<|pQ l<|λf1 l f2=>?_
   replace o:=f2.below o y;replace l:row f1 u ((bv (M.set 4 (u8 ((512 - pU V.slots) / 2 ^ 8)))).set 5 (.int .u8 ((u8 (512 - pU V.slots)).toNat:Int))) 121:=l;rw[EL (by rw[bA];omega),H]at l;refine qx<|mZ (pz 512 l)<|nT<|oC 512 (_) l<|λg7 l f3=>?_
   replace o:=f3.below o y;refine nk<|nY<|ou [_] ⟨⟨_,rfl,Ld.qI (k:=512) l dA dA gp⟩,trivial⟩ ?_
   exact⟨rfl,o⟩
def zb(L:List UInt8)(i m:Nat):Prop:=m<65536/\i+2<=L.length/\(L.drop i).take 2=xM m
theorem take2{L:List UInt8}{i:Nat}{a b:UInt8}(ha:L[i]?=some a)(hb:L[i+1]?=some b):(L.drop i).take 2=[a,b]:=by
 apply dI;intro j;rcases j with _|_|j
 .simp[bD,ha]
 .simp[bD,hb]
 .simp[bD];omega
theorem zb.of{L:List UInt8}{i m:Nat}{a b:UInt8}(hm:m<65536)(ha:L[i]?=some a)(hb:L[i+1]?=some b)(h:[a,b]=xM m):zb L i m:=
 ⟨hm,by have:=(aL.1 hb).1;omega,by rw[take2 ha hb,h]⟩
theorem zb.num{m:Nat}(h:m<65536):256*((u8 (m / 256)).toNat:Int)+((u8 (m % 256)).toNat:Int)=(m:Int):=by
 rw[Ob dB,Ob dB];omega
theorem zC(V:View)(hz:rG V<=512)(i:Nat)(h:i<12):(oW V)[i]?=(wI V (xM (512 - pU V.slots)))[i]?:=zrt rfl h
theorem GU(V:View)(hz:rG V<=512):(oW V)[0]?=some (u8 V.kind):=zC V hz 0 dB
theorem Fw(V:View)(hz:rG V<=512):zb (oW V) 2 V.slots.length:=by
 unfold rG at hz;exact zb.of dB (zC V hz 2 dB) (zC V hz 3 dB) rfl
theorem OX(V:View)(hz:rG V<=512)(hn:V.next<2147483648):zb (oW V) 8 (V.next / 65536):=by
 refine zb.of dB (zC V hz 8 dB) (zC V hz 9 dB) ?_;rw[xM,Nat.div_div_eq_div_mul]
theorem QM(V:View)(hz:rG V<=512):zb (oW V) 10 (V.next % 65536):=by
 refine zb.of dB (zC V hz 10 dB) (zC V hz 11 dB) ?_;rw[xM]
 congr 3<;>omega
def Nb(S:List (Option (List UInt8)))(i:Nat):Option (List UInt8)->Nat
 |none=>0
 |some r=>512 - pU (S.take i) - r.length
theorem Vq{S:List (Option (List UInt8))}{i:Nat}{s:Option (List UInt8)}(hs:S[i]?=some s):S=S.take i++s::S.drop (i+1):=by
 obtain⟨a,c⟩:=aL.1 hs
 conv=>lhs;rw[<-bM i S,dm a,c]
theorem TK(V:View){i:Nat}{s:Option (List UInt8)}(hs:V.slots[i]?=some s)(k:Nat)(hk:k<4):(oW V)[12+4*i+k]?=(Mm (512 - pU (V.slots.take i)) s)[k]?:=by
 have a:=(aL.1 hs).1;have:=Gs V (xM (512 - pU V.slots)) rfl (V.slots.take i) (V.slots.drop (i+1)) s k hk;rw[<-Vq hs,aI,bS dB]at this;exact this
theorem Hd(V:View){i:Nat}{s:Option (List UInt8)}(hs:V.slots[i]?=some s):zb (oW V) (12+4*i) (Nb V.slots i s):=by
 have c:=TK V hs 0 dB;have e:=TK V hs 1 dB;cases s with
 |none=>exact zb.of (a:=0) (b:=0) (by simp[Nb]) c e (show[0,0]=xM 0 by decide)
 |some r=>exact zb.of (a:=u8 ((512 - pU (V.slots.take i) - r.length) / 256)) (b:=u8 ((512 - pU (V.slots.take i) - r.length) % 256)) (by simp only[Nb];omega) c e rfl
theorem Iz(V:View)(hz:rG V<=512){i:Nat}{s:Option (List UInt8)}(hs:V.slots[i]?=some s):zb (oW V) (12+4*i+2) (uR s).length:=by
 have a:=TK V hs 2 dB;have c:=TK V hs 3 dB;have e:=QK hs;have f:=Ll V.slots (i+1);unfold rG at hz;cases s with
 |none=>exact zb.of (by simp[uR]) a c rfl
 |some r=>exact zb.of dB a c rfl
theorem LW(V:View)(hz:rG V<=512){i:Nat}{r:List UInt8}(hs:V.slots[i]?=some (some r)):((oW V).drop (Nb V.slots i (some r))).take r.length=r:=by
 have:=Ih V (xM (512 - pU V.slots)) rfl (V.slots.take i) (V.slots.drop (i+1)) r (by rw[<-Vq hs];exact hz);rw[<-Vq hs]at this;exact this
theorem Aq(V:View)(hz:rG V<=512):(oW V).length=512:=TE rfl hz
theorem PV(L:List UInt8)(g t o i m n c:Nat)(w:World)(h:row w g (bv L) t)(h2:zb L i m)(ho:o=i)(hn:n=2):CQ 218 [.slice (some ⟨g,o,none⟩) n c] w (λv w'=>v=VB (m:Int)/\VD w w'):=by
 subst hn ho;have a:=h.TI o 2 h2.2.1 jB;rw[h2.2.2,xM]at a;have:=Rk (some ⟨g,o,none⟩) 2 c _ _ w rfl a;rw[zb.num h2.1]at this;exact this
namespace rF
variable {w w':World}{lo:Nat}{o:List Nat}{vs:List Value}{S:List (Option (List UInt8))}
theorem grow{v:Value}{o':List Nat}(h:rF w lo o vs S)(hg:w.grownBy w' v.ownBlock)(hv:∀ g,v.ownBlock=some g->g∈o\/g<lo)(hf:∀ g,g∈o'->g∈o\/w.heap.size<=g\/g<lo):rF w' lo o' vs S:=
 have c:rF w lo (o'++o) vs S:=h.yN λg a=>(ay.1 a).elim (λe=>hf g e) Or.inl
 (c.kp (Kp.rU hg) λg a=>(hv g (ah.1 a)).elim (λe=>Or.inr (Or.inl (aB _ e))) λe=>Or.inr (Or.inr e)).yN λg a=>Or.inl (aF _ a)
theorem IQ{v v':Value}(h:rF w lo v.ownBlock.toList vs S)(hg:w.grownBy w' v.ownBlock)(hf:∀ g,v'.ownBlock=some g->v.ownBlock=some g\/w.heap.size<=g):rF w' lo v'.ownBlock.toList vs S:=
 h.grow hg (λg e=>Or.inl (ah.2 e)) λg a=>(hf g (ah.1 a)).elim (λe=>Or.inl (ah.2 e)) λe=>Or.inr (Or.inl e)
theorem Mg{v v':Value}{L:List Nat}(h:rF w lo (v.ownBlock.toList++L) vs S)(hg:w.grownBy w' v.ownBlock)(hf:∀ g,v'.ownBlock=some g->v.ownBlock=some g\/w.heap.size<=g):rF w' lo (v'.ownBlock.toList++L) vs S:=
 h.grow hg (λg e=>Or.inl (aF _ (ah.2 e))) λg a=>(ay.1 a).elim
  (λe=>(hf g (ah.1 e)).elim (λe=>Or.inl (aF _ (ah.2 e))) λe=>Or.inr (Or.inl e)) λe=>Or.inl (aB _ e)
theorem mono{lo':Nat}(h:rF w lo o vs S)(hl:lo'<=lo):rF w lo' o vs S:=⟨h.len,h.no,λi r hr=>by
 obtain⟨b,a,c,e,f,g,j,k⟩:=h.yes i r hr;exact⟨b,a,c,e,f,g,j,dB⟩⟩
theorem JP(h:rF w lo o vs S):rF w lo o (vs++[VC]) (S++[none]):=by
 have f:=h.len;refine⟨by simp[f],λi a=>?_,λi r a=>?_⟩
 .rcases dH i S.length with c|c
  .rw[bF c]at a
   rw[bF dB];exact h.no i a
  .rw[bB c]at a
   rw[bB dB,f];rcases gD (i - S.length)with e|e
   .rw[e];rfl
   .rw[bK jY]at a;cases a
 .rcases dH i S.length with c|c
  .rw[bF c]at a
   rw[bF dB];exact h.yes i r a
  .rw[bB c]at a
   rcases gD (i - S.length)with e|e
   .rw[e]at a;cases a
   .rw[bK jY]at a;cases a
theorem PY{b off c:Nat}{r:List UInt8}(h:rF w lo o vs S)(h2:nM w (some ⟨b,off,none⟩) r.length 1 (bv r))(h3:b<w.heap.size)(h4:b∉o)(h5:lo<=b)(h9:r.length<=c):rF w lo o (vs++[.slice (some ⟨b,off,none⟩) r.length c]) (S++[some r]):=by
 have g:=h.len;refine⟨by simp[g],λi a=>?_,λi j a=>?_⟩
 .rcases dH i S.length with e|e
  .rw[bF e]at a
   rw[bF dB];exact h.no i a
  .rw[bB e]at a
   rcases gD (i - S.length)with h2|h2
   .rw[h2]at a;cases a
   .rw[bK jY]at a;cases a
 .rcases dH i S.length with e|e
  .rw[bF e]at a
   rw[bF dB];exact h.yes i j a
  .rw[bB e]at a
   rcases gD (i - S.length)with f|f
   .rw[f]at a
    cases a;rw[bB dB,g,f];exact⟨b,off,c,rfl,h2,h3,h4,h5,h9⟩
   .rw[bK jY]at a;cases a
end rF
theorem og.PH{w w':World}{base e sz m g:Nat}{v:Value}{xs:List Value}(h:og w base e sz v m xs)(ho:Only g w w')(hg:v.ownBlock≠some g):og w' base e sz v m xs:=
 Coup.og.nD h (Kp.rJ ho) λa c e=>by
  have:a=g:=by simpa using c
  subst this;exact hg e
def OwV(w:World)(lo:Nat)(p:Option Addr)(n c:Nat)(vs:List Value)(S:List (Option (List UInt8))):Prop:=
 og w lo 23 1 (.slice p n c) n vs/\rF w lo (Value.ownBlock (.slice p n c)).toList vs S
def Qz(V:View)(p:Option Addr)(n c:Nat):Value:=.agg #[VB (V.kind:Int),VB (V.next:Int), .slice p n c]
theorem Kv(V:View)(w:World)(hV:Good V):
   CQ 160 [.agg (bv (oW V)).toArray] w (λv w'=>∃ p c vs,v= .tuple #[Qz V p V.slots.length c, .bool true]/\OwV w' w.heap.size p V.slots.length c vs V.slots/\VD w w'):=by
 have h:=Below.refl w.heap.size w;have m5:maxLen=9223372036854775807:=by decide
 have K:=hV.size;have g7:=Aq V K;have e9:=GU V K;have c7:=Fw V K;have f0:=OX V K hV.next;have f1:=QM V K;have m6:=hV.kind;have g8:=hV.next;have c8:=K;unfold rG at c8;obtain⟨Q,a9⟩:=aa (oW V);rw[a9]at g7 e9 c7 f0 f1 |-;obtain⟨S,J⟩:=aa (V.slots);obtain⟨n,a0⟩:=aa (V.slots.length);have g9:n=S.length:=by rw[<-a0,J]
 rw[a0]at c7 c8 |-;refine nZ (rs:=[.cell 2 242, .tmp 3]) (n:=116) Tryz.func160 rfl rfl Tryz.ntmps160 dA rfl<|ny<|nK<|qi ((bv Q)) rfl<|λD w1 h0 l h1=>?_
 have m7:=ag h.size h0;replace h:=h.acc h1;refine nK<|oD ([VB 0,VB 0,VC]) dA<|λM w2 f2 j f3=>?_
 have U:=ag h.size f2;have b0:D<M:=ae l.lt f2;replace l:=l.new f3;replace h:=h.acc f3;refine oG<|mZ (Bl (e:=5) (m:=512) dA rfl rfl (0) rfl dB)<|mZ (oK rfl (Ld.ru l dA (show(bv Q)[0]?=some (.int .u8 ((u8 V.kind).toNat:Int)) by rw[bv,aV,e9];rfl))) ?_
 refine mZ (rP (k:=.i64) dA dA rfl (show IntKind.i64.wrap ((u8 V.kind).toNat:Int)=(V.kind:Int) by rw[Ob dB];exact nV dB))<|mZ (nG 0)<|nT<|pQ j<|λm8 j f4=>?_
 replace l:=l.only f4 (ai b0);replace h:=f4.below h U;refine nk<|nI<|qH [M] dA ?_
 intro h2 c9 h3;replace l:=l.new c9;replace j:=j.new c9;replace h:=h.acc c9;refine nu 0 (yw (e:=5) (n:=512) (8) (10) (512) (2) dA rfl ⟨_,_,rfl,rfl⟩ ⟨_,_,rfl,rfl⟩ rfl ig dB dB dB dB dB)<|nu 3 (yw (e:=5) (n:=512) (10) (12) (512) (2) dA rfl ⟨_,_,rfl,rfl⟩ ⟨_,_,rfl,rfl⟩ rfl ig dB dB dB dB dB)<|oh 1 dA<|qw rfl rfl (oz dA rfl) (PV Q D _ _ 8 (V.next / 65536) _ _ h2 l f0 rfl rfl) ?_
 rintro _ h4 ⟨rfl,b1⟩;have f5:=h3.add0 b1;refine⟨f5,?_⟩;replace l:=l.new b1;replace j:=j.new b1;replace h:=h.acc b1;refine nu 2 (Qw rfl rfl dB (show IntKind.i64.wrap (((V.next / 65536:Nat):Int)*2 ^ 16)=(65536*(V.next / 65536):Nat) by rw[nV dB];omega))<|oh 4 dA<|qw rfl rfl (oz dA rfl) (PV Q D _ _ 10 (V.next % 65536) _ _ h4 l f1 rfl rfl) ?_;rintro _ m9 ⟨rfl,b2⟩;have f6:=f5.add0 b2;refine⟨f6,?_⟩;replace l:=l.new b2;replace j:=j.new b2;replace h:=h.acc b2;refine nu 5 (OT rfl rfl (show _=(V.next:Int)from(RB 16 (V.next / 65536:Nat) dB dB dB dB).trans dB))<|nu 6 (nG 1)<|oh 7 dA<|rA rfl rfl<|pQ j<|λh5 j d0=>?_
 have h6:=f6.aq d0;refine⟨h6,?_⟩;replace l:=l.only d0 (ai b0);replace h:=d0.below h U;refine pq dA<|nJ<|ny<|mZ (yw (e:=5) (n:=512) (2) (4) (512) (2) dA rfl ⟨_,_,rfl,rfl⟩ ⟨_,_,rfl,rfl⟩ rfl ig dB dB dB dB dB)<|nP (PV Q D _ _ 2 n _ _ h5 l c7 rfl rfl) ?_
 rintro _ d1 ⟨rfl,d2⟩;replace l:=l.new d2;replace j:=j.new d2;replace h:=h.acc d2;refine nA<|nk<|nI<|ny<|mZ (nG 0)<|mZ (nH j)<|mZ (rz rfl rfl)<|ng<|uy 26 rfl (dB)<|nE<|mZ (nG 1)<|nE<|mZ (nH j)<|nE<|mZ (tV rfl rfl)<|mZ (oP rfl)<|ng<|uy 31 rfl (dB)<|nE<|ng<|nE<|mZ (yR rfl rfl (Coup.nV dB))<|nE<|mZ (oJ rfl rfl (Coup.nV dB))<|nE<|mZ (rz rfl rfl)<|mZ (oP rfl)<|nk<|qg rfl (dB)<|nU<|nJ<|nI<|ny<|ng<|ng<|nk<|pE ?_;have h7:=Below.refl d1.heap.size d1;obtain⟨B,d3⟩:=aa (d1.heap.size);have b3:w.heap.size<=B:=by rw[<-d3];exact h.size
 have n0:D<B:=by rw[<-d3];exact l.lt
 have n1:M<B:=by rw[<-d3];exact j.lt
 refine qY (α:=Nat × Value × List Value) (0,VC,[]) (λk=>[(39,VB (k.1:Nat)),(38,VB (n:Nat)),(4,VB (n:Nat)),(1,VA D),(2,VA M)])
   (λk w'=>k.1<=n/\row w' D (bv Q) 121/\row w' M [VB (V.kind:Int),VB (V.next:Int),k.2.1] 242/\og w' B 23 1 k.2.1 k.1 k.2.2/\rF w' B k.2.1.ownBlock.toList k.2.2 (S.take k.1)/\B<=w'.heap.size/\VD w w') (λk=>n - k.1)
   VF ⟨aC _,l,j,xV _ _ _ _,rF.nil _ _ _,dB,h⟩ ?_
 clear l j h h7;rintro⟨i,v,vs⟩ f d4 ⟨h8,l,j,u,t,n2,h⟩;simp only at h8 j u t;have f7:=u.lt;have n3:=h.size;have y:=Below.refl d4.heap.size d4;refine ny<|mZ (pI rfl rfl)<|nk<|nI<|oZ rfl (λh9=>?_)<|λh9=>?_
 ·
  refine lQ ?_;have d5:∃ s,S[i]?=some s:=⟨_,aG dB⟩;obtain⟨s,O⟩:=d5;have b4:V.slots[i]?=some s:=by rw[J];exact O
  have b5:=Hd V b4;have d6:=Iz V K b4;rw[a9]at b5 d6;rw[J]at b5;have f8:S.take (i+1)=S.take i++[s]:=by rw[bf,O];rfl
  refine nO<|ng<|mZ (yR rfl rfl (Coup.nV dB))<|mZ (oJ rfl rfl (Coup.nV dB))<|nA<|nk<|nI<|qH [] dA ?_
  intro i0 X i1;replace l:=l.new X;replace j:=j.new X;replace u:=u.new X;replace t:=t.new X;replace h:=h.acc X;replace y:=y.acc X;refine nu 0 (nS)<|nu 1 (nS)<|nu 2 (oJ rfl rfl (Coup.nV dB))<|nu 3 (nS)<|nu 4 (oJ rfl rfl (Coup.nV dB))<|nu 5 (yw (e:=5) (n:=512) (12+4*i) (12+4*i+2) (12+4*i+2) (2) dA rfl ⟨_,_,rfl,dB⟩ ⟨_,_,rfl,dB⟩ ⟨_,_,rfl,dB⟩ ig dB dB dB dB dB)<|nu 7 (nS)<|nu 8 (oJ rfl rfl (Coup.nV dB))<|nu 9 (nS)<|nu 10 (oJ rfl rfl (Coup.nV dB))<|nu 11 (nS)<|nu 12 (oJ rfl rfl (Coup.nV dB))<|nu 13 (yw (e:=5) (n:=512) (12+4*i+2) (12+4*i+4) (12+4*i+4) (2) dA rfl ⟨_,_,rfl,dB⟩ ⟨_,_,rfl,dB⟩ ⟨_,_,rfl,dB⟩ ig dB dB dB dB dB)<|oh 6 dA<|qw rfl rfl (oz dA rfl) (PV Q D _ _ (12+4*i) (Nb S i s) _ _ i0 l b5 (aZ _) rfl) ?_
  rintro _ i2 ⟨rfl,P⟩;have f9:=i1.add0 P;refine⟨f9,?_⟩;replace l:=l.new P;replace j:=j.new P;replace u:=u.new P;replace t:=t.new P;replace h:=h.acc P;replace y:=y.acc P;refine oh 14 dA<|qw rfl rfl (oz dA rfl) (PV Q D _ _ (12+4*i+2) (uR s).length _ _ i2 l d6 (aZ _) rfl) ?_;rintro _ n4 ⟨rfl,R⟩;have i3:=f9.add0 R;refine⟨i3,?_⟩;replace l:=l.new R;replace j:=j.new R;replace u:=u.new R;replace t:=t.new R;replace h:=h.acc R;replace y:=y.acc R;refine nu 15 (rO)<|nu 16 (rO)<|pq dA<|nJ<|ny<|nA<|nk<|nI<|ny<|ng<|mZ (pJ rfl rfl)<|ng<|sZ 62 rfl (λb6=>?_)<|λb6=>?_
  ·
   refine nN<|nN<|mZ (pK rfl)<|nk<|yB rfl<|nI<|nI ?_
   obtain⟨r,rfl⟩:∃ r,s=some r:=by
     cases s with
     |none=>exact absurd rfl b6
     |some r=>exact⟨r,rfl⟩
   have n5:=hV.cell r (aO b4);have d7:=QK O;have i4:=Ll S (i+1);rw[show(uR (some r)).length=r.length from rfl]at d7 d6 |-;have d8:=LW V K b4;rw[a9,J]at d8;obtain⟨E,g0⟩:=aa (Nb S i (some r));have n6:E=512 - pU (S.take i) - r.length:=g0.symm;rw[g0]at d8 b5 b6 |-;refine nO<|ng<|mZ (rz rfl rfl)<|ng<|uy 68 rfl (dB)<|nE<|ng<|nE<|ng<|nE<|mZ (oJ rfl rfl (Coup.nV dB))<|nE<|mZ (rz rfl rfl)<|mZ (oP rfl)<|nk<|qg rfl (dB)<|nU<|nJ<|nO<|nK<|Uv (e:=5) (sz:=1) dA dA<|λg1 n7 b7 i5 Y=>?_
   have n8:=ag h.size b7;have n9:=ag y.size b7;have o0:D<g1:=ae l.lt b7;have o1:M<g1:=ae j.lt b7;replace l:=l.new Y;replace j:=j.new Y;replace u:=u.new Y;replace t:=t.new Y;replace h:=h.acc Y;replace y:=y.acc Y;refine ng<|ng<|ng<|mZ (oJ rfl rfl (Coup.nV dB))<|ng<|ng<|mZ (oJ rfl rfl (Coup.nV dB))<|mZ (zi6 (n:=512) (e:=5) E (E+r.length) (E+r.length) r.length dA rfl ⟨_,_,rfl,rfl⟩ ⟨_,_,rfl,dB⟩ ⟨_,_,rfl,dB⟩ ig dB dB dB dB) ?_
   have g2:=l.slZ E r.length dB dB;rw[d8]at g2;have i6:=y.size;refine nK<|zku (e:=5) (sz:=1) (bytes:=1) (z:=.int .u8 0) dA rfl dA rfl iT rfl i5.lt rfl g2 dB dB<|λT d9 b8 o2 a1 i7 i8 i9 Z=>?_
   replace l:=l.new Z;replace j:=j.new Z;replace u:=u.new Z;replace t:=t.new Z;replace h:=h.acc Z;replace y:=y.acc Z;have o3:d4.heap.size<=T:=by rcases i7 with a2|a2<;>omega
   refine nA<|nk<|nO<|mZ (nG 2)<|mZ (nH j)<|ng<|nK<|tT (e:=23) (.slice (some ⟨T,d9,none⟩) r.length b8) ([.slice (some ⟨T,d9,none⟩) r.length b8]) ([VC]) 1 dA dA rfl rfl rfl ⟨iT,iT⟩<|λa3 j0 L e0 C=>?_
   have j1:=ag h.size L;have j2:=ag y.size L;have j3:D<a3:=ae l.lt L;have j4:M<a3:=ae j.lt L;replace l:=l.new C;replace j:=j.new C;replace u:=u.new C;replace t:=t.new C;replace a1:=a1.new C;replace h:=h.acc C;have e1:=e0.tY (m:=1) (sz:=1) rfl dB;have j5:=ae i8 C.size;have j6:=h.size;refine nK<|tu (e:=23) (sz:=1) (bytes:=24) (z:=VC) dA rfl dA rfl iT rfl u rfl e1 kD jB dB (λj7=>dB)<|λj8 j9 F G b9=>?_
   replace l:=l.own u G dB;replace j:=j.own u G dB;replace h:=h.own u G dB;have a4:=F.form;obtain⟨e2,e3,rfl⟩:=a4;have a1:=a1.nD (Kp.rU G) (λo4 o5 e N=>by cases e;simp only[ah]at N;have:=(f7 T N).2;omega);have t:=(t.IQ G b9).PY (c:=b8) a1 (ae j5 G.size) (λe=>(b9 T (ah.1 e)).elim (λg3=>by have:=(f7 T g3).2;omega) (λg3=>dB)) dB i9;rw[<-f8]at t;refine mZ (nG 2)<|nT<|pQ j<|λo6 j c4=>?_
   replace l:=l.only c4 (ai b0);replace F:=F.only c4 dB;replace t:=t.only c4 dB;replace h:=c4.below h U;refine oI<|pO<|nJ<|nO<|mZ (oJ rfl rfl (Coup.nV dB))<|ng<|oI<|oM ⟨(i+1, .slice e2 (i+1) e3,vs++[.slice (some ⟨T,d9,none⟩) r.length b8]),by simp only;omega,⟨rfl,by go_num,rfl,rfl,rfl,rfl⟩,by simp only;omega,l,j,F,t,by have a2:=F.form' dB;obtain⟨_,_,_,_,a5,a6,_⟩:=a2;omega,h⟩
  ·
   have k0:s=none:=by
     cases s with
     |none=>rfl
     |some r=>
       exfalso;have d7:=QK O;have i4:=Ll S (i+1);rw[show(uR (some r)).length=r.length from rfl]at d7;rw[J]at c8;simp only[Nb]at b6;omega
   subst k0;refine nE<|ng<|nE<|mZ (pJ rfl rfl)<|mZ (oP rfl)<|nk<|qg rfl ((by rw[show(uR none).length=0 from rfl];omega))<|nU<|nJ<|nO<|mZ (nG 2)<|mZ (nH j)<|ng<|nK<|tT (e:=23) (VC) ([VC]) ([VC]) 1 dA dA rfl rfl rfl ⟨iT,iT⟩<|λa3 j0 L e0 C=>?_
   have j1:=ag h.size L;have j2:=ag y.size L;have j3:D<a3:=ae l.lt L;have j4:M<a3:=ae j.lt L;replace l:=l.new C;replace j:=j.new C;replace u:=u.new C;replace t:=t.new C;replace h:=h.acc C;replace y:=y.acc C;have e1:=e0.tY (m:=1) (sz:=1) rfl dB;have i6:=y.size;have j6:=h.size;refine nK<|tu (e:=23) (sz:=1) (bytes:=24) (z:=VC) dA rfl dA rfl iT rfl u rfl e1 kD jB dB (λj7=>dB)<|λj8 j9 F G b9=>?_
   replace l:=l.own u G dB;replace j:=j.own u G dB;replace h:=h.own u G dB;have a4:=F.form;obtain⟨e2,e3,rfl⟩:=a4;have t:=(t.IQ G b9).JP;rw[<-f8]at t;refine mZ (nG 2)<|nT<|pQ j<|λo7 j c5=>?_
   replace l:=l.only c5 (ai b0);replace F:=F.only c5 dB;replace t:=t.only c5 dB;replace h:=c5.below h U;refine oI<|pO<|nJ<|nO<|mZ (oJ rfl rfl (Coup.nV dB))<|ng<|oI<|oM ⟨(i+1, .slice e2 (i+1) e3,vs++[VC]),by simp only;omega,⟨rfl,by go_num,rfl,rfl,rfl,rfl⟩,by simp only;omega,l,j,F,t,by have a2:=F.form' dB;obtain⟨_,_,_,_,a5,a6,_⟩:=a2;omega,h⟩
 ·
  obtain rfl:i=n:=by omega
  rw[show S.take i=S from aQ dB]at t;have a4:=u.form;obtain⟨p,c,rfl⟩:=a4;have e4:=fun(w':World) (a5:nM w' p i 1 vs) (a6:rF w' B (Value.ownBlock (.slice p i c)).toList vs S)=>BS V p c vs w' B _ (by rw[a0];exact a5) (by rw[J];exact a6) dB
  have c6:=fun(w':World) (a5:nM w' p i 1 vs) (a6:rF w' B (Value.ownBlock (.slice p i c)).toList vs S)=>SA V p c vs w' B _ (by rw[a0];exact a5) (by rw[J];exact a6) dB g8 K
  rw[a0]at e4 c6;rw[a9]at c6
  by_cases k7:0<i
  · obtain⟨g,o8,o9,k8,-,p0,-⟩:=u.form' k7
    injection k8 with k9 p1 l0
    subst k9 l0;have d5:∃ s,S[i - 1]?=some s:=⟨_,aG dB⟩;obtain⟨s,O⟩:=d5;have l1:=t.val O;obtain⟨q,p2,l2,p3,l3,-⟩:=l1;have l4:q.isNone=false:=by
      cases s with
      |none=>
        exfalso;apply hV.last;rw[J,List.getLast?_eq_getElem?,<-g9];exact O
      |some r=>cases q with
        |none=>have:=l3.2 rfl;cases this
        |some a=>rfl
    refine qL<|qK<|rq<|qO<|nJ<|nI<|nI<|qH [] dA ?_
    intro l5 a7 l6;replace l:=l.new a7;replace j:=j.new a7;replace u:=u.new a7;replace t:=t.new a7;replace h:=h.acc a7;have l7:=l;have e5:=j;have l8:=u;refine nu 0 (nS)<|nu 1 (rz rfl rfl)<|nu 2 (nS)<|Ig 94 rfl (dB)<|nu 3 (nG 2)<|nR 4 (λw' A=>nH (e5.kq A))<|nu 5 (nS)<|nu 6 (vZ rfl rfl (Coup.nV dB))<|nu 7 (uX (e:=23) dA rfl rfl (i - 1) dB dB)<|nR 8 (λw' A=>oK rfl (Ld.sl1 (l8.nD A (by first |(simp;done)|(simp;omega)|(simp[*];done)|exact pG (Or.inl dB)|exact pG (Or.inr ig)|exact λg N=>ag dB (wh N).1|(intro b o e;cases e;exact pG (Or.inl dB))|(intro b N;have:=(hu.lt b (ah.1 N)).1;omega)|(intro b o e;cases e;intro N;have:=(hu.lt _ (ah.1 N)).1;omega)|assumption)).sl dA l2))<|nu 9 (Mj (e:=5) dA rfl rfl)<|nu 10 (pK rfl)<|nu 11 (nS)<|PR 103 rfl (l4)<|nR 12 (λw' A=>pz 3 (e5.kq A))<|oh 13 dA<|qw rfl rfl (oz dA rfl) (e4 l5 u.sl t) ?_
    rintro _ e6 ⟨rfl,H⟩;have g4:=l6.add0 H;refine⟨g4,?_⟩;replace j:=j.new H;replace u:=u.new H;replace t:=t.new H;replace h:=h.acc H;refine nu 14 (rz rfl rfl)<|nu 15 (oP rfl)<|nu 16 (nS)<|Ap 108 rfl (dB)<|nR 17 (λw' A=>pz 3 (e5.kq A))<|nR 19 (λw' A=>pz 512 (l7.kq A))<|oh 18 dA<|qw rfl rfl (oz dA rfl) (c6 e6 u.sl t) ?_;rintro _ l9 ⟨rfl,I⟩;have m0:=g4.add0 I;refine⟨m0,?_⟩;replace j:=j.new I;replace u:=u.new I;replace t:=t.new I;replace h:=h.acc I;refine nu 20 (WQ (n:=512) dA rfl rfl (by simp[*]) (by simp[*]))<|nu 21 (oP rfl)<|pq dA<|nJ<|Ee rfl (ig)<|nU<|nJ<|ny<|mZ (pz 3 j)<|nT<|oC 3 (_) j<|λp4 j e7=>?_
    replace u:=u.only e7 dB;replace t:=t.only e7 dB;replace h:=e7.below h U;refine nA<|nk<|nY<|ou [_,_] ⟨⟨_,rfl,Ld.qI (k:=3) j dA dA gp⟩,rfl,trivial⟩ ?_
    exact⟨_,c,vs,rfl,⟨u.mono b3,by rw[J];exact t.mono b3⟩,h⟩
  · skip
    refine qL<|qK<|rq<|qO<|nJ<|nI<|nI<|qH [] dA ?_
    intro m1 a8 m2;replace l:=l.new a8;replace j:=j.new a8;replace u:=u.new a8;replace t:=t.new a8;replace h:=h.acc a8;have m3:=l;have g5:=j;refine nu 0 (nS)<|nu 1 (rz rfl rfl)<|nu 2 (nS)<|Ap 94 rfl (dB)<|oU 3 dA rfl<|oU 4 dA rfl<|oU 5 dA rfl<|oU 6 dA rfl<|oU 7 dA rfl<|oU 8 dA rfl<|oU 9 dA rfl<|nu 10 (oP rfl)<|nu 11 (nS)<|nR 12 (λw' A=>pz 3 (g5.kq A))<|oh 13 dA<|qw rfl rfl (oz dA rfl) (e4 m1 u.sl t) ?_
    rintro _ e6 ⟨rfl,H⟩;have g6:=m2.add0 H;refine⟨g6,?_⟩;replace j:=j.new H;replace u:=u.new H;replace t:=t.new H;replace h:=h.acc H;refine nu 14 (rz rfl rfl)<|nu 15 (oP rfl)<|nu 16 (nS)<|Ap 108 rfl (dB)<|nR 17 (λw' A=>pz 3 (g5.kq A))<|nR 19 (λw' A=>pz 512 (m3.kq A))<|oh 18 dA<|qw rfl rfl (oz dA rfl) (c6 e6 u.sl t) ?_;rintro _ l9 ⟨rfl,I⟩;have m4:=g6.add0 I;refine⟨m4,?_⟩;replace j:=j.new I;replace u:=u.new I;replace t:=t.new I;replace h:=h.acc I;refine nu 20 (WQ (n:=512) dA rfl rfl (by simp[*]) (by simp[*]))<|nu 21 (oP rfl)<|pq dA<|nJ<|Ee rfl (ig)<|nU<|nJ<|ny<|mZ (pz 3 j)<|nT<|oC 3 (_) j<|λp5 j e8=>?_
    replace u:=u.only e8 dB;replace t:=t.only e8 dB;replace h:=e8.below h U;refine nA<|nk<|nY<|ou [_,_] ⟨⟨_,rfl,Ld.qI (k:=3) j dA dA gp⟩,rfl,trivial⟩ ?_
    exact⟨_,c,vs,rfl,⟨u.mono b3,by rw[J];exact t.mono b3⟩,h⟩
def Bv(S:List (Option (List UInt8)))(i:Nat)(r:List UInt8):List (Option (List UInt8)):=if i=S.length then S++[some r]else S.set i (some r)
def xZ(V:View)(i:Nat)(r:List UInt8):View:={V with slots:=Bv V.slots i r}
theorem YE:∀ (S:List (Option (List UInt8))) (i:Nat) (s:Option (List UInt8)),pU (S.set i s)<=pU S+(uR s).length
 |[],i,s=>by simp[pU]
 |t::S,0,s=>by simp[pU];omega
 |t::S,i+1,s=>by simp only[jC,pU];have:=YE S i s;omega
theorem zrB(V:View)(i:Nat)(r:List UInt8):rG (xZ V i r)<=rG V+4+r.length:=by
 unfold rG xZ Bv;dsimp only
 split
 .rw[Ni,aA];simp[pU,uR];omega
 .rw[bA];have:=YE V.slots i (some r);simp only[uR,jr]at this;omega
namespace rF
variable {w w':World}{lo:Nat}{o:List Nat}{vs:List Value}{S:List (Option (List UInt8))}
theorem Bv{b off c i:Nat}{r:List UInt8}(h:rF w lo o vs S)(h2:nM w (some ⟨b,off,none⟩) r.length 1 (bv r))(h3:b<w.heap.size)(h4:b∉o)(h5:lo<=b)(h9:r.length<=c):rF w lo o (vs.set i (.slice (some ⟨b,off,none⟩) r.length c)) (S.set i (some r)):=by
 have g:=h.len;refine⟨by simp[g],λj a=>?_,λj k a=>?_⟩
 .rw[ek]at a |-
  by_cases e:i=j
  .rw[if_pos e]at a;split at a<;>cases a
  .rw[if_neg e]at a |-;exact h.no j a
 .rw[ek]at a |-
  by_cases e:i=j
  .rw[if_pos e]at a |-
   by_cases f:i<S.length
   .rw[if_pos f]at a
    rw[if_pos dB];cases a;exact⟨b,off,c,rfl,h2,h3,h4,h5,h9⟩
   .rw[if_neg f]at a;cases a
  .rw[if_neg e]at a |-;exact h.yes j k a
end rF
theorem zqp{l:List Value}{i:Nat}{v:Value}(h:i<l.length):splice l i [v]=l.set i v:=R_ h
theorem NH:(bv uN).length=512:=by rw[oL,uN,bz]
theorem KD (V:View) (p pr:Option Addr) (c cr i B:Nat) (vs:List Value) (r:List UInt8) (w:World) (hown:og w B 23 1 (.slice p V.slots.length c) V.slots.length vs) (hs:rF w B (Value.ownBlock (.slice p V.slots.length c)).toList vs V.slots)
   (hBw:B<=w.heap.size) (hr:∀ w',Below B w w'->nM w' pr r.length 1 (bv r)) (hi:i<=V.slots.length) (hr4:r.length<=400) (hz:rG V<=512) (hk:V.kind<256) (hn:V.next<2147483648):
   Calls Tryz.prog 196 [Qz V p V.slots.length c,VB (i:Int), .slice pr r.length cr].toArray w
     (qb λv w'=>v=(if 512<rG (xZ V i r)then .tuple #[.agg (bv uN).toArray,VB 8]else .tuple #[.agg (bv (oW (xZ V i r))).toArray,VB 0])/\Below B w w'):=by
 have a:=zU.refl hBw;have A:=Below.refl w.heap.size w;have f4:maxLen=9223372036854775807:=by decide
 have f5:=zrB V i r;obtain⟨S,a0⟩:=aa (V.slots);obtain⟨n,J⟩:=aa (S.length);have a1:=hz;unfold rG at a1;rw[a0]at hown hs hi a1 |-;rw[J]at hown hs hi a1 |-;have R:=hown.lt;have f6:=NH;unfold Qz;refine nZ (rs:=[.cell 6 121, .tmp 7]) (n:=31) Tryz.func196 rfl rfl Tryz.ntmps196 dA rfl<|ny<|nK<|qi ([_,_,_]) rfl<|λl f7 a2 f a3=>?_
 have d5:=ag a.size a2;have f8:=ag A.size a2;replace hown:=hown.new a3;replace a:=a.acc a3;replace A:=A.acc a3;refine nK<|oD (List.replicate 512 (Value.int .u8 0)) dA<|λs f9 T h U=>?_
 have b6:=ag a.size T;have g0:=ag A.size T;have a4:l<s:=ae f.lt T;replace hown:=hown.new U;replace f:=f.new U;replace a:=a.acc U;replace A:=A.acc U;rw[AR]at h;have hs:=(hs.yN (o':=(Value.ownBlock (.slice p n c)).toList++[l,s]) (λg u=>by
   rcases ay.1 u with e|e
   · exact Or.inl e
   · simp only[ak,bq,or_false]at e
     omega)).new A
 refine nA<|nk<|wO (λq:Option Addr × Nat × Nat × List Value=>[(3,VA l),(6,VA s),(1,VB (i:Nat)),(2, .slice pr r.length cr)]) (λq w'=>row w' l [VB (V.kind:Int),VB (V.next:Int), .slice q.1 q.2.1 q.2.2.1] 242/\row w' s (bv uN) 121/\og w' B 23 1 (.slice q.1 q.2.1 q.2.2.1) q.2.1 q.2.2.2/\rF w' B ((Value.ownBlock (.slice q.1 q.2.1 q.2.2.1)).toList++[l,s]) q.2.2.2 (if i=n then S++[none]else S)/\q.2.1=(if i=n then S++[none]else S).length/\(Value.ownBlock (.slice q.1 q.2.1 q.2.2.1)≠some l/\Value.ownBlock (.slice q.1 q.2.1 q.2.2.1)≠some s)/\zU B w w') ?_ ?_
 ·
  refine ny<|ng<|mZ (nG 2)<|mZ (nH f)<|mZ (oV (e:=23) (sz:=1) dA rfl rfl)<|mZ (qB rfl rfl)<|nk<|oZ rfl (λd6=>?_)<|λd6=>?_
  ·
   refine nO<|mZ (nG 2)<|mZ (nH f)<|nK<|tT (e:=23) (VC) ([VC]) ([VC]) 1 dA dA rfl rfl rfl ⟨iT,iT⟩<|λb7 g1 a5 d7 K=>?_
   have g2:=ag a.size a5;have g3:l<b7:=ae f.lt a5;have g4:s<b7:=ae h.lt a5;replace hown:=hown.new K;replace f:=f.new K;replace h:=h.new K;replace hs:=hs.new K;replace a:=a.acc K;have d8:=d7.tY (m:=1) (sz:=1) rfl dB;have g5:=a.size;refine nK<|tu (e:=23) (sz:=1) (bytes:=24) (z:=VC) dA rfl dA rfl iT rfl hown rfl d8 kD jB dB (λg6=>dB)<|λg7 g8 X Y a6=>?_
   replace a:=a.own hown Y dB;have d9:=X.form;obtain⟨a7,a8,rfl⟩:=d9;have hs:=(hs.Mg Y a6).JP;have b8:l∉(Value.ownBlock (.slice p n c)).toList:=λu=>by have:=(R l (ah.1 u)).2;omega
   have b9:s∉(Value.ownBlock (.slice p n c)).toList:=λu=>by have:=(R s (ah.1 u)).2;omega
   have c4:Value.ownBlock (.slice a7 (n+1) a8)≠some l:=λe=>(a6 l e).elim (λe=>b8 (ah.2 e)) (λe=>by have:=f.lt;omega)
   have e0:Value.ownBlock (.slice a7 (n+1) a8)≠some s:=λe=>(a6 s e).elim (λe=>b9 (ah.2 e)) (λe=>by have:=h.lt;omega)
   have f:=f.nD (Kp.rU Y) b8;have h:=h.nD (Kp.rU Y) b9;refine mZ (nG 2)<|nT<|pQ f<|λe1 f a9=>?_
   replace hs:=hs.only a9 iB;replace h:=h.only a9 (bu a4);replace a:=a.TC a9 d5;have X:=og.PH X (by assumption:Only l _ e1) c4;refine oI<|oM ⟨(a7,n+1,a8,vs++[VC]),VF,f,h,X,?_,?_,⟨c4,e0⟩,a⟩
   · rw[if_pos dB];exact hs
   · rw[if_pos dB,aA,J];rfl
  ·
   refine nU<|oM ⟨(p,n,c,vs),VF,f,h,hown,?_,?_,⟨λe=>by have:=(R l e).2;omega,λe=>by have:=(R s e).2;omega⟩,a⟩
   · rw[if_neg dB];exact hs
   · rw[if_neg dB,J]
 ·
  rintro⟨q,m,b0,C⟩ g9 c5 ⟨f,h,hown,hs,u,⟨c6,c7⟩,a⟩;simp only at f hown hs u c6 c7;have b1:∃ S',(if i=n then S++[none]else S)=S':=⟨_,rfl⟩;obtain⟨S',L⟩:=b1;rw[L]at hs u;have h0:i<m:=by
    rw[u,<-L]
    split
    · rw[aA];simp;omega
    · omega
  have c8:S'.set i (some r)=Bv S i r:=by
    rw[<-L,Bv,J]
    split
    · rename_i b2;rw[b2,<-J,dN _ _ (ax _),bO];rfl
    · rfl
  have Z:(xZ V i r).slots.length=m:=by
    show(Bv V.slots i r).length=m;rw[a0,<-c8,bA,<-u]
  have c9:(xZ V i r).slots=Bv S i r:=by
    show Bv V.slots i r=_;rw[a0]
  have b1:=hown.form' dB;obtain⟨g,o,h1,e2,h2,h3,-⟩:=b1
  injection e2 with e3 h4 e4
  subst e3 e4;have j:qU c5 B 23 1 g o m b0 C:=hown;have h5:C.length=m:=by have:=hown.1;omega
  replace hs:rF c5 B [g,l,s] C S':=hs;have a2:g≠l:=λe=>c6 kZ
  have T:g≠s:=λe=>c7 kZ
  refine nI<|qH [g] dA ?_
  intro h6 M d0;replace f:=f.new M;replace h:=h.new M;replace hs:=hs.new M;replace j:=j.new M;replace a:=a.acc M;have e5:=f;have h7:=h;have h8:=hs;have h9:=j;have i0:=a;refine nu 0 (nG 2)<|nR 1 (λw' L=>nH (e5.kq L))<|nu 2 (nS)<|nu 4 (nS)<|oh 3 dA<|rf rfl rfl<|Uv (e:=5) (sz:=1) dA dA<|λb3 i1 N e6 E=>?_
  have d1:=d0.add0 E;refine⟨d1,?_⟩;have i2:=ag d0.size N;have i3:=ag a.size N;have i4:l<b3:=ae f.lt N;have i5:s<b3:=ae h.lt N;have i6:g<b3:=ae j.lt N;replace f:=f.new E;replace h:=h.new E;replace hs:=hs.new E;replace j:=j.new E;replace a:=a.acc E;refine oh 5 dA ?_;have i7:=f.lt;have i8:=h.lt;have i9:=j.lt;have j0:=a.size;refine rf rfl rfl<|zku (e:=5) (sz:=1) (bytes:=1) (z:=.int .u8 0) dA rfl dA rfl iT rfl e6.lt rfl (hr _ a.bel) dB dB<|λy O F j1 t e7 e8 e9 G=>?_
  have d2:=d1.add0 G;refine⟨d2,?_⟩;replace f:=f.new G;replace h:=h.new G;replace hs:=hs.new G;replace j:=j.new G;replace a:=a.acc G;have j2:g<y/\l<y/\s<y/\B<=y:=by rcases e7 with b2|b2<;>omega
  refine nu 6 (uX (e:=23) dA rfl rfl i dB dB)<|oh 7 dA<|rA rfl rfl<|Jj ([.slice (some ⟨y,O,none⟩) r.length F]) i j rfl rfl dA kI kD<|λf0 j D=>?_
  have f1:=d2.aq D;refine⟨f1,?_⟩;replace f:=f.only D dB;replace h:=h.only D dB;replace hs:=hs.only D iB;replace t:=t.only D dB;replace a:=a.TC D dB;rw[zqp dB]at j;have hs:=hs.Bv (i:=i) (c:=F) t (by rw[D.size];exact e8) jY dB e9;rw[c8]at hs;have d3:=fun(w':World) (b4:nM w' (some ⟨g,o,none⟩) m 1 (C.set i (.slice (some ⟨y,O,none⟩) r.length F))) (b5:rF w' B [g,l,s] (C.set i (.slice (some ⟨y,O,none⟩) r.length F)) (Bv S i r))=>BS (xZ V i r) (some ⟨g,o,none⟩) b0 _ w' B _ (by rw[Z];exact b4) (by rw[c9];exact b5) dB
  rw[Z]at d3;refine pq dA<|nJ<|nI<|ny<|mZ (pz 3 f)<|nP (d3 f0 j.sl hs) ?_
  rintro _ f2 ⟨rfl,H⟩;replace f:=f.new H;replace h:=h.new H;replace hs:=hs.new H;replace j:=j.new H;replace t:=t.new H;replace a:=a.acc H;refine mZ (rz rfl rfl)<|nk<|oZ rfl (λf3=>?_)<|λf3=>?_
  ·
   refine ny<|mZ (BF (bv uN) lC)<|nT<|oC 512 (bv uN) h<|λj3 h P=>?_
   replace f:=f.only P (ai a4);replace hs:=hs.only P iB;replace j:=j.only P dB;replace t:=t.only P dB;replace a:=a.TC P b6;refine nA<|nk<|nY<|qy<|ou [_,_] ⟨⟨_,rfl,Ld.qI (k:=512) h dA dA gp⟩,rfl,trivial⟩ ?_
   exact⟨by rw[if_pos dB];rfl,a.bel⟩
  ·
   have d4:=fun(w':World) (b4:nM w' (some ⟨g,o,none⟩) m 1 (C.set i (.slice (some ⟨y,O,none⟩) r.length F))) (b5:rF w' B [g,l,s] (C.set i (.slice (some ⟨y,O,none⟩) r.length F)) (Bv S i r))=>SA (xZ V i r) (some ⟨g,o,none⟩) b0 _ w' B _ (by rw[Z];exact b4) (by rw[c9];exact b5) hk hn dB
   rw[Z]at d4;have j4:(bv (oW (xZ V i r))).length=512:=by rw[oL];exact Aq (xZ V i r) dB
   refine nU<|nJ<|ny<|mZ (pz 3 f)<|nP (d4 f2 j.sl hs) ?_
   rintro _ j5 ⟨rfl,I⟩;replace f:=f.new I;replace h:=h.new I;replace hs:=hs.new I;replace j:=j.new I;replace t:=t.new I;replace a:=a.acc I;refine nT<|oC 512 (bv (oW (xZ V i r))) h<|λj6 h Q=>?_
   replace f:=f.only Q (ai a4);replace hs:=hs.only Q iB;replace j:=j.only Q dB;replace t:=t.only Q dB;replace a:=a.TC Q b6;refine nA<|nk<|nY<|ou [_,_] ⟨⟨_,rfl,Ld.qI (k:=512) h dA dA gp⟩,rfl,trivial⟩ ?_
   exact⟨by rw[if_neg dB];rfl,a.bel⟩
def MM(V:View)(i:Nat)(r:List UInt8):List UInt8:=if 512<rG (xZ V i r)then uN else oW (xZ V i r)
def Cs(V:View)(i:Nat)(r:List UInt8):Nat:=if 512<rG (xZ V i r)then 8 else 0
theorem zrC(V:View)(i:Nat)(r:List UInt8):(bv (MM V i r)).length=512:=by
 unfold MM
 split
 .exact NH
 .rw[oL];exact Aq _ dB
theorem FE (V:View) (p pr:Option Addr) (c cr i B:Nat) (vs:List Value) (r:List UInt8) (w:World) (hown:og w B 23 1 (.slice p V.slots.length c) V.slots.length vs) (hs:rF w B (Value.ownBlock (.slice p V.slots.length c)).toList vs V.slots)
  (hBw:B<=w.heap.size) (hr:∀ w',Below B w w'->nM w' pr r.length 1 (bv r)) (hi:i<=V.slots.length) (hr4:r.length<=400) (hV:Good V):
  Calls Tryz.prog 196 [Qz V p V.slots.length c,VB (i:Int), .slice pr r.length cr].toArray w
   (qb λv w'=>v= .tuple #[.agg (bv (MM V i r)).toArray,VB (Cs V i r:Nat)]/\Below B w w'):=by
 have a:=KD V p pr c cr i B vs r w hown hs hBw hr hi hr4 hV.size (by have:=hV.kind;omega) hV.next;refine a.to λv w' ⟨e,f⟩=>⟨?_,f⟩
 rw[e,MM,Cs]
 split<;>rfl
theorem vk{V:View}(hV:Good V):(bv (oW V)).length=512:=by rw[oL];exact Aq V hV.size
def Au(S:List (Option (List UInt8)))(k:Int):List UInt8:=if Az S k then uR (S.getD k.toNat none)else[]
theorem Rn(k:Int)(w:World):CQ 133 [VB k] w (λv w'=>v=(if 0<=k/\k<=4 then .tuple #[.agg (bv (oW ⟨k.toNat,0,[]⟩)).toArray,VB 0]else .tuple #[.agg (bv uN).toArray,VB 2])/\VD w w'):=by
 have a:=Below.refl w.heap.size w;have t:=NH;refine nZ (rs:=[.cell 2 121, .tmp 3]) (n:=14) Tryz.func133 rfl rfl Tryz.ntmps133 dA rfl<|ny<|nK<|oD (List.replicate 512 (Value.int .u8 0)) dA<|λu w2 h c i=>?_
 have e:=ag a.size h;replace a:=a.acc i;rw[AR]at c;refine nA<|nk<|nI<|ny<|ng<|mZ (pI rfl rfl)<|ng<|sZ 6 rfl (λj=>?_)<|λj=>?_
 ·
  refine nN<|nN<|mZ (pK rfl)<|nk<|yB rfl<|ny<|mZ (BF (bv uN) lC)<|nT<|oC 512 (bv uN) c<|λy c l=>?_
  replace a:=l.below a e;refine lT ?_;exact⟨by rw[if_neg dB];rfl,a⟩
 ·
  refine nE<|ng<|nE<|mZ (rz rfl rfl)<|mZ (oP rfl)<|nk<|oZ rfl (λo=>?_)<|λo=>?_
  ·
   refine ny<|mZ (BF (bv uN) lC)<|nT<|oC 512 (bv uN) c<|λz c p=>?_
   replace a:=p.below a e;refine lT ?_;exact⟨by rw[if_neg dB];rfl,a⟩
  ·
   have q:∃ m:Nat,k=m:=⟨k.toNat,dB⟩;obtain⟨m,rfl⟩:=q;rw[aW,if_pos dB];have f:=λw'=>SA ⟨m,0,[]⟩ none 0 [] w' 0 [] (nM.nil _ _ _) (rF.nil _ _ _) (by show m<256;omega) (by show 0<2147483648;omega) (by simp[rG,pU])
   have r:(bv (oW ⟨m,0,[]⟩)).length=512:=by rw[oL];exact Aq _ (by simp[rG,pU])
   generalize oW ⟨m,0,[]⟩=Q at f r |-;refine nU<|nJ<|ny<|ng<|mZ (Ay (VB (m:Int)) [VB (m:Int),VB 0,VC] rfl dA)<|nP (f w2) ?_
   rintro _ A ⟨rfl,g⟩;replace c:=c.new g;replace a:=a.acc g;refine nT<|oC 512 (bv Q) c<|λB c s=>?_
   replace a:=s.below a e;refine lU ?_;exact⟨rfl,a⟩
abbrev vw(V:View)(p:Option Addr)(c:Nat):List Value:=[VB (V.kind:Int),VB (V.next:Int), .slice p V.slots.length c]
structure Vw(w:World)(lo:Nat)(av:List Nat)(p:Option Addr)(n c:Nat)(vs:List Value)(S:List (Option (List UInt8))):Prop where
 own:og w lo 23 1 (.slice p n c) n vs
 slts:rF w lo ((Value.ownBlock (.slice p n c)).toList++av) vs S
 ne:∀ g,g∈av->Value.ownBlock (.slice p n c)≠some g
namespace Vw
variable {w w':World}{lo:Nat}{av:List Nat}{p:Option Addr}{n c:Nat}{vs:List Value}{S:List (Option (List UInt8))}
theorem of(h:OwV w lo p n c vs S):Vw w lo [] p n c vs S:=⟨h.1,by rw[aR];exact h.2,λg h=>by simp at h⟩
theorem new(h:Vw w lo av p n c vs S)(hb:VD w w'):Vw w' lo av p n c vs S:=⟨h.own.new hb,h.slts.new hb,h.ne⟩
theorem nD{M:List Nat}(h:Vw w lo av p n c vs S)(k:Kp M w w')(hM:∀ g,g∈M->g∈av):Vw w' lo av p n c vs S:=
 ⟨h.own.nD k λg a=>h.ne g (hM g a),h.slts.nD k λg a=>Or.inr (aB _ (hM g a)),h.ne⟩
theorem only{g:Nat}(h:Vw w lo av p n c vs S)(ho:Only g w w')(hg:g∈av):Vw w' lo av p n c vs S:=h.nD (Kp.rJ ho) λa c=>by
 have:a=g:=by simpa using c
 rw[this];exact hg
theorem cons{g:Nat}(h:Vw w lo av p n c vs S)(hg:w.heap.size<=g):Vw w lo (g::av) p n c vs S:=by
 refine⟨h.own,h.slts.yN λa c=>?_,λa c e=>?_⟩
 .rcases ay.1 c with e|e
  .exact Or.inl<|aF _ e
  .rcases ak.1 e with rfl|e
   .exact Or.inr<|Or.inl hg
   .exact Or.inl<|aB _ e
 .rcases ak.1 c with rfl|f
  .have:=(h.own.lt a e).2;omega
  .exact h.ne a f e
theorem out(h:Vw w lo av p n c vs S):rF w lo (Value.ownBlock (.slice p n c)).toList vs S:=h.slts.yN λg a=>Or.inl (aF _ a)
theorem some(h:Vw w lo av p n c vs S)(hn:0<n):∃ g o,p=Option.some ⟨g,o,none⟩/\lo<=g/\g<w.heap.size:=by
 obtain⟨g,o,i,a,c,e,_⟩:=h.own.form' hn
 injection a with f j k
 exact⟨g,o,f,c,e⟩
end Vw
theorem Mq(V:View)(w:World)(hV:Good V):
  CQ 160 [.agg (bv (oW V)).toArray] w (λv w'=>∃ p c vs,v= .tuple #[Qz V p V.slots.length c, .bool true]/\Vw w' w.heap.size [] p V.slots.length c vs V.slots/\VD w w'):=
 (Kv V w hV).to λv w' ⟨p,c,vs,a,e,f⟩=>⟨p,c,vs,a,Vw.of e,f⟩
theorem QQ(V:View)(w:World)(hV:Good V):CQ 108 [.agg (bv (oW V)).toArray] w (λv w'=>v=VB (V.kind:Int)/\VD w w'):=by
 have a:=Below.refl w.heap.size w;have q:=vk hV;refine nZ (rs:=[.tmp 2]) (n:=12) Tryz.func108 rfl rfl Tryz.ntmps108 dA rfl<|ny<|nK<|qi ((bv (oW V))) rfl<|λr w1 s i j=>?_
 replace a:=a.acc j;refine oG<|mZ (pz 512 i)<|nP (Mq V w1 hV) ?_
 rintro _ t ⟨p,c,vs,rfl,e,k⟩;replace a:=a.acc k;refine lV ?_;have l:=e;refine nK<|oD ([VB 0,VB 0,VC]) dA<|λu y h f g=>?_
 have m:=ag a.size h;replace e:=e.new g;replace a:=a.acc g;replace e:=(l.cons h).new g;refine nT<|oC 3 (vw V p c) f<|λz f o=>?_
 replace a:=o.below a m;refine oG<|mZ (nG 0)<|mZ (nH f)<|nA<|nk<|nY<|ou [_] ⟨rfl,trivial⟩ ?_
 exact⟨rfl,a⟩
theorem Er(V:View)(w:World)(hV:Good V):CQ 176 [.agg (bv (oW V)).toArray] w (λv w'=>v=VB (V.next:Int)/\VD w w'):=by
 have a:=Below.refl w.heap.size w;have q:=vk hV;refine nZ (rs:=[.tmp 2]) (n:=12) Tryz.func176 rfl rfl Tryz.ntmps176 dA rfl<|ny<|nK<|qi ((bv (oW V))) rfl<|λr w1 s i j=>?_
 replace a:=a.acc j;refine oG<|mZ (pz 512 i)<|nP (Mq V w1 hV) ?_
 rintro _ t ⟨p,c,vs,rfl,e,k⟩;replace a:=a.acc k;refine lV ?_;have l:=e;refine nK<|oD ([VB 0,VB 0,VC]) dA<|λu y h f g=>?_
 have m:=ag a.size h;replace e:=e.new g;replace a:=a.acc g;replace e:=(l.cons h).new g;refine nT<|oC 3 (vw V p c) f<|λz f o=>?_
 replace a:=o.below a m;refine oG<|mZ (nG 1)<|mZ (nH f)<|nA<|nk<|nY<|ou [_] ⟨rfl,trivial⟩ ?_
 exact⟨rfl,a⟩
theorem Pf(V:View)(w:World)(hV:Good V):CQ 227 [.agg (bv (oW V)).toArray] w (λv w'=>v= .bool true/\VD w w'):=by
 have a:=Below.refl w.heap.size w;have q:=vk hV;refine nZ (rs:=[.tmp 2]) (n:=11) Tryz.func227 rfl rfl Tryz.ntmps227 dA rfl<|ny<|nK<|qi ((bv (oW V))) rfl<|λr w1 s i j=>?_
 replace a:=a.acc j;refine oG<|mZ (pz 512 i)<|nP (Mq V w1 hV) ?_
 rintro _ t ⟨p,c,vs,rfl,e,k⟩;replace a:=a.acc k;refine lV ?_;have l:=e;refine nK<|oD ([VB 0,VB 0,VC]) dA<|λu y g h f=>?_
 have m:=ag a.size g;replace e:=e.new f;replace a:=a.acc f;replace e:=(l.cons g).new f;refine nT<|oC 3 (vw V p c) h<|λz h o=>?_
 replace a:=o.below a m;refine oG<|ng<|nA<|nk<|nY<|ou [_] ⟨rfl,trivial⟩ ?_
 exact⟨rfl,a⟩
theorem FC(V:View)(w:World)(hV:Good V):CQ 119 [.agg (bv (oW V)).toArray] w (λv w'=>v=VB (V.slots.length:Int)/\VD w w'):=by
 have a:=Below.refl w.heap.size w;have r:=vk hV;refine nZ (rs:=[.tmp 2]) (n:=13) Tryz.func119 rfl rfl Tryz.ntmps119 dA rfl<|ny<|nK<|qi ((bv (oW V))) rfl<|λs w1 t j k=>?_
 replace a:=a.acc k;refine oG<|mZ (pz 512 j)<|nP (Mq V w1 hV) ?_
 rintro _ u ⟨p,c,vs,rfl,f,l⟩;replace a:=a.acc l;refine lV ?_;have m:=f;refine nK<|oD ([VB 0,VB 0,VC]) dA<|λy z i g h=>?_
 have o:=ag a.size i;replace f:=f.new h;replace a:=a.acc h;replace f:=(m.cons i).new h;refine nT<|oC 3 (vw V p c) g<|λA g q=>?_
 replace a:=q.below a o;refine oG<|mZ (nG 2)<|mZ (nH g)<|mZ (oV (e:=23) (sz:=1) dA rfl rfl)<|nA<|nk<|nY<|ou [_] ⟨rfl,trivial⟩ ?_
 exact⟨rfl,a⟩
theorem JE:∃ Z,uN=Z/\List.replicate 512 (Value.int .u8 0)=bv Z/\(bv Z).length=512:=⟨_,rfl,AR,NH⟩
theorem zua(S:List (Option (List UInt8))):xw S<=S.length:=List.findIdx_le_length
theorem Sg(V:View)(k:Int)(w:World)(hV:Good V):Calls Tryz.prog 120 [.agg (bv (oW V)).toArray,VB k].toArray w
   (qb λv w'=>(∃ q c,v= .tuple #[.slice q (Au V.slots k).length c,VB (if Az V.slots k then 0 else 6)]/\nM w' q (Au V.slots k).length 1 (bv (Au V.slots k))/\(Au V.slots k).length<=c/\∀ b o,q=some ⟨b,o,none⟩->w.heap.size<=b)/\VD w w'):=by
 have a:=Below.refl w.heap.size w;have P:=vk hV;refine nZ (rs:=[.tmp 4, .tmp 5]) (n:=26) Tryz.func120 rfl rfl Tryz.ntmps120 dA rfl<|ny<|nK<|qi ((bv (oW V))) rfl<|λQ w2 R C z=>?_
 replace a:=a.acc z;refine nA<|oG<|mZ (pz 512 C)<|nP (Mq V w2 hV) ?_
 rintro _ S ⟨p,c,vs,rfl,f,D⟩;replace a:=a.acc D;refine lV ?_;have E:=f;refine nK<|oD ([VB 0,VB 0,VC]) dA<|λT U A j l=>?_
 have F:=ag a.size A;replace f:=f.new l;replace a:=a.acc l;replace f:=(E.cons A).new l;refine nT<|oC 3 (vw V p c) j<|λG j B=>?_
 replace f:=f.only B iB;replace a:=B.below a F;refine nA<|nk<|nI<|pE<|ny<|ng<|mZ (sj rfl)<|nA<|nk<|EJ rfl (rfl)<|ny<|mZ (pz 3 j)<|ng<|nP (PL V p c vs k G _ _ f.own.sl f.slts) ?_
 rintro _ X ⟨rfl,m⟩;replace f:=f.new m;replace j:=j.new m;replace a:=a.acc m;refine mZ (sj rfl)<|nA<|nk<|Ki rfl (λh=>?_)<|λh=>?_
 ·
  refine ny<|nA<|nA<|nk<|nY<|sS<|qy<|ou [_,_] ⟨rfl,rfl,trivial⟩<|⟨⟨none,0,?_,?_,?_,λb o e=>by cases e⟩,a⟩
  · rw[Au,h];rfl
  · rw[Au,h];exact nM.nil _ _ _
  · rw[Au,h];exact ax _
 ·
  have H:∃ i:Nat,k=i:=⟨k.toNat,by unfold Az at h;simp at h;omega⟩;obtain⟨i,rfl⟩:=H;obtain⟨s,r⟩:∃ s,V.slots[i]?=some s:=by
    refine⟨_,aG ?_⟩;unfold Az at h;simp only[aN]at h;have t:=h.2;rw[aW,bI]at t;rcases dH i V.slots.length with u|u
    .exact u
    .rw[bK u]at t;cases t
  have Y:=(aL.1 r).1;have I:=f.slts.val r;obtain⟨q,J,K,L,Z,M,N⟩:=I;have y:Au V.slots (i:Int)=uR s:=by rw[Au,h,if_pos rfl,aW,bI,r];rfl
  have O:=f.some dB;obtain⟨g,o,rfl,_,_⟩:=O;refine nU<|pO<|nJ<|ny<|mZ (nG 2)<|mZ (nH j)<|ng<|mZ (uX (e:=23) dA rfl rfl (i) dB dB)<|mZ (oK rfl (Ld.sl1 f.own.sl dA K))<|nA<|nA<|nk<|nY<|ou [_,_] ⟨rfl,rfl,trivial⟩<|⟨⟨q,J,?_,?_,?_,λb o e=>ag z.size (N b o e)⟩,a⟩
  · rw[y,h];rfl
  · rw[y];exact L
  · rw[y];exact M
theorem LF(V:View)(m:Nat)(w:World)(hV:Good V)(hm:m<2147483648):Calls Tryz.prog 161 [.agg (bv (oW V)).toArray,VB (m:Int)].toArray w
  (qb λv w'=>v= .tuple #[.agg (bv (oW {V with next:=m})).toArray,VB 0]/\VD w w'):=by
 have a:=Below.refl w.heap.size w;have R:=hV.kind;have r:=λw' p c vs lo o B C=>SA {V with next:=m} p c vs w' lo o B C (by show V.kind<256;omega) hm hV.size
 have D:(bv (oW {V with next:=m})).length=512:=by rw[oL];exact Aq _ hV.size
 generalize oW {V with next:=m}=Q at r D |-;have E:=vk hV;have s:=Mq V;generalize oW V=F at s E |-;obtain⟨Z,S,G,T⟩:=JE;refine nZ (rs:=[.cell 4 121, .tmp 5]) (n:=29) Tryz.func161 rfl rfl Tryz.ntmps161 dA rfl<|ny<|nK<|qi ((bv F)) rfl<|λU w2 X i H=>?_
 replace a:=a.acc H;refine nK<|oD (List.replicate 512 (Value.int .u8 0)) dA<|λI J K e t=>?_
 have L:=ag a.size K;replace i:=i.new t;replace a:=a.acc t;rw[G]at e;refine oG<|mZ (pz 512 i)<|nP (s J hV) ?_
 rintro _ Y ⟨p,c,vs,rfl,f,u⟩;replace e:=e.new u;replace a:=a.acc u;refine lV ?_;have M:=f;refine nK<|oD ([VB 0,VB 0,VC]) dA<|λN a0 j g h=>?_
 have y:=ag a.size j;have z:I<N:=ae e.lt j;replace e:=e.new h;replace f:=f.new h;replace a:=a.acc h;replace f:=(M.cons j).new h;refine nT<|oC 3 (vw V p c) g<|λa1 g l=>?_
 replace e:=e.only l (ai z);replace f:=f.only l iB;replace a:=l.below a y;refine nA<|nk<|nI<|pE<|ny<|ng<|mZ (sj rfl)<|nA<|nk<|EJ rfl (rfl)<|ny<|ng<|mZ (pI rfl rfl)<|ng<|uy 20 rfl (dB)<|nE<|ng<|nE<|mZ (tV rfl rfl)<|mZ (oP rfl)<|nA<|nk<|qg rfl (dB)<|nU<|pO<|nJ<|ny<|ng<|mZ (nG 1)<|nT<|pQ g<|λO g q=>?_
 replace e:=e.only q (ai z);replace f:=f.only q iB;replace a:=q.below a y;refine qx<|mZ (pz 3 g)<|nP (r O p c vs _ _ f.own.sl f.slts) ?_
 rintro _ a2 ⟨rfl,A⟩;replace e:=e.new A;replace a:=a.acc A;refine nT<|oC 512 (bv Q) e<|λa3 e P=>?_
 replace a:=P.below a L;refine nA<|nk<|nY<|ou [_,_] ⟨⟨_,rfl,Ld.qI (k:=512) e dA dA gp⟩,rfl,trivial⟩ ?_
 exact⟨rfl,a⟩
def yQ(V:View)(r:List UInt8):Nat:=if 400<r.length then 3 else Cs V (xw V.slots) r
def Cc(V:View)(r:List UInt8):List UInt8:=if yQ V r=0 then oW (xZ V (xw V.slots) r)else uN
theorem PP(V:View)(pr:Option Addr)(cr:Nat)(r:List UInt8)(w:World)(hV:Good V)(hr:nM w pr r.length 1 (bv r)):Calls Tryz.prog 134 [.agg (bv (oW V)).toArray, .slice pr r.length cr].toArray w
   (qb λv w'=>v= .tuple #[.agg (bv (Cc V r)).toArray,VB (if yQ V r=0 then xw V.slots else 0:Nat),VB (yQ V r:Nat)]/\VD w w'):=by
 have a:=Below.refl w.heap.size w;have I:=Mq V;have a2:=vk hV;have J:=zua V.slots;obtain⟨F,K⟩:=aa (xw V.slots);have L:=Kq V;rw[K]at J L;have M:=FE V;have a3:=zrC V F r;have a4:Cs V F r=0\/Cs V F r=8:=by unfold Cs;split<;>simp
 have N:Cs V F r=0->MM V F r=oW (xZ V F r):=by
   unfold Cs MM;split
   .intro a5;cases a5
   .intro _;rfl
 rw[Cc,yQ,K];obtain⟨P,o⟩:=aa (MM V F r);obtain⟨E,j⟩:=aa (Cs V F r);obtain⟨R,z⟩:=aa (oW (xZ V F r));have O:=λp c cr B vs w a6 a7 a8 a9 b0=>M p pr c cr F B vs r w a6 a7 a8 a9 J b0 hV
 rw[o,j]at O;rw[o]at a3;rw[j]at a4;rw[o,j,z]at N;rw[j,z];clear M o j z;generalize oW V=Q at I a2 |-;obtain⟨Z,b1,q,d6⟩:=JE;rw[b1];refine nZ (rs:=[.cell 4 121, .tmp 5, .tmp 6]) (n:=41) Tryz.func134 rfl rfl Tryz.ntmps134 dA rfl<|ny<|nK<|qi ((bv Q)) rfl<|λd7 w2 d8 A b2=>?_
 replace a:=a.acc b2;refine nK<|oD (List.replicate 512 (Value.int .u8 0)) dA<|λS C b3 f T=>?_
 have D:=ag a.size b3;replace A:=A.new T;replace a:=a.acc T;rw[q]at f;refine nA<|oG<|mZ (pz 512 A) ?_
 have U:=a.size;have b4:=f.lt;have h:=Below.refl C.heap.size C;refine nP (I C hV) ?_;rintro _ d9 ⟨p,c,vs,rfl,g,G⟩;replace f:=f.new G;replace a:=a.acc G;replace h:=h.acc G;refine lV ?_;have b5:=g;refine nK<|oD ([VB 0,VB 0,VC]) dA<|λb6 e0 s i l=>?_
 have b7:=ag a.size s;have b8:=ag h.size s;have b9:S<b6:=ae f.lt s;replace f:=f.new l;replace g:=g.new l;replace a:=a.acc l;replace h:=h.acc l;replace g:=(b5.cons s).new l;refine nT<|oC 3 (vw V p c) i<|λc4 i t=>?_
 replace f:=f.only t (ai b9);replace g:=g.only t iB;replace a:=t.below a b7;replace h:=t.below h b8;refine nA<|nk<|nI<|pE<|ny<|ng<|mZ (sj rfl)<|nA<|nk<|EJ rfl (rfl)<|ny<|ng<|mZ (oV (e:=5) (sz:=1) dA rfl rfl)<|mZ (rz rfl rfl)<|nA<|nk<|oZ rfl (λc5=>?_)<|λc5=>?_
 ·
  refine ny<|mZ (BF (bv Z) (by rw[<-q];kernel_rfl))<|nT<|oC 512 (bv Z) f<|λe1 f c6=>?_
  replace a:=c6.below a D;refine nA<|nA<|nk<|nY<|sS<|qy<|ou [_,_,_] ⟨⟨_,rfl,Ld.qI (k:=512) f dA dA gp⟩,rfl,rfl,trivial⟩ ?_
  have H:(if 400<r.length then 3 else E)=3:=if_pos dB;rw[H];exact⟨rfl,a⟩
 ·
  have H:(if 400<r.length then 3 else E)=E:=if_neg dB;rw[H];refine nU<|pO<|nJ<|ny<|mZ (pz 3 i)<|nP (L p c vs c4 _ _ g.own.sl g.slts) ?_
  rintro _ c7 ⟨rfl,m⟩;replace f:=f.new m;replace g:=g.new m;replace i:=i.new m;replace a:=a.acc m;replace h:=h.acc m;refine oG<|mZ (pz 3 i)<|ng<|ng ?_;have c8:=λw' hb=>hr.below (w':=w') (a.trans (Below.mono hb U)) (ax _)
  refine qA rfl (oz dA rfl) (O p c cr _ vs c7 g.own g.out h.size c8 dB) ?_;rintro _ e2 ⟨rfl,X⟩;replace a:=a.trans (X.mono U);replace f:=f.below X b4;refine ng<|mZ (nW rfl rfl)<|mZ (nW rfl rfl)<|nK<|oD (List.replicate 512 (Value.int .u8 0)) dA<|λc9 e3 Y u a0=>?_
  have d0:=ag a.size Y;have d1:S<c9:=ae f.lt Y;replace f:=f.new a0;replace a:=a.acc a0;rw[q]at u;refine nT<|oC 512 (bv P) u<|λe4 u a1=>?_
  replace f:=f.only a1 (ai d1);replace a:=a1.below a d0;refine nA<|nk<|nI<|ny<|ng<|mZ (pJ rfl rfl)<|nk<|oZ rfl (λd2=>?_)<|λd2=>?_
  ·
   refine ny<|mZ (BF (bv Z) (by rw[<-q];kernel_rfl))<|ng<|nT<|oC 512 (bv Z) f<|λe5 f d3=>?_
   replace a:=d3.below a D;refine nA<|nA<|nk<|nY<|qy<|ou [_,_,_] ⟨⟨_,rfl,Ld.qI (k:=512) f dA dA gp⟩,rfl,rfl,trivial⟩ ?_
   rw[if_neg dB,if_neg dB];exact⟨rfl,a⟩
  ·
   refine nU<|nJ<|ny<|mZ (pz 512 u)<|ng<|nT<|oC 512 (bv P) f<|λe6 f d4=>?_
   replace a:=d4.below a D;refine nA<|nA<|nk<|nY<|ou [_,_,_] ⟨⟨_,rfl,Ld.qI (k:=512) f dA dA gp⟩,rfl,rfl,trivial⟩ ?_
   have y:E=0:=by omega
   have d5:=N y;refine⟨?_,a⟩;show Value.tuple #[.agg (bv P).toArray,VB (F:Nat),VB (0:Nat)]=_;rw[if_pos y,if_pos y,d5,y]
end Go.Proofs.YtpaniebomegnbaaGreat
namespace Coup
open Go Go.RowKit Go.Maps
def qW(f:Nat->Option Value)(a:Nat):Nat->List (Lit × DataW Value)
 |0=>[]
 |m+1=>match f a with
  |some v=>(.int .i64 (a:Int), .held v)::qW f (a+1) m
  |none=>qW f (a+1) m
theorem UR{f g:Nat->Option Value}:∀ (m a:Nat),(∀ i,a<=i->i<a+m->f i=g i)->qW f a m=qW g a m
 |0,a,h=>rfl
 |m+1,a,h=>by
  rw[qW,qW,h a (ax _) dB,UR m (a+1) (λi c e=>h i dB dB)]
theorem RN(f:Nat->Option Value):∀ m a,(qW f a m).length<=m
 |0,a=>ax _
 |m+1,a=>by
  have:=RN f m (a+1);rw[qW];split<;>simp<;>omega
theorem Uh{f:Nat->Option Value}:∀ {m a:Nat} {x:Lit × DataW Value},x∈qW f a m->∃ i,a<=i/\i<a+m/\x.1= .int .i64 (i:Int)
 |0,a,x,c=>by simp[qW]at c
 |m+1,a,x,c=>by
  rw[qW]at c
  split at c
  .rcases ak.1 c with rfl|c
   .exact⟨a,ax _,dB,rfl⟩
   .obtain⟨i,f,g,e⟩:=Uh c;exact⟨i,dB,dB,e⟩
  .obtain⟨i,f,g,e⟩:=Uh c;exact⟨i,dB,dB,e⟩
theorem Ke(a b:Nat):Lit.sameKey (.int .i64 (a:Int)) (.int .i64 (b:Int))=decide (a=b):=by
 simp only[Lit.sameKey,true_and]
 by_cases c:a=b
 .simp[c]
 .have:¬((a:Int)=b):=by omega
  simp[c,this]
theorem Tk{f:Nat->Option Value}{i:Nat}:∀ (m a:Nat),a<=i->i<a+m->(qW f a m).find? (λp=>p.1.sameKey (.int .i64 (i:Int)))=(f i).map λv=>(.int .i64 (i:Int), .held v)
 |0,a,h1,h2=>by omega
 |m+1,a,h1,h2=>by
  have k:∀ (g c:Nat),i<c->(qW f c g).find? (λp=>p.1.sameKey (.int .i64 (i:Int)))=none:=λg c e=>by
   rw[List.find?_eq_none];intro x l;obtain⟨j,q,r,o⟩:=Uh l;rw[o,Ke];simp;omega
  by_cases e:a=i
  .subst e
   rw[qW];cases hf:f a with
   |some v=>simp only[List.find?_cons,Ke];simp
   |none=>exact k m (a+1) dB
  .rw[qW]
   have h:=Tk (f:=f) (i:=i) m (a+1) dB dB;cases hf:f a with
   |some v=>simp only[List.find?_cons,Ke];simp[e,h]
   |none=>exact h
def vY(f:Nat->Option Value)(i:Nat)(v:Option Value):Nat->Option Value:=λj=>if j=i then v else f j
theorem VK{f:Nat->Option Value}{i:Nat}:∀ (m a:Nat),(qW f a m).filter (λp=>!p.1.sameKey (.int .i64 (i:Int)))=qW (vY f i none) a m
 |0,a=>rfl
 |m+1,a=>by
  have c:=VK (f:=f) (i:=i) m (a+1);rw[qW,qW]
  by_cases e:a=i
  .rw[show vY f i none a=none from if_pos e]
   cases hf:f a with
   |some v=>subst e;simp only[dE,Ke];simpa using c
   |none=>exact c
  .rw[show vY f i none a=f a from if_neg e]
   cases hf:f a with
   |some v=>simp only[dE,Ke];simp[e,c]
   |none=>exact c
theorem B_{f:Nat->Option Value}{i:Nat}{v:Value}:∀ (m a:Nat),f i=none->a<=i->i<a+m->DataW.insert (.int .i64 (i:Int), .held v) (qW f a m)=qW (vY f i (some v)) a m
 |0,a,_,h1,h2=>by omega
 |m+1,a,hn,h1,h2=>by
  rw[qW,qW]
  by_cases c:a=i
  .subst c
   rw[show vY f a (some v) a=some v from if_pos rfl,hn];have e:qW (vY f a (some v)) (a+1) m=qW f (a+1) m:=UR m (a+1) λj h k=>if_neg dB
   simp only[e];cases hk:qW f (a+1) m with
   |nil=>rfl
   |cons y r=>
    obtain⟨j,h,k,l⟩:=Uh (f:=f) (x:=y) (m:=m) (a:=a+1) (by rw[hk];exact aK ..);rw[DataW.insert];rw[if_pos (by rw[l];simp[Lit.before];omega)]
  .rw[show vY f i (some v) a=f a from if_neg c]
   have g:=B_ (f:=f) (i:=i) (v:=v) m (a+1) hn dB dB;cases hf:f a with
   |some u=>
    simp only;rw[DataW.insert,if_neg (by simp[Lit.before];omega),g]
   |none=>exact g
def RH:Value->Option (DataW Value × List MemPlace):=λv=>some (.held v,[])
def MapAt(P:Program)(k:TypeId)(w:World)(m N:Nat)(f:Nat->Option Value):Prop:=w.ownsMap P k RH m N (.map (qW f 0 N))
theorem zlm{P:Program}{k:TypeId}{R:Value->Option (DataW Value × List MemPlace)}{w:World}{b n N:Nat}{es:List (Lit × DataW Value)}(h:w.ownsMap P k R b n (.map es))(hN:es.length<=N):w.ownsMap P k R b N (.map es):=by
 obtain⟨e,f,hb,F,i,a⟩:=h;refine⟨e,f,hb,F,?_,a⟩;have g:es=(e.toList.map (Go.WideElems.rg P k R)).foldr DataW.insert []:=by injection a
 have c:=length_sorted (e.toList.map (Go.WideElems.rg P k R));rw[<-g]at c;simp at c;omega
namespace MapAt
variable {P:Program}{k:TypeId}{w w':World}{m N:Nat}{f:Nat->Option Value}
theorem lt(h:MapAt P k w m N f):m<w.heap.size:=World.ownsMap.lt h
theorem same(h:MapAt P k w m N f)(he:w'.heap[m]?=w.heap[m]?):MapAt P k w' m N f:=by
 obtain⟨a,c,hb,r⟩:=h;exact⟨a,c,he.trans hb,r⟩
theorem nD{M:List Nat}(h:MapAt P k w m N f)(hk:Kp M w w')(hM:m∉M):MapAt P k w' m N f:=h.same (hk.block m h.lt hM)
theorem new(h:MapAt P k w m N f)(hb:VD w w'):MapAt P k w' m N f:=h.nD (M:=[]) (Kp.of_below hb) (λh=>by cases h)
theorem only{g:Nat}(h:MapAt P k w m N f)(ho:Only g w w')(hg:m≠g):MapAt P k w' m N f:=h.nD (Kp.rJ ho) lH
end MapAt
structure tC(M:List Nat)(w0 w:World):Prop where
 k:Kp M w0 w
namespace tC
variable {M:List Nat}{w0 w w':World}
theorem refl(M:List Nat)(w:World):tC M w w:=⟨Kp.refl M w⟩
theorem nD{N:List Nat}(h:tC M w0 w)(k:Kp N w w')(hN:∀ g,g∈N->g∈M\/w0.heap.size<=g):tC M w0 w':=
 ⟨⟨k.os.trans h.k.os,k.tape.trans h.k.tape,k.output.trans h.k.output,ag h.k.size k.size,λb hb a=>by
  rw[k.block b (ae hb h.k.size) λc=>?_]
  .exact h.k.block b hb a
  .rcases hN b c with e|e
   .exact a e
   .omega⟩⟩
theorem new(h:tC M w0 w)(hb:VD w w'):tC M w0 w':=h.nD (N:=[]) (Kp.of_below hb) (λg a=>by cases a)
theorem only{g:Nat}(h:tC M w0 w)(ho:Only g w w')(hg:g∈M\/w0.heap.size<=g):tC M w0 w':=h.nD (Kp.rJ ho) λa c=>by
 have:a=g:=by simpa using c
 rw[this];exact hg
end tC
theorem VS{w w':World}{b:Nat}(h:w.mapTurned w' b):Only b w w':=by
 obtain⟨c,e,f,g,hb,rfl⟩:=h;exact⟨rfl,rfl,rfl,by simp[Go.ChangeMaps.setBlock],λk a=>Go.ChangeMaps.heap_setBlock_other hb _ a⟩
section
variable {P:Program}{ρ:Env}{w:World}{d:Option Nat}{ty:TypeId}{pos:String}{af:Array Edge}{gd:Option (Nat × Bool)}{K:Value->World->Prop}{Kw:World->Prop}
theorem zuf{t t':Nat}{x y:Operand}{a:Addr}(ht:Ct P t=true)(hx:ev ρ x= .pointer (some a))(hy:ev ρ y= .pointer none):(execOp (ev ρ) ⟨d, .binOp .neq t x y t',ty,pos,af,gd⟩).run P w= .ok (.value (.bool true)) w:=by
 have:=ZG (w:=w) ht 9999 a;simp[execOp,hx,hy,eqGuard,binOp,Op.equal,Op.maxDepth,this,Result.andThen]
theorem Uc{i:Nat}(h:i<9223372036854775808):(Lit.int .i64 (i:Int)).wf=true:=by
 have a:IntKind.i64.min=-9223372036854775808:=by decide
 have c:IntKind.i64.max=9223372036854775807:=by decide
 simp[Lit.wf,a,c];omega
theorem zqq {t k e:TypeId} {x y:Operand} {m N:Nat} {f:Nat->Option Value} {a:Int} (z:Value) (ht:P.underlying t=some (.map k e)) (hk:P.underlying k=some (.int .i64)) (hz:∀ w,(zeroValue e).run P w= .ok z w)
  (hm:MapAt P k w m N f) (hx:ev ρ x= .map (some m)) (hy:ev ρ y= .int .i64 a) (i:Nat) (ha:a=(i:Int)) (hi:i<N) (hN:N<=1000000):
  (execOp (ev ρ) ⟨d, .lookup t x y false,ty,pos,af,gd⟩).run P w= .ok (.value ((f i).getD z)) w:=by
 subst ha;obtain⟨v,ps,hr,c⟩:=World.ownsMap.lookup hm (int_keyed hk) ht (hz w) (zd:=.held z) (zp:=[]) rfl (keyOf_int_mk hk (Uc (i:=i) dB));have e:DataW.atKey (.map (qW f 0 N)) (.int .i64 (i:Int)) (.held z)= .held ((f i).getD z):=by
  unfold DataW.atKey;simp only[Tk N 0 (aC _) (by omega:i<0+N)];cases f i<;>rfl
 rw[e]at c;have:v=(f i).getD z:=by
  have a:(some (DataW.held v,([]:List MemPlace)))=some (.held ((f i).getD z),ps):=c
  injection a with a
  injection a with a g
  injection a
 subst this;simp[execOp,hx,hy,hr,Result.andThen]
theorem NJ {t k e:TypeId} {x y:Operand} {m N:Nat} {f:Nat->Option Value} {a:Int} {v:Value} (z:Value) (ht:P.underlying t=some (.map k e)) (hk:P.underlying k=some (.int .i64)) (hz:∀ w,(zeroValue e).run P w= .ok z w)
  (hm:MapAt P k w m N f) (hx:ev ρ x= .map (some m)) (hy:ev ρ y=VB a) (i:Nat) (ha:a=(i:Int)) (hi:i<N) (hN:N<=1000000) (hv:(f i).getD z=v):
  (execOp (ev ρ) ⟨d, .lookup t x y false,ty,pos,af,gd⟩).run P w= .ok (.value v) w:=by
 rw[<-hv];exact zqq z ht hk hz hm hx hy i ha hi hN
theorem Kt {t k e:TypeId} {x y u:Operand} {m N:Nat} {f:Nat->Option Value} {a:Int} (v:Value) (ht:P.underlying t=some (.map k e)) (hk:P.underlying k=some (.int .i64))
  (hm:MapAt P k w m N f) (hx:ev ρ x= .map (some m)) (hy:ev ρ y= .int .i64 a) (hu:ev ρ u=v) (i:Nat) (ha:a=(i:Int)) (hi:i<N) (hN:N<=1000000)
  (h:∀ w',MapAt P k w' m N (vY f i (some v))->Only m w w'->Kw w'):Sk P ρ w ⟨d, .mapUpdate t x y u,ty,pos,af,gd⟩ Kw:=by
 subst ha;obtain⟨w',hr,a,c⟩:=World.ownsMap.store hm (int_keyed hk) ht jB (keyOf_int_mk hk (Uc (i:=i) dB)) (val:=v) (d:=.held v) (ps:=[]) rfl;refine⟨w',?_,h w' ?_ (VS c)⟩
 .simp[execOp,hx,hy,hu,hr,Result.andThen]
 .have e:DataW.put (.map (qW f 0 N)) (.int .i64 (i:Int)) (.held v)= .map (qW (vY f i (some v)) 0 N):=by
   unfold DataW.put;simp only[VK];rw[B_ N 0 (if_pos rfl) (aC _) dB]
   congr 1
   exact UR N 0 λj _ _=>by unfold vY;split<;>rfl
  rw[e]at a;exact zlm a<|RN _ _ _
theorem S_ {t k e:TypeId} {x y:Operand} {m N:Nat} {f:Nat->Option Value} {a:Int} (ht:P.underlying t=some (.map k e)) (hk:P.underlying k=some (.int .i64))
  (hm:MapAt P k w m N f) (hx:ev ρ x= .map (some m)) (hy:ev ρ y= .int .i64 a) (i:Nat) (ha:a=(i:Int)) (hi:i<N) (hN:N<=1000000)
  (h:∀ w',MapAt P k w' m N (vY f i none)->Only m w w'->K (.tuple #[]) w'):Mk P ρ w ⟨d, .call ⟨.builtin .delete,#[x,y],#[t,k]⟩,ty,pos,af,gd⟩ K:=by
 subst ha;obtain⟨w',hr,a,c⟩:=World.ownsMap.drop hm (int_keyed hk) ht (keyOf_int_mk hk (Uc (i:=i) dB)) ty;refine⟨_,w',?_,h w' ?_ (VS c)⟩
 .simp[execOp,resolve,invoke,builtin,hx,hy,hr,Result.andThen]
 .have e:DataW.del (.map (qW f 0 N)) (.int .i64 (i:Int))= .map (qW (vY f i none) 0 N):=by
   unfold DataW.del;simp only[VK]
  rw[e]at a;exact a
theorem VP:∀ m a,qW (λ_=>none) a m=[]
 |0,a=>rfl
 |m+1,a=>by rw[qW];exact VP m (a+1)
theorem QA{t k:TypeId}(N:Nat)(h:∀ m w',w.heap.size<=m->MapAt P k w' m N (λ_=>none)->VD w w'->K (.map (some m)) w'):Mk P ρ w ⟨d, .makeMap t none,ty,pos,af,gd⟩ K:=by
 refine⟨_,_,?_,h w.heap.size (w.alloc (.map #[] 0)) (ax _) ?_ (Jh w _)⟩
 .simp only[execOp]
  first
   |rfl
   |simp[run_makeMap,Result.andThen]
 .unfold MapAt
  rw[VP];exact World.ownsMap.mono (World.ownsMap_made w P k RH)<|aC _
end
end Coup
namespace Go.Proofs
open Go.Shelf
def Tryz.YK:Go.Shelf.Ren:=⟨fun|7=>245|10=>253|n=>n,fun|23=>191|26=>3|3=>190|28=>287|0=>0|27=>286|33=>261|4=>4|n=>n,fun|n=>n⟩
theorem Tryz.JA:Go.Proofs.SlLaysZI.n7 Tryz.prog Tryz.YK:={
 mixed:=by kernel_rfl
 f7:=⟨Tryz.f245.name,iT,Tryz.func245.trans (congrArg some dA)⟩
 f10:=⟨Tryz.f253.name,iT,Tryz.func253.trans (congrArg some dA)⟩
 t0:=Tryz.underlying0
 a0:=Tryz.isAgg0
 z0:=Tryz.sizeOf0
 v0:=Tryz.zeroValue0
 t4:=Tryz.underlying4
 a4:=Tryz.isAgg4
 z4:=Tryz.sizeOf4
 v4:=Tryz.zeroValue4
 t23:=Tryz.underlying191
 a23:=Tryz.isAgg191
 z23:=Tryz.sizeOf191
 v23:=Tryz.zeroValue191
 t26:=Tryz.underlying3
 a26:=Tryz.isAgg3
 z26:=Tryz.sizeOf3
 v26:=Tryz.zeroValue3
 t27:=Tryz.underlying286
 a27:=Tryz.isAgg286
 z27:=Tryz.sizeOf286
 v27:=Tryz.zeroValue286
 t28:=Tryz.underlying287
 a28:=Tryz.isAgg287
 z28:=Tryz.sizeOf287
 v28:=Tryz.zeroValue287
 t33:=Tryz.underlying261
 a33:=Tryz.isAgg261
 z33:=Tryz.sizeOf261
 v33:=Tryz.zeroValue261}
def Tryz.zjc:Go.Shelf.Ren:=⟨fun|6=>207|8=>243|9=>55|11=>252|13=>113|12=>112|23=>172|24=>173|14=>163|15=>164|16=>165|17=>166|18=>167|19=>168|20=>169|21=>170|22=>171|25=>220|26=>221|27=>222|28=>223|29=>224|30=>225|31=>248|n=>n,fun|26=>3|28=>287|24=>54|0=>0|3=>3|37=>180|48=>256|50=>155|4=>4|40=>249|39=>248|45=>95|5=>5|9=>9|51=>300|55=>304|57=>323|58=>324|33=>261|n=>n,fun|n=>n⟩
theorem Tryz.t_:Go.Proofs.SlLaysZI.n6 Tryz.prog Tryz.zjc:={
 mixed:=by kernel_rfl
 f6:=⟨Tryz.f207.name,iT,Tryz.func207.trans (congrArg some dA)⟩
 f8:=⟨Tryz.f243.name,iT,Tryz.func243.trans (congrArg some dA)⟩
 f11:=⟨Tryz.f252.name,iT,Tryz.func252.trans (congrArg some dA)⟩
 t0:=Tryz.underlying0
 a0:=Tryz.isAgg0
 z0:=Tryz.sizeOf0
 v0:=Tryz.zeroValue0
 t24:=Tryz.underlying54
 a24:=Tryz.isAgg54
 z24:=Tryz.sizeOf54
 v24:=Tryz.zeroValue54
 t26:=Tryz.underlying3
 a26:=Tryz.isAgg3
 z26:=Tryz.sizeOf3
 v26:=Tryz.zeroValue3
 t28:=Tryz.underlying287
 a28:=Tryz.isAgg287
 z28:=Tryz.sizeOf287
 v28:=Tryz.zeroValue287
 i26:=by kernel_rfl}
def Tryz.zrF:Go.Shelf.Ren:=⟨fun|5=>55|8=>113|7=>112|19=>172|20=>173|10=>163|11=>164|12=>165|13=>166|14=>167|15=>168|16=>169|17=>170|18=>171|30=>220|31=>221|32=>222|33=>223|34=>224|35=>225|40=>248|n=>n,fun|23=>54|25=>3|3=>3|32=>180|22=>54|0=>0|44=>256|46=>155|4=>4|36=>249|35=>248|41=>95|5=>5|9=>9|53=>300|57=>304|63=>323|64=>324|n=>n,fun|n=>n⟩
theorem Tryz.Ta:Go.Proofs.SlLaysM.n5 Tryz.prog Tryz.zrF:={
 mixed:=by kernel_rfl
 f5:=⟨Tryz.f55.name,iT,Tryz.func55.trans (congrArg some dA)⟩
 f7:=⟨Tryz.f112.name,iT,Tryz.func112.trans (congrArg some dA)⟩
 f8:=Tryz.func113.trans (congrArg some dA)
 f10:=⟨Tryz.f163.name,iT,Tryz.func163.trans (congrArg some dA)⟩
 f11:=⟨Tryz.f164.name,iT,Tryz.func164.trans (congrArg some dA)⟩
 f12:=⟨Tryz.f165.name,iT,Tryz.func165.trans (congrArg some dA)⟩
 f13:=⟨Tryz.f166.name,iT,Tryz.func166.trans (congrArg some dA)⟩
 f14:=⟨Tryz.f167.name,iT,Tryz.func167.trans (congrArg some dA)⟩
 f15:=⟨Tryz.f168.name,iT,Tryz.func168.trans (congrArg some dA)⟩
 f16:=⟨Tryz.f169.name,iT,Tryz.func169.trans (congrArg some dA)⟩
 f17:=⟨Tryz.f170.name,iT,Tryz.func170.trans (congrArg some dA)⟩
 f18:=⟨Tryz.f171.name,iT,Tryz.func171.trans (congrArg some dA)⟩
 f19:=Tryz.func172.trans (congrArg some dA)
 f20:=Tryz.func173.trans (congrArg some dA)
 f30:=⟨Tryz.f220.name,iT,Tryz.func220.trans (congrArg some dA)⟩
 f31:=Tryz.func221.trans (congrArg some dA)
 f32:=Tryz.func222.trans (congrArg some dA)
 f33:=⟨Tryz.f223.name,iT,Tryz.func223.trans (congrArg some dA)⟩
 f34:=⟨Tryz.f224.name,iT,Tryz.func224.trans (congrArg some dA)⟩
 f35:=⟨Tryz.f225.name,iT,Tryz.func225.trans (congrArg some dA)⟩
 f40:=⟨Tryz.f248.name,iT,Tryz.func248.trans (congrArg some dA)⟩
 t0:=Tryz.underlying0
 a0:=Tryz.isAgg0
 z0:=Tryz.sizeOf0
 v0:=Tryz.zeroValue0
 t3:=Tryz.underlying3
 a3:=Tryz.isAgg3
 z3:=Tryz.sizeOf3
 v3:=Tryz.zeroValue3
 t4:=Tryz.underlying4
 a4:=Tryz.isAgg4
 z4:=Tryz.sizeOf4
 v4:=Tryz.zeroValue4
 t5:=Tryz.underlying5
 a5:=Tryz.isAgg5
 z5:=Tryz.sizeOf5
 v5:=Tryz.zeroValue5
 t9:=Tryz.underlying9
 a9:=Tryz.isAgg9
 z9:=Tryz.sizeOf9
 v9:=Tryz.zeroValue9
 t22:=Tryz.underlying54
 a22:=Tryz.isAgg54
 z22:=Tryz.sizeOf54
 v22:=Tryz.zeroValue54
 t23:=Tryz.underlying54
 a23:=Tryz.isAgg54
 z23:=Tryz.sizeOf54
 v23:=Tryz.zeroValue54
 t25:=Tryz.underlying3
 a25:=Tryz.isAgg3
 z25:=Tryz.sizeOf3
 v25:=Tryz.zeroValue3
 t32:=Tryz.underlying180
 a32:=Tryz.isAgg180
 z32:=Tryz.sizeOf180
 v32:=Tryz.zeroValue180
 t35:=Tryz.underlying248
 a35:=Tryz.isAgg248
 z35:=Tryz.sizeOf248
 v35:=Tryz.zeroValue248
 t36:=Tryz.underlying249
 a36:=Tryz.isAgg249
 z36:=Tryz.sizeOf249
 v36:=Tryz.zeroValue249
 t41:=Tryz.underlying95
 a41:=Tryz.isAgg95
 z41:=Tryz.sizeOf95
 v41:=Tryz.zeroValue95
 t44:=Tryz.underlying256
 a44:=Tryz.isAgg256
 z44:=Tryz.sizeOf256
 v44:=Tryz.zeroValue256
 t46:=Tryz.underlying155
 a46:=Tryz.isAgg155
 z46:=Tryz.sizeOf155
 v46:=Tryz.zeroValue155
 t53:=Tryz.underlying300
 a53:=Tryz.isAgg300
 z53:=Tryz.sizeOf300
 v53:=Tryz.zeroValue300
 t57:=Tryz.underlying304
 a57:=Tryz.isAgg304
 z57:=Tryz.sizeOf304
 v57:=Tryz.zeroValue304
 t63:=Tryz.underlying323
 a63:=Tryz.isAgg323
 z63:=Tryz.sizeOf323
 v63:=Tryz.zeroValue323
 t64:=Tryz.underlying324
 a64:=Tryz.isAgg324
 z64:=Tryz.sizeOf324
 v64:=Tryz.zeroValue324}
end Go.Proofs
namespace Go.Proofs.YtpaniebomegnbaaGreat
open Go Go.RowKit Go.Maps Go.Sort Go.Shelf Coup
theorem Cz(m:Nat):AnyZI.SortsIn Tryz.prog Tryz.zjc Fence.wide m:=
 ⟨λblk c a e W f g h=>callsIn_wide.2 (AnyM.slices_Sort_int Tryz.Ta blk c a e W f g h),
  λp a W=>callsIn_wide.2 (AnyM.slices_Sort_int_none Tryz.Ta p a W)⟩
def keysOf(f:Nat->Option Value):Nat->Nat->List Int
 |_,0=>[]
 |a,m+1=>if(f a).isSome then(a:Int)::keysOf f (a+1) m else keysOf f (a+1) m
theorem Wt{f:Nat->Option Value}:∀ {m a:Nat} {x:Int},x∈keysOf f a m->(a:Int)<=x/\x<a+m
 |0,a,x,c=>by simp[keysOf]at c
 |m+1,a,x,c=>by
  rw[keysOf]at c
  split at c
  .rcases ak.1 c with rfl|c
   .omega
   .have:=Wt c;omega
  .have:=Wt c;omega
theorem Wu(f:Nat->Option Value):∀ (m a:Nat),(keysOf f a m).Pairwise (λx y=>leI x y=true)
 |0,a=>List.Pairwise.nil
 |m+1,a=>by
  rw[keysOf]
  split
  .refine List.Pairwise.cons (λy c=>?_)<|Wu f m<|a+1
   have:=Wt c;simp[leI];omega
  .exact Wu f m<|a+1
theorem RL(f:Nat->Option Value):∀ (m a:Nat),intKeys (DataW.map (qW f a m))=keysOf f a m
 |0,a=>rfl
 |m+1,a=>by
  have c:=RL f m (a+1);unfold intKeys at c |-;simp only[qW,keysOf];cases hf:f a with
  |some v=>simp only[bi,c];rfl
  |none=>simpa using c
theorem zhj(f:Nat->Option Value)(m a:Nat){ss:List Int}(h:ss.Perm (intKeys (DataW.map (qW f a m)))):ss.mergeSort (λx y=>decide (x<=y))=keysOf f a m:=by
 rw[RL]at h;have c:ss.mergeSort leI=(keysOf f a m).mergeSort leI:=mergeSort_of_perm_i h;have e:(keysOf f a m).mergeSort leI=keysOf f a m:=List.mergeSort_of_pairwise (Wu f m a);exact c.trans e
theorem Rm(mb:Option Nat)(w:World):CQ 245 [.map mb] w (λv w'=>v= .func (.func 253) #[] #[VA w.heap.size]/\w'=w.alloc (.cells #[.map mb] 191)/\VD w w'):=by
 have a:CallsIn Fence.wide 5 Tryz.prog 245 #[.map mb] w λe w'=>e= .returned (.func (.func 253) #[] #[VA w.heap.size])/\w'=w.alloc (.cells #[.map mb] 191):=AnyZI.keys_in Tryz.JA Fence.wide 5 trivial rfl mb w
 refine(callsIn_wide.1 a).mono ?_;rintro e w' ⟨rfl,rfl⟩;exact⟨_,rfl,rfl,rfl,(Below.refl _ w).alloc (ax _) _⟩
theorem Hg{b N:Nat}{f:Nat->Option Value}(w W:World)(hW:W=w.alloc (.cells #[.map (some b)] 191))(h:MapAt Tryz.prog 3 w b N f)(hN:N<=1000000):
  CQ 207 [.func (.func 253) #[] #[VA w.heap.size]] W (λv w'=>∃ p c,v= .slice p (keysOf f 0 N).length c/\nM w' p (keysOf f 0 N).length 1 (iv (keysOf f 0 N))/\(∀ b o,p=some ⟨b,o,none⟩->W.heap.size<=b)/\VD W w'):=by
 subst hW;have l:=h.lt;have m:=RN f N 0;have A:maxLen=9223372036854775807:=by decide
 have B:Maps.size (DataW.map (qW f 0 N))<=N:=m;have q:(w.alloc (.cells #[.map (some b)] 191)).ownsMap Tryz.prog 3 RH b N (.map (qW f 0 N)):=by
  obtain⟨r,s,hb,Ft,t,u⟩:=h;exact⟨r,s,(Below.heap_alloc _ _ b l).trans hb,Ft,t,u⟩
 have y:SeqGives Fence.wide 2 Tryz.prog 253 #[VA w.heap.size] encZ (λa=>a.Perm (intKeys (DataW.map (qW f 0 N)))) (Maps.size (DataW.map (qW f 0 N))) (w.alloc (.cells #[.map (some b)] 191)):=
  AnyZI.keys_gives (ρ:=Tryz.YK) {Tryz.JA with} Fence.wide _ trivial rfl dB w.heap.size b N _ _ ig ig q
 have i:=AnyZI.sorted_in Tryz.t_ Fence.wide 5 trivial trivial trivial trivial rfl dB (Cz _) (enters_of Tryz.func55 dA rfl) 253 #[VA w.heap.size] trivial (enters_of Tryz.func253 dA rfl) _ _ dB dB _ y
 change CallsIn _ _ Tryz.prog 207 _ _ _ at i
 refine(callsIn_wide.1 i).mono ?_;rintro e w' ⟨v,a,rfl,j,k,C,hb⟩;have z:a.length=(keysOf f 0 N).length:=by rw[<-RL,j.length_eq]
 rw[zhj f N 0 j,z]at k;have g:=Sb k;obtain⟨p,c,rfl⟩:=g.form;exact⟨_,rfl,p,c,rfl,g.sl,λb o e=>(g.lt b kZ).1,hb⟩
end Go.Proofs.YtpaniebomegnbaaGreat
