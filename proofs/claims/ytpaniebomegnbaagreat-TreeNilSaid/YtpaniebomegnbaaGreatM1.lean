import Derived.Test.YtpaniebomegnbaaGreatM0
import Derived.ArgAppend
import Derived.OpenShut
import Derived.Deep.Slices
import Derived.Lib.Builder
import Derived.Lib.OthersKept
import Derived.Laws.Externs
import Derived.Test.YtpaniebomegnbaaGreatProg
import Derived.Maps.OwnSet
import Derived.Maps.Keyed
import Derived.Shelf.SlIterI.Nil
import Derived.Shelf.SortM.Plain
import Derived.Shelf.SortM.SortNone
namespace Go.Proofs.YtpaniebomegnbaaGreat
open Go Go.RowKit Coup
abbrev CQ(f:Nat)(a:List Value)(w:World)(R:Value->World->Prop):Prop:=Calls Tryz.prog f a.toArray w (pX R)
end Go.Proofs.YtpaniebomegnbaaGreat
set_option maxHeartbeats 8000000
set_option maxRecDepth 20000
namespace Coup
open Go Go.RowKit
section
variable {P:Program}{ρ:Env}{w:World}{d:Option Nat}{ty:TypeId}{pos:String}{af:Array Edge}{gd:Option (Nat × Bool)}
theorem Ae{t:Nat}(cs:List Value)(hb:P.built t []=some cs.toArray):(execOp (ev ρ) ⟨d, .build t #[],ty,pos,af,gd⟩).run P w= .ok (.value (.agg cs.toArray)) w:=by
 have:=run_build (P:=P) w t #[] cs.toArray kG;simp only[execOp,fU,dS,Sem.run_bind,this,Result.andThen_ok]
 rfl
theorem SL{t:Nat}{k0 k1:IntKind}{x y:Operand}{a b:Int}(hp:placesOf P t=some [(0,1),(1,1)])(hk:(P.info? t).map (λi=>i.zero.map (·.cells.size))=some (some 2))(hx:ev ρ x= .int k0 a)(hy:ev ρ y= .int k1 b):
  (execOp (ev ρ) ⟨d, .build t #[(0,x),(1,y)],ty,pos,af,gd⟩).run P w= .ok (.value (.agg #[.int k0 a, .int k1 b])) w:=
 UD (parts:=[(0,x),(1,y)]) [(0, .int k0 a),(1, .int k1 b)] [(0,1),(1,1)] hp hk (by simp[hx,hy])
  (by intro i c;rcases i with _|_|i<;>first |rfl|(exfalso;simp only[aD,aX]at c;omega)) rfl
theorem Zd{t t':TypeId}{x y:Operand}{a b:Bool}(ht:P.underlying t=some .bool)(hx:ev ρ x= .bool a)(hy:ev ρ y= .bool b):(execOp (ev ρ) ⟨d, .binOp .neq t x y t',ty,pos,af,gd⟩).run P w= .ok (.value (.bool (a != b))) w:=by
 have c:=run_equal_bool (P:=P) w t a b ht;have e:(a != b)=!(a == b):=rfl;simp[execOp,hx,hy,eqGuard,binOp,c,Result.andThen,e]
end
end Coup
namespace Coup
open Go Go.RowKit Go.ChangeShapes Go.WideShapes Go.Deep
section
variable {H:Type}{enc:TypeId × Value->H}{P:Program}{W:World}{base:Nat}{spare:Nat->Bool}{held:Bool}
end
section
variable {H:Type}{enc:TypeId × Value->H}{P:Program}{W:World}{base:Nat}{spare:Nat->Bool}{held:Bool}
end
theorem Li(l:List Int)(i:Nat):(iv l)[i]?=(l[i]?).map (.int .i64):=by simp[iv]
theorem ZP{l:List Int}{i:Nat}{x:Int}(h:l[i]?=some x):(iv l)[i]?=some (.int .i64 x):=by simp[iv,h]
section
variable {H:Type}{enc:TypeId × Value->H}{P:Program}{W:World}{base:Nat}{spare:Nat->Bool}{held:Bool}
end
end Coup
namespace Coup
open Go Go.RowKit
theorem vb{a b:Bool}(h:a=b):Value.bool a=Value.bool b:=congrArg _ h
theorem vi{k:IntKind}{a b:Int}(h:a=b):Value.int k a=Value.int k b:=congrArg _ h
section
variable {P:Program}{ρ:Env}{w:World}{d:Option Nat}{ty:TypeId}{pos:String}{af:Array Edge}{gd:Option (Nat × Bool)}
def MM(P:Program)(t:Nat):Bool:=match P.underlying t with|some (.interface _)=>false|some _=>true|none=>false
theorem YQ{t:Nat}{x:Operand}(ht:MM P t=true):(execOp (ev ρ) ⟨d, .makeInterface t x,ty,pos,af,gd⟩).run P w= .ok (.value (.iface t (ev ρ x))) w:=by
 unfold MM at ht;cases hu:P.underlying t with
 |none=>simp[hu]at ht
 |some dd=>
  rw[hu]at ht;simp only[execOp,Instr.makeInterface,Sem.run_bind,run_underlying hu,Result.andThen_ok];cases dd<;>first |(simp at ht;done)|rfl
theorem zjX{f:FuncId}(hc:vv P f=true)(vl:Array Value):(callFunc f vl).run P w= .ok (.enter f vl) w:=by
 unfold vv at hc;cases hfn:P.funcs[f]? with
 |none=>simp[hfn]at hc
 |some fn=>
  rw[hfn]at hc;simp only[aJ,dU]at hc;cases hb:fn.body with
  |none=>simp[hb]at hc
  |some c=>
   have a:¬fn.name= "runtime.NumGoroutine" :=by simpa using hc.1
   simp[callFunc,program,Sem.run,hfn,a,hb,Result.andThen]
theorem zte{f:FuncId}{x:Operand}{fl vl:List Value}{al:List Operand}{ats:Array Nat}(hc:vv P f=true)(hx:ev ρ x= .func (.func f) fl.toArray #[])(hv:al.map (ev ρ)=vl):
  (execOp (ev ρ) ⟨d, .call ⟨.value x,al.toArray,ats⟩,ty,pos,af,gd⟩).run P w= .ok (.enter f (fl++vl).toArray) w:=by
 have a:al.toArray.map (ev ρ)=vl.toArray:=by rw[<-hv];simp
 have c:=zjX (w:=w) hc (fl++vl).toArray;simp[execOp,resolve,Deferred.ofValue,a,hx,invoke,c,Result.andThen]
end
theorem Zz{a:Int}(h:0<=a/\a<18446744073709551616):(BitVec.ofInt 64 a).toNat=a.toNat:=by
 rw[BitVec.toNat_ofInt];have:a % ((2 ^ 64:Nat):Int)=a:=Int.emod_eq_of_lt h.1 (by simpa using h.2);rw[this]
theorem KN{a b:Int}(s:Nat)(hb:b=(s:Int))(hs:s<=64):a.fdiv (2 ^ (min b.toNat IntKind.u64.bits))=a / 2 ^ s:=by
 subst hb;show a.fdiv (2 ^ (min ((s:Int).toNat) 64))=a / 2 ^ s;rw[aR,bP hs,gQ _ (Int.le_of_lt (Int.pow_pos iT))]
theorem Yj{a b:Int}(s:Nat)(q:Int)(ha:0<=a/\a<18446744073709551616)(hq:a=q*2 ^ s)(hb:0<=b/\b<2 ^ s)(hs:a+b<18446744073709551616):
  IntKind.u64.wrap ((BitVec.ofInt IntKind.u64.bits a |||BitVec.ofInt IntKind.u64.bits b).toNat:Int)=a+b:=by
 show IntKind.u64.wrap ((BitVec.ofInt 64 a |||BitVec.ofInt 64 b).toNat:Int)=a+b;have g:0<=q:=by
  rcases Int.lt_or_le q 0 with c|c
  .have h:(0:Int)<2 ^ s:=Int.pow_pos iT
   have:=Int.mul_neg_of_neg_of_pos c h;omega
  .exact c
 rw[BitVec.toNat_or,Zz ha,Zz eu];have f:a.toNat=q.toNat<<<s:=by
  rw[Nat.shiftLeft_eq];have e:(q.toNat:Int)=q:=Int.toNat_of_nonneg g;have i:((q.toNat*2 ^ s:Nat):Int)=q*2 ^ s:=by rw[Int.natCast_mul,e,jq];rfl
  omega
 have e:b.toNat<2 ^ s:=by
  have i:((2 ^ s:Nat):Int)=2 ^ s:=by rw[jq];rfl
  omega
 rw[f,<-Nat.shiftLeft_add_eq_or_of_lt e,<-f,wu64 eu];omega
section
variable {P:Program}{ρ:Env}{w:World}{d:Option Nat}{ty:TypeId}{pos:String}{af:Array Edge}{gd:Option (Nat × Bool)}
end
section
variable {P:Program}{ρ:Env}{w:World}{d:Option Nat}{ty:TypeId}{pos:String}{af:Array Edge}{gd:Option (Nat × Bool)}{K:Value->World->Prop}
end
def qI(w:World)(base e sz g o m c:Nat)(xs:List Value):Prop:=nY w base e sz (.slice (some ⟨g,o,none⟩) m c) m xs
namespace qI
variable {w w':World}{base e sz g o m c:Nat}{xs:List Value}
theorem lt(h:qI w base e sz g o m c xs):g<w.heap.size:=(nY.lt h g rfl).2
theorem MQ(h:qI w base e sz g o m c xs):base<=g:=(nY.lt h g rfl).1
theorem len(h:qI w base e sz g o m c xs):xs.length=m*sz:=h.1
theorem new(h:qI w base e sz g o m c xs)(hb:Below w.heap.size w w'):qI w' base e sz g o m c xs:=nY.new h hb
theorem nu{M:List Nat}(h:qI w base e sz g o m c xs)(k:Kp M w w')(hM:g∉M):qI w' base e sz g o m c xs:=nY.nu h k λa c e=>hM (by
 have:g=a:=by simpa [Value.ownBlock]using e
 rw[this];exact c)
theorem only{g':Nat}(h:qI w base e sz g o m c xs)(ho:Only g' w w')(hg:g≠g'):qI w' base e sz g o m c xs:=h.nu (Kp.rC ho) kY
theorem sl(h:qI w base e sz g o m c xs):nC w (some ⟨g,o,none⟩) m sz xs:=nY.sl h
end qI
theorem OM{l vs:List Value}{k:Nat}(h:k+vs.length<=l.length)(i:Nat):(splice l k vs)[i]?=if i<k then l[i]? else if i<k+vs.length then vs[i - k]? else l[i]?:=by
 unfold splice
 by_cases a:i<k
 .rw[if_pos a,bG kE,bF,if_pos a]
 .rw[if_neg a,bC kE,aH,bP eu]
  by_cases c:i<k+vs.length
  .rw[if_pos c,bG eu]
  .rw[if_neg c,bC eu,bD]
   congr 1;omega
section
variable {P:Program}{ρ:Env}{w:World}{d:Option Nat}{ty:TypeId}{pos:String}{af:Array Edge}{gd:Option (Nat × Bool)}{Kw:World->Prop}
theorem Jg {t:Nat} {x y:Operand} {g o:Nat} {base e sz m c:Nat} {xs:List Value} (vs:List Value) (j:Nat) (hown:qI w base e sz g o m c xs) (hx:ev ρ x= .pointer (some ⟨g,o+j,none⟩))
  (hy:(ev ρ y).cells=vs.toArray) (hs:vM P t vs.length=true) (hfit:j+vs.length<=xs.length) (h1:∀ v∈vs,v.oneCell'=true)
  (h:∀ w',qI w' base e sz g o m c (splice xs j vs)->Only g w w'->Kw w'):Sk P ρ w ⟨d, .store t x y,ty,pos,af,gd⟩ Kw:=by
 have A:=hown.1;rcases hown.2 with⟨q,_⟩|⟨B,C,D,a,r,hb,s,k,t,E,u⟩
 .cases q
 .cases r
  have v:row w g a.toList e:=by unfold row;simpa using s
  have F:m*sz<=c*sz:=cO _ k;have G:a.toList.length=a.size:=by simp
  refine NW vs hx hy v hs eu h1 λw' hr y=>h w' ⟨?_,Or.inr ⟨g,o,c,(splice a.toList (o+j) vs).toArray,rfl,hb,hr,k,t,?_,?_⟩⟩ y
  .simp only[splice,aA,aH,aL];omega
  .simp only[splice,eT,aA,aH,aL];omega
  .rw[<-u]
   have z:((a.toList.drop o).take (m*sz)).length=m*sz:=by rw[aH,aL];omega
   refine dV λi=>?_
   rw[bF,bD,OM eu,OM (by rw[z];omega),bF,bD]
   by_cases f:i<m*sz
   .rw[if_pos f]
    by_cases l:i<j
    .rw[if_pos eu,if_pos l,if_pos f]
    .rw[if_neg eu,if_neg l]
     by_cases p:i<j+vs.length
     .rw[if_pos eu,if_pos p];congr 1;omega
     .rw[if_neg eu,if_neg p,if_pos f]
   .rw[if_neg f,if_neg eu,if_neg eu,if_neg f]
end
section
variable {P:Program}{ρ:Env}{w:World}{d:Option Nat}{ty:TypeId}{pos:String}{af:Array Edge}{gd:Option (Nat × Bool)}{K:Value->World->Prop}
def Xl(P:Program)(t i off:Nat):Bool:=match P.underlying t with|some (.struct fs)=>(match fs[i]? with|some f=>Nat.beq f.offset off && Ls P f.type|none=>false)|_=>false
theorem zox{t i off:Nat}{x:Operand}{cs:List Value}{v:Value}(ht:Xl P t i off=true)(hx:ev ρ x= .agg cs.toArray)(hv:cs[off]?=some v):(execOp (ev ρ) ⟨d, .field t x i,ty,pos,af,gd⟩).run P w= .ok (.value v) w:=by
 unfold Xl at ht;cases hu:P.underlying t with
 |none=>simp[hu]at ht
 |some dd=>
  rw[hu]at ht;cases dd with
  |struct fs=>
   cases hf:fs[i]? with
   |none=>simp[hf]at ht
   |some f=>
    simp only[hf,aJ]at ht;have a:=bU ht.1;have c:=YR ht.2 w;simp[execOp,Instr.field,run_underlying hu,hf,hx,asAgg,part,c,a,hv,Result.andThen]
  |_=>simp at ht
theorem Tk{t e sz:Nat}(ht:P.underlying t=some (.slice e))(hs:vM P e sz=true)(h:∀ g w',w.heap.size<=g->row w' g [] e->Below w.heap.size w w'->K (.slice (some ⟨g,0,none⟩) 0 0) w'):Mk P ρ w ⟨d, .buildSlice t 0 #[],ty,pos,af,gd⟩ K:=by
 obtain⟨c,a,f⟩:=Fy hs;refine⟨_,_,?_,h w.heap.size (w.alloc (.cells #[] e)) (ax _) (JQ w _ e) (Jb w _)⟩;simp[execOp,Instr.buildSlice,run_underlying ht,Go.sizeOf,typeInfo,a,Instr.fill,newRow,Result.andThen]
 congr 2
 exact Array.eq_empty_of_size_eq_zero ig
end
section
variable {P:Program}{ρ:Env}{w:World}{d:Option Nat}{ty:TypeId}{pos:String}{af:Array Edge}{gd:Option (Nat × Bool)}
theorem zpE{t e sz:Nat}{x hi:Operand}{p:Option Addr}{len cap:Nat}(h:Nat)(ht:Di P t e sz=true)(hx:ev ρ x= .slice p len cap)(hh:∃ k a,ev ρ hi= .int k a/\a=(h:Int))(h2:h<=cap):
  (execOp (ev ρ) ⟨d, .slice t x none (some hi) none,ty,pos,af,gd⟩).run P w= .ok (.value (.slice p h cap)) w:=by
 have hr:=MV (P:=P) (w:=w) (d:=d) (ty:=ty) (pos:=pos) (af:=af) (gd:=gd) (lo:=none) (hi:=some hi) (mx:=none) 0 h cap ht hx rfl hh rfl ig (aC _) h2 (ax _);rw[hr];have:(if cap=0 then p else p.map (·.add (0*sz)))=p:=by
  split
  .rfl
  .cases p with
   |none=>rfl
   |some a=>simp[Addr.add]
 rw[this,fV,fV]
end
theorem Kp.toB{M:List Nat}{B:Nat}{w w':World}(h:Kp M w w')(hM:∀ g,g∈M->B<=g)(hB:B<=w.heap.size):Below B w w':=⟨h.os,h.tape,h.output,h.size,λk c=>h.block k eu λa=>by have:=hM k a;omega⟩
structure zu(B:Nat)(w w':World):Prop where
 bel:Below B w w'
 size:B<=w'.heap.size
namespace zu
variable {B:Nat}{w0 w w':World}
theorem refl(h:B<=w.heap.size):zu B w w:=⟨Below.refl _ _,h⟩
theorem acc(h:zu B w0 w)(k:Below w.heap.size w w'):zu B w0 w':=⟨h.bel.trans (k.mono h.size),ag h.size k.size⟩
theorem tr(h:zu B w0 w)(k:Below B w w'):zu B w0 w':=⟨h.bel.trans k,ag h.size k.size⟩
theorem Tg{g:Nat}(h:zu B w0 w)(ho:Only g w w')(hg:B<=g):zu B w0 w':=⟨ho.below h.bel hg,by rw[ho.size];exact h.size⟩
theorem nu{M:List Nat}(h:zu B w0 w)(k:Kp M w w')(hM:∀ g,g∈M->B<=g):zu B w0 w':=h.tr (k.toB hM h.size)
theorem own{base e sz m:Nat}{v:Value}{xs:List Value}(h:zu B w0 w)(ho:nY w base e sz v m xs)(hg:w.grownBy w' v.ownBlock)(hk:B<=base):zu B w0 w':=h.nu (Kp.rX hg) λg a=>ag hk (ho.lt g (ah.1 a)).1
end zu
section
variable {md:Option Nat->Prop}{P:Program}{n:Nat}{Q:Post}{ρ:Env}{w:World}
theorem yG{ops:Array Oper}{rest:List Oper}{d:Option Nat}{op:Op}{ty:TypeId}{pos:String}{af:Array Edge}{j:Nat}{b:Bool}(hy:yl ops ρ j=none)(h:WR md P n ops rest Q (qo ρ d undef) w):
  WR md P n ops (⟨d,op,ty,pos,af,some (j,b)⟩::rest) Q ρ w:=by
 intro c e a i g;simp only[fQ,aJ]at c;have k:Region.wanted ⟨d,op,ty,pos,af,some (j,b)⟩ (yielded ops a.tmps)=false:=by
  simp only[Region.wanted,g.yl,hy];simp
 unfold wpListIn;rw[if_neg (by simp[k])];exact⟨λf _=>IU e f,h c.2 e _ i (g.put d (wC.lt c.1) undef)⟩
end
section
variable {P:Program}{ρ:Env}{w:World}{d:Option Nat}{ty:TypeId}{pos:String}{af:Array Edge}{gd:Option (Nat × Bool)}{K:Value->World->Prop}
def zx(P:Program)(t:Nat):Bool:=match P.underlying t with|some (.pointer e)=>(P.info? e).isSome|_=>false
theorem G_{t:Nat}(h:zx P t=true):∃ e j,P.underlying t=some (.pointer e)/\P.info? e=some j:=by
 unfold zx at h
 split at h
 .rename_i e a
  obtain⟨j,c⟩:=il.1 h;exact⟨e,j,a,c⟩
 .cases h
theorem zqM{t:Nat}(ht:zx P t=true)(n:Nat):(Op.equalIn (n+1) t (.pointer none) (.pointer none)).run P w= .ok true w:=by
 obtain⟨e,j,a,c⟩:=G_ ht;simp[Op.equalIn,run_underlying a,Go.sizeOf,typeInfo,c,Result.andThen]
theorem Zt{t:Nat}(ht:zx P t=true)(n:Nat)(a:Addr):(Op.equalIn (n+1) t (.pointer (some a)) (.pointer none)).run P w= .ok false w:=by
 obtain⟨e,j,a,c⟩:=G_ ht;simp[Op.equalIn,run_underlying a,Go.sizeOf,typeInfo,c,Result.andThen]
theorem Qj{t t':Nat}{x y:Operand}(ht:zx P t=true)(hx:ev ρ x= .pointer none)(hy:ev ρ y= .pointer none):(execOp (ev ρ) ⟨d, .binOp .eql t x y t',ty,pos,af,gd⟩).run P w= .ok (.value (.bool true)) w:=by
 have:=zqM (w:=w) ht 9999;simp[execOp,hx,hy,eqGuard,binOp,Op.equal,Op.maxDepth,this,Result.andThen]
theorem xJ{t t':Nat}{x y:Operand}{a:Addr}(ht:zx P t=true)(hx:ev ρ x= .pointer (some a))(hy:ev ρ y= .pointer none):(execOp (ev ρ) ⟨d, .binOp .eql t x y t',ty,pos,af,gd⟩).run P w= .ok (.value (.bool false)) w:=by
 have:=Zt (w:=w) ht 9999 a;simp[execOp,hx,hy,eqGuard,binOp,Op.equal,Op.maxDepth,this,Result.andThen]
theorem row.shape{g t:Nat}{l:List Value}(h:row w g l t):w.shape? g=some (t,l.length):=by unfold row at h;simp[World.shape?,h]
end
section
variable {P:Program}{ρ:Env}{w:World}{d:Option Nat}{ty:TypeId}{pos:String}{af:Array Edge}{gd:Option (Nat × Bool)}{K:Value->World->Prop}
def Po(w:World)(g:Nat)(l:List UInt8)(i:Nat):Prop:=w.heap[g]?=some (.stringIter ⟨l.toArray⟩ i)
namespace Po
variable {w w':World}{g i:Nat}{l:List UInt8}
end Po
end
section
variable {P:Program}{ρ:Env}{w w':World}{d:Option Nat}{ty:TypeId}{pos:String}{af:Array Edge}{gd:Option (Nat × Bool)}{K:Value->World->Prop}
end
section
variable {P:Program}{ρ:Env}{w:World}{d:Option Nat}{ty:TypeId}{pos:String}{af:Array Edge}{gd:Option (Nat × Bool)}{K:Value->World->Prop}
end
section
variable {P:Program}{ρ:Env}{w:World}{d:Option Nat}{ty:TypeId}{pos:String}{af:Array Edge}{gd:Option (Nat × Bool)}
theorem zkg{t e:Nat}(ht:P.underlying t=some (.slice e))(n:Nat)(p:Option Addr)(a b:Nat):(Op.equalIn (n+1) t (.slice p a b) (.slice none 0 0)).run P w= .ok p.isNone w:=by
 cases p<;>simp[Op.equalIn,run_underlying ht,Result.andThen]
theorem KL{t t' e:Nat}{x y:Operand}{p:Option Addr}{a b:Nat}(ht:P.underlying t=some (.slice e))(hx:ev ρ x= .slice p a b)(hy:ev ρ y= .slice none 0 0):(execOp (ev ρ) ⟨d, .binOp .eql t x y t',ty,pos,af,gd⟩).run P w= .ok (.value (.bool p.isNone)) w:=by
 have:=zkg (w:=w) ht 9999 p a b;simp[execOp,hx,hy,eqGuard,binOp,Op.equal,Op.maxDepth,this,Result.andThen]
theorem zqN{t t' e:Nat}{x y:Operand}{p:Option Addr}{a b:Nat}(ht:P.underlying t=some (.slice e))(hx:ev ρ x= .slice p a b)(hy:ev ρ y= .slice none 0 0):(execOp (ev ρ) ⟨d, .binOp .neq t x y t',ty,pos,af,gd⟩).run P w= .ok (.value (.bool (!p.isNone))) w:=by
 have:=zkg (w:=w) ht 9999 p a b;simp[execOp,hx,hy,eqGuard,binOp,Op.equal,Op.maxDepth,this,Result.andThen]
theorem T_ {t e n:Nat} {x:Operand} {lo hi mx:Option Operand} {g off:Nat} (l h m k:Nat) (ht:arrayOf P t n e 1=true) (hx:ev ρ x= .pointer (some ⟨g,off,none⟩))
  (hl:ob ρ lo 0 l) (hh:ob ρ hi n h) (hm:ob ρ mx n m) (hmh:mx.isSome=true->hi.isSome=true) (h1:l<=h) (h2:h<=m) (h3:m<=n) (hk:h - l=k):
  (execOp (ev ρ) ⟨d, .slice t x lo hi mx,ty,pos,af,gd⟩).run P w= .ok (.value (.slice (some ⟨g,if m=l then off else off+l,none⟩) k (m - l))) w:=by
 subst hk;rw[YH l h m ht hx hl hh hm hmh h1 h2 h3]
 split<;>simp
theorem S_ {K:Value->World->Prop} {t t' e sz bytes:Nat} {s x:Operand} {k c g0 o0:Nat} {news:List Value} {sp:Option Addr} {z:Value} (ht:P.underlying t=some (.slice e)) (ht':t'=t)
  (hi:(P.info? e).map (λi=>(i.zero,i.size,i.bytes))=some (some z,sz,bytes)) (hzs:z.cells.size=sz) (hsz:0<sz) (hs:ev ρ s= .slice (some ⟨g0,o0,none⟩) 0 0) (hg0:g0<w.heap.size)
  (hx:ev ρ x= .slice sp k c) (hsrc:nC w sp k sz news) (h63:k<=maxLen) (hbytes:k*bytes<=140737488355328)
  (h:∀ g o c' w',nC w' (some ⟨g,o,none⟩) k sz news->(g=g0\/w.heap.size<=g)->g<w'.heap.size->k<=c'->Below w.heap.size w w'->K (.slice (some ⟨g,o,none⟩) k c') w'):Mk P ρ w ⟨d, .call ⟨.builtin .append,#[s,x],#[t,t']⟩,ty,pos,af,gd⟩ K:=by
 subst ht';obtain⟨i,m,q⟩:=dm.1 hi;simp only[fP]at q;obtain⟨t,v,y⟩:=q
 by_cases f:k=0
 .subst f
  obtain rfl:news=[]:=bH (by simpa using hsrc.len);have A:(Builtin.append_ #[t',t'] ty #[.slice (some ⟨g0,o0,none⟩) 0 0, .slice sp 0 c]).run P w= .ok (.slice (some ⟨g0,o0,none⟩) 0 0) w:=by
   cases sp with
   |none=>simp[Builtin.append_,run_underlying ht,Go.sizeOf,typeInfo,m,Builtin.lenOf,Builtin.firstCells,storeCells,Result.andThen]
   |some a=>simp[Builtin.append_,run_underlying ht,Go.sizeOf,typeInfo,m,Builtin.lenOf,Builtin.firstCells,loadCells,loadCellsFrom,storeCells,Result.andThen]
  refine⟨_,w,?_,h g0 o0 0 w ⟨ig,aC _,λh=>eu⟩ (.inl rfl) hg0 (ax _) (Below.refl _ _)⟩;simp[execOp,resolve,invoke,builtin,hs,hx,A,Result.andThen]
 .have f:=iA f
  obtain⟨B,C,rfl,_⟩:=hsrc.some (fo f hsz);obtain⟨F,w',hr,r,l⟩:=run_append_arg_grows (P:=P) (w:=w) t' ty e i z sz bytes ht m t v y hzs hsz ⟨g0,o0,none⟩ 0 0 [] ig (λj u p=>by simp at p) ⟨B,C,none⟩ k c news hsrc.len
   (λj u p=>by rw[Addr.add_lit];exact hsrc.cell j p) eu eu (by rw[bg];exact hbytes)
  rw[bg,aV]at r;have s:=RS r;obtain⟨g,o,c',rfl,hb,D,E⟩:=s.form' f;refine⟨_,w',?_,h g o c' w' s.sl (.inr hb) D E ⟨l.os,l.tape,l.output,l.size,λk f=>l.block k f ig⟩⟩;simp[execOp,resolve,invoke,builtin,hs,hx,hr,Result.andThen]
theorem row.slZ{g t:Nat}{L:List UInt8}(h:row w g (bv L) t)(o k:Nat)(ho:o+k<=L.length)(hm:k<=maxLen):nC w (some ⟨g,if o+k=o then 0 else 0+o,none⟩) k 1 (bv ((L.drop o).take k)):=by
 by_cases a:k=0
 .subst a
  exact⟨by simp[bv],aC _,λh=>eu⟩
 .rw[if_neg eu,bg]
  exact h.Tn o k ho hm
theorem xC{t i:Nat}{x:Operand}(v:Value)(cs:List Value)(hx:ev ρ x=v)(hb:P.built t [(i,v)]=some cs.toArray):(execOp (ev ρ) ⟨d, .build t #[(i,x)],ty,pos,af,gd⟩).run P w= .ok (.value (.agg cs.toArray)) w:=by
 have:=run_build (P:=P) w t #[(i,v)] cs.toArray kG;simp only[execOp,fU,aZ,dS,hx,Sem.run_bind,this,Result.andThen_ok]
 rfl
theorem AL{t i j:Nat}{x y:Operand}(v u:Value)(cs:List Value)(hx:ev ρ x=v)(hy:ev ρ y=u)(hb:P.built t [(i,v),(j,u)]=some cs.toArray):(execOp (ev ρ) ⟨d, .build t #[(i,x),(j,y)],ty,pos,af,gd⟩).run P w= .ok (.value (.agg cs.toArray)) w:=by
 have:=run_build (P:=P) w t #[(i,v),(j,u)] cs.toArray kG;simp only[execOp,fU,aZ,dS,hx,hy,Sem.run_bind,this,Result.andThen_ok]
 rfl
end
end Coup
namespace Go.Proofs.YtpaniebomegnbaaGreat
open Go Go.RowKit Coup
structure View where
 kind:Nat
 next:Nat
 slots:List (Option (List UInt8))
def u8(n:Nat):UInt8:=UInt8.ofNat n
theorem MO{n:Nat}(h:n<256):(u8 n).toNat=n:=by unfold u8;rw[fq];omega
def wY(n:Nat):List UInt8:=[u8 (n / 256),u8 (n % 256)]
def IR(n:Nat):List UInt8:=[u8 (n / 16777216),u8 (n / 65536 % 256),u8 (n / 256 % 256),u8 (n % 256)]
def uF(s:Option (List UInt8)):List UInt8:=s.getD []
def wH:List (Option (List UInt8))->List UInt8
 |[]=>[]
 |s::S=>wH S++uF s
def pu:List (Option (List UInt8))->Nat
 |[]=>0
 |s::S=>(uF s).length+pu S
theorem QY:∀ S,(wH S).length=pu S
 |[]=>rfl
 |s::S=>by rw[wH,aA,QY S,pu];omega
theorem Wy:∀ S s,wH (S++[s])=uF s++wH S
 |[],s=>by simp[wH]
 |t::S,s=>by simp[wH,Wy S s]
theorem KG:∀ S T,pu (S++T)=pu S+pu T
 |[],T=>by simp[pu]
 |s::S,T=>by simp[pu,KG S T];omega
def Md(e:Nat):Option (List UInt8)->List UInt8
 |none=>[0,0,0,0]
 |some r=>wY (e - r.length)++wY r.length
theorem zqO(e:Nat)(s:Option (List UInt8)):(Md e s).length=4:=by cases s<;>rfl
def vR:Nat->List (Option (List UInt8))->List UInt8
 |_,[]=>[]
 |e,s::S=>Md e s++vR (e - (uF s).length) S
theorem Iu:∀ e S,(vR e S).length=4*S.length
 |_,[]=>rfl
 |e,s::S=>by rw[vR,aA,zqO,Iu _ S,aD];omega
theorem Vh:∀ e S s,vR e (S++[s])=vR e S++Md (e - pu S) s
 |e,[],s=>by simp[vR,pu]
 |e,t::S,s=>by
  simp only[bV,vR,Vh _ S s,pu,aG];rw[show e - (uF t).length - pu S=e - ((uF t).length+pu S) by omega]
def qW(V:View):Nat:=12+4*V.slots.length+pu V.slots
def vT(V:View)(e:List UInt8):List UInt8:=[u8 V.kind,0]++wY V.slots.length++e++[0,0]++IR V.next
def uw(V:View)(e:List UInt8)(S:List (Option (List UInt8))):List UInt8:=vT V e++vR 512 S++List.replicate (500 - 4*S.length - pu S) 0++wH S
def oG(V:View):List UInt8:=uw V (wY (512 - pu V.slots)) V.slots
theorem Sn{V:View}{e:List UInt8}{S:List (Option (List UInt8))}(he:e.length=2)(h:12+4*S.length+pu S<=512):(uw V e S).length=512:=by
 simp[uw,vT,wY,IR,Iu,QY,he];omega
structure Good(V:View):Prop where
 kind:V.kind<=4
 next:V.next<2147483648
 size:qW V<=512
 cell:∀ r,some r∈V.slots->r.length<=400
 last:V.slots.getLast?≠some none
theorem zqP{V:View}{e:List UInt8}(he:e.length=2){S:List (Option (List UInt8))}{i:Nat}(h:i<12):(uw V e S)[i]?=(vT V e)[i]?:=by
 unfold uw;have a:(vT V e).length=12:=by simp[vT,wY,IR,he]
 rw[aG,aG,bG eu]
theorem GH(V:View)(e:List UInt8)(he:e.length=2)(S T:List (Option (List UInt8)))(s:Option (List UInt8))(k:Nat)(hk:k<4):
  (uw V e (S++s::T))[12+4*S.length+k]?=(Md (512 - pu S) s)[k]?:=by
 have a:(vT V e).length=12:=by simp[vT,wY,IR,he]
 have c:∀ (S:List (Option (List UInt8))) (e:Nat),vR e (S++s::T)=vR e S++(Md (e - pu S) s++vR (e - pu S - (uF s).length) T):=by
  intro S
  induction S with
  |nil=>intro e;simp[vR,pu]
  |cons t S ih=>
   intro e;simp only[bV,vR,ih,pu,aG];rw[show e - (uF t).length - pu S=e - ((uF t).length+pu S) by omega]
 unfold uw;rw[c,aG,aG,bC eu,a,show 12+4*S.length+k - 12=4*S.length+k by omega,
  aG,bC (by rw[Iu];omega),Iu,show 4*S.length+k - 4*S.length=k by omega,aG,bG (by rw[zqO];exact hk)]
theorem GV(V:View)(e:List UInt8)(he:e.length=2)(S T:List (Option (List UInt8)))(r:List UInt8)(hs:12+4*(S++some r::T).length+pu (S++some r::T)<=512):
  ((uw V e (S++some r::T)).drop (512 - pu S - r.length)).take r.length=r:=by
 have c:(vT V e).length=12:=by simp[vT,wY,IR,he]
 have f:∀ (S:List (Option (List UInt8))),wH (S++some r::T)=wH T++(r++wH S):=by
  intro S
  induction S with
  |nil=>simp[wH,uF]
  |cons t S ih=>simp[wH,ih]
 have a:pu (S++some r::T)=pu S+(r.length+pu T):=by rw[KG];rfl
 rw[a]at hs;unfold uw;rw[f,a];have g:(vR 512 (S++some r::T)).length=4*(S.length+(T.length+1)):=by rw[Iu];simp
 have h:(vT V e++vR 512 (S++some r::T)++List.replicate (500 - 4*(S++some r::T).length - (pu S+(r.length+pu T))) 0++wH T).length=512 - pu S - r.length:=by
  rw[aA,aA,aA,c,g,bi,QY];simp at hs |-;omega
 rw[<-aG (bs:=wH T),fw h,dR]
theorem zpF{α:Type}(A B C D:List α)(h:B.length=D.length):(A++B++C).take A.length++D++(A++B++C).drop (A.length+D.length)=A++D++C:=by
 have a:(A++B++C).take A.length=A:=by rw[aG,dR]
 have c:(A++B++C).drop (A.length+D.length)=C:=by rw[<-h,<-aA,dF]
 rw[a,c]
theorem WZ(A Z:List UInt8)(x0 x1 x2 x3 a b c d:UInt8)(n:Nat)(h:n=A.length):
  ((((A++x0::x1::x2::x3::Z).set n a).set (n+1) b).set (n+2) c).set (n+3) d=A++a::b::c::d::Z:=by
 subst h;rw[dJ _ _ eu,dJ _ _ eu,dJ _ _ eu,dJ _ _ eu];rw[bL,show A.length+1 - A.length=1 by omega,show A.length+2 - A.length=2 by omega,show A.length+3 - A.length=3 by omega]
 rfl
theorem Qo(n:Nat)(h:4<=n):List.replicate n (0:UInt8)=0::0::0::0::List.replicate (n - 4) 0:=by
 obtain⟨m,rfl⟩:∃ m,n=m+4:=⟨n - 4,eu⟩
 rfl
theorem UH{V:View}{e:List UInt8}(he:e.length=2):(vT V e).length=12:=by simp[vT,wY,IR,he]
theorem zpG(V:View)(e:List UInt8)(S:List (Option (List UInt8)))(h:12+4*(S.length+1)+pu S<=512):uw V e (S++[none])=uw V e S:=by
 unfold uw;rw[Vh,Wy,KG,aA];show vT V e++(vR 512 S++[0,0,0,0])++List.replicate (500 - 4*(S.length+1) - (pu S+(0+0))) 0++([]++wH S)=_;rw[aV,Qo (500 - 4*S.length - pu S) eu,show 500 - 4*S.length - pu S - 4=500 - 4*(S.length+1) - (pu S+(0+0)) by omega];simp only[aG,bV,aV]
def yA(V:View)(e:List UInt8)(S:List (Option (List UInt8)))(r:List UInt8):List UInt8:=
 vT V e++vR 512 S++List.replicate (500 - 4*S.length - pu S - r.length) 0++(r++wH S)
theorem zqQ(V:View)(e:List UInt8)(he:e.length=2)(S:List (Option (List UInt8)))(r:List UInt8)(h:12+4*S.length+pu S+r.length<=512):
  (uw V e S).take (512 - pu S - r.length)++(r++(uw V e S).drop (512 - pu S - r.length+r.length))=yA V e S r:=by
 have c:uw V e S=(vT V e++vR 512 S++List.replicate (500 - 4*S.length - pu S - r.length) 0)++List.replicate r.length 0++wH S:=by
  unfold uw;rw[show 500 - 4*S.length - pu S=(500 - 4*S.length - pu S - r.length)+r.length by omega,<-gT,Nat.add_sub_cancel];simp only[aG]
 have f:(vT V e++vR 512 S++List.replicate (500 - 4*S.length - pu S - r.length) (0:UInt8)).length=512 - pu S - r.length:=by
  rw[aA,aA,UH he,Iu,bi];omega
 have a:=zpF (vT V e++vR 512 S++List.replicate (500 - 4*S.length - pu S - r.length) 0) (List.replicate r.length 0) (wH S) r (by rw[bi]);rw[f,<-c]at a;rw[<-aG,a,yA];simp only[aG]
theorem Es(V:View)(e:List UInt8)(he:e.length=2)(S:List (Option (List UInt8)))(r:List UInt8)(h:12+4*S.length+pu S+r.length<=512):(yA V e S r).length=512:=by
 rw[yA,aA,aA,aA,aA,UH he,Iu,bi,QY];omega
theorem zpH(V:View)(e:List UInt8)(he:e.length=2)(S:List (Option (List UInt8)))(r:List UInt8)(h:12+4*(S.length+1)+pu S+r.length<=512)(a b c d:UInt8)(ha:[a,b,c,d]=Md (512 - pu S) (some r)):
  ((((yA V e S r).set (12+4*S.length) a).set (12+4*S.length+1) b).set (12+4*S.length+2) c).set (12+4*S.length+3) d=uw V e (S++[some r]):=by
 have f:yA V e S r=(vT V e++vR 512 S)++0::0::0::0::(List.replicate (500 - 4*S.length - pu S - r.length - 4) 0++(r++wH S)):=by
  rw[yA,Qo _ eu];simp only[aG,bV]
 rw[f,WZ _ _ _ _ _ _ _ _ _ _ _ (by rw[aA,UH he,Iu])];unfold uw;rw[Vh,Wy,KG,aA,<-ha];show _=vT V e++(vR 512 S++[a,b,c,d])++List.replicate (500 - 4*(S.length+1) - (pu S+(r.length+0))) 0++(r++wH S);rw[show 500 - 4*S.length - pu S - r.length - 4=500 - 4*(S.length+1) - (pu S+(r.length+0)) by omega];simp only[aG,bV,aV]
theorem zqR(V:View)(S:List (Option (List UInt8)))(a b:UInt8):((uw V [0,0] S).set 4 a).set 5 b=uw V [a,b] S:=by
 simp only[uw,vT,wY,IR,aG,bV,aV]
 rfl
theorem zqS(L r:List UInt8)(k:Nat):splice (bv L) k (bv r)=bv (L.take k++(r++L.drop (k+r.length))):=by
 simp only[splice,bv,bK,eX,eY,aQ,aG]
structure qV(w:World)(lo:Nat)(o:List Nat)(vs:List Value)(S:List (Option (List UInt8))):Prop where
 len:vs.length=S.length
 no:∀ (i:Nat),S[i]?=some none->vs[i]?=some (.slice none 0 0)
 yes:∀ (i:Nat) r,S[i]?=some (some r)->∃ b off c,vs[i]?=some (.slice (some ⟨b,off,none⟩) r.length c)/\nC w (some ⟨b,off,none⟩) r.length 1 (bv r)/\b<w.heap.size/\b∉o/\lo<=b/\r.length<=c
namespace qV
variable {w w':World}{lo:Nat}{o:List Nat}{vs:List Value}{S:List (Option (List UInt8))}
theorem nil(w:World)(lo:Nat)(o:List Nat):qV w lo o [] []:=⟨rfl,λi a=>by simp at a,λi r a=>by simp at a⟩
theorem kp{M:List Nat}(h:qV w lo o vs S)(k:Kp M w w')(hM:∀ g,g∈M->w.heap.size<=g\/g∈o\/g<lo):qV w' lo o vs S:=⟨h.len,h.no,λi r hr=>by
 obtain⟨b,f,c,g,j,l,a,m⟩:=h.yes i r hr;refine⟨b,f,c,g,j.nu k λp q e o=>?_,ae l k.size,a,m⟩;cases e;rcases hM b o with e|e|e
 .omega
 .exact a e
 .omega⟩
theorem new(h:qV w lo o vs S)(hb:Below w.heap.size w w'):qV w' lo o vs S:=h.kp (M:=[]) (Kp.of_below hb) ig
theorem yh{o':List Nat}(h:qV w lo o vs S)(ho:∀ g,g∈o'->g∈o\/w.heap.size<=g\/g<lo):qV w lo o' vs S:=⟨h.len,h.no,λi r hr=>by
 obtain⟨b,a,c,f,g,j,k,l⟩:=h.yes i r hr;refine⟨b,a,c,f,g,j,λm=>?_,l⟩;rcases ho b m with e|e|e
 .exact k e
 .omega
 .omega⟩
theorem only{g:Nat}(h:qV w lo o vs S)(ho:Only g w w')(hg:g<lo\/g∈o):qV w' lo o vs S:=h.kp (Kp.rC ho) (λa c=>by
 have:a=g:=by simpa using c
 subst this;exact hg.elim (λe=>Or.inr (Or.inr e)) λe=>Or.inr (Or.inl e))
theorem nu{M:List Nat}(h:qV w lo o vs S)(k:Kp M w w')(hM:∀ g,g∈M->g<lo\/g∈o):qV w' lo o vs S:=h.kp k λg a=>(hM g a).elim (λe=>Or.inr (Or.inr e)) λe=>Or.inr (Or.inl e)
end qV
theorem orN{a b:Int}(s:Nat)(q:Int)(ha:0<=a)(hq:a=q*2 ^ s)(hb:0<=b/\b<2 ^ s)(hs:a+b<9223372036854775808):((BitVec.ofInt 64 a |||BitVec.ofInt 64 b).toNat:Int)=a+b:=by
 have c:=Yj (a:=a) (b:=b) s q ⟨ha,eu⟩ hq hb eu;have f:=(BitVec.ofInt 64 a |||BitVec.ofInt 64 b).isLt;have e:IntKind.u64.wrap ((BitVec.ofInt 64 a |||BitVec.ofInt 64 b).toNat:Int)=((BitVec.ofInt 64 a |||BitVec.ofInt 64 b).toNat:Int):=wu64 eu;exact e.symm.trans c
theorem SH{a b:Int}(s:Nat)(q:Int)(ha:0<=a)(hq:a=q*2 ^ s)(hb:0<=b/\b<2 ^ s)(hs:a+b<9223372036854775808):IntKind.i64.wrap ((BitVec.ofInt IntKind.i64.bits a |||BitVec.ofInt IntKind.i64.bits b).toNat:Int)=a+b:=by
 have c:=orN s q ha hq hb hs;show IntKind.i64.wrap ((BitVec.ofInt 64 a |||BitVec.ofInt 64 b).toNat:Int)=a+b;rw[c,nN eu]
theorem NL(p:Option Addr)(n c:Nat)(a b:UInt8)(w:World)(hn:n=2)(h:nC w p n 1 (bv [a,b])):CQ 218 [.slice p n c] w (λv w'=>v= .int .i64 (256*(a.toNat:Int)+b.toNat)/\Below w.heap.size w w'):=by
 have f:=Below.refl w.heap.size w;subst hn;have m:=a.toNat_lt;have hb:=b.toNat_lt;obtain⟨g,o,rfl,p⟩:=h.some eu;refine nP (fn:=Tryz.f218) (rs:=[.tmp 2]) (n:=13) Tryz.func218 rfl rfl Tryz.ntmps218 dA rfl<|mR<|mV<|mQ<|ng<|qz [] dA ?_
 intro q l r;replace f:=f.acc l;have j:=f;refine mU 0 (nK)<|mU 1 (vg (e:=5) dA rfl rfl (0) eu eu)<|nI 2 (λw' i=>ou rfl (Ld.sl1 (h.below (j.nu i jW) (ax _)) dA (show(bv [a,b])[0]?=some (.int .u8 (a.toNat:Int))from rfl)))<|mU 3 (rz (k:=.i64) dA dA rfl (Coup.nN eu))<|mU 4 (QH rfl rfl eu (show IntKind.i64.wrap ((a.toNat:Int)*2 ^ 8)=256*(a.toNat:Int) by rw[nN eu];omega))<|mU 5 (nK)<|mU 6 (vg (e:=5) dA rfl rfl (1) eu eu)<|nI 7 (λw' i=>ou rfl (Ld.sl1 (h.below (j.nu i jW) (ax _)) dA (show(bv [a,b])[1]?=some (.int .u8 (b.toNat:Int))from rfl)))<|mU 8 (rz (k:=.i64) dA dA rfl (Coup.nN eu))<|mU 9 (Pm rfl rfl (SH 8 a.toNat eu eu eu eu))<|mU 10 (rA)<|oL dA<|ny<|nQ<|nR [_] ⟨rfl,trivial⟩ ?_
 exact⟨rfl,f⟩
theorem OV{S:List (Option (List UInt8))}{i:Nat}{s:Option (List UInt8)}(h:S[i]?=some s):pu (S.take (i+1))=pu (S.take i)+(uF s).length:=by
 rw[bf,h,KG];simp[pu]
theorem Kb(S:List (Option (List UInt8)))(i:Nat):pu (S.take i)<=pu S:=by
 have:=KG (S.take i) (S.drop i);rw[bM]at this;omega
theorem qV.val{w:World}{lo:Nat}{o:List Nat}{vs:List Value}{S:List (Option (List UInt8))}(h:qV w lo o vs S){i:Nat}{s:Option (List UInt8)}(hs:S[i]?=some s):
  ∃ p c,vs[i]?=some (.slice p (uF s).length c)/\nC w p (uF s).length 1 (bv (uF s))/\(s=none↔p=none)/\(uF s).length<=c/\∀ b o,p=some ⟨b,o,none⟩->lo<=b:=by
 cases s with
 |none=>exact⟨none,0,h.no i hs,nC.nil _ _ _,ig,ax _,λb o e=>by cases e⟩
 |some r=>
  obtain⟨b,k,c,a,f,_,_,g,j⟩:=h.yes i r hs;exact⟨_,c,a,f,ig,j,λb o e=>by cases e;exact g⟩
theorem Dp(V:View)(p:Option Addr)(c:Nat)(vs:List Value)(w:World)(lo:Nat)(o:List Nat)(h:nC w p V.slots.length 1 vs)(hs:qV w lo o vs V.slots)(hb:qW V<=1000000):
   CQ 219 [.agg #[.int .i64 (V.kind:Int), .int .i64 (V.next:Int), .slice p V.slots.length c]] w (λv w'=>v= .int .i64 (qW V:Int)/\Below w.heap.size w w'):=by
 have a:=Below.refl w.heap.size w;have z:maxLen=9223372036854775807:=by decide
 obtain⟨S,l⟩:=aa (V.slots);have r:qW V=12+4*S.length+pu S:=by rw[qW,l]
 rw[r]at hb |-;rw[l]at h hs |-;refine nP (fn:=Tryz.f219) (rs:=[.tmp 2]) (n:=24) Tryz.func219 rfl rfl Tryz.ntmps219 dA rfl<|mR<|nz<|oV ([_,_,_]) rfl<|λA w1 B m t=>?_
 replace a:=a.acc t;refine nV<|mO (nk 2)<|mO (mZ m)<|mO (oQ (e:=23) (sz:=1) dA rfl rfl)<|mO (yD rfl rfl (Coup.nN eu))<|mO (om rfl rfl (Coup.nN eu))<|mV<|mQ<|ng<|mR<|mO (nk 2)<|mO (mZ m)<|mO (oQ (e:=23) (sz:=1) dA rfl rfl)<|mP<|mQ<|oU ?_
 refine qZ (α:=Nat) 0 (λk=>[(14, .int .i64 (k:Nat)),(13, .int .i64 (S.length:Nat)),(12, .slice p S.length c),(3, .int .i64 ((12+4*S.length+pu (S.take k):Nat):Int))]) (λk w'=>k<=S.length/\Below w.heap.size w w') (λk=>S.length - k)
   ⟨rfl,rfl,rfl,vi (by simp[pu]),rfl⟩ ⟨aC _,a⟩ ?_
 rintro i f C ⟨D,a⟩;have E:=Kb S i;refine mR<|mO (pE rfl rfl)<|mQ<|ng<|oP rfl (λu=>?_)<|λu=>?_
 ·
  refine lF ?_;have j:∃ s,S[i]?=some s:=⟨_,aI eu⟩;obtain⟨s,o⟩:=j;have v:=hs.val o;obtain⟨q,F,y,G,H,-⟩:=v;have j:=h.some eu;obtain⟨g,I,rfl,J⟩:=j;have K:=OV o;have L:=Kb S (i+1);refine nM<|mO (vg (e:=23) dA rfl rfl i eu eu)<|mO (ou rfl (Ld.sl1 (h.below a (ax _)) dA y))<|mV<|mQ<|nM<|mP<|mP<|mO (oQ (e:=5) (sz:=1) dA rfl rfl)<|mO (om rfl rfl (Coup.nN eu))<|mV<|oH<|pW<|ny<|nM<|mO (om rfl rfl (Coup.nN eu))<|mP<|oH<|oO ⟨i+1,eu,⟨rfl,rfl,rfl,vi eu,rfl⟩,eu,a⟩
 ·
  obtain rfl:i=S.length:=by omega
  rw[aP (ax _)];refine qP<|qL<|rf<|qX<|ny<|mR<|mP<|mV<|mQ<|nQ<|nR [_] ⟨rfl,trivial⟩ ?_
  exact⟨rfl,a⟩
theorem PW(q:Option Addr)(n c:Nat)(w:World):CQ 239 [.slice q n c] w (λv w'=>v= .bool q.isNone/\w=w'):=by
 refine nP (fn:=Tryz.f239) (rs:=[.tmp 2]) (n:=5) Tryz.func239 rfl rfl Tryz.ntmps239 dA rfl<|mR<|nV<|mP<|mO (KL (e:=5) dA rfl rfl)<|mV<|mQ<|nQ<|nR [_] ⟨rfl,trivial⟩ ?_
 exact⟨rfl,rfl⟩
def zX(S:List (Option (List UInt8)))(i:Int):Bool:=decide (0<=i) && (S.getD i.toNat none).isSome
theorem Qx(V:View)(p:Option Addr)(c:Nat)(vs:List Value)(k:Int)(w:World)(lo:Nat)(o:List Nat)(h:nC w p V.slots.length 1 vs)(hs:qV w lo o vs V.slots):
   CQ 178 [.agg #[.int .i64 (V.kind:Int), .int .i64 (V.next:Int), .slice p V.slots.length c], .int .i64 k] w (λv w'=>v= .bool (zX V.slots k)/\Below w.heap.size w w'):=by
 have a:=Below.refl w.heap.size w;obtain⟨S,l⟩:=aa (V.slots);rw[l]at h hs |-;refine nP (fn:=Tryz.f178) (rs:=[.tmp 4]) (n:=22) Tryz.func178 rfl rfl Tryz.ntmps178 dA rfl<|mR<|nz<|oV ([_,_,_]) rfl<|λu w2 v f m=>?_
 replace a:=a.acc m;refine nV<|mP<|mO (tN rfl rfl)<|mP<|ui 7 rfl (λo=>?_)<|λo=>?_
 ·
  refine mY<|mP<|mY<|mO (nk 2)<|mY<|mO (mZ f)<|mY<|mO (oQ (e:=23) (sz:=1) dA rfl rfl)<|mY<|mO (pE rfl rfl)<|mO (pO rfl)<|mP<|ui 14 rfl (λp=>?_)<|λp=>?_
  ·
   refine mY<|mO (nk 2)<|mY<|mO (mZ f)<|mY<|mP<|mY ?_
   have c:∃ i:Nat,k=i:=⟨k.toNat,eu⟩;obtain⟨i,rfl⟩:=c;have c:∃ s,S[i]?=some s:=⟨_,aI eu⟩;obtain⟨s,j⟩:=c;have r:=hs.val j;obtain⟨q,y,t,z,A,-⟩:=r;have c:=h.some eu;obtain⟨g,B,rfl,C⟩:=c;refine mO (vg (e:=23) dA rfl rfl (i) eu eu)<|mY<|mO (ou rfl (Ld.sl1 (h.below a (ax _)) dA t))<|mY<|mO (zqN (e:=5) dA rfl rfl)<|mO (pO rfl)<|mV<|mQ<|nQ<|nR [_] ⟨rfl,trivial⟩<|⟨vb ?_,a⟩
   rw[zX,aR,bI,j,decide_eq_true eu];cases s<;>cases q<;>simp_all
  ·
   refine nE<|nE<|nE<|nE<|nE<|nE<|mO (oo rfl)<|mV<|mQ<|nQ<|nR [_] ⟨rfl,trivial⟩<|⟨vb ?_,a⟩
   rw[zX,bI,bQ eu];simp
 ·
  refine nE<|nE<|nE<|nE<|nE<|mO (oo rfl)<|mP<|nE<|nE<|nE<|nE<|nE<|nE<|mO (oo rfl)<|mV<|mQ<|nQ<|nR [_] ⟨rfl,trivial⟩<|⟨vb ?_,a⟩
  rw[zX,decide_eq_false eu];rfl
def wO(S:List (Option (List UInt8))):Nat:=S.findIdx λs=>s.isNone
theorem ztg{S:List (Option (List UInt8))}{i:Nat}(h:S[i]?=some none)(hf:i<=wO S):wO S=i:=by
 obtain⟨e,c⟩:=aO.1 h;rcases Nat.lt_or_eq_of_le hf with a|a
 .have:=jr a
  rw[c]at this;simp at this
 .exact a.symm
theorem zth{S:List (Option (List UInt8))}{i:Nat}{r:List UInt8}(h:S[i]?=some (some r))(hf:i<=wO S):i+1<=wO S:=by
 obtain⟨g,i⟩:=aO.1 h;rcases Nat.lt_or_eq_of_le hf with a|a
 .exact a
 .exfalso
  have c:wO S<S.length:=by omega
  have:=iE (p:=λs:Option (List UInt8)=>s.isNone) (xs:=S) (w:=c);have e:S[List.findIdx (λs:Option (List UInt8)=>s.isNone) S]'c=some r:=by
   have f:S[wO S]?=some (some r):=by rw[<-a];exact h
   exact(aO.1 f).2
  rw[e]at this;simp at this
theorem EC(S:List (Option (List UInt8)))(p:Option Addr)(c:Nat)(vs:List Value)(w:World)(lo:Nat)(o:List Nat)(h:nC w p S.length 1 vs)(hs:qV w lo o vs S):
   CQ 238 [.slice p S.length c, .func (.func 239) #[] #[]] w (λv w'=>v= .int .i64 (if wO S<S.length then(wO S:Int)else -1)/\Below w.heap.size w w'):=by
 have j:=Below.refl w.heap.size w;have F:maxLen=9223372036854775807:=by decide
 have G:=h.max;refine nP (fn:=Tryz.f238) (rs:=[.tmp 4]) (n:=19) Tryz.func238 rfl rfl Tryz.ntmps238 dA rfl<|mR<|mV<|mQ<|ng<|mR<|mP<|mO (oQ (e:=23) (sz:=1) dA rfl rfl)<|mP<|mQ<|oU ?_
 refine qZ (α:=Nat) 0 (λk=>[(8, .int .i64 (k:Nat)),(7, .int .i64 (S.length:Nat)),(0, .slice p S.length c),(1, .func (.func 239) #[] #[])]) (λk w'=>k<=S.length/\k<=wO S/\Below w.heap.size w w') (λk=>S.length - k)
   ⟨rfl,rfl,rfl,rfl,rfl⟩ ⟨aC _,aC _,j⟩ ?_
 rintro i f v ⟨H,t,j⟩;refine mR<|mO (pE rfl rfl)<|mQ<|ng<|oP rfl (λy=>?_)<|λy=>?_
 ·
  refine lG ?_;have o:∃ s,S[i]?=some s:=⟨_,aI eu⟩;obtain⟨s,l⟩:=o;have z:=hs.val l;obtain⟨q,A,B,I,u,-⟩:=z;have o:=h.some eu;obtain⟨g,J,rfl,K⟩:=o;refine nM<|mP<|mP<|mP<|mO (vg (e:=23) dA rfl rfl i eu eu)<|mO (ou rfl (Ld.sl1 (h.below j (ax _)) dA B))<|qi rfl (zte dA rfl rfl) (PW q (uF s).length A v) ?_
  rintro _ _ ⟨rfl,rfl⟩;refine mQ<|xm rfl (λm=>?_)<|λm=>?_
  ·
   refine lH ?_;have C:s=none:=by rw[u];cases q with|none=>rfl|some a=>simp at m
   rw[C]at l;have D:=ztg l t;refine⟨?_,j⟩;rw[if_pos eu,D];rfl
  ·
   obtain⟨r,hr⟩:∃ r,s=some r:=by
    cases s with
    |none=>rw[u.1 rfl]at m;simp at m
    |some r=>exact⟨r,rfl⟩
   rw[hr]at l;have E:=zth l t;refine nL<|pW<|ny<|nM<|mO (om rfl rfl (Coup.nN eu))<|mP<|oH<|oO ⟨i+1,eu,⟨rfl,rfl,rfl,rfl,rfl⟩,eu,E,j⟩
 ·
  obtain rfl:i=S.length:=by omega
  refine qP<|qL<|rf<|qX<|ny<|mR<|mV<|mQ<|nQ<|nR [_] ⟨rfl,trivial⟩<|⟨?_,j⟩
  rw[if_neg eu];rfl
theorem Lm(V:View)(p:Option Addr)(c:Nat)(vs:List Value)(w:World)(lo:Nat)(o:List Nat)(h:nC w p V.slots.length 1 vs)(hs:qV w lo o vs V.slots):
   CQ 195 [.agg #[.int .i64 (V.kind:Int), .int .i64 (V.next:Int), .slice p V.slots.length c]] w (λv w'=>v= .int .i64 (wO V.slots:Nat)/\Below w.heap.size w w'):=by
 have a:=Below.refl w.heap.size w;have l:wO V.slots<=V.slots.length:=List.findIdx_le_length;obtain⟨S,m⟩:=aa (V.slots);rw[m]at h hs l |-;obtain⟨F,i⟩:∃ F:Int,(if wO S<S.length then(wO S:Int)else -1)=F:=⟨_,rfl⟩;have j:=EC S p c vs;rw[i]at j;refine nP (fn:=Tryz.f195) (rs:=[.tmp 2]) (n:=13) Tryz.func195 rfl rfl Tryz.ntmps195 dA rfl<|mR<|nz<|oV ([_,_,_]) rfl<|λs w1 t g q=>?_
 replace a:=a.acc q;refine mV<|mQ<|ng<|mR<|mO (nk 2)<|mO (mZ g)<|nD (j w1 lo o (h.below a (ax _)) (hs.new a)) ?_
 rintro _ u ⟨rfl,k⟩;replace g:=g.new k;replace a:=a.acc k;refine nV<|mP<|mO (tN rfl rfl)<|mQ<|oP rfl (λf=>?_)<|λf=>?_
 ·
  refine mR<|mP<|mV<|mQ<|nQ<|qb<|nR [_] ⟨rfl,trivial⟩<|⟨vi ?_,a⟩
  rw[<-i]at f |-
  split at f
  · rename_i r;rw[if_pos r]
  · omega
 ·
  refine nL<|ny<|mR<|mO (nk 2)<|mO (mZ g)<|mO (oQ (e:=23) (sz:=1) dA rfl rfl)<|mV<|mQ<|nQ<|nR [_] ⟨rfl,trivial⟩<|⟨vi ?_,a⟩
  rw[<-i]at f
  split at f<;>omega
theorem DI(n:Nat):IntKind.u8.wrap (n:Int)=((u8 n).toNat:Int):=by
 rw[IntKind.wrap_u8,u8,fq];omega
theorem Cq(n:Nat){b:Int}(s:Nat)(hb:b=(s:Int))(hs:s<=64):(n:Int).fdiv (2 ^ (min b.toNat IntKind.i64.bits))=((n / 2 ^ s:Nat):Int):=by
 have:=KN (a:=(n:Int)) s hb hs;rw[Int.natCast_ediv,jq];exact this
theorem WG(n:Nat):u8 (n % 256)=u8 n:=by
 refine iC.1 ?_;unfold u8;rw[fq,fq];omega
theorem Ul{a b:Int}(n s:Nat)(ha:a=(n:Int))(hb:b=(s:Int))(hs:s<=64):a.fdiv (2 ^ (min b.toNat IntKind.i64.bits))=((n / 2 ^ s:Nat):Int):=by
 subst ha;exact Cq n s hb hs
theorem zti{a:Int}(n:Nat)(ha:a=(n:Int)):IntKind.u8.wrap a=((u8 n).toNat:Int):=by
 subst ha;exact DI n
theorem OP{w:World}{g k:Nat}{l:List Value}{v:Value}{t:TypeId}(h:row w g (l.set (0+k) v) t):row w g (l.set k v) t:=by rw[bg]at h;exact h
theorem zqV(L r:List UInt8)(j k:Nat)(h:r.length=0\/j=k):splice (bv L) j (bv r)=splice (bv L) k (bv r):=by
 rcases h with h|rfl
 .have:r=[]:=bH h
  subst this;simp[splice,bv]
 .rfl
def yH(L:List UInt8)(n:Nat):Nat->List UInt8
 |0=>L
 |k+1=>(yH L n k).set (8+k) (u8 (n / 2 ^ (24 - 8*k)))
theorem zoz(L:List UInt8)(n:Nat):∀ k,(yH L n k).length=L.length
 |0=>rfl
 |k+1=>by rw[yH,bq,zoz L n k]
def uG:List UInt8:=List.replicate 512 0
theorem DT{l:List UInt8}{i:Nat}{b:UInt8}(h:i<l.length):(bv l).set i (.int .u8 (b.toNat:Int))=bv (l.set i b):=by
 simp only[bv,fZ];rfl
theorem AP:List.replicate 512 (Value.int .u8 0)=bv uG:=by
 rw[uG,bv,gu];rfl
theorem zpI(V:View):yH (((uG.set 0 (u8 V.kind)).set 2 (u8 (V.slots.length / 2 ^ 8))).set 3 (u8 V.slots.length)) V.next 4=uw V [0,0] []:=by
 have e:uG=[0,0,0,0,0,0,0,0,0,0,0,0]++List.replicate 500 0:=by
  rw[uG,show(512:Nat)=12+500 from rfl,<-gT];rfl
 have a:uw V [0,0] []=vT V [0,0]++List.replicate 500 0:=by
  simp only[uw,vR,wH,pu,aU,aX,Nat.mul_zero,fV]
 rw[e,a];generalize List.replicate 500 (0:UInt8)=T;have m:∀ n:Nat,u8 (n % 256)=u8 n:=λn=>by
  refine iC.1 ?_;unfold u8;rw[fq,fq];omega
 have c:V.next / 2 ^ (24 - 8*0)=V.next / 16777216:=rfl;have f:V.next / 2 ^ (24 - 8*1)=V.next / 65536:=rfl;have g:V.next / 2 ^ (24 - 8*2)=V.next / 256:=rfl;have h:V.next / 2 ^ (24 - 8*3)=V.next:=by rw[show 24 - 8*3=0 from rfl,Nat.pow_zero,Nat.div_one]
 simp only[yH,c,f,g,h,vT,wY,IR,m]
 rfl
theorem TC(V:View)(p:Option Addr)(c:Nat)(vs:List Value)(w:World)(lo:Nat)(o:List Nat)(h:nC w p V.slots.length 1 vs)(hs:qV w lo o vs V.slots)(hk:V.kind<256)(hn:V.next<2147483648)(hz:qW V<=512):
   CQ 194 [.agg #[.int .i64 (V.kind:Int), .int .i64 (V.next:Int), .slice p V.slots.length c]] w (λv w'=>v= .agg (bv (oG V)).toArray/\Below w.heap.size w w'):=by
 have o:=Below.refl w.heap.size w;have f4:maxLen=9223372036854775807:=by decide
 obtain⟨Z,I⟩:=aa (uG);have b2:Z.length=512:=by rw[<-I,uG,bi]
 refine nP (fn:=Tryz.f194) (rs:=[.cell 2 121]) (n:=90) Tryz.func194 rfl rfl Tryz.ntmps194 dA rfl<|mR<|nz<|oV ([_,_,_]) rfl<|λB w1 f5 t b3=>?_
 replace o:=o.acc b3;refine nz<|nU (List.replicate 512 (Value.int .u8 0)) dA<|λu w2 a0 l a1=>?_
 have y:=ag o.size a0;have C:B<u:=ae t.lt a0;replace t:=t.new a1;replace o:=o.acc a1;rw[AP,I]at l;refine pV<|mO (nk 0)<|mO (mZ t)<|mO (rz (k:=.u8) dA dA rfl (DI V.kind))<|mO (Ai (e:=5) (m:=512) dA rfl rfl (0) rfl eu)<|nH<|oW l<|λb4 l a2=>?_
 replace t:=t.only a2 (ai C);replace o:=a2.below o y;replace l:row b4 u ((bv Z).set 0 (.int .u8 ((u8 V.kind).toNat:Int))) 121:=l;rw[DT eu]at l;refine mQ<|ng<|qz [u] dA ?_
 intro f6 J b5;replace t:=t.new J;replace l:=l.new J;replace o:=o.acc J;have a3:=t;refine mU 0 (nk 2)<|nI 1 (λw' K=>mZ (a3.kq K))<|mU 2 (oQ (e:=23) (sz:=1) dA rfl rfl)<|mU 3 (wQ rfl rfl eu (Cq V.slots.length 8 rfl eu))<|mU 4 (rz (k:=.u8) dA dA rfl (DI (V.slots.length / 2 ^ 8)))<|mU 5 (nk 2)<|nI 6 (λw' K=>mZ (a3.kq K))<|mU 7 (oQ (e:=23) (sz:=1) dA rfl rfl)<|mU 8 (rz (k:=.u8) dA dA rfl (DI V.slots.length))<|mU 9 (Ai (e:=5) (m:=512) dA rfl rfl (2) rfl eu)<|nS 10 dA<|qR rfl rfl<|oW l<|λb6 l N=>?_
 have a4:=b5.aq N;refine⟨a4,?_⟩;replace t:=t.only N (ai C);replace o:=N.below o y;replace l:row b6 u ((bv (Z.set 0 (u8 V.kind))).set 2 (.int .u8 ((u8 (V.slots.length / 2 ^ 8)).toNat:Int))) 121:=l;rw[DT (by rw[bq];omega)]at l;refine mU 11 (Ai (e:=5) (m:=512) dA rfl rfl (3) rfl eu)<|nS 12 dA<|qR rfl rfl<|oW l<|λb7 l P=>?_
 have b8:=a4.aq P;refine⟨b8,?_⟩;replace t:=t.only P (ai C);replace o:=P.below o y;replace l:row b7 u ((bv ((Z.set 0 (u8 V.kind)).set 2 (u8 (V.slots.length / 2 ^ 8)))).set 3 (.int .u8 ((u8 V.slots.length).toNat:Int))) 121:=l;rw[DT (by rw[bq,bq];omega)]at l;refine oL dA<|ny<|ng<|mR<|mP<|mQ<|oU ?_
 have z:∃ L,((Z.set 0 (u8 V.kind)).set 2 (u8 (V.slots.length / 2 ^ 8))).set 3 (u8 V.slots.length)=L:=⟨_,rfl⟩;obtain⟨L1,R⟩:=z;have f7:L1.length=512:=by rw[<-R,bq,bq,bq];exact b2
 rw[R]at l;refine qZ (α:=Nat) 0 (λk=>[(23, .int .i64 (k:Nat)),(1, .pointer (some ⟨B,0,none⟩)),(2, .pointer (some ⟨u,0,none⟩))])
   (λk w'=>k<=4/\row w' B [.int .i64 (V.kind:Int), .int .i64 (V.next:Int), .slice p V.slots.length c] 242/\row w' u (bv (yH L1 V.next k)) 121/\Below w.heap.size w w') (λk=>4 - k)
   ⟨rfl,rfl,rfl,rfl⟩ ⟨aC _,t,l,o⟩ ?_
 clear t l o;have f8:w.heap.size<=B:=by omega
 have f9:w.heap.size<=u:=by omega
 rintro i f b9 ⟨c4,t,l,o⟩;have g0:=zoz L1 V.next i;refine mR<|mO (pE rfl rfl)<|mQ<|ng<|oP rfl (λS=>?_)<|λS=>?_
 ·
  refine nL<|ny<|ng<|oU<|mR<|mP<|mV<|mQ<|nM<|mP<|mO (om rfl rfl (Coup.nN eu))<|mO (nk 1)<|mO (mZ t)<|mP<|mO (yD rfl rfl (Coup.nN eu))<|mO (vE rfl rfl (Coup.nN eu))<|mO (wQ rfl rfl eu (Cq V.next (24 - 8*i) eu eu))<|mO (rz (k:=.u8) dA dA rfl (DI (V.next / 2 ^ (24 - 8*i))))<|mO (Ai (e:=5) (m:=512) dA rfl rfl (8+i) eu eu)<|nH<|oW l<|λc5 l a5=>?_
  replace t:=t.only a5 (ai C);replace o:=a5.below o y;replace l:row c5 u ((bv (yH L1 V.next i)).set (8+i) (.int .u8 ((u8 (V.next / 2 ^ (24 - 8*i))).toNat:Int))) 121:=OP l;rw[DT eu]at l;refine oH<|pW<|ny<|nM<|mO (om rfl rfl (Coup.nN eu))<|mP<|oH<|oO ⟨i+1,eu,⟨rfl,rfl,rfl,rfl⟩,eu,t,?_,o⟩
  exact l
 ·
  obtain rfl:i=4:=by omega
  have c6:yH L1 V.next 4=uw V [0,0] []:=by
    rw[<-R,<-I];exact zpI V
  rw[c6]at l;refine qP<|qL<|rf<|qX<|ny<|mR<|mV<|mQ<|ng<|ng<|nM<|mO (nk 2)<|mO (mZ t)<|mO (oQ (e:=23) (sz:=1) dA rfl rfl)<|mP<|mQ<|oU ?_
  refine qZ (α:=Nat) 0 (λk=>[(40, .int .i64 (k:Nat)),(39, .int .i64 (V.slots.length:Nat)),(38, .slice p V.slots.length c),(4, .int .i64 ((512 - pu (V.slots.take k):Nat):Int)),(1, .pointer (some ⟨B,0,none⟩)),(2, .pointer (some ⟨u,0,none⟩))])
    (λk w'=>k<=V.slots.length/\row w' u (bv (uw V [0,0] (V.slots.take k))) 121/\Below w.heap.size w w') (λk=>V.slots.length - k)
    ⟨rfl,rfl,rfl,vi (by simp[pu]),rfl,rfl,rfl⟩ ⟨aC _,l,o⟩ ?_
  clear t l o;rintro i f b9 ⟨c4,l,o⟩;have g1:=Kb V.slots i;unfold qW at hz;refine mR<|mO (pE rfl rfl)<|mQ<|ng<|oP rfl (λS=>?_)<|λS=>?_
  ·
   refine lF ?_;have z:∃ s,V.slots[i]?=some s:=⟨_,aI eu⟩;obtain⟨s,D⟩:=z;have c7:=hs.val D;obtain⟨q,c8,F,g2,a6,-⟩:=c7;have z:=h.some eu;obtain⟨g,g3,rfl,g4⟩:=z;have a7:=OV D;have g5:=Kb V.slots (i+1);have a8:V.slots.take (i+1)=V.slots.take i++[s]:=by rw[bf,D];rfl
   have A:(V.slots.take i).length=i:=by rw[aH];omega
   refine nM<|mP<|mO (vg (e:=23) dA rfl rfl i eu eu)<|mO (ou rfl (Ld.sl1 (h.below o (ax _)) dA F))<|mV<|mV<|mQ<|ng<|mR<|mP<|mO (KL (e:=5) dA rfl rfl)<|mQ<|xm rfl (λG=>?_)<|λG=>?_
   ·
    refine qP<|qL<|qX<|ny<|nM<|mO (om rfl rfl (Coup.nN eu))<|mP<|oH ?_
    have c9:s=none:=by rw[a6];cases q with|none=>rfl|some a=>simp at G
    subst c9;rw[show(uF none).length=0 from rfl]at a7;have a9:=zpG V [0,0] (V.slots.take i) lu;rw[<-a8]at a9;rw[<-a9]at l;refine oO ⟨i+1,eu,⟨rfl,rfl,rfl,vi eu,rfl,rfl,rfl⟩,eu,l,o⟩
   ·
    obtain⟨r,rfl⟩:∃ r,s=some r:=by
      cases s with
      |none=>rw[a6.1 rfl]at G;simp at G
      |some r=>exact⟨r,rfl⟩
    have z:=hs.yes i r D;obtain⟨b,ob,d0,d1,d2,b0,-⟩:=z;obtain⟨rfl,-,rfl⟩:q=some ⟨b,ob,none⟩/\(uF (some r)).length=r.length/\c8=d0:=by
      have:=bX (F.symm.trans d1)
      injection this with d3 d4 d5
      exact⟨d3,d4,d5⟩
    rw[show(uF (some r)).length=r.length from rfl]at a7 |-;obtain⟨E,b1⟩:=aa (512 - pu (V.slots.take i) - r.length);have T:=zqQ V [0,0] rfl (V.slots.take i) r lu;have d6:=Es V [0,0] rfl (V.slots.take i) r lu;have U:=zpH V [0,0] rfl (V.slots.take i) r lu (u8 (E / 2 ^ 8)) (u8 E) (u8 (r.length / 2 ^ 8)) (u8 r.length) (by rw[<-WG E,<-WG r.length,<-b1];rfl);rw[b1]at T;rw[A,<-a8]at U;have X:(uw V [0,0] (V.slots.take i)).length=512:=Sn rfl lu;generalize yA V [0,0] (V.slots.take i) r=M at T d6 U;refine nL<|ny<|mR<|mP<|mP<|mO (oQ (e:=5) (sz:=1) dA rfl rfl)<|mO (vE rfl rfl (Coup.nN eu))<|nV<|mP<|mO (T_ (e:=5) E 512 512 (512 - E) dA rfl ⟨_,_,rfl,eu⟩ rfl rfl ig eu eu eu rfl) ?_
    have z:∃ O,(if 512=E then 0 else 0+E)=O:=⟨_,rfl⟩;obtain⟨O,Y⟩:=z;have d7:r.length=0\/O=E:=by rw[<-Y];split<;>omega
    have d8:O+r.length<=512:=by rw[<-Y];split<;>omega
    rw[Y];refine mP<|nz<|Qd (e:=5) dA dA rfl rfl u (O) l (bv r) (by rw[oh];simp[Nat.min_def];omega) (λ_=>⟨rfl,_,rfl,λj v F=>by rw[Addr.add_lit];exact(d2.below o (ax _)).cell j F⟩) (by rw[oh,oh,X];exact d8) (tq _)<|λg6 l d9=>?_
    replace o:=d9.below o y;rw[zqV _ _ _ _ d7,zqS,T]at l;refine pV<|mP<|mO (yD rfl rfl (Coup.nN eu))<|mO (om rfl rfl (Coup.nN eu))<|mV<|mQ<|nM<|mP<|mP<|mO (om rfl rfl (Coup.nN eu))<|mP<|mO (om rfl rfl (Coup.nN eu))<|mP<|mO (om rfl rfl (Coup.nN eu))<|mP<|mO (wQ rfl rfl eu (Ul E 8 eu rfl eu))<|mO (rz (k:=.u8) dA dA rfl (DI (E / 2 ^ 8)))<|mP<|mO (rz (k:=.u8) dA dA rfl (zti E eu))<|mP<|mO (oQ (e:=5) (sz:=1) dA rfl rfl)<|mO (wQ rfl rfl eu (Cq r.length 8 rfl eu))<|mO (rz (k:=.u8) dA dA rfl (DI (r.length / 2 ^ 8)))<|mP<|mO (oQ (e:=5) (sz:=1) dA rfl rfl)<|mO (rz (k:=.u8) dA dA rfl (DI r.length))<|mO (Ai (e:=5) (m:=512) dA rfl rfl (12+4*i) eu eu)<|nH<|oW l<|λe0 l e1=>?_
    replace o:=e1.below o y;replace l:row e0 u ((bv M).set (12+4*i) (.int .u8 ((u8 (E / 2 ^ 8)).toNat:Int))) 121:=OP l;rw[DT eu]at l;refine mO (Ai (e:=5) (m:=512) dA rfl rfl (12+4*i+1) eu eu)<|nH<|oW l<|λe2 l e3=>?_
    replace o:=e3.below o y;replace l:row e2 u ((bv (M.set (12+4*i) (u8 (E / 2 ^ 8)))).set (12+4*i+1) (.int .u8 ((u8 E).toNat:Int))) 121:=OP l;rw[DT (by rw[bq];omega)]at l;refine mO (Ai (e:=5) (m:=512) dA rfl rfl (12+4*i+2) eu eu)<|nH<|oW l<|λe4 l e5=>?_
    replace o:=e5.below o y;replace l:row e4 u ((bv ((M.set (12+4*i) (u8 (E / 2 ^ 8))).set (12+4*i+1) (u8 E))).set (12+4*i+2) (.int .u8 ((u8 (r.length / 2 ^ 8)).toNat:Int))) 121:=OP l;rw[DT (by rw[bq,bq];omega)]at l;refine mO (Ai (e:=5) (m:=512) dA rfl rfl (12+4*i+3) eu eu)<|nH<|oW l<|λe6 l e7=>?_
    replace o:=e7.below o y;replace l:row e6 u ((bv (((M.set (12+4*i) (u8 (E / 2 ^ 8))).set (12+4*i+1) (u8 E)).set (12+4*i+2) (u8 (r.length / 2 ^ 8)))).set (12+4*i+3) (.int .u8 ((u8 r.length).toNat:Int))) 121:=OP l;rw[DT (by rw[bq,bq,bq];omega),U]at l;refine oH<|pW<|ny<|nM<|mO (om rfl rfl (Coup.nN eu))<|mP<|oH<|oO ⟨i+1,eu,⟨rfl,rfl,rfl,vi eu,rfl,rfl,rfl⟩,eu,l,o⟩
  ·
   obtain rfl:i=V.slots.length:=by omega
   rw[aP (ax _)]at l |-;have X:(uw V [0,0] V.slots).length=512:=Sn rfl eu;have H:=zqR V V.slots (u8 ((512 - pu V.slots) / 2 ^ 8)) (u8 (512 - pu V.slots));have e8:uw V [u8 ((512 - pu V.slots) / 2 ^ 8),u8 (512 - pu V.slots)] V.slots=oG V:=by
     rw[oG,<-WG (512 - pu V.slots)];rfl
   rw[e8]at H;have b0:(oG V).length=512:=Sn rfl eu;generalize oG V=Q at H b0 |-;generalize uw V [0,0] V.slots=M at H X l;refine qP<|qL<|rf<|qX<|ny<|mR<|mP<|mO (wQ rfl rfl eu (Cq (512 - pu V.slots) 8 rfl eu))<|mO (rz (k:=.u8) dA dA rfl (DI ((512 - pu V.slots) / 2 ^ 8)))<|mP<|mO (rz (k:=.u8) dA dA rfl (DI (512 - pu V.slots)))<|mO (Ai (e:=5) (m:=512) dA rfl rfl (4) rfl eu)<|nH<|oW l<|λe9 l f0=>?_
   replace o:=f0.below o y;replace l:row e9 u ((bv M).set 4 (.int .u8 ((u8 ((512 - pu V.slots) / 2 ^ 8)).toNat:Int))) 121:=l;rw[DT eu]at l;refine mO (Ai (e:=5) (m:=512) dA rfl rfl (5) rfl eu)<|nH<|oW l<|λf1 l f2=>?_
   replace o:=f2.below o y;replace l:row f1 u ((bv (M.set 4 (u8 ((512 - pu V.slots) / 2 ^ 8)))).set 5 (.int .u8 ((u8 (512 - pu V.slots)).toNat:Int))) 121:=l;rw[DT (by rw[bq];omega),H]at l;refine pV<|mO (oI 512 l)<|nH<|nT 512 (_) l<|λg7 l f3=>?_
   replace o:=f3.below o y;refine mQ<|nQ<|nR [_] ⟨⟨_,rfl,Ld.qp (k:=512) l dA dA gp⟩,trivial⟩ ?_
   exact⟨rfl,o⟩
def yz(L:List UInt8)(i m:Nat):Prop:=m<65536/\i+2<=L.length/\(L.drop i).take 2=wY m
theorem take2{L:List UInt8}{i:Nat}{a b:UInt8}(ha:L[i]?=some a)(hb:L[i+1]?=some b):(L.drop i).take 2=[a,b]:=by
 apply dV;intro j;rcases j with _|_|j
 .simp[bF,ha]
 .simp[bF,hb]
 .simp[bF];omega
theorem yz.of{L:List UInt8}{i m:Nat}{a b:UInt8}(hm:m<65536)(ha:L[i]?=some a)(hb:L[i+1]?=some b)(h:[a,b]=wY m):yz L i m:=
 ⟨hm,by have:=(aO.1 hb).1;omega,by rw[take2 ha hb,h]⟩
theorem yz.num{m:Nat}(h:m<65536):256*((u8 (m / 256)).toNat:Int)+((u8 (m % 256)).toNat:Int)=(m:Int):=by
 rw[MO eu,MO eu];omega
theorem zt(V:View)(hz:qW V<=512)(i:Nat)(h:i<12):(oG V)[i]?=(vT V (wY (512 - pu V.slots)))[i]?:=zqP rfl h
theorem Gl(V:View)(hz:qW V<=512):(oG V)[0]?=some (u8 V.kind):=zt V hz 0 eu
theorem GD(V:View)(hz:qW V<=512):yz (oG V) 2 V.slots.length:=by
 unfold qW at hz;exact yz.of eu (zt V hz 2 eu) (zt V hz 3 eu) rfl
theorem NZ(V:View)(hz:qW V<=512)(hn:V.next<2147483648):yz (oG V) 8 (V.next / 65536):=by
 refine yz.of eu (zt V hz 8 eu) (zt V hz 9 eu) ?_;rw[wY,Nat.div_div_eq_div_mul]
theorem Qg(V:View)(hz:qW V<=512):yz (oG V) 10 (V.next % 65536):=by
 refine yz.of eu (zt V hz 10 eu) (zt V hz 11 eu) ?_;rw[wY]
 congr 3<;>omega
def Ka(S:List (Option (List UInt8)))(i:Nat):Option (List UInt8)->Nat
 |none=>0
 |some r=>512 - pu (S.take i) - r.length
theorem Vt{S:List (Option (List UInt8))}{i:Nat}{s:Option (List UInt8)}(hs:S[i]?=some s):S=S.take i++s::S.drop (i+1):=by
 obtain⟨a,c⟩:=aO.1 hs
 conv=>lhs;rw[<-bM i S,dG a,c]
theorem Rq(V:View){i:Nat}{s:Option (List UInt8)}(hs:V.slots[i]?=some s)(k:Nat)(hk:k<4):(oG V)[12+4*i+k]?=(Md (512 - pu (V.slots.take i)) s)[k]?:=by
 have a:=(aO.1 hs).1;have:=GH V (wY (512 - pu V.slots)) rfl (V.slots.take i) (V.slots.drop (i+1)) s k hk;rw[<-Vt hs,aH,bP eu]at this;exact this
theorem GN(V:View){i:Nat}{s:Option (List UInt8)}(hs:V.slots[i]?=some s):yz (oG V) (12+4*i) (Ka V.slots i s):=by
 have c:=Rq V hs 0 eu;have e:=Rq V hs 1 eu;cases s with
 |none=>exact yz.of (a:=0) (b:=0) (by simp[Ka]) c e (show[0,0]=wY 0 by decide)
 |some r=>exact yz.of (a:=u8 ((512 - pu (V.slots.take i) - r.length) / 256)) (b:=u8 ((512 - pu (V.slots.take i) - r.length) % 256)) (by simp only[Ka];omega) c e rfl
theorem EI(V:View)(hz:qW V<=512){i:Nat}{s:Option (List UInt8)}(hs:V.slots[i]?=some s):yz (oG V) (12+4*i+2) (uF s).length:=by
 have a:=Rq V hs 2 eu;have c:=Rq V hs 3 eu;have e:=OV hs;have f:=Kb V.slots (i+1);unfold qW at hz;cases s with
 |none=>exact yz.of (by simp[uF]) a c rfl
 |some r=>exact yz.of eu a c rfl
theorem KQ(V:View)(hz:qW V<=512){i:Nat}{r:List UInt8}(hs:V.slots[i]?=some (some r)):((oG V).drop (Ka V.slots i (some r))).take r.length=r:=by
 have:=GV V (wY (512 - pu V.slots)) rfl (V.slots.take i) (V.slots.drop (i+1)) r (by rw[<-Vt hs];exact hz);rw[<-Vt hs]at this;exact this
theorem Ad(V:View)(hz:qW V<=512):(oG V).length=512:=Sn rfl hz
theorem QS(L:List UInt8)(g t o i m n c:Nat)(w:World)(h:row w g (bv L) t)(h2:yz L i m)(ho:o=i)(hn:n=2):CQ 218 [.slice (some ⟨g,o,none⟩) n c] w (λv w'=>v= .int .i64 (m:Int)/\Below w.heap.size w w'):=by
 subst hn ho;have a:=h.Tn o 2 h2.2.1 jo;rw[h2.2.2,wY]at a;have:=NL (some ⟨g,o,none⟩) 2 c _ _ w rfl a;rw[yz.num h2.1]at this;exact this
namespace qV
variable {w w':World}{lo:Nat}{o:List Nat}{vs:List Value}{S:List (Option (List UInt8))}
theorem grow{v:Value}{o':List Nat}(h:qV w lo o vs S)(hg:w.grownBy w' v.ownBlock)(hv:∀ g,v.ownBlock=some g->g∈o\/g<lo)(hf:∀ g,g∈o'->g∈o\/w.heap.size<=g\/g<lo):qV w' lo o' vs S:=
 have c:qV w lo (o'++o) vs S:=h.yh λg a=>(ay.1 a).elim (λe=>hf g e) Or.inl
 (c.kp (Kp.rX hg) λg a=>(hv g (ah.1 a)).elim (λe=>Or.inr (Or.inl (aB _ e))) λe=>Or.inr (Or.inr e)).yh λg a=>Or.inl (aF _ a)
theorem Ii{v v':Value}(h:qV w lo v.ownBlock.toList vs S)(hg:w.grownBy w' v.ownBlock)(hf:∀ g,v'.ownBlock=some g->v.ownBlock=some g\/w.heap.size<=g):qV w' lo v'.ownBlock.toList vs S:=
 h.grow hg (λg e=>Or.inl (ah.2 e)) λg a=>(hf g (ah.1 a)).elim (λe=>Or.inl (ah.2 e)) λe=>Or.inr (Or.inl e)
theorem MS{v v':Value}{L:List Nat}(h:qV w lo (v.ownBlock.toList++L) vs S)(hg:w.grownBy w' v.ownBlock)(hf:∀ g,v'.ownBlock=some g->v.ownBlock=some g\/w.heap.size<=g):qV w' lo (v'.ownBlock.toList++L) vs S:=
 h.grow hg (λg e=>Or.inl (aF _ (ah.2 e))) λg a=>(ay.1 a).elim
  (λe=>(hf g (ah.1 e)).elim (λe=>Or.inl (aF _ (ah.2 e))) λe=>Or.inr (Or.inl e)) λe=>Or.inl (aB _ e)
theorem mono{lo':Nat}(h:qV w lo o vs S)(hl:lo'<=lo):qV w lo' o vs S:=⟨h.len,h.no,λi r hr=>by
 obtain⟨b,a,c,e,f,g,j,k⟩:=h.yes i r hr;exact⟨b,a,c,e,f,g,j,eu⟩⟩
theorem Ig(h:qV w lo o vs S):qV w lo o (vs++[.slice none 0 0]) (S++[none]):=by
 have f:=h.len;refine⟨by simp[f],λi a=>?_,λi r a=>?_⟩
 .rcases dK i S.length with c|c
  .rw[bG c]at a
   rw[bG eu];exact h.no i a
  .rw[bC c]at a
   rw[bC eu,f];rcases gy (i - S.length)with e|e
   .rw[e];rfl
   .rw[bQ jQ]at a;cases a
 .rcases dK i S.length with c|c
  .rw[bG c]at a
   rw[bG eu];exact h.yes i r a
  .rw[bC c]at a
   rcases gy (i - S.length)with e|e
   .rw[e]at a;cases a
   .rw[bQ jQ]at a;cases a
theorem NN{b off c:Nat}{r:List UInt8}(h:qV w lo o vs S)(h2:nC w (some ⟨b,off,none⟩) r.length 1 (bv r))(h3:b<w.heap.size)(h4:b∉o)(h5:lo<=b)(h9:r.length<=c):qV w lo o (vs++[.slice (some ⟨b,off,none⟩) r.length c]) (S++[some r]):=by
 have g:=h.len;refine⟨by simp[g],λi a=>?_,λi j a=>?_⟩
 .rcases dK i S.length with e|e
  .rw[bG e]at a
   rw[bG eu];exact h.no i a
  .rw[bC e]at a
   rcases gy (i - S.length)with h2|h2
   .rw[h2]at a;cases a
   .rw[bQ jQ]at a;cases a
 .rcases dK i S.length with e|e
  .rw[bG e]at a
   rw[bG eu];exact h.yes i j a
  .rw[bC e]at a
   rcases gy (i - S.length)with f|f
   .rw[f]at a
    cases a;rw[bC eu,g,f];exact⟨b,off,c,rfl,h2,h3,h4,h5,h9⟩
   .rw[bQ jQ]at a;cases a
end qV
theorem nY.Ox{w w':World}{base e sz m g:Nat}{v:Value}{xs:List Value}(h:nY w base e sz v m xs)(ho:Only g w w')(hg:v.ownBlock≠some g):nY w' base e sz v m xs:=
 Coup.nY.nu h (Kp.rC ho) λa c e=>by
  have:a=g:=by simpa using c
  subst this;exact hg e
def YO(w:World)(lo:Nat)(p:Option Addr)(n c:Nat)(vs:List Value)(S:List (Option (List UInt8))):Prop:=
 nY w lo 23 1 (.slice p n c) n vs/\qV w lo (Value.ownBlock (.slice p n c)).toList vs S
def OG(V:View)(p:Option Addr)(n c:Nat):Value:=.agg #[.int .i64 (V.kind:Int), .int .i64 (V.next:Int), .slice p n c]
theorem KC(V:View)(w:World)(hV:Good V):
   CQ 160 [.agg (bv (oG V)).toArray] w (λv w'=>∃ p c vs,v= .tuple #[OG V p V.slots.length c, .bool true]/\YO w' w.heap.size p V.slots.length c vs V.slots/\Below w.heap.size w w'):=by
 have h:=Below.refl w.heap.size w;have m5:maxLen=9223372036854775807:=by decide
 have K:=hV.size;have g7:=Ad V K;have e9:=Gl V K;have c7:=GD V K;have f0:=NZ V K hV.next;have f1:=Qg V K;have m6:=hV.kind;have g8:=hV.next;have c8:=K;unfold qW at c8;obtain⟨Q,a9⟩:=aa (oG V);rw[a9]at g7 e9 c7 f0 f1 |-;obtain⟨S,J⟩:=aa (V.slots);obtain⟨n,a0⟩:=aa (V.slots.length);have g9:n=S.length:=by rw[<-a0,J]
 rw[a0]at c7 c8 |-;refine nP (fn:=Tryz.f160) (rs:=[.cell 2 242, .tmp 3]) (n:=116) Tryz.func160 rfl rfl Tryz.ntmps160 dA rfl<|mR<|nz<|oV ((bv Q)) rfl<|λD w1 h0 l h1=>?_
 have m7:=ag h.size h0;replace h:=h.acc h1;refine nz<|nU ([Value.int .i64 0,Value.int .i64 0,Value.slice none 0 0]) dA<|λM w2 f2 j f3=>?_
 have U:=ag h.size f2;have b0:D<M:=ae l.lt f2;replace l:=l.new f3;replace h:=h.acc f3;refine nV<|mO (Ai (e:=5) (m:=512) dA rfl rfl (0) rfl eu)<|mO (ou rfl (Ld.qN l dA (show(bv Q)[0]?=some (.int .u8 ((u8 V.kind).toNat:Int)) by rw[bv,aW,e9];rfl))) ?_
 refine mO (rz (k:=.i64) dA dA rfl (show IntKind.i64.wrap ((u8 V.kind).toNat:Int)=(V.kind:Int) by rw[MO eu];exact nN eu))<|mO (nk 0)<|nH<|oW j<|λm8 j f4=>?_
 replace l:=l.only f4 (ai b0);replace h:=f4.below h U;refine mQ<|ng<|qz [M] dA ?_
 intro h2 c9 h3;replace l:=l.new c9;replace j:=j.new c9;replace h:=h.acc c9;refine mU 0 (xQ (e:=5) (n:=512) (8) (10) (512) (2) dA rfl ⟨_,_,rfl,rfl⟩ ⟨_,_,rfl,rfl⟩ rfl ig eu eu eu eu eu)<|mU 3 (xQ (e:=5) (n:=512) (10) (12) (512) (2) dA rfl ⟨_,_,rfl,rfl⟩ ⟨_,_,rfl,rfl⟩ rfl ig eu eu eu eu eu)<|nS 1 dA<|qf rfl rfl (nX dA rfl) (QS Q D _ _ 8 (V.next / 65536) _ _ h2 l f0 rfl rfl) ?_
 rintro _ h4 ⟨rfl,b1⟩;have f5:=h3.add0 b1;refine⟨f5,?_⟩;replace l:=l.new b1;replace j:=j.new b1;replace h:=h.acc b1;refine mU 2 (QH rfl rfl eu (show IntKind.i64.wrap (((V.next / 65536:Nat):Int)*2 ^ 16)=(65536*(V.next / 65536):Nat) by rw[nN eu];omega))<|nS 4 dA<|qf rfl rfl (nX dA rfl) (QS Q D _ _ 10 (V.next % 65536) _ _ h4 l f1 rfl rfl) ?_;rintro _ m9 ⟨rfl,b2⟩;have f6:=f5.add0 b2;refine⟨f6,?_⟩;replace l:=l.new b2;replace j:=j.new b2;replace h:=h.acc b2;refine mU 5 (Pm rfl rfl (show _=(V.next:Int)from(SH 16 (V.next / 65536:Nat) eu eu eu eu).trans eu))<|mU 6 (nk 1)<|nS 7 dA<|qR rfl rfl<|oW j<|λh5 j d0=>?_
 have h6:=f6.aq d0;refine⟨h6,?_⟩;replace l:=l.only d0 (ai b0);replace h:=d0.below h U;refine oL dA<|ny<|mR<|mO (xQ (e:=5) (n:=512) (2) (4) (512) (2) dA rfl ⟨_,_,rfl,rfl⟩ ⟨_,_,rfl,rfl⟩ rfl ig eu eu eu eu eu)<|nD (QS Q D _ _ 2 n _ _ h5 l c7 rfl rfl) ?_
 rintro _ d1 ⟨rfl,d2⟩;replace l:=l.new d2;replace j:=j.new d2;replace h:=h.acc d2;refine mV<|mQ<|ng<|mR<|mO (nk 0)<|mO (mZ j)<|mO (rq rfl rfl)<|mP<|rD 26 rfl (eu)<|mY<|mO (nk 1)<|mY<|mO (mZ j)<|mY<|mO (tN rfl rfl)<|mO (oo rfl)<|mP<|rD 31 rfl (eu)<|mY<|mP<|mY<|mO (yD rfl rfl (Coup.nN eu))<|mY<|mO (om rfl rfl (Coup.nN eu))<|mY<|mO (rq rfl rfl)<|mO (oo rfl)<|mQ<|pJ rfl (eu)<|nL<|ny<|ng<|mR<|mP<|mP<|mQ<|oU ?_;have h7:=Below.refl d1.heap.size d1;obtain⟨B,d3⟩:=aa (d1.heap.size);have b3:w.heap.size<=B:=by rw[<-d3];exact h.size
 have n0:D<B:=by rw[<-d3];exact l.lt
 have n1:M<B:=by rw[<-d3];exact j.lt
 refine qZ (α:=Nat × Value × List Value) (0, .slice none 0 0,[]) (λk=>[(39, .int .i64 (k.1:Nat)),(38, .int .i64 (n:Nat)),(4, .int .i64 (n:Nat)),(1, .pointer (some ⟨D,0,none⟩)),(2, .pointer (some ⟨M,0,none⟩))])
   (λk w'=>k.1<=n/\row w' D (bv Q) 121/\row w' M [.int .i64 (V.kind:Int), .int .i64 (V.next:Int),k.2.1] 242/\nY w' B 23 1 k.2.1 k.1 k.2.2/\qV w' B k.2.1.ownBlock.toList k.2.2 (S.take k.1)/\B<=w'.heap.size/\Below w.heap.size w w') (λk=>n - k.1)
   ⟨rfl,rfl,rfl,rfl,rfl,rfl⟩ ⟨aC _,l,j,ym _ _ _ _,qV.nil _ _ _,eu,h⟩ ?_
 clear l j h h7;rintro⟨i,v,vs⟩ f d4 ⟨h8,l,j,u,t,n2,h⟩;simp only at h8 j u t;have f7:=u.lt;have n3:=h.size;have y:=Below.refl d4.heap.size d4;refine mR<|mO (pE rfl rfl)<|mQ<|ng<|oP rfl (λh9=>?_)<|λh9=>?_
 ·
  refine lG ?_;have d5:∃ s,S[i]?=some s:=⟨_,aI eu⟩;obtain⟨s,O⟩:=d5;have b4:V.slots[i]?=some s:=by rw[J];exact O
  have b5:=GN V b4;have d6:=EI V K b4;rw[a9]at b5 d6;rw[J]at b5;have f8:S.take (i+1)=S.take i++[s]:=by rw[bf,O];rfl
  refine nM<|mP<|mO (yD rfl rfl (Coup.nN eu))<|mO (om rfl rfl (Coup.nN eu))<|mV<|mQ<|ng<|qz [] dA ?_
  intro i0 X i1;replace l:=l.new X;replace j:=j.new X;replace u:=u.new X;replace t:=t.new X;replace h:=h.acc X;replace y:=y.acc X;refine mU 0 (nK)<|mU 1 (nK)<|mU 2 (om rfl rfl (Coup.nN eu))<|mU 3 (nK)<|mU 4 (om rfl rfl (Coup.nN eu))<|mU 5 (xQ (e:=5) (n:=512) (12+4*i) (12+4*i+2) (12+4*i+2) (2) dA rfl ⟨_,_,rfl,eu⟩ ⟨_,_,rfl,eu⟩ ⟨_,_,rfl,eu⟩ ig eu eu eu eu eu)<|mU 7 (nK)<|mU 8 (om rfl rfl (Coup.nN eu))<|mU 9 (nK)<|mU 10 (om rfl rfl (Coup.nN eu))<|mU 11 (nK)<|mU 12 (om rfl rfl (Coup.nN eu))<|mU 13 (xQ (e:=5) (n:=512) (12+4*i+2) (12+4*i+4) (12+4*i+4) (2) dA rfl ⟨_,_,rfl,eu⟩ ⟨_,_,rfl,eu⟩ ⟨_,_,rfl,eu⟩ ig eu eu eu eu eu)<|nS 6 dA<|qf rfl rfl (nX dA rfl) (QS Q D _ _ (12+4*i) (Ka S i s) _ _ i0 l b5 (bg _) rfl) ?_
  rintro _ i2 ⟨rfl,P⟩;have f9:=i1.add0 P;refine⟨f9,?_⟩;replace l:=l.new P;replace j:=j.new P;replace u:=u.new P;replace t:=t.new P;replace h:=h.acc P;replace y:=y.acc P;refine nS 14 dA<|qf rfl rfl (nX dA rfl) (QS Q D _ _ (12+4*i+2) (uF s).length _ _ i2 l d6 (bg _) rfl) ?_;rintro _ n4 ⟨rfl,R⟩;have i3:=f9.add0 R;refine⟨i3,?_⟩;replace l:=l.new R;replace j:=j.new R;replace u:=u.new R;replace t:=t.new R;replace h:=h.acc R;replace y:=y.acc R;refine mU 15 (rA)<|mU 16 (rA)<|oL dA<|ny<|mR<|mV<|mQ<|ng<|mR<|mP<|mO (oD rfl rfl)<|mP<|ui 62 rfl (λb6=>?_)<|λb6=>?_
  ·
   refine nE<|nE<|mO (pO rfl)<|mQ<|yj rfl<|ng<|ng ?_
   obtain⟨r,rfl⟩:∃ r,s=some r:=by
     cases s with
     |none=>exact absurd rfl b6
     |some r=>exact⟨r,rfl⟩
   have n5:=hV.cell r (aN b4);have d7:=OV O;have i4:=Kb S (i+1);rw[show(uF (some r)).length=r.length from rfl]at d7 d6 |-;have d8:=KQ V K b4;rw[a9,J]at d8;obtain⟨E,g0⟩:=aa (Ka S i (some r));have n6:E=512 - pu (S.take i) - r.length:=g0.symm;rw[g0]at d8 b5 b6 |-;refine nM<|mP<|mO (rq rfl rfl)<|mP<|rD 68 rfl (eu)<|mY<|mP<|mY<|mP<|mY<|mO (om rfl rfl (Coup.nN eu))<|mY<|mO (rq rfl rfl)<|mO (oo rfl)<|mQ<|pJ rfl (eu)<|nL<|ny<|nM<|nz<|Tk (e:=5) (sz:=1) dA dA<|λg1 n7 b7 i5 Y=>?_
   have n8:=ag h.size b7;have n9:=ag y.size b7;have o0:D<g1:=ae l.lt b7;have o1:M<g1:=ae j.lt b7;replace l:=l.new Y;replace j:=j.new Y;replace u:=u.new Y;replace t:=t.new Y;replace h:=h.acc Y;replace y:=y.acc Y;refine mP<|mP<|mP<|mO (om rfl rfl (Coup.nN eu))<|mP<|mP<|mO (om rfl rfl (Coup.nN eu))<|mO (T_ (n:=512) (e:=5) E (E+r.length) (E+r.length) r.length dA rfl ⟨_,_,rfl,rfl⟩ ⟨_,_,rfl,eu⟩ ⟨_,_,rfl,eu⟩ ig eu eu eu eu) ?_
   have g2:=l.slZ E r.length eu eu;rw[d8]at g2;have i6:=y.size;refine nz<|S_ (e:=5) (sz:=1) (bytes:=1) (z:=.int .u8 0) dA rfl dA rfl iT rfl i5.lt rfl g2 eu eu<|λT d9 b8 o2 a1 i7 i8 i9 Z=>?_
   replace l:=l.new Z;replace j:=j.new Z;replace u:=u.new Z;replace t:=t.new Z;replace h:=h.acc Z;replace y:=y.acc Z;have o3:d4.heap.size<=T:=by rcases i7 with a2|a2<;>omega
   refine mV<|mQ<|nM<|mO (nk 2)<|mO (mZ j)<|mP<|nz<|uE (e:=23) (.slice (some ⟨T,d9,none⟩) r.length b8) ([.slice (some ⟨T,d9,none⟩) r.length b8]) ([Value.slice none 0 0]) 1 dA dA rfl rfl rfl ⟨iT,iT⟩<|λa3 j0 L e0 C=>?_
   have j1:=ag h.size L;have j2:=ag y.size L;have j3:D<a3:=ae l.lt L;have j4:M<a3:=ae j.lt L;replace l:=l.new C;replace j:=j.new C;replace u:=u.new C;replace t:=t.new C;replace a1:=a1.new C;replace h:=h.acc C;have e1:=e0.ul (m:=1) (sz:=1) rfl eu;have j5:=ae i8 C.size;have j6:=h.size;refine nz<|uf (e:=23) (sz:=1) (bytes:=24) (z:=Value.slice none 0 0) dA rfl dA rfl iT rfl u rfl e1 ko jo eu (λj7=>eu)<|λj8 j9 F G b9=>?_
   replace l:=l.own u G eu;replace j:=j.own u G eu;replace h:=h.own u G eu;have a4:=F.form;obtain⟨e2,e3,rfl⟩:=a4;have a1:=a1.nu (Kp.rX G) (λo4 o5 e N=>by cases e;simp only[ah]at N;have:=(f7 T N).2;omega);have t:=(t.Ii G b9).NN (c:=b8) a1 (ae j5 G.size) (λe=>(b9 T (ah.1 e)).elim (λg3=>by have:=(f7 T g3).2;omega) (λg3=>eu)) eu i9;rw[<-f8]at t;refine mO (nk 2)<|nH<|oW j<|λo6 j c4=>?_
   replace l:=l.only c4 (ai b0);replace F:=F.only c4 eu;replace t:=t.only c4 eu;replace h:=c4.below h U;refine oH<|pW<|ny<|nM<|mO (om rfl rfl (Coup.nN eu))<|mP<|oH<|oO ⟨(i+1, .slice e2 (i+1) e3,vs++[.slice (some ⟨T,d9,none⟩) r.length b8]),by simp only;omega,⟨rfl,by go_num,rfl,rfl,rfl,rfl⟩,by simp only;omega,l,j,F,t,by have a2:=F.form' eu;obtain⟨_,_,_,_,a5,a6,_⟩:=a2;omega,h⟩
  ·
   have k0:s=none:=by
     cases s with
     |none=>rfl
     |some r=>
       exfalso;have d7:=OV O;have i4:=Kb S (i+1);rw[show(uF (some r)).length=r.length from rfl]at d7;rw[J]at c8;simp only[Ka]at b6;omega
   subst k0;refine mY<|mP<|mY<|mO (oD rfl rfl)<|mO (oo rfl)<|mQ<|pJ rfl ((by rw[show(uF none).length=0 from rfl];omega))<|nL<|ny<|nM<|mO (nk 2)<|mO (mZ j)<|mP<|nz<|uE (e:=23) (.slice none 0 0) ([.slice none 0 0]) ([Value.slice none 0 0]) 1 dA dA rfl rfl rfl ⟨iT,iT⟩<|λa3 j0 L e0 C=>?_
   have j1:=ag h.size L;have j2:=ag y.size L;have j3:D<a3:=ae l.lt L;have j4:M<a3:=ae j.lt L;replace l:=l.new C;replace j:=j.new C;replace u:=u.new C;replace t:=t.new C;replace h:=h.acc C;replace y:=y.acc C;have e1:=e0.ul (m:=1) (sz:=1) rfl eu;have i6:=y.size;have j6:=h.size;refine nz<|uf (e:=23) (sz:=1) (bytes:=24) (z:=Value.slice none 0 0) dA rfl dA rfl iT rfl u rfl e1 ko jo eu (λj7=>eu)<|λj8 j9 F G b9=>?_
   replace l:=l.own u G eu;replace j:=j.own u G eu;replace h:=h.own u G eu;have a4:=F.form;obtain⟨e2,e3,rfl⟩:=a4;have t:=(t.Ii G b9).Ig;rw[<-f8]at t;refine mO (nk 2)<|nH<|oW j<|λo7 j c5=>?_
   replace l:=l.only c5 (ai b0);replace F:=F.only c5 eu;replace t:=t.only c5 eu;replace h:=c5.below h U;refine oH<|pW<|ny<|nM<|mO (om rfl rfl (Coup.nN eu))<|mP<|oH<|oO ⟨(i+1, .slice e2 (i+1) e3,vs++[.slice none 0 0]),by simp only;omega,⟨rfl,by go_num,rfl,rfl,rfl,rfl⟩,by simp only;omega,l,j,F,t,by have a2:=F.form' eu;obtain⟨_,_,_,_,a5,a6,_⟩:=a2;omega,h⟩
 ·
  obtain rfl:i=n:=by omega
  rw[show S.take i=S from aP eu]at t;have a4:=u.form;obtain⟨p,c,rfl⟩:=a4;have e4:=fun(w':World) (a5:nC w' p i 1 vs) (a6:qV w' B (Value.ownBlock (.slice p i c)).toList vs S)=>Dp V p c vs w' B _ (by rw[a0];exact a5) (by rw[J];exact a6) eu
  have c6:=fun(w':World) (a5:nC w' p i 1 vs) (a6:qV w' B (Value.ownBlock (.slice p i c)).toList vs S)=>TC V p c vs w' B _ (by rw[a0];exact a5) (by rw[J];exact a6) eu g8 K
  rw[a0]at e4 c6;rw[a9]at c6
  by_cases k7:0<i
  · obtain⟨g,o8,o9,k8,-,p0,-⟩:=u.form' k7
    injection k8 with k9 p1 l0
    subst k9 l0;have d5:∃ s,S[i - 1]?=some s:=⟨_,aI eu⟩;obtain⟨s,O⟩:=d5;have l1:=t.val O;obtain⟨q,p2,l2,p3,l3,-⟩:=l1;have l4:q.isNone=false:=by
      cases s with
      |none=>
        exfalso;apply hV.last;rw[J,List.getLast?_eq_getElem?,<-g9];exact O
      |some r=>cases q with
        |none=>have:=l3.2 rfl;cases this
        |some a=>rfl
    refine qP<|qL<|rf<|qX<|ny<|ng<|ng<|qz [] dA ?_
    intro l5 a7 l6;replace l:=l.new a7;replace j:=j.new a7;replace u:=u.new a7;replace t:=t.new a7;replace h:=h.acc a7;have l7:=l;have e5:=j;have l8:=u;refine mU 0 (nK)<|mU 1 (rq rfl rfl)<|mU 2 (nK)<|EN 94 rfl (eu)<|mU 3 (nk 2)<|nI 4 (λw' A=>mZ (e5.kq A))<|mU 5 (nK)<|mU 6 (vE rfl rfl (Coup.nN eu))<|mU 7 (vg (e:=23) dA rfl rfl (i - 1) eu eu)<|nI 8 (λw' A=>ou rfl (Ld.sl1 (l8.nu A (by first |(simp;done)|(simp;omega)|(simp[*];done)|exact pG (Or.inl eu)|exact pG (Or.inr ig)|exact λg N=>ag eu (vI N).1|(intro b o e;cases e;exact pG (Or.inl eu))|(intro b N;have:=(hu.lt b (ah.1 N)).1;omega)|(intro b o e;cases e;intro N;have:=(hu.lt _ (ah.1 N)).1;omega)|assumption)).sl dA l2))<|mU 9 (KL (e:=5) dA rfl rfl)<|mU 10 (pO rfl)<|mU 11 (nK)<|Pi 103 rfl (l4)<|nI 12 (λw' A=>oI 3 (e5.kq A))<|nS 13 dA<|qf rfl rfl (nX dA rfl) (e4 l5 u.sl t) ?_
    rintro _ e6 ⟨rfl,H⟩;have g4:=l6.add0 H;refine⟨g4,?_⟩;replace j:=j.new H;replace u:=u.new H;replace t:=t.new H;replace h:=h.acc H;refine mU 14 (rq rfl rfl)<|mU 15 (oo rfl)<|mU 16 (nK)<|Aw 108 rfl (eu)<|nI 17 (λw' A=>oI 3 (e5.kq A))<|nI 19 (λw' A=>oI 512 (l7.kq A))<|nS 18 dA<|qf rfl rfl (nX dA rfl) (c6 e6 u.sl t) ?_;rintro _ l9 ⟨rfl,I⟩;have m0:=g4.add0 I;refine⟨m0,?_⟩;replace j:=j.new I;replace u:=u.new I;replace t:=t.new I;replace h:=h.acc I;refine mU 20 (TI (n:=512) dA rfl rfl (by simp[*]) (by simp[*]))<|mU 21 (oo rfl)<|oL dA<|ny<|GU rfl (ig)<|nL<|ny<|mR<|mO (oI 3 j)<|nH<|nT 3 (_) j<|λp4 j e7=>?_
    replace u:=u.only e7 eu;replace t:=t.only e7 eu;replace h:=e7.below h U;refine mV<|mQ<|nQ<|nR [_,_] ⟨⟨_,rfl,Ld.qp (k:=3) j dA dA gp⟩,rfl,trivial⟩ ?_
    exact⟨_,c,vs,rfl,⟨u.mono b3,by rw[J];exact t.mono b3⟩,h⟩
  · skip
    refine qP<|qL<|rf<|qX<|ny<|ng<|ng<|qz [] dA ?_
    intro m1 a8 m2;replace l:=l.new a8;replace j:=j.new a8;replace u:=u.new a8;replace t:=t.new a8;replace h:=h.acc a8;have m3:=l;have g5:=j;refine mU 0 (nK)<|mU 1 (rq rfl rfl)<|mU 2 (nK)<|Aw 94 rfl (eu)<|oK 3 dA rfl<|oK 4 dA rfl<|oK 5 dA rfl<|oK 6 dA rfl<|oK 7 dA rfl<|oK 8 dA rfl<|oK 9 dA rfl<|mU 10 (oo rfl)<|mU 11 (nK)<|nI 12 (λw' A=>oI 3 (g5.kq A))<|nS 13 dA<|qf rfl rfl (nX dA rfl) (e4 m1 u.sl t) ?_
    rintro _ e6 ⟨rfl,H⟩;have g6:=m2.add0 H;refine⟨g6,?_⟩;replace j:=j.new H;replace u:=u.new H;replace t:=t.new H;replace h:=h.acc H;refine mU 14 (rq rfl rfl)<|mU 15 (oo rfl)<|mU 16 (nK)<|Aw 108 rfl (eu)<|nI 17 (λw' A=>oI 3 (g5.kq A))<|nI 19 (λw' A=>oI 512 (m3.kq A))<|nS 18 dA<|qf rfl rfl (nX dA rfl) (c6 e6 u.sl t) ?_;rintro _ l9 ⟨rfl,I⟩;have m4:=g6.add0 I;refine⟨m4,?_⟩;replace j:=j.new I;replace u:=u.new I;replace t:=t.new I;replace h:=h.acc I;refine mU 20 (TI (n:=512) dA rfl rfl (by simp[*]) (by simp[*]))<|mU 21 (oo rfl)<|oL dA<|ny<|GU rfl (ig)<|nL<|ny<|mR<|mO (oI 3 j)<|nH<|nT 3 (_) j<|λp5 j e8=>?_
    replace u:=u.only e8 eu;replace t:=t.only e8 eu;replace h:=e8.below h U;refine mV<|mQ<|nQ<|nR [_,_] ⟨⟨_,rfl,Ld.qp (k:=3) j dA dA gp⟩,rfl,trivial⟩ ?_
    exact⟨_,c,vs,rfl,⟨u.mono b3,by rw[J];exact t.mono b3⟩,h⟩
def Bp(S:List (Option (List UInt8)))(i:Nat)(r:List UInt8):List (Option (List UInt8)):=if i=S.length then S++[some r]else S.set i (some r)
def xB(V:View)(i:Nat)(r:List UInt8):View:={V with slots:=Bp V.slots i r}
theorem Zy:∀ (S:List (Option (List UInt8))) (i:Nat) (s:Option (List UInt8)),pu (S.set i s)<=pu S+(uF s).length
 |[],i,s=>by simp[pu]
 |t::S,0,s=>by simp[pu];omega
 |t::S,i+1,s=>by simp only[jv,pu];have:=Zy S i s;omega
theorem zqX(V:View)(i:Nat)(r:List UInt8):qW (xB V i r)<=qW V+4+r.length:=by
 unfold qW xB Bp;dsimp only
 split
 .rw[KG,aA];simp[pu,uF];omega
 .rw[bq];have:=Zy V.slots i (some r);simp only[uF,ji]at this;omega
namespace qV
variable {w w':World}{lo:Nat}{o:List Nat}{vs:List Value}{S:List (Option (List UInt8))}
theorem Bp{b off c i:Nat}{r:List UInt8}(h:qV w lo o vs S)(h2:nC w (some ⟨b,off,none⟩) r.length 1 (bv r))(h3:b<w.heap.size)(h4:b∉o)(h5:lo<=b)(h9:r.length<=c):qV w lo o (vs.set i (.slice (some ⟨b,off,none⟩) r.length c)) (S.set i (some r)):=by
 have g:=h.len;refine⟨by simp[g],λj a=>?_,λj k a=>?_⟩
 .rw[eO]at a |-
  by_cases e:i=j
  .rw[if_pos e]at a;split at a<;>cases a
  .rw[if_neg e]at a |-;exact h.no j a
 .rw[eO]at a |-
  by_cases e:i=j
  .rw[if_pos e]at a |-
   by_cases f:i<S.length
   .rw[if_pos f]at a
    rw[if_pos eu];cases a;exact⟨b,off,c,rfl,h2,h3,h4,h5,h9⟩
   .rw[if_neg f]at a;cases a
  .rw[if_neg e]at a |-;exact h.yes j k a
end qV
theorem zpK{l:List Value}{i:Nat}{v:Value}(h:i<l.length):splice l i [v]=l.set i v:=Zv h
theorem MP:(bv uG).length=512:=by rw[oh,uG,bi]
theorem Mw (V:View) (p pr:Option Addr) (c cr i B:Nat) (vs:List Value) (r:List UInt8) (w:World) (hown:nY w B 23 1 (.slice p V.slots.length c) V.slots.length vs) (hs:qV w B (Value.ownBlock (.slice p V.slots.length c)).toList vs V.slots)
   (hBw:B<=w.heap.size) (hr:∀ w',Below B w w'->nC w' pr r.length 1 (bv r)) (hi:i<=V.slots.length) (hr4:r.length<=400) (hz:qW V<=512) (hk:V.kind<256) (hn:V.next<2147483648):
   Calls Tryz.prog 196 [OG V p V.slots.length c, .int .i64 (i:Int), .slice pr r.length cr].toArray w
     (pX λv w'=>v=(if 512<qW (xB V i r)then .tuple #[.agg (bv uG).toArray, .int .i64 8]else .tuple #[.agg (bv (oG (xB V i r))).toArray, .int .i64 0])/\Below B w w'):=by
 have a:=zu.refl hBw;have y:=Below.refl w.heap.size w;have f3:maxLen=9223372036854775807:=by decide
 have f4:=zqX V i r;obtain⟨S,Z⟩:=aa (V.slots);obtain⟨n,I⟩:=aa (S.length);have a0:=hz;unfold qW at a0;rw[Z]at hown hs hi a0 |-;rw[I]at hown hs hi a0 |-;have Q:=hown.lt;have f5:=MP;unfold OG;refine nP (fn:=Tryz.f196) (rs:=[.cell 6 121, .tmp 7]) (n:=31) Tryz.func196 rfl rfl Tryz.ntmps196 dA rfl<|mR<|nz<|oV ([_,_,_]) rfl<|λl f6 a1 f a2=>?_
 have d4:=ag a.size a1;have f7:=ag y.size a1;replace hown:=hown.new a2;replace a:=a.acc a2;replace y:=y.acc a2;refine nz<|nU (List.replicate 512 (Value.int .u8 0)) dA<|λs f8 R h T=>?_
 have b5:=ag a.size R;have f9:=ag y.size R;have a3:l<s:=ae f.lt R;replace hown:=hown.new T;replace f:=f.new T;replace a:=a.acc T;replace y:=y.acc T;rw[AP]at h;have hs:=(hs.yh (o':=(Value.ownBlock (.slice p n c)).toList++[l,s]) (λg u=>by
   rcases ay.1 u with e|e
   · exact Or.inl e
   · simp only[ak,bu,or_false]at e
     omega)).new y
 refine mV<|mQ<|xO (λq:Option Addr × Nat × Nat × List Value=>[(3, .pointer (some ⟨l,0,none⟩)),(6, .pointer (some ⟨s,0,none⟩)),(1, .int .i64 (i:Nat)),(2, .slice pr r.length cr)]) (λq w'=>row w' l [.int .i64 (V.kind:Int), .int .i64 (V.next:Int), .slice q.1 q.2.1 q.2.2.1] 242/\row w' s (bv uG) 121/\nY w' B 23 1 (.slice q.1 q.2.1 q.2.2.1) q.2.1 q.2.2.2/\qV w' B ((Value.ownBlock (.slice q.1 q.2.1 q.2.2.1)).toList++[l,s]) q.2.2.2 (if i=n then S++[none]else S)/\q.2.1=(if i=n then S++[none]else S).length/\(Value.ownBlock (.slice q.1 q.2.1 q.2.2.1)≠some l/\Value.ownBlock (.slice q.1 q.2.1 q.2.2.1)≠some s)/\zu B w w') ?_ ?_
 ·
  refine mR<|mP<|mO (nk 2)<|mO (mZ f)<|mO (oQ (e:=23) (sz:=1) dA rfl rfl)<|mO (qy rfl rfl)<|mQ<|oP rfl (λd5=>?_)<|λd5=>?_
  ·
   refine nM<|mO (nk 2)<|mO (mZ f)<|nz<|uE (e:=23) (.slice none 0 0) ([.slice none 0 0]) ([Value.slice none 0 0]) 1 dA dA rfl rfl rfl ⟨iT,iT⟩<|λb6 g0 a4 d6 J=>?_
   have g1:=ag a.size a4;have g2:l<b6:=ae f.lt a4;have g3:s<b6:=ae h.lt a4;replace hown:=hown.new J;replace f:=f.new J;replace h:=h.new J;replace hs:=hs.new J;replace a:=a.acc J;have d7:=d6.ul (m:=1) (sz:=1) rfl eu;have g4:=a.size;refine nz<|uf (e:=23) (sz:=1) (bytes:=24) (z:=Value.slice none 0 0) dA rfl dA rfl iT rfl hown rfl d7 ko jo eu (λg5=>eu)<|λg6 g7 U X a5=>?_
   replace a:=a.own hown X eu;have d8:=U.form;obtain⟨a6,a7,rfl⟩:=d8;have hs:=(hs.MS X a5).Ig;have b7:l∉(Value.ownBlock (.slice p n c)).toList:=λu=>by have:=(Q l (ah.1 u)).2;omega
   have b8:s∉(Value.ownBlock (.slice p n c)).toList:=λu=>by have:=(Q s (ah.1 u)).2;omega
   have b9:Value.ownBlock (.slice a6 (n+1) a7)≠some l:=λe=>(a5 l e).elim (λe=>b7 (ah.2 e)) (λe=>by have:=f.lt;omega)
   have d9:Value.ownBlock (.slice a6 (n+1) a7)≠some s:=λe=>(a5 s e).elim (λe=>b8 (ah.2 e)) (λe=>by have:=h.lt;omega)
   have f:=f.nu (Kp.rX X) b7;have h:=h.nu (Kp.rX X) b8;refine mO (nk 2)<|nH<|oW f<|λe0 f a8=>?_
   replace hs:=hs.only a8 iB;replace h:=h.only a8 (bA a3);replace a:=a.Tg a8 d4;have U:=nY.Ox U (by assumption:Only l _ e0) b9;refine oH<|oO ⟨(a6,n+1,a7,vs++[.slice none 0 0]),⟨rfl,rfl,rfl,rfl,rfl⟩,f,h,U,?_,?_,⟨b9,d9⟩,a⟩
   · rw[if_pos eu];exact hs
   · rw[if_pos eu,aA,I];rfl
  ·
   refine nL<|oO ⟨(p,n,c,vs),⟨rfl,rfl,rfl,rfl,rfl⟩,f,h,hown,?_,?_,⟨λe=>by have:=(Q l e).2;omega,λe=>by have:=(Q s e).2;omega⟩,a⟩
   · rw[if_neg eu];exact hs
   · rw[if_neg eu,I]
 ·
  rintro⟨q,m,a9,A⟩ g8 c4 ⟨f,h,hown,hs,u,⟨c5,c6⟩,a⟩;simp only at f hown hs u c5 c6;have b0:∃ S',(if i=n then S++[none]else S)=S':=⟨_,rfl⟩;obtain⟨S',K⟩:=b0;rw[K]at hs u;have g9:i<m:=by
    rw[u,<-K]
    split
    · rw[aA];simp;omega
    · omega
  have c7:S'.set i (some r)=Bp S i r:=by
    rw[<-K,Bp,I]
    split
    · rename_i b1;rw[b1,<-I,dJ _ _ (ax _),bL];rfl
    · rfl
  have Y:(xB V i r).slots.length=m:=by
    show(Bp V.slots i r).length=m;rw[Z,<-c7,bq,<-u]
  have c8:(xB V i r).slots=Bp S i r:=by
    show Bp V.slots i r=_;rw[Z]
  have b0:=hown.form' eu;obtain⟨g,o,h0,e1,h1,h2,-⟩:=b0
  injection e1 with e2 h3 e3
  subst e2 e3;have j:qI c4 B 23 1 g o m a9 A:=hown;have h4:A.length=m:=by have:=hown.1;omega
  replace hs:qV c4 B [g,l,s] A S':=hs;have a1:g≠l:=λe=>c5 kQ
  have R:g≠s:=λe=>c6 kQ
  refine ng<|qz [g] dA ?_
  intro h5 L c9;replace f:=f.new L;replace h:=h.new L;replace hs:=hs.new L;replace j:=j.new L;replace a:=a.acc L;have e4:=f;have h6:=h;have h7:=hs;have h8:=j;have h9:=a;refine mU 0 (nk 2)<|nI 1 (λw' K=>mZ (e4.kq K))<|mU 2 (nK)<|mU 4 (nK)<|nS 3 dA<|qJ rfl rfl<|Tk (e:=5) (sz:=1) dA dA<|λb2 i0 M e5 D=>?_
  have d0:=c9.add0 D;refine⟨d0,?_⟩;have i1:=ag c9.size M;have i2:=ag a.size M;have i3:l<b2:=ae f.lt M;have i4:s<b2:=ae h.lt M;have i5:g<b2:=ae j.lt M;replace f:=f.new D;replace h:=h.new D;replace hs:=hs.new D;replace j:=j.new D;replace a:=a.acc D;refine nS 5 dA ?_;have i6:=f.lt;have i7:=h.lt;have i8:=j.lt;have i9:=a.size;refine qJ rfl rfl<|S_ (e:=5) (sz:=1) (bytes:=1) (z:=.int .u8 0) dA rfl dA rfl iT rfl e5.lt rfl (hr _ a.bel) eu eu<|λv N E j0 t e6 e7 e8 F=>?_
  have d1:=d0.add0 F;refine⟨d1,?_⟩;replace f:=f.new F;replace h:=h.new F;replace hs:=hs.new F;replace j:=j.new F;replace a:=a.acc F;have j1:g<v/\l<v/\s<v/\B<=v:=by rcases e6 with b1|b1<;>omega
  refine mU 6 (vg (e:=23) dA rfl rfl i eu eu)<|nS 7 dA<|qR rfl rfl<|Jg ([.slice (some ⟨v,N,none⟩) r.length E]) i j rfl rfl dA ku ko<|λe9 j C=>?_
  have f0:=d1.aq C;refine⟨f0,?_⟩;replace f:=f.only C eu;replace h:=h.only C eu;replace hs:=hs.only C iB;replace t:=t.only C eu;replace a:=a.Tg C eu;rw[zpK eu]at j;have hs:=hs.Bp (i:=i) (c:=E) t (by rw[C.size];exact e7) jQ eu e8;rw[c7]at hs;have d2:=fun(w':World) (b3:nC w' (some ⟨g,o,none⟩) m 1 (A.set i (.slice (some ⟨v,N,none⟩) r.length E))) (b4:qV w' B [g,l,s] (A.set i (.slice (some ⟨v,N,none⟩) r.length E)) (Bp S i r))=>Dp (xB V i r) (some ⟨g,o,none⟩) a9 _ w' B _ (by rw[Y];exact b3) (by rw[c8];exact b4) eu
  rw[Y]at d2;refine oL dA<|ny<|ng<|mR<|mO (oI 3 f)<|nD (d2 e9 j.sl hs) ?_
  rintro _ f1 ⟨rfl,G⟩;replace f:=f.new G;replace h:=h.new G;replace hs:=hs.new G;replace j:=j.new G;replace t:=t.new G;replace a:=a.acc G;refine mO (rq rfl rfl)<|mQ<|oP rfl (λf2=>?_)<|λf2=>?_
  ·
   refine mR<|mO (Ae (bv uG) kT)<|nH<|nT 512 (bv uG) h<|λj2 h O=>?_
   replace f:=f.only O (ai a3);replace hs:=hs.only O iB;replace j:=j.only O eu;replace t:=t.only O eu;replace a:=a.Tg O b5;refine mV<|mQ<|nQ<|qb<|nR [_,_] ⟨⟨_,rfl,Ld.qp (k:=512) h dA dA gp⟩,rfl,trivial⟩ ?_
   exact⟨by rw[if_pos eu];rfl,a.bel⟩
  ·
   have d3:=fun(w':World) (b3:nC w' (some ⟨g,o,none⟩) m 1 (A.set i (.slice (some ⟨v,N,none⟩) r.length E))) (b4:qV w' B [g,l,s] (A.set i (.slice (some ⟨v,N,none⟩) r.length E)) (Bp S i r))=>TC (xB V i r) (some ⟨g,o,none⟩) a9 _ w' B _ (by rw[Y];exact b3) (by rw[c8];exact b4) hk hn eu
   rw[Y]at d3;have j3:(bv (oG (xB V i r))).length=512:=by rw[oh];exact Ad (xB V i r) eu
   refine nL<|ny<|mR<|mO (oI 3 f)<|nD (d3 f1 j.sl hs) ?_
   rintro _ j4 ⟨rfl,H⟩;replace f:=f.new H;replace h:=h.new H;replace hs:=hs.new H;replace j:=j.new H;replace t:=t.new H;replace a:=a.acc H;refine nH<|nT 512 (bv (oG (xB V i r))) h<|λj5 h P=>?_
   replace f:=f.only P (ai a3);replace hs:=hs.only P iB;replace j:=j.only P eu;replace t:=t.only P eu;replace a:=a.Tg P b5;refine mV<|mQ<|nQ<|nR [_,_] ⟨⟨_,rfl,Ld.qp (k:=512) h dA dA gp⟩,rfl,trivial⟩ ?_
   exact⟨by rw[if_neg eu];rfl,a.bel⟩
def Kv(V:View)(i:Nat)(r:List UInt8):List UInt8:=if 512<qW (xB V i r)then uG else oG (xB V i r)
def Dv(V:View)(i:Nat)(r:List UInt8):Nat:=if 512<qW (xB V i r)then 8 else 0
theorem zqY(V:View)(i:Nat)(r:List UInt8):(bv (Kv V i r)).length=512:=by
 unfold Kv
 split
 .exact MP
 .rw[oh];exact Ad _ eu
theorem Ff (V:View) (p pr:Option Addr) (c cr i B:Nat) (vs:List Value) (r:List UInt8) (w:World) (hown:nY w B 23 1 (.slice p V.slots.length c) V.slots.length vs) (hs:qV w B (Value.ownBlock (.slice p V.slots.length c)).toList vs V.slots)
  (hBw:B<=w.heap.size) (hr:∀ w',Below B w w'->nC w' pr r.length 1 (bv r)) (hi:i<=V.slots.length) (hr4:r.length<=400) (hV:Good V):
  Calls Tryz.prog 196 [OG V p V.slots.length c, .int .i64 (i:Int), .slice pr r.length cr].toArray w
   (pX λv w'=>v= .tuple #[.agg (bv (Kv V i r)).toArray, .int .i64 (Dv V i r:Nat)]/\Below B w w'):=by
 have a:=Mw V p pr c cr i B vs r w hown hs hBw hr hi hr4 hV.size (by have:=hV.kind;omega) hV.next;refine a.to λv w' ⟨e,f⟩=>⟨?_,f⟩
 rw[e,Kv,Dv]
 split<;>rfl
theorem uO{V:View}(hV:Good V):(bv (oG V)).length=512:=by rw[oh];exact Ad V hV.size
def zN(S:List (Option (List UInt8)))(k:Int):List UInt8:=if zX S k then uF (S.getD k.toNat none)else[]
theorem Qb(k:Int)(w:World):CQ 133 [.int .i64 k] w (λv w'=>v=(if 0<=k/\k<=4 then .tuple #[.agg (bv (oG ⟨k.toNat,0,[]⟩)).toArray, .int .i64 0]else .tuple #[.agg (bv uG).toArray, .int .i64 2])/\Below w.heap.size w w'):=by
 have a:=Below.refl w.heap.size w;have t:=MP;refine nP (fn:=Tryz.f133) (rs:=[.cell 2 121, .tmp 3]) (n:=14) Tryz.func133 rfl rfl Tryz.ntmps133 dA rfl<|mR<|nz<|nU (List.replicate 512 (Value.int .u8 0)) dA<|λu w2 h c i=>?_
 have e:=ag a.size h;replace a:=a.acc i;rw[AP]at c;refine mV<|mQ<|ng<|mR<|mP<|mO (pE rfl rfl)<|mP<|ui 6 rfl (λj=>?_)<|λj=>?_
 ·
  refine nE<|nE<|mO (pO rfl)<|mQ<|yj rfl<|mR<|mO (Ae (bv uG) kT)<|nH<|nT 512 (bv uG) c<|λv c l=>?_
  replace a:=l.below a e;refine lI ?_;exact⟨by rw[if_neg eu];rfl,a⟩
 ·
  refine mY<|mP<|mY<|mO (rq rfl rfl)<|mO (oo rfl)<|mQ<|oP rfl (λo=>?_)<|λo=>?_
  ·
   refine mR<|mO (Ae (bv uG) kT)<|nH<|nT 512 (bv uG) c<|λy c p=>?_
   replace a:=p.below a e;refine lI ?_;exact⟨by rw[if_neg eu];rfl,a⟩
  ·
   have q:∃ m:Nat,k=m:=⟨k.toNat,eu⟩;obtain⟨m,rfl⟩:=q;rw[aR,if_pos eu];have f:=λw'=>TC ⟨m,0,[]⟩ none 0 [] w' 0 [] (nC.nil _ _ _) (qV.nil _ _ _) (by show m<256;omega) (by show 0<2147483648;omega) (by simp[qW,pu])
   have r:(bv (oG ⟨m,0,[]⟩)).length=512:=by rw[oh];exact Ad _ (by simp[qW,pu])
   generalize oG ⟨m,0,[]⟩=Q at f r |-;refine nL<|ny<|mR<|mP<|mO (xC (.int .i64 (m:Int)) [.int .i64 (m:Int), .int .i64 0, .slice none 0 0] rfl dA)<|nD (f w2) ?_
   rintro _ z ⟨rfl,g⟩;replace c:=c.new g;replace a:=a.acc g;refine nH<|nT 512 (bv Q) c<|λA c s=>?_
   replace a:=s.below a e;refine lJ ?_;exact⟨rfl,a⟩
abbrev vw(V:View)(p:Option Addr)(c:Nat):List Value:=[.int .i64 (V.kind:Int), .int .i64 (V.next:Int), .slice p V.slots.length c]
structure Vw(w:World)(lo:Nat)(av:List Nat)(p:Option Addr)(n c:Nat)(vs:List Value)(S:List (Option (List UInt8))):Prop where
 own:nY w lo 23 1 (.slice p n c) n vs
 slts:qV w lo ((Value.ownBlock (.slice p n c)).toList++av) vs S
 ne:∀ g,g∈av->Value.ownBlock (.slice p n c)≠some g
namespace Vw
variable {w w':World}{lo:Nat}{av:List Nat}{p:Option Addr}{n c:Nat}{vs:List Value}{S:List (Option (List UInt8))}
theorem of(h:YO w lo p n c vs S):Vw w lo [] p n c vs S:=⟨h.1,by rw[aU];exact h.2,λg h=>by simp at h⟩
theorem new(h:Vw w lo av p n c vs S)(hb:Below w.heap.size w w'):Vw w' lo av p n c vs S:=⟨h.own.new hb,h.slts.new hb,h.ne⟩
theorem nu{M:List Nat}(h:Vw w lo av p n c vs S)(k:Kp M w w')(hM:∀ g,g∈M->g∈av):Vw w' lo av p n c vs S:=
 ⟨h.own.nu k λg a=>h.ne g (hM g a),h.slts.nu k λg a=>Or.inr (aB _ (hM g a)),h.ne⟩
theorem only{g:Nat}(h:Vw w lo av p n c vs S)(ho:Only g w w')(hg:g∈av):Vw w' lo av p n c vs S:=h.nu (Kp.rC ho) λa c=>by
 have:a=g:=by simpa using c
 rw[this];exact hg
theorem cons{g:Nat}(h:Vw w lo av p n c vs S)(hg:w.heap.size<=g):Vw w lo (g::av) p n c vs S:=by
 refine⟨h.own,h.slts.yh λa c=>?_,λa c e=>?_⟩
 .rcases ay.1 c with e|e
  .exact Or.inl<|aF _ e
  .rcases ak.1 e with rfl|e
   .exact Or.inr<|Or.inl hg
   .exact Or.inl<|aB _ e
 .rcases ak.1 c with rfl|f
  .have:=(h.own.lt a e).2;omega
  .exact h.ne a f e
theorem out(h:Vw w lo av p n c vs S):qV w lo (Value.ownBlock (.slice p n c)).toList vs S:=h.slts.yh λg a=>Or.inl (aF _ a)
theorem some(h:Vw w lo av p n c vs S)(hn:0<n):∃ g o,p=Option.some ⟨g,o,none⟩/\lo<=g/\g<w.heap.size:=by
 obtain⟨g,o,i,a,c,e,_⟩:=h.own.form' hn
 injection a with f j k
 exact⟨g,o,f,c,e⟩
end Vw
theorem Mo(V:View)(w:World)(hV:Good V):
  CQ 160 [.agg (bv (oG V)).toArray] w (λv w'=>∃ p c vs,v= .tuple #[OG V p V.slots.length c, .bool true]/\Vw w' w.heap.size [] p V.slots.length c vs V.slots/\Below w.heap.size w w'):=
 (KC V w hV).to λv w' ⟨p,c,vs,a,e,f⟩=>⟨p,c,vs,a,Vw.of e,f⟩
theorem MW(V:View)(w:World)(hV:Good V):CQ 108 [.agg (bv (oG V)).toArray] w (λv w'=>v= .int .i64 (V.kind:Int)/\Below w.heap.size w w'):=by
 have a:=Below.refl w.heap.size w;have q:=uO hV;refine nP (fn:=Tryz.f108) (rs:=[.tmp 2]) (n:=12) Tryz.func108 rfl rfl Tryz.ntmps108 dA rfl<|mR<|nz<|oV ((bv (oG V))) rfl<|λr w1 s i j=>?_
 replace a:=a.acc j;refine nV<|mO (oI 512 i)<|nD (Mo V w1 hV) ?_
 rintro _ t ⟨p,c,vs,rfl,e,k⟩;replace a:=a.acc k;refine lK ?_;have l:=e;refine nz<|nU ([Value.int .i64 0,Value.int .i64 0,Value.slice none 0 0]) dA<|λu v h f g=>?_
 have m:=ag a.size h;replace e:=e.new g;replace a:=a.acc g;replace e:=(l.cons h).new g;refine nH<|nT 3 (vw V p c) f<|λy f o=>?_
 replace a:=o.below a m;refine nV<|mO (nk 0)<|mO (mZ f)<|mV<|mQ<|nQ<|nR [_] ⟨rfl,trivial⟩ ?_
 exact⟨rfl,a⟩
theorem KV(V:View)(w:World)(hV:Good V):CQ 176 [.agg (bv (oG V)).toArray] w (λv w'=>v= .int .i64 (V.next:Int)/\Below w.heap.size w w'):=by
 have a:=Below.refl w.heap.size w;have q:=uO hV;refine nP (fn:=Tryz.f176) (rs:=[.tmp 2]) (n:=12) Tryz.func176 rfl rfl Tryz.ntmps176 dA rfl<|mR<|nz<|oV ((bv (oG V))) rfl<|λr w1 s i j=>?_
 replace a:=a.acc j;refine nV<|mO (oI 512 i)<|nD (Mo V w1 hV) ?_
 rintro _ t ⟨p,c,vs,rfl,e,k⟩;replace a:=a.acc k;refine lK ?_;have l:=e;refine nz<|nU ([Value.int .i64 0,Value.int .i64 0,Value.slice none 0 0]) dA<|λu v h f g=>?_
 have m:=ag a.size h;replace e:=e.new g;replace a:=a.acc g;replace e:=(l.cons h).new g;refine nH<|nT 3 (vw V p c) f<|λy f o=>?_
 replace a:=o.below a m;refine nV<|mO (nk 1)<|mO (mZ f)<|mV<|mQ<|nQ<|nR [_] ⟨rfl,trivial⟩ ?_
 exact⟨rfl,a⟩
theorem OC(V:View)(w:World)(hV:Good V):CQ 227 [.agg (bv (oG V)).toArray] w (λv w'=>v= .bool true/\Below w.heap.size w w'):=by
 have a:=Below.refl w.heap.size w;have q:=uO hV;refine nP (fn:=Tryz.f227) (rs:=[.tmp 2]) (n:=11) Tryz.func227 rfl rfl Tryz.ntmps227 dA rfl<|mR<|nz<|oV ((bv (oG V))) rfl<|λr w1 s i j=>?_
 replace a:=a.acc j;refine nV<|mO (oI 512 i)<|nD (Mo V w1 hV) ?_
 rintro _ t ⟨p,c,vs,rfl,e,k⟩;replace a:=a.acc k;refine lK ?_;have l:=e;refine nz<|nU ([Value.int .i64 0,Value.int .i64 0,Value.slice none 0 0]) dA<|λu v g h f=>?_
 have m:=ag a.size g;replace e:=e.new f;replace a:=a.acc f;replace e:=(l.cons g).new f;refine nH<|nT 3 (vw V p c) h<|λy h o=>?_
 replace a:=o.below a m;refine nV<|mP<|mV<|mQ<|nQ<|nR [_] ⟨rfl,trivial⟩ ?_
 exact⟨rfl,a⟩
theorem He(V:View)(w:World)(hV:Good V):CQ 119 [.agg (bv (oG V)).toArray] w (λv w'=>v= .int .i64 (V.slots.length:Int)/\Below w.heap.size w w'):=by
 have a:=Below.refl w.heap.size w;have r:=uO hV;refine nP (fn:=Tryz.f119) (rs:=[.tmp 2]) (n:=13) Tryz.func119 rfl rfl Tryz.ntmps119 dA rfl<|mR<|nz<|oV ((bv (oG V))) rfl<|λs w1 t j k=>?_
 replace a:=a.acc k;refine nV<|mO (oI 512 j)<|nD (Mo V w1 hV) ?_
 rintro _ u ⟨p,c,vs,rfl,f,l⟩;replace a:=a.acc l;refine lK ?_;have m:=f;refine nz<|nU ([Value.int .i64 0,Value.int .i64 0,Value.slice none 0 0]) dA<|λv y i g h=>?_
 have o:=ag a.size i;replace f:=f.new h;replace a:=a.acc h;replace f:=(m.cons i).new h;refine nH<|nT 3 (vw V p c) g<|λz g q=>?_
 replace a:=q.below a o;refine nV<|mO (nk 2)<|mO (mZ g)<|mO (oQ (e:=23) (sz:=1) dA rfl rfl)<|mV<|mQ<|nQ<|nR [_] ⟨rfl,trivial⟩ ?_
 exact⟨rfl,a⟩
theorem IW:∃ Z,uG=Z/\List.replicate 512 (Value.int .u8 0)=bv Z/\(bv Z).length=512:=⟨_,rfl,AP,MP⟩
theorem ztj(S:List (Option (List UInt8))):wO S<=S.length:=List.findIdx_le_length
theorem SB(V:View)(k:Int)(w:World)(hV:Good V):Calls Tryz.prog 120 [.agg (bv (oG V)).toArray, .int .i64 k].toArray w
   (pX λv w'=>(∃ q c,v= .tuple #[.slice q (zN V.slots k).length c, .int .i64 (if zX V.slots k then 0 else 6)]/\nC w' q (zN V.slots k).length 1 (bv (zN V.slots k))/\(zN V.slots k).length<=c/\∀ b o,q=some ⟨b,o,none⟩->w.heap.size<=b)/\Below w.heap.size w w'):=by
 have a:=Below.refl w.heap.size w;have O:=uO hV;refine nP (fn:=Tryz.f120) (rs:=[.tmp 4, .tmp 5]) (n:=26) Tryz.func120 rfl rfl Tryz.ntmps120 dA rfl<|mR<|nz<|oV ((bv (oG V))) rfl<|λP w2 Q B y=>?_
 replace a:=a.acc y;refine mV<|nV<|mO (oI 512 B)<|nD (Mo V w2 hV) ?_
 rintro _ R ⟨p,c,vs,rfl,f,C⟩;replace a:=a.acc C;refine lK ?_;have D:=f;refine nz<|nU ([Value.int .i64 0,Value.int .i64 0,Value.slice none 0 0]) dA<|λS T z j l=>?_
 have E:=ag a.size z;replace f:=f.new l;replace a:=a.acc l;replace f:=(D.cons z).new l;refine nH<|nT 3 (vw V p c) j<|λF j A=>?_
 replace f:=f.only A iB;replace a:=A.below a E;refine mV<|mQ<|ng<|oU<|mR<|mP<|mO (sD rfl)<|mV<|mQ<|Gb rfl (rfl)<|mR<|mO (oI 3 j)<|mP<|nD (Qx V p c vs k F _ _ f.own.sl f.slts) ?_
 rintro _ U ⟨rfl,m⟩;replace f:=f.new m;replace j:=j.new m;replace a:=a.acc m;refine mO (sD rfl)<|mV<|mQ<|MU rfl (λh=>?_)<|λh=>?_
 ·
  refine mR<|mV<|mV<|mQ<|nQ<|tu<|qb<|nR [_,_] ⟨rfl,rfl,trivial⟩<|⟨⟨none,0,?_,?_,?_,λb o e=>by cases e⟩,a⟩
  · rw[zN,h];rfl
  · rw[zN,h];exact nC.nil _ _ _
  · rw[zN,h];exact ax _
 ·
  have G:∃ i:Nat,k=i:=⟨k.toNat,by unfold zX at h;simp at h;omega⟩;obtain⟨i,rfl⟩:=G;obtain⟨s,r⟩:∃ s,V.slots[i]?=some s:=by
    refine⟨_,aI ?_⟩;unfold zX at h;simp only[aJ]at h;have t:=h.2;rw[aR,bI]at t;rcases dK i V.slots.length with u|u
    .exact u
    .rw[bQ u]at t;cases t
  have X:=(aO.1 r).1;have H:=f.slts.val r;obtain⟨q,I,J,K,Y,L,M⟩:=H;have v:zN V.slots (i:Int)=uF s:=by rw[zN,h,if_pos rfl,aR,bI,r];rfl
  have N:=f.some eu;obtain⟨g,o,rfl,_,_⟩:=N;refine nL<|pW<|ny<|mR<|mO (nk 2)<|mO (mZ j)<|mP<|mO (vg (e:=23) dA rfl rfl (i) eu eu)<|mO (ou rfl (Ld.sl1 f.own.sl dA J))<|mV<|mV<|mQ<|nQ<|nR [_,_] ⟨rfl,rfl,trivial⟩<|⟨⟨q,I,?_,?_,?_,λb o e=>ag y.size (M b o e)⟩,a⟩
  · rw[v,h];rfl
  · rw[v];exact K
  · rw[v];exact L
theorem Kq(V:View)(m:Nat)(w:World)(hV:Good V)(hm:m<2147483648):Calls Tryz.prog 161 [.agg (bv (oG V)).toArray, .int .i64 (m:Int)].toArray w
  (pX λv w'=>v= .tuple #[.agg (bv (oG {V with next:=m})).toArray, .int .i64 0]/\Below w.heap.size w w'):=by
 have a:=Below.refl w.heap.size w;have P:=hV.kind;have r:=λw' p c vs lo o A B=>TC {V with next:=m} p c vs w' lo o A B (by show V.kind<256;omega) hm hV.size
 have C:(bv (oG {V with next:=m})).length=512:=by rw[oh];exact Ad _ hV.size
 generalize oG {V with next:=m}=Q at r C |-;have D:=uO hV;have s:=Mo V;generalize oG V=E at s D |-;obtain⟨Z,R,F,S⟩:=IW;refine nP (fn:=Tryz.f161) (rs:=[.cell 4 121, .tmp 5]) (n:=29) Tryz.func161 rfl rfl Tryz.ntmps161 dA rfl<|mR<|nz<|oV ((bv E)) rfl<|λT w2 U i G=>?_
 replace a:=a.acc G;refine nz<|nU (List.replicate 512 (Value.int .u8 0)) dA<|λH I J e t=>?_
 have K:=ag a.size J;replace i:=i.new t;replace a:=a.acc t;rw[F]at e;refine nV<|mO (oI 512 i)<|nD (s I hV) ?_
 rintro _ X ⟨p,c,vs,rfl,f,u⟩;replace e:=e.new u;replace a:=a.acc u;refine lK ?_;have L:=f;refine nz<|nU ([Value.int .i64 0,Value.int .i64 0,Value.slice none 0 0]) dA<|λM Y j g h=>?_
 have v:=ag a.size j;have y:H<M:=ae e.lt j;replace e:=e.new h;replace f:=f.new h;replace a:=a.acc h;replace f:=(L.cons j).new h;refine nH<|nT 3 (vw V p c) g<|λa0 g l=>?_
 replace e:=e.only l (ai y);replace f:=f.only l iB;replace a:=l.below a v;refine mV<|mQ<|ng<|oU<|mR<|mP<|mO (sD rfl)<|mV<|mQ<|Gb rfl (rfl)<|mR<|mP<|mO (pE rfl rfl)<|mP<|rD 20 rfl (eu)<|mY<|mP<|mY<|mO (tN rfl rfl)<|mO (oo rfl)<|mV<|mQ<|pJ rfl (eu)<|nL<|pW<|ny<|mR<|mP<|mO (nk 1)<|nH<|oW g<|λN g q=>?_
 replace e:=e.only q (ai y);replace f:=f.only q iB;replace a:=q.below a v;refine pV<|mO (oI 3 g)<|nD (r N p c vs _ _ f.own.sl f.slts) ?_
 rintro _ a1 ⟨rfl,z⟩;replace e:=e.new z;replace a:=a.acc z;refine nH<|nT 512 (bv Q) e<|λa2 e O=>?_
 replace a:=O.below a K;refine mV<|mQ<|nQ<|nR [_,_] ⟨⟨_,rfl,Ld.qp (k:=512) e dA dA gp⟩,rfl,trivial⟩ ?_
 exact⟨rfl,a⟩
def yI(V:View)(r:List UInt8):Nat:=if 400<r.length then 3 else Dv V (wO V.slots) r
def BM(V:View)(r:List UInt8):List UInt8:=if yI V r=0 then oG (xB V (wO V.slots) r)else uG
theorem NS(V:View)(pr:Option Addr)(cr:Nat)(r:List UInt8)(w:World)(hV:Good V)(hr:nC w pr r.length 1 (bv r)):Calls Tryz.prog 134 [.agg (bv (oG V)).toArray, .slice pr r.length cr].toArray w
   (pX λv w'=>v= .tuple #[.agg (bv (BM V r)).toArray, .int .i64 (if yI V r=0 then wO V.slots else 0:Nat), .int .i64 (yI V r:Nat)]/\Below w.heap.size w w'):=by
 have a:=Below.refl w.heap.size w;have H:=Mo V;have a1:=uO hV;have I:=ztj V.slots;obtain⟨F,J⟩:=aa (wO V.slots);have K:=Lm V;rw[J]at I K;have L:=Ff V;have a2:=zqY V F r;have a3:Dv V F r=0\/Dv V F r=8:=by unfold Dv;split<;>simp
 have M:Dv V F r=0->Kv V F r=oG (xB V F r):=by
   unfold Dv Kv;split
   .intro a4;cases a4
   .intro _;rfl
 rw[BM,yI,J];obtain⟨P,o⟩:=aa (Kv V F r);obtain⟨E,j⟩:=aa (Dv V F r);obtain⟨R,y⟩:=aa (oG (xB V F r));have N:=λp c cr B vs w a5 a6 a7 a8 a9=>L p pr c cr F B vs r w a5 a6 a7 a8 I a9 hV
 rw[o,j]at N;rw[o]at a2;rw[j]at a3;rw[o,j,y]at M;rw[j,y];clear L o j y;generalize oG V=Q at H a1 |-;obtain⟨Z,b0,q,d5⟩:=IW;rw[b0];refine nP (fn:=Tryz.f134) (rs:=[.cell 4 121, .tmp 5, .tmp 6]) (n:=41) Tryz.func134 rfl rfl Tryz.ntmps134 dA rfl<|mR<|nz<|oV ((bv Q)) rfl<|λd6 w2 d7 z b1=>?_
 replace a:=a.acc b1;refine nz<|nU (List.replicate 512 (Value.int .u8 0)) dA<|λO A b2 f S=>?_
 have C:=ag a.size b2;replace z:=z.new S;replace a:=a.acc S;rw[q]at f;refine mV<|nV<|mO (oI 512 z) ?_
 have T:=a.size;have b3:=f.lt;have h:=Below.refl A.heap.size A;refine nD (H A hV) ?_;rintro _ d8 ⟨p,c,vs,rfl,g,D⟩;replace f:=f.new D;replace a:=a.acc D;replace h:=h.acc D;refine lK ?_;have b4:=g;refine nz<|nU ([Value.int .i64 0,Value.int .i64 0,Value.slice none 0 0]) dA<|λb5 d9 s i l=>?_
 have b6:=ag a.size s;have b7:=ag h.size s;have b8:O<b5:=ae f.lt s;replace f:=f.new l;replace g:=g.new l;replace a:=a.acc l;replace h:=h.acc l;replace g:=(b4.cons s).new l;refine nH<|nT 3 (vw V p c) i<|λb9 i t=>?_
 replace f:=f.only t (ai b8);replace g:=g.only t iB;replace a:=t.below a b6;replace h:=t.below h b7;refine mV<|mQ<|ng<|oU<|mR<|mP<|mO (sD rfl)<|mV<|mQ<|Gb rfl (rfl)<|mR<|mP<|mO (oQ (e:=5) (sz:=1) dA rfl rfl)<|mO (rq rfl rfl)<|mV<|mQ<|oP rfl (λc4=>?_)<|λc4=>?_
 ·
  refine mR<|mO (Ae (bv Z) (by rw[<-q];kernel_rfl))<|nH<|nT 512 (bv Z) f<|λe0 f c5=>?_
  replace a:=c5.below a C;refine mV<|mV<|mQ<|nQ<|tu<|qb<|nR [_,_,_] ⟨⟨_,rfl,Ld.qp (k:=512) f dA dA gp⟩,rfl,rfl,trivial⟩ ?_
  have G:(if 400<r.length then 3 else E)=3:=if_pos eu;rw[G];exact⟨rfl,a⟩
 ·
  have G:(if 400<r.length then 3 else E)=E:=if_neg eu;rw[G];refine nL<|pW<|ny<|mR<|mO (oI 3 i)<|nD (K p c vs b9 _ _ g.own.sl g.slts) ?_
  rintro _ c6 ⟨rfl,m⟩;replace f:=f.new m;replace g:=g.new m;replace i:=i.new m;replace a:=a.acc m;replace h:=h.acc m;refine nV<|mO (oI 3 i)<|mP<|mP ?_;have c7:=λw' hb=>hr.below (w':=w') (a.trans (Below.mono hb T)) (ax _)
  refine qi rfl (nX dA rfl) (N p c cr _ vs c6 g.own g.out h.size c7 eu) ?_;rintro _ e1 ⟨rfl,U⟩;replace a:=a.trans (U.mono T);replace f:=f.below U b3;refine mP<|mO (nJ rfl rfl)<|mO (nJ rfl rfl)<|nz<|nU (List.replicate 512 (Value.int .u8 0)) dA<|λc8 e2 X u Y=>?_
  have c9:=ag a.size X;have d0:O<c8:=ae f.lt X;replace f:=f.new Y;replace a:=a.acc Y;rw[q]at u;refine nH<|nT 512 (bv P) u<|λe3 u a0=>?_
  replace f:=f.only a0 (ai d0);replace a:=a0.below a c9;refine mV<|mQ<|ng<|mR<|mP<|mO (oD rfl rfl)<|mQ<|oP rfl (λd1=>?_)<|λd1=>?_
  ·
   refine mR<|mO (Ae (bv Z) (by rw[<-q];kernel_rfl))<|mP<|nH<|nT 512 (bv Z) f<|λe4 f d2=>?_
   replace a:=d2.below a C;refine mV<|mV<|mQ<|nQ<|qb<|nR [_,_,_] ⟨⟨_,rfl,Ld.qp (k:=512) f dA dA gp⟩,rfl,rfl,trivial⟩ ?_
   rw[if_neg eu,if_neg eu];exact⟨rfl,a⟩
  ·
   refine nL<|ny<|mR<|mO (oI 512 u)<|mP<|nH<|nT 512 (bv P) f<|λe5 f d3=>?_
   replace a:=d3.below a C;refine mV<|mV<|mQ<|nQ<|nR [_,_,_] ⟨⟨_,rfl,Ld.qp (k:=512) f dA dA gp⟩,rfl,rfl,trivial⟩ ?_
   have v:E=0:=by omega
   have d4:=M v;refine⟨?_,a⟩;show Value.tuple #[.agg (bv P).toArray, .int .i64 (F:Nat), .int .i64 (0:Nat)]=_;rw[if_pos v,if_pos v,d4,v]
end Go.Proofs.YtpaniebomegnbaaGreat
namespace Coup
open Go Go.RowKit Go.Maps
def qF(f:Nat->Option Value)(a:Nat):Nat->List (Lit × DataW Value)
 |0=>[]
 |m+1=>match f a with
  |some v=>(.int .i64 (a:Int), .held v)::qF f (a+1) m
  |none=>qF f (a+1) m
theorem VZ{f g:Nat->Option Value}:∀ (m a:Nat),(∀ i,a<=i->i<a+m->f i=g i)->qF f a m=qF g a m
 |0,a,h=>rfl
 |m+1,a,h=>by
  rw[qF,qF,h a (ax _) eu,VZ m (a+1) (λi c e=>h i eu eu)]
theorem SA(f:Nat->Option Value):∀ m a,(qF f a m).length<=m
 |0,a=>ax _
 |m+1,a=>by
  have:=SA f m (a+1);rw[qF];split<;>simp<;>omega
theorem RZ{f:Nat->Option Value}:∀ {m a:Nat} {x:Lit × DataW Value},x∈qF f a m->∃ i,a<=i/\i<a+m/\x.1= .int .i64 (i:Int)
 |0,a,x,c=>by simp[qF]at c
 |m+1,a,x,c=>by
  rw[qF]at c
  split at c
  .rcases ak.1 c with rfl|c
   .exact⟨a,ax _,eu,rfl⟩
   .obtain⟨i,f,g,e⟩:=RZ c;exact⟨i,eu,eu,e⟩
  .obtain⟨i,f,g,e⟩:=RZ c;exact⟨i,eu,eu,e⟩
theorem Ja(a b:Nat):Lit.sameKey (.int .i64 (a:Int)) (.int .i64 (b:Int))=decide (a=b):=by
 simp only[Lit.sameKey,true_and]
 by_cases c:a=b
 .simp[c]
 .have:¬((a:Int)=b):=by omega
  simp[c,this]
theorem RJ{f:Nat->Option Value}{i:Nat}:∀ (m a:Nat),a<=i->i<a+m->(qF f a m).find? (λp=>p.1.sameKey (.int .i64 (i:Int)))=(f i).map λv=>(.int .i64 (i:Int), .held v)
 |0,a,h1,h2=>by omega
 |m+1,a,h1,h2=>by
  have k:∀ (g c:Nat),i<c->(qF f c g).find? (λp=>p.1.sameKey (.int .i64 (i:Int)))=none:=λg c e=>by
   rw[List.find?_eq_none];intro x l;obtain⟨j,q,r,o⟩:=RZ l;rw[o,Ja];simp;omega
  by_cases e:a=i
  .subst e
   rw[qF];cases hf:f a with
   |some v=>simp only[List.find?_cons,Ja];simp
   |none=>exact k m (a+1) eu
  .rw[qF]
   have h:=RJ (f:=f) (i:=i) m (a+1) eu eu;cases hf:f a with
   |some v=>simp only[List.find?_cons,Ja];simp[e,h]
   |none=>exact h
def vF(f:Nat->Option Value)(i:Nat)(v:Option Value):Nat->Option Value:=λj=>if j=i then v else f j
theorem Vo{f:Nat->Option Value}{i:Nat}:∀ (m a:Nat),(qF f a m).filter (λp=>!p.1.sameKey (.int .i64 (i:Int)))=qF (vF f i none) a m
 |0,a=>rfl
 |m+1,a=>by
  have c:=Vo (f:=f) (i:=i) m (a+1);rw[qF,qF]
  by_cases e:a=i
  .rw[show vF f i none a=none from if_pos e]
   cases hf:f a with
   |some v=>subst e;simp only[iG,Ja];simpa using c
   |none=>exact c
  .rw[show vF f i none a=f a from if_neg e]
   cases hf:f a with
   |some v=>simp only[iG,Ja];simp[e,c]
   |none=>exact c
theorem Xj{f:Nat->Option Value}{i:Nat}{v:Value}:∀ (m a:Nat),f i=none->a<=i->i<a+m->DataW.insert (.int .i64 (i:Int), .held v) (qF f a m)=qF (vF f i (some v)) a m
 |0,a,_,h1,h2=>by omega
 |m+1,a,hn,h1,h2=>by
  rw[qF,qF]
  by_cases c:a=i
  .subst c
   rw[show vF f a (some v) a=some v from if_pos rfl,hn];have e:qF (vF f a (some v)) (a+1) m=qF f (a+1) m:=VZ m (a+1) λj h k=>if_neg eu
   simp only[e];cases hk:qF f (a+1) m with
   |nil=>rfl
   |cons y r=>
    obtain⟨j,h,k,l⟩:=RZ (f:=f) (x:=y) (m:=m) (a:=a+1) (by rw[hk];exact aK ..);rw[DataW.insert];rw[if_pos (by rw[l];simp[Lit.before];omega)]
  .rw[show vF f i (some v) a=f a from if_neg c]
   have g:=Xj (f:=f) (i:=i) (v:=v) m (a+1) hn eu eu;cases hf:f a with
   |some u=>
    simp only;rw[DataW.insert,if_neg (by simp[Lit.before];omega),g]
   |none=>exact g
def RH:Value->Option (DataW Value × List MemPlace):=λv=>some (.held v,[])
def MapAt(P:Program)(k:TypeId)(w:World)(m N:Nat)(f:Nat->Option Value):Prop:=w.ownsMap P k RH m N (.map (qF f 0 N))
theorem zk8{P:Program}{k:TypeId}{R:Value->Option (DataW Value × List MemPlace)}{w:World}{b n N:Nat}{es:List (Lit × DataW Value)}(h:w.ownsMap P k R b n (.map es))(hN:es.length<=N):w.ownsMap P k R b N (.map es):=by
 obtain⟨e,f,hb,F,i,a⟩:=h;refine⟨e,f,hb,F,?_,a⟩;have g:es=(e.toList.map (Go.WideElems.rg P k R)).foldr DataW.insert []:=by injection a
 have c:=length_sorted (e.toList.map (Go.WideElems.rg P k R));rw[<-g]at c;simp at c;omega
namespace MapAt
variable {P:Program}{k:TypeId}{w w':World}{m N:Nat}{f:Nat->Option Value}
theorem lt(h:MapAt P k w m N f):m<w.heap.size:=World.ownsMap.lt h
theorem same(h:MapAt P k w m N f)(he:w'.heap[m]?=w.heap[m]?):MapAt P k w' m N f:=by
 obtain⟨a,c,hb,r⟩:=h;exact⟨a,c,he.trans hb,r⟩
theorem nu{M:List Nat}(h:MapAt P k w m N f)(hk:Kp M w w')(hM:m∉M):MapAt P k w' m N f:=h.same (hk.block m h.lt hM)
theorem new(h:MapAt P k w m N f)(hb:Below w.heap.size w w'):MapAt P k w' m N f:=h.nu (M:=[]) (Kp.of_below hb) (λh=>by cases h)
theorem only{g:Nat}(h:MapAt P k w m N f)(ho:Only g w w')(hg:m≠g):MapAt P k w' m N f:=h.nu (Kp.rC ho) kY
end MapAt
structure sI(M:List Nat)(w0 w:World):Prop where
 k:Kp M w0 w
namespace sI
variable {M:List Nat}{w0 w w':World}
theorem refl(M:List Nat)(w:World):sI M w w:=⟨Kp.refl M w⟩
theorem nu{N:List Nat}(h:sI M w0 w)(k:Kp N w w')(hN:∀ g,g∈N->g∈M\/w0.heap.size<=g):sI M w0 w':=
 ⟨⟨k.os.trans h.k.os,k.tape.trans h.k.tape,k.output.trans h.k.output,ag h.k.size k.size,λb hb a=>by
  rw[k.block b (ae hb h.k.size) λc=>?_]
  .exact h.k.block b hb a
  .rcases hN b c with e|e
   .exact a e
   .omega⟩⟩
theorem new(h:sI M w0 w)(hb:Below w.heap.size w w'):sI M w0 w':=h.nu (N:=[]) (Kp.of_below hb) (λg a=>by cases a)
theorem only{g:Nat}(h:sI M w0 w)(ho:Only g w w')(hg:g∈M\/w0.heap.size<=g):sI M w0 w':=h.nu (Kp.rC ho) λa c=>by
 have:a=g:=by simpa using c
 rw[this];exact hg
end sI
theorem Va{w w':World}{b:Nat}(h:w.mapTurned w' b):Only b w w':=by
 obtain⟨c,e,f,g,hb,rfl⟩:=h;exact⟨rfl,rfl,rfl,by simp[Go.ChangeMaps.setBlock],λk a=>Go.ChangeMaps.heap_setBlock_other hb _ a⟩
section
variable {P:Program}{ρ:Env}{w:World}{d:Option Nat}{ty:TypeId}{pos:String}{af:Array Edge}{gd:Option (Nat × Bool)}{K:Value->World->Prop}{Kw:World->Prop}
theorem ztl{t t':Nat}{x y:Operand}{a:Addr}(ht:zx P t=true)(hx:ev ρ x= .pointer (some a))(hy:ev ρ y= .pointer none):(execOp (ev ρ) ⟨d, .binOp .neq t x y t',ty,pos,af,gd⟩).run P w= .ok (.value (.bool true)) w:=by
 have:=Zt (w:=w) ht 9999 a;simp[execOp,hx,hy,eqGuard,binOp,Op.equal,Op.maxDepth,this,Result.andThen]
theorem Rb{i:Nat}(h:i<9223372036854775808):(Lit.int .i64 (i:Int)).wf=true:=by
 have a:IntKind.i64.min=-9223372036854775808:=by decide
 have c:IntKind.i64.max=9223372036854775807:=by decide
 simp[Lit.wf,a,c];omega
theorem zpL {t k e:TypeId} {x y:Operand} {m N:Nat} {f:Nat->Option Value} {a:Int} (z:Value) (ht:P.underlying t=some (.map k e)) (hk:P.underlying k=some (.int .i64)) (hz:∀ w,(zeroValue e).run P w= .ok z w)
  (hm:MapAt P k w m N f) (hx:ev ρ x= .map (some m)) (hy:ev ρ y= .int .i64 a) (i:Nat) (ha:a=(i:Int)) (hi:i<N) (hN:N<=1000000):
  (execOp (ev ρ) ⟨d, .lookup t x y false,ty,pos,af,gd⟩).run P w= .ok (.value ((f i).getD z)) w:=by
 subst ha;obtain⟨v,ps,hr,c⟩:=World.ownsMap.lookup hm (int_keyed hk) ht (hz w) (zd:=.held z) (zp:=[]) rfl (keyOf_int_mk hk (Rb (i:=i) eu));have e:DataW.atKey (.map (qF f 0 N)) (.int .i64 (i:Int)) (.held z)= .held ((f i).getD z):=by
  unfold DataW.atKey;simp only[RJ N 0 (aC _) (by omega:i<0+N)];cases f i<;>rfl
 rw[e]at c;have:v=(f i).getD z:=by
  have a:(some (DataW.held v,([]:List MemPlace)))=some (.held ((f i).getD z),ps):=c
  injection a with a
  injection a with a g
  injection a
 subst this;simp[execOp,hx,hy,hr,Result.andThen]
theorem Nb {t k e:TypeId} {x y:Operand} {m N:Nat} {f:Nat->Option Value} {a:Int} {v:Value} (z:Value) (ht:P.underlying t=some (.map k e)) (hk:P.underlying k=some (.int .i64)) (hz:∀ w,(zeroValue e).run P w= .ok z w)
  (hm:MapAt P k w m N f) (hx:ev ρ x= .map (some m)) (hy:ev ρ y= .int .i64 a) (i:Nat) (ha:a=(i:Int)) (hi:i<N) (hN:N<=1000000) (hv:(f i).getD z=v):
  (execOp (ev ρ) ⟨d, .lookup t x y false,ty,pos,af,gd⟩).run P w= .ok (.value v) w:=by
 rw[<-hv];exact zpL z ht hk hz hm hx hy i ha hi hN
theorem LM {t k e:TypeId} {x y u:Operand} {m N:Nat} {f:Nat->Option Value} {a:Int} (v:Value) (ht:P.underlying t=some (.map k e)) (hk:P.underlying k=some (.int .i64))
  (hm:MapAt P k w m N f) (hx:ev ρ x= .map (some m)) (hy:ev ρ y= .int .i64 a) (hu:ev ρ u=v) (i:Nat) (ha:a=(i:Int)) (hi:i<N) (hN:N<=1000000)
  (h:∀ w',MapAt P k w' m N (vF f i (some v))->Only m w w'->Kw w'):Sk P ρ w ⟨d, .mapUpdate t x y u,ty,pos,af,gd⟩ Kw:=by
 subst ha;obtain⟨w',hr,a,c⟩:=World.ownsMap.store hm (int_keyed hk) ht jo (keyOf_int_mk hk (Rb (i:=i) eu)) (val:=v) (d:=.held v) (ps:=[]) rfl;refine⟨w',?_,h w' ?_ (Va c)⟩
 .simp[execOp,hx,hy,hu,hr,Result.andThen]
 .have e:DataW.put (.map (qF f 0 N)) (.int .i64 (i:Int)) (.held v)= .map (qF (vF f i (some v)) 0 N):=by
   unfold DataW.put;simp only[Vo];rw[Xj N 0 (if_pos rfl) (aC _) eu]
   congr 1
   exact VZ N 0 λj _ _=>by unfold vF;split<;>rfl
  rw[e]at a;exact zk8 a<|SA _ _ _
theorem ZM {t k e:TypeId} {x y:Operand} {m N:Nat} {f:Nat->Option Value} {a:Int} (ht:P.underlying t=some (.map k e)) (hk:P.underlying k=some (.int .i64))
  (hm:MapAt P k w m N f) (hx:ev ρ x= .map (some m)) (hy:ev ρ y= .int .i64 a) (i:Nat) (ha:a=(i:Int)) (hi:i<N) (hN:N<=1000000)
  (h:∀ w',MapAt P k w' m N (vF f i none)->Only m w w'->K (.tuple #[]) w'):Mk P ρ w ⟨d, .call ⟨.builtin .delete,#[x,y],#[t,k]⟩,ty,pos,af,gd⟩ K:=by
 subst ha;obtain⟨w',hr,a,c⟩:=World.ownsMap.drop hm (int_keyed hk) ht (keyOf_int_mk hk (Rb (i:=i) eu)) ty;refine⟨_,w',?_,h w' ?_ (Va c)⟩
 .simp[execOp,resolve,invoke,builtin,hx,hy,hr,Result.andThen]
 .have e:DataW.del (.map (qF f 0 N)) (.int .i64 (i:Int))= .map (qF (vF f i none) 0 N):=by
   unfold DataW.del;simp only[Vo]
  rw[e]at a;exact a
theorem Uv:∀ m a,qF (λ_=>none) a m=[]
 |0,a=>rfl
 |m+1,a=>by rw[qF];exact Uv m (a+1)
theorem Og{t k:TypeId}(N:Nat)(h:∀ m w',w.heap.size<=m->MapAt P k w' m N (λ_=>none)->Below w.heap.size w w'->K (.map (some m)) w'):Mk P ρ w ⟨d, .makeMap t none,ty,pos,af,gd⟩ K:=by
 refine⟨_,_,?_,h w.heap.size (w.alloc (.map #[] 0)) (ax _) ?_ (Jb w _)⟩
 .simp only[execOp]
  first
   |rfl
   |simp[run_makeMap,Result.andThen]
 .unfold MapAt
  rw[Uv];exact World.ownsMap.mono (World.ownsMap_made w P k RH)<|aC _
end
end Coup
namespace Go.Proofs
open Go.Shelf
def Tryz.Yu:Go.Shelf.Ren:=⟨fun|7=>245|10=>253|n=>n,fun|23=>191|26=>3|3=>190|28=>287|0=>0|27=>286|33=>261|4=>4|n=>n,fun|n=>n⟩
theorem Tryz.Ih:Go.Proofs.SlLaysZI.n7 Tryz.prog Tryz.Yu:={
 mixed:=by kernel_rfl
 f7:=⟨Tryz.f245.name,iT,Tryz.func245.trans (congrArg some dA)⟩
 f10:=⟨Tryz.f253.name,iT,Tryz.func253.trans (congrArg some dA)⟩
 t0:=Tryz.underlying0
 a0:=Tryz.isAgg0
 z0:=Tryz.sizeOf0
 v0:=Tryz.zeroValue0
 t4:=Tryz.underlying4
 a4:=Tryz.isAgg4
 z4:=Tryz.sizeOf4
 v4:=Tryz.zeroValue4
 t23:=Tryz.underlying191
 a23:=Tryz.isAgg191
 z23:=Tryz.sizeOf191
 v23:=Tryz.zeroValue191
 t26:=Tryz.underlying3
 a26:=Tryz.isAgg3
 z26:=Tryz.sizeOf3
 v26:=Tryz.zeroValue3
 t27:=Tryz.underlying286
 a27:=Tryz.isAgg286
 z27:=Tryz.sizeOf286
 v27:=Tryz.zeroValue286
 t28:=Tryz.underlying287
 a28:=Tryz.isAgg287
 z28:=Tryz.sizeOf287
 v28:=Tryz.zeroValue287
 t33:=Tryz.underlying261
 a33:=Tryz.isAgg261
 z33:=Tryz.sizeOf261
 v33:=Tryz.zeroValue261}
def Tryz.Zc:Go.Shelf.Ren:=⟨fun|6=>207|8=>243|9=>55|11=>252|13=>113|12=>112|23=>172|24=>173|14=>163|15=>164|16=>165|17=>166|18=>167|19=>168|20=>169|21=>170|22=>171|25=>220|26=>221|27=>222|28=>223|29=>224|30=>225|31=>248|n=>n,fun|26=>3|28=>287|24=>54|0=>0|3=>3|37=>180|48=>256|50=>155|4=>4|40=>249|39=>248|45=>95|5=>5|9=>9|51=>300|55=>304|57=>323|58=>324|33=>261|n=>n,fun|n=>n⟩
theorem Tryz.XP:Go.Proofs.SlLaysZI.n6 Tryz.prog Tryz.Zc:={
 mixed:=by kernel_rfl
 f6:=⟨Tryz.f207.name,iT,Tryz.func207.trans (congrArg some dA)⟩
 f8:=⟨Tryz.f243.name,iT,Tryz.func243.trans (congrArg some dA)⟩
 f11:=⟨Tryz.f252.name,iT,Tryz.func252.trans (congrArg some dA)⟩
 t0:=Tryz.underlying0
 a0:=Tryz.isAgg0
 z0:=Tryz.sizeOf0
 v0:=Tryz.zeroValue0
 t24:=Tryz.underlying54
 a24:=Tryz.isAgg54
 z24:=Tryz.sizeOf54
 v24:=Tryz.zeroValue54
 t26:=Tryz.underlying3
 a26:=Tryz.isAgg3
 z26:=Tryz.sizeOf3
 v26:=Tryz.zeroValue3
 t28:=Tryz.underlying287
 a28:=Tryz.isAgg287
 z28:=Tryz.sizeOf287
 v28:=Tryz.zeroValue287
 i26:=by kernel_rfl}
def Tryz.zq1:Go.Shelf.Ren:=⟨fun|5=>55|8=>113|7=>112|19=>172|20=>173|10=>163|11=>164|12=>165|13=>166|14=>167|15=>168|16=>169|17=>170|18=>171|30=>220|31=>221|32=>222|33=>223|34=>224|35=>225|40=>248|n=>n,fun|23=>54|25=>3|3=>3|32=>180|22=>54|0=>0|44=>256|46=>155|4=>4|36=>249|35=>248|41=>95|5=>5|9=>9|53=>300|57=>304|63=>323|64=>324|n=>n,fun|n=>n⟩
theorem Tryz.Im:Go.Proofs.SlLaysM.n5 Tryz.prog Tryz.zq1:={
 mixed:=by kernel_rfl
 f5:=⟨Tryz.f55.name,iT,Tryz.func55.trans (congrArg some dA)⟩
 f7:=⟨Tryz.f112.name,iT,Tryz.func112.trans (congrArg some dA)⟩
 f8:=Tryz.func113.trans (congrArg some dA)
 f10:=⟨Tryz.f163.name,iT,Tryz.func163.trans (congrArg some dA)⟩
 f11:=⟨Tryz.f164.name,iT,Tryz.func164.trans (congrArg some dA)⟩
 f12:=⟨Tryz.f165.name,iT,Tryz.func165.trans (congrArg some dA)⟩
 f13:=⟨Tryz.f166.name,iT,Tryz.func166.trans (congrArg some dA)⟩
 f14:=⟨Tryz.f167.name,iT,Tryz.func167.trans (congrArg some dA)⟩
 f15:=⟨Tryz.f168.name,iT,Tryz.func168.trans (congrArg some dA)⟩
 f16:=⟨Tryz.f169.name,iT,Tryz.func169.trans (congrArg some dA)⟩
 f17:=⟨Tryz.f170.name,iT,Tryz.func170.trans (congrArg some dA)⟩
 f18:=⟨Tryz.f171.name,iT,Tryz.func171.trans (congrArg some dA)⟩
 f19:=Tryz.func172.trans (congrArg some dA)
 f20:=Tryz.func173.trans (congrArg some dA)
 f30:=⟨Tryz.f220.name,iT,Tryz.func220.trans (congrArg some dA)⟩
 f31:=Tryz.func221.trans (congrArg some dA)
 f32:=Tryz.func222.trans (congrArg some dA)
 f33:=⟨Tryz.f223.name,iT,Tryz.func223.trans (congrArg some dA)⟩
 f34:=⟨Tryz.f224.name,iT,Tryz.func224.trans (congrArg some dA)⟩
 f35:=⟨Tryz.f225.name,iT,Tryz.func225.trans (congrArg some dA)⟩
 f40:=⟨Tryz.f248.name,iT,Tryz.func248.trans (congrArg some dA)⟩
 t0:=Tryz.underlying0
 a0:=Tryz.isAgg0
 z0:=Tryz.sizeOf0
 v0:=Tryz.zeroValue0
 t3:=Tryz.underlying3
 a3:=Tryz.isAgg3
 z3:=Tryz.sizeOf3
 v3:=Tryz.zeroValue3
 t4:=Tryz.underlying4
 a4:=Tryz.isAgg4
 z4:=Tryz.sizeOf4
 v4:=Tryz.zeroValue4
 t5:=Tryz.underlying5
 a5:=Tryz.isAgg5
 z5:=Tryz.sizeOf5
 v5:=Tryz.zeroValue5
 t9:=Tryz.underlying9
 a9:=Tryz.isAgg9
 z9:=Tryz.sizeOf9
 v9:=Tryz.zeroValue9
 t22:=Tryz.underlying54
 a22:=Tryz.isAgg54
 z22:=Tryz.sizeOf54
 v22:=Tryz.zeroValue54
 t23:=Tryz.underlying54
 a23:=Tryz.isAgg54
 z23:=Tryz.sizeOf54
 v23:=Tryz.zeroValue54
 t25:=Tryz.underlying3
 a25:=Tryz.isAgg3
 z25:=Tryz.sizeOf3
 v25:=Tryz.zeroValue3
 t32:=Tryz.underlying180
 a32:=Tryz.isAgg180
 z32:=Tryz.sizeOf180
 v32:=Tryz.zeroValue180
 t35:=Tryz.underlying248
 a35:=Tryz.isAgg248
 z35:=Tryz.sizeOf248
 v35:=Tryz.zeroValue248
 t36:=Tryz.underlying249
 a36:=Tryz.isAgg249
 z36:=Tryz.sizeOf249
 v36:=Tryz.zeroValue249
 t41:=Tryz.underlying95
 a41:=Tryz.isAgg95
 z41:=Tryz.sizeOf95
 v41:=Tryz.zeroValue95
 t44:=Tryz.underlying256
 a44:=Tryz.isAgg256
 z44:=Tryz.sizeOf256
 v44:=Tryz.zeroValue256
 t46:=Tryz.underlying155
 a46:=Tryz.isAgg155
 z46:=Tryz.sizeOf155
 v46:=Tryz.zeroValue155
 t53:=Tryz.underlying300
 a53:=Tryz.isAgg300
 z53:=Tryz.sizeOf300
 v53:=Tryz.zeroValue300
 t57:=Tryz.underlying304
 a57:=Tryz.isAgg304
 z57:=Tryz.sizeOf304
 v57:=Tryz.zeroValue304
 t63:=Tryz.underlying323
 a63:=Tryz.isAgg323
 z63:=Tryz.sizeOf323
 v63:=Tryz.zeroValue323
 t64:=Tryz.underlying324
 a64:=Tryz.isAgg324
 z64:=Tryz.sizeOf324
 v64:=Tryz.zeroValue324}
end Go.Proofs
namespace Go.Proofs.YtpaniebomegnbaaGreat
open Go Go.RowKit Go.Maps Go.Sort Go.Shelf Coup
theorem Dj(m:Nat):AnyZI.SortsIn Tryz.prog Tryz.Zc Fence.wide m:=
 ⟨λblk c a e W f g h=>callsIn_wide.2 (AnyM.slices_Sort_int Tryz.Im blk c a e W f g h),
  λp a W=>callsIn_wide.2 (AnyM.slices_Sort_int_none Tryz.Im p a W)⟩
def keysOf(f:Nat->Option Value):Nat->Nat->List Int
 |_,0=>[]
 |a,m+1=>if(f a).isSome then(a:Int)::keysOf f (a+1) m else keysOf f (a+1) m
theorem Ua{f:Nat->Option Value}:∀ {m a:Nat} {x:Int},x∈keysOf f a m->(a:Int)<=x/\x<a+m
 |0,a,x,c=>by simp[keysOf]at c
 |m+1,a,x,c=>by
  rw[keysOf]at c
  split at c
  .rcases ak.1 c with rfl|c
   .omega
   .have:=Ua c;omega
  .have:=Ua c;omega
theorem UQ(f:Nat->Option Value):∀ (m a:Nat),(keysOf f a m).Pairwise (λx y=>leI x y=true)
 |0,a=>List.Pairwise.nil
 |m+1,a=>by
  rw[keysOf]
  split
  .refine List.Pairwise.cons (λy c=>?_)<|UQ f m<|a+1
   have:=Ua c;simp[leI];omega
  .exact UQ f m<|a+1
theorem Sz(f:Nat->Option Value):∀ (m a:Nat),intKeys (DataW.map (qF f a m))=keysOf f a m
 |0,a=>rfl
 |m+1,a=>by
  have c:=Sz f m (a+1);unfold intKeys at c |-;simp only[qF,keysOf];cases hf:f a with
  |some v=>simp only[aZ,c];rfl
  |none=>simpa using c
theorem Zr(f:Nat->Option Value)(m a:Nat){ss:List Int}(h:ss.Perm (intKeys (DataW.map (qF f a m)))):ss.mergeSort (λx y=>decide (x<=y))=keysOf f a m:=by
 rw[Sz]at h;have c:ss.mergeSort leI=(keysOf f a m).mergeSort leI:=mergeSort_of_perm_i h;have e:(keysOf f a m).mergeSort leI=keysOf f a m:=List.mergeSort_of_pairwise (UQ f m a);exact c.trans e
theorem PI(mb:Option Nat)(w:World):CQ 245 [.map mb] w (λv w'=>v= .func (.func 253) #[] #[.pointer (some ⟨w.heap.size,0,none⟩)]/\w'=w.alloc (.cells #[.map mb] 191)/\Below w.heap.size w w'):=by
 have a:CallsIn Fence.wide 5 Tryz.prog 245 #[.map mb] w λe w'=>e= .returned (.func (.func 253) #[] #[.pointer (some ⟨w.heap.size,0,none⟩)])/\w'=w.alloc (.cells #[.map mb] 191):=AnyZI.keys_in Tryz.Ih Fence.wide 5 trivial rfl mb w
 refine(callsIn_wide.1 a).mono ?_;rintro e w' ⟨rfl,rfl⟩;exact⟨_,rfl,rfl,rfl,(Below.refl _ w).alloc (ax _) _⟩
theorem Fx{b N:Nat}{f:Nat->Option Value}(w W:World)(hW:W=w.alloc (.cells #[.map (some b)] 191))(h:MapAt Tryz.prog 3 w b N f)(hN:N<=1000000):
  CQ 207 [.func (.func 253) #[] #[.pointer (some ⟨w.heap.size,0,none⟩)]] W (λv w'=>∃ p c,v= .slice p (keysOf f 0 N).length c/\nC w' p (keysOf f 0 N).length 1 (iv (keysOf f 0 N))/\(∀ b o,p=some ⟨b,o,none⟩->W.heap.size<=b)/\Below W.heap.size W w'):=by
 subst hW;have l:=h.lt;have m:=SA f N 0;have A:maxLen=9223372036854775807:=by decide
 have B:Maps.size (DataW.map (qF f 0 N))<=N:=m;have q:(w.alloc (.cells #[.map (some b)] 191)).ownsMap Tryz.prog 3 RH b N (.map (qF f 0 N)):=by
  obtain⟨r,s,hb,Ft,t,u⟩:=h;exact⟨r,s,(Below.heap_alloc _ _ b l).trans hb,Ft,t,u⟩
 have y:SeqGives Fence.wide 2 Tryz.prog 253 #[.pointer (some ⟨w.heap.size,0,none⟩)] encZ (λa=>a.Perm (intKeys (DataW.map (qF f 0 N)))) (Maps.size (DataW.map (qF f 0 N))) (w.alloc (.cells #[.map (some b)] 191)):=
  AnyZI.keys_gives (ρ:=Tryz.Yu) {Tryz.Ih with} Fence.wide _ trivial rfl eu w.heap.size b N _ _ ig ig q
 have i:=AnyZI.sorted_in Tryz.XP Fence.wide 5 trivial trivial trivial trivial rfl eu (Dj _) (enters_of Tryz.func55 dA rfl) 253 #[.pointer (some ⟨w.heap.size,0,none⟩)] trivial (enters_of Tryz.func253 dA rfl) _ _ eu eu _ y
 change CallsIn _ _ Tryz.prog 207 _ _ _ at i
 refine(callsIn_wide.1 i).mono ?_;rintro e w' ⟨v,a,rfl,j,k,C,hb⟩;have z:a.length=(keysOf f 0 N).length:=by rw[<-Sz,j.length_eq]
 rw[Zr f N 0 j,z]at k;have g:=RS k;obtain⟨p,c,rfl⟩:=g.form;exact⟨_,rfl,p,c,rfl,g.sl,λb o e=>(g.lt b kQ).1,hb⟩
end Go.Proofs.YtpaniebomegnbaaGreat
