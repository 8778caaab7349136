import Derived.Test.YtdbogkndglbffaaGreatM0
import Derived.OpenShut
import Derived.Deep.Slices
import Derived.Lib.Builder
import Derived.Lib.OthersKept
import Derived.Laws.Externs
import Derived.Test.YtdbogkndglbffaaGreatProg
import Derived.Maps.OwnSet
import Derived.Maps.Keyed
namespace Coup
open Go Go.RowKit Go.ChangeShapes Go.WideShapes Go.Deep
theorem byte_of_wf{n:Int}(h:(Lit.int .u8 n).wf=true):∃ b:UInt8,n=(b.toNat:Int):=by
 have h':0≤n∧n<256:=by
  have h2:IntKind.u8.min≤n∧n≤IntKind.u8.max:=by simpa [Lit.wf]using h
  have e1:IntKind.u8.min=0:=by decide
  have e2:IntKind.u8.max=255:=by decide
  omega
 refine⟨UInt8.ofNat n.toNat,?_⟩
 rw[UInt8.toNat_ofNat']
 omega
theorem zfe:∀ (cs:List Value),(∀ i,i<cs.length→∃ b,cs[i]?=some (zcK b))→∃ l,cs=bv l
 |[],_=>⟨[],rfl⟩
 |c::cs,h=>by
  obtain⟨b,hb⟩:=h 0 ay
  obtain⟨l,hl⟩:=zfe cs fun i hi=>by
   have:=h (i+1) (by simpa using hi)
   simpa using this
  simp at hb
  exact⟨b::l,by rw[hb,hl];rfl⟩
section
variable {H:Type}{enc:TypeId × Value→H}{P:Program}{W:World}{base:Nat}{spare:Nat→Bool}{held:Bool}
def Flat(enc:TypeId × Value→H)(P:Program)(W:World)(base:Nat)(spare:Nat→Bool)(held:Bool)(t n:Nat):Prop:=
 ∀ fuel cs x,DataW.trod enc P W base spare held fuel t cs=some x→∃ l,cs=bv l∧l.length=n
theorem add_add(a:Addr)(i j:Nat):(a.add i).add j=a.add (i+j):=by
 unfold Addr.add
 by_cases h1:i=0
 ·subst h1;simp
 ·by_cases h2:j=0
  ·subst h2;simp[h1]
  ·have h3:i+j≠0:=by omega
   simp[h1,h2,Nat.add_assoc]
end
section
variable {H:Type}{enc:TypeId × Value→H}{P:Program}{W:World}{base:Nat}{spare:Nat→Bool}{held:Bool}
def RowCells(W:World)(c k:Int)(l:List UInt8)(cs:List Value):Prop:=∃ q cp,cs=[.int .u64 c, .int .i64 k, .slice q l.length cp]∧zaS W q l.length 1 (bv l)
theorem ziq {t e n:TypeId} {a:Option Addr} {len cap:Nat} {d:DataW H} {p:List MemPlace} {α:Type} (Q:α→List Value→Prop) (ht:P.underlying t=some (.slice e)) (hC:P.cellsOf e=n)
  (hf:∀ fuel cs x,DataW.trod enc P W base spare held fuel e cs=some x→∃ r,Q r cs)
  (h:DataW.Trod enc P W base spare held t (.slice a len cap) d p):(∃ (R:List α) (cs:List Value),R.length=len∧zaS W a len n cs∧∀ i r,R[i]?=some r→Q r ((cs.drop (i*n)).take n))∧len≤cap:=by
 obtain⟨fuel,hh⟩:=h
 rcases open_slice ht hh with⟨hcs,_⟩|⟨a',len',cap',m,n',D,Pl,hcs,hb,hl,hm,hmm,hx,hel⟩
 ·simp[Value.cells]at hcs
  obtain⟨rfl,rfl,rfl⟩:=hcs
  exact⟨⟨[],[],rfl,zaS.nil _ _ _,by intro i r h;simp at h⟩,Nat.le_refl _⟩
 ·simp[Value.cells]at hcs
  obtain⟨rfl,rfl,rfl⟩:=hcs
  refine⟨?_,hl⟩
  have hlm:len≤m:=by rw[hmm];split<;>omega
  have key:∀ k,k≤len→∃ (R:List α) (cs:List Value),R.length=k∧cs.length=k*n∧(∀ j,j<k*n→W.cell? (a'.add j)=cs[j]?)∧∀ i r,R[i]?=some r→Q r ((cs.drop (i*n)).take n):=by
   intro k
   induction k with
   |zero=>intro _;exact⟨[],[],rfl,ay,by intro j hj;omega,by intro i r h;simp at h⟩
   |succ k ih=>
    intro hk
    obtain⟨R,cs,h1,h1',h2,hQ⟩:=ih ae
    obtain⟨cs',h3,h4⟩:=hel k ae
    obtain⟨r,hr⟩:=hf _ _ _ h4
    rw[hC]at h3
    obtain⟨_,h6,h7⟩:=World.cells?_some h3
    refine⟨R++[r],cs++cs',by simp[h1],by rw[List.length_append,h1',h6,Nat.succ_mul],fun j hj=>?_,fun i r' hi=>?_⟩
    ·by_cases hj':j<k*n
     ·rw[List.getElem?_append_left ae];exact h2 j hj'
     ·have hj2:j - k*n<n:=by rw[Nat.succ_mul]at hj;omega
      have:=h7 (j - k*n) hj2
      rw[add_add,show k*n+(j - k*n)=j by omega]at this
      rw[List.getElem?_append_right ae,h1']
      exact this
    ·by_cases hik:i<k
     ·rw[List.getElem?_append_left ae]at hi
      have hle:i*n+n≤k*n:=by rw[←Nat.succ_mul];exact Nat.mul_le_mul_right _ hik
      rw[List.drop_append_of_le_length ae,List.take_append_of_le_length (by rw[List.length_drop];omega)]
      exact hQ i r' hi
     ·have hi':i=k:=by
       have:=(List.getElem?_eq_some_iff.1 hi).1
       simp at this;omega
      subst hi'
      rw[List.getElem?_append_right ae,h1]at hi
      simp at hi
      subst hi
      rw[List.drop_append_of_le_length ae,List.drop_of_length_le ae,List.nil_append,List.take_of_length_le ae]
      exact hr
  obtain⟨R,cs,h1,h1',h2,hQ⟩:=key len (Nat.le_refl _)
  refine⟨R,cs,h1,⟨h1',Nat.le_trans hl hm,fun h0=>?_⟩,hQ⟩
  obtain⟨b,off,spot⟩:=a'
  have hc0:W.cell? ⟨b,off,spot⟩=some (cs[0]'ae):=by
   have:=h2 0 h0
   rw[List.getElem?_eq_getElem ae]at this
   simpa [Addr.add]using this
  have hspot:spot=none:=by simpa using World.cell?_spot hc0
  subst hspot
  exact⟨b,off,rfl,World.block_lt_of_cell? _ _ hc0,fun k hk=>by rw[←h2 k hk,Addr.add_lit]⟩
end
theorem zl7(l:List Int)(i:Nat):(iv l)[i]?=(l[i]?).map (.int .i64):=by simp[iv]
theorem iv_some{l:List Int}{i:Nat}{x:Int}(h:l[i]?=some x):(iv l)[i]?=some (.int .i64 x):=by simp[iv,h]
theorem zjZ(l:List Int)(i:Nat)(x:Int):(iv l).set i (.int .i64 x)=iv (l.set i x):=by simp[iv,List.map_set]
def okI(l:List Int):Prop:=∀ x∈l,-9223372036854775808≤x∧x≤9223372036854775807
theorem okI.at_{l:List Int}(h:okI l){i:Nat}{x:Int}(hx:l[i]?=some x):-9223372036854775808≤x∧x≤9223372036854775807:=h x (List.mem_of_getElem? hx)
theorem zhl{n:Int}(h:(Lit.int .i64 n).wf=true):-9223372036854775808≤n∧n≤9223372036854775807:=by
 have h2:IntKind.i64.min≤n∧n≤IntKind.i64.max:=by simpa [Lit.wf]using h
 have e1:IntKind.i64.min=-9223372036854775808:=by decide
 have e2:IntKind.i64.max=9223372036854775807:=by decide
 omega
section
variable {H:Type}{enc:TypeId × Value→H}{P:Program}{W:World}{base:Nat}{spare:Nat→Bool}{held:Bool}
end
end Coup
namespace Coup
open Go Go.RowKit
theorem vb{a b:Bool}(h:a=b):Value.bool a=Value.bool b:=congrArg _ h
theorem vi{k:IntKind}{a b:Int}(h:a=b):Value.int k a=Value.int k b:=congrArg _ h
section
variable {P:Program}{ρ:Env}{w:World}{d:Option Nat}{ty:TypeId}{pos:String}{af:Array Edge}{gd:Option (Nat × Bool)}
def zeV(P:Program)(t:Nat):Bool:=match P.underlying t with|some (.interface _)=>false|some _=>true|none=>false
theorem zpZ{t:Nat}{x:Operand}(ht:zeV P t=true):(execOp (ev ρ) ⟨d, .makeInterface t x,ty,pos,af,gd⟩).run P w= .ok (.value (.iface t (ev ρ x))) w:=by
 unfold zeV at ht
 cases hu:P.underlying t with
 |none=>simp[hu]at ht
 |some dd=>
  rw[hu]at ht
  simp only[execOp,Instr.makeInterface,Sem.run_bind,run_underlying hu,Result.andThen_ok]
  cases dd<;>first |(simp at ht;done)|rfl
def methP(P:Program)(t:Nat)(name:String)(f:FuncId):Prop:=∀ (a:Addr) (w:World),(method (P.types.size+Made.depth) t (.pointer (some a)) name).run P w= .ok (f, .pointer (some a)) w
def methV(P:Program)(t:Nat)(name:String)(f:FuncId)(e:Nat):Prop:=∀ (a:Addr) (w:World),(method (P.types.size+Made.depth) t (.pointer (some a)) name).run P w=((loadVar e a).run P w).andThen fun v w'=>.ok (f,v) w'
theorem zh9{f:FuncId}(hc:zcC P f=true)(vl:Array Value):(callFunc f vl).run P w= .ok (.enter f vl) w:=by
 unfold zcC at hc
 cases hfn:P.funcs[f]? with
 |none=>simp[hfn]at hc
 |some fn=>
  rw[hfn]at hc
  simp only[Bool.and_eq_true,Bool.not_eq_true']at hc
  cases hb:fn.body with
  |none=>simp[hb]at hc
  |some c=>
   have hn:¬fn.name= "runtime.NumGoroutine" :=by simpa using hc.1
   simp[callFunc,program,Sem.run,hfn,hn,hb,Result.andThen]
theorem zp0{f:FuncId}{x:Operand}{fl vl:List Value}{al:List Operand}{ats:Array Nat}(hc:zcC P f=true)(hx:ev ρ x= .func (.func f) fl.toArray #[])(hv:al.map (ev ρ)=vl):
  (execOp (ev ρ) ⟨d, .call ⟨.value x,al.toArray,ats⟩,ty,pos,af,gd⟩).run P w= .ok (.enter f (fl++vl).toArray) w:=by
 have h1:al.toArray.map (ev ρ)=vl.toArray:=by rw[←hv];simp
 have h2:=zh9 (w:=w) hc (fl++vl).toArray
 simp[execOp,resolve,Deferred.ofValue,h1,hx,invoke,h2,Result.andThen]
end
theorem zn1{a:Int}(h:0≤a∧a<18446744073709551616):(BitVec.ofInt 64 a).toNat=a.toNat:=by
 rw[BitVec.toNat_ofInt]
 have:a % ((2 ^ 64:Nat):Int)=a:=Int.emod_eq_of_lt h.1 (by simpa using h.2)
 rw[this]
theorem shrN{a b:Int}(s:Nat)(hb:b=(s:Int))(hs:s≤64):a.fdiv (2 ^ (min b.toNat IntKind.u64.bits))=a / 2 ^ s:=by
 subst hb
 show a.fdiv (2 ^ (min ((s:Int).toNat) 64))=a / 2 ^ s
 rw[Int.toNat_natCast,Nat.min_eq_left hs,Int.fdiv_eq_ediv_of_nonneg _ (Int.le_of_lt (Int.pow_pos aD))]
theorem orU{a b:Int}(s:Nat)(q:Int)(ha:0≤a∧a<18446744073709551616)(hq:a=q*2 ^ s)(hb:0≤b∧b<2 ^ s)(hs:a+b<18446744073709551616):
  IntKind.u64.wrap ((BitVec.ofInt IntKind.u64.bits a |||BitVec.ofInt IntKind.u64.bits b).toNat:Int)=a+b:=by
 show IntKind.u64.wrap ((BitVec.ofInt 64 a |||BitVec.ofInt 64 b).toNat:Int)=a+b
 have hq0:0≤q:=by
  rcases Int.lt_or_le q 0 with h|h
  ·have h5:(0:Int)<2 ^ s:=Int.pow_pos aD
   have:=Int.mul_neg_of_neg_of_pos h h5;omega
  ·exact h
 rw[BitVec.toNat_or,zn1 ha,zn1 ae]
 have h1:a.toNat=q.toNat<<<s:=by
  rw[Nat.shiftLeft_eq]
  have h2:(q.toNat:Int)=q:=Int.toNat_of_nonneg hq0
  have h3:((q.toNat*2 ^ s:Nat):Int)=q*2 ^ s:=by rw[Int.natCast_mul,h2,Int.natCast_pow];rfl
  omega
 have h2:b.toNat<2 ^ s:=by
  have h3:((2 ^ s:Nat):Int)=2 ^ s:=by rw[Int.natCast_pow];rfl
  omega
 rw[h1,←Nat.shiftLeft_add_eq_or_of_lt h2,←h1,wu64 ae]
 omega
section
variable {P:Program}{ρ:Env}{w:World}{d:Option Nat}{ty:TypeId}{pos:String}{af:Array Edge}{gd:Option (Nat × Bool)}
end
def tabOk(s:ByteArray):Bool:=(List.range 255).all fun j=>match s[j+1]? with
 |some b=>decide (1≤b.toNat) && decide (b.toNat≤8) && decide (2 ^ (b.toNat - 1)≤j+1) && decide (j+1<2 ^ b.toNat)
 |none=>false
section
variable {P:Program}{ρ:Env}{w:World}{d:Option Nat}{ty:TypeId}{pos:String}{af:Array Edge}{gd:Option (Nat × Bool)}{K:Value→World→Prop}
end
def zeg(w:World)(base e sz g o m c:Nat)(xs:List Value):Prop:=zaz w base e sz (.slice (some ⟨g,o,none⟩) m c) m xs
namespace zeg
variable {w w':World}{base e sz g o m c:Nat}{xs:List Value}
theorem lt(h:zeg w base e sz g o m c xs):g<w.heap.size:=(zaz.lt h g rfl).2
theorem len(h:zeg w base e sz g o m c xs):xs.length=m*sz:=h.1
theorem new(h:zeg w base e sz g o m c xs)(hb:Below w.heap.size w w'):zeg w' base e sz g o m c xs:=zaz.new h hb
theorem kpd{M:List Nat}(h:zeg w base e sz g o m c xs)(k:Kp M w w')(hM:g∉M):zeg w' base e sz g o m c xs:=zaz.kpd h k fun g' hm e=>hM (by
 have:g=g':=by simpa [Value.ownBlock]using e
 rw[this];exact hm)
theorem only{g':Nat}(h:zeg w base e sz g o m c xs)(ho:Only g' w w')(hg:g≠g'):zeg w' base e sz g o m c xs:=h.kpd (Kp.zaZ ho) bg
theorem sl(h:zeg w base e sz g o m c xs):zaS w (some ⟨g,o,none⟩) m sz xs:=zaz.sl h
end zeg
theorem zeW{l vs:List Value}{k:Nat}(h:k+vs.length≤l.length)(i:Nat):(splice l k vs)[i]?=if i<k then l[i]? else if i<k+vs.length then vs[i - k]? else l[i]?:=by
 unfold splice
 by_cases h1:i<k
 ·rw[if_pos h1,List.getElem?_append_left aW,List.getElem?_take,if_pos h1]
 ·rw[if_neg h1,List.getElem?_append_right aW,List.length_take,Nat.min_eq_left ae]
  by_cases h2:i<k+vs.length
  ·rw[if_pos h2,List.getElem?_append_left ae]
  ·rw[if_neg h2,List.getElem?_append_right ae,List.getElem?_drop]
   congr 1;omega
section
variable {P:Program}{ρ:Env}{w:World}{d:Option Nat}{ty:TypeId}{pos:String}{af:Array Edge}{gd:Option (Nat × Bool)}{Kw:World→Prop}
theorem zd0 {t:Nat} {x y:Operand} {g o:Nat} {base e sz m c:Nat} {xs:List Value} (vs:List Value) (j:Nat) (hown:zeg w base e sz g o m c xs) (hx:ev ρ x= .pointer (some ⟨g,o+j,none⟩))
  (hy:(ev ρ y).cells=vs.toArray) (hs:zco P t vs.length=true) (hfit:j+vs.length≤xs.length) (h1:∀ v∈vs,v.oneCell'=true)
  (h:∀ w',zeg w' base e sz g o m c (splice xs j vs)→Only g w w'→Kw w'):Sk P ρ w ⟨d, .store t x y,ty,pos,af,gd⟩ Kw:=by
 have hlen:=hown.1
 rcases hown.2 with⟨hn,_⟩|⟨g',off,cap,cur,he,hb,hg,hmc,hmx,hsz,hcur⟩
 ·cases hn
 ·cases he
  have hrow:row w g cur.toList e:=by unfold row;simpa using hg
  have hle:m*sz≤c*sz:=Nat.mul_le_mul_right _ hmc
  have hcl:cur.toList.length=cur.size:=by simp
  refine zgW vs hx hy hrow hs ae h1 fun w' hr ho=>h w' ⟨?_,Or.inr ⟨g,o,c,(splice cur.toList (o+j) vs).toArray,rfl,hb,hr,hmc,hmx,?_,?_⟩⟩ ho
  ·simp only[splice,List.length_append,List.length_take,List.length_drop];omega
  ·simp only[splice,List.size_toArray,List.length_append,List.length_take,List.length_drop];omega
  ·rw[←hcur]
   have hm2:((cur.toList.drop o).take (m*sz)).length=m*sz:=by rw[List.length_take,List.length_drop];omega
   refine List.ext_getElem? fun i=>?_
   rw[List.getElem?_take,List.getElem?_drop,zeW ae,zeW (by rw[hm2];omega),List.getElem?_take,List.getElem?_drop]
   by_cases hi:i<m*sz
   ·rw[if_pos hi]
    by_cases h2:i<j
    ·rw[if_pos ae,if_pos h2,if_pos hi]
    ·rw[if_neg ae,if_neg h2]
     by_cases h3:i<j+vs.length
     ·rw[if_pos ae,if_pos h3];congr 1;omega
     ·rw[if_neg ae,if_neg h3,if_pos hi]
   ·rw[if_neg hi,if_neg ae,if_neg ae,if_neg hi]
end
section
variable {P:Program}{ρ:Env}{w:World}{d:Option Nat}{ty:TypeId}{pos:String}{af:Array Edge}{gd:Option (Nat × Bool)}{K:Value→World→Prop}
def fieldOne(P:Program)(t i off:Nat):Bool:=match P.underlying t with|some (.struct fs)=>(match fs[i]? with|some f=>Nat.beq f.offset off && zhh P f.type|none=>false)|_=>false
theorem zl8{t e sz:Nat}(ht:P.underlying t=some (.slice e))(hs:zco P e sz=true)(h:∀ g w',w.heap.size≤g→row w' g [] e→Below w.heap.size w w'→K (.slice (some ⟨g,0,none⟩) 0 0) w'):Mk P ρ w ⟨d, .buildSlice t 0 #[],ty,pos,af,gd⟩ K:=by
 obtain⟨ie,h1,h2⟩:=zcp hs
 refine⟨_,_,?_,h w.heap.size (w.alloc (.cells #[] e)) (Nat.le_refl _) (zdt w _ e) (zcm w _)⟩
 simp[execOp,Instr.buildSlice,run_underlying ht,Go.sizeOf,typeInfo,h1,Instr.fill,newRow,Result.andThen]
 congr 2
 exact Array.eq_empty_of_size_eq_zero ay
end
section
variable {P:Program}{ρ:Env}{w:World}{d:Option Nat}{ty:TypeId}{pos:String}{af:Array Edge}{gd:Option (Nat × Bool)}
theorem zd1{t e sz:Nat}{x hi:Operand}{p:Option Addr}{len cap:Nat}(h:Nat)(ht:zdT P t e sz=true)(hx:ev ρ x= .slice p len cap)(hh:∃ k a,ev ρ hi= .int k a∧a=(h:Int))(h2:h≤cap):
  (execOp (ev ρ) ⟨d, .slice t x none (some hi) none,ty,pos,af,gd⟩).run P w= .ok (.value (.slice p h cap)) w:=by
 have hr:=zc8 (P:=P) (w:=w) (d:=d) (ty:=ty) (pos:=pos) (af:=af) (gd:=gd) (lo:=none) (hi:=some hi) (mx:=none) 0 h cap ht hx rfl hh rfl ay (Nat.zero_le _) h2 (Nat.le_refl _)
 rw[hr]
 have:(if cap=0 then p else p.map (·.add (0*sz)))=p:=by
  split
  ·rfl
  ·cases p with
   |none=>rfl
   |some a=>simp[Addr.add]
 rw[this,Nat.sub_zero,Nat.sub_zero]
end
theorem zaz.cut{w:World}{base e sz m c:Nat}{p:Option Addr}{xs:List Value}(h:zaz w base e sz (.slice p m c) m xs)(k:Nat)(hk:k≤m):zaz w base e sz (.slice p k c) k (xs.take (k*sz)):=by
 have hl:=h.1
 have hle:k*sz≤m*sz:=Nat.mul_le_mul_right _ hk
 refine⟨by rw[List.length_take];omega,?_⟩
 rcases h.2 with⟨hn,h0⟩|⟨g,off,cap,cur,he,hb,hg,hmc,hmx,hsz,hcur⟩
 ·cases hn
  have:k=0:=by omega
  subst this
  exact .inl ⟨rfl,rfl⟩
 ·cases he
  refine .inr ⟨g,off,c,cur,rfl,hb,hg,ae,hmx,hsz,?_⟩
  rw[←hcur,List.take_take,Nat.min_eq_left hle]
theorem Kp.toB{M:List Nat}{B:Nat}{w w':World}(h:Kp M w w')(hM:∀ g,g∈M→B≤g)(hB:B≤w.heap.size):Below B w w':=⟨h.os,h.tape,h.output,h.size,fun k hk=>h.block k ae fun hm=>by have:=hM k hm;omega⟩
def methRow(P:Program)(t:Nat)(name:String)(f:FuncId)(byP:Bool):Bool:=match P.info? t with
 |some i=>(match i.methods.find? (·.name == name)with|some m=>m.path.isEmpty && (match m.func with|some (g,b)=>Nat.beq g f && (b == byP)|none=>false)|none=>false)
 |none=>false
structure zlj(B:Nat)(w w':World):Prop where
 bel:Below B w w'
 size:B≤w'.heap.size
namespace zlj
variable {B:Nat}{w0 w w':World}
theorem refl(h:B≤w.heap.size):zlj B w w:=⟨Below.refl _ _,h⟩
theorem acc(h:zlj B w0 w)(k:Below w.heap.size w w'):zlj B w0 w':=⟨h.bel.trans (k.mono h.size),Nat.le_trans h.size k.size⟩
theorem tr(h:zlj B w0 w)(k:Below B w w'):zlj B w0 w':=⟨h.bel.trans k,Nat.le_trans h.size k.size⟩
theorem zp1{g:Nat}(h:zlj B w0 w)(ho:Only g w w')(hg:B≤g):zlj B w0 w':=⟨ho.below h.bel hg,by rw[ho.size];exact h.size⟩
theorem kpd{M:List Nat}(h:zlj B w0 w)(k:Kp M w w')(hM:∀ g,g∈M→B≤g):zlj B w0 w':=h.tr (k.toB hM h.size)
theorem own{base e sz m:Nat}{v:Value}{xs:List Value}(h:zlj B w0 w)(ho:zaz w base e sz v m xs)(hg:w.grownBy w' v.ownBlock)(hk:B≤base):zlj B w0 w':=h.kpd (Kp.za6 hg) fun g hm=>Nat.le_trans hk (ho.lt g (Option.mem_toList.1 hm)).1
end zlj
section
variable {md:Option Nat→Prop}{P:Program}{n:Nat}{Q:Post}{ρ:Env}{w:World}
theorem zn2{ops:Array Oper}{rest:List Oper}{d:Option Nat}{op:Op}{ty:TypeId}{pos:String}{af:Array Edge}{j:Nat}{b:Bool}(hy:yl ops ρ j=none)(h:WR md P n ops rest Q (upo ρ d undef) w):
  WR md P n ops (⟨d,op,ty,pos,af,some (j,b)⟩::rest) Q ρ w:=by
 intro hl rd a hmd ha
 simp only[List.all_cons,Bool.and_eq_true]at hl
 have hw:Region.wanted ⟨d,op,ty,pos,af,some (j,b)⟩ (yielded ops a.tmps)=false:=by
  simp only[Region.wanted,ha.yl,hy]
  simp
 unfold wpListIn
 rw[if_neg (by simp[hw])]
 exact⟨fun f _=>zjQ rd f,h hl.2 rd _ hmd (ha.put d (zh1.lt hl.1) undef)⟩
end
section
variable {P:Program}{ρ:Env}{w:World}{d:Option Nat}{ty:TypeId}{pos:String}{af:Array Edge}{gd:Option (Nat × Bool)}{K:Value→World→Prop}
def ptrT(P:Program)(t:Nat):Bool:=match P.underlying t with|some (.pointer e)=>(P.info? e).isSome|_=>false
theorem zm0{t:Nat}(h:ptrT P t=true):∃ e j,P.underlying t=some (.pointer e)∧P.info? e=some j:=by
 unfold ptrT at h
 split at h
 ·rename_i e hu
  obtain⟨j,hj⟩:=Option.isSome_iff_exists.1 h
  exact⟨e,j,hu,hj⟩
 ·cases h
theorem zj0{t:Nat}(ht:ptrT P t=true)(n:Nat)(a:Addr):(Op.equalIn (n+1) t (.pointer (some a)) (.pointer none)).run P w= .ok false w:=by
 obtain⟨e,j,h1,h2⟩:=zm0 ht
 simp[Op.equalIn,run_underlying h1,Go.sizeOf,typeInfo,h2,Result.andThen]
theorem zcY{t t':Nat}{x y:Operand}{a:Addr}(ht:ptrT P t=true)(hx:ev ρ x= .pointer (some a))(hy:ev ρ y= .pointer none):(execOp (ev ρ) ⟨d, .binOp .eql t x y t',ty,pos,af,gd⟩).run P w= .ok (.value (.bool false)) w:=by
 have:=zj0 (w:=w) ht 9999 a
 simp[execOp,hx,hy,eqGuard,binOp,Op.equal,Op.maxDepth,this,Result.andThen]
def unsafeOk(P:Program)(src dst e cells:Nat):Bool:=match P.underlying src,P.underlying dst with
 |some (.pointer t),some .unsafePointer=>(match P.info? t with|some j=>decide (j.size≠0) && liesAt P P.depth e (cells / P.cellsOf e) 0 t 1|none=>false)
 |_,_=>false
end
section
variable {P:Program}{ρ:Env}{w:World}{d:Option Nat}{ty:TypeId}{pos:String}{af:Array Edge}{gd:Option (Nat × Bool)}{K:Value→World→Prop}
def zp2(w:World)(g:Nat)(l:List UInt8)(i:Nat):Prop:=w.heap[g]?=some (.stringIter ⟨l.toArray⟩ i)
namespace zp2
variable {w w':World}{g i:Nat}{l:List UInt8}
theorem lt(h:zp2 w g l i):g<w.heap.size:=(Array.getElem?_eq_some_iff.1 h).1
theorem new(h:zp2 w g l i)(hb:Below w.heap.size w w'):zp2 w' g l i:=(hb.block g h.lt).trans h
theorem only{g':Nat}(h:zp2 w g l i)(ho:Only g' w w')(hg:g≠g'):zp2 w' g l i:=(ho.block g hg).trans h
theorem kpd{M:List Nat}(h:zp2 w g l i)(k:Kp M w w')(hg:g∉M):zp2 w' g l i:=(k.block g h.lt hg).trans h
end zp2
end
section
variable {P:Program}{ρ:Env}{w w':World}{d:Option Nat}{ty:TypeId}{pos:String}{af:Array Edge}{gd:Option (Nat × Bool)}{K:Value→World→Prop}
end
section
variable {P:Program}{ρ:Env}{w:World}{d:Option Nat}{ty:TypeId}{pos:String}{af:Array Edge}{gd:Option (Nat × Bool)}{K:Value→World→Prop}
end
section
variable {P:Program}{ρ:Env}{w:World}{d:Option Nat}{ty:TypeId}{pos:String}{af:Array Edge}{gd:Option (Nat × Bool)}
theorem zir{t e:Nat}(ht:P.underlying t=some (.slice e))(n:Nat)(p:Option Addr)(a b:Nat):(Op.equalIn (n+1) t (.slice p a b) (.slice none 0 0)).run P w= .ok p.isNone w:=by
 cases p<;>simp[Op.equalIn,run_underlying ht,Result.andThen]
theorem zfS{t t' e:Nat}{x y:Operand}{p:Option Addr}{a b:Nat}(ht:P.underlying t=some (.slice e))(hx:ev ρ x= .slice p a b)(hy:ev ρ y= .slice none 0 0):(execOp (ev ρ) ⟨d, .binOp .eql t x y t',ty,pos,af,gd⟩).run P w= .ok (.value (.bool p.isNone)) w:=by
 have:=zir (w:=w) ht 9999 p a b
 simp[execOp,hx,hy,eqGuard,binOp,Op.equal,Op.maxDepth,this,Result.andThen]
theorem zj1{t t' e:Nat}{x y:Operand}{p:Option Addr}{a b:Nat}(ht:P.underlying t=some (.slice e))(hx:ev ρ x= .slice p a b)(hy:ev ρ y= .slice none 0 0):(execOp (ev ρ) ⟨d, .binOp .neq t x y t',ty,pos,af,gd⟩).run P w= .ok (.value (.bool (!p.isNone))) w:=by
 have:=zir (w:=w) ht 9999 p a b
 simp[execOp,hx,hy,eqGuard,binOp,Op.equal,Op.maxDepth,this,Result.andThen]
theorem zhm {t e n:Nat} {x:Operand} {lo hi mx:Option Operand} {g off:Nat} (l h m k:Nat) (ht:arrayOf P t n e 1=true) (hx:ev ρ x= .pointer (some ⟨g,off,none⟩))
  (hl:ob ρ lo 0 l) (hh:ob ρ hi n h) (hm:ob ρ mx n m) (hmh:mx.isSome=true→hi.isSome=true) (h1:l≤h) (h2:h≤m) (h3:m≤n) (hk:h - l=k):
  (execOp (ev ρ) ⟨d, .slice t x lo hi mx,ty,pos,af,gd⟩).run P w= .ok (.value (.slice (some ⟨g,if m=l then off else off+l,none⟩) k (m - l))) w:=by
 subst hk
 rw[zim l h m ht hx hl hh hm hmh h1 h2 h3]
 split<;>simp
theorem zis {K:Value→World→Prop} {t t' e sz bytes:Nat} {s x:Operand} {k c g0 o0:Nat} {news:List Value} {sp:Option Addr} {z:Value} (ht:P.underlying t=some (.slice e)) (ht':t'=t)
  (hi:(P.info? e).map (fun i=>(i.zero,i.size,i.bytes))=some (some z,sz,bytes)) (hzs:z.cells.size=sz) (hsz:0<sz) (hs:ev ρ s= .slice (some ⟨g0,o0,none⟩) 0 0) (hg0:g0<w.heap.size)
  (hx:ev ρ x= .slice sp k c) (hsrc:zaS w sp k sz news) (h63:k≤maxLen) (hbytes:k*bytes≤140737488355328)
  (h:∀ g o c' w',zaS w' (some ⟨g,o,none⟩) k sz news→(g=g0∨w.heap.size≤g)→g<w'.heap.size→k≤c'→Below w.heap.size w w'→K (.slice (some ⟨g,o,none⟩) k c') w'):Mk P ρ w ⟨d, .call ⟨.builtin .append,#[s,x],#[t,t']⟩,ty,pos,af,gd⟩ K:=by
 subst ht'
 obtain⟨i,hq,hzz⟩:=Option.map_eq_some_iff.1 hi
 simp only[Prod.mk.injEq]at hzz
 obtain⟨hz,hsize,hby⟩:=hzz
 by_cases hk:k=0
 ·subst hk
  obtain rfl:news=[]:=List.eq_nil_of_length_eq_zero (by simpa using hsrc.len)
  have hrun:(Builtin.append_ #[t',t'] ty #[.slice (some ⟨g0,o0,none⟩) 0 0, .slice sp 0 c]).run P w= .ok (.slice (some ⟨g0,o0,none⟩) 0 0) w:=by
   cases sp with
   |none=>simp[Builtin.append_,run_underlying ht,Go.sizeOf,typeInfo,hq,Builtin.lenOf,Builtin.firstCells,storeCells,Result.andThen]
   |some a=>simp[Builtin.append_,run_underlying ht,Go.sizeOf,typeInfo,hq,Builtin.lenOf,Builtin.firstCells,loadCells,loadCellsFrom,storeCells,Result.andThen]
  refine⟨_,w,?_,h g0 o0 0 w ⟨ay,Nat.zero_le _,fun h=>ae⟩ (.inl rfl) hg0 (Nat.le_refl _) (Below.refl _ _)⟩
  simp[execOp,resolve,invoke,builtin,hs,hx,hrun,Result.andThen]
 ·have hk:=Nat.pos_of_ne_zero hk
  obtain⟨g1,o1,rfl,_⟩:=hsrc.some (Nat.mul_pos hk hsz)
  obtain⟨v',w',hr,h2,h3⟩:=run_append_arg_grows (P:=P) (w:=w) t' ty e i z sz bytes ht hq hz hsize hby hzs hsz ⟨g0,o0,none⟩ 0 0 [] ay (fun j u hu=>by simp at hu) ⟨g1,o1,none⟩ k c news hsrc.len
   (fun j u hu=>by rw[Addr.add_lit];exact hsrc.cell j hu) ae ae (by rw[Nat.zero_add];exact hbytes)
  rw[Nat.zero_add,List.nil_append]at h2
  have ho:=zdm h2
  obtain⟨g,o,c',rfl,hb,hlt,hcc⟩:=ho.form' hk
  refine⟨_,w',?_,h g o c' w' ho.sl (.inr hb) hlt hcc ⟨h3.os,h3.tape,h3.output,h3.size,fun k hk=>h3.block k hk ay⟩⟩
  simp[execOp,resolve,invoke,builtin,hs,hx,hr,Result.andThen]
theorem row.slZ{g t:Nat}{L:List UInt8}(h:row w g (bv L) t)(o k:Nat)(ho:o+k≤L.length)(hm:k≤maxLen):zaS w (some ⟨g,if o+k=o then 0 else 0+o,none⟩) k 1 (bv ((L.drop o).take k)):=by
 by_cases hk:k=0
 ·subst hk
  exact⟨by simp[bv],Nat.zero_le _,fun h=>ae⟩
 ·rw[if_neg ae,Nat.zero_add]
  exact h.slB o k ho hm
theorem zfT{t i:Nat}{x:Operand}(v:Value)(cs:List Value)(hx:ev ρ x=v)(hb:P.built t [(i,v)]=some cs.toArray):(execOp (ev ρ) ⟨d, .build t #[(i,x)],ty,pos,af,gd⟩).run P w= .ok (.value (.agg cs.toArray)) w:=by
 have:=run_build (P:=P) w t #[(i,v)] cs.toArray bn
 simp only[execOp,List.map_toArray,List.map_cons,List.map_nil,hx,Sem.run_bind,this,Result.andThen_ok]
 rfl
theorem zfU{t i j:Nat}{x y:Operand}(v u:Value)(cs:List Value)(hx:ev ρ x=v)(hy:ev ρ y=u)(hb:P.built t [(i,v),(j,u)]=some cs.toArray):(execOp (ev ρ) ⟨d, .build t #[(i,x),(j,y)],ty,pos,af,gd⟩).run P w= .ok (.value (.agg cs.toArray)) w:=by
 have:=run_build (P:=P) w t #[(i,v),(j,u)] cs.toArray bn
 simp only[execOp,List.map_toArray,List.map_cons,List.map_nil,hx,hy,Sem.run_bind,this,Result.andThen_ok]
 rfl
end
end Coup
namespace Go.Proofs.YtdbogkndglbffaaGreat
open Go Go.RowKit Coup
structure View where
 kind:Nat
 next:Nat
 slots:List (Option (List UInt8))
def u8(n:Nat):UInt8:=UInt8.ofNat n
theorem zn3{n:Nat}(h:n<256):(u8 n).toNat=n:=by unfold u8;rw[UInt8.toNat_ofNat'];omega
def be2(n:Nat):List UInt8:=[u8 (n / 256),u8 (n % 256)]
def be4(n:Nat):List UInt8:=[u8 (n / 16777216),u8 (n / 65536 % 256),u8 (n / 256 % 256),u8 (n % 256)]
def bod(s:Option (List UInt8)):List UInt8:=s.getD []
def zdH:List (Option (List UInt8))→List UInt8
 |[]=>[]
 |s::S=>zdH S++bod s
def zbF:List (Option (List UInt8))→Nat
 |[]=>0
 |s::S=>(bod s).length+zbF S
theorem zfV:∀ S,(zdH S).length=zbF S
 |[]=>rfl
 |s::S=>by rw[zdH,List.length_append,zfV S,zbF];omega
theorem zgo:∀ S s,zdH (S++[s])=bod s++zdH S
 |[],s=>by simp[zdH]
 |t::S,s=>by simp[zdH,zgo S s]
theorem zdn:∀ S T,zbF (S++T)=zbF S+zbF T
 |[],T=>by simp[zbF]
 |s::S,T=>by simp[zbF,zdn S T];omega
def ent(e:Nat):Option (List UInt8)→List UInt8
 |none=>[0,0,0,0]
 |some r=>be2 (e - r.length)++be2 r.length
theorem zn4(e:Nat)(s:Option (List UInt8)):(ent e s).length=4:=by cases s<;>rfl
def zhn:Nat→List (Option (List UInt8))→List UInt8
 |_,[]=>[]
 |e,s::S=>ent e s++zhn (e - (bod s).length) S
theorem zdN:∀ e S,(zhn e S).length=4*S.length
 |_,[]=>rfl
 |e,s::S=>by rw[zhn,List.length_append,zn4,zdN _ S,List.length_cons];omega
theorem zho:∀ e S s,zhn e (S++[s])=zhn e S++ent (e - zbF S) s
 |e,[],s=>by simp[zhn,zbF]
 |e,t::S,s=>by
  simp only[List.cons_append,zhn,zho _ S s,zbF,List.append_assoc]
  rw[show e - (bod t).length - zbF S=e - ((bod t).length+zbF S) by omega]
def zb3(V:View):Nat:=12+4*V.slots.length+zbF V.slots
def zcs(V:View)(e:List UInt8):List UInt8:=[u8 V.kind,0]++be2 V.slots.length++e++[0,0]++be4 V.next
def zcU(V:View)(e:List UInt8)(S:List (Option (List UInt8))):List UInt8:=zcs V e++zhn 512 S++List.replicate (500 - 4*S.length - zbF S) 0++zdH S
def zay(V:View):List UInt8:=zcU V (be2 (512 - zbF V.slots)) V.slots
theorem zfW{V:View}{e:List UInt8}{S:List (Option (List UInt8))}(he:e.length=2)(h:12+4*S.length+zbF S≤512):(zcU V e S).length=512:=by
 simp[zcU,zcs,be2,be4,zdN,zfV,he];omega
structure Good(V:View):Prop where
 kind:V.kind≤4
 next:V.next<2147483648
 size:zb3 V≤512
 cell:∀ r,some r∈V.slots→r.length≤400
 last:V.slots.getLast?≠some none
theorem zn5{V:View}{e:List UInt8}(he:e.length=2){S:List (Option (List UInt8))}{i:Nat}(h:i<12):(zcU V e S)[i]?=(zcs V e)[i]?:=by
 unfold zcU
 have hl:(zcs V e).length=12:=by simp[zcs,be2,be4,he]
 rw[List.append_assoc,List.append_assoc,List.getElem?_append_left ae]
theorem get_ent(V:View)(e:List UInt8)(he:e.length=2)(S T:List (Option (List UInt8)))(s:Option (List UInt8))(k:Nat)(hk:k<4):
  (zcU V e (S++s::T))[12+4*S.length+k]?=(ent (512 - zbF S) s)[k]?:=by
 have hl:(zcs V e).length=12:=by simp[zcs,be2,be4,he]
 have hd:∀ (S:List (Option (List UInt8))) (e:Nat),zhn e (S++s::T)=zhn e S++(ent (e - zbF S) s++zhn (e - zbF S - (bod s).length) T):=by
  intro S
  induction S with
  |nil=>intro e;simp[zhn,zbF]
  |cons t S ih=>
   intro e
   simp only[List.cons_append,zhn,ih,zbF,List.append_assoc]
   rw[show e - (bod t).length - zbF S=e - ((bod t).length+zbF S) by omega]
 unfold zcU
 rw[hd,List.append_assoc,List.append_assoc,List.getElem?_append_right ae,hl,show 12+4*S.length+k - 12=4*S.length+k by omega,
  List.append_assoc,List.getElem?_append_right (by rw[zdN];omega),zdN,show 4*S.length+k - 4*S.length=k by omega,List.append_assoc,List.getElem?_append_left (by rw[zn4];exact hk)]
theorem get_rec(V:View)(e:List UInt8)(he:e.length=2)(S T:List (Option (List UInt8)))(r:List UInt8)(hs:12+4*(S++some r::T).length+zbF (S++some r::T)≤512):
  ((zcU V e (S++some r::T)).drop (512 - zbF S - r.length)).take r.length=r:=by
 have hl:(zcs V e).length=12:=by simp[zcs,be2,be4,he]
 have ht:∀ (S:List (Option (List UInt8))),zdH (S++some r::T)=zdH T++(r++zdH S):=by
  intro S
  induction S with
  |nil=>simp[zdH,bod]
  |cons t S ih=>simp[zdH,ih]
 have hls:zbF (S++some r::T)=zbF S+(r.length+zbF T):=by rw[zdn];rfl
 rw[hls]at hs
 unfold zcU
 rw[ht,hls]
 have hd:(zhn 512 (S++some r::T)).length=4*(S.length+(T.length+1)):=by rw[zdN];simp
 have hA:(zcs V e++zhn 512 (S++some r::T)++List.replicate (500 - 4*(S++some r::T).length - (zbF S+(r.length+zbF T))) 0++zdH T).length=512 - zbF S - r.length:=by
  rw[List.length_append,List.length_append,List.length_append,hl,hd,List.length_replicate,zfV]
  simp at hs ⊢;omega
 rw[←List.append_assoc (bs:=zdH T),List.drop_left' hA,List.take_left]
theorem zm1{α:Type}(A B C D:List α)(h:B.length=D.length):(A++B++C).take A.length++D++(A++B++C).drop (A.length+D.length)=A++D++C:=by
 have e1:(A++B++C).take A.length=A:=by rw[List.append_assoc,List.take_left]
 have e2:(A++B++C).drop (A.length+D.length)=C:=by rw[←h,←List.length_append,List.drop_left]
 rw[e1,e2]
theorem set4(A Z:List UInt8)(x0 x1 x2 x3 a b c d:UInt8)(n:Nat)(h:n=A.length):
  ((((A++x0::x1::x2::x3::Z).set n a).set (n+1) b).set (n+2) c).set (n+3) d=A++a::b::c::d::Z:=by
 subst h
 rw[List.set_append_right _ _ ae,List.set_append_right _ _ ae,List.set_append_right _ _ ae,List.set_append_right _ _ ae]
 rw[Nat.sub_self,show A.length+1 - A.length=1 by omega,show A.length+2 - A.length=2 by omega,show A.length+3 - A.length=3 by omega]
 rfl
theorem rep4(n:Nat)(h:4≤n):List.replicate n (0:UInt8)=0::0::0::0::List.replicate (n - 4) 0:=by
 obtain⟨m,rfl⟩:∃ m,n=m+4:=⟨n - 4,ae⟩
 rfl
theorem zhp{V:View}{e:List UInt8}(he:e.length=2):(zcs V e).length=12:=by simp[zcs,be2,be4,he]
theorem zm2(V:View)(e:List UInt8)(S:List (Option (List UInt8)))(h:12+4*(S.length+1)+zbF S≤512):zcU V e (S++[none])=zcU V e S:=by
 unfold zcU
 rw[zho,zgo,zdn,List.length_append]
 show zcs V e++(zhn 512 S++[0,0,0,0])++List.replicate (500 - 4*(S.length+1) - (zbF S+(0+0))) 0++([]++zdH S)=_
 rw[List.nil_append,rep4 (500 - 4*S.length - zbF S) ae,show 500 - 4*S.length - zbF S - 4=500 - 4*(S.length+1) - (zbF S+(0+0)) by omega]
 simp only[List.append_assoc,List.cons_append,List.nil_append]
def midB(V:View)(e:List UInt8)(S:List (Option (List UInt8)))(r:List UInt8):List UInt8:=
 zcs V e++zhn 512 S++List.replicate (500 - 4*S.length - zbF S - r.length) 0++(r++zdH S)
theorem zn6(V:View)(e:List UInt8)(he:e.length=2)(S:List (Option (List UInt8)))(r:List UInt8)(h:12+4*S.length+zbF S+r.length≤512):
  (zcU V e S).take (512 - zbF S - r.length)++(r++(zcU V e S).drop (512 - zbF S - r.length+r.length))=midB V e S r:=by
 have e1:zcU V e S=(zcs V e++zhn 512 S++List.replicate (500 - 4*S.length - zbF S - r.length) 0)++List.replicate r.length 0++zdH S:=by
  unfold zcU
  rw[show 500 - 4*S.length - zbF S=(500 - 4*S.length - zbF S - r.length)+r.length by omega,←List.replicate_append_replicate,Nat.add_sub_cancel]
  simp only[List.append_assoc]
 have hl:(zcs V e++zhn 512 S++List.replicate (500 - 4*S.length - zbF S - r.length) (0:UInt8)).length=512 - zbF S - r.length:=by
  rw[List.length_append,List.length_append,zhp he,zdN,List.length_replicate];omega
 have h2:=zm1 (zcs V e++zhn 512 S++List.replicate (500 - 4*S.length - zbF S - r.length) 0) (List.replicate r.length 0) (zdH S) r (by rw[List.length_replicate])
 rw[hl,←e1]at h2
 rw[←List.append_assoc,h2,midB]
 simp only[List.append_assoc]
theorem mid_len(V:View)(e:List UInt8)(he:e.length=2)(S:List (Option (List UInt8)))(r:List UInt8)(h:12+4*S.length+zbF S+r.length≤512):(midB V e S r).length=512:=by
 rw[midB,List.length_append,List.length_append,List.length_append,List.length_append,zhp he,zdN,List.length_replicate,zfV];omega
theorem zm3(V:View)(e:List UInt8)(he:e.length=2)(S:List (Option (List UInt8)))(r:List UInt8)(h:12+4*(S.length+1)+zbF S+r.length≤512)(a b c d:UInt8)(ha:[a,b,c,d]=ent (512 - zbF S) (some r)):
  ((((midB V e S r).set (12+4*S.length) a).set (12+4*S.length+1) b).set (12+4*S.length+2) c).set (12+4*S.length+3) d=zcU V e (S++[some r]):=by
 have e1:midB V e S r=(zcs V e++zhn 512 S)++0::0::0::0::(List.replicate (500 - 4*S.length - zbF S - r.length - 4) 0++(r++zdH S)):=by
  rw[midB,rep4 _ ae]
  simp only[List.append_assoc,List.cons_append]
 rw[e1,set4 _ _ _ _ _ _ _ _ _ _ _ (by rw[List.length_append,zhp he,zdN])]
 unfold zcU
 rw[zho,zgo,zdn,List.length_append,←ha]
 show _=zcs V e++(zhn 512 S++[a,b,c,d])++List.replicate (500 - 4*(S.length+1) - (zbF S+(r.length+0))) 0++(r++zdH S)
 rw[show 500 - 4*S.length - zbF S - r.length - 4=500 - 4*(S.length+1) - (zbF S+(r.length+0)) by omega]
 simp only[List.append_assoc,List.cons_append,List.nil_append]
theorem zn7(V:View)(S:List (Option (List UInt8)))(a b:UInt8):((zcU V [0,0] S).set 4 a).set 5 b=zcU V [a,b] S:=by
 simp only[zcU,zcs,be2,be4,List.append_assoc,List.cons_append,List.nil_append]
 rfl
theorem zn8(L r:List UInt8)(k:Nat):splice (bv L) k (bv r)=bv (L.take k++(r++L.drop (k+r.length))):=by
 simp only[splice,bv,List.map_append,List.map_take,List.map_drop,List.length_map,List.append_assoc]
structure zba(w:World)(lo:Nat)(o:List Nat)(vs:List Value)(S:List (Option (List UInt8))):Prop where
 len:vs.length=S.length
 no:∀ (i:Nat),S[i]?=some none→vs[i]?=some (.slice none 0 0)
 yes:∀ (i:Nat) r,S[i]?=some (some r)→∃ b off c,vs[i]?=some (.slice (some ⟨b,off,none⟩) r.length c)∧zaS w (some ⟨b,off,none⟩) r.length 1 (bv r)∧b<w.heap.size∧b∉o∧lo≤b∧r.length≤c
namespace zba
variable {w w':World}{lo:Nat}{o:List Nat}{vs:List Value}{S:List (Option (List UInt8))}
theorem nil(w:World)(lo:Nat)(o:List Nat):zba w lo o [] []:=⟨rfl,fun i h=>by simp at h,fun i r h=>by simp at h⟩
theorem kp{M:List Nat}(h:zba w lo o vs S)(k:Kp M w w')(hM:∀ g,g∈M→w.heap.size≤g∨g∈o∨g<lo):zba w' lo o vs S:=⟨h.len,h.no,fun i r hr=>by
 obtain⟨b,off,c,h1,h2,h3,h4,h5⟩:=h.yes i r hr
 refine⟨b,off,c,h1,h2.kpd k fun b' o' e hm=>?_,Nat.lt_of_lt_of_le h3 k.size,h4,h5⟩
 cases e
 rcases hM b hm with e|e|e
 ·omega
 ·exact h4 e
 ·omega⟩
theorem new(h:zba w lo o vs S)(hb:Below w.heap.size w w'):zba w' lo o vs S:=h.kp (M:=[]) (Kp.of_below hb) ay
theorem avoid{o':List Nat}(h:zba w lo o vs S)(ho:∀ g,g∈o'→g∈o∨w.heap.size≤g∨g<lo):zba w lo o' vs S:=⟨h.len,h.no,fun i r hr=>by
 obtain⟨b,off,c,h1,h2,h3,h4,h5⟩:=h.yes i r hr
 refine⟨b,off,c,h1,h2,h3,fun hm=>?_,h5⟩
 rcases ho b hm with e|e|e
 ·exact h4 e
 ·omega
 ·omega⟩
theorem only{g:Nat}(h:zba w lo o vs S)(ho:Only g w w')(hg:g<lo∨g∈o):zba w' lo o vs S:=h.kp (Kp.zaZ ho) (fun g' hm=>by
 have:g'=g:=by simpa using hm
 subst this
 exact hg.elim (fun e=>Or.inr (Or.inr e)) fun e=>Or.inr (Or.inl e))
theorem kpd{M:List Nat}(h:zba w lo o vs S)(k:Kp M w w')(hM:∀ g,g∈M→g<lo∨g∈o):zba w' lo o vs S:=h.kp k fun g hm=>(hM g hm).elim (fun e=>Or.inr (Or.inr e)) fun e=>Or.inr (Or.inl e)
end zba
theorem orN{a b:Int}(s:Nat)(q:Int)(ha:0≤a)(hq:a=q*2 ^ s)(hb:0≤b∧b<2 ^ s)(hs:a+b<9223372036854775808):((BitVec.ofInt 64 a |||BitVec.ofInt 64 b).toNat:Int)=a+b:=by
 have h:=orU (a:=a) (b:=b) s q ⟨ha,ae⟩ hq hb ae
 have hlt:=(BitVec.ofInt 64 a |||BitVec.ofInt 64 b).isLt
 have e:IntKind.u64.wrap ((BitVec.ofInt 64 a |||BitVec.ofInt 64 b).toNat:Int)=((BitVec.ofInt 64 a |||BitVec.ofInt 64 b).toNat:Int):=wu64 ae
 exact e.symm.trans h
theorem orI{a b:Int}(s:Nat)(q:Int)(ha:0≤a)(hq:a=q*2 ^ s)(hb:0≤b∧b<2 ^ s)(hs:a+b<9223372036854775808):IntKind.i64.wrap ((BitVec.ofInt IntKind.i64.bits a |||BitVec.ofInt IntKind.i64.bits b).toNat:Int)=a+b:=by
 have h:=orN s q ha hq hb hs
 show IntKind.i64.wrap ((BitVec.ofInt 64 a |||BitVec.ofInt 64 b).toNat:Int)=a+b
 rw[h,w64 ae]
set_option maxRecDepth 20000 in
theorem two35(p:Option Addr)(n c:Nat)(a b:UInt8)(w:World)(hn:n=2)(h:zaS w p n 1 (bv [a,b])):Calls Tryz.prog 145 [.slice p n c].toArray w (Ret fun v w'=>v= .int .i64 (256*(a.toNat:Int)+b.toNat)∧Below w.heap.size w w'):=by
 have hB:=Below.refl w.heap.size w
 subst hn
 have ha:=a.toNat_lt
 have hb:=b.toNat_lt
 obtain⟨g,o,rfl,hg⟩:=h.some ae
 refine zax (fn:=Tryz.f145) (rs:=[.tmp 2]) (n:=13) Tryz.func145 rfl rfl Tryz.ntmps145 aa rfl (zah (zaa (zad (zac) (zae (zaf (zah (za3 [] aa ?_)))))))
 intro w901 hb901 hS901
 replace hB:=hB.acc hb901
 have hB_d901:=hB
 refine zas 0 (zab) (zas 1 (zaN (e:=5) aa rfl rfl (0) ae ae) (zbo 2 (fun w' hS'=>zaG rfl (Ld.sl1 (h.below (hB_d901.kpd hS' ah) (Nat.le_refl _)) aa (show(bv [a,b])[0]?=some (.int .u8 (a.toNat:Int))from rfl))) (zas 3 (zbM (k:=.i64) aa aa rfl (Coup.w64 ae)) (zas 4 (zl4 rfl rfl ae (show IntKind.i64.wrap ((a.toNat:Int)*2 ^ 8)=256*(a.toNat:Int) by rw[w64 ae];omega)) (zas 5 (zab) (zas 6 (zaN (e:=5) aa rfl rfl (1) ae ae) (zbo 7 (fun w' hS'=>zaG rfl (Ld.sl1 (h.below (hB_d901.kpd hS' ah) (Nat.le_refl _)) aa (show(bv [a,b])[1]?=some (.int .u8 (b.toNat:Int))from rfl))) (zas 8 (zbM (k:=.i64) aa aa rfl (Coup.w64 ae)) (zas 9 (zpY rfl rfl (orI 8 a.toNat ae ae ae ae)) (zas 10 (zac) (zaI aa (zaf (zaF (zan [_] ⟨rfl,trivial⟩ ?_))))))))))))))
 exact⟨rfl,hB⟩
theorem zeG{S:List (Option (List UInt8))}{i:Nat}{s:Option (List UInt8)}(h:S[i]?=some s):zbF (S.take (i+1))=zbF (S.take i)+(bod s).length:=by
 rw[List.take_add_one,h,zdn]
 simp[zbF]
theorem zdx(S:List (Option (List UInt8)))(i:Nat):zbF (S.take i)≤zbF S:=by
 have:=zdn (S.take i) (S.drop i)
 rw[List.take_append_drop]at this
 omega
theorem zba.val{w:World}{lo:Nat}{o:List Nat}{vs:List Value}{S:List (Option (List UInt8))}(h:zba w lo o vs S){i:Nat}{s:Option (List UInt8)}(hs:S[i]?=some s):
  ∃ p c,vs[i]?=some (.slice p (bod s).length c)∧zaS w p (bod s).length 1 (bv (bod s))∧(s=none↔p=none)∧(bod s).length≤c∧∀ b o,p=some ⟨b,o,none⟩→lo≤b:=by
 cases s with
 |none=>exact⟨none,0,h.no i hs,zaS.nil _ _ _,ay,Nat.le_refl _,fun b o e=>by cases e⟩
 |some r=>
  obtain⟨b,off,c,h1,h2,_,_,h5,h6⟩:=h.yes i r hs
  exact⟨_,c,h1,h2,ay,h6,fun b o e=>by cases e;exact h5⟩
set_option maxRecDepth 20000 in
set_option maxHeartbeats 1000000 in
theorem size25(V:View)(p:Option Addr)(c:Nat)(vs:List Value)(w:World)(lo:Nat)(o:List Nat)(h:zaS w p V.slots.length 1 vs)(hs:zba w lo o vs V.slots)(hb:zb3 V≤1000000):
   Calls Tryz.prog 146 [.agg #[.int .i64 (V.kind:Int), .int .i64 (V.next:Int), .slice p V.slots.length c]].toArray w (Ret fun v w'=>v= .int .i64 (zb3 V:Int)∧Below w.heap.size w w'):=by
 have hB:=Below.refl w.heap.size w
 have hml:maxLen=9223372036854775807:=by decide
 obtain⟨S,hS⟩:∃ S,V.slots=S:=⟨_,rfl⟩
 have hz:zb3 V=12+4*S.length+zbF S:=by rw[zb3,hS]
 rw[hz]at hb ⊢
 rw[hS]at h hs ⊢
 refine zax (fn:=Tryz.f146) (rs:=[.tmp 2]) (n:=24) Tryz.func146 rfl rfl Tryz.ntmps146 aa rfl (zah (zaa (zaD rfl (za4 ([_,_,_]) rfl (fun g1 w1 hg1 hr1 hb1=>?_)))))
 replace hB:=hB.acc hb1
 refine zad (zac) (zae (zaf (zah (zaa (zad (zaw 2) (zad (zau hr1) (zad (zaB (e:=33) (sz:=1) aa rfl rfl) (zad (zdv rfl rfl (Coup.w64 ae)) (zad (zaO rfl rfl (Coup.w64 ae)) (zad (zac) (zae (zaf (zah (zah (zaa (zad (zaw 2) (zad (zau hr1) (zad (zaB (e:=33) (sz:=1) aa rfl rfl) (zad (zab) (zae (zaf (zav ?_))))))))))))))))))))))
 refine zbq (α:=Nat) 0 (fun k=>[(14, .int .i64 (k:Nat)),(13, .int .i64 (S.length:Nat)),(12, .slice p S.length c),(3, .int .i64 ((12+4*S.length+zbF (S.take k):Nat):Int))]) (fun k w'=>k≤S.length∧Below w.heap.size w w') (fun k=>S.length - k)
   ⟨rfl,rfl,rfl,vi (by simp[zbF]),rfl⟩ ⟨Nat.zero_le _,hB⟩ ?_
 rintro i f wr ⟨hi,hB⟩
 have hlt1:=zdx S i
 refine zah (zaa (zad (zaY rfl rfl) (zae (zaf (zah (za0 rfl (fun hlt=>?_) (fun hlt=>?_)))))))
 ·
  refine bL ?_
  have hobt:∃ s,S[i]?=some s:=⟨_,List.getElem?_eq_getElem ae⟩
  obtain⟨s,hsi⟩:=hobt
  have hvv:=hs.val hsi
  obtain⟨q,cq,hv,hq,hqn,-⟩:=hvv
  have hobt:=h.some ae
  obtain⟨g,off,rfl,hg⟩:=hobt
  have hsn:=zeG hsi
  have hlt2:=zdx S (i+1)
  refine zaa (zad (zaN (e:=33) aa rfl rfl (i) ae ae) (zad (zaG rfl (Ld.sl1 (h.below hB (Nat.le_refl _)) aa hv)) (zad (zac) (zae (zaf (zaa (zad (zab) (zad (zab) (zad (zaB (e:=5) (sz:=1) aa rfl rfl) (zad (zaO rfl rfl (Coup.w64 ae)) (zad (zac) (zae (zaP (zaf (zaa (zad (zaO rfl rfl (Coup.w64 ae)) (zad (zab) (zae (za2 ⟨i+1,ae,⟨rfl,rfl,rfl,vi ae,rfl⟩,ae,hB⟩)))))))))))))))))))
 ·
  obtain rfl:i=S.length:=by omega
  rw[List.take_of_length_le (Nat.le_refl _)]
  refine zbh (zbC (zbH (zbl (zaf (zah (zaa (zad (zab) (zad (zac) (zae (zaf (zaF (zan [_] ⟨rfl,trivial⟩ ?_))))))))))))
  exact⟨rfl,hB⟩
set_option maxRecDepth 20000 in
theorem nil37(q:Option Addr)(n c:Nat)(w:World):Calls Tryz.prog 177 [.slice q n c].toArray w (Ret fun v w'=>v= .bool q.isNone∧w=w'):=by
 refine zax (fn:=Tryz.f177) (rs:=[.tmp 2]) (n:=5) Tryz.func177 rfl rfl Tryz.ntmps177 aa rfl (zah (zaa (zad (zac) (zae (zaf (zah (zaa (zad (zab) (zad (zfS (e:=5) aa rfl rfl) (zad (zac) (zae (zaf (zaF (zan [_] ⟨rfl,trivial⟩ ?_))))))))))))))
 exact⟨rfl,rfl⟩
def zh2(S:List (Option (List UInt8)))(i:Int):Bool:=decide (0≤i) && (S.getD i.toNat none).isSome
set_option maxRecDepth 20000 in
set_option maxHeartbeats 1000000 in
theorem zp3(V:View)(p:Option Addr)(c:Nat)(vs:List Value)(k:Int)(w:World)(lo:Nat)(o:List Nat)(h:zaS w p V.slots.length 1 vs)(hs:zba w lo o vs V.slots):
   Calls Tryz.prog 98 [.agg #[.int .i64 (V.kind:Int), .int .i64 (V.next:Int), .slice p V.slots.length c], .int .i64 k].toArray w (Ret fun v w'=>v= .bool (zh2 V.slots k)∧Below w.heap.size w w'):=by
 have hB:=Below.refl w.heap.size w
 obtain⟨S,hS⟩:∃ S,V.slots=S:=⟨_,rfl⟩
 rw[hS]at h hs ⊢
 refine zax (fn:=Tryz.f98) (rs:=[.tmp 4]) (n:=22) Tryz.func98 rfl rfl Tryz.ntmps98 aa rfl (zah (zaa (zaD rfl (za4 ([_,_,_]) rfl (fun g2 w2 hg2 hr2 hb2=>?_)))))
 replace hB:=hB.acc hb2
 refine zad (zac) (zae (zaf (zah (zaa (zad (zab) (zad (zcH rfl rfl) (zad (zab) (zbI 7 rfl (fun h0=>?_) (fun h0=>?_)))))))))
 ·
  refine zaq rfl (zad (zab) (zaq rfl (zad (zaw 2) (zaq rfl (zad (zau hr2) (zaq rfl (zad (zaB (e:=33) (sz:=1) aa rfl rfl) (zaq rfl (zad (zaY rfl rfl) (zad (zaC rfl) (zad (zab) (zbI 14 rfl (fun h1=>?_) (fun h1=>?_)))))))))))))
  ·
   refine zaq rfl (zad (zaw 2) (zaq rfl (zad (zau hr2) (zaq rfl (zad (zab) (zaq rfl ?_))))))
   have hobt:∃ i:Nat,k=i:=⟨k.toNat,ae⟩
   obtain⟨i,rfl⟩:=hobt
   have hobt:∃ s,S[i]?=some s:=⟨_,List.getElem?_eq_getElem ae⟩
   obtain⟨s,hsi⟩:=hobt
   have hvv:=hs.val hsi
   obtain⟨q,cq,hv,hq,hqn,-⟩:=hvv
   have hobt:=h.some ae
   obtain⟨g,off,rfl,hg⟩:=hobt
   refine zad (zaN (e:=33) aa rfl rfl (i) ae ae) (zaq rfl (zad (zaG rfl (Ld.sl1 (h.below hB (Nat.le_refl _)) aa hv)) (zaq rfl (zad (zj1 (e:=5) aa rfl rfl) (zad (zaC rfl) (zad (zac) (zae (zaf (zaF (zan [_] ⟨rfl,trivial⟩ (⟨vb ?_,hB⟩)))))))))))
   rw[zh2,Int.toNat_natCast,List.getD_eq_getElem?_getD,hsi,decide_eq_true ae]
   cases s<;>cases q<;>simp_all
  ·
   refine zaM rfl rfl (zaM rfl rfl (zaM rfl rfl (zaM rfl rfl (zaM rfl rfl (zaM rfl rfl (zad (zaE rfl) (zad (zac) (zae (zaf (zaF (zan [_] ⟨rfl,trivial⟩ (⟨vb ?_,hB⟩))))))))))))
   rw[zh2,List.getD_eq_getElem?_getD,List.getElem?_eq_none ae]
   simp
 ·
  refine zaM rfl rfl (zaM rfl rfl (zaM rfl rfl (zaM rfl rfl (zaM rfl rfl (zad (zaE rfl) (zad (zab) (zaM rfl rfl (zaM rfl rfl (zaM rfl rfl (zaM rfl rfl (zaM rfl rfl (zaM rfl rfl (zad (zaE rfl) (zad (zac) (zae (zaf (zaF (zan [_] ⟨rfl,trivial⟩ (⟨vb ?_,hB⟩)))))))))))))))))))
  rw[zh2,decide_eq_false ae];rfl
def zbY(S:List (Option (List UInt8))):Nat:=S.findIdx fun s=>s.isNone
theorem zp4{S:List (Option (List UInt8))}{i:Nat}(h:S[i]?=some none)(hf:i≤zbY S):zbY S=i:=by
 obtain⟨hl,he⟩:=List.getElem?_eq_some_iff.1 h
 rcases Nat.lt_or_eq_of_le hf with h1|h1
 ·have:=List.not_of_lt_findIdx h1
  rw[he]at this;simp at this
 ·exact h1.symm
theorem zp5{S:List (Option (List UInt8))}{i:Nat}{r:List UInt8}(h:S[i]?=some (some r))(hf:i≤zbY S):i+1≤zbY S:=by
 obtain⟨hl,he⟩:=List.getElem?_eq_some_iff.1 h
 rcases Nat.lt_or_eq_of_le hf with h1|h1
 ·exact h1
 ·exfalso
  have h2:zbY S<S.length:=by omega
  have:=List.findIdx_getElem (p:=fun s:Option (List UInt8)=>s.isNone) (xs:=S) (w:=h2)
  have e:S[List.findIdx (fun s:Option (List UInt8)=>s.isNone) S]'h2=some r:=by
   have h3:S[zbY S]?=some (some r):=by rw[←h1];exact h
   exact(List.getElem?_eq_some_iff.1 h3).2
  rw[e]at this;simp at this
set_option maxRecDepth 20000 in
set_option maxHeartbeats 1000000 in
theorem index36(S:List (Option (List UInt8)))(p:Option Addr)(c:Nat)(vs:List Value)(w:World)(lo:Nat)(o:List Nat)(h:zaS w p S.length 1 vs)(hs:zba w lo o vs S):
   Calls Tryz.prog 176 [.slice p S.length c, .func (.func 177) #[] #[]].toArray w (Ret fun v w'=>v= .int .i64 (if zbY S<S.length then(zbY S:Int)else -1)∧Below w.heap.size w w'):=by
 have hB:=Below.refl w.heap.size w
 have hml:maxLen=9223372036854775807:=by decide
 have hmax:=h.max
 refine zax (fn:=Tryz.f176) (rs:=[.tmp 4]) (n:=19) Tryz.func176 rfl rfl Tryz.ntmps176 aa rfl (zah (zaa (zad (zac) (zae (zaf (zah (zah (zaa (zad (zab) (zad (zaB (e:=33) (sz:=1) aa rfl rfl) (zad (zab) (zae (zaf (zav ?_))))))))))))))
 refine zbq (α:=Nat) 0 (fun k=>[(8, .int .i64 (k:Nat)),(7, .int .i64 (S.length:Nat)),(0, .slice p S.length c),(1, .func (.func 177) #[] #[])]) (fun k w'=>k≤S.length∧k≤zbY S∧Below w.heap.size w w') (fun k=>S.length - k)
   ⟨rfl,rfl,rfl,rfl,rfl⟩ ⟨Nat.zero_le _,Nat.zero_le _,hB⟩ ?_
 rintro i f wr ⟨hi,hfr,hB⟩
 refine zah (zaa (zad (zaY rfl rfl) (zae (zaf (zah (za0 rfl (fun hlt=>?_) (fun hlt=>?_)))))))
 ·
  refine bM ?_
  have hobt:∃ s,S[i]?=some s:=⟨_,List.getElem?_eq_getElem ae⟩
  obtain⟨s,hsi⟩:=hobt
  have hvv:=hs.val hsi
  obtain⟨q,cq,hv,hq,hqn,-⟩:=hvv
  have hobt:=h.some ae
  obtain⟨g,off,rfl,hg⟩:=hobt
  refine zaa (zad (zab) (zad (zab) (zad (zab) (zad (zaN (e:=33) aa rfl rfl (i) ae ae) (zad (zaG rfl (Ld.sl1 (h.below hB (Nat.le_refl _)) aa hv)) (zao rfl (zp0 aa rfl rfl) (nil37 q (bod s).length cq wr) ?_))))))
  rintro _ _ ⟨rfl,rfl⟩
  refine zae (zaf (zjT rfl (fun hq0=>?_) (fun hq0=>?_)))
  ·
   refine bN ?_
   have hs0:s=none:=by rw[hqn];cases q with|none=>rfl|some a=>simp at hq0
   rw[hs0]at hsi
   have hfi:=zp4 hsi hfr
   refine⟨?_,hB⟩
   rw[if_pos ae,hfi];rfl
  ·
   obtain⟨r,hr⟩:∃ r,s=some r:=by
    cases s with
    |none=>rw[hqn.1 rfl]at hq0;simp at hq0
    |some r=>exact⟨r,rfl⟩
   rw[hr]at hsi
   have hfg:=zp5 hsi hfr
   refine zat (zaP (zaf (zaa (zad (zaO rfl rfl (Coup.w64 ae)) (zad (zab) (zae (za2 ⟨i+1,ae,⟨rfl,rfl,rfl,rfl,rfl⟩,ae,hfg,hB⟩)))))))
 ·
  obtain rfl:i=S.length:=by omega
  refine zbh (zbC (zbH (zbl (zaf (zah (zaa (zad (zac) (zae (zaf (zaF (zan [_] ⟨rfl,trivial⟩ (⟨?_,hB⟩))))))))))))
  rw[if_neg ae];rfl
set_option maxRecDepth 20000 in
theorem free23(V:View)(p:Option Addr)(c:Nat)(vs:List Value)(w:World)(lo:Nat)(o:List Nat)(h:zaS w p V.slots.length 1 vs)(hs:zba w lo o vs V.slots):
   Calls Tryz.prog 143 [.agg #[.int .i64 (V.kind:Int), .int .i64 (V.next:Int), .slice p V.slots.length c]].toArray w (Ret fun v w'=>v= .int .i64 (zbY V.slots:Nat)∧Below w.heap.size w w'):=by
 have hB:=Below.refl w.heap.size w
 have hle:zbY V.slots≤V.slots.length:=List.findIdx_le_length
 obtain⟨S,hS⟩:∃ S,V.slots=S:=⟨_,rfl⟩
 rw[hS]at h hs hle ⊢
 obtain⟨F,hF⟩:∃ F:Int,(if zbY S<S.length then(zbY S:Int)else -1)=F:=⟨_,rfl⟩
 have hI:=index36 S p c vs
 rw[hF]at hI
 refine zax (fn:=Tryz.f143) (rs:=[.tmp 2]) (n:=13) Tryz.func143 rfl rfl Tryz.ntmps143 aa rfl (zah (zaa (zaD rfl (za4 ([_,_,_]) rfl (fun g1 w1 hg1 hr1 hb1=>?_)))))
 replace hB:=hB.acc hb1
 refine zad (zac) (zae (zaf (zah (zah (zaa (zad (zaw 2) (zad (zau hr1) (zao rfl (zaj aa rfl) (hI w1 lo o (h.below hB (Nat.le_refl _)) (hs.new hB)) ?_))))))))
 rintro _ w6 ⟨rfl,hb6⟩
 replace hr1:=hr1.new hb6
 replace hB:=hB.acc hb6
 refine zad (zac) (zae (zaf (zah (zaa (zad (zab) (zad (zcH rfl rfl) (zae (zaf (za0 rfl (fun hge=>?_) (fun hge=>?_))))))))))
 ·
  refine zah (zaa (zad (zab) (zad (zac) (zae (zaf (zaF (zaW (zan [_] ⟨rfl,trivial⟩ (⟨vi ?_,hB⟩)))))))))
  rw[←hF]at hge ⊢
  split at hge
  · rename_i h1;rw[if_pos h1]
  · omega
 ·
  refine zat (zaf (zah (zaa (zad (zaw 2) (zad (zau hr1) (zad (zaB (e:=33) (sz:=1) aa rfl rfl) (zad (zac) (zae (zaf (zaF (zan [_] ⟨rfl,trivial⟩ (⟨vi ?_,hB⟩))))))))))))
  rw[←hF]at hge
  split at hge<;>omega
theorem zdU(n:Nat):IntKind.u8.wrap (n:Int)=((u8 n).toNat:Int):=by
 rw[IntKind.wrap_u8,u8,UInt8.toNat_ofNat'];omega
theorem shrI(n:Nat){b:Int}(s:Nat)(hb:b=(s:Int))(hs:s≤64):(n:Int).fdiv (2 ^ (min b.toNat IntKind.i64.bits))=((n / 2 ^ s:Nat):Int):=by
 have:=shrN (a:=(n:Int)) s hb hs
 rw[Int.natCast_ediv,Int.natCast_pow]
 exact this
theorem zn9(n:Nat):u8 (n % 256)=u8 n:=by
 refine UInt8.toNat_inj.1 ?_
 unfold u8
 rw[UInt8.toNat_ofNat',UInt8.toNat_ofNat'];omega
theorem shrJ{a b:Int}(n s:Nat)(ha:a=(n:Int))(hb:b=(s:Int))(hs:s≤64):a.fdiv (2 ^ (min b.toNat IntKind.i64.bits))=((n / 2 ^ s:Nat):Int):=by
 subst ha;exact shrI n s hb hs
theorem zp6{a:Int}(n:Nat)(ha:a=(n:Int)):IntKind.u8.wrap a=((u8 n).toNat:Int):=by
 subst ha;exact zdU n
theorem zoa{w:World}{g k:Nat}{l:List Value}{v:Value}{t:TypeId}(h:row w g (l.set (0+k) v) t):row w g (l.set k v) t:=by rw[Nat.zero_add]at h;exact h
theorem zob(L r:List UInt8)(j k:Nat)(h:r.length=0∨j=k):splice (bv L) j (bv r)=splice (bv L) k (bv r):=by
 rcases h with h|rfl
 ·have:r=[]:=List.eq_nil_of_length_eq_zero h
  subst this
  simp[splice,bv]
 ·rfl
def zpN(L:List UInt8)(n:Nat):Nat→List UInt8
 |0=>L
 |k+1=>(zpN L n k).set (8+k) (u8 (n / 2 ^ (24 - 8*k)))
theorem zl9(L:List UInt8)(n:Nat):∀ k,(zpN L n k).length=L.length
 |0=>rfl
 |k+1=>by rw[zpN,List.length_set,zl9 L n k]
def zcZ:List UInt8:=List.replicate 512 0
theorem zb0{l:List UInt8}{i:Nat}{b:UInt8}(h:i<l.length):(bv l).set i (.int .u8 (b.toNat:Int))=bv (l.set i b):=by
 simp only[bv,List.map_set];rfl
theorem zeh:List.replicate 512 (Value.int .u8 0)=bv zcZ:=by
 rw[zcZ,bv,List.map_replicate];rfl
theorem zm4(V:View):zpN (((zcZ.set 0 (u8 V.kind)).set 2 (u8 (V.slots.length / 2 ^ 8))).set 3 (u8 V.slots.length)) V.next 4=zcU V [0,0] []:=by
 have e:zcZ=[0,0,0,0,0,0,0,0,0,0,0,0]++List.replicate 500 0:=by
  rw[zcZ,show(512:Nat)=12+500 from rfl,←List.replicate_append_replicate];rfl
 have e2:zcU V [0,0] []=zcs V [0,0]++List.replicate 500 0:=by
  simp only[zcU,zhn,zdH,zbF,List.append_nil,List.length_nil,Nat.mul_zero,Nat.sub_zero]
 rw[e,e2]
 generalize List.replicate 500 (0:UInt8)=T
 have m:∀ n:Nat,u8 (n % 256)=u8 n:=fun n=>by
  refine UInt8.toNat_inj.1 ?_
  unfold u8
  rw[UInt8.toNat_ofNat',UInt8.toNat_ofNat'];omega
 have h1:V.next / 2 ^ (24 - 8*0)=V.next / 16777216:=rfl
 have h2:V.next / 2 ^ (24 - 8*1)=V.next / 65536:=rfl
 have h3:V.next / 2 ^ (24 - 8*2)=V.next / 256:=rfl
 have h4:V.next / 2 ^ (24 - 8*3)=V.next:=by rw[show 24 - 8*3=0 from rfl,Nat.pow_zero,Nat.div_one]
 simp only[zpN,h1,h2,h3,h4,zcs,be2,be4,m]
 rfl
set_option maxRecDepth 20000 in
set_option maxHeartbeats 2000000 in
theorem zj2(V:View)(p:Option Addr)(c:Nat)(vs:List Value)(w:World)(lo:Nat)(o:List Nat)(h:zaS w p V.slots.length 1 vs)(hs:zba w lo o vs V.slots)(hk:V.kind<256)(hn:V.next<2147483648)(hz:zb3 V≤512):
   Calls Tryz.prog 144 [.agg #[.int .i64 (V.kind:Int), .int .i64 (V.next:Int), .slice p V.slots.length c]].toArray w (Ret fun v w'=>v= .agg (bv (zay V)).toArray∧Below w.heap.size w w'):=by
 have hB:=Below.refl w.heap.size w
 have hml:maxLen=9223372036854775807:=by decide
 obtain⟨Z,hZ⟩:∃ Z,zcZ=Z:=⟨_,rfl⟩
 have hZl:Z.length=512:=by rw[←hZ,zcZ,List.length_replicate]
 refine zax (fn:=Tryz.f144) (rs:=[.cell 2 62]) (n:=90) Tryz.func144 rfl rfl Tryz.ntmps144 aa rfl (zah (zaa (zaD rfl (za4 ([_,_,_]) rfl (fun g1 w1 hg1 hr1 hb1=>?_)))))
 replace hB:=hB.acc hb1
 refine zaD rfl (zar (List.replicate 512 (Value.int .u8 0)) aa (fun g2 w2 hg2 hr2 hb2=>?_))
 have ge_hB_g2:=Nat.le_trans hB.size hg2
 have lt_g1_g2:g1<g2:=Nat.lt_of_lt_of_le hr1.lt hg2
 replace hr1:=hr1.new hb2
 replace hB:=hB.acc hb2
 rw[zeh,hZ]at hr2
 refine zae (zaf (zah (zaa (zad (zaw 0) (zad (zau hr1) (zad (zbM (k:=.u8) aa aa rfl (zdU V.kind)) (zad (zbD (e:=5) (m:=512) aa rfl rfl (0) rfl ae) (zaK rfl (zbn hr2 (fun w901 hr2 ho901=>?_))))))))))
 replace hr1:=hr1.only ho901 (Nat.ne_of_lt lt_g1_g2)
 replace hB:=ho901.below hB ge_hB_g2
 replace hr2:row w901 g2 ((bv Z).set 0 (.int .u8 ((u8 V.kind).toNat:Int))) 62:=hr2
 rw[zb0 ae]at hr2
 refine zae (zaf (zah (za3 [g2] aa ?_)))
 intro w902 hb902 hS902
 replace hr1:=hr1.new hb902
 replace hr2:=hr2.new hb902
 replace hB:=hB.acc hb902
 have hr1_d902:=hr1
 refine zas 0 (zaw 2) (zbo 1 (fun w' hS'=>zau (hr1_d902.kq hS')) (zas 2 (zaB (e:=33) (sz:=1) aa rfl rfl) (zas 3 (zfb rfl rfl ae (shrI V.slots.length 8 rfl ae)) (zas 4 (zbM (k:=.u8) aa aa rfl (zdU (V.slots.length / 2 ^ 8))) (zas 5 (zaw 2) (zbo 6 (fun w' hS'=>zau (hr1_d902.kq hS')) (zas 7 (zaB (e:=33) (sz:=1) aa rfl rfl) (zas 8 (zbM (k:=.u8) aa aa rfl (zdU V.slots.length)) (zas 9 (zbD (e:=5) (m:=512) aa rfl rfl (2) rfl ae) (zaA 10 aa (zbB rfl rfl (zbn hr2 (fun w904 hr2 ho904=>?_)))))))))))))
 have hS903:=hS902.aq ho904
 refine⟨hS903,?_⟩
 replace hr1:=hr1.only ho904 (Nat.ne_of_lt lt_g1_g2)
 replace hB:=ho904.below hB ge_hB_g2
 replace hr2:row w904 g2 ((bv (Z.set 0 (u8 V.kind))).set 2 (.int .u8 ((u8 (V.slots.length / 2 ^ 8)).toNat:Int))) 62:=hr2
 rw[zb0 (by rw[List.length_set];omega)]at hr2
 refine zas 11 (zbD (e:=5) (m:=512) aa rfl rfl (3) rfl ae) (zaA 12 aa (zbB rfl rfl (zbn hr2 (fun w906 hr2 ho906=>?_))))
 have hS905:=hS903.aq ho906
 refine⟨hS905,?_⟩
 replace hr1:=hr1.only ho906 (Nat.ne_of_lt lt_g1_g2)
 replace hB:=ho906.below hB ge_hB_g2
 replace hr2:row w906 g2 ((bv ((Z.set 0 (u8 V.kind)).set 2 (u8 (V.slots.length / 2 ^ 8)))).set 3 (.int .u8 ((u8 V.slots.length).toNat:Int))) 62:=hr2
 rw[zb0 (by rw[List.length_set,List.length_set];omega)]at hr2
 refine zaI aa (zaf (zah (zah (zaa (zad (zab) (zae (zaf (zav ?_))))))))
 have hobt:∃ L,((Z.set 0 (u8 V.kind)).set 2 (u8 (V.slots.length / 2 ^ 8))).set 3 (u8 V.slots.length)=L:=⟨_,rfl⟩
 obtain⟨L1,hL1⟩:=hobt
 have hL1l:L1.length=512:=by rw[←hL1,List.length_set,List.length_set,List.length_set];exact hZl
 rw[hL1]at hr2
 refine zbq (α:=Nat) 0 (fun k=>[(23, .int .i64 (k:Nat)),(1, .pointer (some ⟨g1,0,none⟩)),(2, .pointer (some ⟨g2,0,none⟩))])
   (fun k w'=>k≤4∧row w' g1 [.int .i64 (V.kind:Int), .int .i64 (V.next:Int), .slice p V.slots.length c] 155∧row w' g2 (bv (zpN L1 V.next k)) 62∧Below w.heap.size w w') (fun k=>4 - k)
   ⟨rfl,rfl,rfl,rfl⟩ ⟨Nat.zero_le _,hr1,hr2,hB⟩ ?_
 clear hr1 hr2 hB
 have hw1:w.heap.size≤g1:=by omega
 have hw2:w.heap.size≤g2:=by omega
 rintro i f wr ⟨hi,hr1,hr2,hB⟩
 have hNl:=zl9 L1 V.next i
 refine zah (zaa (zad (zaY rfl rfl) (zae (zaf (zah (za0 rfl (fun hlt=>?_) (fun hlt=>?_)))))))
 ·
  refine zat (zaf (zah (zav (zah (zaa (zad (zab) (zad (zac) (zae (zaf (zaa (zad (zab) (zad (zaO rfl rfl (Coup.w64 ae)) (zad (zaw 1) (zad (zau hr1) (zad (zab) (zad (zdv rfl rfl (Coup.w64 ae)) (zad (zcX rfl rfl (Coup.w64 ae)) (zad (zfb rfl rfl ae (shrI V.next (24 - 8*i) ae ae)) (zad (zbM (k:=.u8) aa aa rfl (zdU (V.next / 2 ^ (24 - 8*i)))) (zad (zbD (e:=5) (m:=512) aa rfl rfl (8+i) ae ae) (zaK rfl (zbn hr2 (fun w907 hr2 ho907=>?_)))))))))))))))))))))))
  replace hr1:=hr1.only ho907 (Nat.ne_of_lt lt_g1_g2)
  replace hB:=ho907.below hB ge_hB_g2
  replace hr2:row w907 g2 ((bv (zpN L1 V.next i)).set (8+i) (.int .u8 ((u8 (V.next / 2 ^ (24 - 8*i))).toNat:Int))) 62:=zoa hr2
  rw[zb0 ae]at hr2
  refine zae (zaP (zaf (zaa (zad (zaO rfl rfl (Coup.w64 ae)) (zad (zab) (zae (za2 ⟨i+1,ae,⟨rfl,rfl,rfl,rfl⟩,ae,hr1,?_,hB⟩)))))))
  exact hr2
 ·
  obtain rfl:i=4:=by omega
  have hF:zpN L1 V.next 4=zcU V [0,0] []:=by
    rw[←hL1,←hZ]
    exact zm4 V
  rw[hF]at hr2
  refine zbh (zbC (zbH (zbl (zaf (zah (zaa (zad (zac) (zae (zaf (zah (zah (zaa (zad (zaw 2) (zad (zau hr1) (zad (zaB (e:=33) (sz:=1) aa rfl rfl) (zad (zab) (zae (zaf (zav ?_)))))))))))))))))))
  refine zbq (α:=Nat) 0 (fun k=>[(40, .int .i64 (k:Nat)),(39, .int .i64 (V.slots.length:Nat)),(38, .slice p V.slots.length c),(4, .int .i64 ((512 - zbF (V.slots.take k):Nat):Int)),(1, .pointer (some ⟨g1,0,none⟩)),(2, .pointer (some ⟨g2,0,none⟩))])
    (fun k w'=>k≤V.slots.length∧row w' g2 (bv (zcU V [0,0] (V.slots.take k))) 62∧Below w.heap.size w w') (fun k=>V.slots.length - k)
    ⟨rfl,rfl,rfl,vi (by simp[zbF]),rfl,rfl,rfl⟩ ⟨Nat.zero_le _,hr2,hB⟩ ?_
  clear hr1 hr2 hB
  rintro i f wr ⟨hi,hr2,hB⟩
  have hlt1:=zdx V.slots i
  unfold zb3 at hz
  refine zah (zaa (zad (zaY rfl rfl) (zae (zaf (zah (za0 rfl (fun hlt=>?_) (fun hlt=>?_)))))))
  ·
   refine bL ?_
   have hobt:∃ s,V.slots[i]?=some s:=⟨_,List.getElem?_eq_getElem ae⟩
   obtain⟨s,hsi⟩:=hobt
   have hvv:=hs.val hsi
   obtain⟨q,cq,hv,hq,hqn,-⟩:=hvv
   have hobt:=h.some ae
   obtain⟨g,off,rfl,hg⟩:=hobt
   have hsn:=zeG hsi
   have hlt2:=zdx V.slots (i+1)
   have hts:V.slots.take (i+1)=V.slots.take i++[s]:=by rw[List.take_add_one,hsi];rfl
   have htl:(V.slots.take i).length=i:=by rw[List.length_take];omega
   refine zaa (zad (zab) (zad (zaN (e:=33) aa rfl rfl (i) ae ae) (zad (zaG rfl (Ld.sl1 (h.below hB (Nat.le_refl _)) aa hv)) (zad (zac) (zad (zac) (zae (zaf (zah (zah (zaa (zad (zab) (zad (zfS (e:=5) aa rfl rfl) (zae (zaf (zjT rfl (fun hq0=>?_) (fun hq0=>?_))))))))))))))))
   ·
    refine zbh (zbC (zbl (zaf (zaa (zad (zaO rfl rfl (Coup.w64 ae)) (zad (zab) (zae ?_)))))))
    have hs0:s=none:=by rw[hqn];cases q with|none=>rfl|some a=>simp at hq0
    subst hs0
    rw[show(bod none).length=0 from rfl]at hsn
    have hpn:=zm2 V [0,0] (V.slots.take i) bE
    rw[←hts]at hpn
    rw[←hpn]at hr2
    refine za2 ⟨i+1,ae,⟨rfl,rfl,rfl,vi ae,rfl,rfl,rfl⟩,ae,hr2,hB⟩
   ·
    obtain⟨r,rfl⟩:∃ r,s=some r:=by
      cases s with
      |none=>rw[hqn.1 rfl]at hq0;simp at hq0
      |some r=>exact⟨r,rfl⟩
    have hobt:=hs.yes i r hsi
    obtain⟨b,ob,cb,hv1,hsb,hbl,-⟩:=hobt
    obtain⟨rfl,-,rfl⟩:q=some ⟨b,ob,none⟩∧(bod (some r)).length=r.length∧cq=cb:=by
      have:=Option.some.inj (hv.symm.trans hv1)
      injection this with e1 e2 e3
      exact⟨e1,e2,e3⟩
    rw[show(bod (some r)).length=r.length from rfl]at hsn ⊢
    have hobt:∃ E,512 - zbF (V.slots.take i) - r.length=E:=⟨_,rfl⟩
    obtain⟨E,hE⟩:=hobt
    have hmid:=zn6 V [0,0] rfl (V.slots.take i) r bE
    have hmidl:=mid_len V [0,0] rfl (V.slots.take i) r bE
    have hset:=zm3 V [0,0] rfl (V.slots.take i) r bE (u8 (E / 2 ^ 8)) (u8 E) (u8 (r.length / 2 ^ 8)) (u8 r.length) (by rw[←zn9 E,←zn9 r.length,←hE];rfl)
    rw[hE]at hmid
    rw[htl,←hts]at hset
    have hpl:(zcU V [0,0] (V.slots.take i)).length=512:=zfW rfl bE
    generalize midB V [0,0] (V.slots.take i) r=M at hmid hmidl hset
    refine zat (zaf (zah (zaa (zad (zab) (zad (zab) (zad (zaB (e:=5) (sz:=1) aa rfl rfl) (zad (zcX rfl rfl (Coup.w64 ae)) (zad (zac) (zae (zaf (zah (zaa (zad (zab) (zad (zhm (e:=5) E 512 512 (512 - E) aa rfl ⟨_,_,rfl,ae⟩ rfl rfl ay ae ae ae rfl) ?_))))))))))))))
    have hobt:∃ O,(if 512=E then 0 else 0+E)=O:=⟨_,rfl⟩
    obtain⟨O,hO⟩:=hobt
    have hO2:r.length=0∨O=E:=by rw[←hO];split<;>omega
    have hO3:O+r.length≤512:=by rw[←hO];split<;>omega
    rw[hO]
    refine zad (zab) (zaD rfl (znY (e:=5) aa aa rfl rfl g2 (O) hr2 (bv r) (by rw[zal];simp[Nat.min_def];omega) (fun _=>⟨rfl,_,rfl,fun j v hv=>by rw[Addr.add_lit];exact(hsb.below hB (Nat.le_refl _)).cell j hv⟩) (by rw[zal,zal,hpl];exact hO3) (zbV _) (fun w54 hr2 ho54=>?_)))
    replace hB:=ho54.below hB ge_hB_g2
    rw[zob _ _ _ _ hO2,zn8,hmid]at hr2
    refine zae (zaf (zah (zaa (zad (zab) (zad (zdv rfl rfl (Coup.w64 ae)) (zad (zaO rfl rfl (Coup.w64 ae)) (zad (zac) (zae (zaf (zaa (zad (zab) (zad (zab) (zad (zaO rfl rfl (Coup.w64 ae)) (zad (zab) (zad (zaO rfl rfl (Coup.w64 ae)) (zad (zab) (zad (zaO rfl rfl (Coup.w64 ae)) (zad (zab) (zad (zfb rfl rfl ae (shrJ E 8 ae rfl ae)) (zad (zbM (k:=.u8) aa aa rfl (zdU (E / 2 ^ 8))) (zad (zab) (zad (zbM (k:=.u8) aa aa rfl (zp6 E ae)) (zad (zab) (zad (zaB (e:=5) (sz:=1) aa rfl rfl) (zad (zfb rfl rfl ae (shrI r.length 8 rfl ae)) (zad (zbM (k:=.u8) aa aa rfl (zdU (r.length / 2 ^ 8))) (zad (zab) (zad (zaB (e:=5) (sz:=1) aa rfl rfl) (zad (zbM (k:=.u8) aa aa rfl (zdU r.length)) (zad (zbD (e:=5) (m:=512) aa rfl rfl (12+4*i) ae ae) (zaK rfl (zbn hr2 (fun w908 hr2 ho908=>?_)))))))))))))))))))))))))))))))))
    replace hB:=ho908.below hB ge_hB_g2
    replace hr2:row w908 g2 ((bv M).set (12+4*i) (.int .u8 ((u8 (E / 2 ^ 8)).toNat:Int))) 62:=zoa hr2
    rw[zb0 ae]at hr2
    refine zad (zbD (e:=5) (m:=512) aa rfl rfl (12+4*i+1) ae ae) (zaK rfl (zbn hr2 (fun w909 hr2 ho909=>?_)))
    replace hB:=ho909.below hB ge_hB_g2
    replace hr2:row w909 g2 ((bv (M.set (12+4*i) (u8 (E / 2 ^ 8)))).set (12+4*i+1) (.int .u8 ((u8 E).toNat:Int))) 62:=zoa hr2
    rw[zb0 (by rw[List.length_set];omega)]at hr2
    refine zad (zbD (e:=5) (m:=512) aa rfl rfl (12+4*i+2) ae ae) (zaK rfl (zbn hr2 (fun w910 hr2 ho910=>?_)))
    replace hB:=ho910.below hB ge_hB_g2
    replace hr2:row w910 g2 ((bv ((M.set (12+4*i) (u8 (E / 2 ^ 8))).set (12+4*i+1) (u8 E))).set (12+4*i+2) (.int .u8 ((u8 (r.length / 2 ^ 8)).toNat:Int))) 62:=zoa hr2
    rw[zb0 (by rw[List.length_set,List.length_set];omega)]at hr2
    refine zad (zbD (e:=5) (m:=512) aa rfl rfl (12+4*i+3) ae ae) (zaK rfl (zbn hr2 (fun w911 hr2 ho911=>?_)))
    replace hB:=ho911.below hB ge_hB_g2
    replace hr2:row w911 g2 ((bv (((M.set (12+4*i) (u8 (E / 2 ^ 8))).set (12+4*i+1) (u8 E)).set (12+4*i+2) (u8 (r.length / 2 ^ 8)))).set (12+4*i+3) (.int .u8 ((u8 r.length).toNat:Int))) 62:=zoa hr2
    rw[zb0 (by rw[List.length_set,List.length_set,List.length_set];omega),hset]at hr2
    refine zae (zaP (zaf (zaa (zad (zaO rfl rfl (Coup.w64 ae)) (zad (zab) (zae (za2 ⟨i+1,ae,⟨rfl,rfl,rfl,vi ae,rfl,rfl,rfl⟩,ae,hr2,hB⟩)))))))
  ·
   obtain rfl:i=V.slots.length:=by omega
   rw[List.take_of_length_le (Nat.le_refl _)]at hr2 ⊢
   have hpl:(zcU V [0,0] V.slots).length=512:=zfW rfl ae
   have hend:=zn7 V V.slots (u8 ((512 - zbF V.slots) / 2 ^ 8)) (u8 (512 - zbF V.slots))
   have hend2:zcU V [u8 ((512 - zbF V.slots) / 2 ^ 8),u8 (512 - zbF V.slots)] V.slots=zay V:=by
     rw[zay,←zn9 (512 - zbF V.slots)];rfl
   rw[hend2]at hend
   have hbl:(zay V).length=512:=zfW rfl ae
   generalize zay V=Q at hend hbl ⊢
   generalize zcU V [0,0] V.slots=M at hend hpl hr2
   refine zbh (zbC (zbH (zbl (zaf (zah (zaa (zad (zab) (zad (zfb rfl rfl ae (shrI (512 - zbF V.slots) 8 rfl ae)) (zad (zbM (k:=.u8) aa aa rfl (zdU ((512 - zbF V.slots) / 2 ^ 8))) (zad (zab) (zad (zbM (k:=.u8) aa aa rfl (zdU (512 - zbF V.slots))) (zad (zbD (e:=5) (m:=512) aa rfl rfl (4) rfl ae) (zaK rfl (zbn hr2 (fun w912 hr2 ho912=>?_)))))))))))))))
   replace hB:=ho912.below hB ge_hB_g2
   replace hr2:row w912 g2 ((bv M).set 4 (.int .u8 ((u8 ((512 - zbF V.slots) / 2 ^ 8)).toNat:Int))) 62:=hr2
   rw[zb0 ae]at hr2
   refine zad (zbD (e:=5) (m:=512) aa rfl rfl (5) rfl ae) (zaK rfl (zbn hr2 (fun w913 hr2 ho913=>?_)))
   replace hB:=ho913.below hB ge_hB_g2
   replace hr2:row w913 g2 ((bv (M.set 4 (u8 ((512 - zbF V.slots) / 2 ^ 8)))).set 5 (.int .u8 ((u8 (512 - zbF V.slots)).toNat:Int))) 62:=hr2
   rw[zb0 (by rw[List.length_set];omega),hend]at hr2
   refine zae (zaf (zah (zaa (zad (za7 512 hr2) (zaK rfl (zaQ 512 (_) hr2 (fun w914 hr2 ho914=>?_)))))))
   replace hB:=ho914.below hB ge_hB_g2
   refine zae (zaf (zaF (zan [_] ⟨⟨_,rfl,Ld.zb9 (k:=512) hr2 aa aa ak⟩,trivial⟩ ?_)))
   exact⟨rfl,hB⟩
def At2(L:List UInt8)(i m:Nat):Prop:=m<65536∧i+2≤L.length∧(L.drop i).take 2=be2 m
theorem take2{L:List UInt8}{i:Nat}{a b:UInt8}(ha:L[i]?=some a)(hb:L[i+1]?=some b):(L.drop i).take 2=[a,b]:=by
 apply List.ext_getElem?
 intro j
 rcases j with _|_|j
 ·simp[List.getElem?_take,ha]
 ·simp[List.getElem?_take,hb]
 ·simp[List.getElem?_take];omega
theorem At2.of{L:List UInt8}{i m:Nat}{a b:UInt8}(hm:m<65536)(ha:L[i]?=some a)(hb:L[i+1]?=some b)(h:[a,b]=be2 m):At2 L i m:=
 ⟨hm,by have:=(List.getElem?_eq_some_iff.1 hb).1;omega,by rw[take2 ha hb,h]⟩
theorem At2.fst{L:List UInt8}{i m:Nat}(h:At2 L i m):L[i]?=some (u8 (m / 256)):=by
 have:=congrArg (·[0]?) h.2.2
 simpa [List.getElem?_take,be2]using this
theorem At2.num{m:Nat}(h:m<65536):256*((u8 (m / 256)).toNat:Int)+((u8 (m % 256)).toNat:Int)=(m:Int):=by
 rw[zn3 ae,zn3 ae];omega
theorem getB(V:View)(hz:zb3 V≤512)(i:Nat)(h:i<12):(zay V)[i]?=(zcs V (be2 (512 - zbF V.slots)))[i]?:=zn5 rfl h
theorem at_kind(V:View)(hz:zb3 V≤512):(zay V)[0]?=some (u8 V.kind):=getB V hz 0 ae
theorem at_many(V:View)(hz:zb3 V≤512):At2 (zay V) 2 V.slots.length:=by
 unfold zb3 at hz
 exact At2.of ae (getB V hz 2 ae) (getB V hz 3 ae) rfl
theorem at_hi(V:View)(hz:zb3 V≤512)(hn:V.next<2147483648):At2 (zay V) 8 (V.next / 65536):=by
 refine At2.of ae (getB V hz 8 ae) (getB V hz 9 ae) ?_
 rw[be2,Nat.div_div_eq_div_mul]
theorem at_lo(V:View)(hz:zb3 V≤512):At2 (zay V) 10 (V.next % 65536):=by
 refine At2.of ae (getB V hz 10 ae) (getB V hz 11 ae) ?_
 rw[be2]
 congr 3<;>omega
def zlk(S:List (Option (List UInt8)))(i:Nat):Option (List UInt8)→Nat
 |none=>0
 |some r=>512 - zbF (S.take i) - r.length
theorem zfs{S:List (Option (List UInt8))}{i:Nat}{s:Option (List UInt8)}(hs:S[i]?=some s):S=S.take i++s::S.drop (i+1):=by
 obtain⟨hl,he⟩:=List.getElem?_eq_some_iff.1 hs
 conv=>lhs;rw[←List.take_append_drop i S,List.drop_eq_getElem_cons hl,he]
theorem zma(V:View){i:Nat}{s:Option (List UInt8)}(hs:V.slots[i]?=some s)(k:Nat)(hk:k<4):(zay V)[12+4*i+k]?=(ent (512 - zbF (V.slots.take i)) s)[k]?:=by
 have hl:=(List.getElem?_eq_some_iff.1 hs).1
 have:=get_ent V (be2 (512 - zbF V.slots)) rfl (V.slots.take i) (V.slots.drop (i+1)) s k hk
 rw[←zfs hs,List.length_take,Nat.min_eq_left ae]at this
 exact this
theorem at_from(V:View){i:Nat}{s:Option (List UInt8)}(hs:V.slots[i]?=some s):At2 (zay V) (12+4*i) (zlk V.slots i s):=by
 have h0:=zma V hs 0 ae
 have h1:=zma V hs 1 ae
 cases s with
 |none=>exact At2.of (a:=0) (b:=0) (by simp[zlk]) h0 h1 (show[0,0]=be2 0 by decide)
 |some r=>exact At2.of (a:=u8 ((512 - zbF (V.slots.take i) - r.length) / 256)) (b:=u8 ((512 - zbF (V.slots.take i) - r.length) % 256)) (by simp only[zlk];omega) h0 h1 rfl
theorem at_long(V:View)(hz:zb3 V≤512){i:Nat}{s:Option (List UInt8)}(hs:V.slots[i]?=some s):At2 (zay V) (12+4*i+2) (bod s).length:=by
 have h0:=zma V hs 2 ae
 have h1:=zma V hs 3 ae
 have h2:=zeG hs
 have h3:=zdx V.slots (i+1)
 unfold zb3 at hz
 cases s with
 |none=>exact At2.of (by simp[bod]) h0 h1 rfl
 |some r=>exact At2.of ae h0 h1 rfl
theorem at_rec(V:View)(hz:zb3 V≤512){i:Nat}{r:List UInt8}(hs:V.slots[i]?=some (some r)):((zay V).drop (zlk V.slots i (some r))).take r.length=r:=by
 have:=get_rec V (be2 (512 - zbF V.slots)) rfl (V.slots.take i) (V.slots.drop (i+1)) r (by rw[←zfs hs];exact hz)
 rw[←zfs hs]at this
 exact this
theorem zbv(V:View)(hz:zb3 V≤512):(zay V).length=512:=zfW rfl hz
theorem zj3(L:List UInt8)(g t o i m n c:Nat)(w:World)(h:row w g (bv L) t)(h2:At2 L i m)(ho:o=i)(hn:n=2):Calls Tryz.prog 145 [.slice (some ⟨g,o,none⟩) n c].toArray w (Ret fun v w'=>v= .int .i64 (m:Int)∧Below w.heap.size w w'):=by
 subst hn ho
 have hs:=h.slB o 2 h2.2.1 aC
 rw[h2.2.2,be2]at hs
 have:=two35 (some ⟨g,o,none⟩) 2 c _ _ w rfl hs
 rw[At2.num h2.1]at this
 exact this
namespace zba
variable {w w':World}{lo:Nat}{o:List Nat}{vs:List Value}{S:List (Option (List UInt8))}
theorem grow{v:Value}{o':List Nat}(h:zba w lo o vs S)(hg:w.grownBy w' v.ownBlock)(hv:∀ g,v.ownBlock=some g→g∈o∨g<lo)(hf:∀ g,g∈o'→g∈o∨w.heap.size≤g∨g<lo):zba w' lo o' vs S:=
 have h1:zba w lo (o'++o) vs S:=h.avoid fun g hm=>(List.mem_append.1 hm).elim (fun e=>hf g e) Or.inl
 (h1.kp (Kp.za6 hg) fun g hm=>(hv g (Option.mem_toList.1 hm)).elim (fun e=>Or.inr (Or.inl (List.mem_append_right _ e))) fun e=>Or.inr (Or.inr e)).avoid fun g hm=>Or.inl (List.mem_append_left _ hm)
theorem growV{v v':Value}(h:zba w lo v.ownBlock.toList vs S)(hg:w.grownBy w' v.ownBlock)(hf:∀ g,v'.ownBlock=some g→v.ownBlock=some g∨w.heap.size≤g):zba w' lo v'.ownBlock.toList vs S:=
 h.grow hg (fun g e=>Or.inl (Option.mem_toList.2 e)) fun g hm=>(hf g (Option.mem_toList.1 hm)).elim (fun e=>Or.inl (Option.mem_toList.2 e)) fun e=>Or.inr (Or.inl e)
theorem zoc{v v':Value}{L:List Nat}(h:zba w lo (v.ownBlock.toList++L) vs S)(hg:w.grownBy w' v.ownBlock)(hf:∀ g,v'.ownBlock=some g→v.ownBlock=some g∨w.heap.size≤g):zba w' lo (v'.ownBlock.toList++L) vs S:=
 h.grow hg (fun g e=>Or.inl (List.mem_append_left _ (Option.mem_toList.2 e))) fun g hm=>(List.mem_append.1 hm).elim
  (fun e=>(hf g (Option.mem_toList.1 e)).elim (fun e=>Or.inl (List.mem_append_left _ (Option.mem_toList.2 e))) fun e=>Or.inr (Or.inl e)) fun e=>Or.inl (List.mem_append_right _ e)
theorem mono{lo':Nat}(h:zba w lo o vs S)(hl:lo'≤lo):zba w lo' o vs S:=⟨h.len,h.no,fun i r hr=>by
 obtain⟨b,off,c,h1,h2,h3,h4,h5⟩:=h.yes i r hr
 exact⟨b,off,c,h1,h2,h3,h4,ae⟩⟩
theorem snocN(h:zba w lo o vs S):zba w lo o (vs++[.slice none 0 0]) (S++[none]):=by
 have hl:=h.len
 refine⟨by simp[hl],fun i hi=>?_,fun i r hi=>?_⟩
 ·rcases Nat.lt_or_ge i S.length with h1|h1
  ·rw[List.getElem?_append_left h1]at hi
   rw[List.getElem?_append_left ae];exact h.no i hi
  ·rw[List.getElem?_append_right h1]at hi
   rw[List.getElem?_append_right ae,hl]
   rcases Nat.eq_zero_or_pos (i - S.length)with h2|h2
   ·rw[h2];rfl
   ·rw[List.getElem?_eq_none aK]at hi;cases hi
 ·rcases Nat.lt_or_ge i S.length with h1|h1
  ·rw[List.getElem?_append_left h1]at hi
   rw[List.getElem?_append_left ae];exact h.yes i r hi
  ·rw[List.getElem?_append_right h1]at hi
   rcases Nat.eq_zero_or_pos (i - S.length)with h2|h2
   ·rw[h2]at hi;cases hi
   ·rw[List.getElem?_eq_none aK]at hi;cases hi
theorem snocS{b off c:Nat}{r:List UInt8}(h:zba w lo o vs S)(h2:zaS w (some ⟨b,off,none⟩) r.length 1 (bv r))(h3:b<w.heap.size)(h4:b∉o)(h5:lo≤b)(h9:r.length≤c):zba w lo o (vs++[.slice (some ⟨b,off,none⟩) r.length c]) (S++[some r]):=by
 have hl:=h.len
 refine⟨by simp[hl],fun i hi=>?_,fun i r' hi=>?_⟩
 ·rcases Nat.lt_or_ge i S.length with h1|h1
  ·rw[List.getElem?_append_left h1]at hi
   rw[List.getElem?_append_left ae];exact h.no i hi
  ·rw[List.getElem?_append_right h1]at hi
   rcases Nat.eq_zero_or_pos (i - S.length)with h2|h2
   ·rw[h2]at hi;cases hi
   ·rw[List.getElem?_eq_none aK]at hi;cases hi
 ·rcases Nat.lt_or_ge i S.length with h1|h1
  ·rw[List.getElem?_append_left h1]at hi
   rw[List.getElem?_append_left ae];exact h.yes i r' hi
  ·rw[List.getElem?_append_right h1]at hi
   rcases Nat.eq_zero_or_pos (i - S.length)with h6|h6
   ·rw[h6]at hi
    cases hi
    rw[List.getElem?_append_right ae,hl,h6]
    exact⟨b,off,c,rfl,h2,h3,h4,h5,h9⟩
   ·rw[List.getElem?_eq_none aK]at hi;cases hi
end zba
theorem zaz.onlyN{w w':World}{base e sz m g:Nat}{v:Value}{xs:List Value}(h:zaz w base e sz v m xs)(ho:Only g w w')(hg:v.ownBlock≠some g):zaz w' base e sz v m xs:=
 Coup.zaz.kpd h (Kp.zaZ ho) fun g' hm e=>by
  have:g'=g:=by simpa using hm
  subst this
  exact hg e
def OwV(w:World)(lo:Nat)(p:Option Addr)(n c:Nat)(vs:List Value)(S:List (Option (List UInt8))):Prop:=
 zaz w lo 33 1 (.slice p n c) n vs∧zba w lo (Value.ownBlock (.slice p n c)).toList vs S
def zod(V:View)(p:Option Addr)(n c:Nat):Value:=.agg #[.int .i64 (V.kind:Int), .int .i64 (V.next:Int), .slice p n c]
set_option maxRecDepth 20000 in
set_option maxHeartbeats 2000000 in
theorem read22(V:View)(w:World)(hV:Good V):
   Calls Tryz.prog 97 [.agg (bv (zay V)).toArray].toArray w (Ret fun v w'=>∃ p c vs,v= .tuple #[zod V p V.slots.length c, .bool true]∧OwV w' w.heap.size p V.slots.length c vs V.slots∧Below w.heap.size w w'):=by
 have hB:=Below.refl w.heap.size w
 have hml:maxLen=9223372036854775807:=by decide
 have hz:=hV.size
 have hbl:=zbv V hz
 have hk0:=at_kind V hz
 have hm2:=at_many V hz
 have hh8:=at_hi V hz hV.next
 have hl10:=at_lo V hz
 have hkd:=hV.kind
 have hnx:=hV.next
 have hz2:=hz
 unfold zb3 at hz2
 obtain⟨Q,hQ⟩:∃ Q,zay V=Q:=⟨_,rfl⟩
 rw[hQ]at hbl hk0 hm2 hh8 hl10 ⊢
 obtain⟨S,hS⟩:∃ S,V.slots=S:=⟨_,rfl⟩
 obtain⟨n,hn⟩:∃ n,V.slots.length=n:=⟨_,rfl⟩
 have hnS:n=S.length:=by rw[←hn,hS]
 rw[hn]at hm2 hz2 ⊢
 refine zax (fn:=Tryz.f97) (rs:=[.cell 2 155, .tmp 3]) (n:=116) Tryz.func97 rfl rfl Tryz.ntmps97 aa rfl (zah (zaa (zaD rfl (za4 ((bv Q)) rfl (fun g1 w1 hg1 hr1 hb1=>?_)))))
 have ge_hB_g1:=Nat.le_trans hB.size hg1
 replace hB:=hB.acc hb1
 refine zaD rfl (zar ([Value.int .i64 0,Value.int .i64 0,Value.slice none 0 0]) aa (fun g2 w2 hg2 hr2 hb2=>?_))
 have ge_hB_g2:=Nat.le_trans hB.size hg2
 have lt_g1_g2:g1<g2:=Nat.lt_of_lt_of_le hr1.lt hg2
 replace hr1:=hr1.new hb2
 replace hB:=hB.acc hb2
 refine zad (zac) (zae (zaf (zah (zaa (zad (zbD (e:=5) (m:=512) aa rfl rfl (0) rfl ae) (zad (zaG rfl (Ld.zeC hr1 aa (show(bv Q)[0]?=some (.int .u8 ((u8 V.kind).toNat:Int)) by rw[bv,List.getElem?_map,hk0];rfl))) ?_))))))
 refine zad (zbM (k:=.i64) aa aa rfl (show IntKind.i64.wrap ((u8 V.kind).toNat:Int)=(V.kind:Int) by rw[zn3 ae];exact w64 ae)) (zad (zaw 0) (zaK rfl (zbn hr2 (fun w901 hr2 ho901=>?_))))
 replace hr1:=hr1.only ho901 (Nat.ne_of_lt lt_g1_g2)
 replace hB:=ho901.below hB ge_hB_g2
 refine zae (zaf (zah (za3 [g2] aa ?_)))
 intro w902 hb902 hS902
 replace hr1:=hr1.new hb902
 replace hr2:=hr2.new hb902
 replace hB:=hB.acc hb902
 refine zas 0 (zbw (e:=5) (n:=512) (8) (10) (512) (2) aa rfl ⟨_,_,rfl,rfl⟩ ⟨_,_,rfl,rfl⟩ rfl ay ae ae ae ae ae) (zas 3 (zbw (e:=5) (n:=512) (10) (12) (512) (2) aa rfl ⟨_,_,rfl,rfl⟩ ⟨_,_,rfl,rfl⟩ rfl ay ae ae ae ae ae) (zaA 1 aa (zaU rfl rfl (zaj aa rfl) (zj3 Q g1 _ _ 8 (V.next / 65536) _ _ w902 hr1 hh8 rfl rfl) ?_)))
 rintro _ w15 ⟨rfl,hb15⟩
 have hS903:=hS902.add0 hb15
 refine⟨hS903,?_⟩
 replace hr1:=hr1.new hb15
 replace hr2:=hr2.new hb15
 replace hB:=hB.acc hb15
 refine zas 2 (zl4 rfl rfl ae (show IntKind.i64.wrap (((V.next / 65536:Nat):Int)*2 ^ 16)=(65536*(V.next / 65536):Nat) by rw[w64 ae];omega)) (zaA 4 aa (zaU rfl rfl (zaj aa rfl) (zj3 Q g1 _ _ 10 (V.next % 65536) _ _ w15 hr1 hl10 rfl rfl) ?_))
 rintro _ w18 ⟨rfl,hb18⟩
 have hS904:=hS903.add0 hb18
 refine⟨hS904,?_⟩
 replace hr1:=hr1.new hb18
 replace hr2:=hr2.new hb18
 replace hB:=hB.acc hb18
 refine zas 5 (zpY rfl rfl (show _=(V.next:Int)from(orI 16 (V.next / 65536:Nat) ae ae ae ae).trans ae)) (zas 6 (zaw 1) (zaA 7 aa (zbB rfl rfl (zbn hr2 (fun w906 hr2 ho906=>?_)))))
 have hS905:=hS904.aq ho906
 refine⟨hS905,?_⟩
 replace hr1:=hr1.only ho906 (Nat.ne_of_lt lt_g1_g2)
 replace hB:=ho906.below hB ge_hB_g2
 refine zaI aa (zaf (zah (zaa (zad (zbw (e:=5) (n:=512) (2) (4) (512) (2) aa rfl ⟨_,_,rfl,rfl⟩ ⟨_,_,rfl,rfl⟩ rfl ay ae ae ae ae ae) (zao rfl (zaj aa rfl) (zj3 Q g1 _ _ 2 n _ _ w906 hr1 hm2 rfl rfl) ?_)))))
 rintro _ w22 ⟨rfl,hb22⟩
 replace hr1:=hr1.new hb22
 replace hr2:=hr2.new hb22
 replace hB:=hB.acc hb22
 refine zad (zac) (zae (zaf (zah (zah (zaa (zad (zaw 0) (zad (zau hr2) (zad (zbA rfl rfl) (zad (zab) (zfl 26 rfl (ae) (zaq rfl (zad (zaw 1) (zaq rfl (zad (zau hr2) (zaq rfl (zad (zcH rfl rfl) (zad (zaE rfl) (zad (zab) (zfl 31 rfl (ae) (zaq rfl (zad (zab) (zaq rfl (zad (zdv rfl rfl (Coup.w64 ae)) (zaq rfl (zad (zaO rfl rfl (Coup.w64 ae)) (zaq rfl (zad (zbA rfl rfl) (zad (zaE rfl) (zae (zaf (zcF rfl (ae) (zat (zaf (zah (zah (zaa (zad (zab) (zad (zab) (zae (zaf (zav ?_)))))))))))))))))))))))))))))))))))))))))
 have hB0:=Below.refl w22.heap.size w22
 have hobt:∃ B,w22.heap.size=B:=⟨_,rfl⟩
 obtain⟨B,hBd⟩:=hobt
 have hwB:w.heap.size≤B:=by rw[←hBd];exact hB.size
 have g1B:g1<B:=by rw[←hBd];exact hr1.lt
 have g2B:g2<B:=by rw[←hBd];exact hr2.lt
 refine zbq (α:=Nat × Value × List Value) (0, .slice none 0 0,[]) (fun k=>[(39, .int .i64 (k.1:Nat)),(38, .int .i64 (n:Nat)),(4, .int .i64 (n:Nat)),(1, .pointer (some ⟨g1,0,none⟩)),(2, .pointer (some ⟨g2,0,none⟩))])
   (fun k w'=>k.1≤n∧row w' g1 (bv Q) 62∧row w' g2 [.int .i64 (V.kind:Int), .int .i64 (V.next:Int),k.2.1] 155∧zaz w' B 33 1 k.2.1 k.1 k.2.2∧zba w' B k.2.1.ownBlock.toList k.2.2 (S.take k.1)∧B≤w'.heap.size∧Below w.heap.size w w') (fun k=>n - k.1)
   ⟨rfl,rfl,rfl,rfl,rfl,rfl⟩ ⟨Nat.zero_le _,hr1,hr2,zbp _ _ _ _,zba.nil _ _ _,ae,hB⟩ ?_
 clear hr1 hr2 hB hB0
 rintro⟨i,v,vs⟩ f wr ⟨hi,hr1,hr2,hv,hsl,hBs,hB⟩
 simp only at hi hr2 hv hsl
 have hvl0:=hv.lt
 have hBsz:=hB.size
 have hBr:=Below.refl wr.heap.size wr
 refine zah (zaa (zad (zaY rfl rfl) (zae (zaf (zah (za0 rfl (fun hlt=>?_) (fun hlt=>?_)))))))
 ·
  refine bM ?_
  have hobt:∃ s,S[i]?=some s:=⟨_,List.getElem?_eq_getElem ae⟩
  obtain⟨s,hsi⟩:=hobt
  have hsV:V.slots[i]?=some s:=by rw[hS];exact hsi
  have hfr:=at_from V hsV
  have hlg:=at_long V hz hsV
  rw[hQ]at hfr hlg
  rw[hS]at hfr
  have hts:S.take (i+1)=S.take i++[s]:=by rw[List.take_add_one,hsi];rfl
  refine zaa (zad (zab) (zad (zdv rfl rfl (Coup.w64 ae)) (zad (zaO rfl rfl (Coup.w64 ae)) (zad (zac) (zae (zaf (zah (za3 [] aa ?_))))))))
  intro w907 hb907 hS907
  replace hr1:=hr1.new hb907
  replace hr2:=hr2.new hb907
  replace hv:=hv.new hb907
  replace hsl:=hsl.new hb907
  replace hB:=hB.acc hb907
  replace hBr:=hBr.acc hb907
  refine zas 0 (zab) (zas 1 (zab) (zas 2 (zaO rfl rfl (Coup.w64 ae)) (zas 3 (zab) (zas 4 (zaO rfl rfl (Coup.w64 ae)) (zas 5 (zbw (e:=5) (n:=512) (12+4*i) (12+4*i+2) (12+4*i+2) (2) aa rfl ⟨_,_,rfl,ae⟩ ⟨_,_,rfl,ae⟩ ⟨_,_,rfl,ae⟩ ay ae ae ae ae ae) (zas 7 (zab) (zas 8 (zaO rfl rfl (Coup.w64 ae)) (zas 9 (zab) (zas 10 (zaO rfl rfl (Coup.w64 ae)) (zas 11 (zab) (zas 12 (zaO rfl rfl (Coup.w64 ae)) (zas 13 (zbw (e:=5) (n:=512) (12+4*i+2) (12+4*i+4) (12+4*i+4) (2) aa rfl ⟨_,_,rfl,ae⟩ ⟨_,_,rfl,ae⟩ ⟨_,_,rfl,ae⟩ ay ae ae ae ae ae) (zaA 6 aa (zaU rfl rfl (zaj aa rfl) (zj3 Q g1 _ _ (12+4*i) (zlk S i s) _ _ w907 hr1 hfr (Nat.zero_add _) rfl) ?_))))))))))))))
  rintro _ w51 ⟨rfl,hb51⟩
  have hS908:=hS907.add0 hb51
  refine⟨hS908,?_⟩
  replace hr1:=hr1.new hb51
  replace hr2:=hr2.new hb51
  replace hv:=hv.new hb51
  replace hsl:=hsl.new hb51
  replace hB:=hB.acc hb51
  replace hBr:=hBr.acc hb51
  refine zaA 14 aa (zaU rfl rfl (zaj aa rfl) (zj3 Q g1 _ _ (12+4*i+2) (bod s).length _ _ w51 hr1 hlg (Nat.zero_add _) rfl) ?_)
  rintro _ w59 ⟨rfl,hb59⟩
  have hS909:=hS908.add0 hb59
  refine⟨hS909,?_⟩
  replace hr1:=hr1.new hb59
  replace hr2:=hr2.new hb59
  replace hv:=hv.new hb59
  replace hsl:=hsl.new hb59
  replace hB:=hB.acc hb59
  replace hBr:=hBr.acc hb59
  refine zas 15 (zac) (zas 16 (zac) (zaI aa (zaf (zah (zaa (zad (zac) (zae (zaf (zah (zah (zaa (zad (zab) (zad (zaX rfl rfl) (zad (zab) (zbI 62 rfl (fun hf0=>?_) (fun hf0=>?_))))))))))))))))
  ·
   refine zaM rfl rfl (zaM rfl rfl (zad (zaC rfl) (zae (zaf (W_t rfl (zah (zah ?_)))))))
   obtain⟨r,rfl⟩:∃ r,s=some r:=by
     cases s with
     |none=>exact absurd rfl hf0
     |some r=>exact⟨r,rfl⟩
   have hrc:=hV.cell r (List.mem_of_getElem? hsV)
   have hsn:=zeG hsi
   have hlt2:=zdx S (i+1)
   rw[show(bod (some r)).length=r.length from rfl]at hsn hlg ⊢
   have hrec:=at_rec V hz hsV
   rw[hQ,hS]at hrec
   have hobt:∃ E,zlk S i (some r)=E:=⟨_,rfl⟩
   obtain⟨E,hE⟩:=hobt
   have hE2:E=512 - zbF (S.take i) - r.length:=hE.symm
   rw[hE]at hrec hfr hf0 ⊢
   refine zaa (zad (zab) (zad (zbA rfl rfl) (zad (zab) (zfl 68 rfl (ae) (zaq rfl (zad (zab) (zaq rfl (zad (zab) (zaq rfl (zad (zaO rfl rfl (Coup.w64 ae)) (zaq rfl (zad (zbA rfl rfl) (zad (zaE rfl) (zae (zaf (zcF rfl (ae) (zat (zaf (zaa (zaD rfl (zl8 (e:=5) (sz:=1) aa aa (fun g75 w75 hg75 hr75 hb75=>?_))))))))))))))))))))))
   have ge_hB_g75:=Nat.le_trans hB.size hg75
   have ge_hBr_g75:=Nat.le_trans hBr.size hg75
   have lt_g1_g75:g1<g75:=Nat.lt_of_lt_of_le hr1.lt hg75
   have lt_g2_g75:g2<g75:=Nat.lt_of_lt_of_le hr2.lt hg75
   replace hr1:=hr1.new hb75
   replace hr2:=hr2.new hb75
   replace hv:=hv.new hb75
   replace hsl:=hsl.new hb75
   replace hB:=hB.acc hb75
   replace hBr:=hBr.acc hb75
   refine zad (zab) (zad (zab) (zad (zab) (zad (zaO rfl rfl (Coup.w64 ae)) (zad (zab) (zad (zab) (zad (zaO rfl rfl (Coup.w64 ae)) (zad (zhm (n:=512) (e:=5) E (E+r.length) (E+r.length) r.length aa rfl ⟨_,_,rfl,rfl⟩ ⟨_,_,rfl,ae⟩ ⟨_,_,rfl,ae⟩ ay ae ae ae ae) ?_)))))))
   have hsrc:=hr1.slZ E r.length ae ae
   rw[hrec]at hsrc
   have hszr:=hBr.size
   refine zaD rfl (zis (e:=5) (sz:=1) (bytes:=1) (z:=.int .u8 0) aa rfl aa rfl aD rfl hr75.lt rfl hsrc ae ae (fun g84 o84 c84 w84 hx84 hg84 hlt84 hcc84 hb84=>?_))
   replace hr1:=hr1.new hb84
   replace hr2:=hr2.new hb84
   replace hv:=hv.new hb84
   replace hsl:=hsl.new hb84
   replace hB:=hB.acc hb84
   replace hBr:=hBr.acc hb84
   have hg84b:wr.heap.size≤g84:=by rcases hg84 with h|h<;>omega
   refine zad (zac) (zae (zaf (zaa (zad (zaw 2) (zad (zau hr2) (zad (zab) (zaD rfl (zdd (e:=33) (.slice (some ⟨g84,o84,none⟩) r.length c84) ([.slice (some ⟨g84,o84,none⟩) r.length c84]) ([Value.slice none 0 0]) 1 aa aa rfl rfl rfl ⟨aD,aD⟩ (fun g88 w88 hg88 hr88 hb88=>?_)))))))))
   have ge_hB_g88:=Nat.le_trans hB.size hg88
   have ge_hBr_g88:=Nat.le_trans hBr.size hg88
   have lt_g1_g88:g1<g88:=Nat.lt_of_lt_of_le hr1.lt hg88
   have lt_g2_g88:g2<g88:=Nat.lt_of_lt_of_le hr2.lt hg88
   replace hr1:=hr1.new hb88
   replace hr2:=hr2.new hb88
   replace hv:=hv.new hb88
   replace hsl:=hsl.new hb88
   replace hx84:=hx84.new hb88
   replace hB:=hB.acc hb88
   have hs88:=hr88.slA (m:=1) (sz:=1) rfl ae
   have hlt88:=Nat.lt_of_lt_of_le hlt84 hb88.size
   have sz_hB_89:=hB.size
   refine zaD rfl (zbf (e:=33) (sz:=1) (bytes:=24) (z:=Value.slice none 0 0) aa rfl aa rfl aD rfl hv rfl hs88 aL aC ae (fun hm0=>ae) (fun v89 w89 hv89 hgr89 hfr89=>?_))
   replace hr1:=hr1.own hv hgr89 ae
   replace hr2:=hr2.own hv hgr89 ae
   replace hB:=hB.own hv hgr89 ae
   have hform:=hv89.form
   obtain⟨p89,c89,rfl⟩:=hform
   have hx84:=hx84.kpd (Kp.za6 hgr89) (fun b' o' e hm=>by cases e;simp only[Option.mem_toList]at hm;have:=(hvl0 g84 hm).2;omega)
   have hsl:=(hsl.growV hgr89 hfr89).snocS (c:=c84) hx84 (Nat.lt_of_lt_of_le hlt88 hgr89.size) (fun e=>(hfr89 g84 (Option.mem_toList.1 e)).elim (fun e'=>by have:=(hvl0 g84 e').2;omega) (fun e'=>ae)) ae hcc84
   rw[←hts]at hsl
   refine zad (zaw 2) (zaK rfl (zbn hr2 (fun w910 hr2 ho910=>?_)))
   replace hr1:=hr1.only ho910 (Nat.ne_of_lt lt_g1_g2)
   replace hv89:=hv89.only ho910 ae
   replace hsl:=hsl.only ho910 ae
   replace hB:=ho910.below hB ge_hB_g2
   refine zae (zaP (zaf (zaa (zad (zaO rfl rfl (Coup.w64 ae)) (zad (zab) (zae (za2 ⟨(i+1, .slice p89 (i+1) c89,vs++[.slice (some ⟨g84,o84,none⟩) r.length c84]),by simp only;omega,⟨rfl,by go_num,rfl,rfl,rfl,rfl⟩,by simp only;omega,hr1,hr2,hv89,hsl,by have h:=hv89.form' ae;obtain⟨_,_,_,_,h1,h2,_⟩:=h;omega,hB⟩)))))))
  ·
   have hs0:s=none:=by
     cases s with
     |none=>rfl
     |some r=>
       exfalso
       have hsn:=zeG hsi
       have hlt2:=zdx S (i+1)
       rw[show(bod (some r)).length=r.length from rfl]at hsn
       rw[hS]at hz2
       simp only[zlk]at hf0
       omega
   subst hs0
   refine zaq rfl (zad (zab) (zaq rfl (zad (zaX rfl rfl) (zad (zaE rfl) (zae (zaf (zcF rfl ((by rw[show(bod none).length=0 from rfl];omega)) (zat (zaf (zaa (zad (zaw 2) (zad (zau hr2) (zad (zab) (zaD rfl (zdd (e:=33) (.slice none 0 0) ([.slice none 0 0]) ([Value.slice none 0 0]) 1 aa aa rfl rfl rfl ⟨aD,aD⟩ (fun g88 w88 hg88 hr88 hb88=>?_))))))))))))))))
   have ge_hB_g88:=Nat.le_trans hB.size hg88
   have ge_hBr_g88:=Nat.le_trans hBr.size hg88
   have lt_g1_g88:g1<g88:=Nat.lt_of_lt_of_le hr1.lt hg88
   have lt_g2_g88:g2<g88:=Nat.lt_of_lt_of_le hr2.lt hg88
   replace hr1:=hr1.new hb88
   replace hr2:=hr2.new hb88
   replace hv:=hv.new hb88
   replace hsl:=hsl.new hb88
   replace hB:=hB.acc hb88
   replace hBr:=hBr.acc hb88
   have hs88:=hr88.slA (m:=1) (sz:=1) rfl ae
   have hszr:=hBr.size
   have sz_hB_89:=hB.size
   refine zaD rfl (zbf (e:=33) (sz:=1) (bytes:=24) (z:=Value.slice none 0 0) aa rfl aa rfl aD rfl hv rfl hs88 aL aC ae (fun hm0=>ae) (fun v89 w89 hv89 hgr89 hfr89=>?_))
   replace hr1:=hr1.own hv hgr89 ae
   replace hr2:=hr2.own hv hgr89 ae
   replace hB:=hB.own hv hgr89 ae
   have hform:=hv89.form
   obtain⟨p89,c89,rfl⟩:=hform
   have hsl:=(hsl.growV hgr89 hfr89).snocN
   rw[←hts]at hsl
   refine zad (zaw 2) (zaK rfl (zbn hr2 (fun w911 hr2 ho911=>?_)))
   replace hr1:=hr1.only ho911 (Nat.ne_of_lt lt_g1_g2)
   replace hv89:=hv89.only ho911 ae
   replace hsl:=hsl.only ho911 ae
   replace hB:=ho911.below hB ge_hB_g2
   refine zae (zaP (zaf (zaa (zad (zaO rfl rfl (Coup.w64 ae)) (zad (zab) (zae (za2 ⟨(i+1, .slice p89 (i+1) c89,vs++[.slice none 0 0]),by simp only;omega,⟨rfl,by go_num,rfl,rfl,rfl,rfl⟩,by simp only;omega,hr1,hr2,hv89,hsl,by have h:=hv89.form' ae;obtain⟨_,_,_,_,h1,h2,_⟩:=h;omega,hB⟩)))))))
 ·
  obtain rfl:i=n:=by omega
  rw[show S.take i=S from List.take_of_length_le ae]at hsl
  have hform:=hv.form
  obtain⟨p,c,rfl⟩:=hform
  have hSz:=fun(w':World) (h1:zaS w' p i 1 vs) (h2:zba w' B (Value.ownBlock (.slice p i c)).toList vs S)=>size25 V p c vs w' B _ (by rw[hn];exact h1) (by rw[hS];exact h2) ae
  have hPg:=fun(w':World) (h1:zaS w' p i 1 vs) (h2:zba w' B (Value.ownBlock (.slice p i c)).toList vs S)=>zj2 V p c vs w' B _ (by rw[hn];exact h1) (by rw[hS];exact h2) ae hnx hz
  rw[hn]at hSz hPg
  rw[hQ]at hPg
  by_cases hi0:0<i
  · obtain⟨g,off,c',e0,-,hgl,-⟩:=hv.form' hi0
    injection e0 with e1 e2 e3
    subst e1 e3
    have hobt:∃ s,S[i - 1]?=some s:=⟨_,List.getElem?_eq_getElem ae⟩
    obtain⟨s,hsi⟩:=hobt
    have hvv:=hsl.val hsi
    obtain⟨q,cq,hvq,hq,hqn,-⟩:=hvv
    have hqs:q.isNone=false:=by
      cases s with
      |none=>
        exfalso
        apply hV.last
        rw[hS,List.getLast?_eq_getElem?,←hnS]
        exact hsi
      |some r=>cases q with
        |none=>have:=hqn.2 rfl;cases this
        |some a=>rfl
    refine zbh (zbC (zbH (zbl (zaf (zah (zah (za3 [] aa ?_)))))))
    intro w912 hb912 hS912
    replace hr1:=hr1.new hb912
    replace hr2:=hr2.new hb912
    replace hv:=hv.new hb912
    replace hsl:=hsl.new hb912
    replace hB:=hB.acc hb912
    have hr1_d912:=hr1
    have hr2_d912:=hr2
    have hv_d912:=hv
    refine zas 0 (zab) (zas 1 (zbA rfl rfl) (zas 2 (zab) (zle 94 rfl (ae) (zas 3 (zaw 2) (zbo 4 (fun w' hS'=>zau (hr2_d912.kq hS')) (zas 5 (zab) (zas 6 (zcX rfl rfl (Coup.w64 ae)) (zas 7 (zaN (e:=33) aa rfl rfl (i - 1) ae ae) (zbo 8 (fun w' hS'=>zaG rfl (Ld.sl1 (hv_d912.kpd hS' ah).sl aa hvq)) (zas 9 (zfS (e:=5) aa rfl rfl) (zas 10 (zaC rfl) (zas 11 (zab) (WA_fb 103 rfl (hqs) (zbo 12 (fun w' hS'=>za7 3 (hr2_d912.kq hS')) (zaA 13 aa (zaU rfl rfl (zaj aa rfl) (hSz w912 hv.sl hsl) ?_))))))))))))))))
    rintro _ w105 ⟨rfl,hb105⟩
    have hS913:=hS912.add0 hb105
    refine⟨hS913,?_⟩
    replace hr2:=hr2.new hb105
    replace hv:=hv.new hb105
    replace hsl:=hsl.new hb105
    replace hB:=hB.acc hb105
    refine zas 14 (zbA rfl rfl) (zas 15 (zaE rfl) (zas 16 (zab) (zi1 108 rfl (ae) (zbo 17 (fun w' hS'=>za7 3 (hr2_d912.kq hS')) (zbo 19 (fun w' hS'=>za7 512 (hr1_d912.kq hS')) (zaA 18 aa (zaU rfl rfl (zaj aa rfl) (hPg w105 hv.sl hsl) ?_)))))))
    rintro _ w110 ⟨rfl,hb110⟩
    have hS914:=hS913.add0 hb110
    refine⟨hS914,?_⟩
    replace hr2:=hr2.new hb110
    replace hv:=hv.new hb110
    replace hsl:=hsl.new hb110
    replace hB:=hB.acc hb110
    refine zas 20 (zli (n:=512) aa rfl rfl (by simp[*]) (by simp[*])) (zas 21 (zaE rfl) (zaI aa (zaf (W_fn rfl (ay) (zat (zaf (zah (zaa (zad (za7 3 hr2) (zaK rfl (zaQ 3 (_) hr2 (fun w915 hr2 ho915=>?_))))))))))))
    replace hv:=hv.only ho915 ae
    replace hsl:=hsl.only ho915 ae
    replace hB:=ho915.below hB ge_hB_g2
    refine bO ?_
    exact⟨_,c,vs,rfl,⟨hv.mono hwB,by rw[hS];exact hsl.mono hwB⟩,hB⟩
  · skip
    refine zbh (zbC (zbH (zbl (zaf (zah (zah (za3 [] aa ?_)))))))
    intro w916 hb916 hS916
    replace hr1:=hr1.new hb916
    replace hr2:=hr2.new hb916
    replace hv:=hv.new hb916
    replace hsl:=hsl.new hb916
    replace hB:=hB.acc hb916
    have hr1_d916:=hr1
    have hr2_d916:=hr2
    refine zas 0 (zab) (zas 1 (zbA rfl rfl) (zas 2 (zab) (zi1 94 rfl (ae) (zaL 3 aa rfl (zaL 4 aa rfl (zaL 5 aa rfl (zaL 6 aa rfl (zaL 7 aa rfl (zaL 8 aa rfl (zaL 9 aa rfl (zas 10 (zaE rfl) (zas 11 (zab) (zbo 12 (fun w' hS'=>za7 3 (hr2_d916.kq hS')) (zaA 13 aa (zaU rfl rfl (zaj aa rfl) (hSz w916 hv.sl hsl) ?_)))))))))))))))
    rintro _ w105 ⟨rfl,hb105⟩
    have hS917:=hS916.add0 hb105
    refine⟨hS917,?_⟩
    replace hr2:=hr2.new hb105
    replace hv:=hv.new hb105
    replace hsl:=hsl.new hb105
    replace hB:=hB.acc hb105
    refine zas 14 (zbA rfl rfl) (zas 15 (zaE rfl) (zas 16 (zab) (zi1 108 rfl (ae) (zbo 17 (fun w' hS'=>za7 3 (hr2_d916.kq hS')) (zbo 19 (fun w' hS'=>za7 512 (hr1_d916.kq hS')) (zaA 18 aa (zaU rfl rfl (zaj aa rfl) (hPg w105 hv.sl hsl) ?_)))))))
    rintro _ w110 ⟨rfl,hb110⟩
    have hS918:=hS917.add0 hb110
    refine⟨hS918,?_⟩
    replace hr2:=hr2.new hb110
    replace hv:=hv.new hb110
    replace hsl:=hsl.new hb110
    replace hB:=hB.acc hb110
    refine zas 20 (zli (n:=512) aa rfl rfl (by simp[*]) (by simp[*])) (zas 21 (zaE rfl) (zaI aa (zaf (W_fn rfl (ay) (zat (zaf (zah (zaa (zad (za7 3 hr2) (zaK rfl (zaQ 3 (_) hr2 (fun w919 hr2 ho919=>?_))))))))))))
    replace hv:=hv.only ho919 ae
    replace hsl:=hsl.only ho919 ae
    replace hB:=ho919.below hB ge_hB_g2
    refine bO ?_
    exact⟨_,c,vs,rfl,⟨hv.mono hwB,by rw[hS];exact hsl.mono hwB⟩,hB⟩
def zjI(S:List (Option (List UInt8)))(i:Nat)(r:List UInt8):List (Option (List UInt8)):=if i=S.length then S++[some r]else S.set i (some r)
def zbX(V:View)(i:Nat)(r:List UInt8):View:={V with slots:=zjI V.slots i r}
theorem zmb:∀ (S:List (Option (List UInt8))) (i:Nat) (s:Option (List UInt8)),zbF (S.set i s)≤zbF S+(bod s).length
 |[],i,s=>by simp[zbF]
 |t::S,0,s=>by simp[zbF];omega
 |t::S,i+1,s=>by simp only[List.set_cons_succ,zbF];have:=zmb S i s;omega
theorem zoe(V:View)(i:Nat)(r:List UInt8):zb3 (zbX V i r)≤zb3 V+4+r.length:=by
 unfold zb3 zbX zjI
 dsimp only
 split
 ·rw[zdn,List.length_append];simp[zbF,bod];omega
 ·rw[List.length_set];have:=zmb V.slots i (some r);simp only[bod,Option.getD_some]at this;omega
namespace zba
variable {w w':World}{lo:Nat}{o:List Nat}{vs:List Value}{S:List (Option (List UInt8))}
theorem zjI{b off c i:Nat}{r:List UInt8}(h:zba w lo o vs S)(h2:zaS w (some ⟨b,off,none⟩) r.length 1 (bv r))(h3:b<w.heap.size)(h4:b∉o)(h5:lo≤b)(h9:r.length≤c):zba w lo o (vs.set i (.slice (some ⟨b,off,none⟩) r.length c)) (S.set i (some r)):=by
 have hl:=h.len
 refine⟨by simp[hl],fun j hj=>?_,fun j r' hj=>?_⟩
 ·rw[List.getElem?_set]at hj ⊢
  by_cases h6:i=j
  ·rw[if_pos h6]at hj;split at hj<;>cases hj
  ·rw[if_neg h6]at hj ⊢;exact h.no j hj
 ·rw[List.getElem?_set]at hj ⊢
  by_cases h6:i=j
  ·rw[if_pos h6]at hj ⊢
   by_cases h7:i<S.length
   ·rw[if_pos h7]at hj
    rw[if_pos ae]
    cases hj
    exact⟨b,off,c,rfl,h2,h3,h4,h5,h9⟩
   ·rw[if_neg h7]at hj;cases hj
  ·rw[if_neg h6]at hj ⊢;exact h.yes j r' hj
theorem zpN{i:Nat}(h:zba w lo o vs S):zba w lo o (vs.set i (.slice none 0 0)) (S.set i none):=by
 have hl:=h.len
 refine⟨by simp[hl],fun j hj=>?_,fun j r' hj=>?_⟩
 ·rw[List.getElem?_set]at hj ⊢
  by_cases h6:i=j
  ·rw[if_pos h6]at hj ⊢
   by_cases h7:i<S.length
   ·rw[if_pos ae]
   ·rw[if_neg h7]at hj;cases hj
  ·rw[if_neg h6]at hj ⊢;exact h.no j hj
 ·rw[List.getElem?_set]at hj ⊢
  by_cases h6:i=j
  ·rw[if_pos h6]at hj;split at hj<;>cases hj
  ·rw[if_neg h6]at hj ⊢;exact h.yes j r' hj
theorem cutS{i:Nat}(h:zba w lo o vs S)(hi:i≤S.length):zba w lo o (vs.take i) (S.take i):=by
 have hl:=h.len
 refine⟨by simp[hl],fun j hj=>?_,fun j r' hj=>?_⟩
 ·rw[List.getElem?_take]at hj ⊢
  split at hj
  ·rename_i h1;rw[if_pos h1];exact h.no j hj
  ·cases hj
 ·rw[List.getElem?_take]at hj ⊢
  split at hj
  ·rename_i h1;rw[if_pos h1];exact h.yes j r' hj
  ·cases hj
end zba
theorem zit{l:List Value}{i:Nat}{v:Value}(h:i<l.length):splice l i [v]=l.set i v:=zgm h
theorem zd2:(bv zcZ).length=512:=by rw[zal,zcZ,List.length_replicate]
set_option maxRecDepth 20000 in
set_option maxHeartbeats 2000000 in
theorem with24 (V:View) (p pr:Option Addr) (c cr i B:Nat) (vs:List Value) (r:List UInt8) (w:World) (hown:zaz w B 33 1 (.slice p V.slots.length c) V.slots.length vs) (hs:zba w B (Value.ownBlock (.slice p V.slots.length c)).toList vs V.slots)
   (hBw:B≤w.heap.size) (hr:∀ w',Below B w w'→zaS w' pr r.length 1 (bv r)) (hi:i≤V.slots.length) (hr4:r.length≤400) (hz:zb3 V≤512) (hk:V.kind<256) (hn:V.next<2147483648):
   Calls Tryz.prog 99 [zod V p V.slots.length c, .int .i64 (i:Int), .slice pr r.length cr].toArray w
     (Ret fun v w'=>v=(if 512<zb3 (zbX V i r)then .tuple #[.agg (bv zcZ).toArray, .int .i64 8]else .tuple #[.agg (bv (zay (zbX V i r))).toArray, .int .i64 0])∧Below B w w'):=by
 have hBB:=zlj.refl hBw
 have hB:=Below.refl w.heap.size w
 have hml:maxLen=9223372036854775807:=by decide
 have hsz:=zoe V i r
 obtain⟨S,hS⟩:∃ S,V.slots=S:=⟨_,rfl⟩
 obtain⟨n,hn1⟩:∃ n,S.length=n:=⟨_,rfl⟩
 have hz2:=hz
 unfold zb3 at hz2
 rw[hS]at hown hs hi hz2 ⊢
 rw[hn1]at hown hs hi hz2 ⊢
 have hlt0:=hown.lt
 have hzl:=zd2
 unfold zod
 refine zax (fn:=Tryz.f99) (rs:=[.cell 6 62, .tmp 7]) (n:=31) Tryz.func99 rfl rfl Tryz.ntmps99 aa rfl (zah (zaa (zaD rfl (za4 ([_,_,_]) rfl (fun g3 w3 hg3 hr3 hb3=>?_)))))
 have ge_hBB_g3:=Nat.le_trans hBB.size hg3
 have ge_hB_g3:=Nat.le_trans hB.size hg3
 replace hown:=hown.new hb3
 replace hBB:=hBB.acc hb3
 replace hB:=hB.acc hb3
 refine zaD rfl (zar (List.replicate 512 (Value.int .u8 0)) aa (fun g6 w6 hg6 hr6 hb6=>?_))
 have ge_hBB_g6:=Nat.le_trans hBB.size hg6
 have ge_hB_g6:=Nat.le_trans hB.size hg6
 have lt_g3_g6:g3<g6:=Nat.lt_of_lt_of_le hr3.lt hg6
 replace hown:=hown.new hb6
 replace hr3:=hr3.new hb6
 replace hBB:=hBB.acc hb6
 replace hB:=hB.acc hb6
 rw[zeh]at hr6
 have hs:=(hs.avoid (o':=(Value.ownBlock (.slice p n c)).toList++[g3,g6]) (fun g hm=>by
   rcases List.mem_append.1 hm with e|e
   · exact Or.inl e
   · simp only[List.mem_cons,List.not_mem_nil,or_false]at e
     omega)).new hB
 refine zad (zac) (zae (zaf (zgQ (fun q:Option Addr × Nat × Nat × List Value=>[(3, .pointer (some ⟨g3,0,none⟩)),(6, .pointer (some ⟨g6,0,none⟩)),(1, .int .i64 (i:Nat)),(2, .slice pr r.length cr)]) (fun q w'=>row w' g3 [.int .i64 (V.kind:Int), .int .i64 (V.next:Int), .slice q.1 q.2.1 q.2.2.1] 155∧row w' g6 (bv zcZ) 62∧zaz w' B 33 1 (.slice q.1 q.2.1 q.2.2.1) q.2.1 q.2.2.2∧zba w' B ((Value.ownBlock (.slice q.1 q.2.1 q.2.2.1)).toList++[g3,g6]) q.2.2.2 (if i=n then S++[none]else S)∧q.2.1=(if i=n then S++[none]else S).length∧(Value.ownBlock (.slice q.1 q.2.1 q.2.2.1)≠some g3∧Value.ownBlock (.slice q.1 q.2.1 q.2.2.1)≠some g6)∧zlj B w w') ?_ ?_)))
 ·
  refine zah (zaa (zad (zab) (zad (zaw 2) (zad (zau hr3) (zad (zaB (e:=33) (sz:=1) aa rfl rfl) (zad (za5 rfl rfl) (zae (zaf (za0 rfl (fun he=>?_) (fun he=>?_))))))))))
  ·
   refine zaa (zad (zaw 2) (zad (zau hr3) (zaD rfl (zdd (e:=33) (.slice none 0 0) ([.slice none 0 0]) ([Value.slice none 0 0]) 1 aa aa rfl rfl rfl ⟨aD,aD⟩ (fun g15 w15 hg15 hr15 hb15=>?_)))))
   have ge_hBB_g15:=Nat.le_trans hBB.size hg15
   have lt_g3_g15:g3<g15:=Nat.lt_of_lt_of_le hr3.lt hg15
   have lt_g6_g15:g6<g15:=Nat.lt_of_lt_of_le hr6.lt hg15
   replace hown:=hown.new hb15
   replace hr3:=hr3.new hb15
   replace hr6:=hr6.new hb15
   replace hs:=hs.new hb15
   replace hBB:=hBB.acc hb15
   have hs15:=hr15.slA (m:=1) (sz:=1) rfl ae
   have sz_hBB_16:=hBB.size
   refine zaD rfl (zbf (e:=33) (sz:=1) (bytes:=24) (z:=Value.slice none 0 0) aa rfl aa rfl aD rfl hown rfl hs15 aL aC ae (fun hm0=>ae) (fun v16 w16 hv16 hgr16 hfr16=>?_))
   replace hBB:=hBB.own hown hgr16 ae
   have hform:=hv16.form
   obtain⟨p16,c16,rfl⟩:=hform
   have hs:=(hs.zoc hgr16 hfr16).snocN
   have hn3:g3∉(Value.ownBlock (.slice p n c)).toList:=fun hm=>by have:=(hlt0 g3 (Option.mem_toList.1 hm)).2;omega
   have hn6:g6∉(Value.ownBlock (.slice p n c)).toList:=fun hm=>by have:=(hlt0 g6 (Option.mem_toList.1 hm)).2;omega
   have h163:Value.ownBlock (.slice p16 (n+1) c16)≠some g3:=fun e=>(hfr16 g3 e).elim (fun e=>hn3 (Option.mem_toList.2 e)) (fun e=>by have:=hr3.lt;omega)
   have h166:Value.ownBlock (.slice p16 (n+1) c16)≠some g6:=fun e=>(hfr16 g6 e).elim (fun e=>hn6 (Option.mem_toList.2 e)) (fun e=>by have:=hr6.lt;omega)
   have hr3:=hr3.kpd (Kp.za6 hgr16) hn3
   have hr6:=hr6.kpd (Kp.za6 hgr16) hn6
   refine zad (zaw 2) (zaK rfl (zbn hr3 (fun w901 hr3 ho901=>?_)))
   replace hs:=hs.only ho901 aB
   replace hr6:=hr6.only ho901 (Nat.ne_of_gt lt_g3_g6)
   replace hBB:=hBB.zp1 ho901 ge_hBB_g3
   have hv16:=zaz.onlyN hv16 (by assumption:Only g3 _ w901) h163
   refine zae (za2 ⟨(p16,n+1,c16,vs++[.slice none 0 0]),⟨rfl,rfl,rfl,rfl,rfl⟩,hr3,hr6,hv16,?_,?_,⟨h163,h166⟩,hBB⟩)
   · rw[if_pos ae];exact hs
   · rw[if_pos ae,List.length_append,hn1];rfl
  ·
   refine zat (za2 ⟨(p,n,c,vs),⟨rfl,rfl,rfl,rfl,rfl⟩,hr3,hr6,hown,?_,?_,⟨fun e=>by have:=(hlt0 g3 e).2;omega,fun e=>by have:=(hlt0 g6 e).2;omega⟩,hBB⟩)
   · rw[if_neg ae];exact hs
   · rw[if_neg ae,hn1]
 ·
  rintro⟨q,m,c',vs'⟩ f2 wz ⟨hr3,hr6,hown,hs,hm,⟨h3,h6⟩,hBB⟩
  simp only at hr3 hown hs hm h3 h6
  have hobt:∃ S',(if i=n then S++[none]else S)=S':=⟨_,rfl⟩
  obtain⟨S',hS'⟩:=hobt
  rw[hS']at hs hm
  have him:i<m:=by
    rw[hm,←hS']
    split
    · rw[List.length_append];simp;omega
    · omega
  have hset:S'.set i (some r)=zjI S i r:=by
    rw[←hS',zjI,hn1]
    split
    · rename_i h;rw[h,←hn1,List.set_append_right _ _ (Nat.le_refl _),Nat.sub_self];rfl
    · rfl
  have hlen:(zbX V i r).slots.length=m:=by
    show(zjI V.slots i r).length=m
    rw[hS,←hset,List.length_set,←hm]
  have hslots:(zbX V i r).slots=zjI S i r:=by
    show zjI V.slots i r=_
    rw[hS]
  have hobt:=hown.form' ae
  obtain⟨g,o,cc,e0,hBg,hgl,-⟩:=hobt
  injection e0 with e1 e2 e3
  subst e1 e3
  have hG:zeg wz B 33 1 g o m c' vs':=hown
  have hvl:vs'.length=m:=by have:=hown.1;omega
  replace hs:zba wz B [g,g3,g6] vs' S':=hs
  have hg3:g≠g3:=fun e=>h3 (by rw[e];rfl)
  have hg6:g≠g6:=fun e=>h6 (by rw[e];rfl)
  refine zah (za3 [g] aa ?_)
  intro w902 hb902 hS902
  replace hr3:=hr3.new hb902
  replace hr6:=hr6.new hb902
  replace hs:=hs.new hb902
  replace hG:=hG.new hb902
  replace hBB:=hBB.acc hb902
  have hr3_d902:=hr3
  have hr6_d902:=hr6
  have hs_d902:=hs
  have hG_d902:=hG
  have hBB_d902:=hBB
  refine zas 0 (zaw 2) (zbo 1 (fun w' hS'=>zau (hr3_d902.kq hS')) (zas 2 (zab) (zas 4 (zab) (zaA 3 aa (zby rfl rfl (zl8 (e:=5) (sz:=1) aa aa (fun g21 w21 hg21 hr21 hb21=>?_)))))))
  have hS903:=hS902.add0 hb21
  refine⟨hS903,?_⟩
  have ge_hS902_g21:=Nat.le_trans hS902.size hg21
  have ge_hBB_g21:=Nat.le_trans hBB.size hg21
  have lt_g3_g21:g3<g21:=Nat.lt_of_lt_of_le hr3.lt hg21
  have lt_g6_g21:g6<g21:=Nat.lt_of_lt_of_le hr6.lt hg21
  have lt_g_g21:g<g21:=Nat.lt_of_lt_of_le hG.lt hg21
  replace hr3:=hr3.new hb21
  replace hr6:=hr6.new hb21
  replace hs:=hs.new hb21
  replace hG:=hG.new hb21
  replace hBB:=hBB.acc hb21
  refine zaA 5 aa ?_
  have l3:=hr3.lt
  have l6:=hr6.lt
  have lG:=hG.lt
  have lB:=hBB.size
  refine zby rfl rfl (zis (e:=5) (sz:=1) (bytes:=1) (z:=.int .u8 0) aa rfl aa rfl aD rfl hr21.lt rfl (hr _ hBB.bel) ae ae (fun g23 o23 c23 w23 hx23 hg23 hlt23 hcc23 hb23=>?_))
  have hS904:=hS903.add0 hb23
  refine⟨hS904,?_⟩
  replace hr3:=hr3.new hb23
  replace hr6:=hr6.new hb23
  replace hs:=hs.new hb23
  replace hG:=hG.new hb23
  replace hBB:=hBB.acc hb23
  have hgb:g<g23∧g3<g23∧g6<g23∧B≤g23:=by rcases hg23 with h|h<;>omega
  refine zas 6 (zaN (e:=33) aa rfl rfl (i) ae ae) (zaA 7 aa (zbB rfl rfl (zd0 ([.slice (some ⟨g23,o23,none⟩) r.length c23]) (i) hG rfl rfl aa aN aL (fun w906 hG ho906=>?_))))
  have hS905:=hS904.aq ho906
  refine⟨hS905,?_⟩
  replace hr3:=hr3.only ho906 ae
  replace hr6:=hr6.only ho906 ae
  replace hs:=hs.only ho906 aB
  replace hx23:=hx23.only ho906 ae
  replace hBB:=hBB.zp1 ho906 ae
  rw[zit ae]at hG
  have hs:=hs.zjI (i:=i) (c:=c23) hx23 (by rw[ho906.size];exact hlt23) aK ae hcc23
  rw[hset]at hs
  have hSz:=fun(w':World) (h1:zaS w' (some ⟨g,o,none⟩) m 1 (vs'.set i (.slice (some ⟨g23,o23,none⟩) r.length c23))) (h2:zba w' B [g,g3,g6] (vs'.set i (.slice (some ⟨g23,o23,none⟩) r.length c23)) (zjI S i r))=>size25 (zbX V i r) (some ⟨g,o,none⟩) c' _ w' B _ (by rw[hlen];exact h1) (by rw[hslots];exact h2) ae
  rw[hlen]at hSz
  refine zaI aa (zaf (zah (zah (zaa (zad (za7 3 hr3) (zao rfl (zaj aa rfl) (hSz w906 hG.sl hs) ?_))))))
  rintro _ w26 ⟨rfl,hb26⟩
  replace hr3:=hr3.new hb26
  replace hr6:=hr6.new hb26
  replace hs:=hs.new hb26
  replace hG:=hG.new hb26
  replace hx23:=hx23.new hb26
  replace hBB:=hBB.acc hb26
  refine zad (zbA rfl rfl) (zae (zaf (za0 rfl (fun hfull=>?_) (fun hfull=>?_))))
  ·
   refine zah (zaa (zad (zbN (bv zcZ) (by rw[←zeh];kernel_rfl)) (zaK rfl (zaQ 512 (bv zcZ) hr6 (fun w907 hr6 ho907=>?_)))))
   replace hr3:=hr3.only ho907 (Nat.ne_of_lt lt_g3_g6)
   replace hs:=hs.only ho907 aB
   replace hG:=hG.only ho907 ae
   replace hx23:=hx23.only ho907 ae
   replace hBB:=hBB.zp1 ho907 ge_hBB_g6
   refine zad (zac) (zae (zaf (zaF (zaW (zan [_,_] ⟨⟨_,rfl,Ld.zb9 (k:=512) hr6 aa aa ak⟩,rfl,trivial⟩ ?_)))))
   exact⟨by rw[if_pos ae];rfl,hBB.bel⟩
  ·
   have hPg:=fun(w':World) (h1:zaS w' (some ⟨g,o,none⟩) m 1 (vs'.set i (.slice (some ⟨g23,o23,none⟩) r.length c23))) (h2:zba w' B [g,g3,g6] (vs'.set i (.slice (some ⟨g23,o23,none⟩) r.length c23)) (zjI S i r))=>zj2 (zbX V i r) (some ⟨g,o,none⟩) c' _ w' B _ (by rw[hlen];exact h1) (by rw[hslots];exact h2) hk hn ae
   rw[hlen]at hPg
   have hbl2:(bv (zay (zbX V i r))).length=512:=by rw[zal];exact zbv (zbX V i r) ae
   refine zat (zaf (zah (zaa (zad (za7 3 hr3) (zao rfl (zaj aa rfl) (hPg w26 hG.sl hs) ?_)))))
   rintro _ w30 ⟨rfl,hb30⟩
   replace hr3:=hr3.new hb30
   replace hr6:=hr6.new hb30
   replace hs:=hs.new hb30
   replace hG:=hG.new hb30
   replace hx23:=hx23.new hb30
   replace hBB:=hBB.acc hb30
   refine zaK rfl (zaQ 512 (bv (zay (zbX V i r))) hr6 (fun w908 hr6 ho908=>?_))
   replace hr3:=hr3.only ho908 (Nat.ne_of_lt lt_g3_g6)
   replace hs:=hs.only ho908 aB
   replace hG:=hG.only ho908 ae
   replace hx23:=hx23.only ho908 ae
   replace hBB:=hBB.zp1 ho908 ge_hBB_g6
   refine bP ?_
   exact⟨by rw[if_neg ae];rfl,hBB.bel⟩
def zia(V:View)(i:Nat)(r:List UInt8):List UInt8:=if 512<zb3 (zbX V i r)then zcZ else zay (zbX V i r)
def zcg(V:View)(i:Nat)(r:List UInt8):Nat:=if 512<zb3 (zbX V i r)then 8 else 0
theorem zj4(V:View)(i:Nat)(r:List UInt8):(bv (zia V i r)).length=512:=by
 unfold zia
 split
 ·exact zd2
 ·rw[zal];exact zbv _ ae
theorem zof (V:View) (p pr:Option Addr) (c cr i B:Nat) (vs:List Value) (r:List UInt8) (w:World) (hown:zaz w B 33 1 (.slice p V.slots.length c) V.slots.length vs) (hs:zba w B (Value.ownBlock (.slice p V.slots.length c)).toList vs V.slots)
  (hBw:B≤w.heap.size) (hr:∀ w',Below B w w'→zaS w' pr r.length 1 (bv r)) (hi:i≤V.slots.length) (hr4:r.length≤400) (hV:Good V):
  Calls Tryz.prog 99 [zod V p V.slots.length c, .int .i64 (i:Int), .slice pr r.length cr].toArray w
   (Ret fun v w'=>v= .tuple #[.agg (bv (zia V i r)).toArray, .int .i64 (zcg V i r:Nat)]∧Below B w w'):=by
 have h:=with24 V p pr c cr i B vs r w hown hs hBw hr hi hr4 hV.size (by have:=hV.kind;omega) hV.next
 refine h.to fun v w' ⟨h1,h2⟩=>⟨?_,h2⟩
 rw[h1,zia,zcg]
 split<;>rfl
theorem zaR{V:View}(hV:Good V):(bv (zay V)).length=512:=by rw[zal];exact zbv V hV.size
def ziu(S:List (Option (List UInt8)))(k:Int):List UInt8:=if zh2 S k then bod (S.getD k.toNat none)else[]
set_option maxRecDepth 20000 in
set_option maxHeartbeats 1000000 in
theorem new7(k:Int)(w:World):Calls Tryz.prog 106 [.int .i64 k].toArray w (Ret fun v w'=>v=(if 0≤k∧k≤4 then .tuple #[.agg (bv (zay ⟨k.toNat,0,[]⟩)).toArray, .int .i64 0]else .tuple #[.agg (bv zcZ).toArray, .int .i64 2])∧Below w.heap.size w w'):=by
 have hB:=Below.refl w.heap.size w
 have hzl:=zd2
 refine zax (fn:=Tryz.f106) (rs:=[.cell 2 62, .tmp 3]) (n:=14) Tryz.func106 rfl rfl Tryz.ntmps106 aa rfl (zah (zaa (zaD rfl (zar (List.replicate 512 (Value.int .u8 0)) aa (fun g2 w2 hg2 hr2 hb2=>?_)))))
 have ge_hB_g2:=Nat.le_trans hB.size hg2
 replace hB:=hB.acc hb2
 rw[zeh]at hr2
 refine zad (zac) (zae (zaf (zah (zah (zaa (zad (zab) (zad (zaY rfl rfl) (zad (zab) (zbI 6 rfl (fun h0=>?_) (fun h0=>?_))))))))))
 ·
  refine zaM rfl rfl (zaM rfl rfl (zad (zaC rfl) (zae (zaf (W_t rfl (zah (zaa (zad (zbN (bv zcZ) (by rw[←zeh];kernel_rfl)) (zaK rfl (zaQ 512 (bv zcZ) hr2 (fun w901 hr2 ho901=>?_)))))))))))
  replace hB:=ho901.below hB ge_hB_g2
  refine bQ ?_
  exact⟨by rw[if_neg ae];rfl,hB⟩
 ·
  refine zaq rfl (zad (zab) (zaq rfl (zad (zbA rfl rfl) (zad (zaE rfl) (zae (zaf (za0 rfl (fun h1=>?_) (fun h1=>?_))))))))
  ·
   refine zah (zaa (zad (zbN (bv zcZ) (by rw[←zeh];kernel_rfl)) (zaK rfl (zaQ 512 (bv zcZ) hr2 (fun w902 hr2 ho902=>?_)))))
   replace hB:=ho902.below hB ge_hB_g2
   refine bQ ?_
   exact⟨by rw[if_neg ae];rfl,hB⟩
  ·
   have hobt:∃ m:Nat,k=m:=⟨k.toNat,ae⟩
   obtain⟨m,rfl⟩:=hobt
   rw[Int.toNat_natCast,if_pos ae]
   have hPg:=fun w'=>zj2 ⟨m,0,[]⟩ none 0 [] w' 0 [] (zaS.nil _ _ _) (zba.nil _ _ _) (by show m<256;omega) (by show 0<2147483648;omega) (by simp[zb3,zbF])
   have hpl:(bv (zay ⟨m,0,[]⟩)).length=512:=by rw[zal];exact zbv _ (by simp[zb3,zbF])
   generalize zay ⟨m,0,[]⟩=Q at hPg hpl ⊢
   refine zat (zaf (zah (zaa (zad (zab) (zad (zfT (.int .i64 (m:Int)) [.int .i64 (m:Int), .int .i64 0, .slice none 0 0] rfl aa) (zao rfl (zaj aa rfl) (hPg w2) ?_))))))
   rintro _ w13 ⟨rfl,hb13⟩
   replace hr2:=hr2.new hb13
   replace hB:=hB.acc hb13
   refine zaK rfl (zaQ 512 (bv Q) hr2 (fun w903 hr2 ho903=>?_))
   replace hB:=ho903.below hB ge_hB_g2
   refine zad (zac) (zae (zaf (zaF (zan [_,_] ⟨⟨_,rfl,Ld.zb9 (k:=512) hr2 aa aa ak⟩,rfl,trivial⟩ ?_))))
   exact⟨rfl,hB⟩
abbrev vw(V:View)(p:Option Addr)(c:Nat):List Value:=[.int .i64 (V.kind:Int), .int .i64 (V.next:Int), .slice p V.slots.length c]
structure Vw(w:World)(lo:Nat)(av:List Nat)(p:Option Addr)(n c:Nat)(vs:List Value)(S:List (Option (List UInt8))):Prop where
 own:zaz w lo 33 1 (.slice p n c) n vs
 slts:zba w lo ((Value.ownBlock (.slice p n c)).toList++av) vs S
 ne:∀ g,g∈av→Value.ownBlock (.slice p n c)≠some g
namespace Vw
variable {w w':World}{lo:Nat}{av:List Nat}{p:Option Addr}{n c:Nat}{vs:List Value}{S:List (Option (List UInt8))}
theorem of(h:OwV w lo p n c vs S):Vw w lo [] p n c vs S:=⟨h.1,by rw[List.append_nil];exact h.2,fun g h=>by simp at h⟩
theorem new(h:Vw w lo av p n c vs S)(hb:Below w.heap.size w w'):Vw w' lo av p n c vs S:=⟨h.own.new hb,h.slts.new hb,h.ne⟩
theorem kpd{M:List Nat}(h:Vw w lo av p n c vs S)(k:Kp M w w')(hM:∀ g,g∈M→g∈av):Vw w' lo av p n c vs S:=
 ⟨h.own.kpd k fun g hm=>h.ne g (hM g hm),h.slts.kpd k fun g hm=>Or.inr (List.mem_append_right _ (hM g hm)),h.ne⟩
theorem only{g:Nat}(h:Vw w lo av p n c vs S)(ho:Only g w w')(hg:g∈av):Vw w' lo av p n c vs S:=h.kpd (Kp.zaZ ho) fun g' hm=>by
 have:g'=g:=by simpa using hm
 rw[this];exact hg
theorem cons{g:Nat}(h:Vw w lo av p n c vs S)(hg:w.heap.size≤g):Vw w lo (g::av) p n c vs S:=by
 refine⟨h.own,h.slts.avoid fun g' hm=>?_,fun g' hm e=>?_⟩
 ·rcases List.mem_append.1 hm with e|e
  ·exact Or.inl (List.mem_append_left _ e)
  ·rcases List.mem_cons.1 e with rfl|e
   ·exact Or.inr (Or.inl hg)
   ·exact Or.inl (List.mem_append_right _ e)
 ·rcases List.mem_cons.1 hm with rfl|e'
  ·have:=(h.own.lt g' e).2;omega
  ·exact h.ne g' e' e
theorem out(h:Vw w lo av p n c vs S):zba w lo (Value.ownBlock (.slice p n c)).toList vs S:=h.slts.avoid fun g hm=>Or.inl (List.mem_append_left _ hm)
theorem len(h:Vw w lo av p n c vs S):vs.length=n:=by have:=h.own.1;omega
theorem some(h:Vw w lo av p n c vs S)(hn:0<n):∃ g o,p=Option.some ⟨g,o,none⟩∧lo≤g∧g<w.heap.size:=by
 obtain⟨g,o,cc,e0,h1,h2,_⟩:=h.own.form' hn
 injection e0 with e1 e2 e3
 exact⟨g,o,e1,h1,h2⟩
end Vw
theorem zdy(V:View)(w:World)(hV:Good V):
  Calls Tryz.prog 97 [.agg (bv (zay V)).toArray].toArray w (Ret fun v w'=>∃ p c vs,v= .tuple #[zod V p V.slots.length c, .bool true]∧Vw w' w.heap.size [] p V.slots.length c vs V.slots∧Below w.heap.size w w'):=
 (read22 V w hV).to fun v w' ⟨p,c,vs,h1,h2,h3⟩=>⟨p,c,vs,h1,Vw.of h2,h3⟩
set_option maxRecDepth 20000 in
theorem zog(V:View)(w:World)(hV:Good V):Calls Tryz.prog 53 [.agg (bv (zay V)).toArray].toArray w (Ret fun v w'=>v= .int .i64 (V.kind:Int)∧Below w.heap.size w w'):=by
 have hB:=Below.refl w.heap.size w
 have hbl:=zaR hV
 refine zax (fn:=Tryz.f53) (rs:=[.tmp 2]) (n:=12) Tryz.func53 rfl rfl Tryz.ntmps53 aa rfl (zah (zaa (zaD rfl (za4 ((bv (zay V))) rfl (fun g1 w1 hg1 hr1 hb1=>?_)))))
 replace hB:=hB.acc hb1
 refine bR ?_
 rintro _ w7 ⟨p,c,vs,rfl,hv,hb7⟩
 replace hB:=hB.acc hb7
 refine bS ?_
 have hv0:=hv
 refine zaD rfl (zar ([Value.int .i64 0,Value.int .i64 0,Value.slice none 0 0]) aa (fun g3 w3 hg3 hr3 hb3=>?_))
 have ge_hB_g3:=Nat.le_trans hB.size hg3
 replace hv:=hv.new hb3
 replace hB:=hB.acc hb3
 replace hv:=(hv0.cons hg3).new hb3
 refine zaK rfl (zaQ 3 (vw V p c) hr3 (fun w901 hr3 ho901=>?_))
 replace hB:=ho901.below hB ge_hB_g3
 refine zad (zac) (zae (zaf (zah (zaa (zad (zaw 0) (zad (zau hr3) (zad (zac) (zae (zaf (zaF (zan [_] ⟨rfl,trivial⟩ ?_)))))))))))
 exact⟨rfl,hB⟩
set_option maxRecDepth 20000 in
theorem zoh(V:View)(w:World)(hV:Good V):Calls Tryz.prog 104 [.agg (bv (zay V)).toArray].toArray w (Ret fun v w'=>v= .int .i64 (V.next:Int)∧Below w.heap.size w w'):=by
 have hB:=Below.refl w.heap.size w
 have hbl:=zaR hV
 refine zax (fn:=Tryz.f104) (rs:=[.tmp 2]) (n:=12) Tryz.func104 rfl rfl Tryz.ntmps104 aa rfl (zah (zaa (zaD rfl (za4 ((bv (zay V))) rfl (fun g1 w1 hg1 hr1 hb1=>?_)))))
 replace hB:=hB.acc hb1
 refine bR ?_
 rintro _ w7 ⟨p,c,vs,rfl,hv,hb7⟩
 replace hB:=hB.acc hb7
 refine bS ?_
 have hv0:=hv
 refine zaD rfl (zar ([Value.int .i64 0,Value.int .i64 0,Value.slice none 0 0]) aa (fun g3 w3 hg3 hr3 hb3=>?_))
 have ge_hB_g3:=Nat.le_trans hB.size hg3
 replace hv:=hv.new hb3
 replace hB:=hB.acc hb3
 replace hv:=(hv0.cons hg3).new hb3
 refine zaK rfl (zaQ 3 (vw V p c) hr3 (fun w901 hr3 ho901=>?_))
 replace hB:=ho901.below hB ge_hB_g3
 refine zad (zac) (zae (zaf (zah (zaa (zad (zaw 1) (zad (zau hr3) (zad (zac) (zae (zaf (zaF (zan [_] ⟨rfl,trivial⟩ ?_)))))))))))
 exact⟨rfl,hB⟩
set_option maxRecDepth 20000 in
theorem may18(V:View)(w:World)(hV:Good V):Calls Tryz.prog 147 [.agg (bv (zay V)).toArray].toArray w (Ret fun v w'=>v= .bool true∧Below w.heap.size w w'):=by
 have hB:=Below.refl w.heap.size w
 have hbl:=zaR hV
 refine zax (fn:=Tryz.f147) (rs:=[.tmp 2]) (n:=11) Tryz.func147 rfl rfl Tryz.ntmps147 aa rfl (zah (zaa (zaD rfl (za4 ((bv (zay V))) rfl (fun g1 w1 hg1 hr1 hb1=>?_)))))
 replace hB:=hB.acc hb1
 refine bR ?_
 rintro _ w7 ⟨p,c,vs,rfl,hv,hb7⟩
 replace hB:=hB.acc hb7
 refine bS ?_
 have hv0:=hv
 refine zaD rfl (zar ([Value.int .i64 0,Value.int .i64 0,Value.slice none 0 0]) aa (fun g3 w3 hg3 hr3 hb3=>?_))
 have ge_hB_g3:=Nat.le_trans hB.size hg3
 replace hv:=hv.new hb3
 replace hB:=hB.acc hb3
 replace hv:=(hv0.cons hg3).new hb3
 refine zaK rfl (zaQ 3 (vw V p c) hr3 (fun w901 hr3 ho901=>?_))
 replace hB:=ho901.below hB ge_hB_g3
 refine zad (zac) (zae (zaf (zah (zaa (zad (zab) (zad (zac) (zae (zaf (zaF (zan [_] ⟨rfl,trivial⟩ ?_))))))))))
 exact⟨rfl,hB⟩
set_option maxRecDepth 20000 in
theorem zoi(V:View)(w:World)(hV:Good V):Calls Tryz.prog 102 [.agg (bv (zay V)).toArray].toArray w (Ret fun v w'=>v= .int .i64 (V.slots.length:Int)∧Below w.heap.size w w'):=by
 have hB:=Below.refl w.heap.size w
 have hbl:=zaR hV
 refine zax (fn:=Tryz.f102) (rs:=[.tmp 2]) (n:=13) Tryz.func102 rfl rfl Tryz.ntmps102 aa rfl (zah (zaa (zaD rfl (za4 ((bv (zay V))) rfl (fun g1 w1 hg1 hr1 hb1=>?_)))))
 replace hB:=hB.acc hb1
 refine bR ?_
 rintro _ w7 ⟨p,c,vs,rfl,hv,hb7⟩
 replace hB:=hB.acc hb7
 refine bS ?_
 have hv0:=hv
 refine zaD rfl (zar ([Value.int .i64 0,Value.int .i64 0,Value.slice none 0 0]) aa (fun g3 w3 hg3 hr3 hb3=>?_))
 have ge_hB_g3:=Nat.le_trans hB.size hg3
 replace hv:=hv.new hb3
 replace hB:=hB.acc hb3
 replace hv:=(hv0.cons hg3).new hb3
 refine zaK rfl (zaQ 3 (vw V p c) hr3 (fun w901 hr3 ho901=>?_))
 replace hB:=ho901.below hB ge_hB_g3
 refine zad (zac) (zae (zaf (zah (zaa (zad (zaw 2) (zad (zau hr3) (zad (zaB (e:=33) (sz:=1) aa rfl rfl) (zad (zac) (zae (zaf (zaF (zan [_] ⟨rfl,trivial⟩ ?_))))))))))))
 exact⟨rfl,hB⟩
theorem zoj:∃ Z,zcZ=Z∧List.replicate 512 (Value.int .u8 0)=bv Z∧(bv Z).length=512:=⟨_,rfl,zeh,zd2⟩
theorem zi5(S:List (Option (List UInt8))):zbY S≤S.length:=List.findIdx_le_length
set_option maxRecDepth 20000 in
theorem get17(V:View)(k:Int)(w:World)(hV:Good V):Calls Tryz.prog 96 [.agg (bv (zay V)).toArray, .int .i64 k].toArray w
   (Ret fun v w'=>(∃ q c,v= .tuple #[.slice q (ziu V.slots k).length c, .int .i64 (if zh2 V.slots k then 0 else 6)]∧zaS w' q (ziu V.slots k).length 1 (bv (ziu V.slots k))∧(ziu V.slots k).length≤c∧∀ b o,q=some ⟨b,o,none⟩→w.heap.size≤b)∧Below w.heap.size w w'):=by
 have hB:=Below.refl w.heap.size w
 have hbl:=zaR hV
 refine zax (fn:=Tryz.f96) (rs:=[.tmp 4, .tmp 5]) (n:=26) Tryz.func96 rfl rfl Tryz.ntmps96 aa rfl (zah (zaa (zaD rfl (za4 ((bv (zay V))) rfl (fun g2 w2 hg2 hr2 hb2=>?_)))))
 replace hB:=hB.acc hb2
 refine zad (zac) (zad (zac) (zae (zaf (zah (zaa (zad (za7 512 hr2) (zao rfl (zaj aa rfl) (zdy V w2 hV) ?_)))))))
 rintro _ w10 ⟨p,c,vs,rfl,hv,hb10⟩
 replace hB:=hB.acc hb10
 refine bS ?_
 have hv0:=hv
 refine zaD rfl (zar ([Value.int .i64 0,Value.int .i64 0,Value.slice none 0 0]) aa (fun g6 w6 hg6 hr6 hb6=>?_))
 have ge_hB_g6:=Nat.le_trans hB.size hg6
 replace hv:=hv.new hb6
 replace hB:=hB.acc hb6
 replace hv:=(hv0.cons hg6).new hb6
 refine zaK rfl (zaQ 3 (vw V p c) hr6 (fun w901 hr6 ho901=>?_))
 replace hv:=hv.only ho901 aB
 replace hB:=ho901.below hB ge_hB_g6
 refine zad (zac) (zae (zaf (zah (zav (zah (zaa (zad (zab) (zad (zbK rfl) (zad (zac) (zae (zaf (zgl rfl (rfl) (zah (zaa (zad (za7 3 hr6) (zad (zab) (zao rfl (zaj aa rfl) (zp3 V p c vs k w901 _ _ hv.own.sl hv.slts) ?_)))))))))))))))))
 rintro _ w19 ⟨rfl,hb19⟩
 replace hv:=hv.new hb19
 replace hr6:=hr6.new hb19
 replace hB:=hB.acc hb19
 refine zad (zbK rfl) (zad (zac) (zae (zaf (zl0 rfl (fun hh=>?_) (fun hh=>?_)))))
 ·
  refine zah (zaa (zad (zac) (zad (zac) (zae (zaf (zaF (zbc (zaW (zan [_,_] ⟨rfl,rfl,trivial⟩ (⟨⟨none,0,?_,?_,?_,fun b o e=>by cases e⟩,hB⟩))))))))))
  · rw[ziu,hh];rfl
  · rw[ziu,hh];exact zaS.nil _ _ _
  · rw[ziu,hh];exact Nat.le_refl _
 ·
  have hobt:∃ i:Nat,k=i:=⟨k.toNat,by unfold zh2 at hh;simp at hh;omega⟩
  obtain⟨i,rfl⟩:=hobt
  obtain⟨s,hsi⟩:∃ s,V.slots[i]?=some s:=by
    refine⟨_,List.getElem?_eq_getElem ?_⟩
    unfold zh2 at hh
    simp only[Bool.and_eq_true]at hh
    have h2:=hh.2
    rw[Int.toNat_natCast,List.getD_eq_getElem?_getD]at h2
    rcases Nat.lt_or_ge i V.slots.length with h|h
    ·exact h
    ·rw[List.getElem?_eq_none h]at h2;cases h2
  have hil:=(List.getElem?_eq_some_iff.1 hsi).1
  have hvv:=hv.slts.val hsi
  obtain⟨q,cq,hv1,hq,hqn,hqc,hqb⟩:=hvv
  have hgr:ziu V.slots (i:Int)=bod s:=by rw[ziu,hh,if_pos rfl,Int.toNat_natCast,List.getD_eq_getElem?_getD,hsi];rfl
  have hsm:=hv.some ae
  obtain⟨g,o,rfl,_,_⟩:=hsm
  refine zat (zaP (zaf (zah (zaa (zad (zaw 2) (zad (zau hr6) (zad (zab) (zad (zaN (e:=33) aa rfl rfl (i) ae ae) (zad (zaG rfl (Ld.sl1 hv.own.sl aa hv1)) (zad (zac) (zad (zac) (zae (zaf (zaF (zan [_,_] ⟨rfl,rfl,trivial⟩ (⟨⟨q,cq,?_,?_,?_,fun b o e=>Nat.le_trans hb2.size (hqb b o e)⟩,hB⟩))))))))))))))))
  · rw[hgr,hh];rfl
  · rw[hgr];exact hq
  · rw[hgr];exact hqc
def roomV(V:View):Int:=max (min (512 - (zb3 V:Int) - (if zbY V.slots=V.slots.length then 4 else 0)) 400) (-1)
def linkV(V:View)(k:Int):View:={V with next:=k.toNat}
def linkP(V:View)(k:Int):List UInt8:=if 0≤k∧k<2147483648 then zay (linkV V k)else zcZ
set_option maxRecDepth 20000 in
set_option maxHeartbeats 1000000 in
theorem zmc(V:View)(m:Nat)(w:World)(hV:Good V)(hm:m<2147483648):Calls Tryz.prog 94 [.agg (bv (zay V)).toArray, .int .i64 (m:Int)].toArray w
  (Ret fun v w'=>v= .tuple #[.agg (bv (zay {V with next:=m})).toArray, .int .i64 0]∧Below w.heap.size w w'):=by
 have hB:=Below.refl w.heap.size w
 have hkd:=hV.kind
 have hPg:=fun w' p c vs lo o h hs=>zj2 {V with next:=m} p c vs w' lo o h hs (by show V.kind<256;omega) hm hV.size
 have hql:(bv (zay {V with next:=m})).length=512:=by rw[zal];exact zbv _ hV.size
 generalize zay {V with next:=m}=Q at hPg hql ⊢
 have hbl:=zaR hV
 have hR:=zdy V
 generalize zay V=Q0 at hR hbl ⊢
 obtain⟨Z,hzz,hzb,hzl⟩:=zoj
 refine zax (fn:=Tryz.f94) (rs:=[.cell 4 62, .tmp 5]) (n:=29) Tryz.func94 rfl rfl Tryz.ntmps94 aa rfl (zah (zaa (zaD rfl (za4 ((bv Q0)) rfl (fun g2 w2 hg2 hr2 hb2=>?_)))))
 replace hB:=hB.acc hb2
 refine zaD rfl (zar (List.replicate 512 (Value.int .u8 0)) aa (fun g4 w4 hg4 hr4 hb4=>?_))
 have ge_hB_g4:=Nat.le_trans hB.size hg4
 replace hr2:=hr2.new hb4
 replace hB:=hB.acc hb4
 rw[hzb]at hr4
 refine zad (zac) (zae (zaf (zah (zaa (zad (za7 512 hr2) (zao rfl (zaj aa rfl) (hR w4 hV) ?_))))))
 rintro _ w10 ⟨p,c,vs,rfl,hv,hb10⟩
 replace hr4:=hr4.new hb10
 replace hB:=hB.acc hb10
 refine bS ?_
 have hv0:=hv
 refine zaD rfl (zar ([Value.int .i64 0,Value.int .i64 0,Value.slice none 0 0]) aa (fun g6 w6 hg6 hr6 hb6=>?_))
 have ge_hB_g6:=Nat.le_trans hB.size hg6
 have lt_g4_g6:g4<g6:=Nat.lt_of_lt_of_le hr4.lt hg6
 replace hr4:=hr4.new hb6
 replace hv:=hv.new hb6
 replace hB:=hB.acc hb6
 replace hv:=(hv0.cons hg6).new hb6
 refine zaK rfl (zaQ 3 (vw V p c) hr6 (fun w901 hr6 ho901=>?_))
 replace hr4:=hr4.only ho901 (Nat.ne_of_lt lt_g4_g6)
 replace hv:=hv.only ho901 aB
 replace hB:=ho901.below hB ge_hB_g6
 refine zad (zac) (zae (zaf (zah (zav (zah (zaa (zad (zab) (zad (zbK rfl) (zad (zac) (zae (zaf (zgl rfl (rfl) (zah (zaa (zad (zab) (zad (zaY rfl rfl) (zad (zab) (zfl 20 rfl (ae) (zaq rfl (zad (zab) (zaq rfl (zad (zcH rfl rfl) (zad (zaE rfl) (zad (zac) (zae (zaf (zcF rfl (ae) (zat (zaP (zaf (zah (zaa (zad (zab) (zad (zaw 1) (zaK rfl (zbn hr6 (fun w902 hr6 ho902=>?_)))))))))))))))))))))))))))))))))))))
 replace hr4:=hr4.only ho902 (Nat.ne_of_lt lt_g4_g6)
 replace hv:=hv.only ho902 aB
 replace hB:=ho902.below hB ge_hB_g6
 refine zae (zaf (zah (zaa (zad (za7 3 hr6) (zao rfl (zaj aa rfl) (hPg w902 p c vs _ _ hv.own.sl hv.slts) ?_)))))
 rintro _ w28 ⟨rfl,hb28⟩
 replace hr4:=hr4.new hb28
 replace hB:=hB.acc hb28
 refine zaK rfl (zaQ 512 (bv Q) hr4 (fun w903 hr4 ho903=>?_))
 replace hB:=ho903.below hB ge_hB_g4
 refine bT ?_
 exact⟨rfl,hB⟩
def zi6(V:View)(r:List UInt8):Nat:=if 400<r.length then 3 else zcg V (zbY V.slots) r
def zpO(V:View)(r:List UInt8):List UInt8:=if zi6 V r=0 then zay (zbX V (zbY V.slots) r)else zcZ
set_option maxRecDepth 20000 in
set_option maxHeartbeats 1000000 in
theorem lay8(V:View)(pr:Option Addr)(cr:Nat)(r:List UInt8)(w:World)(hV:Good V)(hr:zaS w pr r.length 1 (bv r)):Calls Tryz.prog 92 [.agg (bv (zay V)).toArray, .slice pr r.length cr].toArray w
   (Ret fun v w'=>v= .tuple #[.agg (bv (zpO V r)).toArray, .int .i64 (if zi6 V r=0 then zbY V.slots else 0:Nat), .int .i64 (zi6 V r:Nat)]∧Below w.heap.size w w'):=by
 have hB:=Below.refl w.heap.size w
 have hR:=zdy V
 have hbl:=zaR hV
 have hfl:=zi5 V.slots
 obtain⟨F,hF⟩:∃ F,zbY V.slots=F:=⟨_,rfl⟩
 have hFr:=free23 V
 rw[hF]at hfl hFr
 have hW:=zof V
 have hWl:=zj4 V F r
 have hPE:zcg V F r=0∨zcg V F r=8:=by unfold zcg;split<;>simp
 have hPE2:zcg V F r=0→zia V F r=zay (zbX V F r):=by
   unfold zcg zia;split
   ·intro h;cases h
   ·intro _;rfl
 rw[zpO,zi6,hF]
 obtain⟨P,hP⟩:∃ P,zia V F r=P:=⟨_,rfl⟩
 obtain⟨E,hE⟩:∃ E,zcg V F r=E:=⟨_,rfl⟩
 obtain⟨R,hRr⟩:∃ R,zay (zbX V F r)=R:=⟨_,rfl⟩
 have hW2:=fun p c cr B vs w h1 h2 h3 h4 h5=>hW p pr c cr F B vs r w h1 h2 h3 h4 hfl h5 hV
 rw[hP,hE]at hW2
 rw[hP]at hWl
 rw[hE]at hPE
 rw[hP,hE,hRr]at hPE2
 rw[hE,hRr]
 clear hW hP hE hRr
 generalize zay V=Q at hR hbl ⊢
 obtain⟨Z,hzz,hzb,hzl⟩:=zoj
 rw[hzz]
 refine zax (fn:=Tryz.f92) (rs:=[.cell 4 62, .tmp 5, .tmp 6]) (n:=41) Tryz.func92 rfl rfl Tryz.ntmps92 aa rfl (zah (zaa (zaD rfl (za4 ((bv Q)) rfl (fun g2 w2 hg2 hr2 hb2=>?_)))))
 replace hB:=hB.acc hb2
 refine zaD rfl (zar (List.replicate 512 (Value.int .u8 0)) aa (fun g4 w4 hg4 hr4 hb4=>?_))
 have ge_hB_g4:=Nat.le_trans hB.size hg4
 replace hr2:=hr2.new hb4
 replace hB:=hB.acc hb4
 rw[hzb]at hr4
 refine zad (zac) (zad (zac) (zae (zaf (zah (zaa (zad (za7 512 hr2) ?_))))))
 have hszlo:=hB.size
 have l4:=hr4.lt
 have hBr:=Below.refl w4.heap.size w4
 refine zao rfl (zaj aa rfl) (hR w4 hV) ?_
 rintro _ w14 ⟨p,c,vs,rfl,hv,hb14⟩
 replace hr4:=hr4.new hb14
 replace hB:=hB.acc hb14
 replace hBr:=hBr.acc hb14
 refine bS ?_
 have hv0:=hv
 refine zaD rfl (zar ([Value.int .i64 0,Value.int .i64 0,Value.slice none 0 0]) aa (fun g7 w7 hg7 hr7 hb7=>?_))
 have ge_hB_g7:=Nat.le_trans hB.size hg7
 have ge_hBr_g7:=Nat.le_trans hBr.size hg7
 have lt_g4_g7:g4<g7:=Nat.lt_of_lt_of_le hr4.lt hg7
 replace hr4:=hr4.new hb7
 replace hv:=hv.new hb7
 replace hB:=hB.acc hb7
 replace hBr:=hBr.acc hb7
 replace hv:=(hv0.cons hg7).new hb7
 refine zaK rfl (zaQ 3 (vw V p c) hr7 (fun w901 hr7 ho901=>?_))
 replace hr4:=hr4.only ho901 (Nat.ne_of_lt lt_g4_g7)
 replace hv:=hv.only ho901 aB
 replace hB:=ho901.below hB ge_hB_g7
 replace hBr:=ho901.below hBr ge_hBr_g7
 refine zad (zac) (zae (zaf (zah (zav (zah (zaa (zad (zab) (zad (zbK rfl) (zad (zac) (zae (zaf (zgl rfl (rfl) (zah (zaa (zad (zab) (zad (zaB (e:=5) (sz:=1) aa rfl rfl) (zad (zbA rfl rfl) (zad (zac) (zae (zaf (za0 rfl (fun hlen=>?_) (fun hlen=>?_))))))))))))))))))))))
 ·
  refine zah (zaa (zad (zbN (bv Z) aU) (zaK rfl (zaQ 512 (bv Z) hr4 (fun w902 hr4 ho902=>?_)))))
  replace hB:=ho902.below hB ge_hB_g4
  refine zad (zac) (zad (zac) (zae (zaf (zaF (zbc (zaW (zan [_,_,_] ⟨⟨_,rfl,Ld.zb9 (k:=512) hr4 aa aa ak⟩,rfl,rfl,trivial⟩ ?_)))))))
  have hE0:(if 400<r.length then 3 else E)=3:=if_pos ae
  rw[hE0]
  exact⟨rfl,hB⟩
 ·
  have hE0:(if 400<r.length then 3 else E)=E:=if_neg ae
  rw[hE0]
  refine zat (zaP (zaf (zah (zaa (zad (za7 3 hr7) (zao rfl (zaj aa rfl) (hFr p c vs w901 _ _ hv.own.sl hv.slts) ?_))))))
  rintro _ w27 ⟨rfl,hb27⟩
  replace hr4:=hr4.new hb27
  replace hv:=hv.new hb27
  replace hr7:=hr7.new hb27
  replace hB:=hB.acc hb27
  replace hBr:=hBr.acc hb27
  refine zad (zac) (zae (zaf (zah (zaa (zad (za7 3 hr7) (zad (zab) (zad (zab) ?_)))))))
  have hrr:=fun w' hb=>hr.below (w':=w') (hB.trans (Below.mono hb hszlo)) (Nat.le_refl _)
  refine zao rfl (zaj aa rfl) (hW2 p c cr _ vs w27 hv.own hv.out hBr.size hrr ae) ?_
  rintro _ w32 ⟨rfl,hb32⟩
  replace hB:=hB.trans (hb32.mono hszlo)
  replace hr4:=hr4.below hb32 l4
  refine zad (zab) (zad (zai rfl rfl) (zad (zai rfl rfl) (zaD rfl (zar (List.replicate 512 (Value.int .u8 0)) aa (fun g10 w10 hg10 hr10 hb10=>?_)))))
  have ge_hB_g10:=Nat.le_trans hB.size hg10
  have lt_g4_g10:g4<g10:=Nat.lt_of_lt_of_le hr4.lt hg10
  replace hr4:=hr4.new hb10
  replace hB:=hB.acc hb10
  rw[hzb]at hr10
  refine zaK rfl (zaQ 512 (bv P) hr10 (fun w903 hr10 ho903=>?_))
  replace hr4:=hr4.only ho903 (Nat.ne_of_lt lt_g4_g10)
  replace hB:=ho903.below hB ge_hB_g10
  refine zad (zac) (zae (zaf (zah (zah (zaa (zad (zab) (zad (zaX rfl rfl) (zae (zaf (za0 rfl (fun hne=>?_) (fun hne=>?_)))))))))))
  ·
   refine zah (zaa (zad (zbN (bv Z) aU) (zad (zab) (zaK rfl (zaQ 512 (bv Z) hr4 (fun w904 hr4 ho904=>?_))))))
   replace hB:=ho904.below hB ge_hB_g4
   refine zad (zac) (zad (zac) (zae (zaf (zaF (zaW (zan [_,_,_] ⟨⟨_,rfl,Ld.zb9 (k:=512) hr4 aa aa ak⟩,rfl,rfl,trivial⟩ ?_))))))
   rw[if_neg ae,if_neg ae]
   exact⟨rfl,hB⟩
  ·
   refine zat (zaf (zah (zaa (zad (za7 512 hr10) (zad (zab) (zaK rfl (zaQ 512 (bv P) hr4 (fun w905 hr4 ho905=>?_))))))))
   replace hB:=ho905.below hB ge_hB_g4
   refine zad (zac) (zad (zac) (zae (zaf (zaF (zan [_,_,_] ⟨⟨_,rfl,Ld.zb9 (k:=512) hr4 aa aa ak⟩,rfl,rfl,trivial⟩ ?_)))))
   have hE1:E=0:=by omega
   have hP1:=hPE2 hE1
   refine⟨?_,hB⟩
   show Value.tuple #[.agg (bv P).toArray, .int .i64 (F:Nat), .int .i64 (0:Nat)]=_
   rw[if_pos hE1,if_pos hE1,hP1,hE1]
def putE(V:View)(k:Int)(r:List UInt8):Nat:=if 400<r.length then 3 else if zh2 V.slots k then zcg V k.toNat r else 6
def putG(V:View)(k:Int)(r:List UInt8):List UInt8:=if putE V k r=0 then zay (zbX V k.toNat r)else zcZ
theorem zj5{S:List (Option (List UInt8))}{k:Int}(h:zh2 S k=true):∃ (i:Nat) (r:List UInt8),k=(i:Int)∧S[i]?=some (some r):=by
 unfold zh2 at h
 simp only[Bool.and_eq_true,decide_eq_true_eq]at h
 obtain⟨h0,h2⟩:=h
 rw[List.getD_eq_getElem?_getD]at h2
 cases h3:S[k.toNat]? with
 |none=>rw[h3]at h2;cases h2
 |some s=>
  rw[h3]at h2
  cases s with
  |none=>cases h2
  |some r=>exact⟨k.toNat,r,ae,h3⟩
theorem zft{S:List (Option (List UInt8))}{i:Nat}{r:List UInt8}(h:S[i]?=some (some r)):zh2 S (i:Int)=true:=by
 rw[zh2,Int.toNat_natCast,List.getD_eq_getElem?_getD,h,decide_eq_true ae];rfl
set_option maxRecDepth 20000 in
set_option maxHeartbeats 1000000 in
theorem put30(V:View)(k:Int)(pr:Option Addr)(cr:Nat)(r:List UInt8)(w:World)(hV:Good V)(hr:zaS w pr r.length 1 (bv r)):Calls Tryz.prog 43 [.agg (bv (zay V)).toArray, .int .i64 k, .slice pr r.length cr].toArray w
   (Ret fun v w'=>v= .tuple #[.agg (bv (putG V k r)).toArray, .int .i64 (putE V k r:Nat)]∧Below w.heap.size w w'):=by
 have hB:=Below.refl w.heap.size w
 have hR:=zdy V
 have hbl:=zaR hV
 have hW:=zof V
 have hWl:=zj4 V k.toNat r
 have hPE:zcg V k.toNat r=0∨zcg V k.toNat r=8:=by unfold zcg;split<;>simp
 have hPE2:(if zcg V k.toNat r=0 then zay (zbX V k.toNat r)else zcZ)=zia V k.toNat r:=by
   unfold zcg zia;split<;>simp
 rw[putG,putE]
 have hW2:=fun p c cr B vs w h1 h2 h3 h4 h5 h6=>hW p pr c cr k.toNat B vs r w h1 h2 h3 h4 h5 h6 hV
 obtain⟨P,hP⟩:∃ P,zia V k.toNat r=P:=⟨_,rfl⟩
 obtain⟨E,hE⟩:∃ E,zcg V k.toNat r=E:=⟨_,rfl⟩
 obtain⟨R,hRr⟩:∃ R,zay (zbX V k.toNat r)=R:=⟨_,rfl⟩
 rw[hP,hE]at hW2
 rw[hP]at hWl
 rw[hE]at hPE
 rw[hP,hE,hRr]at hPE2
 rw[hE,hRr]
 clear hW hP hE hRr
 generalize zay V=Q at hR hbl ⊢
 obtain⟨Z,hzz,hzb,hzl⟩:=zoj
 rw[hzz]at hPE2 ⊢
 have h26:=zp3 V
 obtain⟨H,hH⟩:∃ H,zh2 V.slots k=H:=⟨_,rfl⟩
 have hHs:=zj5 (S:=V.slots) (k:=k)
 have h26:=fun p c vs w lo o h1 h2=>h26 p c vs k w lo o h1 h2
 rw[hH]at hHs h26 ⊢
 refine zax (fn:=Tryz.f43) (rs:=[.cell 6 62, .tmp 7]) (n:=36) Tryz.func43 rfl rfl Tryz.ntmps43 aa rfl (zah (zaa (zaD rfl (za4 ((bv Q)) rfl (fun g3 w3 hg3 hr3 hb3=>?_)))))
 replace hB:=hB.acc hb3
 refine zaD rfl (zar (List.replicate 512 (Value.int .u8 0)) aa (fun g6 w6 hg6 hr6 hb6=>?_))
 have ge_hB_g6:=Nat.le_trans hB.size hg6
 replace hr3:=hr3.new hb6
 replace hB:=hB.acc hb6
 rw[hzb]at hr6
 refine zad (zac) (zae (zaf (zah (zaa (zad (za7 512 hr3) ?_)))))
 have hszlo:=hB.size
 have l6:=hr6.lt
 have hBr:=Below.refl w6.heap.size w6
 refine zao rfl (zaj aa rfl) (hR w6 hV) ?_
 rintro _ w12 ⟨p,c,vs,rfl,hv,hb12⟩
 replace hr6:=hr6.new hb12
 replace hB:=hB.acc hb12
 replace hBr:=hBr.acc hb12
 refine bS ?_
 have hv0:=hv
 refine zaD rfl (zar ([Value.int .i64 0,Value.int .i64 0,Value.slice none 0 0]) aa (fun g8 w8 hg8 hr8 hb8=>?_))
 have ge_hB_g8:=Nat.le_trans hB.size hg8
 have ge_hBr_g8:=Nat.le_trans hBr.size hg8
 have lt_g6_g8:g6<g8:=Nat.lt_of_lt_of_le hr6.lt hg8
 replace hr6:=hr6.new hb8
 replace hv:=hv.new hb8
 replace hB:=hB.acc hb8
 replace hBr:=hBr.acc hb8
 replace hv:=(hv0.cons hg8).new hb8
 refine zaK rfl (zaQ 3 (vw V p c) hr8 (fun w901 hr8 ho901=>?_))
 replace hr6:=hr6.only ho901 (Nat.ne_of_lt lt_g6_g8)
 replace hv:=hv.only ho901 aB
 replace hB:=ho901.below hB ge_hB_g8
 replace hBr:=ho901.below hBr ge_hBr_g8
 refine zad (zac) (zae (zaf (zah (zav (zah (zaa (zad (zab) (zad (zbK rfl) (zad (zac) (zae (zaf (zgl rfl (rfl) (zah (zaa (zad (zab) (zad (zaB (e:=5) (sz:=1) aa rfl rfl) (zad (zbA rfl rfl) (zad (zac) (zae (zaf (za0 rfl (fun hlen=>?_) (fun hlen=>?_))))))))))))))))))))))
 ·
  refine zah (zaa (zad (zbN (bv Z) aU) (zaK rfl (zaQ 512 (bv Z) hr6 (fun w902 hr6 ho902=>?_)))))
  replace hB:=ho902.below hB ge_hB_g6
  refine bU ?_
  have hE0:(if 400<r.length then 3 else if H=true then E else 6)=3:=if_pos ae
  rw[hE0]
  exact⟨rfl,hB⟩
 ·
  have hE0:(if 400<r.length then 3 else if H=true then E else 6)=if H=true then E else 6:=if_neg ae
  rw[hE0]
  refine zah (zaa (zad (za7 3 hr8) (zad (zab) (zao rfl (zaj aa rfl) (h26 p c vs w901 _ _ hv.own.sl hv.slts) ?_))))
  rintro _ w27 ⟨rfl,hb27⟩
  replace hr6:=hr6.new hb27
  replace hv:=hv.new hb27
  replace hr8:=hr8.new hb27
  replace hB:=hB.acc hb27
  replace hBr:=hBr.acc hb27
  refine zad (zbK rfl) (zad (zac) (zae (zaf (zl0 rfl (fun hh=>?_) (fun hh=>?_)))))
  ·
   refine zah (zaa (zad (zbN (bv Z) aU) (zaK rfl (zaQ 512 (bv Z) hr6 (fun w903 hr6 ho903=>?_)))))
   replace hB:=ho903.below hB ge_hB_g6
   refine bU ?_
   rw[hh]
   exact⟨rfl,hB⟩
  ·
   have hHk:=hHs hh
   obtain⟨i,r0,hki,hsi⟩:=hHk
   have hil:=(List.getElem?_eq_some_iff.1 hsi).1
   subst hki
   simp only[Int.toNat_natCast]at hW2
   rw[hh,if_pos rfl,hPE2]
   refine zat (zaP (zaf (zah (zaa (zad (za7 3 hr8) (zad (zab) (zad (zab) ?_)))))))
   have hrr:=fun w' hb=>hr.below (w':=w') (hB.trans (Below.mono hb hszlo)) (Nat.le_refl _)
   refine zao rfl (zaj aa rfl) (hW2 p c cr _ vs w27 hv.own hv.out hBr.size hrr ae ae) ?_
   rintro _ w33 ⟨rfl,hb33⟩
   replace hB:=hB.trans (hb33.mono hszlo)
   replace hr6:=hr6.below hb33 l6
   refine zad (zai rfl rfl) (zad (zai rfl rfl) (zaK rfl (zaQ 512 (bv P) hr6 (fun w904 hr6 ho904=>?_))))
   replace hB:=ho904.below hB ge_hB_g6
   refine bP ?_
   exact⟨rfl,hB⟩
def trimS(S:List (Option (List UInt8))):List (Option (List UInt8)):=(S.reverse.dropWhile Option.isNone).reverse
theorem zi7(S:List (Option (List UInt8))):trimS (S++[none])=trimS S:=by simp[trimS]
theorem zhq(S:List (Option (List UInt8)))(r:List UInt8):trimS (S++[some r])=S++[some r]:=by simp[trimS]
theorem zj6(S:List (Option (List UInt8))):∃ k,k≤S.length∧trimS S=S.take k∧(S.take k).getLast?≠some none∧zbF (S.take k)=zbF S:=by
 induction hn:S.length generalizing S with
 |zero=>exact⟨0,Nat.zero_le _,by rw[List.eq_nil_of_length_eq_zero hn];rfl,ay,by rw[List.eq_nil_of_length_eq_zero hn];rfl⟩
 |succ n ih=>
  rcases List.eq_nil_or_concat S with rfl|⟨T,s,rfl⟩
  ·simp at hn
  ·rw[List.concat_eq_append]at hn ⊢
   have hT:T.length=n:=by simp at hn;omega
   cases s with
   |none=>
    obtain⟨k,h1,h2,h3,h4⟩:=ih T hT
    refine⟨k,ae,?_,?_,?_⟩
    ·rw[zi7,h2,List.take_append_of_le_length ae]
    ·rwa [List.take_append_of_le_length ae]
    ·rw[List.take_append_of_le_length ae,h4,zdn];simp[zbF,bod]
   |some r=>
    refine⟨n+1,Nat.le_refl _,?_,?_,?_⟩
    ·rw[zhq,List.take_of_length_le aK]
    ·rw[List.take_of_length_le aK];simp
    ·rw[List.take_of_length_le aK]
def wtV(V:View)(i:Nat):View:={V with slots:=trimS (V.slots.set i none)}
def zp7(V:View)(k:Int):List UInt8:=if zh2 V.slots k then zay (wtV V k.toNat)else zcZ
theorem zj7:∀ (S:List (Option (List UInt8))) (i:Nat),zbF (S.set i none)≤zbF S
 |[],i=>by simp
 |t::S,0=>by simp[zbF,bod]
 |t::S,i+1=>by simp only[List.set_cons_succ,zbF];have:=zj7 S i;omega
theorem zmd(V:View)(i:Nat):zb3 (wtV V i)≤zb3 V:=by
 obtain⟨k,h1,h2,_,h4⟩:=zj6 (V.slots.set i none)
 have h5:=zj7 V.slots i
 rw[List.length_set]at h1
 unfold zb3 wtV
 dsimp only
 rw[h2,h4,List.length_take,List.length_set]
 omega
set_option maxRecDepth 20000 in
set_option maxHeartbeats 1000000 in
theorem take11a(V:View)(k:Int)(w:World)(hV:Good V)(hk:zh2 V.slots k=false):Calls Tryz.prog 101 [.agg (bv (zay V)).toArray, .int .i64 k].toArray w
  (Ret fun v w'=>v= .tuple #[.agg (bv zcZ).toArray, .int .i64 6]∧Below w.heap.size w w'):=by
 have hB:=Below.refl w.heap.size w
 have hR:=zdy V
 have hbl:=zaR hV
 generalize zay V=Q at hR hbl ⊢
 obtain⟨Z,hzz,hzb,hzl⟩:=zoj
 rw[hzz]
 have h26:=fun p c vs w lo o h1 h2=>zp3 V p c vs k w lo o h1 h2
 rw[hk]at h26
 refine zax (fn:=Tryz.f101) (rs:=[.cell 4 62, .tmp 5]) (n:=52) Tryz.func101 rfl rfl Tryz.ntmps101 aa rfl (zah (zaa (zaD rfl (za4 ((bv Q)) rfl (fun g2 w2 hg2 hr2 hb2=>?_)))))
 replace hB:=hB.acc hb2
 refine zaD rfl (zar (List.replicate 512 (Value.int .u8 0)) aa (fun g4 w4 hg4 hr4 hb4=>?_))
 have ge_hB_g4:=Nat.le_trans hB.size hg4
 replace hr2:=hr2.new hb4
 replace hB:=hB.acc hb4
 rw[hzb]at hr4
 refine zad (zac) (zae (zaf (zah (zaa (zad (za7 512 hr2) (zao rfl (zaj aa rfl) (hR w4 hV) ?_))))))
 rintro _ w10 ⟨p,c,vs,rfl,hv,hb10⟩
 replace hr4:=hr4.new hb10
 replace hB:=hB.acc hb10
 refine bS ?_
 have hv0:=hv
 refine zaD rfl (zar ([Value.int .i64 0,Value.int .i64 0,Value.slice none 0 0]) aa (fun g6 w6 hg6 hr6 hb6=>?_))
 have ge_hB_g6:=Nat.le_trans hB.size hg6
 have lt_g4_g6:g4<g6:=Nat.lt_of_lt_of_le hr4.lt hg6
 replace hr4:=hr4.new hb6
 replace hv:=hv.new hb6
 replace hB:=hB.acc hb6
 replace hv:=(hv0.cons hg6).new hb6
 refine zaK rfl (zaQ 3 (vw V p c) hr6 (fun w901 hr6 ho901=>?_))
 replace hr4:=hr4.only ho901 (Nat.ne_of_lt lt_g4_g6)
 replace hv:=hv.only ho901 aB
 replace hB:=ho901.below hB ge_hB_g6
 refine bV ?_
 rintro _ w20 ⟨rfl,hb20⟩
 replace hr4:=hr4.new hb20
 replace hB:=hB.acc hb20
 refine zad (zbK rfl) (zad (zac) (zae (zaf (zpT rfl (rfl) (zah (zaa (zad (zbN (bv Z) aU) (zaK rfl (zaQ 512 (bv Z) hr4 (fun w902 hr4 ho902=>?_))))))))))
 replace hB:=ho902.below hB ge_hB_g4
 refine zad (zac) (zae (zaf (zaF (zbc (zaW (zan [_,_] ⟨⟨_,rfl,Ld.zb9 (k:=512) hr4 aa aa ak⟩,rfl,trivial⟩ ?_))))))
 exact⟨rfl,hB⟩
set_option maxRecDepth 20000 in
set_option maxHeartbeats 2000000 in
theorem take11b(V:View)(i:Nat)(r:List UInt8)(w:World)(hV:Good V)(hi:V.slots[i]?=some (some r)):Calls Tryz.prog 101 [.agg (bv (zay V)).toArray, .int .i64 (i:Int)].toArray w
   (Ret fun v w'=>v= .tuple #[.agg (bv (zay (wtV V i))).toArray, .int .i64 0]∧Below w.heap.size w w'):=by
 have hB:=Below.refl w.heap.size w
 have hml:maxLen=9223372036854775807:=by decide
 have hR:=zdy V
 have hbl:=zaR hV
 have hil:=(List.getElem?_eq_some_iff.1 hi).1
 have hws:=zmd V i
 have hVs:=hV.size
 have hVs2:=hV.size
 unfold zb3 at hVs2
 have hkd:=hV.kind
 have hnx:=hV.next
 have hql:(bv (zay (wtV V i))).length=512:=by rw[zal];exact zbv _ ae
 have hPg:=fun w' p c vs lo o h1 h2=>zj2 (wtV V i) p c vs w' lo o h1 h2 (by show V.kind<256;omega) hnx ae
 obtain⟨T,hT⟩:∃ T,trimS (V.slots.set i none)=T:=⟨_,rfl⟩
 have hT2:(wtV V i).slots=T:=hT
 rw[hT2]at hPg
 generalize zay (wtV V i)=Y at hPg hql ⊢
 generalize zay V=Q at hR hbl ⊢
 obtain⟨Z,hzz,hzb,hzl⟩:=zoj
 clear hzz
 have h26:=fun p c vs w lo o h1 h2=>zp3 V p c vs (i:Int) w lo o h1 h2
 rw[zft hi]at h26
 refine zax (fn:=Tryz.f101) (rs:=[.cell 4 62, .tmp 5]) (n:=52) Tryz.func101 rfl rfl Tryz.ntmps101 aa rfl (zah (zaa (zaD rfl (za4 ((bv Q)) rfl (fun g2 w2 hg2 hr2 hb2=>?_)))))
 replace hB:=hB.acc hb2
 refine zaD rfl (zar (List.replicate 512 (Value.int .u8 0)) aa (fun g4 w4 hg4 hr4 hb4=>?_))
 have ge_hB_g4:=Nat.le_trans hB.size hg4
 replace hr2:=hr2.new hb4
 replace hB:=hB.acc hb4
 rw[hzb]at hr4
 refine zad (zac) (zae (zaf (zah (zaa (zad (za7 512 hr2) ?_)))))
 have hszlo:=hB.size
 have l4:=hr4.lt
 have hBr:=Below.refl w4.heap.size w4
 refine zao rfl (zaj aa rfl) (hR w4 hV) ?_
 rintro _ w10 ⟨p,c,vs,rfl,hv,hb10⟩
 replace hr4:=hr4.new hb10
 replace hB:=hB.acc hb10
 refine bS ?_
 have hv0:=hv
 refine zaD rfl (zar ([Value.int .i64 0,Value.int .i64 0,Value.slice none 0 0]) aa (fun g6 w6 hg6 hr6 hb6=>?_))
 have ge_hB_g6:=Nat.le_trans hB.size hg6
 have lt_g4_g6:g4<g6:=Nat.lt_of_lt_of_le hr4.lt hg6
 replace hr4:=hr4.new hb6
 replace hv:=hv.new hb6
 replace hB:=hB.acc hb6
 replace hv:=(hv0.cons hg6).new hb6
 refine zaK rfl (zaQ 3 (vw V p c) hr6 (fun w901 hr6 ho901=>?_))
 replace hr4:=hr4.only ho901 (Nat.ne_of_lt lt_g4_g6)
 replace hv:=hv.only ho901 aB
 replace hB:=ho901.below hB ge_hB_g6
 refine bV ?_
 rintro _ w20 ⟨rfl,hb20⟩
 replace hr4:=hr4.new hb20
 replace hv:=hv.new hb20
 replace hr6:=hr6.new hb20
 replace hB:=hB.acc hb20
 refine zad (zbK rfl) (zad (zac) (zae (zaf (zgl rfl (rfl) (zat (zaP (zaf (zah (zaa (zad (zaw 2) (zad (zau hr6) ?_)))))))))))
 have hsm:=hv.some ae
 obtain⟨g,o,rfl,hBg,hgl⟩:=hsm
 have hne6:g≠g6:=fun e=>hv.ne g6 ay (by rw[e];rfl)
 have hG:zeg w20 w4.heap.size 33 1 g o V.slots.length c vs:=hv.own
 have hs:zba w20 w4.heap.size [g,g6] vs V.slots:=hv.slts
 have hvl:=hv.len
 refine zad (zab) (zad (zaN (e:=33) aa rfl rfl (i) ae ae) (zaK rfl (zd0 ([.slice none 0 0]) (i) hG rfl rfl aa aN aL (fun w902 hG ho902=>?_))))
 replace hr4:=hr4.only ho902 ae
 replace hr6:=hr6.only ho902 ae
 replace hs:=hs.only ho902 aB
 replace hB:=ho902.below hB ae
 rw[zit ae]at hG
 replace hs:=hs.zpN (i:=i)
 refine zae (zaf (zah (zav ?_)))
 have hobt:∃ S2,V.slots.set i none=S2:=⟨_,rfl⟩
 obtain⟨S2,hS2⟩:=hobt
 have hobt:∃ v2,vs.set i (.slice none 0 0)=v2:=⟨_,rfl⟩
 obtain⟨v2,hv2⟩:=hobt
 have hobt:∃ n,V.slots.length=n:=⟨_,rfl⟩
 obtain⟨n,hn⟩:=hobt
 rw[hn]at hVs2
 have hS2l:S2.length=n:=by rw[←hS2,List.length_set,hn]
 have hv2l:v2.length=n:=by rw[←hv2,List.length_set,hvl,hn]
 rw[hS2]at hs hT
 rw[hv2]at hs hG
 rw[hn]at hG
 replace hr6:row w902 g6 [.int .i64 (V.kind:Int), .int .i64 (V.next:Int), .slice (some ⟨g,o,none⟩) n c] 155:=by rw[←hn];exact hr6
 clear hv0 h26 hR hv
 refine zbq (α:=Nat) n (fun _=>[(6, .pointer (some ⟨g6,0,none⟩)),(4, .pointer (some ⟨g4,0,none⟩))])
   (fun m w'=>m≤n∧trimS (S2.take m)=T∧row w' g6 [.int .i64 (V.kind:Int), .int .i64 (V.next:Int), .slice (some ⟨g,o,none⟩) m c] 155∧row w' g4 (bv Z) 62∧zeg w' w4.heap.size 33 1 g o m c (v2.take m)∧zba w' w4.heap.size [g,g6] (v2.take m) (S2.take m)∧Below w.heap.size w w') (fun m=>m)
   ⟨rfl,rfl,rfl⟩ ⟨Nat.le_refl _,by rw[List.take_of_length_le ae];exact hT,hr6,hr4,by rw[List.take_of_length_le ae];exact hG,by rw[List.take_of_length_le ae,List.take_of_length_le ae];exact hs,hB⟩ ?_
 clear hr4 hr6 hG hs hB
 rintro m f wr ⟨hm,htr,hr6,hr4,hG,hs,hB⟩
 have hcl:=hG.len
 refine zah (zah (zaa (zad (zaw 2) (zad (zau hr6) (zad (zaB (e:=33) (sz:=1) aa rfl rfl) (zad (zbA rfl rfl) (zad (zab) (zbI 31 rfl (fun hm0=>?_) (fun hm0=>?_)))))))))
 ·
  refine zaq rfl (zad (zaw 2) (zaq rfl ?_))
  have hobt:∃ s,(S2.take m)[m - 1]?=some s:=⟨_,List.getElem?_eq_getElem aW⟩
  obtain⟨s,hsi⟩:=hobt
  have hvv:=hs.val hsi
  obtain⟨q,cq,hv1,hq,hqn,-⟩:=hvv
  have hsp:S2.take m=S2.take (m - 1)++[s]:=by
    rw[List.getElem?_take_of_lt ae]at hsi
    conv=>lhs;rw[show m=m - 1+1 by omega]
    rw[List.take_add_one,hsi];rfl
  have hmf:=zaz.form' hG ae
  obtain⟨_,_,cc,e0,_,_,hmc⟩:=hmf
  injection e0 with _ _ e3
  rw[←e3]at hmc
  refine zad (zau hr6) (zaq rfl (zad (zaw 2) (zaq rfl (zad (zau hr6) (zaq rfl (zad (zaB (e:=33) (sz:=1) aa rfl rfl) (zaq rfl (zad (zcX rfl rfl (Coup.w64 ae)) (zaq rfl (zad (zaN (e:=33) aa rfl rfl (m - 1) ae ae) (zaq rfl (zad (zaG rfl (Ld.sl1 hG.sl aa hv1)) (zaq rfl (zad (zfS (e:=5) aa rfl rfl) (zad (zaC rfl) (zae (zaf (zjT rfl (fun hq0=>?_) (fun hq0=>?_)))))))))))))))))))
  ·
   refine zat (zaf (zav (zaa (zad (zaw 2) (zad (zau hr6) (zad (zaw 2) (zad (zau hr6) (zad (zaB (e:=33) (sz:=1) aa rfl rfl) (zad (zcX rfl rfl (Coup.w64 ae)) (zad (zd1 (e:=33) (sz:=1) (m - 1) aa rfl ⟨_,_,rfl,ae⟩ ae) (zad (zaw 2) (zaK rfl (zbn hr6 (fun w903 hr6 ho903=>?_))))))))))))))
   replace hr4:=hr4.only ho903 (Nat.ne_of_lt lt_g4_g6)
   replace hG:=hG.only ho903 ae
   replace hs:=hs.only ho903 aB
   replace hB:=ho903.below hB ge_hB_g6
   refine zae (zaP ?_)
   have hs0:s=none:=by rw[hqn];cases q with|none=>rfl|some a=>simp at hq0
   subst hs0
   have hGc:=zaz.cut hG (m - 1) ae
   have hsc:=hs.cutS (i:=m - 1) aW
   rw[Nat.mul_one,List.take_take,Nat.min_eq_left ae]at hGc
   rw[List.take_take,List.take_take,Nat.min_eq_left ae]at hsc
   refine za2 ⟨m - 1,ae,⟨rfl,rfl,rfl⟩,ae,by rw[←htr,hsp,zi7],hr6,hr4,hGc,hsc,hB⟩
  ·
   obtain⟨r1,rfl⟩:∃ r,s=some r:=by
     cases s with
     |none=>rw[hqn.1 rfl]at hq0;simp at hq0
     |some r=>exact⟨r,rfl⟩
   have hTm:T=S2.take m:=by rw[←htr,hsp,zhq]
   have hTl:T.length=m:=by rw[hTm,List.length_take];omega
   rw[hTl]at hPg
   rw[←hTm]at hs
   refine zbh (zbC (zbH (zbl (zaf (zah (zaa (zad (za7 3 hr6) (zao rfl (zaj aa rfl) (hPg wr (some ⟨g,o,none⟩) c _ _ _ hG.sl hs) ?_))))))))
   rintro _ w51 ⟨rfl,hb51⟩
   replace hr4:=hr4.new hb51
   replace hB:=hB.acc hb51
   refine zaK rfl (zaQ 512 (bv Y) hr4 (fun w904 hr4 ho904=>?_))
   replace hB:=ho904.below hB ge_hB_g4
   refine bT ?_
   exact⟨rfl,hB⟩
 ·
  obtain rfl:m=0:=by omega
  have hTm:T=S2.take 0:=by rw[←htr];rfl
  have hTl:T.length=0:=by rw[hTm];rfl
  rw[hTl]at hPg
  rw[←hTm]at hs
  refine zaM rfl rfl (zaM rfl rfl (zaM rfl rfl (zaM rfl rfl (zaM rfl rfl (zaM rfl rfl (zaM rfl rfl (zaM rfl rfl (zaM rfl rfl (zad (zaE rfl) (zae (zaf (W_f rfl (zbh (zbC (zbH (zbl (zaf (zah (zaa (zad (za7 3 hr6) (zao rfl (zaj aa rfl) (hPg wr (some ⟨g,o,none⟩) c _ _ _ hG.sl hs) ?_)))))))))))))))))))))
  rintro _ w51 ⟨rfl,hb51⟩
  replace hr4:=hr4.new hb51
  replace hB:=hB.acc hb51
  refine zaK rfl (zaQ 512 (bv Y) hr4 (fun w905 hr4 ho905=>?_))
  replace hB:=ho905.below hB ge_hB_g4
  refine bT ?_
  exact⟨rfl,hB⟩
theorem take11(V:View)(k:Int)(w:World)(hV:Good V):Calls Tryz.prog 101 [.agg (bv (zay V)).toArray, .int .i64 k].toArray w
  (Ret fun v w'=>v= .tuple #[.agg (bv (zp7 V k)).toArray, .int .i64 (if zh2 V.slots k then 0 else 6)]∧Below w.heap.size w w'):=by
 cases hk:zh2 V.slots k with
 |false=>rw[zp7,hk];exact take11a V k w hV hk
 |true=>
  obtain⟨i,r,rfl,hi⟩:=zj5 hk
  rw[zp7,hk,if_pos rfl,Int.toNat_natCast]
  exact take11b V i r w hV hi
end Go.Proofs.YtdbogkndglbffaaGreat
namespace Coup
open Go Go.RowKit Go.Maps
def kvL(f:Nat→Option Value)(a:Nat):Nat→List (Lit × DataW Value)
 |0=>[]
 |m+1=>match f a with
  |some v=>(.int .i64 (a:Int), .held v)::kvL f (a+1) m
  |none=>kvL f (a+1) m
theorem zhr{f g:Nat→Option Value}:∀ (m a:Nat),(∀ i,a≤i→i<a+m→f i=g i)→kvL f a m=kvL g a m
 |0,a,h=>rfl
 |m+1,a,h=>by
  rw[kvL,kvL,h a (Nat.le_refl _) ae,zhr m (a+1) (fun i h1 h2=>h i ae ae)]
theorem zi8(f:Nat→Option Value):∀ m a,(kvL f a m).length≤m
 |0,a=>Nat.le_refl _
 |m+1,a=>by
  have:=zi8 f m (a+1)
  rw[kvL];split<;>simp<;>omega
theorem zi9{f:Nat→Option Value}:∀ {m a:Nat} {x:Lit × DataW Value},x∈kvL f a m→∃ i,a≤i∧i<a+m∧x.1= .int .i64 (i:Int)
 |0,a,x,h=>by simp[kvL]at h
 |m+1,a,x,h=>by
  rw[kvL]at h
  split at h
  ·rcases List.mem_cons.1 h with rfl|h
   ·exact⟨a,Nat.le_refl _,ae,rfl⟩
   ·obtain⟨i,h1,h2,h3⟩:=zi9 h;exact⟨i,ae,ae,h3⟩
  ·obtain⟨i,h1,h2,h3⟩:=zi9 h;exact⟨i,ae,ae,h3⟩
theorem zdO(a b:Nat):Lit.sameKey (.int .i64 (a:Int)) (.int .i64 (b:Int))=decide (a=b):=by
 simp only[Lit.sameKey,true_and]
 by_cases h:a=b
 ·simp[h]
 ·have:¬((a:Int)=b):=by omega
  simp[h,this]
theorem zgX{f:Nat→Option Value}{i:Nat}:∀ (m a:Nat),a≤i→i<a+m→(kvL f a m).find? (fun p=>p.1.sameKey (.int .i64 (i:Int)))=(f i).map fun v=>(.int .i64 (i:Int), .held v)
 |0,a,h1,h2=>by omega
 |m+1,a,h1,h2=>by
  have hno:∀ (m' a':Nat),i<a'→(kvL f a' m').find? (fun p=>p.1.sameKey (.int .i64 (i:Int)))=none:=fun m' a' h=>by
   rw[List.find?_eq_none]
   intro x hx
   obtain⟨j,h3,h4,h5⟩:=zi9 hx
   rw[h5,zdO];simp;omega
  by_cases h:a=i
  ·subst h
   rw[kvL]
   cases hf:f a with
   |some v=>simp only[List.find?_cons,zdO];simp
   |none=>exact hno m (a+1) ae
  ·rw[kvL]
   have ih:=zgX (f:=f) (i:=i) m (a+1) ae ae
   cases hf:f a with
   |some v=>simp only[List.find?_cons,zdO];simp[h,ih]
   |none=>exact ih
def zh3(f:Nat→Option Value)(i:Nat)(v:Option Value):Nat→Option Value:=fun j=>if j=i then v else f j
theorem zll{f:Nat→Option Value}{i:Nat}:∀ (m a:Nat),(kvL f a m).filter (fun p=>!p.1.sameKey (.int .i64 (i:Int)))=kvL (zh3 f i none) a m
 |0,a=>rfl
 |m+1,a=>by
  have ih:=zll (f:=f) (i:=i) m (a+1)
  rw[kvL,kvL]
  by_cases h:a=i
  ·rw[show zh3 f i none a=none from if_pos h]
   cases hf:f a with
   |some v=>subst h;simp only[List.filter_cons,zdO];simpa using ih
   |none=>exact ih
  ·rw[show zh3 f i none a=f a from if_neg h]
   cases hf:f a with
   |some v=>simp only[List.filter_cons,zdO];simp[h,ih]
   |none=>exact ih
theorem zok{f:Nat→Option Value}{i:Nat}{v:Value}:∀ (m a:Nat),f i=none→a≤i→i<a+m→DataW.insert (.int .i64 (i:Int), .held v) (kvL f a m)=kvL (zh3 f i (some v)) a m
 |0,a,_,h1,h2=>by omega
 |m+1,a,hn,h1,h2=>by
  rw[kvL,kvL]
  by_cases h:a=i
  ·subst h
   rw[show zh3 f a (some v) a=some v from if_pos rfl,hn]
   have e:kvL (zh3 f a (some v)) (a+1) m=kvL f (a+1) m:=zhr m (a+1) fun j h3 h4=>if_neg ae
   simp only[e]
   cases hk:kvL f (a+1) m with
   |nil=>rfl
   |cons y r=>
    obtain⟨j,h3,h4,h5⟩:=zi9 (f:=f) (x:=y) (m:=m) (a:=a+1) (by rw[hk];exact List.mem_cons_self ..)
    rw[DataW.insert]
    rw[if_pos (by rw[h5];simp[Lit.before];omega)]
  ·rw[show zh3 f i (some v) a=f a from if_neg h]
   have ih:=zok (f:=f) (i:=i) (v:=v) m (a+1) hn ae ae
   cases hf:f a with
   |some u=>
    simp only
    rw[DataW.insert,if_neg (by simp[Lit.before];omega),ih]
   |none=>exact ih
def RH:Value→Option (DataW Value × List MemPlace):=fun v=>some (.held v,[])
def MapAt(P:Program)(k:TypeId)(w:World)(m N:Nat)(f:Nat→Option Value):Prop:=w.ownsMap P k RH m N (.map (kvL f 0 N))
theorem zja{P:Program}{k:TypeId}{R:Value→Option (DataW Value × List MemPlace)}{w:World}{b n N:Nat}{es:List (Lit × DataW Value)}(h:w.ownsMap P k R b n (.map es))(hN:es.length≤N):w.ownsMap P k R b N (.map es):=by
 obtain⟨e,clock,hb,F,hs,hD⟩:=h
 refine⟨e,clock,hb,F,?_,hD⟩
 have h1:es=(e.toList.map (Go.WideElems.rg P k R)).foldr DataW.insert []:=by injection hD
 have h2:=length_sorted (e.toList.map (Go.WideElems.rg P k R))
 rw[←h1]at h2
 simp at h2
 omega
namespace MapAt
variable {P:Program}{k:TypeId}{w w':World}{m N:Nat}{f:Nat→Option Value}
theorem lt(h:MapAt P k w m N f):m<w.heap.size:=World.ownsMap.lt h
theorem same(h:MapAt P k w m N f)(he:w'.heap[m]?=w.heap[m]?):MapAt P k w' m N f:=by
 obtain⟨es,clock,hb,r⟩:=h
 exact⟨es,clock,he.trans hb,r⟩
theorem kpd{M:List Nat}(h:MapAt P k w m N f)(hk:Kp M w w')(hM:m∉M):MapAt P k w' m N f:=h.same (hk.block m h.lt hM)
theorem new(h:MapAt P k w m N f)(hb:Below w.heap.size w w'):MapAt P k w' m N f:=h.kpd (M:=[]) (Kp.of_below hb) (fun h=>by cases h)
theorem only{g:Nat}(h:MapAt P k w m N f)(ho:Only g w w')(hg:m≠g):MapAt P k w' m N f:=h.kpd (Kp.zaZ ho) bg
theorem own{base e sz n:Nat}{v:Value}{xs:List Value}(h:MapAt P k w m N f)(ho:zaz w base e sz v n xs)(hg:w.grownBy w' v.ownBlock)(hk:m<base):MapAt P k w' m N f:=h.kpd (Kp.za6 hg) fun hm=>by
 have:=(ho.lt m (Option.mem_toList.1 hm)).1;omega
end MapAt
structure KpB(M:List Nat)(w0 w:World):Prop where
 k:Kp M w0 w
namespace KpB
variable {M:List Nat}{w0 w w':World}
theorem refl(M:List Nat)(w:World):KpB M w w:=⟨Kp.refl M w⟩
theorem kpd{N:List Nat}(h:KpB M w0 w)(k:Kp N w w')(hN:∀ g,g∈N→g∈M∨w0.heap.size≤g):KpB M w0 w':=
 ⟨⟨k.os.trans h.k.os,k.tape.trans h.k.tape,k.output.trans h.k.output,Nat.le_trans h.k.size k.size,fun b hb hm=>by
  rw[k.block b (Nat.lt_of_lt_of_le hb h.k.size) fun hn=>?_]
  ·exact h.k.block b hb hm
  ·rcases hN b hn with e|e
   ·exact hm e
   ·omega⟩⟩
theorem new(h:KpB M w0 w)(hb:Below w.heap.size w w'):KpB M w0 w':=h.kpd (N:=[]) (Kp.of_below hb) (fun g hm=>by cases hm)
theorem only{g:Nat}(h:KpB M w0 w)(ho:Only g w w')(hg:g∈M∨w0.heap.size≤g):KpB M w0 w':=h.kpd (Kp.zaZ ho) fun g' hm=>by
 have:g'=g:=by simpa using hm
 rw[this];exact hg
theorem own{base e sz m:Nat}{v:Value}{xs:List Value}(h:KpB M w0 w)(ho:zaz w base e sz v m xs)(hg:w.grownBy w' v.ownBlock)(hk:w0.heap.size≤base):KpB M w0 w':=
 h.kpd (Kp.za6 hg) fun g hm=>Or.inr (Nat.le_trans hk (ho.lt g (Option.mem_toList.1 hm)).1)
end KpB
theorem zfu{w w':World}{b:Nat}(h:w.mapTurned w' b):Only b w w':=by
 obtain⟨es,clock,es',clock',hb,rfl⟩:=h
 exact⟨rfl,rfl,rfl,by simp[Go.ChangeMaps.setBlock],fun k hk=>Go.ChangeMaps.heap_setBlock_other hb _ hk⟩
section
variable {P:Program}{ρ:Env}{w:World}{d:Option Nat}{ty:TypeId}{pos:String}{af:Array Edge}{gd:Option (Nat × Bool)}{K:Value→World→Prop}{Kw:World→Prop}
theorem zp8{t t':Nat}{x y:Operand}{a:Addr}(ht:ptrT P t=true)(hx:ev ρ x= .pointer (some a))(hy:ev ρ y= .pointer none):(execOp (ev ρ) ⟨d, .binOp .neq t x y t',ty,pos,af,gd⟩).run P w= .ok (.value (.bool true)) w:=by
 have:=zj0 (w:=w) ht 9999 a
 simp[execOp,hx,hy,eqGuard,binOp,Op.equal,Op.maxDepth,this,Result.andThen]
theorem zme{i:Nat}(h:i<9223372036854775808):(Lit.int .i64 (i:Int)).wf=true:=by
 have e1:IntKind.i64.min=-9223372036854775808:=by decide
 have e2:IntKind.i64.max=9223372036854775807:=by decide
 simp[Lit.wf,e1,e2];omega
theorem zm5 {t k e:TypeId} {x y:Operand} {m N:Nat} {f:Nat→Option Value} {a:Int} (z:Value) (ht:P.underlying t=some (.map k e)) (hk:P.underlying k=some (.int .i64)) (hz:∀ w,(zeroValue e).run P w= .ok z w)
  (hm:MapAt P k w m N f) (hx:ev ρ x= .map (some m)) (hy:ev ρ y= .int .i64 a) (i:Nat) (ha:a=(i:Int)) (hi:i<N) (hN:N≤1000000):
  (execOp (ev ρ) ⟨d, .lookup t x y false,ty,pos,af,gd⟩).run P w= .ok (.value ((f i).getD z)) w:=by
 subst ha
 obtain⟨v,ps,hr,hv⟩:=World.ownsMap.lookup hm (int_keyed hk) ht (hz w) (zd:=.held z) (zp:=[]) rfl (keyOf_int_mk hk (zme (i:=i) ae))
 have e:DataW.atKey (.map (kvL f 0 N)) (.int .i64 (i:Int)) (.held z)= .held ((f i).getD z):=by
  unfold DataW.atKey
  simp only[zgX N 0 (Nat.zero_le _) (by omega:i<0+N)]
  cases f i<;>rfl
 rw[e]at hv
 have:v=(f i).getD z:=by
  have h1:(some (DataW.held v,([]:List MemPlace)))=some (.held ((f i).getD z),ps):=hv
  injection h1 with h1
  injection h1 with h1 h2
  injection h1
 subst this
 simp[execOp,hx,hy,hr,Result.andThen]
theorem zeX {t k e:TypeId} {x y:Operand} {m N:Nat} {f:Nat→Option Value} {a:Int} {v:Value} (z:Value) (ht:P.underlying t=some (.map k e)) (hk:P.underlying k=some (.int .i64)) (hz:∀ w,(zeroValue e).run P w= .ok z w)
  (hm:MapAt P k w m N f) (hx:ev ρ x= .map (some m)) (hy:ev ρ y= .int .i64 a) (i:Nat) (ha:a=(i:Int)) (hi:i<N) (hN:N≤1000000) (hv:(f i).getD z=v):
  (execOp (ev ρ) ⟨d, .lookup t x y false,ty,pos,af,gd⟩).run P w= .ok (.value v) w:=by
 rw[←hv];exact zm5 z ht hk hz hm hx hy i ha hi hN
theorem zeH {t k e:TypeId} {x y u:Operand} {m N:Nat} {f:Nat→Option Value} {a:Int} (v:Value) (ht:P.underlying t=some (.map k e)) (hk:P.underlying k=some (.int .i64))
  (hm:MapAt P k w m N f) (hx:ev ρ x= .map (some m)) (hy:ev ρ y= .int .i64 a) (hu:ev ρ u=v) (i:Nat) (ha:a=(i:Int)) (hi:i<N) (hN:N≤1000000)
  (h:∀ w',MapAt P k w' m N (zh3 f i (some v))→Only m w w'→Kw w'):Sk P ρ w ⟨d, .mapUpdate t x y u,ty,pos,af,gd⟩ Kw:=by
 subst ha
 obtain⟨w',hr,h1,h2⟩:=World.ownsMap.store hm (int_keyed hk) ht aC (keyOf_int_mk hk (zme (i:=i) ae)) (val:=v) (d:=.held v) (ps:=[]) rfl
 refine⟨w',?_,h w' ?_ (zfu h2)⟩
 ·simp[execOp,hx,hy,hu,hr,Result.andThen]
 ·have e:DataW.put (.map (kvL f 0 N)) (.int .i64 (i:Int)) (.held v)= .map (kvL (zh3 f i (some v)) 0 N):=by
   unfold DataW.put
   simp only[zll]
   rw[zok N 0 (if_pos rfl) (Nat.zero_le _) ae]
   congr 1
   exact zhr N 0 fun j _ _=>by unfold zh3;split<;>rfl
  rw[e]at h1
  exact zja h1 (zi8 _ _ _)
theorem zj8 {t k e:TypeId} {x y:Operand} {m N:Nat} {f:Nat→Option Value} {a:Int} (ht:P.underlying t=some (.map k e)) (hk:P.underlying k=some (.int .i64))
  (hm:MapAt P k w m N f) (hx:ev ρ x= .map (some m)) (hy:ev ρ y= .int .i64 a) (i:Nat) (ha:a=(i:Int)) (hi:i<N) (hN:N≤1000000)
  (h:∀ w',MapAt P k w' m N (zh3 f i none)→Only m w w'→K (.tuple #[]) w'):Mk P ρ w ⟨d, .call ⟨.builtin .delete,#[x,y],#[t,k]⟩,ty,pos,af,gd⟩ K:=by
 subst ha
 obtain⟨w',hr,h1,h2⟩:=World.ownsMap.drop hm (int_keyed hk) ht (keyOf_int_mk hk (zme (i:=i) ae)) ty
 refine⟨_,w',?_,h w' ?_ (zfu h2)⟩
 ·simp[execOp,resolve,invoke,builtin,hx,hy,hr,Result.andThen]
 ·have e:DataW.del (.map (kvL f 0 N)) (.int .i64 (i:Int))= .map (kvL (zh3 f i none) 0 N):=by
   unfold DataW.del
   simp only[zll]
  rw[e]at h1
  exact h1
theorem zjb:∀ m a,kvL (fun _=>none) a m=[]
 |0,a=>rfl
 |m+1,a=>by rw[kvL];exact zjb m (a+1)
theorem zeY{t k:TypeId}(N:Nat)(h:∀ m w',w.heap.size≤m→MapAt P k w' m N (fun _=>none)→Below w.heap.size w w'→K (.map (some m)) w'):Mk P ρ w ⟨d, .makeMap t none,ty,pos,af,gd⟩ K:=by
 refine⟨_,_,?_,h w.heap.size (w.alloc (.map #[] 0)) (Nat.le_refl _) ?_ (zcm w _)⟩
 ·simp only[execOp]
  first
   |rfl
   |simp[run_makeMap,Result.andThen]
 ·unfold MapAt
  rw[zjb]
  exact World.ownsMap.mono (World.ownsMap_made w P k RH) (Nat.zero_le _)
end
end Coup
