import Derived.Shelf.SlIterI.Nil
import Derived.Shelf.SortM.Plain
import Derived.Shelf.SortM.SortNone
import Derived.Test.YtdbogkndglbffaaGreatProg
import Derived.Test.YtdbogkndglbffaaGreatM1
import Derived.Test.YtdbogkndglbffaaGreatM0
import Derived.Laws.Bits64b
import Derived.Deep.RegionHeld3
import Derived.RegionTactic
import Derived.Laws.ShiftsVarLaws
namespace Go.Proofs
open Go.Shelf
def Tryz.zj9:Go.Shelf.Ren:=⟨fun|7=>186|10=>194|n=>n,fun|23=>138|26=>3|3=>137|28=>231|0=>0|27=>230|33=>126|4=>4|n=>n,fun|n=>n⟩
theorem Tryz.keysA:Go.Proofs.SlLaysZI.n7 Tryz.prog Tryz.zj9:={
 mixed:=by kernel_rfl
 f7:=⟨Tryz.f186.name,aD,Tryz.func186.trans (congrArg some aa)⟩
 f10:=⟨Tryz.f194.name,aD,Tryz.func194.trans (congrArg some aa)⟩
 t0:=Tryz.underlying0
 a0:=Tryz.isAgg0
 z0:=Tryz.sizeOf0
 v0:=Tryz.zeroValue0
 t4:=Tryz.underlying4
 a4:=Tryz.isAgg4
 z4:=Tryz.sizeOf4
 v4:=Tryz.zeroValue4
 t23:=Tryz.underlying138
 a23:=Tryz.isAgg138
 z23:=Tryz.sizeOf138
 v23:=Tryz.zeroValue138
 t26:=Tryz.underlying3
 a26:=Tryz.isAgg3
 z26:=Tryz.sizeOf3
 v26:=Tryz.zeroValue3
 t27:=Tryz.underlying230
 a27:=Tryz.isAgg230
 z27:=Tryz.sizeOf230
 v27:=Tryz.zeroValue230
 t28:=Tryz.underlying231
 a28:=Tryz.isAgg231
 z28:=Tryz.sizeOf231
 v28:=Tryz.zeroValue231
 t33:=Tryz.underlying126
 a33:=Tryz.isAgg126
 z33:=Tryz.sizeOf126
 v33:=Tryz.zeroValue126}
def Tryz.zhs:Go.Shelf.Ren:=⟨fun|6=>178|8=>189|9=>190|11=>199|13=>201|12=>200|23=>211|24=>212|14=>202|15=>203|16=>204|17=>205|18=>206|19=>207|20=>208|21=>209|22=>210|25=>213|26=>214|27=>215|28=>216|29=>217|30=>218|31=>219|n=>n,fun|26=>3|28=>231|24=>32|0=>0|3=>3|37=>201|48=>266|50=>185|4=>4|40=>258|39=>257|45=>263|5=>5|9=>9|51=>268|55=>203|57=>273|58=>274|33=>126|n=>n,fun|n=>n⟩
theorem Tryz.zol:Go.Proofs.SlLaysZI.n6 Tryz.prog Tryz.zhs:={
 mixed:=by kernel_rfl
 f6:=⟨Tryz.f178.name,aD,Tryz.func178.trans (congrArg some aa)⟩
 f8:=⟨Tryz.f189.name,aD,Tryz.func189.trans (congrArg some aa)⟩
 f11:=⟨Tryz.f199.name,aD,Tryz.func199.trans (congrArg some aa)⟩
 t0:=Tryz.underlying0
 a0:=Tryz.isAgg0
 z0:=Tryz.sizeOf0
 v0:=Tryz.zeroValue0
 t24:=Tryz.underlying32
 a24:=Tryz.isAgg32
 z24:=Tryz.sizeOf32
 v24:=Tryz.zeroValue32
 t26:=Tryz.underlying3
 a26:=Tryz.isAgg3
 z26:=Tryz.sizeOf3
 v26:=Tryz.zeroValue3
 t28:=Tryz.underlying231
 a28:=Tryz.isAgg231
 z28:=Tryz.sizeOf231
 v28:=Tryz.zeroValue231
 i26:=by kernel_rfl}
def Tryz.zom:Go.Shelf.Ren:=⟨fun|5=>190|8=>201|7=>200|19=>211|20=>212|10=>202|11=>203|12=>204|13=>205|14=>206|15=>207|16=>208|17=>209|18=>210|30=>213|31=>214|32=>215|33=>216|34=>217|35=>218|40=>219|n=>n,fun|23=>32|25=>3|3=>3|32=>201|22=>32|0=>0|44=>266|46=>185|4=>4|36=>258|35=>257|41=>263|5=>5|9=>9|53=>268|57=>203|63=>273|64=>274|n=>n,fun|n=>n⟩
theorem Tryz.sortA:Go.Proofs.SlLaysM.n5 Tryz.prog Tryz.zom:={
 mixed:=by kernel_rfl
 f5:=⟨Tryz.f190.name,aD,Tryz.func190.trans (congrArg some aa)⟩
 f7:=⟨Tryz.f200.name,aD,Tryz.func200.trans (congrArg some aa)⟩
 f8:=Tryz.func201.trans (congrArg some aa)
 f10:=⟨Tryz.f202.name,aD,Tryz.func202.trans (congrArg some aa)⟩
 f11:=⟨Tryz.f203.name,aD,Tryz.func203.trans (congrArg some aa)⟩
 f12:=⟨Tryz.f204.name,aD,Tryz.func204.trans (congrArg some aa)⟩
 f13:=⟨Tryz.f205.name,aD,Tryz.func205.trans (congrArg some aa)⟩
 f14:=⟨Tryz.f206.name,aD,Tryz.func206.trans (congrArg some aa)⟩
 f15:=⟨Tryz.f207.name,aD,Tryz.func207.trans (congrArg some aa)⟩
 f16:=⟨Tryz.f208.name,aD,Tryz.func208.trans (congrArg some aa)⟩
 f17:=⟨Tryz.f209.name,aD,Tryz.func209.trans (congrArg some aa)⟩
 f18:=⟨Tryz.f210.name,aD,Tryz.func210.trans (congrArg some aa)⟩
 f19:=Tryz.func211.trans (congrArg some aa)
 f20:=Tryz.func212.trans (congrArg some aa)
 f30:=⟨Tryz.f213.name,aD,Tryz.func213.trans (congrArg some aa)⟩
 f31:=Tryz.func214.trans (congrArg some aa)
 f32:=Tryz.func215.trans (congrArg some aa)
 f33:=⟨Tryz.f216.name,aD,Tryz.func216.trans (congrArg some aa)⟩
 f34:=⟨Tryz.f217.name,aD,Tryz.func217.trans (congrArg some aa)⟩
 f35:=⟨Tryz.f218.name,aD,Tryz.func218.trans (congrArg some aa)⟩
 f40:=⟨Tryz.f219.name,aD,Tryz.func219.trans (congrArg some aa)⟩
 t0:=Tryz.underlying0
 a0:=Tryz.isAgg0
 z0:=Tryz.sizeOf0
 v0:=Tryz.zeroValue0
 t3:=Tryz.underlying3
 a3:=Tryz.isAgg3
 z3:=Tryz.sizeOf3
 v3:=Tryz.zeroValue3
 t4:=Tryz.underlying4
 a4:=Tryz.isAgg4
 z4:=Tryz.sizeOf4
 v4:=Tryz.zeroValue4
 t5:=Tryz.underlying5
 a5:=Tryz.isAgg5
 z5:=Tryz.sizeOf5
 v5:=Tryz.zeroValue5
 t9:=Tryz.underlying9
 a9:=Tryz.isAgg9
 z9:=Tryz.sizeOf9
 v9:=Tryz.zeroValue9
 t22:=Tryz.underlying32
 a22:=Tryz.isAgg32
 z22:=Tryz.sizeOf32
 v22:=Tryz.zeroValue32
 t23:=Tryz.underlying32
 a23:=Tryz.isAgg32
 z23:=Tryz.sizeOf32
 v23:=Tryz.zeroValue32
 t25:=Tryz.underlying3
 a25:=Tryz.isAgg3
 z25:=Tryz.sizeOf3
 v25:=Tryz.zeroValue3
 t32:=Tryz.underlying201
 a32:=Tryz.isAgg201
 z32:=Tryz.sizeOf201
 v32:=Tryz.zeroValue201
 t35:=Tryz.underlying257
 a35:=Tryz.isAgg257
 z35:=Tryz.sizeOf257
 v35:=Tryz.zeroValue257
 t36:=Tryz.underlying258
 a36:=Tryz.isAgg258
 z36:=Tryz.sizeOf258
 v36:=Tryz.zeroValue258
 t41:=Tryz.underlying263
 a41:=Tryz.isAgg263
 z41:=Tryz.sizeOf263
 v41:=Tryz.zeroValue263
 t44:=Tryz.underlying266
 a44:=Tryz.isAgg266
 z44:=Tryz.sizeOf266
 v44:=Tryz.zeroValue266
 t46:=Tryz.underlying185
 a46:=Tryz.isAgg185
 z46:=Tryz.sizeOf185
 v46:=Tryz.zeroValue185
 t53:=Tryz.underlying268
 a53:=Tryz.isAgg268
 z53:=Tryz.sizeOf268
 v53:=Tryz.zeroValue268
 t57:=Tryz.underlying203
 a57:=Tryz.isAgg203
 z57:=Tryz.sizeOf203
 v57:=Tryz.zeroValue203
 t63:=Tryz.underlying273
 a63:=Tryz.isAgg273
 z63:=Tryz.sizeOf273
 v63:=Tryz.zeroValue273
 t64:=Tryz.underlying274
 a64:=Tryz.isAgg274
 z64:=Tryz.sizeOf274
 v64:=Tryz.zeroValue274}
end Go.Proofs
namespace Go.Proofs.YtdbogkndglbffaaGreat
open Go Go.RowKit Go.Maps Go.Sort Go.Shelf Coup
theorem sortsA(m:Nat):AnyZI.SortsIn Tryz.prog Tryz.zhs Fence.wide m:=
 ⟨fun blk off cap ss W hH hblk hsz=>callsIn_wide.2 (AnyM.slices_Sort_int Tryz.sortA blk off cap ss W hH hblk hsz),
  fun p cap W=>callsIn_wide.2 (AnyM.slices_Sort_int_none Tryz.sortA p cap W)⟩
def keysOf(f:Nat→Option Value):Nat→Nat→List Int
 |_,0=>[]
 |a,m+1=>if(f a).isSome then(a:Int)::keysOf f (a+1) m else keysOf f (a+1) m
theorem zht{f:Nat→Option Value}:∀ {m a:Nat} {x:Int},x∈keysOf f a m→(a:Int)≤x∧x<a+m
 |0,a,x,h=>by simp[keysOf]at h
 |m+1,a,x,h=>by
  rw[keysOf]at h
  split at h
  ·rcases List.mem_cons.1 h with rfl|h
   ·omega
   ·have:=zht h;omega
  ·have:=zht h;omega
theorem zfv(f:Nat→Option Value):∀ (m a:Nat),(keysOf f a m).Pairwise (fun x y=>leI x y=true)
 |0,a=>List.Pairwise.nil
 |m+1,a=>by
  rw[keysOf]
  split
  ·refine List.Pairwise.cons (fun y hy=>?_) (zfv f m (a+1))
   have:=zht hy
   simp[leI];omega
  ·exact zfv f m (a+1)
theorem zeZ(f:Nat→Option Value):∀ (m a:Nat),intKeys (DataW.map (kvL f a m))=keysOf f a m
 |0,a=>rfl
 |m+1,a=>by
  have ih:=zeZ f m (a+1)
  unfold intKeys at ih ⊢
  simp only[kvL,keysOf]
  cases hf:f a with
  |some v=>simp only[List.map_cons,ih];rfl
  |none=>simpa using ih
theorem zfX(f:Nat→Option Value)(m a:Nat){ss:List Int}(h:ss.Perm (intKeys (DataW.map (kvL f a m)))):ss.mergeSort (fun x y=>decide (x≤y))=keysOf f a m:=by
 rw[zeZ]at h
 have h1:ss.mergeSort leI=(keysOf f a m).mergeSort leI:=mergeSort_of_perm_i h
 have h2:(keysOf f a m).mergeSort leI=keysOf f a m:=List.mergeSort_of_pairwise (zfv f m a)
 exact h1.trans h2
theorem keysC(mb:Option Nat)(w:World):Calls Tryz.prog 186 [.map mb].toArray w (Ret fun v w'=>v= .func (.func 194) #[] #[.pointer (some ⟨w.heap.size,0,none⟩)]∧w'=w.alloc (.cells #[.map mb] 138)∧Below w.heap.size w w'):=by
 have h:CallsIn Fence.wide 5 Tryz.prog 186 #[.map mb] w fun e w'=>e= .returned (.func (.func 194) #[] #[.pointer (some ⟨w.heap.size,0,none⟩)])∧w'=w.alloc (.cells #[.map mb] 138):=AnyZI.keys_in Tryz.keysA Fence.wide 5 trivial rfl mb w
 refine(callsIn_wide.1 h).mono ?_
 rintro e w' ⟨rfl,rfl⟩
 exact⟨_,rfl,rfl,rfl,(Below.refl _ w).alloc (Nat.le_refl _) _⟩
theorem sortedC{b N:Nat}{f:Nat→Option Value}(w W:World)(hW:W=w.alloc (.cells #[.map (some b)] 138))(h:MapAt Tryz.prog 3 w b N f)(hN:N≤1000000):
  Calls Tryz.prog 178 [.func (.func 194) #[] #[.pointer (some ⟨w.heap.size,0,none⟩)]].toArray W (Ret fun v w'=>∃ p c,v= .slice p (keysOf f 0 N).length c∧zaS w' p (keysOf f 0 N).length 1 (iv (keysOf f 0 N))∧(∀ b o,p=some ⟨b,o,none⟩→W.heap.size≤b)∧Below W.heap.size W w'):=by
 subst hW
 have hbl:=h.lt
 have hle:=zi8 f N 0
 have hml:maxLen=9223372036854775807:=by decide
 have hsz:Maps.size (DataW.map (kvL f 0 N))≤N:=hle
 have hown:(w.alloc (.cells #[.map (some b)] 138)).ownsMap Tryz.prog 3 RH b N (.map (kvL f 0 N)):=by
  obtain⟨es,clock,hb,Ft,hs,hD⟩:=h
  exact⟨es,clock,(Below.heap_alloc _ _ b hbl).trans hb,Ft,hs,hD⟩
 have hseq:SeqGives Fence.wide 2 Tryz.prog 194 #[.pointer (some ⟨w.heap.size,0,none⟩)] encZ (fun ss=>ss.Perm (intKeys (DataW.map (kvL f 0 N)))) (Maps.size (DataW.map (kvL f 0 N))) (w.alloc (.cells #[.map (some b)] 138)):=
  AnyZI.keys_gives (ρ:=Tryz.zj9) {Tryz.keysA with} Fence.wide _ trivial rfl ae w.heap.size b N _ _ ay ay hown
 have cS:=AnyZI.sorted_in Tryz.zol Fence.wide 5 trivial trivial trivial trivial rfl ae (sortsA _) (enters_of Tryz.func190 aa rfl) 194 #[.pointer (some ⟨w.heap.size,0,none⟩)] trivial (enters_of Tryz.func194 aa rfl) _ _ ae ae _ hseq
 change CallsIn _ _ Tryz.prog 178 _ _ _ at cS
 refine(callsIn_wide.1 cS).mono ?_
 rintro e w' ⟨v,ss,rfl,hS,hrow,hnil,hb⟩
 have hlen:ss.length=(keysOf f 0 N).length:=by rw[←zeZ,hS.length_eq]
 rw[zfX f N 0 hS,hlen]at hrow
 have ho:=zdm hrow
 obtain⟨p,c,rfl⟩:=ho.form
 exact⟨_,rfl,p,c,rfl,ho.sl,fun b o e=>(ho.lt b (by rw[e];rfl)).1,hb⟩
end Go.Proofs.YtdbogkndglbffaaGreat
namespace Go.Proofs.YtdbogkndglbffaaGreat
open Go Go.RowKit Coup
abbrev Sec:=List UInt8
structure Dk where
 V:List (List Sec)
 left:Int
 dead:Bool
def Dk.n(D:Dk):Nat:=D.V.length
def zbW:Sec:=List.replicate 128 0
def zdk(L:List Sec):Prop:=∀ s∈L,s.length=128
structure zka(D:Dk):Prop where
 n:D.V.length≤8192
 ne:∀ v∈D.V,v≠[]
 sec:∀ v∈D.V,zdk v
 short:∀ v∈D.V,v.length≤100000
def ver(D:Dk)(i:Nat):List Sec:=D.V.getD i []
def zfw(v:List Sec):Sec:=v.getLastD zbW
def zjc(v:List Sec):Sec:=v.headD zbW
def za8(D:Dk)(i:Nat):Sec:=zfw (ver D i)
def zbg(D:Dk):Bool:=!(D.dead || D.left == 0)
def zcM(D:Dk):Dk:=if zbg D then {D with left:=if 0<D.left then D.left - 1 else D.left}else {D with dead:=true}
def zib(D:Dk)(i:Nat)(v:List Sec):Dk:={D with V:=D.V.set i v}
def zhu(D:Dk)(i:Nat)(s:Sec):Dk:=if zbg D then zib (zcM D) i (ver D i++[s])else zcM D
def zbu(D:Dk):Dk:=if zbg D then {zcM D with V:=D.V.map fun v=>[zfw v]}else zcM D
def zb1(D:Dk)(i:Nat):Bool:=decide (1<(ver D i).length)
def tornS(a b:Sec):Sec:=a.take 64++b.drop 64
def leftAt(v:List Sec)(k:Nat):Sec:=if k % 2=1 then v.getD ((k+1) / 2) zbW else if k=0 then zjc v else tornS (v.getD (k / 2) zbW) (v.getD (k / 2 - 1) zbW)
def leftS(v:List Sec)(pick:Int):Sec:=leftAt v (pick % ((2*v.length - 1:Nat):Int)).toNat
def opN(D:Dk):List Nat:=(List.range D.V.length).filter (zb1 D)
theorem zgY{L:List Sec}(h:zdk L):L.flatten.length=L.length*128:=by
 induction L with
 |nil=>rfl
 |cons s L ih=>
  rw[List.flatten_cons,List.length_append,ih (fun x hx=>h x (List.mem_cons_of_mem _ hx)),h s (List.mem_cons_self ..),List.length_cons];omega
theorem zon{L:List Sec}(h:zdk L){i:Nat}{s:Sec}(hs:L[i]?=some s):(L.flatten.drop (i*128)).take 128=s:=by
 induction L generalizing i with
 |nil=>simp at hs
 |cons t L ih=>
  have ht:=h t (List.mem_cons_self ..)
  cases i with
  |zero=>
   have:t=s:=by simpa using hs
   rw[Nat.zero_mul,List.drop_zero,List.flatten_cons,this,List.take_left' (this▸ht)]
  |succ i=>
   have hs':L[i]?=some s:=by simpa using hs
   rw[List.flatten_cons,show(i+1)*128=t.length+i*128 by omega,List.drop_append,show(t.drop (t.length+i*128))=[]from List.drop_of_length_le ae,List.nil_append,show t.length+i*128 - t.length=i*128 by omega]
   exact ih (fun x hx=>h x (List.mem_cons_of_mem _ hx)) hs'
theorem zp9{L:List Sec}(h:zdk L){i:Nat}{s:Sec}(hi:i<L.length)(hs:s.length=128):splice (bv L.flatten) (i*128) (bv s)=bv (L.set i s).flatten:=by
 have e:∀ (L:List Sec) (i:Nat),zdk L→i<L.length→(L.set i s).flatten=L.flatten.take (i*128)++(s++L.flatten.drop (i*128+128)):=by
  intro L
  induction L with
  |nil=>intro i _ h;simp at h
  |cons t L ih=>
   intro i h hi
   have ht:=h t (List.mem_cons_self ..)
   cases i with
   |zero=>
    rw[List.set_cons_zero,List.flatten_cons,List.flatten_cons,Nat.zero_mul,List.take_zero,List.nil_append,Nat.zero_add,List.drop_left' ht]
   |succ i=>
    have ih':=ih i (fun x hx=>h x (List.mem_cons_of_mem _ hx)) (by simpa using hi)
    have e1:∀ (X:List UInt8) (k:Nat),(t++X).take (t.length+k)=t++X.take k:=fun X k=>by rw[List.take_append,List.take_of_length_le (l:=t) (Nat.le_add_right _ _),Nat.add_sub_cancel_left]
    have e2:∀ (X:List UInt8) (k:Nat),(t++X).drop (t.length+k)=X.drop k:=fun X k=>by rw[List.drop_append,List.drop_of_length_le (l:=t) (Nat.le_add_right _ _),Nat.add_sub_cancel_left,List.nil_append]
    rw[List.set_cons_succ,List.flatten_cons,ih',List.flatten_cons,show(i+1)*128=t.length+i*128 by omega,show t.length+i*128+128=t.length+(i*128+128) by omega,e1,e2,List.append_assoc]
 rw[e L i h hi]
 simp only[splice,bv,List.map_append,List.map_take,List.map_drop,List.length_map,hs]
theorem zdk.set{L:List Sec}(h:zdk L){i:Nat}{s:Sec}(hs:s.length=128):zdk (L.set i s):=fun x hx=>by
 rcases List.mem_or_eq_of_mem_set hx with e|e
 ·exact h x e
 ·rw[e];exact hs
def zdz(D:Dk):List Sec:=D.V.map zjc
theorem zjd{D:Dk}(h:zka D):zdk (zdz D):=fun s hs=>by
 obtain⟨v,hv,rfl⟩:=List.mem_map.1 hs
 obtain⟨a,l,rfl⟩:=List.exists_cons_of_ne_nil (h.ne v hv)
 exact h.sec _ hv a (List.mem_cons_self ..)
theorem zhv{D:Dk}{i:Nat}(hi:i<D.V.length):D.V[i]?=some (ver D i):=by
 rw[ver,List.getD_eq_getElem?_getD,List.getElem?_eq_getElem hi];rfl
theorem zfY{D:Dk}(h:zka D){i:Nat}(hi:i<D.V.length):ver D i≠[]∧zdk (ver D i)∧(ver D i).length≤100000:=by
 have hm:=List.mem_of_getElem? (zhv hi)
 exact⟨h.ne _ hm,h.sec _ hm,h.short _ hm⟩
theorem zmf{D:Dk}{i:Nat}(hi:i<D.V.length):(zdz D)[i]?=some (zjc (ver D i)):=by
 rw[zdz,List.getElem?_map,zhv hi];rfl
theorem tail_ok{v:List Sec}(h:zdk v):zdk v.tail:=fun s hs=>h s (List.mem_of_mem_tail hs)
theorem zgZ{v:List Sec}(h:zdk v):(zfw v).length=128:=by
 unfold zfw
 rcases List.eq_nil_or_concat v with rfl|⟨l,s,rfl⟩
 ·simp[zbW]
 ·rw[List.concat_eq_append]at h ⊢
  rw[List.getLastD_concat]
  exact h s ay
theorem zm6{v:List Sec}(h:1<v.length):v.tail[v.length - 2]?=some (zfw v):=by
 rcases List.eq_nil_or_concat v with rfl|⟨l,s,rfl⟩
 ·simp at h
 ·rw[List.concat_eq_append]at h ⊢
  cases l with
  |nil=>simp at h
  |cons a l=>
   rw[zfw,List.getLastD_concat]
   simp
theorem zoo{v:List Sec}(h:v.length=1):zfw v=zjc v:=by
 obtain⟨a,rfl⟩:=List.length_eq_one_iff.1 h
 rfl
def since(D:Dk)(sv:Nat→Value):Nat→Option Value:=fun i=>if zb1 D i then some (sv i)else none
structure DkM(w:World)(g pl m:Nat)(G:List Nat)(D:Dk)(ol cl:Nat)(st:Int)(fu:Bool)(sv:Nat→Value):Prop where
 row:Coup.row w g [.slice (some ⟨pl,ol,none⟩) D.V.length cl, .map (some m), .int .i64 st, .bool fu, .bool D.dead] 140
 own:zeg w 0 172 128 pl ol D.V.length cl (bv (zdz D).flatten)
 map:MapAt Tryz.prog 3 w m D.V.length (since D sv)
 sv:∀ i,zb1 D i=true→∃ p c,sv i= .slice p ((ver D i).length - 1) c∧zaS w p ((ver D i).length - 1) 128 (bv (ver D i).tail.flatten)∧∀ b o,p=some ⟨b,o,none⟩→b∈G
 inG:∀ b∈G,b<w.heap.size
 ne:g≠pl∧g≠m∧pl≠m∧∀ b∈G,b≠g∧b≠pl∧b≠m
 left:0≤st∧st≤9223372036854775807∧D.left=(if fu then st else -1)
 ok:zka D
 pos:0<D.V.length
namespace DkM
variable {w w':World}{g pl m:Nat}{G:List Nat}{D:Dk}{ol cl:Nat}{st:Int}{fu:Bool}{sv:Nat→Value}
theorem kpd{M:List Nat}(h:DkM w g pl m G D ol cl st fu sv)(k:Kp M w w')(hM:g∉M∧pl∉M∧m∉M∧∀ b∈G,b∉M):DkM w' g pl m G D ol cl st fu sv:=
 ⟨h.row.kpd k hM.1,h.own.kpd k hM.2.1,h.map.kpd k hM.2.2.1,fun i hi=>by
  obtain⟨p,c,h1,h2,h3⟩:=h.sv i hi
  exact⟨p,c,h1,h2.kpd k fun b o e=>hM.2.2.2 b (h3 b o e),h3⟩,fun b hb=>Nat.lt_of_lt_of_le (h.inG b hb) k.size,h.ne,h.left,h.ok,h.pos⟩
theorem new(h:DkM w g pl m G D ol cl st fu sv)(hb:Below w.heap.size w w'):DkM w' g pl m G D ol cl st fu sv:=h.kpd (M:=[]) (Kp.of_below hb) ay
theorem look(h:DkM w g pl m G D ol cl st fu sv)(i:Nat)(hi:i<D.V.length):∃ p c,(since D sv i).getD (.slice none 0 0)= .slice p ((ver D i).length - 1) c∧zaS w p ((ver D i).length - 1) 128 (bv (ver D i).tail.flatten)∧∀ b o,p=some ⟨b,o,none⟩→b∈G:=by
 by_cases ho:zb1 D i=true
 ·obtain⟨p,c,h1,h2,h3⟩:=h.sv i ho
  exact⟨p,c,by rw[since,if_pos ho];exact h1,h2,h3⟩
 ·have h1:=(zfY h.ok hi).1
  have h2:(ver D i).length=1:=by
   have:=List.length_pos_iff.2 h1
   simp only[zb1,decide_eq_true_eq]at ho
   omega
  obtain⟨a,ha⟩:=List.length_eq_one_iff.1 h2
  refine⟨none,0,by rw[since,if_neg ho,h2];rfl,?_,fun b o e=>by cases e⟩
  rw[ha]
  exact zaS.nil _ _ _
theorem turn (h:DkM w g pl m G D ol cl st fu sv) (ho:Only g w w') {st':Int} {fu':Bool} {left':Int} {dead':Bool} (hr:Coup.row w' g [.slice (some ⟨pl,ol,none⟩) D.V.length cl, .map (some m), .int .i64 st', .bool fu', .bool dead'] 140)
  (hl:0≤st'∧st'≤9223372036854775807∧left'=(if fu' then st' else -1)):DkM w' g pl m G {D with left:=left',dead:=dead'} ol cl st' fu' sv:=by
 have k:=Kp.zaZ ho
 refine⟨hr,h.own.kpd k (by simpa using Ne.symm h.ne.1),h.map.kpd k (by simpa using Ne.symm h.ne.2.1),fun i hi=>?_,fun b hb=>Nat.lt_of_lt_of_le (h.inG b hb) k.size,h.ne,hl,⟨h.ok.n,h.ok.ne,h.ok.sec,h.ok.short⟩,h.pos⟩
 obtain⟨p,c,h1,h2,h3⟩:=h.sv i hi
 exact⟨p,c,h1,h2.kpd k fun b o e=>by simpa using(h.ne.2.2.2 b (h3 b o e)).1,h3⟩
end DkM
set_option maxRecDepth 20000 in
theorem zhw{w:World}{g pl m:Nat}{G:List Nat}{D:Dk}{ol cl:Nat}{st:Int}{fu:Bool}{sv:Nat→Value}(h:DkM w g pl m G D ol cl st fu sv):
  Calls Tryz.prog 135 [.pointer (some ⟨g,0,none⟩)].toArray w (Ret fun v w'=>v= .int .i64 (D.V.length:Int)∧w=w'):=by
 have hr:=h.row
 refine zax (fn:=Tryz.f135) (rs:=[.tmp 2]) (n:=10) Tryz.func135 rfl rfl Tryz.ntmps135 aa rfl (zah (zaa (zad (zac) (zae (zaf (zah (zah (zaa (zad (zab) (zad (zcY aa rfl rfl) (zae (zaf (zjG rfl (rfl) (zat (zaf (zah (zaa (zad (zab) (zad (zak rfl) (zad (zaw 0) (zad (zau hr) (zad (zaB (e:=172) (sz:=128) aa rfl rfl) (zad (zac) (zae (zaf (zaF (zan [_] ⟨rfl,trivial⟩ ?_)))))))))))))))))))))))))))
 exact⟨rfl,rfl⟩
set_option maxRecDepth 20000 in
theorem at39{w:World}{g pl m:Nat}{G:List Nat}{D:Dk}{ol cl:Nat}{st:Int}{fu:Bool}{sv:Nat→Value}(h:DkM w g pl m G D ol cl st fu sv)(i:Int):
   Calls Tryz.prog 149 [.pointer (some ⟨g,0,none⟩), .int .i64 i].toArray w (Ret fun v w'=>v= .int .i64 (if 0≤i∧i<D.V.length then 0 else 2)∧w=w'):=by
 have hr:=h.row
 have hp:=h.pos
 have hS:=zhw h
 refine zax (fn:=Tryz.f149) (rs:=[.tmp 4]) (n:=21) Tryz.func149 rfl rfl Tryz.ntmps149 aa rfl (zah (zaa (zad (zac) (zae (zaf (zah (zav (zah (zaa (zad (zab) (zao rfl (zaj aa rfl) (hS) ?_)))))))))))
 rintro _ _ ⟨rfl,rfl⟩
 refine zad (za5 rfl rfl) (zad (zac) (zae (zaf (zcF rfl (ae) (zah (zaa (zad (zab) (zad (zaY rfl rfl) (zad (zab) (zbI 12 rfl (fun h0=>?_) (fun h0=>?_)))))))))))
 ·
  refine zaM rfl rfl (zaM rfl rfl (zaM rfl rfl (zaM rfl rfl (zaM rfl rfl (zaM rfl rfl (zaM rfl rfl (zad (zaC rfl) (zad (zac) (zae (zaf (zjU rfl (rfl) (zah (zaa (zad (zac) (zae (zaf (zaF (zbc (zaW (zan [_] ⟨rfl,trivial⟩ ?_))))))))))))))))))))
  exact⟨by rw[if_neg ae];rfl,rfl⟩
 ·
  refine zaq rfl (zad (zab) (zaq rfl (zad (zab) (zaq rfl (zad (zak rfl) (zaq rfl (zad (zaw 0) (zaq rfl (zad (zau hr) (zaq rfl (zad (zaB (e:=172) (sz:=128) aa rfl rfl) (zaq rfl (zad (zcH rfl rfl) (zad (zaE rfl) (zad (zac) (zae (zaf (za0 rfl (fun h1=>?_) (fun h1=>?_)))))))))))))))))))
  ·
   refine bW ?_
   exact⟨by rw[if_neg ae];rfl,rfl⟩
  ·
   refine bX ?_
   exact⟨by rw[if_pos ae];rfl,rfl⟩
theorem ziv{D:Dk}(h:D.dead=true):zbg D=false∧zcM D=D:=by
 have h1:zbg D=false:=by unfold zbg;rw[h];rfl
 refine⟨h1,?_⟩
 rw[zcM,h1]
 cases D
 cases h
 rfl
set_option maxRecDepth 20000 in
theorem step36{w:World}{g pl m:Nat}{G:List Nat}{D:Dk}{ol cl:Nat}{st:Int}{fu:Bool}{sv:Nat→Value}(h:DkM w g pl m G D ol cl st fu sv):
   Calls Tryz.prog 168 [.pointer (some ⟨g,0,none⟩)].toArray w (Ret fun v w'=>v= .int .i64 (if zbg D then 0 else 10)∧(∃ st',DkM w' g pl m G (zcM D) ol cl st' fu sv)∧Only g w w'):=by
 have hr:=h.row
 obtain⟨hl0,hl1,hl2⟩:=h.left
 refine zax (fn:=Tryz.f168) (rs:=[.tmp 2]) (n:=30) Tryz.func168 rfl rfl Tryz.ntmps168 aa rfl (zah (zaa (zad (zac) (zae (zaf (zah (zah (zaa (zad (zab) (zad (zak rfl) (zad (zaw 3) (zad (zau hr) (zad (zab) (zec 7 rfl (fun hf=>?_) (fun hf=>?_)))))))))))))))
 ·
  refine zaq rfl (zad (zab) (zaq rfl (zad (zak rfl) (zaq rfl (zad (zaw 2) (zaq rfl (zad (zau hr) (zaq rfl (zad (za5 rfl rfl) (zad (zaC rfl) (zae (zaf (za0 rfl (fun hz=>?_) (fun hz=>?_))))))))))))))
  ·
   refine zaa (zad (zab) (zad (zak rfl) (zad (zaw 4) (zaK rfl (zbn hr (fun w901 hr ho901=>?_))))))
   refine zae (zaf (zah (zah (zaa (zad (zab) (zad (zak rfl) (zad (zaw 4) (zad (zau hr) (zae (zaf (zjU rfl (rfl) (zah (zaa (zad (zac) (zae (zaf (zaF (zaW (zan [_] ⟨rfl,trivial⟩ ?_)))))))))))))))))))
   have hs:zbg D=false:=by unfold zbg;rw[hl2,hf,if_pos rfl,hz];simp
   refine⟨by rw[hs];rfl,⟨st,?_⟩,ho901⟩
   have ht:=h.turn ho901 (left':=D.left) (dead':=true) (fu':=fu) hr ⟨hl0,hl1,hl2⟩
   rw[zcM,hs]
   exact ht
  ·
   have hnz:D.left≠0:=by rw[hl2,hf];simpa using hz
   refine zat (zaf (zah (zah (zaa (zad (zab) (zad (zak rfl) (zad (zaw 4) (zad (zau hr) (zae (zaf (zjT rfl (fun hd=>?_) (fun hd=>?_))))))))))))
   ·
    refine bZ ?_
    have hs:=ziv hd
    exact⟨by rw[hs.1];rfl,⟨st,by rw[hs.2];exact h⟩,Only.refl _ _⟩
   ·
    have hs:zbg D=true:=by
      unfold zbg
      rw[hd]
      simp[hnz]
    refine zat (zaf (zah (zaa (zad (zab) (zad (zab) (zad (zak rfl) (zad (zaw 2) (zad (zau hr) (zad (zcX rfl rfl (Coup.w64 ae)) (zad (zfq rfl rfl) (zad (zak rfl) (zad (zaw 2) (zaK rfl (zbn hr (fun w902 hr ho902=>?_)))))))))))))))
    refine zae (zaf (zah (zaa (zad (zac) (zae (zaf (zaF (zan [_] ⟨rfl,trivial⟩ (⟨by rw[hs];rfl,⟨max 0 (st - 1),?_⟩,ho902⟩)))))))))
    have ht:=h.turn ho902 (left':=if 0<D.left then D.left - 1 else D.left) (dead':=D.dead) (fu':=fu) hr ⟨ae,ae,by rw[hl2];cases fu<;>simp<;>omega⟩
    rw[zcM,hs]
    exact ht
 ·
  have hnz:D.left≠0:=by rw[hl2,hf];simp
  refine zaM rfl rfl (zaM rfl rfl (zaM rfl rfl (zaM rfl rfl (zaM rfl rfl (zad (zaE rfl) (zae (zaf (W_f rfl (zat (zaf (zah (zah (zaa (zad (zab) (zad (zak rfl) (zad (zaw 4) (zad (zau hr) (zae (zaf (zjT rfl (fun hd=>?_) (fun hd=>?_)))))))))))))))))))))
  ·
   refine bZ ?_
   have hs:=ziv hd
   exact⟨by rw[hs.1];rfl,⟨st,by rw[hs.2];exact h⟩,Only.refl _ _⟩
  ·
   have hs:zbg D=true:=by
     unfold zbg
     rw[hd]
     simp[hnz]
   refine zat (zaf (zah (zaa (zad (zab) (zad (zab) (zad (zak rfl) (zad (zaw 2) (zad (zau hr) (zad (zcX rfl rfl (Coup.w64 ae)) (zad (zfq rfl rfl) (zad (zak rfl) (zad (zaw 2) (zaK rfl (zbn hr (fun w903 hr ho903=>?_)))))))))))))))
   refine zae (zaf (zah (zaa (zad (zac) (zae (zaf (zaF (zan [_] ⟨rfl,trivial⟩ (⟨by rw[hs];rfl,⟨max 0 (st - 1),?_⟩,ho903⟩)))))))))
   have ht:=h.turn ho903 (left':=if 0<D.left then D.left - 1 else D.left) (dead':=D.dead) (fu':=fu) hr ⟨ae,ae,by rw[hl2];cases fu<;>simp<;>omega⟩
   rw[zcM,hs]
   exact ht
theorem ld_sec{w:World}{g o n:Nat}{L:List Sec}(h:zaS w (some ⟨g,o,none⟩) n 128 (bv L.flatten))(hL:zdk L){i:Nat}{s:Sec}(hs:L[i]?=some s):Ld Tryz.prog w 172 ⟨g,o+i*128,none⟩ (.agg (bv s).toArray):=by
 have hi:=(List.getElem?_eq_some_iff.1 hs).1
 have hl:=zgY hL
 have:=Ld.slN (P:=Tryz.prog) (t:=172) (j:=i*128) (k:=128) h aa aa (by rw[zal];omega)
 rw[←zc7,←zdg,zon hL hs]at this
 exact this
set_option maxRecDepth 20000 in
theorem now38{w:World}{g pl m:Nat}{G:List Nat}{D:Dk}{ol cl:Nat}{st:Int}{fu:Bool}{sv:Nat→Value}(h:DkM w g pl m G D ol cl st fu sv)(i:Nat)(hi:i<D.V.length):
   Calls Tryz.prog 150 [.pointer (some ⟨g,0,none⟩), .int .i64 (i:Int)].toArray w (Ret fun v w'=>v= .agg (bv (za8 D i)).toArray∧Below w.heap.size w w'):=by
 have hB:=Below.refl w.heap.size w
 have hr:=h.row
 have hmap:=h.map
 have hown:=h.own
 have hv:=zfY h.ok hi
 have hn8:=h.ok.n
 obtain⟨S,hS⟩:∃ S,za8 D i=S:=⟨_,rfl⟩
 have hSl:(bv S).length=128:=by rw[zal,←hS];exact zgZ hv.2.1
 rw[hS]
 refine zax (fn:=Tryz.f150) (rs:=[.cell 4 172]) (n:=28) Tryz.func150 rfl rfl Tryz.ntmps150 aa rfl (zah (zaa (zaD rfl (zar (List.replicate 128 (Value.int .u8 0)) aa (fun g4 w4 hg4 hr4 hb4=>?_)))))
 have ge_hB_g4:=Nat.le_trans hB.size hg4
 replace hr:=hr.new hb4
 replace hmap:=hmap.new hb4
 replace hown:=hown.new hb4
 replace hB:=hB.acc hb4
 refine zae (zaf (zah (zah (zaa (zad (zab) (zad (zak rfl) (zad (zaw 1) (zad (zau hr) (zad (zab) ?_)))))))))
 have hobt:=h.look i hi
 obtain⟨p,c,hlk,hsl,hpG⟩:=hobt
 refine zad (zeX (k:=3) (e:=137) (.slice none 0 0) aa aa aZ hmap rfl rfl (i) aS ae ae hlk) (zad (zac) (zae (zaf (zah (zaa (zad (zab) (zad (zaB (e:=172) (sz:=128) aa rfl rfl) (zad (zbA rfl rfl) (zae (zaf (za0 rfl (fun hpos=>?_) (fun hpos=>?_))))))))))))
 ·
  refine zah ?_
  have hlast:=zm6 (v:=ver D i) ae
  rw[show zfw (ver D i)=S from hS]at hlast
  have hsl2:=hsl.below hB (Nat.le_refl _)
  have hobt:=hsl2.some ae
  obtain⟨gp,op,rfl,hgp⟩:=hobt
  refine zaa (zad (zab) (zad (zab) (zad (zaB (e:=172) (sz:=128) aa rfl rfl) (zad (zcX rfl rfl (Coup.w64 ae)) (zad (zbe (e:=172) (sz:=128) aa rfl rfl ((ver D i).length - 2) ae ae) (zad (zaG rfl (ld_sec hsl2 (tail_ok hv.2.1) hlast)) (zaK rfl (zaQ 128 (bv S) hr4 (fun w901 hr4 ho901=>?_)))))))))
  replace hB:=ho901.below hB ge_hB_g4
  refine zae (zaf (zaF (zaW (zan [_] ⟨⟨_,rfl,Ld.zb9 (k:=128) hr4 aa aa ak⟩,trivial⟩ ?_))))
  exact⟨rfl,hB⟩
 ·
  have h1:(ver D i).length=1:=by
    have:=List.length_pos_iff.2 hv.1
    omega
  have hSh:zjc (ver D i)=S:=by rw[←hS,za8,zoo h1]
  have hla:=zmf hi
  rw[hSh]at hla
  refine zat (zaf (zah (zaa (zad (zab) (zad (zak rfl) (zad (zaw 0) (zad (zau hr) (zad (zab) (zad (zbe (e:=172) (sz:=128) aa rfl rfl (i) ae ae) (zad (zaG rfl (ld_sec hown.sl (zjd h.ok) hla)) (zaK rfl (zaQ 128 (bv S) hr4 (fun w902 hr4 ho902=>?_)))))))))))))
  replace hB:=ho902.below hB ge_hB_g4
  refine zae (zaf (zaF (zan [_] ⟨⟨_,rfl,Ld.zb9 (k:=128) hr4 aa aa ak⟩,trivial⟩ ?_)))
  exact⟨rfl,hB⟩
theorem zqa:List.replicate 128 (Value.int .u8 0)=bv zbW:=by
 rw[zbW,bv,List.map_replicate];rfl
theorem zop:∃ Z,zbW=Z∧List.replicate 128 (Value.int .u8 0)=bv Z∧(bv Z).length=128:=⟨_,rfl,zqa,by rw[zal,zbW,List.length_replicate]⟩
def inD(D:Dk)(i:Int):Bool:=decide (0≤i∧i<D.V.length)
set_option maxRecDepth 20000 in
theorem read23a {w:World} {g:Nat} {i:Int} {S Z:Sec} (hzb:List.replicate 128 (Value.int .u8 0)=bv Z) (hzl:(bv Z).length=128) (hSl:(bv S).length=128)
  (hA:∀ w',Below w.heap.size w w'→Calls Tryz.prog 149 [.pointer (some ⟨g,0,none⟩), .int .i64 i].toArray w' (Ret fun v w2=>v= .int .i64 0∧w'=w2))
  (hN:∀ w',Below w.heap.size w w'→Calls Tryz.prog 150 [.pointer (some ⟨g,0,none⟩), .int .i64 i].toArray w' (Ret fun v w2=>v= .agg (bv S).toArray∧Below w'.heap.size w' w2)):
  Calls Tryz.prog 115 [.pointer (some ⟨g,0,none⟩), .int .i64 i].toArray w (Ret fun v w'=>v= .tuple #[.agg (bv S).toArray, .int .i64 0]∧Below w.heap.size w w'):=by
 have hB:=Below.refl w.heap.size w
 refine zax (fn:=Tryz.f115) (rs:=[.cell 4 172, .tmp 5]) (n:=17) Tryz.func115 rfl rfl Tryz.ntmps115 aa rfl (zah (zaa (zaD rfl (zar (List.replicate 128 (Value.int .u8 0)) aa (fun g4 w4 hg4 hr4 hb4=>?_)))))
 have ge_hB_g4:=Nat.le_trans hB.size hg4
 replace hB:=hB.acc hb4
 rw[hzb]at hr4
 refine cz ?_
 rintro _ _ ⟨rfl,rfl⟩
 refine zad (zac) (zae (zaf (zah (zaa (zad (zab) (zad (zaX rfl rfl) (zae (zaf (zcF rfl (ae) (zat (zaf (zah (zaa (zad (zab) (zad (zab) (zao rfl (zaj aa rfl) (hN w4 hB) ?_))))))))))))))))
 rintro _ w16 ⟨rfl,hb16⟩
 replace hr4:=hr4.new hb16
 replace hB:=hB.acc hb16
 refine zaK rfl (zaQ 128 (bv S) hr4 (fun w901 hr4 ho901=>?_))
 replace hB:=ho901.below hB ge_hB_g4
 refine zad (zac) (zae (zaf (zaF (zan [_,_] ⟨⟨_,rfl,Ld.zb9 (k:=128) hr4 aa aa ak⟩,rfl,trivial⟩ ?_))))
 exact⟨rfl,hB⟩
set_option maxRecDepth 20000 in
theorem read23b {w:World} {g:Nat} {i:Int} {Z:Sec} (hzb:List.replicate 128 (Value.int .u8 0)=bv Z) (hzl:(bv Z).length=128)
  (hA:∀ w',Below w.heap.size w w'→Calls Tryz.prog 149 [.pointer (some ⟨g,0,none⟩), .int .i64 i].toArray w' (Ret fun v w2=>v= .int .i64 2∧w'=w2)):
  Calls Tryz.prog 115 [.pointer (some ⟨g,0,none⟩), .int .i64 i].toArray w (Ret fun v w'=>v= .tuple #[.agg (bv Z).toArray, .int .i64 2]∧Below w.heap.size w w'):=by
 have hB:=Below.refl w.heap.size w
 refine zax (fn:=Tryz.f115) (rs:=[.cell 4 172, .tmp 5]) (n:=17) Tryz.func115 rfl rfl Tryz.ntmps115 aa rfl (zah (zaa (zaD rfl (zar (List.replicate 128 (Value.int .u8 0)) aa (fun g4 w4 hg4 hr4 hb4=>?_)))))
 have ge_hB_g4:=Nat.le_trans hB.size hg4
 replace hB:=hB.acc hb4
 rw[hzb]at hr4
 refine cz ?_
 rintro _ _ ⟨rfl,rfl⟩
 refine zad (zac) (zae (zaf (zah (zaa (zad (zab) (zad (zaX rfl rfl) (zae (zaf (zgP rfl (ae) (zah (zaa (zad (zbN (bv Z) aU) (zad (zab) (zaK rfl (zaQ 128 (bv Z) hr4 (fun w901 hr4 ho901=>?_))))))))))))))))
 replace hB:=ho901.below hB ge_hB_g4
 refine zad (zac) (zae (zaf (zaF (zaW (zan [_,_] ⟨⟨_,rfl,Ld.zb9 (k:=128) hr4 aa aa ak⟩,rfl,trivial⟩ ?_)))))
 exact⟨rfl,hB⟩
theorem read23{w:World}{g pl m:Nat}{G:List Nat}{D:Dk}{ol cl:Nat}{st:Int}{fu:Bool}{sv:Nat→Value}(h:DkM w g pl m G D ol cl st fu sv)(i:Int):
  Calls Tryz.prog 115 [.pointer (some ⟨g,0,none⟩), .int .i64 i].toArray w (Ret fun v w'=>v= .tuple #[.agg (bv (if inD D i then za8 D i.toNat else zbW)).toArray, .int .i64 (if inD D i then 0 else 2)]∧Below w.heap.size w w'):=by
 have hB:=Below.refl w.heap.size w
 obtain⟨Z,hzz,hzb,hzl⟩:=zop
 rw[hzz]
 by_cases hi:0≤i∧i<D.V.length
 ·obtain⟨k,rfl⟩:∃ k:Nat,i=k:=⟨i.toNat,ae⟩
  have hin:inD D (k:Int)=true:=decide_eq_true hi
  rw[hin,if_pos rfl,if_pos rfl,Int.toNat_natCast]
  have hv:=zfY h.ok (i:=k) ae
  have hSl:(bv (za8 D k)).length=128:=by rw[zal];exact zgZ hv.2.1
  have hA:=fun w' (hb:Below w.heap.size w w')=>at39 (h.new hb) (k:Int)
  have hN:=fun w' (hb:Below w.heap.size w w')=>now38 (h.new hb) k ae
  rw[if_pos hi]at hA
  generalize za8 D k=S at hN hSl ⊢
  exact read23a hzb hzl hSl hA hN
 ·have hin:inD D i=false:=decide_eq_false hi
  rw[hin]
  have hA:=fun w' (hb:Below w.heap.size w w')=>at39 (h.new hb) i
  rw[if_neg hi]at hA
  exact read23b hzb hzl hA
theorem zgE(D:Dk)(sv:Nat→Value):∀ (m a:Nat),keysOf (since D sv) a m=((List.range' a m).filter (zb1 D)).map (fun i:Nat=>(i:Int))
 |0,a=>rfl
 |m+1,a=>by
  have ih:=zgE D sv m (a+1)
  rw[keysOf,List.range'_succ]
  by_cases h:zb1 D a=true
  ·rw[if_pos (by unfold since;rw[if_pos h];rfl),ih,List.filter_cons_of_pos h];rfl
  ·rw[if_neg (by unfold since;rw[if_neg h];simp),ih,List.filter_cons_of_neg h]
theorem zm7(D:Dk)(sv:Nat→Value):keysOf (since D sv) 0 D.V.length=(opN D).map (fun i:Nat=>(i:Int)):=by
 rw[zgE,opN,List.range_eq_range']
def opI(D:Dk):List Int:=(opN D).map (fun i:Nat=>(i:Int))
set_option maxRecDepth 20000 in
theorem open22{w:World}{g pl m:Nat}{G:List Nat}{D:Dk}{ol cl:Nat}{st:Int}{fu:Bool}{sv:Nat→Value}(h:DkM w g pl m G D ol cl st fu sv):
  Calls Tryz.prog 169 [.pointer (some ⟨g,0,none⟩)].toArray w (Ret fun v w'=>∃ p c,v= .slice p (opI D).length c∧zaS w' p (opI D).length 1 (iv (opI D))∧(∀ b o,p=some ⟨b,o,none⟩→w.heap.size≤b)∧Below w.heap.size w w'):=by
 have hB:=Below.refl w.heap.size w
 have hr:=h.row
 have hn8:=h.ok.n
 have hmap:=h.map
 have hko:=zm7 D sv
 have hS:=fun w' W hW (h':MapAt Tryz.prog 3 w' m D.V.length (since D sv))=>sortedC w' W hW h' ae
 rw[hko]at hS
 change ∀ w' (W:World) hW h',Calls _ _ _ _ (Ret fun v w2=>∃ p c,v= .slice p (opI D).length c∧zaS w2 p (opI D).length 1 (iv (opI D))∧(∀ b o,p=some ⟨b,o,none⟩→W.heap.size≤b)∧Below _ _ _)at hS
 refine zax (fn:=Tryz.f169) (rs:=[.tmp 2]) (n:=11) Tryz.func169 rfl rfl Tryz.ntmps169 aa rfl (zah (zaa (zad (zac) (zae (zaf (zah (zah (zaa (zad (zab) (zad (zcY aa rfl rfl) (zae (zaf (zjG rfl (rfl) (zat (zaf (zah (zaa (zad (zab) (zad (zak rfl) (zad (zaw 1) (zad (zau hr) (zao rfl (zaj aa rfl) (keysC (some m) w) ?_))))))))))))))))))))))
 rintro _ w9 ⟨rfl,hkw,hb9⟩
 replace hB:=hB.acc hb9
 have hsz:=hB.size
 refine zao rfl (zaj aa rfl) (hS w w9 hkw hmap) ?_
 rintro _ w10 ⟨p,c,rfl,hsl,hpb,hb10⟩
 replace hB:=hB.acc hb10
 refine cB ?_
 exact⟨p,c,rfl,hsl,fun b o e=>Nat.le_trans hsz (hpb b o e),hB⟩
theorem zeI{D:Dk}{i j:Nat}{v:List Sec}(hi:i<D.V.length):ver (zib D i v) j=if i=j then v else ver D j:=by
 unfold ver zib
 dsimp only
 rw[List.getD_eq_getElem?_getD,List.getD_eq_getElem?_getD,List.getElem?_set]
 by_cases h:i=j
 ·rw[if_pos h,if_pos h,if_pos hi];rfl
 ·rw[if_neg h,if_neg h]
theorem zoq{D:Dk}(h:zka D){i:Nat}{v:List Sec}(h1:v≠[])(h2:zdk v)(h3:v.length≤100000):zka (zib D i v):=by
 refine⟨by show(D.V.set i v).length≤8192;rw[List.length_set];exact h.n,fun x hx=>?_,fun x hx=>?_,fun x hx=>?_⟩
 all_goals
  rcases List.mem_or_eq_of_mem_set hx with e|e
 ·exact h.ne x e
 ·rw[e];exact h1
 ·exact h.sec x e
 ·rw[e];exact h2
 ·exact h.short x e
 ·rw[e];exact h3
theorem zkb(D:Dk)(i:Nat)(v:List Sec):zdz (zib D i v)=(zdz D).set i (zjc v):=by
 unfold zdz zib
 dsimp only
 rw[List.map_set]
theorem zkc{D:Dk}{sv:Nat→Value}{i:Nat}{s:Sec}(hi:i<D.V.length):since (zib D i [s]) sv=zh3 (since D sv) i none:=by
 funext j
 unfold since zh3 zb1
 rw[zeI hi]
 by_cases h:j=i
 ·subst h;simp
 ·rw[if_neg (show¬i=j from fun e=>h e.symm),if_neg h]
set_option maxRecDepth 8000 in
theorem zqb{w:World}{g pl m:Nat}{G:List Nat}{D:Dk}{ol cl:Nat}{st:Int}{fu:Bool}{sv:Nat→Value}(h:DkM w g pl m G D ol cl st fu sv)(i:Nat)(s:Sec)(hi:i<D.V.length)(hs:s.length=128):
  Calls Tryz.prog 170 [.pointer (some ⟨g,0,none⟩), .int .i64 (i:Int), .agg (bv s).toArray].toArray w (Ret fun _ w'=>DkM w' g pl m G (zib D i [s]) ol cl st fu sv∧Kp [pl,m] w w'):=by
 have hr:=h.row
 have hmap:=h.map
 have hown:=h.own
 have hn8:=h.ok.n
 have hK:=KpB.refl [pl,m] w
 have hll:=zgY (zjd h.ok)
 have hlm:(zdz D).length=D.V.length:=by simp[zdz]
 have hsl:(bv s).length=128:=by rw[zal];exact hs
 have hbo:=zbV s
 obtain⟨ne1,ne2,ne3,ne4⟩:=h.ne
 have hlm2:=hmap.lt
 have hlp:=hown.lt
 have hlg:=hr.lt
 refine zax (fn:=Tryz.f170) (rs:=[]) (n:=18) Tryz.func170 rfl rfl Tryz.ntmps170 aa rfl (zah (zaa (zaD rfl (za4 ((bv s)) rfl (fun g5 w5 hg5 hr5 hb5=>?_)))))
 replace hr:=hr.new hb5
 replace hmap:=hmap.new hb5
 replace hown:=hown.new hb5
 replace hK:=hK.new hb5
 refine zae (zaf (zah (za3 [pl] aa ?_)))
 intro w901 hb901 hS901
 replace hr:=hr.new hb901
 replace hmap:=hmap.new hb901
 replace hown:=hown.new hb901
 replace hK:=hK.new hb901
 replace hr5:=hr5.new hb901
 have hr_d901:=hr
 have hr5_d901:=hr5
 refine zas 0 (zab) (zas 1 (zak rfl) (zas 2 (zaw 0) (zbo 3 (fun w' hS'=>zau (hr_d901.kq hS')) (zas 4 (zab) (zbo 5 (fun w' hS'=>za7 128 (hr5_d901.kq hS')) (zas 6 (zbe (e:=172) (sz:=128) aa rfl rfl (i) ae ae) (zaA 7 aa (zbB rfl rfl (zd0 (bv s) (i*128) hown rfl rfl (by rw[hsl];kernel_rfl) (by first |(simp only[zal];omega)|omega) (zbV _) (fun w903 hown ho903=>?_))))))))))
 have hS902:=hS901.aq ho903
 refine⟨hS902,?_⟩
 replace hr:=hr.only ho903 ae
 replace hmap:=hmap.only ho903 ae
 replace hK:=hK.only ho903 aB
 rw[zp9 (zjd h.ok) ae hs]at hown
 refine zaI aa (zaf (zaa (zad (zab) (zad (zak rfl) (zad (zaw 1) (zad (zau hr) (zad (zab) (zaD rfl (zj8 (k:=3) (e:=137) aa aa hmap rfl rfl (i) aS ae ae (fun w904 hmap ho904=>?_))))))))))
 replace hr:=hr.only ho904 ae
 replace hown:=hown.only ho904 ae
 replace hK:=hK.only ho904 aB
 refine cK ?_
 have hls:=zkb D i [s]
 rw[show zjc [s]=s from rfl]at hls
 rw[←hls]at hown
 rw[←zkc (s:=s) hi]at hmap
 have hVl:(zib D i [s]).V.length=D.V.length:=List.length_set ..
 refine⟨⟨by rw[hVl];exact hr,by rw[hVl];exact hown,by rw[hVl];exact hmap,fun j hj=>?_,fun b hb=>Nat.lt_of_lt_of_le (h.inG b hb) hK.k.size,h.ne,h.left,zoq h.ok ay (fun x hx=>by simp at hx;rw[hx];exact hs) ay,by rw[hVl];exact h.pos⟩,hK.k⟩
 have hij:¬i=j:=fun e=>by
  unfold zb1 at hj
  rw[zeI hi,if_pos e]at hj
  simp at hj
 unfold zb1 at hj
 rw[zeI hi,if_neg hij]at hj ⊢
 have hobt:=h.sv j hj
 obtain⟨p,c,h1,h2,h3⟩:=hobt
 exact⟨p,c,h1,h2.kpd hK.k fun b o e=>by have:=ne4 b (h3 b o e);simp[this],h3⟩
def zcB(D:Dk)(xs:List (Nat × Sec)):Dk:=xs.foldl (fun D p=>zib D p.1 [p.2]) D
theorem zgp(D:Dk):∀ xs,(zcB D xs).V.length=D.V.length:=by
 intro xs
 induction xs generalizing D with
 |nil=>rfl
 |cons x xs ih=>
  show(zcB (zib D x.1 [x.2]) xs).V.length=_
  rw[ih];exact List.length_set ..
theorem ze0:∀ (xs:List (Nat × Sec)) (D:Dk) (j:Nat),(∀ p∈xs,p.1<D.V.length)→(∀ p∈xs,p.1≠j)→ver (zcB D xs) j=ver D j
 |[],D,j,_,_=>rfl
 |x::xs,D,j,h1,h2=>by
  show ver (zcB (zib D x.1 [x.2]) xs) j=_
  have hl:(zib D x.1 [x.2]).V.length=D.V.length:=List.length_set ..
  rw[ze0 xs _ j (fun p hp=>by rw[hl];exact h1 p (List.mem_cons_of_mem _ hp)) (fun p hp=>h2 p (List.mem_cons_of_mem _ hp)),zeI (h1 x (List.mem_cons_self ..)),if_neg (h2 x (List.mem_cons_self ..))]
theorem zff:∀ (xs:List (Nat × Sec)) (D:Dk) (j:Nat) (s:Sec),(∀ p∈xs,p.1<D.V.length)→(xs.map (·.1)).Nodup→(j,s)∈xs→ver (zcB D xs) j=[s]
 |x::xs,D,j,s,h1,h2,h3=>by
  show ver (zcB (zib D x.1 [x.2]) xs) j=_
  have hl:(zib D x.1 [x.2]).V.length=D.V.length:=List.length_set ..
  rw[List.map_cons,List.nodup_cons]at h2
  rcases List.mem_cons.1 h3 with e|e
  ·subst e
   rw[ze0 xs _ j (fun p hp=>by rw[hl];exact h1 p (List.mem_cons_of_mem _ hp)) (fun p hp e=>h2.1 (List.mem_map.2 ⟨p,hp,e⟩)),zeI (h1 _ (List.mem_cons_self ..)),if_pos rfl]
  ·exact zff xs _ j s (fun p hp=>by rw[hl];exact h1 p (List.mem_cons_of_mem _ hp)) h2.2 e
theorem zlm(D:Dk)(xs:List (Nat × Sec)){k:Nat}{p:Nat × Sec}(h:xs[k]?=some p):zcB D (xs.take (k+1))=zib (zcB D (xs.take k)) p.1 [p.2]:=by
 rw[List.take_add_one,h];simp[zcB,List.foldl_append]
theorem zln(D:Dk)(xs:List (Nat × Sec)):(zcB D xs).left=D.left∧(zcB D xs).dead=D.dead:=by
 induction xs generalizing D with
 |nil=>exact⟨rfl,rfl⟩
 |cons x xs ih=>exact ih (zib D x.1 [x.2])
theorem zhx{D:Dk}{i:Nat}:i∈opN D↔i<D.V.length∧zb1 D i=true:=by
 rw[opN,List.mem_filter,List.mem_range]
theorem zkd(D:Dk):(opN D).Nodup:=List.Nodup.sublist List.filter_sublist List.nodup_range
def zd3(D:Dk)(f:Nat→Nat→Sec):List (Nat × Sec):=(opN D).zipIdx.map fun x=>(x.1,f x.2 x.1)
theorem zmg{D:Dk}{f:Nat→Nat→Sec}{k i:Nat}(h:(opN D)[k]?=some i):(zd3 D f)[k]?=some (i,f k i):=by
 rw[zd3,List.getElem?_map,List.getElem?_zipIdx,h];simp
theorem zd4(D:Dk)(f:Nat→Nat→Sec):(zd3 D f).map (·.1)=opN D:=by
 rw[zd3,List.map_map]
 show(opN D).zipIdx.map (fun x=>x.1)=opN D
 exact List.zipIdx_map_fst ..
theorem zor(D:Dk)(f:Nat→Nat→Sec):(zd3 D f).length=(opN D).length:=by rw[←zd4 D f,List.length_map]
theorem zje{D:Dk}{f:Nat→Nat→Sec}{p:Nat × Sec}(h:p∈zd3 D f):p.1<D.V.length:=by
 have:p.1∈(zd3 D f).map (·.1):=List.mem_map_of_mem h
 rw[zd4]at this
 exact(zhx.1 this).1
theorem zlo{D:Dk}{f:Nat→Nat→Sec}{k i:Nat}(h:(opN D)[k]?=some i):ver (zcB D ((zd3 D f).take k)) i=ver D i:=by
 refine ze0 _ D i (fun p hp=>zje (List.mem_of_mem_take hp)) fun p hp e=>?_
 obtain⟨j,hj⟩:=List.getElem?_of_mem hp
 rw[List.getElem?_take]at hj
 split at hj
 ·rename_i hjk
  have hk:((zd3 D f).map (·.1))[j]?=some p.1:=by rw[List.getElem?_map,hj];rfl
  rw[zd4,e]at hk
  have hnd:=zkd D
  have h1:=(List.getElem?_eq_some_iff.1 hk)
  have h2:=(List.getElem?_eq_some_iff.1 h)
  obtain⟨l1,e1⟩:=h1
  obtain⟨l2,e2⟩:=h2
  have:=(List.getElem_inj hnd).1 (e1.trans e2.symm)
  omega
 ·cases hj
theorem opI_at{D:Dk}{k:Nat}(h:k<(opN D).length):∃ i,(opN D)[k]?=some i∧(iv (opI D))[k]?=some (.int .i64 (i:Int))∧i<D.V.length:=by
 obtain⟨i,hi⟩:∃ i,(opN D)[k]?=some i:=⟨_,List.getElem?_eq_getElem h⟩
 refine⟨i,hi,?_,(zhx.1 (List.mem_of_getElem? hi)).1⟩
 rw[zl7,opI,List.getElem?_map,hi];rfl
theorem opI_len(D:Dk):(opI D).length=(opN D).length:=by simp[opI]
theorem zdA(D:Dk):(zcM D).V=D.V:=by unfold zcM;split<;>rfl
def crashD(D:Dk)(picks:List Int):Dk:={zcB D (zd3 D fun k i=>leftS (ver D i) (picks.getD k 0))with left:=-1,dead:=false}
def zke(D:Dk):Dk:=if zbg D then zcB (zcM D) (zd3 (zcM D) fun _ i=>za8 (zcM D) i)else zcM D
set_option maxRecDepth 20000 in
set_option maxHeartbeats 1000000 in
theorem flush16{w:World}{g pl m:Nat}{G:List Nat}{D:Dk}{ol cl:Nat}{st:Int}{fu:Bool}{sv:Nat→Value}(h:DkM w g pl m G D ol cl st fu sv):
   Calls Tryz.prog 138 [.pointer (some ⟨g,0,none⟩)].toArray w (Ret fun v w'=>v= .int .i64 (if zbg D then 0 else 10)∧(∃ st',DkM w' g pl m G (zke D) ol cl st' fu sv)∧Kp [g,pl,m] w w'):=by
 have hS:=zhw h
 have hp:=h.pos
 have hst:=step36 h
 have hK:=KpB.refl [g,pl,m] w
 obtain⟨ok,hok⟩:∃ ok,zbg D=ok:=⟨_,rfl⟩
 rw[zke]
 rw[hok]at hst ⊢
 obtain⟨D1,hD1⟩:∃ D1,zcM D=D1:=⟨_,rfl⟩
 rw[hD1]at hst ⊢
 have hlg:=h.row.lt
 refine zax (fn:=Tryz.f138) (rs:=[.tmp 2]) (n:=28) Tryz.func138 rfl rfl Tryz.ntmps138 aa rfl (zah (zaa (zad (zac) (zae (zaf (zah (zah (zaa (zad (zab) (zao rfl (zaj aa rfl) (hS) ?_))))))))))
 rintro _ _ ⟨rfl,rfl⟩
 refine zad (za5 rfl rfl) (zae (zaf (zcF rfl (ae) (zat (zaf (zah (zah (zaa (zad (zab) (zao rfl (zaj aa rfl) (hst) ?_))))))))))
 rintro _ w10 ⟨rfl,⟨st1,h1⟩,hb10⟩
 replace hK:=hK.only hb10 aB
 refine zad (zac) (zae (zaf (zah (zaa (zad (zab) (zad (zaX rfl rfl) (zae (zaf (za0 rfl (fun hne=>?_) (fun hne=>?_))))))))))
 ·
  refine cO ?_
  have hk0:ok=false:=by cases ok with|false=>rfl|true=>simp at hne
  refine⟨by rw[hk0];rfl,⟨st1,by rw[hk0];exact h1⟩,hK.k⟩
 ·
  have hk1:ok=true:=by cases ok with|true=>rfl|false=>simp at hne
  rw[hk1,if_pos rfl,if_pos rfl]
  have hOp:=open22 h1
  have hoil:=opI_len D1
  have hg1:=h1.row.lt
  have hpl1:=h1.own.lt
  have hm1:=h1.map.lt
  refine zat (zaf (zah (zah (zaa (zad (zab) (zao rfl (zaj aa rfl) (hOp) ?_))))))
  rintro _ w15 ⟨p,c,rfl,hsl,hpb,hb15⟩
  replace hK:=hK.new hb15
  refine zad (zaB (e:=3) (sz:=1) aa rfl rfl) (zad (zab) (zae (zaf (zav ?_))))
  have hn8:=h1.ok.n
  have hoc:(opN D1).length≤D1.V.length:=Nat.le_trans (List.length_filter_le _ _) (by rw[List.length_range];exact Nat.le_refl _)
  have hobt:∃ X,(zd3 D1 fun _ i=>za8 D1 i)=X:=⟨_,rfl⟩
  obtain⟨X,hX⟩:=hobt
  rw[hX]
  have hXl:X.length=(opN D1).length:=by rw[←hX,zor]
  have hpn:∀ b o,p=some ⟨b,o,none⟩→b∉[pl,m]:=fun b o e hm=>by
    have:=hpb b o e
    simp only[List.mem_cons,List.not_mem_nil,or_false]at hm
    omega
  have hM0:DkM w15 g pl m G (zcB D1 (X.take 0)) ol cl st1 fu sv:=h1.new (by assumption)
  refine zbq (α:=Nat) 0 (fun k=>[(17, .int .i64 (k:Nat)),(16, .int .i64 ((opI D1).length:Nat)),(15, .slice p (opI D1).length c),(0, .pointer (some ⟨g,0,none⟩))])
    (fun k w'=>k≤(opN D1).length∧DkM w' g pl m G (zcB D1 (X.take k)) ol cl st1 fu sv∧zaS w' p (opI D1).length 1 (iv (opI D1))∧KpB [g,pl,m] w w') (fun k=>(opN D1).length - k)
    ⟨rfl,rfl,rfl,rfl,rfl⟩ ⟨Nat.zero_le _,hM0,hsl,hK⟩ ?_
  clear hM0 hsl hK
  rintro k f wr ⟨hk,hM,hsl,hK⟩
  refine zah (zaa (zad (zaY rfl rfl) (zae (zaf (zah (za0 rfl (fun hlt=>?_) (fun hlt=>?_)))))))
  ·
   refine bL ?_
   have hobt:=opI_at (D:=D1) (k:=k) ae
   obtain⟨i,hik,hiv,hil⟩:=hobt
   have hobt:=hsl.some ae
   obtain⟨gp,op,rfl,hgp⟩:=hobt
   have hrd:za8 (zcB D1 (X.take k)) i=za8 D1 i:=by rw[za8,←hX,zlo hik];rfl
   have hVl:=zgp D1 (X.take k)
   have hXk:X[k]?=some (i,za8 D1 i):=by rw[←hX];exact zmg hik
   have hnw:=now38 hM i ae
   rw[hrd]at hnw
   have hsn:=zlm D1 X hXk
   have hl128:(za8 D1 i).length=128:=zgZ (zfY h1.ok hil).2.1
   refine zaa (zad (zaN (e:=3) aa rfl rfl (k) ae ae) (zad (zaG rfl (Ld.sl1 hsl aa hiv)) (zad (zac) (zae (zaf (zaa (zad (zab) (zad (zab) (zad (zab) (zad (zab) (zao rfl (zaj aa rfl) (hnw) ?_)))))))))))
   rintro _ w25 ⟨rfl,hb25⟩
   replace hK:=hK.new hb25
   replace hM:=hM.new hb25
   refine zao rfl (zaj aa rfl) (zqb hM i _ ae hl128) ?_
   rintro _ w26 ⟨hM2,hb26⟩
   replace hK:=hK.kpd hb26 bD
   rw[←hsn]at hM2
   refine zae (zaP (zaf (zaa (zad (zaO rfl rfl (Coup.w64 ae)) (zad (zab) (zae (za2 ⟨k+1,ae,⟨by go_num,rfl,rfl,rfl,rfl⟩,ae,hM2,(hsl.new hb25).kpd hb26 hpn,hK⟩)))))))
  ·
   have hkl:k=(opN D1).length:=by omega
   rw[hkl,List.take_of_length_le ae]at hM
   refine cZ ?_
   exact⟨rfl,⟨st1,hM⟩,hK.k⟩
structure DkO(w:World)(G:List Nat)(D:Dk)(sv:Nat→Value):Prop where
 own:∀ i,zb1 D i=true→zaz w 0 172 128 (sv i) ((ver D i).length - 1) (bv (ver D i).tail.flatten)∧∀ b,(sv i).ownBlock=some b→b∈G
 sep:∀ i j b,zb1 D i=true→zb1 D j=true→(sv i).ownBlock=some b→(sv j).ownBlock=some b→i=j
theorem DkO.kpd{w w':World}{G M:List Nat}{D:Dk}{sv:Nat→Value}(h:DkO w G D sv)(k:Kp M w w')(hM:∀ b∈G,b∉M):DkO w' G D sv:=
 ⟨fun i hi=>⟨(h.own i hi).1.kpd k fun b hb e=>hM b ((h.own i hi).2 b e) hb,(h.own i hi).2⟩,h.sep⟩
theorem DkO.alike{w:World}{G:List Nat}{D D':Dk}{sv:Nat→Value}(h:DkO w G D sv)(hV:D'.V=D.V):DkO w G D' sv:=by
 have h1:∀ i,ver D' i=ver D i:=fun i=>by unfold ver;rw[hV]
 have h2:∀ i,zb1 D' i=zb1 D i:=fun i=>by unfold zb1;rw[h1]
 exact⟨fun i hi=>by rw[h1];exact h.own i (by rw[←h2];exact hi),fun i j b hi hj=>h.sep i j b (by rw[←h2];exact hi) (by rw[←h2];exact hj)⟩
theorem DkO.look{w:World}{g pl m:Nat}{G:List Nat}{D:Dk}{ol cl:Nat}{st:Int}{fu:Bool}{sv:Nat→Value}(h:DkM w g pl m G D ol cl st fu sv)(ho:DkO w G D sv)(i:Nat)(hi:i<D.V.length):
  ∃ p c,(since D sv i).getD (.slice none 0 0)= .slice p ((ver D i).length - 1) c∧zaz w 0 172 128 (.slice p ((ver D i).length - 1) c) ((ver D i).length - 1) (bv (ver D i).tail.flatten)∧(∀ b,Value.ownBlock (.slice p ((ver D i).length - 1) c)=some b→b∈G)∧∀ j b,zb1 D j=true→j≠i→Value.ownBlock (.slice p ((ver D i).length - 1) c)=some b→(sv j).ownBlock≠some b:=by
 by_cases hb:zb1 D i=true
 ·obtain⟨p,c,h1,_,_⟩:=h.sv i hb
  have h2:=ho.own i hb
  rw[h1]at h2
  refine⟨p,c,by rw[since,if_pos hb];exact h1,h2.1,h2.2,fun j b hj hne e e'=>hne ?_⟩
  exact ho.sep j i b hj hb e' (by rw[h1];exact e)
 ·have h1:=(zfY h.ok hi).1
  have h2:(ver D i).length=1:=by
   have:=List.length_pos_iff.2 h1
   simp only[zb1,decide_eq_true_eq]at hb
   omega
  obtain⟨a,ha⟩:=List.length_eq_one_iff.1 h2
  refine⟨none,0,by rw[since,if_neg hb,h2];rfl,?_,(fun b e=>nomatch e),(fun j b _ _ e=>nomatch e)⟩
  rw[ha]
  exact zbp _ _ _ _
theorem zlp{D:Dk}{sv:Nat→Value}{i:Nat}{v:List Sec}{u:Value}(hi:i<D.V.length)(hv:1<v.length):since (zib D i v) (fun j=>if j=i then u else sv j)=zh3 (since D sv) i (some u):=by
 funext j
 unfold since zh3 zb1
 rw[zeI hi]
 by_cases h:j=i
 ·subst h;simp[hv]
 ·simp only[if_neg (show¬i=j from fun e=>h e.symm),if_neg h]
theorem zmh {w w':World} {g pl m:Nat} {G:List Nat} {D:Dk} {ol cl:Nat} {st:Int} {fu:Bool} {sv:Nat→Value} {i:Nat} {s:Sec} {u:Value} {ob:Option Nat} {p:Option Addr} {c:Nat}
  (h:DkM w g pl m G D ol cl st fu sv) (ho:DkO w G D sv) (hi:i<D.V.length) (hs:s.length=128) (hsh:(ver D i).length<100000)
  (k:Kp (m::ob.toList) w w') (hmap:MapAt Tryz.prog 3 w' m D.V.length (zh3 (since D sv) i (some u))) (hu:u= .slice p ((ver D i).length - 1+1) c)
  (hv:zaz w' 0 172 128 u ((ver D i).length - 1+1) (bv (ver D i).tail.flatten++bv s)) (hpG:∀ b,ob=some b→b∈G)
  (hsep:∀ j b,zb1 D j=true→j≠i→ob=some b→(sv j).ownBlock≠some b) (hva:∀ b,u.ownBlock=some b→ob=some b∨w.heap.size≤b):
  ∃ G' sv',DkM w' g pl m G' (zib D i (ver D i++[s])) ol cl st fu sv'∧DkO w' G' (zib D i (ver D i++[s])) sv'∧∀ b∈G',b∈G∨w.heap.size≤b:=by
 obtain⟨hv1,hv2,hv3⟩:=zfY h.ok hi
 have hvp:=List.length_pos_iff.2 hv1
 obtain⟨n1,n2,n3,n4⟩:=h.ne
 have hX:∀ b,b∉G→b≠m→b∉m::ob.toList:=fun b hb hm e=>by
  rcases List.mem_cons.1 e with e|e
  ·exact hm e
  ·exact hb (hpG b (Option.mem_toList.1 e))
 obtain⟨D',hD'⟩:∃ D',zib D i (ver D i++[s])=D':=⟨_,rfl⟩
 have hver:∀ j,ver D' j=if i=j then ver D i++[s]else ver D j:=fun j=>by rw[←hD'];exact zeI hi
 have hlen:D'.V.length=D.V.length:=by rw[←hD'];exact List.length_set ..
 have hopi:zb1 D' i=true:=by unfold zb1;rw[hver,if_pos rfl];simp;omega
 have hopj:∀ j,j≠i→zb1 D' j=zb1 D j:=fun j hj=>by unfold zb1;rw[hver,if_neg (Ne.symm hj)]
 have hla:zdz D'=zdz D:=by
  rw[←hD',zkb]
  have hh:zjc (ver D i++[s])=zjc (ver D i):=by obtain⟨a,l,e⟩:=List.exists_cons_of_ne_nil hv1;rw[e];rfl
  rw[hh]
  have hl:=zmf hi
  refine List.ext_getElem? fun j=>?_
  rw[List.getElem?_set]
  by_cases hij:i=j
  ·subst hij
   rw[if_pos rfl,if_pos (List.getElem?_eq_some_iff.1 hl).1,hl]
  ·rw[if_neg hij]
 have htl:bv (ver D' i).tail.flatten=bv (ver D i).tail.flatten++bv s:=by
  rw[hver,if_pos rfl,←zcG]
  obtain⟨a,l,e⟩:=List.exists_cons_of_ne_nil hv1
  rw[e];simp
 have hln:(ver D' i).length - 1=(ver D i).length - 1+1:=by rw[hver,if_pos rfl,List.length_append,List.length_singleton];omega
 obtain⟨sv',hsv'⟩:∃ sv':Nat→Value,sv'=fun j=>if j=i then u else sv j:=⟨_,rfl⟩
 have hsi:sv' i=u:=by rw[hsv'];simp
 have hsj:∀ j,j≠i→sv' j=sv j:=fun j hj=>by rw[hsv'];simp[hj]
 have hsz:=k.size
 have hnew:∀ b,u.ownBlock=some b→b∈G∨w.heap.size≤b:=fun b e=>(hva b e).imp (hpG b) id
 have hum:∀ b,b∈u.ownBlock.toList→b∈G∨w.heap.size≤b:=fun b hb=>hnew b (Option.mem_toList.1 hb)
 have hg1:=h.row.lt
 have hg2:=h.own.lt
 have hg3:=h.map.lt
 have hown:∀ j,zb1 D' j=true→zaz w' 0 172 128 (sv' j) ((ver D' j).length - 1) (bv (ver D' j).tail.flatten)∧∀ b,(sv' j).ownBlock=some b→b∈G++u.ownBlock.toList:=fun j hj=>by
  by_cases e:j=i
  ·subst e
   rw[hsi,hln,htl]
   exact⟨hv,fun b e=>List.mem_append_right _ (Option.mem_toList.2 e)⟩
  ·rw[hopj j e]at hj
   rw[hsj j e,hver,if_neg (Ne.symm e)]
   have:=ho.own j hj
   refine⟨this.1.kpd k fun b hb e'=>?_,fun b e'=>List.mem_append_left _ (this.2 b e')⟩
   rcases List.mem_cons.1 hb with hb|hb
   ·exact(n4 b (this.2 b e')).2.2 hb
   ·exact hsep j b hj e (Option.mem_toList.1 hb) e'
 rw[hD']
 refine⟨G++u.ownBlock.toList,sv',?_,⟨hown,fun a b x ha hb ea eb=>?_⟩,fun b hb=>?_⟩
 ·have hs':since D' sv'=zh3 (since D sv) i (some u):=by rw[←hD',hsv'];exact zlp hi (by rw[List.length_append,List.length_singleton];omega)
  refine⟨by rw[hlen];rw[show D'.dead=D.dead by rw[←hD'];rfl];exact h.row.kpd k (hX g (fun e=>(n4 g e).1 rfl) n2),by rw[hlen,hla];exact h.own.kpd k (hX pl (fun e=>(n4 pl e).2.1 rfl) n3),by rw[hlen,hs'];exact hmap,fun j hj=>?_,fun b hb=>?_,⟨n1,n2,n3,fun b hb=>?_⟩,by rw[show D'.left=D.left by rw[←hD'];rfl];exact h.left,?_,by rw[hlen];exact h.pos⟩
  ·obtain⟨h1,h2⟩:=hown j hj
   obtain⟨q,c',e⟩:=h1.form
   rw[e]at h1 h2
   exact⟨q,c',e,h1.sl,fun b o e'=>h2 b (by rw[e'];rfl)⟩
  ·rcases List.mem_append.1 hb with hb|hb
   ·exact Nat.lt_of_lt_of_le (h.inG b hb) hsz
   ·exact(hv.lt b (Option.mem_toList.1 hb)).2
  ·rcases List.mem_append.1 hb with hb|hb
   ·exact n4 b hb
   ·rcases hum b hb with hb|hb
    ·exact n4 b hb
    ·exact⟨ae,ae,ae⟩
  ·rw[←hD']
   refine zoq h.ok ay (fun x hx=>?_) (by rw[List.length_append,List.length_singleton];omega)
   rcases List.mem_append.1 hx with hx|hx
   ·exact hv2 x hx
   ·rw[List.mem_singleton.1 hx];exact hs
 ·have hcl:∀ y,y≠i→zb1 D' y=true→u.ownBlock=some x→(sv y).ownBlock=some x→False:=fun y hy hoy eu ey=>by
   rw[hopj y hy]at hoy
   rcases hva x eu with e|e
   ·exact hsep y x hoy hy e ey
   ·have:=h.inG x ((ho.own y hoy).2 x ey);omega
  by_cases e1:a=i
  ·by_cases e2:b=i
   ·rw[e1,e2]
   ·rw[e1,hsi]at ea
    rw[hsj b e2]at eb
    exact(hcl b e2 hb ea eb).elim
  ·by_cases e2:b=i
   ·rw[e2,hsi]at eb
    rw[hsj a e1]at ea
    exact(hcl a e1 ha eb ea).elim
   ·rw[hsj a e1]at ea
    rw[hsj b e2]at eb
    exact ho.sep a b x (by rw[←hopj a e1];exact ha) (by rw[←hopj b e2];exact hb) ea eb
 ·rcases List.mem_append.1 hb with hb|hb
  ·exact .inl hb
  ·exact hum b hb
set_option maxRecDepth 8000 in
set_option maxHeartbeats 1000000 in
theorem zqc{w:World}{g pl m:Nat}{G:List Nat}{D:Dk}{ol cl:Nat}{st:Int}{fu:Bool}{sv:Nat→Value}(h:DkM w g pl m G D ol cl st fu sv)(ho:DkO w G D sv)(i:Nat)(s:Sec)(hi:i<D.V.length)(hs:s.length=128)(hsh:(ver D i).length<100000):
   Calls Tryz.prog 136 [.pointer (some ⟨g,0,none⟩), .int .i64 (i:Int), .agg (bv s).toArray].toArray w
    (Ret fun v w'=>v= .int .i64 (if zbg D then 0 else 10)∧(∃ st' G' sv',DkM w' g pl m G' (zhu D i s) ol cl st' fu sv'∧DkO w' G' (zhu D i s) sv'∧∀ b∈G',b∈G∨w.heap.size≤b)∧Kp ([g,pl,m]++G) w w'):=by
 have hml:maxLen=9223372036854775807:=by decide
 have hK:=KpB.refl ([g,pl,m]++G) w
 have hsl:(bv s).length=128:=by rw[zal];exact hs
 obtain⟨D1,hD1⟩:∃ D1,zcM D=D1:=⟨_,rfl⟩
 obtain⟨ok,hok⟩:∃ ok,zbg D=ok:=⟨_,rfl⟩
 have hV1:D1.V=D.V:=by rw[←hD1];exact zdA D
 have hver:ver D1 i=ver D i:=by unfold ver;rw[hV1]
 rw[zhu,hD1,hok,←hver]
 rw[←hver]at hsh
 refine zax (fn:=Tryz.f136) (rs:=[.tmp 6]) (n:=34) Tryz.func136 rfl rfl Tryz.ntmps136 aa rfl (zah (zaa (zaD rfl (za4 ((bv s)) rfl (fun g5 w5 hg5 hr5 hb5=>?_)))))
 replace hK:=hK.new hb5
 have h5:=h.new hb5
 have ha:=at39 h5 (i:Int)
 rw[if_pos ae]at ha
 have hst:=step36 h5
 rw[hD1,hok]at hst
 have ho5:=ho.kpd (M:=[]) (Kp.of_below hb5) ay
 have g5g:g5≠g:=by have:=h.row.lt;omega
 refine df ?_
 rintro _ _ ⟨rfl,rfl⟩
 refine zad (zac) (zae (zaf (zah (zaa (zad (zab) (zad (zaX rfl rfl) (zae (zaf (zcF rfl (ay) (zat (zaf (zah (zah (zaa (zad (zab) (zao rfl (zaj aa rfl) (hst) ?_))))))))))))))))
 rintro _ w16 ⟨rfl,⟨st1,h1⟩,hb16⟩
 replace hK:=hK.only hb16 aB
 replace hr5:=hr5.only hb16 ae
 have ho6:=(ho5.kpd (Kp.zaZ hb16) (fun b hb=>by simpa using(h.ne.2.2.2 b hb).1)).alike hV1
 refine zad (zac) (zae (zaf (zah (zaa (zad (zab) (zad (zaX rfl rfl) (zae (zaf (za0 rfl (fun hne=>?_) (fun hne=>?_))))))))))
 ·
  refine cO ?_
  have hk0:ok=false:=by cases ok with|false=>rfl|true=>simp at hne
  refine⟨by rw[hk0];rfl,⟨st1,G,sv,by rw[hk0];exact h1,by rw[hk0];exact ho6,fun b hb=>.inl hb⟩,hK.k⟩
 ·
  have hk1:ok=true:=by cases ok with|true=>rfl|false=>simp at hne
  have hr:=h1.row
  have hmap:=h1.map
  have hn8:=h1.ok.n
  rw[hk1,if_pos rfl,if_pos rfl]
  have hi1:i<D1.V.length:=by rw[hV1];exact hi
  have hobt:=DkO.look h1 ho6 i hi1
  obtain⟨p,c,hlk,hown,hpG,hsep⟩:=hobt
  have hobt:∃ ob,(Value.slice p ((ver D1 i).length - 1) c).ownBlock=ob:=⟨_,rfl⟩
  obtain⟨ob,hob⟩:=hobt
  have hne:=h.ne
  clear hver
  rw[hob]at hpG hsep
  have hx1:∀ b,b∉G→ob≠some b:=fun b hb e=>hb (hpG b e)
  have hx2:=hx1 g fun hg=>(hne.2.2.2 g hg).1 rfl
  have hx3:=hx1 m fun hg=>(hne.2.2.2 m hg).2.2 rfl
  have hx4:=hx1 pl fun hg=>(hne.2.2.2 pl hg).2.1 rfl
  have hx5:=hx1 g5 fun hg=>by have:=h.inG g5 hg;omega
  have hx6:g5≠m:=by have:=h.map.lt;omega
  have hx7:g≠m:=hne.2.1
  have hx8:pl≠m:=hne.2.2.1
  have hvp:=List.length_pos_iff.2 (zfY h1.ok hi1).1
  have hX0:DkM w16 g pl m G D1 ol cl st1 fu sv:=h1
  have hKx:=KpB.refl (m::ob.toList) w16
  have hK16:=hK
  refine zat (zaf (zah (za3 (m::(Value.slice p ((ver D1 i).length - 1) c).ownBlock.toList) aa ?_)))
  intro w901 hb901 hS901
  replace hr5:=hr5.new hb901
  replace hr:=hr.new hb901
  replace hmap:=hmap.new hb901
  replace hKx:=hKx.new hb901
  replace hown:=hown.new hb901
  have hr5_d901:=hr5
  have hr_d901:=hr
  refine zas 0 (zab) (zas 1 (zak rfl) (zas 2 (zaw 1) (zbo 3 (fun w' hS'=>zau (hr_d901.kq hS')) (zas 4 (zab) (zas 5 (zab) (zas 6 (zak rfl) (zas 7 (zaw 1) (zbo 8 (fun w' hS'=>zau (hr_d901.kq hS')) (zas 9 (zab) (zbo 11 (fun w' hS'=>za7 128 (hr5_d901.kq hS')) (zcA 10 12 aa ?_ ?_)))))))))))
  ·
   refine zfP rfl rfl (zeX (k:=3) (e:=137) (.slice none 0 0) aa aa aZ hmap rfl rfl (i) aS ae ae hlk) hS901 (zaA 12 aa (zby rfl rfl (zdd (e:=172) (.agg (bv s).toArray) (bv s) (List.replicate 128 (Value.int .u8 0)) 128 aa aa rfl rfl aF ⟨aD,aD⟩ (fun g32 w32 hg32 hr32 hb32=>?_))))
   have hS903:=hS901.add0 hb32
   refine⟨hS903,?_⟩
   replace hmap:=hmap.new hb32
   replace hKx:=hKx.new hb32
   replace hown:=hown.new hb32
   refine zaA 13 aa ?_
   have hs32:=hr32.slA (m:=1) (sz:=128) hsl ae
   refine zby rfl rfl (zbf (e:=172) (sz:=128) (bytes:=128) (z:=.agg (List.replicate 128 (Value.int .u8 0)).toArray) aa rfl aa rfl aD rfl hown rfl hs32 (zbV _) aC ae (fun hm0=>ae) (fun v33 w33 hv33 hgr33 hfr33=>?_))
   have hS904:=hS903.ownS hown hgr33 aI
   refine⟨hS904,?_⟩
   have kG:Kp ob.toList w32 w33:=by rw[←hob];exact Kp.za6 hgr33
   have hfr:∀ b,v33.ownBlock=some b→ob=some b∨w32.heap.size≤b:=by rw[←hob];exact hfr33
   replace hmap:=hmap.kpd kG (by simpa using hx3)
   replace hKx:=hKx.kpd kG (fun g' hg'=>.inl (List.mem_cons_of_mem _ hg'))
   refine zaA 14 aa (zbB rfl rfl (zeH (k:=3) (e:=137) (_) aa aa hmap rfl rfl rfl (i) aS ae ae (fun w906 hmap ho906=>?_)))
   have hS905:=hS904.aq ho906
   refine⟨hS905,?_⟩
   replace hKx:=hKx.only ho906 aB
   refine dh ?_
   have hmw:=h1.map.lt
   have hszx:=Nat.le_trans hb901.size hb32.size
   have hva:∀ b,v33.ownBlock=some b→b∈G∨w16.heap.size≤b:=fun b e=>(hfr b e).imp (hpG b) (fun hh=>Nat.le_trans hszx hh)
   have hv34:=hv33.kpd (Kp.zaZ ho906) (fun b hb e=>by
    have h1:b=m:=by simpa using hb
    rcases hva b e with h2|h2
    ·exact(hne.2.2.2 b h2).2.2 h1
    ·omega)
   obtain⟨p33,c33,hp33⟩:=hv34.form
   have hobt:=zmh (s:=s) h1 ho6 hi1 hs hsh hKx.k hmap hp33 hv34 hpG hsep (fun b e=>(hfr b e).imp id (fun hh=>Nat.le_trans hszx hh))
   obtain⟨G',sv',f1,f2,f3⟩:=hobt
   refine⟨rfl,⟨st1,G',sv',f1,f2,fun b hb=>(f3 b hb).imp id fun hh=>?_⟩,?_⟩
   ·have e1:=hb5.size
    have e2:=(Kp.zaZ hb16).size
    omega
   ·refine(hK16.kpd hKx.k fun b hb=>.inl ?_).k
    rcases List.mem_cons.1 hb with hb|hb
    ·rw[hb];simp
    ·exact List.mem_append_right _ (hpG b (Option.mem_toList.1 hb))
  ·
   refine zby rfl rfl (zdd (e:=172) (.agg (bv s).toArray) (bv s) (List.replicate 128 (Value.int .u8 0)) 128 aa aa rfl rfl aF ⟨aD,aD⟩ (fun g32 w32 hg32 hr32 hb32=>?_))
   have hS907:=hS901.add0 hb32
   refine⟨hS907,?_⟩
   replace hmap:=hmap.new hb32
   replace hKx:=hKx.new hb32
   replace hown:=hown.new hb32
   refine zaA 10 aa (zfP rfl rfl (zeX (k:=3) (e:=137) (.slice none 0 0) aa aa aZ hmap rfl rfl (i) aS ae ae hlk) hS907 (zaA 13 aa ?_))
   have hs32:=hr32.slA (m:=1) (sz:=128) hsl ae
   refine zby rfl rfl (zbf (e:=172) (sz:=128) (bytes:=128) (z:=.agg (List.replicate 128 (Value.int .u8 0)).toArray) aa rfl aa rfl aD rfl hown rfl hs32 (zbV _) aC ae (fun hm0=>ae) (fun v33 w33 hv33 hgr33 hfr33=>?_))
   have hS909:=hS907.ownS hown hgr33 aI
   refine⟨hS909,?_⟩
   have kG:Kp ob.toList w32 w33:=by rw[←hob];exact Kp.za6 hgr33
   have hfr:∀ b,v33.ownBlock=some b→ob=some b∨w32.heap.size≤b:=by rw[←hob];exact hfr33
   replace hmap:=hmap.kpd kG (by simpa using hx3)
   replace hKx:=hKx.kpd kG (fun g' hg'=>.inl (List.mem_cons_of_mem _ hg'))
   refine zaA 14 aa (zbB rfl rfl (zeH (k:=3) (e:=137) (_) aa aa hmap rfl rfl rfl (i) aS ae ae (fun w911 hmap ho911=>?_)))
   have hS910:=hS909.aq ho911
   refine⟨hS910,?_⟩
   replace hKx:=hKx.only ho911 aB
   refine dh ?_
   have hmw:=h1.map.lt
   have hszx:=Nat.le_trans hb901.size hb32.size
   have hva:∀ b,v33.ownBlock=some b→b∈G∨w16.heap.size≤b:=fun b e=>(hfr b e).imp (hpG b) (fun hh=>Nat.le_trans hszx hh)
   have hv34:=hv33.kpd (Kp.zaZ ho911) (fun b hb e=>by
    have h1:b=m:=by simpa using hb
    rcases hva b e with h2|h2
    ·exact(hne.2.2.2 b h2).2.2 h1
    ·omega)
   obtain⟨p33,c33,hp33⟩:=hv34.form
   have hobt:=zmh (s:=s) h1 ho6 hi1 hs hsh hKx.k hmap hp33 hv34 hpG hsep (fun b e=>(hfr b e).imp id (fun hh=>Nat.le_trans hszx hh))
   obtain⟨G',sv',f1,f2,f3⟩:=hobt
   refine⟨rfl,⟨st1,G',sv',f1,f2,fun b hb=>(f3 b hb).imp id fun hh=>?_⟩,?_⟩
   ·have e1:=hb5.size
    have e2:=(Kp.zaZ hb16).size
    omega
   ·refine(hK16.kpd hKx.k fun b hb=>.inl ?_).k
    rcases List.mem_cons.1 hb with hb|hb
    ·rw[hb];simp
    ·exact List.mem_append_right _ (hpG b (Option.mem_toList.1 hb))
set_option maxRecDepth 20000 in
theorem zqd{w:World}{g pl m:Nat}{G:List Nat}{D:Dk}{ol cl:Nat}{st:Int}{fu:Bool}{sv:Nat→Value}(h:DkM w g pl m G D ol cl st fu sv)(i:Int)(s:Sec)(hi:¬(0≤i∧i<D.V.length))(hs:s.length=128):
  Calls Tryz.prog 136 [.pointer (some ⟨g,0,none⟩), .int .i64 i, .agg (bv s).toArray].toArray w
   (Ret fun v w'=>v= .int .i64 2∧Below w.heap.size w w'):=by
 have hB:=Below.refl w.heap.size w
 have hsl:(bv s).length=128:=by rw[zal];exact hs
 refine zax (fn:=Tryz.f136) (rs:=[.tmp 6]) (n:=34) Tryz.func136 rfl rfl Tryz.ntmps136 aa rfl (zah (zaa (zaD rfl (za4 ((bv s)) rfl (fun g5 w5 hg5 hr5 hb5=>?_)))))
 replace hB:=hB.acc hb5
 have h5:=h.new hb5
 have ha:=at39 h5 i
 rw[if_neg hi]at ha
 refine df ?_
 rintro _ _ ⟨rfl,rfl⟩
 refine zad (zac) (zae (zaf (zah (zaa (zad (zab) (zad (zaX rfl rfl) (zae (zaf (zgP rfl (ay) (zah (zaa (zad (zab) (zad (zac) (zae (zaf (zaF (zaW (zan [_] ⟨rfl,trivial⟩ ?_))))))))))))))))))
 exact⟨rfl,hB⟩
def zh4(n:Nat):Dk:=⟨List.replicate n [zbW],-1,false⟩
theorem newD_ok{n:Nat}(hn:n≤8192):zka (zh4 n):=by
 have h:∀ v∈(zh4 n).V,v=[zbW]:=fun v hv=>(List.mem_replicate.1 hv).2
 refine⟨by show(List.replicate n [zbW]).length≤_;rw[List.length_replicate];exact hn,fun v hv=>by rw[h v hv];simp,fun v hv s hs=>?_,fun v hv=>by rw[h v hv];simp⟩
 rw[h v hv]at hs
 rw[List.mem_singleton.1 hs,zbW,List.length_replicate]
theorem ze1(n:Nat):(zh4 n).V.length=n:=List.length_replicate ..
theorem zei{n i:Nat}:zb1 (zh4 n) i=false:=by
 unfold zb1 ver zh4
 dsimp only
 rw[List.getD_eq_getElem?_getD,List.getElem?_replicate]
 split<;>simp
theorem ziw(n:Nat):List.replicate (n*128) (Value.int .u8 0)=bv (zdz (zh4 n)).flatten:=by
 have e:zdz (zh4 n)=List.replicate n zbW:=by
  unfold zdz zh4
  dsimp only
  rw[List.map_replicate];rfl
 have hf:∀ n,(List.replicate n zbW).flatten=List.replicate (n*128) 0:=by
  intro n
  induction n with
  |zero=>rfl
  |succ n ih=>
   rw[List.replicate_succ,List.flatten_cons,ih,zbW,List.replicate_append_replicate]
   congr 1;omega
 rw[e,hf,bv,List.map_replicate];rfl
set_option maxRecDepth 20000 in
theorem new11a{w:World}(n:Nat)(h1:1≤n)(h2:n≤8192):
  Calls Tryz.prog 31 [.int .i64 (n:Int)].toArray w (Ret fun v w'=>∃ g pl m,v= .tuple #[.pointer (some ⟨g,0,none⟩), .int .i64 0]∧DkM w' g pl m [] (zh4 n) 0 n 0 false (fun _=>.slice none 0 0)∧w.heap.size≤g∧w.heap.size≤pl∧w.heap.size≤m∧Below w.heap.size w w'):=by
 have hB:=Below.refl w.heap.size w
 have hml:maxLen=9223372036854775807:=by decide
 refine zax (fn:=Tryz.f31) (rs:=[.tmp 2, .tmp 3]) (n:=15) Tryz.func31 rfl rfl Tryz.ntmps31 aa rfl (zah (zaa (zad (zac) (zad (zac) (zae (zaf (zah (zah (zaa (zad (zab) (zad (zaY rfl rfl) (zad (zab) (zfl 6 rfl (ae) (zaq rfl (zad (zab) (zaq rfl (zad (zbA rfl rfl) (zad (zaE rfl) (zae (zaf (zcF rfl (ae) (zat (zaf (zah (zaa (zad (zab) (zaD rfl (zeD (e:=172) n (List.replicate 128 (.int .u8 0)) 128 128 (.int .u8 0) aa aa ⟨_,rfl,rfl⟩ ⟨_,rfl,rfl⟩ (by intro u hu;exact(List.mem_replicate.1 hu).2) ay ae ae (fun g11 w11 hg11 hr11 hb11=>?_)))))))))))))))))))))))))))))
 replace hB:=hB.acc hb11
 rw[ziw n]at hr11
 have l11:=hr11.lt
 refine zaD rfl (zeY (k:=3) (n) (fun m12 w12 hg12 hm12 hb12=>?_))
 replace hr11:=hr11.new hb12
 replace hB:=hB.acc hb12
 have l12:=hm12.lt
 refine zad (zfU (.slice (some ⟨g11,0,none⟩) n n) (.map (some m12)) [.slice (some ⟨g11,0,none⟩) n n, .map (some m12), .int .i64 0, .bool false, .bool false] rfl rfl aa) (zaD rfl (za4 ([.slice (some ⟨g11,0,none⟩) n n, .map (some m12), .int .i64 0, .bool false, .bool false]) rfl (fun g14 w14 hg14 hr14 hb14=>?_)))
 replace hr11:=hr11.new hb14
 replace hm12:=hm12.new hb14
 replace hB:=hB.acc hb14
 refine zad (zac) (zad (zac) (zae (zaf (zaF (zan [_,_] ⟨rfl,rfl,trivial⟩ ?_)))))
 have hlen:=ze1 n
 have hs:since (zh4 n) (fun _=>.slice none 0 0)=fun _=>none:=by
  funext i
  unfold since
  rw[zei];rfl
 have hbl:(bv (zdz (zh4 n)).flatten).length=n*128:=by rw[←ziw,List.length_replicate]
 refine⟨g14,g11,m12,rfl,⟨by rw[hlen];exact hr14,by rw[hlen];exact hr11.owns (Nat.zero_le _) hbl ae,by rw[hlen,hs];exact hm12,fun i hi=>?_,(fun b hb=>nomatch hb),⟨ae,ae,ae,fun b hb=>(nomatch hb)⟩,⟨ae,ae,rfl⟩,newD_ok h2,ae⟩,ae,ae,ae,hB⟩
 rw[zei]at hi
 cases hi
end Go.Proofs.YtdbogkndglbffaaGreat
namespace Coup
open Go Go.RowKit
theorem Kp.zc0{M:List Nat}{w w':World}(h:Below w.heap.size w w'):Kp M w w':=(Kp.of_below (M:=[]) h).weak fun _ _ hm=>nomatch hm
structure Mv(B B':List Nat)(w w':World):Prop where
 k:Kp B w w'
 sub:∀ b∈B',b∈B∨w.heap.size≤b
theorem Mv.of_below{B:List Nat}{w w':World}(h:Below w.heap.size w w'):Mv B B w w':=⟨Kp.zc0 h,fun _ hb=>.inl hb⟩
theorem Mv.zkf{B:List Nat}{w w':World}(h:Kp B w w'):Mv B B w w':=⟨h,fun _ hb=>.inl hb⟩
theorem Mv.lo{B B':List Nat}{w w':World}{lo:Nat}(h:Mv B B' w w')(hB:∀ b∈B,lo≤b)(hl:lo≤w.heap.size):∀ b∈B',lo≤b:=fun b hb=>(h.sub b hb).elim (hB b) (Nat.le_trans hl)
theorem Mv.bel{B B':List Nat}{w w':World}{lo:Nat}(h:Mv B B' w w')(hB:∀ b∈B,lo≤b)(hl:lo≤w.heap.size):Below lo w w':=
 ⟨h.k.os,h.k.tape,h.k.output,h.k.size,fun i hi=>h.k.block i (Nat.lt_of_lt_of_le hi hl) fun hm=>absurd (hB i hm) (Nat.not_le.2 hi)⟩
class Thing (X:World→List Nat→Prop):Prop where
 kpd:∀ {w w':World} {B M:List Nat},X w B→Kp M w w'→(∀ b∈B,b∉M)→X w' B
 lt:∀ {w:World} {B:List Nat},X w B→∀ b∈B,b<w.heap.size
def None:World→List Nat→Prop:=fun _ B=>B=[]
instance:Thing None:=⟨fun h _ _=>h,fun h b hb=>by rw[h]at hb;cases hb⟩
def Duo(X Y:World→List Nat→Prop)(lo:Nat)(w:World):Prop:=∃ B C,X w B∧Y w C∧(∀ b∈B,lo≤b∧b∉C)∧∀ b∈C,lo≤b
namespace Duo
variable {X X' Y Y':World→List Nat→Prop}{lo:Nat}{w w':World}
theorem kpd{M:List Nat}[hX:Thing X][hY:Thing Y](h:Duo X Y lo w)(k:Kp M w w')(hM:∀ b∈M,b<lo):Duo X Y lo w':=by
 obtain⟨B,C,h1,h2,h3,h4⟩:=h
 exact⟨B,C,hX.kpd h1 k fun b hb hm=>absurd (h3 b hb).1 (Nat.not_le.2 (hM b hm)),hY.kpd h2 k fun b hb hm=>absurd (h4 b hb) (Nat.not_le.2 (hM b hm)),h3,h4⟩
theorem new [hX:Thing X][hY:Thing Y](h:Duo X Y lo w)(hb:Below w.heap.size w w'):Duo X Y lo w':=h.kpd (M:=[]) (Kp.of_below hb) ay
theorem only{g:Nat}[hX:Thing X][hY:Thing Y](h:Duo X Y lo w)(ho:Only g w w')(hg:g<lo):Duo X Y lo w':=h.kpd (Kp.zaZ ho) bg
theorem swap(h:Duo X Y lo w):Duo Y X lo w:=by
 obtain⟨B,C,h1,h2,h3,h4⟩:=h
 exact⟨C,B,h2,h1,fun b hb=>⟨h4 b hb,fun hm=>(h3 b hm).2 hb⟩,fun b hb=>(h3 b hb).1⟩
theorem avoid{M:List Nat}[hX:Thing X][hY:Thing Y]{n:Nat}(h:Duo X Y lo w)(k:Kp M w w')(hn:w.heap.size≤n)(hM:∀ b∈M,n≤b):Duo X Y lo w':=by
 obtain⟨B,C,h1,h2,h3,h4⟩:=h
 exact⟨B,C,hX.kpd h1 k fun b hb hm=>absurd (hX.lt h1 b hb) (Nat.not_lt.2 (Nat.le_trans hn (hM b hm))),hY.kpd h2 k fun b hb hm=>absurd (hY.lt h2 b hb) (Nat.not_lt.2 (Nat.le_trans hn (hM b hm))),h3,h4⟩
theorem left [hY:Thing Y] {P:Program} {f:FuncId} {args:Array Value} {R:Value→Prop} (h:Duo X Y lo w) (hl:lo≤w.heap.size)
  (hc:∀ B,X w B→(∀ b∈B,lo≤b)→Calls P f args w (Ret fun v w'=>R v∧∃ B',X' w' B'∧Mv B B' w w')):Calls P f args w (Ret fun v w'=>R v∧Duo X' Y lo w'∧Below lo w w'):=by
 obtain⟨B,C,h1,h2,h3,h4⟩:=h
 refine(hc B h1 fun b hb=>(h3 b hb).1).to fun v w' ⟨hR,B',hX,hm⟩=>⟨hR,⟨B',C,hX,hY.kpd h2 hm.k fun b hb hb'=>(h3 b hb').2 hb,fun b hb=>⟨hm.lo (fun b hb=>(h3 b hb).1) hl b hb,fun hc=>?_⟩,h4⟩,hm.bel (fun b hb=>(h3 b hb).1) hl⟩
 rcases hm.sub b hb with hb'|hb'
 ·exact(h3 b hb').2 hc
 ·exact absurd (hY.lt h2 b hc) (Nat.not_lt.2 hb')
theorem right [hX:Thing X] {P:Program} {f:FuncId} {args:Array Value} {R:Value→Prop} (h:Duo X Y lo w) (hl:lo≤w.heap.size)
  (hc:∀ B,Y w B→(∀ b∈B,lo≤b)→Calls P f args w (Ret fun v w'=>R v∧∃ B',Y' w' B'∧Mv B B' w w')):Calls P f args w (Ret fun v w'=>R v∧Duo X Y' lo w'∧Below lo w w'):=
 (h.swap.left hl hc).to fun _ _ ⟨h1,h2,h3⟩=>⟨h1,h2.swap,h3⟩
end Duo
end Coup
namespace Go.Proofs.YtdbogkndglbffaaGreat
open Go Go.RowKit Coup
def DkX(w:World)(g:Nat)(B:List Nat)(D:Dk):Prop:=∃ pl m G ol cl st fu sv,B=[g,pl,m]++G∧DkM w g pl m G D ol cl st fu sv∧DkO w G D sv
namespace DkX
variable {w w':World}{g:Nat}{B M:List Nat}{D:Dk}
theorem kpd(h:DkX w g B D)(k:Kp M w w')(hM:∀ b∈B,b∉M):DkX w' g B D:=by
 obtain⟨pl,m,G,ol,cl,st,fu,sv,rfl,h1,h2⟩:=h
 exact⟨pl,m,G,ol,cl,st,fu,sv,rfl,h1.kpd k ⟨hM g ay,hM pl ay,hM m ay,fun b hb=>hM b aH⟩,h2.kpd k fun b hb=>hM b aH⟩
theorem new(h:DkX w g B D)(hb:Below w.heap.size w w'):DkX w' g B D:=h.kpd (M:=[]) (Kp.of_below hb) (fun _ _=>ay)
theorem lt(h:DkX w g B D):∀ b∈B,b<w.heap.size:=by
 obtain⟨pl,m,G,ol,cl,st,fu,sv,rfl,h1,h2⟩:=h
 intro b hb
 simp only[List.cons_append,List.nil_append,List.mem_cons]at hb
 rcases hb with rfl|rfl|rfl|hb
 ·exact h1.row.lt
 ·exact h1.own.lt
 ·exact h1.map.lt
 ·exact h1.inG b hb
theorem ok(h:DkX w g B D):zka D:=by
 obtain⟨pl,m,G,ol,cl,st,fu,sv,rfl,h1,h2⟩:=h
 exact h1.ok
theorem pos(h:DkX w g B D):0<D.V.length:=by
 obtain⟨pl,m,G,ol,cl,st,fu,sv,rfl,h1,h2⟩:=h
 exact h1.pos
theorem only{b:Nat}(h:DkX w g B D)(ho:Only b w w')(hb:b∉B):DkX w' g B D:=h.kpd (Kp.zaZ ho) fun x hx e=>hb (by rw[←List.mem_singleton.1 e];exact hx)
instance(g:Nat)(D:Dk):Thing (fun w B=>DkX w g B D):=⟨kpd,lt⟩
end DkX
variable {w:World}{g:Nat}{B:List Nat}{D:Dk}
theorem sectors(h:DkX w g B D):Calls Tryz.prog 135 [.pointer (some ⟨g,0,none⟩)].toArray w (Ret fun v w'=>v= .int .i64 (D.V.length:Int)∧w=w'):=by
 obtain⟨pl,m,G,ol,cl,st,fu,sv,rfl,h1,h2⟩:=h
 exact zhw h1
theorem read(h:DkX w g B D)(i:Int):Calls Tryz.prog 115 [.pointer (some ⟨g,0,none⟩), .int .i64 i].toArray w (Ret fun v w'=>v= .tuple #[.agg (bv (if inD D i then za8 D i.toNat else zbW)).toArray, .int .i64 (if inD D i then 0 else 2)]∧Below w.heap.size w w'):=by
 obtain⟨pl,m,G,ol,cl,st,fu,sv,rfl,h1,h2⟩:=h
 exact read23 h1 i
def zbO(D:Dk)(i:Int)(s:Sec):Dk:=if inD D i then zhu D i.toNat s else D
def zix(D:Dk)(i:Int):Int:=if inD D i then(if zbg D then 0 else 10)else 2
def zbR(D:Dk)(k:Nat):Prop:=∀ v∈D.V,v.length≤k
theorem zbR.ver{k i:Nat}(h:zbR D k)(hi:i<D.V.length):(ver D i).length≤k:=h _ (List.mem_of_getElem? (zhv hi))
theorem write(h:DkX w g B D)(i:Int)(s:Sec)(hs:s.length=128)(hsh:zbR D 90000):
  Calls Tryz.prog 136 [.pointer (some ⟨g,0,none⟩), .int .i64 i, .agg (bv s).toArray].toArray w (Ret fun v w'=>v= .int .i64 (zix D i)∧∃ B',DkX w' g B' (zbO D i s)∧Mv B B' w w'):=by
 obtain⟨pl,m,G,ol,cl,st,fu,sv,rfl,h1,h2⟩:=h
 rw[zbO,zix]
 by_cases hi:0≤i∧i<D.V.length
 ·obtain⟨k,rfl⟩:∃ k:Nat,i=k:=⟨i.toNat,ae⟩
  have hin:inD D (k:Int)=true:=decide_eq_true hi
  rw[hin,if_pos rfl,if_pos rfl,Int.toNat_natCast]
  have hk:k<D.V.length:=by omega
  refine(zqc h1 h2 k s hk hs (Nat.lt_of_le_of_lt (hsh.ver hk) ae)).to fun v w' hR=>?_
  obtain⟨e,⟨st',G',sv',h3,h4,h5⟩,h6⟩:=hR
  refine⟨e,[g,pl,m]++G',⟨pl,m,G',ol,cl,st',fu,sv',rfl,h3,h4⟩,h6,fun b hb=>?_⟩
  rcases List.mem_append.1 hb with hb|hb
  ·exact .inl (List.mem_append_left _ hb)
  ·exact(h5 b hb).imp (List.mem_append_right _) id
 ·have hin:inD D i=false:=decide_eq_false hi
  rw[hin]
  refine(zqd h1 i s hi hs).to fun v w' hR=>?_
  obtain⟨e,h3⟩:=hR
  exact⟨e,_,⟨pl,m,G,ol,cl,st,fu,sv,rfl,h1.new h3,h2.kpd (M:=[]) (Kp.of_below h3) ay⟩,Kp.zc0 h3,fun b hb=>.inl hb⟩
theorem zos{f:Nat→Nat→Sec}{k i:Nat}(h:(opN D)[k]?=some i):(i,f k i)∈zd3 D f:=List.mem_of_getElem? (zmg h)
theorem zhy{f:Nat→Nat→Sec}{k i:Nat}(h:(opN D)[k]?=some i):ver (zcB D (zd3 D f)) i=[f k i]:=
 zff _ D i _ (fun _ hp=>zje hp) (by rw[zd4];exact zkd D) (zos h)
theorem zfZ{f:Nat→Nat→Sec}{i:Nat}(h:zb1 D i=false):ver (zcB D (zd3 D f)) i=ver D i:=by
 refine ze0 _ D i (fun _ hp=>zje hp) fun p hp e=>?_
 have h1:p.1∈(zd3 D f).map (·.1):=List.mem_map_of_mem hp
 rw[zd4,e]at h1
 rw[(zhx.1 h1).2]at h
 cases h
theorem DkO.settled{w:World}{G:List Nat}{D D1:Dk}{sv:Nat→Value}(h:DkO w G D sv)(hV:D1.V=D.V)(f:Nat→Nat→Sec):DkO w G (zcB D1 (zd3 D1 f)) sv:=by
 have h1:DkO w G D1 sv:=h.alike hV
 have hc:∀ i,zb1 (zcB D1 (zd3 D1 f)) i=true→zb1 D1 i=true∧ver (zcB D1 (zd3 D1 f)) i=ver D1 i:=fun i hi=>by
  cases hb:zb1 D1 i with
  |false=>rw[zb1,zfZ hb]at hi;rw[zb1]at hb;rw[hb]at hi;cases hi
  |true=>
   have hil:i<D1.V.length:=by
    rw[zb1]at hb
    have:=of_decide_eq_true hb
    by_cases hlt:i<D1.V.length
    ·exact hlt
    ·rw[ver,List.getD_eq_getElem?_getD,List.getElem?_eq_none ae]at this;simp at this
   obtain⟨k,hk⟩:=List.getElem?_of_mem (zhx.2 ⟨hil,hb⟩)
   rw[zb1,zhy hk]at hi
   simp at hi
 exact⟨fun i hi=>by rw[(hc i hi).2];exact h1.own i (hc i hi).1,fun i j b hi hj=>h1.sep i j b (hc i hi).1 (hc j hj).1⟩
theorem zot(h:zka D){i:Nat}(hi:i<D.V.length)(ho:zb1 D i=false):∃ s,ver D i=[s]:=by
 have h1:=List.length_pos_iff.2 (zfY h hi).1
 have h2:¬1<(ver D i).length:=of_decide_eq_false ho
 exact List.length_eq_one_iff.1 ae
theorem Dk.ext'{D D':Dk}(h1:D.V=D'.V)(h2:D.left=D'.left)(h3:D.dead=D'.dead):D=D':=by
 cases D;cases D';simp_all
theorem V_ext{D D':Dk}(hl:D.V.length=D'.V.length)(h:∀ i,i<D.V.length→ver D i=ver D' i):D.V=D'.V:=by
 refine List.ext_getElem? fun i=>?_
 by_cases hi:i<D.V.length
 ·rw[zhv hi,zhv (hl▸hi),h i hi]
 ·rw[List.getElem?_eq_none ae,List.getElem?_eq_none ae]
theorem zou(h:zka D):zke D=zbu D:=by
 unfold zke zbu
 by_cases ho:zbg D=true
 ·rw[if_pos ho,if_pos ho]
  have h1:zka (zcM D):=by have:=zdA D;exact⟨by rw[this];exact h.n,by rw[this];exact h.ne,by rw[this];exact h.sec,by rw[this];exact h.short⟩
  have hl:=zln (zcM D) (zd3 (zcM D) fun _ i=>za8 (zcM D) i)
  refine Dk.ext' (V_ext ?_ fun i hi=>?_) hl.1 hl.2
  ·rw[zgp];simp[zdA]
  ·rw[zgp]at hi
   have e:ver {zcM D with V:=(zcM D).V.map fun v=>[zfw v]} i=[zfw (ver (zcM D) i)]:=by
    unfold ver
    dsimp only
    rw[List.getD_eq_getElem?_getD,List.getElem?_map,zhv hi];rfl
   have e2:ver {zcM D with V:=D.V.map fun v=>[zfw v]} i=[zfw (ver (zcM D) i)]:=by rw[←e,zdA]
   rw[e2]
   cases hb:zb1 (zcM D) i with
   |true=>
    obtain⟨k,hk⟩:=List.getElem?_of_mem (zhx.2 ⟨hi,hb⟩)
    rw[zhy hk];rfl
   |false=>
    rw[zfZ hb]
    obtain⟨s,hs⟩:=zot h1 hi hb
    rw[hs];rfl
 ·rw[if_neg ho,if_neg ho]
theorem flush(h:DkX w g B D):Calls Tryz.prog 138 [.pointer (some ⟨g,0,none⟩)].toArray w (Ret fun v w'=>v= .int .i64 (if zbg D then 0 else 10)∧DkX w' g B (zbu D)∧Kp B w w'):=by
 obtain⟨pl,m,G,ol,cl,st,fu,sv,rfl,h1,h2⟩:=h
 rw[←zou h1.ok]
 refine(flush16 h1).to fun v w' hR=>?_
 obtain⟨e,⟨st',h3⟩,h4⟩:=hR
 refine⟨e,⟨pl,m,G,ol,cl,st',fu,sv,rfl,h3,?_⟩,h4.weak fun k _ hk=>List.mem_append_left _ hk⟩
 have h5:=h2.kpd h4 (fun b hb=>by have:=h1.ne.2.2.2 b hb;simp[this])
 unfold zke
 split
 ·exact h5.settled (zdA D) _
 ·exact h5.alike (zdA D)
end Go.Proofs.YtdbogkndglbffaaGreat
namespace Coup
open Go Go.RowKit
structure LoL(lo:Nat)(L:List Nat)(w w':World):Prop where
 os:w'.os=w.os
 tape:w'.tape=w.tape
 output:w'.output=w.output
 size:w.heap.size≤w'.heap.size
 block:∀ i,i<w.heap.size→(i<lo∨i∈L)→w'.heap[i]?=w.heap[i]?
def zpP(lo:Nat)(L:List Nat)(n:Nat):List Nat:=(List.range n).filter fun i=>decide (¬(i<lo∨i∈L))
theorem zam{lo n b:Nat}{L:List Nat}(h:b<lo∨b∈L):b∉zpP lo L n:=fun hm=>by
 have:=(List.mem_filter.1 hm).2
 simp only[decide_eq_true_eq]at this
 exact this h
theorem zcw{lo n b:Nat}{L:List Nat}(h:b∈zpP lo L n):lo≤b∧b∉L:=by
 have:=(List.mem_filter.1 h).2
 simp only[decide_eq_true_eq,not_or,Nat.not_lt]at this
 exact this
namespace LoL
variable {lo:Nat}{L:List Nat}{w w1 w2 w':World}
theorem refl(lo:Nat)(L:List Nat)(w:World):LoL lo L w w:=⟨rfl,rfl,rfl,Nat.le_refl _,fun _ _ _=>rfl⟩
theorem kp(h:LoL lo L w w'):Kp (zpP lo L w.heap.size) w w':=
 ⟨h.os,h.tape,h.output,h.size,fun i hi hm=>h.block i hi (by
  by_cases hx:i<lo∨i∈L
  ·exact hx
  ·exact absurd (List.mem_filter.2 ⟨List.mem_range.2 hi,decide_eq_true hx⟩) hm)⟩
theorem zkf{M:List Nat}(h:Kp M w w')(hM:∀ b∈M,(lo≤b∧b∉L)∨w.heap.size≤b):LoL lo L w w':=
 ⟨h.os,h.tape,h.output,h.size,fun i hi hx=>h.block i hi fun hm=>by
  rcases hM i hm with h1|h1
  ·exact hx.elim (fun hx=>ae) h1.2
  ·omega⟩
theorem of_below(h:Below w.heap.size w w'):LoL lo L w w':=zkf (M:=[]) (Kp.of_below h) ay
theorem kpd{M:List Nat}(h:LoL lo L w w1)(k:Kp M w1 w')(hM:∀ b∈M,(lo≤b∧b∉L)∨w.heap.size≤b):LoL lo L w w':=
 ⟨k.os.trans h.os,k.tape.trans h.tape,k.output.trans h.output,Nat.le_trans h.size k.size,fun i hi hx=>(k.block i (Nat.lt_of_lt_of_le hi h.size) fun hm=>by
  rcases hM i hm with h1|h1
  ·exact hx.elim (fun hx=>ae) h1.2
  ·omega).trans (h.block i hi hx)⟩
theorem new(h:LoL lo L w w1)(hb:Below w1.heap.size w1 w'):LoL lo L w w':=h.kpd (M:=[]) (Kp.of_below hb) ay
theorem only{g:Nat}(h:LoL lo L w w1)(ho:Only g w1 w')(hg:w.heap.size≤g∨lo≤g∧g∉L):LoL lo L w w':=h.kpd (Kp.zaZ ho) fun b hb=>by
 rw[List.mem_singleton.1 hb];exact hg.symm
theorem own{base e sz m:Nat}{v:Value}{xs:List Value}(h:LoL lo L w w1)(ho:zaz w1 base e sz v m xs)(hg:w1.grownBy w' v.ownBlock)(hk:w.heap.size≤base):LoL lo L w w':=
 h.kpd (Kp.za6 hg) fun b hb=>by
  have:=(ho.lt b (Option.mem_toList.1 hb)).1
  right;omega
theorem ll{L2:List Nat}(h:LoL lo L w w1)(k:LoL lo L2 w1 w')(hL:∀ b∈L,b∈L2):LoL lo L w w':=h.kpd k.kp fun b hb=>.inl ⟨(zcw hb).1,fun hm=>(zcw hb).2 (hL b hm)⟩
theorem weak{lo2:Nat}{L2:List Nat}(h:LoL lo L w w')(h1:lo2≤lo)(h2:∀ b∈L2,b∈L):LoL lo2 L2 w w':=⟨h.os,h.tape,h.output,h.size,fun i hi hx=>h.block i hi (hx.imp (fun h=>ae) (h2 i))⟩
end LoL
theorem row.kL{lo n g t:Nat}{L:List Nat}{cs:List Value}{w w':World}(h:row w g cs t)(k:Kp (zpP lo L n) w w')(hg:g<lo∨g∈L:=by first |(left;omega)|(right;simp;done)|(right;simp[*];done)):row w' g cs t:=h.kpd k (zam hg)
theorem row.kl{lo g t:Nat}{L:List Nat}{cs:List Value}{w w':World}(h:row w g cs t)(k:LoL lo L w w')(hg:g<lo∨g∈L:=by first |(left;omega)|(right;simp;done)|(right;simp[*];done)):row w' g cs t:=h.kpd k.kp (zam hg)
theorem LoL.lq{lo:Nat}{L L2:List Nat}{w w1 w':World}(h:LoL lo L w w1)(k:LoL lo L2 w1 w')(hL:∀ b∈L,b∈L2:=by first |(intro b hb;exact hb)|(intro b hb;simp[hb];done)|(intro b hb;simp only[List.mem_cons]at hb ⊢;rcases hb with hb|hb<;>simp[hb];done)|(intro b hb;simp only[List.mem_cons]at hb ⊢;rcases hb with hb|hb|hb<;>simp[hb];done)|simp):LoL lo L w w':=h.ll k hL
theorem LoL.wk{lo:Nat}{L L2:List Nat}{w w':World}(h:LoL lo L2 w w')(hL:∀ b∈L,b∈L2:=by first |(intro b hb;exact hb)|(intro b hb;simp[hb];done)|(intro b hb;simp only[List.mem_cons]at hb ⊢;rcases hb with hb|hb<;>simp[hb];done)|simp):LoL lo L w w':=h.weak (Nat.le_refl _) hL
theorem LoL.oq{lo g:Nat}{L:List Nat}{w w1 w':World}(h:LoL lo L w w1)(ho:Only g w1 w')(hg:w.heap.size≤g∨lo≤g∧g∉L:=by first |omega|(right;exact⟨ae,by assumption⟩)):LoL lo L w w':=h.only ho hg
theorem zov{w0 w w':World}{lo:Nat}{L:List Nat}(h:Below w0.heap.size w0 w)(k:LoL lo L w w')(hl:w0.heap.size≤lo):Below w0.heap.size w0 w':=h.kpd k.kp fun _ hm=>Nat.le_trans hl (zcw hm).1
theorem KpB.ll{M:List Nat}{w0 w w':World}{lo:Nat}{L:List Nat}(h:KpB M w0 w)(k:LoL lo L w w')(hl:w0.heap.size≤lo):KpB M w0 w':=h.kpd k.kp fun _ hm=>.inr (Nat.le_trans hl (zcw hm).1)
section
variable {md:Option Nat→Prop}{P:Program}{n:Nat}{Q:Post}{ρ:Env}{w w1 wc w':World}{l:List Oper}{lo:Nat}{L:List Nat}
theorem zct{id:Nat}(lo:Nat)(L:List Nat)(hm:P.follows .mixedOrders=true)(h:∀ w1,Below w.heap.size w w1→w.heap.size=w1.heap.size→Kp (zpP lo L w.heap.size) w1 w1→WA md P n l (Kp (zpP lo L w.heap.size) w1) Q [] ρ w1):W md P n (.region id l.toArray true) Q ρ w:=
 W_draw (Kp (zpP lo L w.heap.size) w.drew) hm (Kp.refl _ _) (h w.drew (Below.refl _ _).drew rfl (Kp.refl _ _))
theorem Kp.zdh{k:Nat}(hS:Kp (zpP lo L k) w1 wc)(hn:k=w1.heap.size)(h:LoL lo L wc w'):Kp (zpP lo L k) w1 w':=
 hS.add h.kp fun g hm=>by
  by_cases hg:g<k
  ·exact .inr (List.mem_filter.2 ⟨List.mem_range.2 hg,decide_eq_true fun hx=>hx.elim (fun hl=>absurd (zcw hm).1 (Nat.not_le.2 hl)) (zcw hm).2⟩)
  ·left;omega
end
structure Two(X Y:World→List Nat→Prop)(lo:Nat)(L:List Nat)(w:World):Prop where
 ex:∃ B C,X w B∧Y w C∧(∀ b∈B,lo≤b∧b∉C∧b∉L)∧∀ b∈C,lo≤b∧b∉L
 lo:lo≤w.heap.size
 lt:∀ b∈L,b<w.heap.size
namespace Two
variable {X X' Y Y':World→List Nat→Prop}{lo:Nat}{L:List Nat}{w w':World}
theorem kpd{M:List Nat}[hX:Thing X][hY:Thing Y](h:Two X Y lo L w)(k:Kp M w w')(hM:∀ b∈M,b<lo∨b∈L):Two X Y lo L w':=by
 obtain⟨⟨B,C,h1,h2,h3,h4⟩,h5,h6⟩:=h
 exact⟨⟨B,C,hX.kpd h1 k fun b hb hm=>(hM b hm).elim (fun hl=>absurd (h3 b hb).1 (Nat.not_le.2 hl)) (h3 b hb).2.2,hY.kpd h2 k fun b hb hm=>(hM b hm).elim (fun hl=>absurd (h4 b hb).1 (Nat.not_le.2 hl)) (h4 b hb).2,h3,h4⟩,Nat.le_trans h5 k.size,fun b hb=>Nat.lt_of_lt_of_le (h6 b hb) k.size⟩
theorem new [hX:Thing X][hY:Thing Y](h:Two X Y lo L w)(hb:Below w.heap.size w w'):Two X Y lo L w':=h.kpd (M:=[]) (Kp.of_below hb) ay
theorem newc{g:Nat}[hX:Thing X][hY:Thing Y](h:Two X Y lo L w)(hb:Below w.heap.size w w')(hg:w.heap.size≤g)(hg':g<w'.heap.size):Two X Y lo (g::L) w':=by
 obtain⟨⟨B,C,h1,h2,h3,h4⟩,h5,h6⟩:=h
 refine⟨⟨B,C,hX.kpd h1 (M:=[]) (Kp.of_below hb) ay,hY.kpd h2 (M:=[]) (Kp.of_below hb) ay,fun b hb=>⟨(h3 b hb).1,(h3 b hb).2.1,fun hm=>?_⟩,fun b hb=>⟨(h4 b hb).1,fun hm=>?_⟩⟩,Nat.le_trans h5 hb.size,fun b hm=>?_⟩
 ·rcases List.mem_cons.1 hm with rfl|hm
  ·exact absurd (hX.lt h1 _ hb) (Nat.not_lt.2 hg)
  ·exact(h3 b hb).2.2 hm
 ·rcases List.mem_cons.1 hm with rfl|hm
  ·exact absurd (hY.lt h2 _ hb) (Nat.not_lt.2 hg)
  ·exact(h4 b hb).2 hm
 ·rcases List.mem_cons.1 hm with rfl|hm
  ·exact hg'
  ·exact Nat.lt_of_lt_of_le (h6 b hm) hb.size
theorem only{g:Nat}[hX:Thing X][hY:Thing Y](h:Two X Y lo L w)(ho:Only g w w')(hg:g<lo∨g∈L):Two X Y lo L w':=h.kpd (Kp.zaZ ho) fun b hb=>by rw[List.mem_singleton.1 hb];exact hg
theorem weak{L2:List Nat}(h:Two X Y lo L w)(h2:∀ b∈L2,b∈L):Two X Y lo L2 w:=by
 obtain⟨⟨B,C,a,b,h3,h4⟩,h5,h6⟩:=h
 exact⟨⟨B,C,a,b,fun x hx=>⟨(h3 x hx).1,(h3 x hx).2.1,fun hm=>(h3 x hx).2.2 (h2 x hm)⟩,fun x hx=>⟨(h4 x hx).1,fun hm=>(h4 x hx).2 (h2 x hm)⟩⟩,h5,fun b hb=>h6 b (h2 b hb)⟩
theorem swap(h:Two X Y lo L w):Two Y X lo L w:=by
 obtain⟨⟨B,C,h1,h2,h3,h4⟩,h5,h6⟩:=h
 exact⟨⟨C,B,h2,h1,fun b hb=>⟨(h4 b hb).1,fun hm=>(h3 b hm).2.1 hb,(h4 b hb).2⟩,fun b hb=>⟨(h3 b hb).1,(h3 b hb).2.2⟩⟩,h5,h6⟩
theorem mv{B B' C:List Nat}[hX:Thing X][hY:Thing Y](h1:X' w' B')(h2:Y w C)(h3:∀ b∈B,lo≤b∧b∉C∧b∉L)(h4:∀ b∈C,lo≤b∧b∉L)(h5:lo≤w.heap.size)(h6:∀ b∈L,b<w.heap.size)(hm:Mv B B' w w'):Two X' Y lo L w':=
 ⟨⟨B',C,h1,hY.kpd h2 hm.k fun b hb hb'=>(h3 b hb').2.1 hb,fun b hb=>by
  rcases hm.sub b hb with hb'|hb'
  ·exact h3 b hb'
  ·exact⟨Nat.le_trans h5 hb',fun hc=>absurd (hY.lt h2 b hc) (Nat.not_lt.2 hb'),fun hc=>absurd (h6 b hc) (Nat.not_lt.2 hb')⟩,h4⟩,Nat.le_trans h5 hm.k.size,fun b hb=>Nat.lt_of_lt_of_le (h6 b hb) hm.k.size⟩
theorem left [hX:Thing X] [hY:Thing Y] {P:Program} {f:FuncId} {args:Array Value} {R:Value→Prop} (h:Two X Y lo L w)
  (hc:∀ B,X w B→(∀ b∈B,lo≤b∧b∉L)→Calls P f args w (Ret fun v w'=>R v∧∃ B',X' w' B'∧Mv B B' w w')):Calls P f args w (Ret fun v w'=>R v∧Two X' Y lo L w'∧LoL lo L w w'):=by
 obtain⟨⟨B,C,h1,h2,h3,h4⟩,h5,h6⟩:=h
 exact(hc B h1 fun b hb=>⟨(h3 b hb).1,(h3 b hb).2.2⟩).to fun v w' ⟨hR,B',hX',hm⟩=>⟨hR,mv (X:=X) hX' h2 h3 h4 h5 h6 hm,LoL.zkf hm.k fun b hb=>.inl ⟨(h3 b hb).1,(h3 b hb).2.2⟩⟩
theorem right [hX:Thing X] [hY:Thing Y] {P:Program} {f:FuncId} {args:Array Value} {R:Value→Prop} (h:Two X Y lo L w)
  (hc:∀ B,Y w B→(∀ b∈B,lo≤b∧b∉L)→Calls P f args w (Ret fun v w'=>R v∧∃ B',Y' w' B'∧Mv B B' w w')):Calls P f args w (Ret fun v w'=>R v∧Two X Y' lo L w'∧LoL lo L w w'):=
 (h.swap.left hc).to fun _ _ ⟨h1,h2,h3⟩=>⟨h1,h2.swap,h3⟩
theorem one{B:List Nat}(h:X w B)(hB:∀ b∈B,lo≤b∧b∉L)(hl:lo≤w.heap.size)(hL:∀ b∈L,b<w.heap.size):Two X None lo L w:=⟨⟨B,[],h,rfl,fun b hb=>⟨(hB b hb).1,ay,(hB b hb).2⟩,fun b hb=>nomatch hb⟩,hl,hL⟩
theorem add{C:List Nat}[hX:Thing X](h:Two X None lo L w)(hb:Below w.heap.size w w')(hY:Y w' C)(hC:∀ b∈C,w.heap.size≤b):Two X Y lo L w':=by
 obtain⟨⟨B,_,h1,rfl,h3,h4⟩,h5,h6⟩:=h
 exact⟨⟨B,C,hX.kpd h1 (M:=[]) (Kp.of_below hb) ay,hY,fun b hb=>⟨(h3 b hb).1,fun hc=>absurd (hX.lt h1 b hb) (Nat.not_lt.2 (hC b hc)),(h3 b hb).2.2⟩,fun b hb=>⟨Nat.le_trans h5 (hC b hb),fun hm=>absurd (h6 b hm) (Nat.not_lt.2 (hC b hb))⟩⟩,Nat.le_trans h5 hb.size,fun b hm=>Nat.lt_of_lt_of_le (h6 b hm) hb.size⟩
theorem fst(h:Two X Y lo L w):Two X None lo L w:=by
 obtain⟨⟨B,C,h1,h2,h3,h4⟩,h5,h6⟩:=h
 exact⟨⟨B,[],h1,rfl,fun b hb=>⟨(h3 b hb).1,ay,(h3 b hb).2.2⟩,fun b hb=>nomatch hb⟩,h5,h6⟩
end Two
def OwnZ(e sz:Nat)(u:Value)(m:Nat)(xs:List Value):World→List Nat→Prop:=fun w C=>C=u.ownBlock.toList∧zaz w 0 e sz u m xs
instance(e sz:Nat)(u:Value)(m:Nat)(xs:List Value):Thing (OwnZ e sz u m xs):=
 ⟨fun {w w' B M} h k hM=>⟨h.1,h.2.kpd k fun g hm e=>hM g (by rw[h.1];exact Option.mem_toList.2 e) hm⟩,fun {w B} h b hb=>by rw[h.1]at hb;exact(h.2.lt b (Option.mem_toList.1 hb)).2⟩
namespace Two
variable {X:World→List Nat→Prop}{lo:Nat}{L:List Nat}{w w':World}{e sz:Nat}{u v:Value}{m k:Nat}{xs ys:List Value}
theorem owns(h:Two X (OwnZ e sz u m xs) lo L w):zaz w 0 e sz u m xs:=by
 obtain⟨⟨B,C,h1,h2,h3,h4⟩,h5,h6⟩:=h
 exact h2.2
theorem grow [hX:Thing X]{base:Nat}(h:Two X (OwnZ e sz u m xs) lo L w)(hv:zaz w' base e sz v k ys)(hg:w.grownBy w' u.ownBlock)(hf:∀ g,v.ownBlock=some g→u.ownBlock=some g∨w.heap.size≤g):Two X (OwnZ e sz v k ys) lo L w'∧LoL lo L w w':=by
 obtain⟨⟨B,C,h1,h2,h3,h4⟩,h5,h6⟩:=h
 have hm:Mv C v.ownBlock.toList w w':=⟨by rw[h2.1];exact Kp.za6 hg,fun b hb=>by rw[h2.1];exact(hf b (Option.mem_toList.1 hb)).imp Option.mem_toList.2 id⟩
 have hz:OwnZ e sz v k ys w' v.ownBlock.toList:=⟨rfl,zaz.mono hv (Nat.zero_le _)⟩
 exact⟨(mv (X:=OwnZ e sz u m xs) (X':=OwnZ e sz v k ys) (Y:=X) hz h1 (fun b hb=>⟨(h4 b hb).1,fun hc=>(h3 b hc).2.1 hb,(h4 b hb).2⟩) (fun b hb=>⟨(h3 b hb).1,(h3 b hb).2.2⟩) h5 h6 hm).swap,LoL.zkf hm.k fun b hb=>.inl (h4 b hb)⟩
end Two
end Coup
namespace Go.Proofs.YtdbogkndglbffaaGreat
open Go Go.RowKit Coup
abbrev DZ(g:Nat)(D:Dk):World→List Nat→Prop:=fun w B=>DkX w g B D
instance(g:Nat)(D:Dk):Thing (DZ g D):=⟨DkX.kpd,DkX.lt⟩
def fuseA(D:Dk)(k:Int):Dk:=if 0≤k then {D with left:=k}else D
theorem zcb{D:Dk}{k k':Nat}(h:zbR D k)(hk:k≤k'):zbR D k':=fun v hv=>Nat.le_trans (h v hv) hk
theorem zow{D:Dk}{i:Int}(h:inD D i=true):∃ k:Nat,i=k∧k<D.V.length:=by
 have:=of_decide_eq_true h
 exact⟨i.toNat,ae,ae⟩
section
variable {Y:World→List Nat→Prop}[Thing Y]{g lo:Nat}{L:List Nat}{D:Dk}{w:World}
omit [Thing Y] in
theorem tOk(h:Two (DZ g D) Y lo L w):zka D∧0<D.V.length:=by
 obtain⟨⟨B,C,h1,h2,h3,h4⟩,h5,h6⟩:=h
 exact⟨h1.ok,h1.pos⟩
theorem zox(h:Two (DZ g D) Y lo L w)(i:Int)(s:Sec)(hs:s.length=128)(hsh:zbR D 90000):
  Calls Tryz.prog 136 [.pointer (some ⟨g,0,none⟩), .int .i64 i, .agg (bv s).toArray].toArray w (Ret fun v w'=>v= .int .i64 (zix D i)∧Two (DZ g (zbO D i s)) Y lo L w'∧LoL lo L w w'):=
 h.left fun B hX _=>write hX i s hs hsh
theorem zoy(h:Two (DZ g D) Y lo L w):
  Calls Tryz.prog 138 [.pointer (some ⟨g,0,none⟩)].toArray w (Ret fun v w'=>v= .int .i64 (if zbg D then 0 else 10)∧Two (DZ g (zbu D)) Y lo L w'∧LoL lo L w w'):=
 h.left fun B hX _=>(flush hX).to fun _ _ ⟨h1,h2,h3⟩=>⟨h1,B,h2, .zkf h3⟩
omit [Thing Y]
theorem zjf(h:Two (DZ g D) Y lo L w):Calls Tryz.prog 135 [.pointer (some ⟨g,0,none⟩)].toArray w (Ret fun v w'=>v= .int .i64 (D.V.length:Int)∧w=w'):=by
 obtain⟨⟨B,C,h1,h2,h3,h4⟩,h5,h6⟩:=h
 exact sectors h1
theorem tRead(h:Two (DZ g D) Y lo L w)(i:Int):Calls Tryz.prog 115 [.pointer (some ⟨g,0,none⟩), .int .i64 i].toArray w (Ret fun v w'=>v= .tuple #[.agg (bv (if inD D i then za8 D i.toNat else zbW)).toArray, .int .i64 (if inD D i then 0 else 2)]∧Below w.heap.size w w'):=by
 obtain⟨⟨B,C,h1,h2,h3,h4⟩,h5,h6⟩:=h
 exact read h1 i
end
theorem newC {w : World} (n : Nat) (h1 : 1 ≤ n) (h2 : n ≤ 8192) :
  Calls Tryz.prog 31 [.int .i64 (n : Int)].toArray w (Ret fun v w' => ∃ g B, v = .tuple #[.pointer (some ⟨g, 0, none⟩), .int .i64 0] ∧ DkX w' g B (zh4 n) ∧ (∀ b ∈ B, w.heap.size ≤ b) ∧ Below w.heap.size w w') :=
 (new11a n h1 h2).to fun v w' ⟨g, pl, m, e, hM, l1, l2, l3, hb⟩ => ⟨g, [g, pl, m] ++ [], e, ⟨pl, m, [], 0, n, 0, false, _, rfl, hM, ⟨fun i hi => absurd hi (by rw [zei]; simp), fun i j b hi => absurd hi (by rw [zei]; simp)⟩⟩, (fun b hb => by
  simp only [List.append_nil, List.mem_cons, List.not_mem_nil, or_false] at hb
  rcases hb with rfl | rfl | rfl <;> assumption), hb⟩
theorem zm8(n:Nat):zbR (zh4 n) 1:=fun v hv=>by rw[(List.mem_replicate.1 hv).2];simp
theorem zcx{D:Dk}(h1:D.left=-1)(h2:D.dead=false):zbg D=true∧zcM D=D:=by
 have h:zbg D=true:=by unfold zbg;rw[h1,h2];rfl
 refine⟨h,?_⟩
 rw[zcM,if_pos h,h1]
 exact Dk.ext' rfl h1.symm rfl
structure zch(D:Dk)(k:Nat):Prop where
 left:D.left=-1
 dead:D.dead=false
 pos:0<D.V.length
 short:zbR D k
theorem zch.weak{D:Dk}{k k':Nat}(h:zch D k)(hk:k≤k'):zch D k':=⟨h.left,h.dead,h.pos,zcb h.short hk⟩
theorem zch.zbO{D:Dk}{k:Nat}(h:zch D k)(i:Int)(s:Sec):zch (zbO D i s) (k+1)∧(Go.Proofs.YtdbogkndglbffaaGreat.zbO D i s).V.length=D.V.length∧
  ∀ j,j<D.V.length→ver (Go.Proofs.YtdbogkndglbffaaGreat.zbO D i s) j=if i=(j:Int)then ver D j++[s]else ver D j:=by
 unfold Go.Proofs.YtdbogkndglbffaaGreat.zbO
 split
 ·rename_i hin
  obtain⟨m,rfl,hm⟩:=zow hin
  obtain⟨h1,h2⟩:=zcx h.left h.dead
  rw[Int.toNat_natCast,zhu,if_pos h1,h2]
  refine⟨⟨h.left,h.dead,by show 0<(D.V.set _ _).length;rw[List.length_set];exact h.pos,fun v hv=>?_⟩,List.length_set ..,fun j hj=>?_⟩
  ·rcases List.mem_or_eq_of_mem_set hv with e|e
   ·exact Nat.le_trans (h.short v e) ae
   ·rw[e,List.length_append,List.length_singleton]
    have:=h.short.ver hm
    omega
  ·rw[zeI hm]
   by_cases e:m=j
   ·subst e;rw[if_pos rfl,if_pos rfl]
   ·rw[if_neg e,if_neg ae]
 ·rename_i hin
  refine⟨h.weak ae,rfl,fun j hj=>?_⟩
  rw[if_neg]
  intro e
  exact hin (decide_eq_true (by rw[e];omega))
theorem zkg{n:Nat}(h:0<n):zch (zh4 n) 1:=⟨rfl,rfl,by rw[ze1];exact h,zm8 n⟩
def fstH(s:Sec):Sec:=(s.drop 0).take 64
def sndH(s:Sec):Sec:=(s.drop 64).take 64
theorem zoz{D:Dk}(hs:zbg D=true){i:Nat}(hi:i<D.V.length):ver (zbu D) i=[za8 D i]:=by
 rw[zbu,if_pos hs]
 unfold ver
 dsimp only
 rw[List.getD_eq_getElem?_getD,List.getElem?_map,zhv hi];rfl
theorem zde{D:Dk}:(zbu D).V.length=D.V.length:=by
 unfold zbu
 split
 ·simp
 ·rw[zdA]
theorem zdB{D:Dk}{k:Nat}(h:zch D k):zbg D=true∧zch (zbu D) 1:=by
 obtain⟨h2,h3⟩:=zcx h.left h.dead
 refine⟨h2,?_⟩
 rw[zbu,if_pos h2,h3]
 exact⟨h.left,h.dead,by show 0<(D.V.map _).length;rw[List.length_map];exact h.pos,fun v hv=>by obtain⟨u,_,rfl⟩:=List.mem_map.1 hv;simp⟩
def zqe:Int:=4611686018427387904
def zg0(c n:Int):Bool:=decide (1≤c) && decide (c≤zqe) && decide (0≤n) && decide (n<2147483648)
def tagV(c n:Int):Value:=.agg #[.int .u64 c, .int .i64 n]
theorem zkh(c n:Int):(Hid (zg0 c n=false)∧c<1)∨(Hid (zg0 c n=false)∧1≤c∧4611686018427387904<c)∨(Hid (zg0 c n=false)∧1≤c∧c≤4611686018427387904∧n<0)∨
  (Hid (zg0 c n=false)∧1≤c∧c≤4611686018427387904∧0≤n∧2147483648≤n)∨(Hid (zg0 c n=true)∧1≤c∧c≤4611686018427387904∧0≤n∧n<2147483648):=by
 have h:∀ b,(zg0 c n=b)=((decide (1≤c) && decide (c≤4611686018427387904) && decide (0≤n) && decide (n<2147483648))=b):=fun _=>rfl
 simp only[Hid,h]
 by_cases h1:1≤c
 ·by_cases h2:c≤4611686018427387904
  ·by_cases h3:0≤n
   ·by_cases h4:n<2147483648
    ·right;right;right;right;simp[h1,h2,h3,h4]
    ·right;right;right;left;simp[h1,h2,h3,h4];omega
   ·right;right;left;simp[h1,h2,h3];omega
  ·right;left;simp[h1,h2];omega
 ·left;simp[h1];omega
theorem may10(c n:Int)(w:World):Calls Tryz.prog 182 #[.agg #[.int .u64 c, .int .i64 n]] w fun e w'=>e= .returned (.bool (zg0 c n))∧Below w.heap.size w w':=by
 rcases zkh c n with⟨HM,h1⟩|⟨HM,h1,h2⟩|⟨HM,h1,h2,h3⟩|⟨HM,h1,h2,h3,h4⟩|⟨HM,h1,h2,h3,h4⟩
 all_goals
  go_enter Tryz.func182,Tryz.ntmps182
  go_wp2
  go_ret
  exact⟨zpQ (by rw[HM.out];try (first |rfl|(simp<;>omega))),(Below.refl _ _).alloc (Nat.le_refl _) _⟩
def zc4(n:Nat):Nat:=(n+51) / 48
theorem zmi(n:Nat)(hn:n≤1000000)(w:World):Calls Tryz.prog 180 #[.int .i64 n] w fun e w'=>e= .returned (.int .i64 (zc4 n))∧w=w':=by
 go_enter Tryz.func180,Tryz.ntmps180
 go_wp2
 go_ret
 exact⟨ziT (by rw[zc4];omega),rfl⟩
def zm9(n:Int):Int:=if 0≤n∧n≤32768 then((zc4 n.toNat+1) / 2:Nat)else 0
theorem zmj{n:Int}(h:¬(0≤n∧n≤32768)):zm9 n=0:=if_neg h
theorem zoA{n:Nat}(h:n≤32768):zm9 n=((zc4 n+1) / 2:Nat):=by rw[zm9,if_pos ae,Int.toNat_natCast]
theorem need12(n:Int)(w:World):Calls Tryz.prog 152 #[.int .i64 n] w fun e w'=>e= .returned (.int .i64 (zm9 n))∧w=w':=by
 by_cases h0:n<0
 ·have HN:=Lib.hid (zmj (n:=n) ae)
  go_enter Tryz.func152,Tryz.ntmps152
  go_wp2
  go_ret
  exact⟨ziT HN.out.symm,rfl⟩
 ·by_cases h1:32768<n
  ·have HN:=Lib.hid (zmj (n:=n) ae)
   go_enter Tryz.func152,Tryz.ntmps152
   go_wp2
   go_ret
   exact⟨ziT HN.out.symm,rfl⟩
  ·obtain⟨m,rfl⟩:=Int.eq_ofNat_of_zero_le (by omega:0≤n)
   have HN:=Lib.hid (zoA (n:=m) ae)
   have hb:zc4 m≤1000:=by unfold zc4;omega
   go_enter Tryz.func152,Tryz.ntmps152
   go_wp2_with (first |(go_at_call 180;refine(zmi _ ae _).mono ?_;rintro e w' ⟨rfl,rfl⟩))
   go_ret
   refine⟨ziT ?_,rfl⟩
   rw[HN.out]
   omega
theorem snocInd{α:Type}{p:List α→Prop}(h0:p [])(h1:∀ l b,p l→p (l++[b]))(l:List α):p l:=by
 have:∀ m:List α,p m.reverse:=fun m=>by
  induction m with
  |nil=>exact h0
  |cons b m ih=>rw[List.reverse_cons];exact h1 _ _ ih
 have:=this l.reverse
 rwa [List.reverse_reverse]at this
def zdl(l:List UInt8):Nat:=l.foldl (fun a b=>256*a+b.toNat) 0
theorem foldB(l:List UInt8):∀ a:Nat,l.foldl (fun a b=>256*a+b.toNat) a=a*256 ^ l.length+zdl l:=by
 induction l with
 |nil=>intro a;simp[zdl]
 |cons b l ih=>
  intro a
  rw[zdl,List.foldl_cons,List.foldl_cons,ih,ih]
  simp only[List.length_cons,Nat.pow_succ]
  rw[Nat.add_mul,Nat.add_mul]
  have:256*a*256 ^ l.length=a*(256 ^ l.length*256):=by rw[Nat.mul_comm 256 a,Nat.mul_assoc,Nat.mul_comm 256]
  omega
theorem zlq(l m:List UInt8):zdl (l++m)=zdl l*256 ^ m.length+zdl m:=by
 rw[zdl,List.foldl_append,foldB];rfl
theorem zhz(l:List UInt8)(b:UInt8):zdl (l++[b])=256*zdl l+b.toNat:=by
 rw[zlq];simp[zdl];omega
theorem zoB(l:List UInt8):zdl l<256 ^ l.length:=by
 refine snocInd (p:=fun l=>zdl l<256 ^ l.length) ?_ ?_ l
 ·simp[zdl]
 ·intro l b ih
  rw[zhz,List.length_append,List.length_singleton,Nat.pow_succ]
  have:=b.toNat_lt
  omega
def beB:Nat→Nat→List UInt8
 |0,_=>[]
 |k+1,n=>beB k (n / 256)++[UInt8.ofNat n]
theorem zaV(k n:Nat):(beB k n).length=k:=by
 induction k generalizing n with
 |zero=>rfl
 |succ k ih=>simp[beB,ih]
theorem zg1(k n:Nat):zdl (beB k n)=n % 256 ^ k:=by
 induction k generalizing n with
 |zero=>simp[beB,zdl,Nat.mod_one]
 |succ k ih=>
  rw[beB,zhz,ih,Nat.pow_succ,Nat.mul_comm (256 ^ k) 256,Nat.mod_mul]
  simp
  omega
theorem or_step(a:Nat)(b:UInt8):(256*a) |||b.toNat=256*a+b.toNat:=by
 have:=Nat.two_pow_add_eq_or_of_lt (i:=8) (b:=b.toNat) (by have:=b.toNat_lt;omega) a
 simpa using this.symm
theorem zjg(l:List UInt8)(k:Nat)(b:UInt8)(h:l[k]?=some b):zdl (l.take (k+1))=256*zdl (l.take k)+b.toNat:=by
 rw[List.take_add_one,h,Option.toList_some,zhz]
theorem zki(l:List UInt8)(k:Nat)(hk:k≤7):zdl (l.take k)<72057594037927936:=by
 have h:=zoB (l.take k)
 have:256 ^ (l.take k).length≤256 ^ 7:=Nat.pow_le_pow_right ae aK
 omega
theorem zf0(p:Option Addr)(n c:Nat)(l:List UInt8)(w:World)(h:zaS w p n 1 (bv l))(hn:n≤8):Calls Tryz.prog 198 #[.slice p n c] w fun e w'=>e= .returned (.int .u64 (zdl l))∧w=w':=by
 obtain⟨h1,h2,h3⟩:=h
 have H1:l.length=n:=by simpa [zal]using h1
 clear h1 h2
 have HL:=Lib.hid H1;clear H1
 go_enter Tryz.func198,Tryz.ntmps198
 go_wp2
 go_loop [2,7] (fun a i=>∃ k:Nat,k≤n∧i= .int .i64 k∧a= .int .u64 (zdl (l.take k))) (fun _ i=>n - (intOf i).toNat)
 case atStart=>exact⟨0,ae,rfl,by simp[zdl]⟩
 case round=>
  obtain⟨k,hk,rfl,rfl⟩:=hrel
  by_cases hlt:k<n
  ·obtain⟨b,off,rfl,hbs,hc⟩:=h3 ae
   have hl:=HL.out
   obtain⟨x,hx⟩:∃ x,l[k]?=some x:=⟨_,List.getElem?_eq_getElem ae⟩
   have h1:=hc k ae
   rw[zjL,hx]at h1
   clear hc h3 hl
   obtain⟨a,ha⟩:∃ a,a=zdl (l.take k):=⟨_,rfl⟩
   have ha':a<72057594037927936:=by rw[ha];exact zki l k ae
   rw[←ha]
   have HA:=Lib.hid ha;clear ha
   have HX:=Lib.hid hx;clear hx
   simp only[Option.map_some,zcK]at h1
   go_wp2
   go_round
   case rel=>
    refine⟨k+1,ae,by go_num,?_⟩
    have hb:=x.toNat_lt
    rw[zjg l k x HX.out,←HA.out,show(a:Int)*256=((256*a:Nat):Int) by omega,show IntKind.u64.wrap (x.toNat:Int)=((x.toNat:Nat):Int) by rw[IntKind.wrap_u64];omega,
     bits_or_u64_nat _ _ ae ae,or_step]
   case measure=>simp[intOf]<;>omega
  ·go_wp2
   go_ret
   refine⟨?_,rfl⟩
   have:=HL.out
   rw[List.take_of_length_le ae]
   rfl
theorem zqf(k n:Nat):beB (k+1) n=UInt8.ofNat (n / 256 ^ k)::beB k n:=by
 induction k generalizing n with
 |zero=>simp[beB]
 |succ k ih=>rw[beB,ih,beB,Nat.div_div_eq_div_mul,Nat.pow_succ,Nat.mul_comm 256];rfl
def zbi(n:Nat):List UInt8:=List.replicate n 0
theorem zjh(n:Nat):bv (zbi n)=List.replicate n (zcK 0):=by simp[bv,zbi]
def zaH(l:List UInt8)(i:Nat):List UInt8:=(l.drop (64*i)).take 64
theorem zc1(l:List UInt8)(i:Nat)(h:64*i+64≤l.length):(zaH l i).length=64:=by simp[zaH];omega
def zic(l:List UInt8)(k:Nat):List UInt8:=(l.drop (128*k)).take 128
theorem zkj(l:List UInt8)(k:Nat)(h:128*k+128≤l.length):(zic l k).length=128:=by simp[zic];omega
theorem zlr(l:List UInt8)(q r:Nat)(hr:r<2):((zic l q).drop (64*r)).take 64=zaH l (2*q+r):=by
 unfold zic zaH
 rw[List.drop_take,List.take_take,List.drop_drop]
 congr 1
 ·omega
 ·congr 1;omega
theorem zd5{α:Type}(l m:List α)(h:l.length=m.length):splice l 0 m=m:=by
 simp[splice,←h]
theorem zkk:(Tryz.prog.info? 238).map (fun i=>i.zero.map (·.cells))=some (some (bv (zbi 64)).toArray):=by kernel_rfl
theorem zgF:(Tryz.prog.info? 172).map (fun i=>i.zero.map (·.cells))=some (some (bv (zbi 128)).toArray):=by kernel_rfl
theorem zoC:(Tryz.prog.info? 238).map (·.size)=some 64:=by kernel_rfl
theorem zkl:(Tryz.prog.info? 172).map (·.size)=some 128:=by kernel_rfl
theorem row48:(Tryz.prog.underlying 172).any (·.isRow)=true:=by kernel_rfl
theorem row59:(Tryz.prog.underlying 238).any (·.isRow)=true:=by kernel_rfl
theorem _root_.Coup.zaS.range{w:World}{b off n sz:Nat}{cs:List Value}(h:zaS w (some ⟨b,off,none⟩) n sz cs)(o m:Nat)(ho:o+m≤n*sz):w.rangeAt b (off+o) ((cs.drop o).take m):=by
 intro j v hv
 have hj:j<m:=by
  have:=(List.getElem?_eq_some_iff.1 hv).1
  simp at this;omega
 obtain⟨b',off',he,_,hc⟩:=h.at_ ae
 cases he
 rw[List.getElem?_take,if_pos hj,List.getElem?_drop]at hv
 rw[Nat.add_assoc,hc _ ae,hv]
theorem half32(p:Option Addr)(n c:Nat)(l:List UInt8)(i:Nat)(w:World)(h:zaS w p n 128 (bv l))(hi:i / 2<n)(hn:n≤1000000):
  Calls Tryz.prog 197 #[.slice p n c, .int .i64 i] w fun e w'=>e= .returned (.agg (bv (zaH l i)).toArray)∧Below w.heap.size w w':=by
 obtain⟨q,hq⟩:∃ q,q=i / 2:=⟨_,rfl⟩
 have hlen:l.length=n*128:=by simpa [zal]using h.len
 obtain⟨b,off,rfl,hbs,hc⟩:=h.at_ ae
 have hrg:∀ w1,Below w.heap.size w w1→w1.rangeAt b (off+q*128) (bv (zic l q)):=fun w1 hb=>by
  have:=(h.below hb (Nat.le_refl _)).range (q*128) 128 ae
  rwa [←zc7,←zdg,Nat.mul_comm q 128,show(l.drop (128*q)).take 128=zic l q from rfl,Nat.mul_comm 128 q]at this
 have hqi:(i:Int) / 2=(q:Int):=by omega
 have hqn:q<n:=by omega
 have hlq:(bv (zic l q)).length=128:=by rw[zal,zkj l q ae]
 have HQ:=Lib.hid hq
 have HC:=Lib.hid hc
 have HH:=Lib.hid h
 have HR:=Lib.hid hrg
 have HL:=Lib.hid hlen
 have HLQ:=Lib.hid hlq
 clear hq hc h hrg hlen hi hlq
 have main:∀ r:Nat,r<2→(i:Int) % 2=r→i=2*q+r→Calls Tryz.prog 197 #[.slice (some ⟨b,off,none⟩) n c, .int .i64 i] w fun e w'=>e= .returned (.agg (bv (zaH l i)).toArray)∧Below w.heap.size w w':=by
  intro r hr hri hiq
  have HI:=Lib.hid hiq
  have hrng:∀ (g2:Nat) (w3:World) (l3:List Value),Hid (l3=splice (bv (zbi 128)) 0 (bv (zic l q)))→row w3 g2 l3 172→w3.rangeAt g2 (64*r) (bv (zaH l i)):=fun g2 w3 l3 HL3 hr3=>by
   rw[HL3.out,zd5 _ _ (by rw[HLQ.out,zal,zbi];simp)]at hr3
   have:=hr3.zij (64*r) 64
   rwa [←zc7,←zdg,zlr _ _ _ hr,←hiq]at this
  have hl64:(bv (zaH l i)).length=64:=by rw[zal,zc1 l i (by have:=HL.out;omega)]
  have HR3:=Lib.hid hrng
  have H64:=Lib.hid hl64
  clear hiq hrng hl64
  have hap:=run_arrayAt (P:=Tryz.prog) 238 5 64 aa
  rcases(by omega:r=0∨r=1)with rfl|rfl
  all_goals
   go_enter Tryz.func197,Tryz.ntmps197
   go_wp2_with (first
    |(with_reducible refine zex (.alloc 238) ?_;refine zb7 rfl 238 rfl _ zkk ?_;intro g w1 hg hr1 hb1)
    |(with_reducible refine zex (.load 172 _) ?_;refine zcW rfl 172 _ rfl b (off+q*128) rfl (bv (zic l q)) (HR.out _ hb1) row48 (by rw[HLQ.out];exact zkl) ?_)
    |(with_reducible refine zex (.alloc 172) ?_;refine zb7 rfl 172 rfl _ zgF ?_;intro g2 w2 hg2 hr2 hb2)
    |(with_reducible refine zex (.store 172 _ _) ?_;refine zcn rfl 172 _ _ rfl g2 0 rfl (bv (zic l q)) rfl _ 172 hr2 (by rw[HLQ.out];exact zkl) (by rw[HLQ.out,zal,zbi];simp) (zbV _) ?_;intro l3 w3 HL3 hr3 ho3)
    |(with_reducible refine zex (.load 238 _) ?_;refine zcW rfl 238 _ rfl g2 _ rfl (bv (zaH l i)) (HR3.out g2 _ _ HL3 hr3) row59 (by rw[H64.out];exact zoC) ?_)
    |(with_reducible refine zex (.store 238 _ _) ?_;refine zcn rfl 238 _ _ rfl g 0 rfl (bv (zaH l i)) rfl _ 238 ((hr1.new hb2).only ho3 (by have:=hr1.lt;omega)) (by rw[H64.out];exact zoC) (by rw[H64.out,zal,zbi];simp) (zbV _) ?_;intro l4 w4 HL4 hr4 ho4))
   have h4:l4=bv (zaH l i):=by rw[HL4.out,zd5 _ _ (by rw[H64.out,zal,zbi];simp)]
   subst h4
   refine bodyPost_ret (zep rfl _ _ g 238 _ rfl hr4 row59 (by rw[H64.out];exact zoC)) rfl ?_
   exact⟨rfl,ho4.below (ho3.below (hb1.trans (hb2.mono hb1.size)) (Nat.le_trans hb1.size hg2)) hg⟩
 rcases Nat.mod_two_eq_zero_or_one i with e|e
 ·exact main 0 ae ae (by have:=HQ.out;omega)
 ·exact main 1 ae ae (by have:=HQ.out;omega)
def zbx(h:List UInt8):Nat:=zdl (h.take 8)
def zev(h:List UInt8):Nat:=zdl ((h.drop 8).take 4)
def zfg(h:List UInt8):Nat:=zdl ((h.drop 12).take 2)
def zc2(h:List UInt8):Nat:=zdl ((h.drop 14).take 2)
def zdC(h:List UInt8):List UInt8:=h.drop 16
def zbP(c n p m:Int)(b:List UInt8):List Value:=[.int .u64 c, .int .i64 n, .int .i64 p, .int .i64 m]++bv b
theorem ze2(c n p m:Int)(b:List UInt8):∀ v∈zbP c n p m b,v.oneCell'=true:=by
 intro v hv
 simp only[zbP,List.mem_append]at hv
 rcases hv with hv|hv
 ·simp at hv;rcases hv with rfl|rfl|rfl|rfl<;>rfl
 ·exact zbV b v hv
theorem zcy(c n p m:Int)(b:List UInt8):(zbP c n p m b).length=4+b.length:=by simp[zbP,zal];omega
theorem zkm:(Tryz.prog.info? 240).map (fun i=>i.zero.map (·.cells))=some (some (zbP 0 0 0 0 (zbi 48)).toArray):=by kernel_rfl
theorem zoD:(Tryz.prog.info? 240).map (·.size)=some 52:=by kernel_rfl
theorem size58:(Tryz.prog.info? 237).map (·.size)=some 48:=by kernel_rfl
theorem size24:(Tryz.prog.info? 212).map (·.size)=some 2:=by kernel_rfl
theorem row61:(Tryz.prog.underlying 240).any (·.isRow)=true:=by kernel_rfl
theorem row58:(Tryz.prog.underlying 237).any (·.isRow)=true:=by kernel_rfl
theorem row24:(Tryz.prog.underlying 212).any (·.isRow)=true:=by kernel_rfl
theorem zca(l:List UInt8)(k:Nat)(h:l.length≤k):zdl l<256 ^ k:=Nat.lt_of_lt_of_le (zoB l) (Nat.pow_le_pow_right ae h)
theorem zgq {fn:Func} {p q:Tmp} {ty:TypeId} (h:fn.results=#[.cell p ty, .tmp q]) {P:Program} (tmps:Array Value) (w:World) (g:Nat) (t:TypeId) (cs:List Value) (hp:tmps.getD p undef= .pointer (some ⟨g,0,none⟩))
  (hg:row w g cs t) (hu:(P.underlying ty).any (·.isRow)=true) (hi:(P.info? ty).map (·.size)=some cs.length):(results fn tmps).run P w= .ok (.tuple #[.agg cs.toArray,tmps.getD q undef]) w:=by
 cases hd:P.underlying ty with
 |none=>simp[hd]at hu
 |some d=>
  have hr:d.isRow=true:=by simpa [hd]using hu
  have hp':tmps[p]?.getD undef= .pointer (some ⟨g,0,none⟩):=by simpa using hp
  have hc:w.rangeAt g 0 cs:=hg.range 0 cs fun j v hv=>by simpa using hv
  simp[results,h,hp',asAddr,run_loadVar_mid w g 0 ty cs d hc hd hr hi]
theorem zna(c n p m x:Int)(b:List UInt8):(zbP c n p m b).set 0 (.int .u64 x)=zbP x n p m b:=rfl
theorem znb(c n p m x:Int)(b:List UInt8):(zbP c n p m b).set 1 (.int .i64 x)=zbP c x p m b:=rfl
theorem znc(c n p m x:Int)(b:List UInt8):(zbP c n p m b).set 2 (.int .i64 x)=zbP c n x m b:=rfl
theorem znd(c n p m x:Int)(b:List UInt8):(zbP c n p m b).set 3 (.int .i64 x)=zbP c n p x b:=rfl
theorem zne(c n p m:Int)(b b':List UInt8)(h:b.length=b'.length):splice (zbP c n p m b) 4 (bv b')=zbP c n p m b':=by
 have:(bv b').length=(bv b).length:=by simp[zal,h]
 simp[splice,zbP,this]
 omega
def structFields(P:Program)(t:TypeId):Array Field:=match P.underlying t with|some (.struct fs)=>fs|_=>#[]
set_option maxHeartbeats 2000000 in
set_option maxRecDepth 20000 in
theorem read31 (hb : List UInt8) (hl : hb.length = 64) (w : World) :
  Calls Tryz.prog 196 #[.agg (bv hb).toArray] w fun e w' => e = .returned (.tuple #[.agg (zbP (zbx hb) (zev hb) (zfg hb) (zc2 hb) (zdC hb)).toArray, .bool (zg0 (zbx hb) (zev hb))]) ∧ Below w.heap.size w w' := by
 obtain ⟨c, hc⟩ : ∃ c, c = zbx hb := ⟨_, rfl⟩
 obtain ⟨n, hn⟩ : ∃ n, n = zev hb := ⟨_, rfl⟩
 obtain ⟨pl, hpl⟩ : ∃ pl, pl = zfg hb := ⟨_, rfl⟩
 obtain ⟨m, hm⟩ : ∃ m, m = zc2 hb := ⟨_, rfl⟩
 have hcb : c < 18446744073709551616 := by rw [hc]; exact zca _ 8 (by simp; omega)
 have hnb : n < 4294967296 := by rw [hn]; exact zca _ 4 (by simp; omega)
 have hpb : pl < 65536 := by rw [hpl]; exact zca _ 2 (by simp; omega)
 have hmb : m < 65536 := by rw [hm]; exact zca _ 2 (by simp; omega)
 have sl : ∀ (o k : Nat), o + k ≤ 64 → k ≤ 8 → ∀ (g : Nat) (w' : World), row w' g (bv hb) 238 → zaS w' (some ⟨g, o, none⟩) k 1 (bv ((hb.drop o).take k)) := fun o k hok hk g w' hr => by
  have := hr.slAt o k 1 (by rw [zal]; omega) (by unfold maxLen; omega)
  rwa [← zc7, Nat.mul_one, ← zdg] at this
 have c1 : ∀ (g : Nat) (w' : World), row w' g (bv hb) 238 → Calls Tryz.prog 198 #[.slice (some ⟨g, 0, none⟩) 8 8] w' fun e w2 => e = .returned (.int .u64 c) ∧ w' = w2 := fun g w' hr => by
  have := zf0 (some ⟨g, 0, none⟩) 8 8 _ w' (sl 0 8 (by omega) (by omega) g w' hr) (by omega)
  rwa [hc]
 have c2 : ∀ (g : Nat) (w' : World), row w' g (bv hb) 238 → Calls Tryz.prog 198 #[.slice (some ⟨g, 8, none⟩) 4 4] w' fun e w2 => e = .returned (.int .u64 n) ∧ w' = w2 := fun g w' hr => by
  have := zf0 (some ⟨g, 8, none⟩) 4 4 _ w' (sl 8 4 (by omega) (by omega) g w' hr) (by omega)
  rwa [hn]
 have c3 : ∀ (g : Nat) (w' : World), row w' g (bv hb) 238 → Calls Tryz.prog 198 #[.slice (some ⟨g, 12, none⟩) 2 2] w' fun e w2 => e = .returned (.int .u64 pl) ∧ w' = w2 := fun g w' hr => by
  have := zf0 (some ⟨g, 12, none⟩) 2 2 _ w' (sl 12 2 (by omega) (by omega) g w' hr) (by omega)
  rwa [hpl]
 have c4 : ∀ (g : Nat) (w' : World), row w' g (bv hb) 238 → Calls Tryz.prog 198 #[.slice (some ⟨g, 14, none⟩) 2 2] w' fun e w2 => e = .returned (.int .u64 m) ∧ w' = w2 := fun g w' hr => by
  have := zf0 (some ⟨g, 14, none⟩) 2 2 _ w' (sl 14 2 (by omega) (by omega) g w' hr) (by omega)
  rwa [hm]
 rw [← hc, ← hn, ← hpl, ← hm]
 have C1 := Lib.hid c1
 have C2 := Lib.hid c2
 have C3 := Lib.hid c3
 have C4 := Lib.hid c4
 have HL := Lib.hid hl
 have wn : IntKind.i64.wrap (n : Int) = n := by rw [IntKind.wrap_i64]; omega
 have wp : IntKind.i64.wrap (pl : Int) = pl := by rw [IntKind.wrap_i64]; omega
 have wm : IntKind.i64.wrap (m : Int) = m := by rw [IntKind.wrap_i64]; omega
 have hap := run_arrayAt (P := Tryz.prog) 237 5 48 (by kernel_rfl)
 clear c1 c2 c3 c4 sl hc hn hpl hm hl
 have hz : (zbP 0 0 0 0 (zbi 48)).length = 52 := by rw [zcy]; simp [zbi]
 have HZ := Lib.hid hz
 clear hz
 go_enter Tryz.func196, Tryz.ntmps196
 go_wp2_with (first
  | (with_reducible refine zex (.box 238 _) ?_; refine zdR rfl 238 _ rfl (bv hb) rfl ?_; intro g1 w1 hg1 hr1 hb1)
  | (with_reducible refine zex (.alloc 240) ?_; refine zb7 rfl 240 rfl _ zkm ?_; intro g2 w2 hg2 hr2 hb2))
 have hne : g1 ≠ g2 := by have := hr1.lt; omega
 have hS : HS g1 (bv hb) 238 g2 52 w2 := ⟨hr1.new hb2, by have := hr2.there; rwa [HZ.out] at this⟩
 have k1 : ∀ (j : Nat), j < 52 → ∀ w', HS g1 (bv hb) 238 g2 52 w' → w'.cell? ⟨g2, j, none⟩ = some (cellOf w' ⟨g2, j, none⟩) := HS.cell
 have k2 : ∀ (j : Nat), j < 52 → ∀ w', HS g1 (bv hb) 238 g2 52 w' → w'.frozen? ⟨g2, j, none⟩ = false := HS.frozen
 go_region_held3 (HS g1 (bv hb) 238 g2 52) (first | assumption | (exact HS.drew (by assumption)) | (exact HS.setc (by assumption) hne _ _) | (exact HS.setc (HS.setc (by assumption) hne _ _) hne _ _))
  (first
   | (go_at_call_of 198 (Value.slice (some ⟨g1, 0, none⟩) 8 8); refine (C1.out _ _ (HS.out1 (by assumption))).mono ?_; rintro e w' ⟨rfl, rfl⟩)
   | (go_at_call_of 198 (Value.slice (some ⟨g1, 8, none⟩) 4 4); refine (C2.out _ _ (HS.out1 (by assumption))).mono ?_; rintro e w' ⟨rfl, rfl⟩))
 have hr3 := ((hr2.setc 0 (.int .u64 c)).setc 1 (.int .i64 n)).drew
 rw [zna, znb] at hr3
 have ho3 := ((Only.setCell w2 g2 0 (.int .u64 c)).trans (Only.setCell _ g2 1 (.int .i64 n))).drew
 obtain ⟨w3, hw3⟩ : ∃ x, x = ((w2.setCell ⟨g2, 0, none⟩ (Value.int .u64 c)).setCell ⟨g2, 1, none⟩ (.int .i64 n)).drew := ⟨_, rfl⟩
 rw [← hw3] at hr3 ho3 ⊢
 have hS3 : HS g1 (bv hb) 238 g2 52 w3 := by rw [hw3]; exact ((hS.setc hne _ _).setc hne _ _).drew
 clear hw3
 go_wp2
 go_region_held3 (HS g1 (bv hb) 238 g2 52) (first | assumption | (exact HS.drew (by assumption)) | (exact HS.setc (by assumption) hne _ _) | (exact HS.setc (HS.setc (by assumption) hne _ _) hne _ _))
  (first
   | (go_at_call_of 198 (Value.slice (some ⟨g1, 12, none⟩) 2 2); refine (C3.out _ _ (HS.out1 (by assumption))).mono ?_; rintro e w' ⟨rfl, rfl⟩)
   | (go_at_call_of 198 (Value.slice (some ⟨g1, 14, none⟩) 2 2); refine (C4.out _ _ (HS.out1 (by assumption))).mono ?_; rintro e w' ⟨rfl, rfl⟩))
 have hr4 := ((hr3.setc 2 (.int .i64 pl)).setc 3 (.int .i64 m)).drew
 rw [znc, znd] at hr4
 have ho4 := ((Only.setCell w3 g2 2 (.int .i64 pl)).trans (Only.setCell _ g2 3 (.int .i64 m))).drew
 obtain ⟨w4, hw4⟩ : ∃ x, x = ((w3.setCell ⟨g2, 2, none⟩ (Value.int .i64 pl)).setCell ⟨g2, 3, none⟩ (.int .i64 m)).drew := ⟨_, rfl⟩
 rw [← hw4] at hr4 ho4 ⊢
 have hS4 : HS g1 (bv hb) 238 g2 52 w4 := by rw [hw4]; exact ((hS3.setc hne _ _).setc hne _ _).drew
 clear hw4 hS3 hS
 have hbl : (zdC hb).length = 48 := by rw [zdC, List.length_drop, HL.out]
 have hrb : w4.rangeAt g1 16 (bv (zdC hb)) := by
  refine hS4.1.range 16 _ fun j v hv => ?_
  rw [zdC, zc7, List.getElem?_drop] at hv
  exact hv
 have HB := Lib.hid hbl
 have HRB := Lib.hid hrb
 clear hbl hrb
 go_wp2_with (first
  | (with_reducible refine zex (.load 237 _) ?_; refine zcW rfl 237 _ rfl g1 16 rfl (bv (zdC hb)) HRB.out row58 (by rw [zal, HB.out]; exact size58) ?_)
  | (with_reducible refine zex (.store 237 _ _) ?_; refine zcn rfl 237 _ _ rfl g2 4 rfl (bv (zdC hb)) rfl _ 240 hr4 (by rw [zal, HB.out]; exact size58) (by rw [zcy, zal, HB.out, zbi, List.length_replicate]; omega) (zbV _) ?_; intro l5 w5 HL5 hr5 ho5))
 have h5 : l5 = zbP c n pl m (zdC hb) := by rw [HL5.out, zne _ _ _ _ _ _ (by rw [HB.out, zbi, List.length_replicate])]
 have hp : ∀ v ∈ l5, v.oneCell' = true := by rw [h5]; exact ze2 _ _ _ _ _
 have h52 : l5.length = 52 := by rw [h5, zcy, HB.out]
 have H5 := Lib.hid h5
 have ht : ∀ w', row w' g2 l5 240 → w'.rangeAt g2 0 [.int .u64 c, .int .i64 n] := fun w' h => h.range 0 _ fun j v hv => by
  rw [h5]
  rcases j with _ | _ | j
  ·exact hv
  ·exact hv
  ·simp at hv
 refine wp_region_held_drew (S := fun w' => row w' g2 l5 240) (by kernel_rfl) (row.drew hr5) (fun hH => ?_)
 refine wpAnyH_take (i := 1) (v := .pointer (some ⟨g2, 0, none⟩)) rfl (by kernel_rfl) (by kernel_rfl) (by kernel_rfl) (fun _ _ _ h => h) (Or.inl ⟨by rfl, fun w _ => by go_simp⟩) hH (wpAnyH_take (i := 0) (v := .agg l5.toArray) rfl (by kernel_rfl) (by kernel_rfl) (by kernel_rfl) (fun _ _ _ h => h) (Or.inl ⟨by rfl, fun w h => zey _ 240 _ rfl g2 0 rfl l5 h.zjN row61 (by rw [h52]; exact zoD)⟩) hH (wpAnyH_take (i := 2) (v := .agg #[.int .u64 c, .int .i64 n]) rfl (by kernel_rfl) (by kernel_rfl) (by kernel_rfl) (fun _ _ _ h => h) (Or.inl ⟨by rfl, fun w h => zey _ 212 _ rfl g2 0 rfl [.int .u64 c, .int .i64 n] (ht w h) row24 size24⟩) hH (wpAnyH_ready (rs := [3]) (by kernel_rfl) (by simp) ?_)))
 have call10 : ∀ w', (callFunc 182 (#[] ++ #[Value.agg #[.int .u64 c, .int .i64 n]] ++ #[])).run Tryz.prog w' = .ok (.enter 182 #[.agg #[.int .u64 c, .int .i64 n]]) w' := fun w' => by go_simp
 refine AllReadyH.cons rfl (fun K hK => ?_) AllReadyH.nil
 refine zjO rfl 182 _ _ rfl [.agg #[.int .u64 c, .int .i64 n]] rfl (call10 _) ((may10 c n _).mono ?_)
 rintro e w6 ⟨rfl, hb6⟩
 refine ⟨_, rfl, hK.out _ _ (row.new hH hb6) (fun hH6 => ?_)⟩
 refine wpAnyH_ready (rs := [4]) (by kernel_rfl) (by simp) (AllReadyH.cons rfl (fun K hK => ?_) AllReadyH.nil)
 refine ziU rfl 240 _ _ rfl g2 0 rfl l5 rfl l5 240 hH6 (by rw [h52]; exact zoD) (by omega) hp ?_
 intro l7 w7 HL7 hr7 ho7
 rw [show l7 = l5 by rw [HL7.out, zd5 _ _ rfl]] at hr7
 refine hK.out _ _ hr7 (fun hH7 => ?_)
 refine wpAnyH_take (i := 5) (v := .bool (zg0 c n)) rfl (by kernel_rfl) (by kernel_rfl) (by kernel_rfl) (fun _ _ _ h => h) (Or.inl ⟨by rfl, fun w _ => by rfl⟩) hH7 (wpAnyH_done (by kernel_rfl) ?_ _)
 go_wp2
 refine bodyPost_ret (zgq rfl _ _ g2 240 _ rfl hr7 row61 (by rw [h52]; exact zoD)) rfl ?_
 rw [H5.out]
 refine ⟨rfl, ?_⟩
 have e1 := hb1.trans (hb2.mono hb1.size)
 have hg : w.heap.size ≤ g2 := Nat.le_trans hb1.size hg2
 have e2 := ho5.below (ho4.below (ho3.below e1 hg) hg) hg
 exact ho7.below (e2.drew.trans (hb6.mono e2.size)) hg
theorem beB_get(m x i:Nat)(h:i<m):(beB m x)[i]?=some (UInt8.ofNat (x / 256 ^ (m - 1 - i))):=by
 induction m generalizing i with
 |zero=>omega
 |succ m ih=>
  rw[zqf]
  rcases i with _|i
  ·simp
  ·rw[List.getElem?_cons_succ,ih i ae,show m - 1 - i=m+1 - 1 - (i+1) by omega]
theorem zqg(x k:Nat):Value.int .u8 ((x:Int) / 2 ^ (8*k) % 256)=zcK (UInt8.ofNat (x / 256 ^ k)):=by
 have h:(256:Nat) ^ k=2 ^ (8*k):=by rw[show 256=2 ^ 8 by rfl,←Nat.pow_mul]
 rw[zcK,h]
 congr 1
def halfB(c n p m:Nat)(b:List UInt8):List UInt8:=beB 8 c++(beB 4 n++(beB 2 p++(beB 2 m++b)))
structure BI(B g1 g2 ga:Nat)(L l:List Value)(x:Int)(w0 w:World):Prop where
 p:row w g1 L 240
 h:row w g2 l 238
 a:row w ga [.int .i64 x] 3
 b:Below B w0 w
 o1:g1<g2
 o2:g2<ga
 o3:B≤g1
 len:l.length=64
theorem BI.c0{B g1 g2 ga:Nat}{c n p m:Int}{b:List UInt8}{l:List Value}{x:Int}{w0 w:World}(h:BI B g1 g2 ga (zbP c n p m b) l x w0 w):w.cell? ⟨g1,0,none⟩=some (.int .u64 c):=h.p.cell 0 rfl
theorem BI.c1{B g1 g2 ga:Nat}{c n p m:Int}{b:List UInt8}{l:List Value}{x:Int}{w0 w:World}(h:BI B g1 g2 ga (zbP c n p m b) l x w0 w):w.cell? ⟨g1,1,none⟩=some (.int .i64 n):=h.p.cell 1 rfl
theorem BI.c2{B g1 g2 ga:Nat}{c n p m:Int}{b:List UInt8}{l:List Value}{x:Int}{w0 w:World}(h:BI B g1 g2 ga (zbP c n p m b) l x w0 w):w.cell? ⟨g1,2,none⟩=some (.int .i64 p):=h.p.cell 2 rfl
theorem BI.c3{B g1 g2 ga:Nat}{c n p m:Int}{b:List UInt8}{l:List Value}{x:Int}{w0 w:World}(h:BI B g1 g2 ga (zbP c n p m b) l x w0 w):w.cell? ⟨g1,3,none⟩=some (.int .i64 m):=h.p.cell 3 rfl
def zf1(a b:List UInt8):List UInt8:=a.take 64++b.drop 64
theorem zgG(a b:List UInt8)(ha:a.length=128)(hb:b.length=128):(zf1 a b).length=128:=by simp[zf1];omega
theorem torn23 (a b : List UInt8) (ha : a.length = 128) (hb : b.length = 128) (w : World) : Calls Tryz.prog 173 #[.agg (bv a).toArray, .agg (bv b).toArray] w fun e w' => e = .returned (.agg (bv (zf1 a b)).toArray) ∧ Below w.heap.size w w' := by
 have HA := Lib.hid ha
 have HB := Lib.hid hb
 clear ha hb
 go_enter Tryz.func173, Tryz.ntmps173
 go_wp2_with (first
  | (with_reducible refine zex (.box 172 (.tmp 0)) ?_; refine zdR rfl 172 _ rfl (bv a) rfl ?_; intro g1 w1 hg1 hr1 hb1)
  | (with_reducible refine zex (.box 172 (.tmp 1)) ?_; refine zdR rfl 172 _ rfl (bv b) rfl ?_; intro g2 w2 hg2 hr2 hb2)
  | (with_reducible refine zex (.alloc 172) ?_; refine zb7 rfl 172 rfl _ zgF ?_; intro g3 w3 hg3 hr3 hb3))
 have h1 := (hr1.new hb2).new hb3
 have h2 := hr2.new hb3
 have o12 : g1 < g2 := by have := hr1.lt; omega
 have o23 : g2 < g3 := by have := hr2.lt; omega
 have hbb := (hb1.trans (hb2.mono hb1.size)).trans (hb3.mono (Nat.le_trans hb1.size hb2.size))
 have hsrc : ∀ j v, (bv (a.take 64))[j]? = some v → w3.drew.cell? ((⟨g1, 0, none⟩ : Addr).add j) = some v := fun j v hv => by
  rw [Addr.add_lit]
  rw [zdg, List.getElem?_take] at hv
  split at hv
  ·exact h1.drew.cell (0 + j) (by rwa [Nat.zero_add])
  ·cases hv
 have HS := Lib.hid hsrc
 have hl64 : (bv (a.take 64)).length = 64 := by rw [zal, List.length_take, HA.out]; rfl
 have H64 := Lib.hid hl64
 clear hsrc hl64
 go_region_held3 (fun _ => True) (exact trivial)
  (first
   | (refine zjP rfl _ _ _ _ rfl 5 (by kernel_rfl) (by kernel_rfl) _ _ _ _ _ _ rfl rfl g2 0 (bv b) 172 h2.drew (bv (a.take 64)) (by rw [H64.out]; rfl) (fun _ => ⟨rfl, _, rfl, HS.out⟩) (by rw [H64.out, zal, HB.out]; omega) (zbV _) ?_; intro l9 w9 HL9 hr9 ho9))
 have h9 : l9 = bv (zf1 a b) := by
  rw [HL9.out, splice, H64.out, zf1, zcG, zc7]
  simp
 rw [h9] at hr9
 have h128 : (bv (zf1 a b)).length = 128 := by rw [zal, zgG _ _ HA.out HB.out]
 have hr39 := hr3.drew.only ho9 (by omega)
 have hb9 := ho9.below hbb.drew (by omega)
 have HR := Lib.hid hr9
 have H128 := Lib.hid h128
 clear h9 HL9 hr9 h128 HS
 go_wp2_with (first
  | (with_reducible refine zex (.load 172 _) ?_; refine zcW rfl 172 _ rfl g2 0 rfl (bv (zf1 a b)) HR.out.zjN row48 (by rw [H128.out]; exact zkl) ?_)
  | (with_reducible refine zex (.store 172 _ _) ?_; refine zcn rfl 172 _ _ rfl g3 0 rfl (bv (zf1 a b)) rfl _ 172 hr39 (by rw [H128.out]; exact zkl) (by rw [H128.out, zal, zbi, List.length_replicate]; omega) (zbV _) ?_; intro l10 w10 HL10 hr10 ho10))
 rw [show l10 = bv (zf1 a b) by rw [HL10.out, zd5 _ _ (by rw [H128.out, zal, zbi, List.length_replicate])]] at hr10
 refine bodyPost_ret (zep rfl _ _ g3 172 _ rfl hr10 row48 (by rw [H128.out]; exact zkl)) rfl ?_
 exact ⟨rfl, ho10.below hb9 (by have := hb1.size; have := hb2.size; omega)⟩
def tagC(h:List UInt8):Nat:=bif zg0 (zbx h) (zev h)then zbx h else 0
def tagN(h:List UInt8):Nat:=bif zg0 (zbx h) (zev h)then zev h else 0
theorem zkn:(Tryz.prog.info? 212).map (fun i=>i.zero.map (·.cells))=some (some [Value.int .u64 0, .int .i64 0].toArray):=by kernel_rfl
theorem zhA{l:List Value}{a b:Value}(h0:l[0]?=some a)(h1:l[1]?=some b):∀ j v,[a,b][j]?=some v→l[0+j]?=some v:=by
 intro j v hv
 rcases j with _|_|j
 ·rw[h0];simpa using hv
 ·rw[Nat.zero_add,h1];simpa using hv
 ·simp at hv
def zqh:Value:=.tuple #[.agg #[.int .u64 0, .int .i64 0], .slice none 0 0, .int .i64 0, .int .i64 4]
theorem zji {fn:Func} {p q r s:Tmp} {ty:TypeId} (h:fn.results=#[.cell p ty, .tmp q, .tmp r, .tmp s]) {P:Program} (tmps:Array Value) (w:World) (g:Nat) (t:TypeId) (cs:List Value) (hp:tmps.getD p undef= .pointer (some ⟨g,0,none⟩))
  (hg:row w g cs t) (hu:(P.underlying ty).any (·.isRow)=true) (hi:(P.info? ty).map (·.size)=some cs.length):(results fn tmps).run P w= .ok (.tuple #[.agg cs.toArray,tmps.getD q undef,tmps.getD r undef,tmps.getD s undef]) w:=by
 cases hd:P.underlying ty with
 |none=>simp[hd]at hu
 |some d=>
  have hr:d.isRow=true:=by simpa [hd]using hu
  have hp':tmps[p]?.getD undef= .pointer (some ⟨g,0,none⟩):=by simpa using hp
  have hc:w.rangeAt g 0 cs:=hg.range 0 cs fun j v hv=>by simpa using hv
  simp[results,h,hp',asAddr,run_loadVar_mid w g 0 ty cs d hc hd hr hi]
theorem none30(w:World):Calls Tryz.prog 195 #[] w fun e w'=>e= .returned (.tuple #[.agg #[.int .u64 0, .int .i64 0], .slice none 0 0, .int .i64 0, .int .i64 4])∧Below w.heap.size w w':=by
 go_enter Tryz.func195,Tryz.ntmps195
 go_wp2_with (first
  |(with_reducible refine zex (.alloc 212) ?_;refine zb7 rfl 212 rfl _ zkn ?_;intro g2 w2 hg2 hr2 hb2)
  |(with_reducible refine zex (.store 212 _ _) ?_;refine zcn rfl 212 _ _ rfl g2 0 rfl [.int .u64 0, .int .i64 0] rfl _ 212 hr2 aa ay aL ?_;intro l8 w8 HL8 hr8 ho8))
 rw[show l8=_ from HL8.out.trans (zd5 _ _ rfl)]at hr8
 refine bodyPost_ret (zji rfl _ _ g2 212 _ rfl hr8 row24 aa) rfl ?_
 exact⟨rfl,ho8.below hb2 hg2⟩
def allB(b:List UInt8):List UInt8:=beB 4 b.length++b++zbi (48*zc4 b.length - (4+b.length))
def pieceB(b:List UInt8)(i:Nat):List UInt8:=((allB b).drop (48*i)).take 48
def zls(c n:Nat)(b:List UInt8):List (List UInt8):=(List.range (zc4 b.length)).map fun i=>halfB c n i (zc4 b.length) (pieceB b i)
theorem zqi(n:Nat):4+n≤48*zc4 n:=by unfold zc4;omega
theorem zoE(n:Nat)(hn:n≤1000000)(w:World):Calls Tryz.prog 180 [.int .i64 n].toArray w (Ret fun v w'=>v= .int .i64 (zc4 n)∧w=w'):=zdw (zmi n hn w)
def pieceV(b:List UInt8)(i:Nat):List Value:=[.int .i64 i, .agg (bv (pieceB b i)).toArray]
def piecesV(b:List UInt8):List (List Value):=(List.range (zc4 b.length)).map (pieceV b)
theorem bytes4(n:Nat):[Value.int .u8 (IntKind.u8.wrap ((n:Int).fdiv (2 ^ 24))), .int .u8 (IntKind.u8.wrap ((n:Int).fdiv (2 ^ 16))), .int .u8 (IntKind.u8.wrap ((n:Int).fdiv (2 ^ 8))), .int .u8 (IntKind.u8.wrap (n:Int))]=bv (beB 4 n):=by
 simp only[beB,bv,List.map_append,List.map_cons,List.map_nil,List.nil_append,List.cons_append,zcK,Int.fdiv_eq_ediv_of_nonneg _ (by omega:(0:Int)≤2 ^ 24),Int.fdiv_eq_ediv_of_nonneg _ (by omega:(0:Int)≤2 ^ 16),Int.fdiv_eq_ediv_of_nonneg _ (by omega:(0:Int)≤2 ^ 8),IntKind.wrap_u8]
 simp
 omega
theorem need12r(n:Int)(w:World):Calls Tryz.prog 152 [.int .i64 n].toArray w (Ret fun v w'=>v= .int .i64 (zm9 n)∧w=w'):=zdw (need12 n w)
def zci(n:Nat):Nat:=(zc4 n+1) / 2
def rowB(c n:Nat)(b:List UInt8):List UInt8:=(zls c n b).flatten++zbi (128*zci b.length - 64*zc4 b.length)
def rowTo(c n:Nat)(b:List UInt8)(k:Nat):List UInt8:=((zls c n b).take k).flatten++zbi (128*zci b.length - 64*k)
theorem znf{c nn:Int}(h:zg0 c nn=true):1≤c∧c≤4611686018427387904∧0≤nn∧nn<2147483648:=by
 rcases zkh c nn with⟨HM,_⟩|⟨HM,_⟩|⟨HM,_⟩|⟨HM,_⟩|⟨_,h1⟩
 ·rw[HM.out]at h;cases h
 ·rw[HM.out]at h;cases h
 ·rw[HM.out]at h;cases h
 ·rw[HM.out]at h;cases h
 ·exact h1
def secs:List (List UInt8)→List UInt8
 |[]=>[]
 |[a]=>a++zbi 64
 |a::b::r=>(a++b)++secs r
theorem _root_.Coup.zdZ.get{w:World}{lo:Nat}{o:Option Nat}{vs:List Value}{L:List (List UInt8)}(h:zdZ w lo o vs L)(i:Nat){l:List UInt8}(hl:L[i]?=some l):∃ b off c,vs[i]?=some (.slice (some ⟨b,off,none⟩) l.length c)∧zaS w (some ⟨b,off,none⟩) l.length 1 (bv l)∧b<w.heap.size∧l.length≤c:=by
 obtain⟨b,off,c,h1,h2,h3,_,h5,_⟩:=h.at_ i l hl
 exact⟨b,off,c,h1,h2,h3,h5⟩
def partsL(l:List UInt8)(m:Nat):List (List UInt8):=(List.range m).map (zaH l)
end Go.Proofs.YtdbogkndglbffaaGreat
