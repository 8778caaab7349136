import Derived.Test.YtdbogkndglbffaaGreatM0
import Derived.Test.YtdbogkndglbffaaGreatM8
namespace Go.Proofs.YtdbogkndglbffaaGreat
open Go Go.RowKit Coup
def zgN(N:Nat)(H:HS)(v:Int):Nat:=((List.range N).filter fun n=>decide (zeu H n=v)).length
theorem zpI{N:Nat}{H:HS}{v:Int}{l:List Nat}(hn:l.Nodup)(h:∀ n,n∈l↔n<N∧zeu H n=v):zgN N H v=l.length:=by
 refine((List.perm_ext_iff_of_nodup ((List.nodup_range).filter _) hn).2 fun n=>?_).length_eq
 rw[List.mem_filter,List.mem_range,h,decide_eq_true_eq]
theorem zgC{α β:Type}{f:α→List β}:∀ {l:List α},l.Nodup→(∀ x∈l,(f x).Nodup)→(∀ x∈l,∀ y∈l,∀ b,b∈f x→b∈f y→x=y)→(l.flatMap f).Nodup
 |[],_,_,_=>List.nodup_nil
 |x::l,hn,h1,h2=>by
  have hn2:=List.nodup_cons.1 hn
  rw[List.flatMap_cons]
  refine List.nodup_append.2 ⟨h1 x ay,zgC hn2.2 (fun y hy=>h1 y (by simp[hy])) (fun a ha b hb=>h2 a (by simp[ha]) b aH),fun a ha b hb e=>?_⟩
  subst e
  obtain⟨y,hy,hay⟩:=List.mem_flatMap.1 hb
  have:=h2 x ay y (by simp[hy]) a ha hay
  subst this
  exact hn2.1 hy
theorem zjF{H:HS}{n:Nat}{v:Int}(hv:v≠0)(hv4:v≠4):zeu H n=v↔n≠0∧n<H.F.fresh∧((H.S n).kind:Int)=v:=by
 unfold zeu
 split
 ·rename_i h;exact⟨fun e=>absurd e.symm hv4,fun e=>absurd h e.1⟩
 ·rename_i h
  split
  ·rename_i h2;exact⟨fun e=>⟨h,h2,e⟩,fun e=>e.2.2⟩
  ·rename_i h2;exact⟨fun e=>absurd e.symm hv,fun e=>absurd e.2.1 h2⟩
namespace HM
variable {N:Nat}{H:HS}{fl rl:List Nat}{R:Nat→Nat→Prop}{P:Nat→Nat→List Nat}{B:Nat→Nat→List UInt8}{A:List (Nat × Nat)}{Gv:List Nat}
theorem mine(h:HM N H fl rl R P B A Gv):zgN N H 3=Gv.length:=zpI h.gn fun n=>by
 have hfN:=h.hi.ok.fN
 rw[zjF aD aD,h.g3]
 constructor
 ·intro hk
  have:=h.gf n ((h.g3 n).2 hk)
  exact⟨ae,ae,this.2,ae⟩
 ·intro hk;omega
theorem rnil(h:HM N H fl rl R P B A Gv){n:Nat}(hn:n∈rl):∃ s,R n s:=by
 obtain⟨h1,h2⟩:=h.full n hn
 have hma:=h.hi.rk.at_ n hn
 have hlast:=(h.hi.ok.gd n hma.1 hma.2.1).last
 rcases List.eq_nil_or_concat (H.S n).slots with e|⟨T,t,e⟩
 ·exact absurd e h1
 ·rw[List.concat_eq_append]at e
  rw[e]at hlast
  cases t with
  |none=>exact absurd ay hlast
  |some c=>exact⟨T.length,h2 T.length c (by rw[e];simp)⟩
theorem free(h:HM N H fl rl R P B A Gv):zgN N H 0=zhW N H:=by
 have hfN:=h.hi.ok.fN
 have hf1:=h.hi.ok.f1
 rw[zpI (l:=List.range' H.F.fresh (N - H.F.fresh)++fl)]
 ·rw[List.length_append,List.length_range',h.hi.ok.fm];rfl
 ·refine List.nodup_append.2 ⟨List.nodup_range',h.hi.ok.nd,fun a ha b hb e=>?_⟩
  have h1:=(h.hi.ok.fk b hb).2.1
  have h2:=List.mem_range'_1.1 ha
  omega
 ·intro n
  rw[List.mem_append,List.mem_range'_1]
  unfold zeu
  constructor
  ·rintro(hn|hn)
   ·exact⟨ae,by rw[if_neg ae,if_neg ae]⟩
   ·have:=h.hi.ok.fk n hn
    exact⟨ae,by rw[if_neg ae,if_pos this.2.1,this.2.2];rfl⟩
  ·rintro⟨hn,e⟩
   split at e
   ·cases e
   ·split at e
    ·rename_i h0 hf
     exact .inr (h.hi.c0 n ae hf ae)
    ·exact .inl ae
theorem parts(h:HM N H fl rl R P B A Gv):zgN N H 2=(A.map fun x=>(P x.1 x.2).length).sum:=by
 have hfN:=h.hi.ok.fN
 have hR:∀ x∈A,R x.1 x.2:=fun x hx=>(h.ra x.1 x.2).2 hx
 rw[zpI (l:=A.flatMap fun x=>P x.1 x.2),List.length_flatMap]
 ·exact zgC h.nd (fun x hx=>(h.hi.pat (hR x hx)).1) fun x hx y hy b hb hb2=>by
   have:=h.hi.ap x.1 x.2 y.1 y.2 b (hR x hx) (hR y hy) hb hb2
   exact Prod.ext this.1 this.2
 ·intro n
  rw[zjF aD aD,List.mem_flatMap]
  constructor
  ·rintro⟨x,hx,hn⟩
   have:=(h.hi.pat (hR x hx)).2 n hn
   omega
  ·rintro⟨hn,h0,hf,hk⟩
   rcases h.hi.c2 n ae hf ae with h4|⟨m,s,h4,h5⟩
   ·cases h4
   ·exact⟨(m,s),(h.ra m s).1 h4,h5⟩
theorem plen(h:HM N H fl rl R P B A Gv){m s:Nat}(hr:R m s):(P m s).length=zeO ((B m s).length:Int):=by
 obtain⟨_,c,_,hc⟩:=h.hi.cell m s hr
 unfold zeO
 rcases hc with⟨h1,_,h2⟩|⟨x,_,_,h2⟩
 ·rw[h2,if_pos ae];rfl
 ·have:=h2.b1;have:=h2.b2
  rw[if_neg ae,h2.nl];rfl
theorem partsN(h:HM N H fl rl R P B A Gv):zgN N H 2=((A.map fun x=>B x.1 x.2).map fun b=>zeO (b.length:Int)).sum:=by
 rw[h.parts,List.map_map]
 have e:A.map (fun x=>(P x.1 x.2).length)=A.map ((fun b:List UInt8=>zeO (b.length:Int)) ∘ fun x=>B x.1 x.2):=List.map_congr_left fun x hx=>by
  simp only[Function.comp]
  exact h.plen (m:=x.1) (s:=x.2) ((h.ra x.1 x.2).2 hx)
 rw[e]
theorem zlT{c:List UInt8}{i:Nat}:∀ {S:List (Option (List UInt8))} {j:Nat},(i,c)∈pres j S→j≤i
 |none::S,j,h=>Nat.le_trans (Nat.le_succ j) (zlT (S:=S) h)
 |some c'::S,j,h=>by
  rcases List.mem_cons.1 h with e|h
  ·cases e;exact Nat.le_refl _
  ·exact Nat.le_trans (Nat.le_succ j) (zlT (S:=S) h)
theorem zgD:∀ (S:List (Option (List UInt8))) (j:Nat),((pres j S).map fun x=>x.1).Nodup
 |[],_=>List.nodup_nil
 |none::S,j=>zgD S (j+1)
 |some c::S,j=>by
  show(j::(pres (j+1) S).map fun x=>x.1).Nodup
  refine List.nodup_cons.2 ⟨fun h=>?_,zgD S (j+1)⟩
  obtain⟨x,hx,e⟩:=List.mem_map.1 h
  have:=zlT (i:=x.1) (c:=x.2) hx
  omega
theorem many(h:HM N H fl rl R P B A Gv):znG H rl=A.length:=by
 have e:znG H rl=(rl.flatMap fun m=>(pres 0 (H.S m).slots).map fun x=>(m,x.1)).length:=by
  rw[List.length_flatMap];unfold znG
  exact congrArg List.sum (List.map_congr_left fun m _=>by rw[List.length_map])
 rw[e]
 refine((List.perm_ext_iff_of_nodup (zgC h.hi.rk.nd (fun m hm=>?_) fun m hm m' hm' b hb hb'=>?_) h.nd).2 fun x=>?_).length_eq
 ·have h1:=zgD (H.S m).slots 0
  have h2:(pres 0 (H.S m).slots).map (fun x=>(m,x.1))=((pres 0 (H.S m).slots).map fun x=>x.1).map fun i=>(m,i):=by rw[List.map_map];rfl
  rw[h2]
  exact List.Pairwise.map _ (fun a b hab e=>hab (Prod.mk.inj e).2) h1
 ·obtain⟨x,_,rfl⟩:=List.mem_map.1 hb
  obtain⟨y,_,e⟩:=List.mem_map.1 hb'
  exact((Prod.mk.inj e).1).symm
 ·rw[List.mem_flatMap]
  constructor
  ·rintro⟨m,hm,hx⟩
   obtain⟨y,hy,rfl⟩:=List.mem_map.1 hx
   obtain⟨k,hk⟩:=List.mem_iff_getElem?.1 hy
   exact(h.ra m y.1).1 ((h.full m hm).2 y.1 y.2 (zg7 (S:=(H.S m).slots) hk fun z=>by rw[Nat.zero_add]))
  ·intro hx
   obtain⟨hm,c,hc,_⟩:=h.hi.cell x.1 x.2 ((h.ra x.1 x.2).2 hx)
   exact⟨x.1,hm,List.mem_map.2 ⟨(x.2,c),zpC hc (Nat.zero_le _) (fun z=>by rw[Nat.zero_add]),rfl⟩⟩
theorem empty(h:HM N H fl rl R P B [] []):zhW N H=N - 1:=by
 have hf1:=h.hi.ok.f1
 have hfN:=h.hi.ok.fN
 have hl:fl.length=H.F.fresh - 1:=by
  have hp:=((List.perm_ext_iff_of_nodup (List.nodup_range' (s:=1) (n:=H.F.fresh - 1)) h.hi.ok.nd).2 fun n=>?_).length_eq
  ·rw[List.length_range']at hp;omega
  ·rw[List.mem_range'_1]
   constructor
   ·rintro⟨h1,h2⟩
    have hk:=h.k3 n
    have n3:(H.S n).kind≠3:=fun e=>by have:=(h.g3 n).2 e;cases this
    have n1:(H.S n).kind≠1:=fun e=>by
     obtain⟨s,hs⟩:=h.rnil (h.hi.c1 n h1 ae e)
     have:=(h.ra n s).1 hs;cases this
    have n2:(H.S n).kind≠2:=fun e=>by
     rcases h.hi.c2 n h1 ae e with h4|⟨m,s,h4,_⟩
     ·cases h4
     ·have:=(h.ra m s).1 h4;cases this
    exact h.hi.c0 n h1 ae ae
   ·intro hn
    have:=h.hi.ok.fk n hn
    omega
 have:=h.hi.ok.fm
 unfold zhW
 omega
theorem begin_{N:Nat}(h:1≤N):HM N H0 [] [] (fun _ _=>False) (fun _ _=>[]) (fun _ _=>[]) [] []:=
 ⟨H0_in h,zlS,(fun m s=>⟨fun h=>h.elim,fun h=>(by cases h)⟩),List.nodup_nil,List.nodup_nil,(fun n=>⟨fun h=>(by cases h),fun h=>absurd h (by show¬(0:Nat)=3;decide)⟩),(fun n h=>by cases h),(fun n=>Nat.zero_le _)⟩
end HM
def plv(A:List (Nat × Nat)):List Value:=A.flatMap fun x=>[.int .i64 (x.1:Int), .int .i64 (x.2:Int)]
theorem zlU(A:List (Nat × Nat)):(plv A).length=A.length*2:=by
 unfold plv
 induction A with
 |nil=>rfl
 |cons x A ih=>rw[List.flatMap_cons,List.length_append,ih,List.length_cons,List.length_cons,List.length_cons,List.length_nil];omega
theorem plv_at:∀ {A:List (Nat × Nat)} {i:Nat} {x:Nat × Nat},A[i]?=some x→((plv A).drop (i*2)).take 2=[.int .i64 (x.1:Int), .int .i64 (x.2:Int)]
 |y::A,0,x,h=>by cases h;rfl
 |y::A,i+1,x,h=>by
  rw[show(i+1)*2=i*2+2 by omega]
  exact plv_at (A:=A) (i:=i) h
theorem ldPl{w:World}{g o n i m s:Nat}{A:List (Nat × Nat)}(h:zaS w (some ⟨g,o,none⟩) n 2 (plv A))(hx:A[i]?=some (m,s)):Ld Tryz.prog w 38 ⟨g,o+i*2,none⟩ (.agg #[.int .i64 (m:Int), .int .i64 (s:Int)]):=by
 have hld:=Ld.slN (P:=Tryz.prog) (t:=38) (j:=i*2) (k:=2) h aa aa (by rw[zlU];have:=(List.getElem?_eq_some_iff.1 hx).1;omega)
 rw[plv_at hx]at hld
 exact hld
structure zgT(w:World)(bl:List Nat)(vs:List Value)(D:List (List UInt8)):Prop where
 len:vs.length=D.length
 at_:∀ (i:Nat) b,D[i]?=some b→∃ p c,vs[i]?=some (.slice p b.length c)∧zaS w p b.length 1 (bv b)∧(∀ g o,p=some ⟨g,o,none⟩→g∈bl)∧b.length≤c∧b.length≤21000
namespace zgT
variable {w w':World}{bl bl':List Nat}{vs:List Value}{D:List (List UInt8)}
theorem nil(w:World)(bl:List Nat):zgT w bl [] []:=⟨rfl,fun i b h=>by cases h⟩
theorem kpd{M:List Nat}(h:zgT w bl vs D)(k:Kp M w w')(hM:∀ b∈bl,b∉M):zgT w' bl vs D:=⟨h.len,fun i b hi=>by
 obtain⟨p,c,h1,h2,h3,h4⟩:=h.at_ i b hi
 exact⟨p,c,h1,h2.kpd k fun g o e=>hM g (h3 g o e),h3,h4⟩⟩
theorem mono(h:zgT w bl vs D)(hb:∀ b∈bl,b∈bl'):zgT w bl' vs D:=⟨h.len,fun i b hi=>by
 obtain⟨p,c,h1,h2,h3,h4⟩:=h.at_ i b hi
 exact⟨p,c,h1,h2,fun g o e=>hb g (h3 g o e),h4⟩⟩
end zgT
theorem zh0(H:HS)(v:Int)(i:Nat):zgN (i+1) H v=zgN i H v+if zeu H i=v then 1 else 0:=by
 unfold zgN
 rw[List.range_succ,List.filter_append,List.length_append]
 congr 1
 by_cases h:zeu H i=v<;>simp[h]
theorem zeQ(H:HS)(v:Int)(i:Nat):zgN i H v≤i:=by
 unfold zgN
 exact Nat.le_trans (List.length_filter_le _ _) ay
def zjK(D:List (List UInt8)):Nat:=(D.map fun b=>zeO (b.length:Int)).sum
theorem zpJ{D:List (List UInt8)}{i:Nat}{b:List UInt8}(h:D[i]?=some b):zjK (D.take (i+1))=zjK (D.take i)+zeO (b.length:Int):=by
 unfold zjK
 rw[List.take_add_one,h]
 simp
theorem zqY(n:Int):zeO n≤50:=by
 unfold zeO
 split<;>omega
theorem zlV:∀ (D:List (List UInt8)),zjK D≤50*D.length
 |[]=>Nat.le_refl _
 |b::D=>by
  have h1:=zqY (b.length:Int)
  have h2:=zlV D
  have h3:zjK (b::D)=zeO (b.length:Int)+zjK D:=by unfold zjK;rw[List.map_cons,List.sum_cons]
  rw[h3,List.length_cons]
  omega
section
variable {Y:World→List Nat→Prop}[hYT:Thing Y]{q N lo:Nat}{L:List Nat}{V:Nat→Pg}{k:Nat}{H:HS}{fl rl:List Nat}{R:Nat→Nat→Prop}{P:Nat→Nat→List Nat}{B:Nat→Nat→List UInt8}{A:List (Nat × Nat)}{Gv:List Nat}{w:World}
set_option maxRecDepth 20000 in
set_option maxHeartbeats 2000000 in
theorem apart15 (hb:Nat) (h:Two (GZ q N (pgH H) V k) Y lo L w) (hM:HM N H fl rl R P B A Gv) (hr:row w hb [.pointer (some ⟨q,0,none⟩)] 50) (hbL:hb∈L)
   {pa ph pg:Option Addr} {ca ch cg:Nat} {vs:List Value} {bl:List Nat} (hA:zaS w pa A.length 2 (plv A)) (hpa:∀ g o,pa=some ⟨g,o,none⟩→g∈L) (hD:zaS w ph A.length 1 vs) (hph:∀ g o,ph=some ⟨g,o,none⟩→g∈L)
   (hbs:zgT w bl vs (HM.dat A B)) (hbl:∀ b∈bl,b∈L) (hG:zaS w pg Gv.length 1 (nv Gv)) (hpg:∀ g o,pg=some ⟨g,o,none⟩→g∈L) (hA5:A.length≤1000) (hN:N≤2048):
   Calls Tryz.prog 15 [.pointer (some ⟨hb,0,none⟩), .slice pa A.length ca, .slice ph A.length ch, .slice pg Gv.length cg].toArray w (Ret fun v w'=>v= .bool true∧Two (GZ q N (pgH H) V k) Y lo L w'∧LoL lo L w w'):=by
 have hl0:=LoL.refl lo L w
 have hlt:=h.lt
 have hloW:=h.lo
 have hN1:=hM.hi.ok.f1
 have hfN:=hM.hi.ok.fN
 have hAt:∀ W,LoL lo L w W→zaS W pa A.length 2 (plv A):=fun W hl=>hA.kpd hl.kp fun g o e=>zam (.inr (hpa g o e))
 have hDt:∀ W,LoL lo L w W→zaS W ph A.length 1 vs:=fun W hl=>hD.kpd hl.kp fun g o e=>zam (.inr (hph g o e))
 have hGt:∀ W,LoL lo L w W→zaS W pg Gv.length 1 (nv Gv):=fun W hl=>hG.kpd hl.kp fun g o e=>zam (.inr (hpg g o e))
 have hBt:∀ W,LoL lo L w W→zgT W bl vs (HM.dat A B):=fun W hl=>hbs.kpd hl.kp fun b hb=>zam (.inr (hbl b hb))
 have hrt:∀ W,LoL lo L w W→row W hb [.pointer (some ⟨q,0,none⟩)] 50:=fun W hl=>hr.kl hl (.inr hbL)
 have hus:=fun W (hT:Two (GZ q N (pgH H) V k) Y lo L W) (hl:LoL lo L w W)=>usesM hb hT hM.hi hM.full (fun n _ _=>hM.k3 n) (hrt W hl) (.inr hbL)
 have hDl:(HM.dat A B).length=A.length:=by simp[HM.dat]
 obtain⟨D,hDe⟩:∃ D,HM.dat A B=D:=⟨_,rfl⟩
 have hpn:=hM.partsN
 rw[show(A.map fun x=>B x.1 x.2)=D from hDe]at hpn
 replace hpn:zgN N H 2=zjK D:=hpn
 have hfr:=hM.free
 have hmi:=hM.mine
 have hmn:=hM.many
 have hmax:=hA.max
 have hml:maxLen=9223372036854775807:=by decide
 have hgN:Gv.length≤N:=by rw[←hmi];exact zeQ H 3 N
 have hu0:zeu H 0=4:=if_pos rfl
 obtain⟨Uf,hUf⟩:∃ Uf,uL N (zeu H)=Uf:=⟨_,rfl⟩
 have hUl:Uf.length=N:=by rw[←hUf,ziQ]
 have hUa:∀ i,i<N→Uf[i]?=some (zeu H i):=fun i hi=>by rw[←hUf];unfold uL;rw[List.getElem?_map,List.getElem?_range hi];rfl
 rw[hUf]at hus
 have hga:∀ i n,Gv[i]?=some n→1≤n∧n<N∧zeu H n=3:=fun i n hi=>by
   have h1:=List.mem_of_getElem? hi
   have h2:=hM.gf n h1
   exact⟨h2.1,ae,(zjF aD aD).2 ⟨ae,h2.2,by rw[(hM.g3 n).1 h1];rfl⟩⟩
 rw[hDe]at hBt hDl
 refine zax (fn:=Tryz.f15) (rs:=[.tmp 8]) (n:=168) Tryz.func15 rfl rfl Tryz.ntmps15 aa rfl (zah (zaa (zad (zac) (zae (zaf (zah (zah (zaa (zad (zac) (zae (zaf (zav ?_))))))))))))
 refine zbq (α:=Nat) 0 (fun i=>[(0, .pointer (some ⟨hb,0,none⟩)),(1, .slice pa A.length ca),(2, .slice ph A.length ch),(3, .slice pg Gv.length cg),(9, .int .i64 (i:Int))])
   (fun i w'=>i≤A.length∧Two (GZ q N (pgH H) V k) Y lo L w'∧LoL lo L w w') (fun i=>A.length - i) ⟨rfl,rfl,rfl,rfl,rfl,rfl⟩ ⟨Nat.zero_le _,h,hl0⟩ ?_
 clear hl0 h
 rintro i f wr ⟨hi,hT,hl⟩
 refine zah (zah (zaa (zad (zab) (zad (zab) (zad (zaB (e:=38) (sz:=2) aa rfl rfl) (zad (zaY rfl rfl) (zae (zaf (za0 rfl (fun hlt2=>?_) (fun hlt2=>?_))))))))))
 ·
  refine bL ?_
  have hxo:∃ x,A[i]?=some x:=⟨_,List.getElem?_eq_getElem ae⟩
  obtain⟨⟨m,s⟩,hx⟩:=hxo
  have hAr:=hAt _ hl
  have hobt:=hAr.some ae
  obtain⟨ga,oa,rfl,_⟩:=hobt
  have hge:=getM (lo:=lo) (L:=L) hb m s hT hM.hi (hM.at_ hx) (hrt _ hl) (.inr hbL)
  have hdi:D[i]?=some (B m s):=by rw[←hDe,HM.dat,List.getElem?_map,hx];rfl
  have hobt:∃ bi,B m s=bi:=⟨_,rfl⟩
  obtain⟨bi,hbi⟩:=hobt
  rw[hbi]at hge hdi
  refine zaa (zad (zab) (zad (zab) (zad (zab) (zad (zbe (e:=38) (sz:=2) aa rfl rfl (i) ae ae) (zad (zaG rfl (ldPl hAr hx)) (zao rfl (zaj aa rfl) (hge) ?_))))))
  rintro _ w33 ⟨pb,cb,rfl,hob,hT2,hb33⟩
  replace hl:=hl.ll hb33 fun b hb=>hb
  refine zad (zab) (zad (zai rfl rfl) (zad (zai rfl rfl) (zad (zac) (zad (zac) (zae (zaf (zah (zah ?_))))))))
  have hT:=hT2.weak (L2:=L) fun b hb=>by simp[hb]
  have hBr:=hBt _ hl
  have hobt:=hBr.at_ i bi hdi
  obtain⟨pd,cd,hvi,hsd,_,_,_⟩:=hobt
  have hDr:=hDt _ hl
  have hobt:=hDr.some ae
  obtain⟨gh,oh,rfl,_⟩:=hobt
  have hos:=hob.sl
  refine za3 [] aa ?_
  intro w901 hb901 hS901
  replace hl:=hl.new hb901
  replace hT:=hT.new hb901
  replace hDr:=hDr.new hb901
  replace hsd:=hsd.new hb901
  replace hos:=hos.new hb901
  have hDr_d901:=hDr
  have hsd_d901:=hsd
  have hos_d901:=hos
  refine zas 0 (zab) (zas 1 (zaX rfl rfl) (zas 2 (zab) (zi1 38 rfl (ay) (zas 3 (zab) (zbo 4 (fun w' hS'=>zl6 (e:=5) (l:=bi) aa aa aa rfl (hos_d901.kpd hS' ah)) (zas 5 (zab) (zas 6 (zab) (zas 7 (zaN (e:=33) aa rfl rfl (i) ae ae) (zbo 8 (fun w' hS'=>zaG rfl (Ld.sl1 (hDr_d901.kpd hS' ah) aa hvi)) (zbo 9 (fun w' hS'=>zl6 (e:=5) (l:=bi) aa aa aa rfl (hsd_d901.kpd hS' ah)) (zas 10 (rn_neqS (a:=bi) (b:=bi) rfl rfl) (zas 11 (zaE rfl) (zaI aa (zaf (zjG rfl (ay) (zat (zaf (zah (zaa (zad (zac) (zae (zaf (zav ?_)))))))))))))))))))))))
  refine zbq (α:=Nat) 0 (fun j=>[(0, .pointer (some ⟨hb,0,none⟩)),(1, .slice (some ⟨ga,oa,none⟩) A.length ca),(2, .slice (some ⟨gh,oh,none⟩) A.length ch),(3, .slice pg Gv.length cg),(9, .int .i64 (i:Int)),(12, .int .i64 (j:Int))])
    (fun j w'=>j≤i∧Two (GZ q N (pgH H) V k) Y lo L w'∧LoL lo L w w') (fun j=>i - j) ⟨rfl,rfl,rfl,rfl,rfl,rfl,rfl⟩ ⟨Nat.zero_le _,hT,hl⟩ ?_
  clear hT hl hAr hDr hsd hos
  rintro j f2 wr2 ⟨hj,hT,hl⟩
  refine zah (zah (zaa (zad (zab) (zad (zab) (zad (zaY rfl rfl) (zae (zaf (za0 rfl (fun hji=>?_) (fun hji=>?_)))))))))
  ·
   refine bL ?_
   have hAr:=hAt _ hl
   have hyo:∃ y,A[j]?=some y:=⟨_,List.getElem?_eq_getElem ae⟩
   obtain⟨⟨m2,s2⟩,hy⟩:=hyo
   have hne:¬((m2:Int)=(m:Int)∧(s2:Int)=(s:Int)):=fun e=>by
     have h1:m2=m:=by omega
     have h2:s2=s:=by omega
     subst h1;subst h2
     have:=zcJ hM.nd hx hy
     omega
   refine za3 [] aa ?_
   intro w902 hb902 hS902
   replace hAr:=hAr.new hb902
   replace hT:=hT.new hb902
   replace hl:=hl.new hb902
   have hAr_d902:=hAr
   refine zas 0 (zab) (zas 1 (zab) (zas 2 (zbe (e:=38) (sz:=2) aa rfl rfl (j) ae ae) (zbo 3 (fun w' hS'=>zaG rfl (ldPl (hAr_d902.kpd hS' ah) hy)) (zas 4 (zab) (zas 5 (zab) (zas 6 (zbe (e:=38) (sz:=2) aa rfl rfl (i) ae ae) (zbo 7 (fun w' hS'=>zaG rfl (ldPl (hAr_d902.kpd hS' ah) hx)) (zas 8 (rn_eqlP (k0:=.i64) (k1:=.i64) aa rfl rfl) (zaI aa (zaf (zcF rfl ((by simpa using hne)) (zat (zaP (zaf (zaa (zad (zab) (zad (zaO rfl rfl (show IntKind.i64.wrap ((j:Int)+1)=((j+1:Nat):Int) by rw[w64 ae];omega)) (zad (zac) (zae (za2 ⟨j+1,ae,⟨rfl,rfl,rfl,rfl,rfl,rfl,rfl⟩,ae,hT,hl⟩))))))))))))))))))))
  ·
   refine zbh (zbC (zbH (zbl (zaP (zaf (zaa (zad (zab) (zad (zaO rfl rfl (show IntKind.i64.wrap ((i:Int)+1)=((i+1:Nat):Int) by rw[w64 ae];omega)) (zad (zac) (zae (za2 ⟨i+1,ae,⟨rfl,rfl,rfl,rfl,rfl,rfl⟩,ae,hT,hl⟩)))))))))))
 ·
  have hbm:=zlV D
  have hrmT:=fun W Lx (hT:Two (GZ q N (pgH H) V k) Y lo Lx W) (hr:row W hb [.pointer (some ⟨q,0,none⟩)] 50) (hm:hb∈Lx)=>zpt hb hT hM.hi.ok hr (.inr hm)
  have hallT:=fun W Lx (hT:Two (GZ q N (pgH H) V k) Y lo Lx W) (hr:row W hb [.pointer (some ⟨q,0,none⟩)] 50) (hm:hb∈Lx)=>allM hb hT hM.hi hM.full hr (.inr hm)
  rw[←hfr]at hrmT
  rw[hmn]at hallT
  have hc0:=zeQ H 0 N
  have hc2:=zeQ H 2 N
  rw[hpn]at hc2
  refine zbh (zbC (zbH (zbl (zaf (zah (zaa (zad (zab) (zao rfl (zaj aa rfl) (hus wr hT hl) ?_))))))))
  rintro _ w63 ⟨gs,rfl,hu,hgs1,hgs2,hTu,hb63⟩
  replace hl:=hl.ll hb63 fun b hb=>hb
  refine zad (zac) (zae (zaf (zah (zah (zaa (zad (zab) (zad (zaB (e:=3) (sz:=1) aa rfl rfl) (zad (za5 rfl rfl) (zae (zaf (zcF rfl (ae) (zat (zaf (zah (zaa (zad (zac) (zad (zac) (zad (zac) (zae (zaf (zah (zah (zaa (zad (zac) (zae (zaf (zav ?_)))))))))))))))))))))))))))
  refine zbq (α:=Nat) 0 (fun i=>[(0, .pointer (some ⟨hb,0,none⟩)),(1, .slice pa A.length ca),(2, .slice ph A.length ch),(3, .slice pg Gv.length cg),(13, .slice (some ⟨gs,0,none⟩) N N),(14, .int .i64 (zjK (D.take i):Int)),(15, .int .i64 0),(16, .int .i64 0),(17, .int .i64 (i:Int))])
    (fun i w'=>i≤A.length∧Two (GZ q N (pgH H) V k) Y lo (gs::L) w'∧row w' gs (iv Uf) 3∧LoL lo L w w') (fun i=>A.length - i) ⟨rfl,rfl,rfl,rfl,rfl,rfl,rfl,rfl,rfl,rfl⟩ ⟨Nat.zero_le _,hTu,hu,hl⟩ ?_
  clear hT hTu hu hl
  rintro i f3 wr ⟨hi,hT,hu,hl⟩
  refine zah (zah (zaa (zad (zab) (zad (zab) (zad (zaB (e:=33) (sz:=1) aa rfl rfl) (zad (zaY rfl rfl) (zae (zaf (za0 rfl (fun hlt3=>?_) (fun hlt3=>?_))))))))))
  ·
   refine zat (zaf (zah (zav ?_)))
   have hdo:∃ b,D[i]?=some b:=⟨_,List.getElem?_eq_getElem ae⟩
   obtain⟨bi,hdi⟩:=hdo
   have hBr:=hBt _ hl
   have hobt:=hBr.at_ i bi hdi
   obtain⟨pd,cd,hvi,_,_,_,_⟩:=hobt
   have hDr:=hDt _ hl
   have hobt:=hDr.some ae
   obtain⟨gh,oh,rfl,_⟩:=hobt
   have hsn:=zpJ hdi
   have hsl:=zlV (D.take (i+1))
   have htl:(D.take (i+1)).length≤D.length:=by rw[List.length_take];omega
   refine zaa (zad (zab) (zad (zab) (zad (zab) (zad (zaN (e:=33) aa rfl rfl (i) ae ae) (zad (zaG rfl (Ld.sl1 hDr aa hvi)) (zad (zaB (e:=5) (sz:=1) aa rfl rfl) (zao rfl (zaj aa rfl) (zmC _ wr) ?_)))))))
   rintro _ _ ⟨rfl,rfl⟩
   refine zad (zaO rfl rfl (show IntKind.i64.wrap ((zjK (D.take i):Int)+(zeO (bi.length:Int):Nat))=((zjK (D.take (i+1)):Nat):Int) by rw[w64 ae];omega)) (zad (zac) (zae (zaP (zaf (zaa (zad (zab) (zad (zaO rfl rfl (show IntKind.i64.wrap ((i:Int)+1)=((i+1:Nat):Int) by rw[w64 ae];omega)) (zad (zac) (zae (za2 ⟨i+1,ae,⟨rfl,rfl,rfl,rfl,rfl,rfl,rfl,rfl,rfl,rfl⟩,ae,hT,hu,hl⟩))))))))))
  ·
   have hie:i=A.length:=by omega
   rw[hie,List.take_of_length_le ae]
   refine dU ?_
   refine zbq (α:=Nat × Nat × Int × Nat) (0,0,(zjK D:Int),0) (fun i=>[(0, .pointer (some ⟨hb,0,none⟩)),(1, .slice pa A.length ca),(3, .slice pg Gv.length cg),(13, .slice (some ⟨gs,0,none⟩) N N),(14, .int .i64 i.2.2.1),(15, .int .i64 (i.2.2.2:Int)),(16, .int .i64 (i.2.1:Int)),(18, .int .i64 (i.1:Int))])
     (fun i w'=>i.1≤N∧i.2.1=zgN i.1 H 0∧i.2.2.1=(zjK D:Int) - (zgN i.1 H 2:Int)∧i.2.2.2=zgN i.1 H 3∧Two (GZ q N (pgH H) V k) Y lo (gs::L) w'∧row w' gs (iv Uf) 3∧LoL lo L w w') (fun i=>N - i.1) ⟨rfl,rfl,rfl,rfl,rfl,rfl,rfl,rfl,rfl⟩ ⟨Nat.zero_le _,rfl,(by show(zjK D:Int)=_ - ((0:Nat):Int);omega),rfl,hT,hu,hl⟩ ?_
   clear hT hu hl
   rintro⟨i,fr,pt,mi⟩ f4 wr ⟨hi,hfr4,hpt4,hmi4,hT,hu,hl⟩
   dsimp only at hi hfr4 hpt4 hmi4
   have hs0:=zh0 H 0 i
   have hs2:=zh0 H 2 i
   have hs3:=zh0 H 3 i
   have hb0:=zeQ H 0 i
   have hb2:=zeQ H 2 i
   have hb3:=zeQ H 3 i
   refine zah (zah (zaa (zad (zab) (zad (zab) (zad (zaB (e:=3) (sz:=1) aa rfl rfl) (zad (zaY rfl rfl) (zae (zaf (za0 rfl (fun hlt4=>?_) (fun hlt4=>?_))))))))))
   ·
    refine zat (zaf (zah (zav (zah (zaa (zad (zab) (zad (zab) (zad (zaN (e:=3) aa rfl rfl (i) ae ae) (zad (zaG rfl (Ld.zeC hu aa (show(iv Uf)[0+i]?=some (.int .i64 (zeu H i)) by rw[Nat.zero_add,zl7,hUa i ae];rfl))) (zae (zaf (zav (zah (zaa (zad (za5 rfl rfl) (zad (zac) (zae (zaf (za0 rfl (fun e0=>?_) (fun e0=>?_))))))))))))))))))))
    ·
     refine zaa (zad (zab) (zad (zaO rfl rfl (show IntKind.i64.wrap ((fr:Int)+1)=((fr+1:Nat):Int) by rw[w64 ae];omega)) (zad (zac) (zae (zaP (zaP (zaf (zaa (zad (zab) (zad (zaO rfl rfl (show IntKind.i64.wrap ((i:Int)+1)=((i+1:Nat):Int) by rw[w64 ae];omega)) (zad (zac) (zae ?_))))))))))))
     rw[if_pos e0]at hs0
     rw[if_neg ae]at hs2 hs3
     refine za2 ⟨(i+1,fr+1,pt,mi),by show N - (i+1)<N - i;omega,⟨rfl,rfl,rfl,rfl,rfl,rfl,rfl,rfl,rfl⟩,by show i+1≤N;omega,by show fr+1=zgN (i+1) H 0;omega,by show pt=(zjK D:Int) - (zgN (i+1) H 2:Int);omega,by show mi=zgN (i+1) H 3;omega,hT,hu,hl⟩
    ·
     rw[if_neg ae]at hs0
     refine zah (zaa (zad (za5 rfl rfl) (zad (zac) (zae (zaf (za0 rfl (fun e2=>?_) (fun e2=>?_)))))))
     ·
      refine zaa (zad (zab) (zad (zcX rfl rfl (show IntKind.i64.wrap (pt - 1)=pt - 1 by rw[w64 ae])) (zad (zac) (zae (zaP (zaP (zaf (zaa (zad (zab) (zad (zaO rfl rfl (show IntKind.i64.wrap ((i:Int)+1)=((i+1:Nat):Int) by rw[w64 ae];omega)) (zad (zac) (zae ?_))))))))))))
      rw[if_pos e2]at hs2
      rw[if_neg ae]at hs3
      refine za2 ⟨(i+1,fr,pt - 1,mi),by show N - (i+1)<N - i;omega,⟨rfl,rfl,rfl,rfl,rfl,rfl,rfl,rfl,rfl⟩,by show i+1≤N;omega,by show fr=zgN (i+1) H 0;omega,by show pt - 1=(zjK D:Int) - (zgN (i+1) H 2:Int);omega,by show mi=zgN (i+1) H 3;omega,hT,hu,hl⟩
     ·
      rw[if_neg ae]at hs2
      refine zah (zaa (zad (za5 rfl rfl) (zad (zac) (zae (zaf (za0 rfl (fun e3=>?_) (fun e3=>?_)))))))
      ·
       refine zaa (zad (zab) (zad (zaO rfl rfl (show IntKind.i64.wrap ((mi:Int)+1)=((mi+1:Nat):Int) by rw[w64 ae];omega)) (zad (zac) (zae (zaP (zaP (zaf (zaa (zad (zab) (zad (zaO rfl rfl (show IntKind.i64.wrap ((i:Int)+1)=((i+1:Nat):Int) by rw[w64 ae];omega)) (zad (zac) (zae ?_))))))))))))
       rw[if_pos e3]at hs3
       refine za2 ⟨(i+1,fr,pt,mi+1),by show N - (i+1)<N - i;omega,⟨rfl,rfl,rfl,rfl,rfl,rfl,rfl,rfl,rfl⟩,by show i+1≤N;omega,by show fr=zgN (i+1) H 0;omega,by show pt=(zjK D:Int) - (zgN (i+1) H 2:Int);omega,by show mi+1=zgN (i+1) H 3;omega,hT,hu,hl⟩
      ·
       rw[if_neg ae]at hs3
       refine zat (zaP (zaP (zaf (zaa (zad (zab) (zad (zaO rfl rfl (show IntKind.i64.wrap ((i:Int)+1)=((i+1:Nat):Int) by rw[w64 ae];omega)) (zad (zac) (zae (za2 ⟨(i+1,fr,pt,mi),by show N - (i+1)<N - i;omega,⟨rfl,rfl,rfl,rfl,rfl,rfl,rfl,rfl,rfl⟩,by show i+1≤N;omega,by show fr=zgN (i+1) H 0;omega,by show pt=(zjK D:Int) - (zgN (i+1) H 2:Int);omega,by show mi=zgN (i+1) H 3;omega,hT,hu,hl⟩)))))))))
   ·
    have hie4:i=N:=by omega
    subst hie4
    have hpz:pt=0:=by omega
    subst hpz
    refine dU ?_
    refine zbq (α:=Nat) 0 (fun j=>[(0, .pointer (some ⟨hb,0,none⟩)),(1, .slice pa A.length ca),(3, .slice pg Gv.length cg),(13, .slice (some ⟨gs,0,none⟩) i i),(14, .int .i64 0),(15, .int .i64 (mi:Int)),(16, .int .i64 (fr:Int)),(19, .int .i64 (j:Int))])
      (fun j w'=>j≤Gv.length∧Two (GZ q i (pgH H) V k) Y lo (gs::L) w'∧row w' gs (iv Uf) 3∧LoL lo L w w') (fun j=>Gv.length - j) ⟨rfl,rfl,rfl,rfl,rfl,rfl,rfl,rfl,rfl⟩ ⟨Nat.zero_le _,hT,hu,hl⟩ ?_
    clear hT hu hl
    rintro j f5 wr ⟨hj,hT,hu,hl⟩
    refine zah (zah (zaa (zad (zab) (zad (zab) (zad (zaB (e:=3) (sz:=1) aa rfl rfl) (zad (zaY rfl rfl) (zae (zaf (za0 rfl (fun hlt5=>?_) (fun hlt5=>?_))))))))))
    ·
     refine bL ?_
     have hno:∃ n,Gv[j]?=some n:=⟨_,List.getElem?_eq_getElem ae⟩
     obtain⟨n,hn⟩:=hno
     have hgn:=hga j n hn
     have hGr:=hGt _ hl
     have hobt:=hGr.some ae
     obtain⟨gg,og,rfl,_⟩:=hobt
     have hnv:(nv Gv)[j]?=some (.int .i64 (n:Int)):=by unfold nv;rw[List.getElem?_map,hn];rfl
     refine zaa (zad (zab) (zad (zab) (zad (zaN (e:=3) aa rfl rfl (j) ae ae) (zad (zaG rfl (Ld.sl1 hGr aa hnv)) (zad (zaY rfl rfl) (zad (zab) (zfl 114 rfl (ae) (zaq rfl (zad (zab) (zaq rfl (zad (zab) (zaq rfl (zad (zaN (e:=3) aa rfl rfl (j) ae ae) (zaq rfl (zad (zaG rfl (Ld.sl1 hGr aa hnv)) (zaq rfl (zad (zab) (zaq rfl (zad (zaB (e:=3) (sz:=1) aa rfl rfl) (zaq rfl (zad (zcH rfl rfl) (zad (zaE rfl) (zad (zab) (zfl 123 rfl (ae) (zaq rfl (zad (zab) (zaq rfl (zad (zab) (zaq rfl (zad (zab) (zaq rfl (zad (zaN (e:=3) aa rfl rfl (j) ae ae) (zaq rfl (zad (zaG rfl (Ld.sl1 hGr aa hnv)) (zaq rfl (zad (zaN (e:=3) aa rfl rfl (n) ae ae) (zaq rfl (zad (zaG rfl (Ld.zeC hu aa (show(iv Uf)[0+n]?=some (.int .i64 3) by rw[Nat.zero_add,zl7,hUa n hgn.2.1,hgn.2.2];rfl))) ?_))))))))))))))))))))))))))))))))))))))
     refine zaq rfl (zad (zaX rfl rfl) (zad (zaE rfl) (zae (zaf (zcF rfl (ay) (zat (zaP (zaf (zaa (zad (zab) (zad (zaO rfl rfl (show IntKind.i64.wrap ((j:Int)+1)=((j+1:Nat):Int) by rw[w64 ae];omega)) (zad (zac) (zae (za2 ⟨j+1,ae,⟨rfl,rfl,rfl,rfl,rfl,rfl,rfl,rfl,rfl⟩,ae,hT,hu,hl⟩))))))))))))))
    ·
     refine zbh (zbC (zbH (zbl (zaf (zah ?_)))))
     have hszl0:=hl.size
     refine zaa (zaD rfl (zar ([Value.int .i64 0]) aa (fun g20 w20 hg20 hr20 hb20=>?_)))
     have lt_gs_g20:gs<g20:=Nat.lt_of_lt_of_le hu.lt hg20
     replace hT:=hT.newc hb20 hg20 hr20.lt
     replace hl:=hl.new hb20
     replace hu:=hu.new hb20
     refine zaK rfl (zbn hr20 (fun w903 hr20 ho903=>?_))
     replace hT:=hT.only ho903 ai
     replace hl:=hl.only ho903 ax
     replace hu:=hu.only ho903 (Nat.ne_of_lt lt_gs_g20)
     refine zae (zaf (zah (zah ?_)))
     have hg20lo:lo≤g20:=by have:=hT.lo;have:=hl.size;omega
     have hg20L:g20∉L:=fun hm=>by have:=hlt _ hm;have:=hl.size;omega
     refine zaa (zad (zab) (zao rfl (zaj aa rfl) (hallT w903 _ hT (hrt _ hl) (by simp[hbL])) ?_))
     rintro _ w134 ⟨ge1,u1,bl1,xs1,rfl,hT1,_,_,hb134⟩
     replace hl:=hl.ll hb134 aA
     replace hu:=hu.kpd hb134.kp ag
     replace hr20:=hr20.kl hb134
     refine zad (zqT aa rfl) (zae (zaf (zjG rfl (ay) (zat (zaf (zah (zah ?_)))))))
     have hT1:=hT1.weak (L2:=g20::gs::L) fun b hb=>List.mem_append_right _ hb
     refine zaa (zad (zab) (zao rfl (zaj aa rfl) (hallT w134 _ hT1 (hrt _ hl) (by simp[hbL])) ?_))
     rintro _ w137 ⟨ge,u,bl2,xs,rfl,hT2,hAF,hbl2,hb137⟩
     replace hl:=hl.ll hb137 aA
     replace hu:=hu.kpd hb137.kp ag
     replace hr20:=hr20.kl hb137
     refine zae (zaf (zav ?_))
     have hobt:∃ ks,ge::(u.ownBlock.toList++bl2)=ks:=⟨_,rfl⟩
     obtain⟨ks,hks⟩:=hobt
     have hsq:SeqV Tryz.prog 63 [.pointer (some ⟨ge,0,none⟩)] A.length AlV (fun _ _ _=>True) (ge::(u.ownBlock.toList++bl2)) (GZ q i (pgH H) V k) lo w137:=allSeq (X:=GZ q i (pgH H) V k) (lo:=lo) ge bl2 u A.length xs w137 hAF
     rw[hks]at hT2 hbl2 hsq
     have hlt2:=hT2.lt
     have hobt:∃ Dm,(w137).heap.size=Dm:=⟨_,rfl⟩
     obtain⟨Dm,hDm⟩:=hobt
     have hobt:∃ L2,ks++g20::gs::L=L2:=⟨_,rfl⟩
     obtain⟨L2,hL2⟩:=hobt
     have hT3:Two (GZ q i (pgH H) V k) Y lo L2 w137:=by rw[←hL2];exact hT2
     have hL2m:g20∈L2∧gs∈L2∧hb∈L2:=by rw[←hL2];simp[hbL]
     have hL2s:∀ b∈L,b∈L2:=fun b hb=>by rw[←hL2];simp[hb]
     have hl20:=hlt2 g20 ay
     have hlgs:=hlt2 gs ay
     have hlhb:=hlt2 hb (by simp[hbL])
     have hszl:=hl.size
     rw[hDm]at hl20 hlgs hlhb hszl
     refine zcT (τ:=Unit) (m:=A.length) (V:=AlV) (T0:=fun _ _ _=>True) (ps:=[138,139]) (L:=L2) (X:=GZ q i (pgH H) V k) (Y:=Y) (α:=Unit) (fun _=>[]) (Dm+1) [Dm] (fun rd h=>by rw[show rd=none from h,←hDm];exact zen _ _) rfl aa hsq (fun _ i v _ _ _ hv=>hv) aa ay (fun b hb=>by rw[←hL2];exact List.mem_append_left _ hb)
       (fun _ j _ w'=>j≤A.length∧row w' g20 [.int .i64 (j:Int)] 3∧row w' gs (iv Uf) 3∧LoL lo L w w') (fun _ _=>False)
       ?_ ?_ (fun _ _ _ h=>h.elim) (fun _ _ _ h=>h.elim) (fun _ _ _ _ _ b hb=>by cases hb) () (show Two _ Y lo ([]++L2) _ from hT3) ?_ ?_ ?_ (fun c W' h=>h.elim)
     · rintro _ j _ W W' ⟨h1,h2,h3,h5⟩ hk
       exact⟨h1,h2.kl hk (.inr (by simp[hL2m])),h3.kl hk (.inr (by simp[hL2m])),h5.ll hk fun b hb=>by simp[hL2s b hb]⟩
     · rintro _ j _ W W' ⟨h1,h2,h3,h5⟩ ho
       exact⟨h1,h2.only ho ae,h3.only ho ae,h5.only ho aG⟩
     · intro _ W' _ hk
       exact⟨Nat.zero_le _,hr20.kl hk (.inr (by simp[hL2m])),hu.kl hk (.inr (by simp[hL2m])),hl.ll hk fun b hb=>by simp[hL2s b hb]⟩
     · rintro _ j v _ W1 Lx hjm hv hLx hT4 ⟨hj4,hr24,hr95,hl4⟩ hsz1
       obtain⟨va,vb,rfl⟩:∃ a b,v=[a,b]:=by
        match v,(show v.length=2 from hv)with
        |[a,b],_=>exact⟨a,b,rfl⟩
       have hBa:=Below.refl W1.heap.size W1
       have hx20:∀ b∈Lx,b≠g20:=fun b hb e=>by
        subst e
        rcases hLx b hb with h|h
        ·exact(hbl2 b h).2 ay
        ·omega
       have hglo:lo≤g20:=by have:=(hbl2 ge (by rw[←hks];simp)).1;exact hg20lo
       refine zat (⟨rfl,hBa,fun W2 hs _=>?_⟩)
       replace hr24:=hr24.only hs ae
       replace hr95:=hr95.only hs ae
       replace hl4:=hl4.only hs aG
       replace hT4:=hT4.only hs (.inr ay)
       have hLr:=LoL.refl lo ((Dm+1)::Dm::Lx) W2
       refine zav (zaa (zad (zau hr24) (zad (zaO rfl rfl (show IntKind.i64.wrap ((j:Int)+1)=((j+1:Nat):Int) by rw[w64 ae];omega)) (zaK rfl (zbn hr24 (fun w904 hr24 ho904=>?_))))))
       replace hr95:=hr95.only ho904 (Nat.ne_of_lt lt_gs_g20)
       have hoE:=ho904
       refine zae (zaP ?_)
       exact⟨hLr.only hoE (.inr ⟨hglo,fun hm=>by simp only[List.mem_cons,List.cons_append,List.nil_append]at hm;rcases hm with h|h|h;omega;omega;exact hx20 _ h rfl⟩),(),hT4.only hoE (.inr (by simp[hL2m])),hjm,hr24,hr95,hl4.only hoE (.inr ⟨hglo,hg20L⟩)⟩
     · rintro _ _ W hT4 ⟨_,hr24,hr95,hl4⟩ hds
       have hdf:zju W Dm:=⟨hds Dm ay⟩
       replace hT4:Two (GZ q i (pgH H) V k) Y lo (Dm::L2) W:=hT4
       refine zaP (zaf (zah (zaa (zad (zab) (zad (za5 rfl rfl) (zad (zab) (zeA 144 rfl (rfl) (zaq rfl (zad (zab) (zaq rfl (zad (zab) (zaq rfl (zad (zaB (e:=3) (sz:=1) aa rfl rfl) (zaq rfl (zad (za5 rfl rfl) (zad (zaC rfl) (zad (zab) (zeA 150 rfl (ae) (zaq rfl (zad (zab) (zaq rfl (zad (zab) (zaq rfl (zao rfl (zaj aa rfl) (hrmT W _ hT4 (hrt _ hl4) (by simp[hL2m,hbL])) ?_))))))))))))))))))))))))
       rintro _ w153 ⟨rfl,hT4,hb153⟩
       have hl9:=hl4.ll hb153 fun b hb=>(show b∈Dm::L2 by simp[hL2s b hb])
       replace hr24:=hr24.kl hb153
       replace hr95:=hr95.kl hb153
       replace hdf:=hdf.kpd hb153.kp ag
       refine zaq rfl (zad (za5 rfl rfl) (zad (zaC rfl) (zad (zab) (zeA 156 rfl (ae) (zaq rfl (zad (zab) (zaq rfl (zad (zaN (e:=3) aa rfl rfl (0) rfl ae) (zaq rfl (zad (zaG rfl (Ld.zeC hr95 aa (show(iv Uf)[0+0]?=some (.int .i64 4) by rw[zl7,hUa 0 ae,hu0];rfl))) (zaq rfl (zad (za5 rfl rfl) (zad (zaC rfl) (zad (zab) (zeA 162 rfl (rfl) (zaq rfl (zad (zau hr24) (zaq rfl (zad (zab) (zaq rfl (zad (zaB (e:=38) (sz:=2) aa rfl rfl) (zaq rfl (zad (za5 rfl rfl) (zad (zaC rfl) (zad (zac) (zae (zaf (zaF (zeS [_] Dm hdf.d ⟨rfl,trivial⟩ ?_)))))))))))))))))))))))))))))
       have ho:Only Dm w153 (World.putObj w153 Dm (.deferred none)):=zce _
       exact⟨by show Value.bool (decide ((A.length:Int)=(A.length:Int)))=_;rw[decide_eq_true rfl],(hT4.only ho (.inr ay)).weak (fun b hb=>by simp[hL2s b hb]),hl9.only ho aG⟩
end
theorem zlW{X Y:World→List Nat→Prop}[hX:Thing X][hY:Thing Y]{lo:Nat}{L M N:List Nat}{w w':World}(h:Two X Y lo L w)(k:Kp M w w')(hM:∀ b∈M,b<lo∨b∈L)(hN:∀ b∈N,b∈L∨w.heap.size≤b)(hN':∀ b∈N,b<w'.heap.size):Two X Y lo (N++L) w':=by
 have hno:∀ b,b<w.heap.size→b∉L→b∉N++L:=fun b hb hl hm=>(List.mem_append.1 hm).elim (fun hm=>(hN b hm).elim hl fun hs=>absurd hb (Nat.not_lt.2 hs)) hl
 obtain⟨⟨B,C,h1,h2,h3,h4⟩,h5,h6⟩:=h
 refine⟨⟨B,C,?_,?_,fun b hb=>⟨(h3 b hb).1,(h3 b hb).2.1,hno b (hX.lt h1 b hb) (h3 b hb).2.2⟩,fun b hb=>⟨(h4 b hb).1,hno b (hY.lt h2 b hb) (h4 b hb).2⟩⟩,Nat.le_trans h5 k.size,fun b hb=>?_⟩
 ·exact hX.kpd h1 k fun b hb hm=>(hM b hm).elim (fun hl=>absurd (h3 b hb).1 (Nat.not_le.2 hl)) (h3 b hb).2.2
 ·exact hY.kpd h2 k fun b hb hm=>(hM b hm).elim (fun hl=>absurd (h4 b hb).1 (Nat.not_le.2 hl)) (h4 b hb).2
 ·rcases List.mem_append.1 hb with hb|hb
  ·exact hN' b hb
  ·exact Nat.lt_of_lt_of_le (h6 b hb) k.size
def zfk(v9 v10 v11:Value)(bl:List Nat):List Nat:=v9.ownBlock.toList++(v10.ownBlock.toList++(v11.ownBlock.toList++bl))
theorem zaJ{v9 v10 v11:Value}{bl:List Nat}{b:Nat}:b∈zfk v9 v10 v11 bl↔b∈v9.ownBlock.toList∨b∈v10.ownBlock.toList∨b∈v11.ownBlock.toList∨b∈bl:=by
 unfold zfk
 rw[List.mem_append,List.mem_append,List.mem_append]
structure zgh(lo:Nat)(v9 v10 v11:Value)(bl:List Nat)(vs:List Value)(A:List (Nat × Nat))(D:List (List UInt8))(Gv:List Nat)(w:World):Prop where
 o9:zaz w lo 38 2 v9 A.length (plv A)
 o10:zaz w lo 33 1 v10 D.length vs
 o11:zaz w lo 3 1 v11 Gv.length (nv Gv)
 bs:zgT w bl vs D
 n1:∀ b∈v9.ownBlock.toList,b∉v10.ownBlock.toList∧b∉v11.ownBlock.toList∧b∉bl
 n2:∀ b∈v10.ownBlock.toList,b∉v11.ownBlock.toList∧b∉bl
 n3:∀ b∈v11.ownBlock.toList,b∉bl
theorem zgi{w w':World}{base e sz m:Nat}{v:Value}{xs:List Value}{M:List Nat}(h:zaz w base e sz v m xs)(k:Kp M w w')(hM:∀ b∈v.ownBlock.toList,b∉M):zaz w' base e sz v m xs:=h.kpd k fun g hm e=>hM g (Option.mem_toList.2 e) hm
namespace zgh
variable {X Y:World→List Nat→Prop}[hX:Thing X][hY:Thing Y]{lo base:Nat}{v9 v10 v11 v':Value}{bl L M ob:List Nat}{vs vs':List Value}{A A':List (Nat × Nat)}{D D':List (List UInt8)}{Gv Gv':List Nat}{w w':World}
instance:Kept (zfk v9 v10 v11 bl) (zgh lo v9 v10 v11 bl vs A D Gv):=⟨fun {w w' M} h k hM=>
 ⟨zgi h.o9 k fun b hb=>hM b (zaJ.2 (.inl hb)),zgi h.o10 k fun b hb=>hM b (zaJ.2 (.inr (.inl hb))),zgi h.o11 k fun b hb=>hM b (zaJ.2 (.inr (.inr (.inl hb)))),h.bs.kpd k fun b hb=>hM b (zaJ.2 (.inr (.inr (.inr hb)))),h.n1,h.n2,h.n3⟩⟩
theorem kpd(h:zgh lo v9 v10 v11 bl vs A D Gv w)(k:Kp M w w')(hM:∀ b∈zfk v9 v10 v11 bl,b∉M):zgh lo v9 v10 v11 bl vs A D Gv w':=
 Kept.kpd (bl:=zfk v9 v10 v11 bl) (F:=zgh lo v9 v10 v11 bl vs A D Gv) h k hM
theorem set9(h:zgh lo v9 v10 v11 bl vs A D Gv w)(hT:Two X Y lo (zfk v9 v10 v11 bl++L) w)(k:Kp M w w')(hM:∀ b∈M,b∈v9.ownBlock.toList)(hv:zaz w' base 38 2 v' A'.length (plv A'))(hb:lo≤base)(hf:∀ b∈v'.ownBlock.toList,b∈v9.ownBlock.toList∨w.heap.size≤b):
  zgh lo v' v10 v11 bl vs A' D Gv w'∧Two X Y lo (zfk v' v10 v11 bl++L) w':=by
 have hlt:∀ b∈zfk v9 v10 v11 bl,b<w.heap.size:=fun b hb=>hT.lt b (List.mem_append_left _ hb)
 refine⟨⟨zaz.mono hv hb,zgi h.o10 k fun b hb hm=>(h.n1 b (hM b hm)).1 hb,zgi h.o11 k fun b hb hm=>(h.n1 b (hM b hm)).2.1 hb,h.bs.kpd k fun b hb hm=>(h.n1 b (hM b hm)).2.2 hb,fun b hb=>?_,h.n2,h.n3⟩,?_⟩
 ·rcases hf b hb with h1|h1
  ·exact h.n1 b h1
  ·exact⟨fun h2=>by have:=hlt b (zaJ.2 (.inr (.inl h2)));omega,fun h2=>by have:=hlt b (zaJ.2 (.inr (.inr (.inl h2))));omega,fun h2=>by have:=hlt b (zaJ.2 (.inr (.inr (.inr h2))));omega⟩
 ·refine(zlW hT k (N:=v'.ownBlock.toList) (fun b hb=>.inr (List.mem_append_left _ (zaJ.2 (.inl (hM b hb))))) (fun b hb=>(hf b hb).imp (fun h=>List.mem_append_left _ (zaJ.2 (.inl h))) id) fun b hb=>(hv.lt b (Option.mem_toList.1 hb)).2).weak fun b hb=>?_
  rcases List.mem_append.1 hb with hb|hb
  ·rcases zaJ.1 hb with h1|h1
   ·exact List.mem_append_left _ h1
   ·exact List.mem_append_right _ (List.mem_append_left _ (zaJ.2 (.inr h1)))
  ·exact List.mem_append_right _ (List.mem_append_right _ hb)
theorem set11(h:zgh lo v9 v10 v11 bl vs A D Gv w)(hT:Two X Y lo (zfk v9 v10 v11 bl++L) w)(k:Kp M w w')(hM:∀ b∈M,b∈v11.ownBlock.toList)(hv:zaz w' base 3 1 v' Gv'.length (nv Gv'))(hb:lo≤base)(hf:∀ b∈v'.ownBlock.toList,b∈v11.ownBlock.toList∨w.heap.size≤b):
  zgh lo v9 v10 v' bl vs A D Gv' w'∧Two X Y lo (zfk v9 v10 v' bl++L) w':=by
 have hlt:∀ b∈zfk v9 v10 v11 bl,b<w.heap.size:=fun b hb=>hT.lt b (List.mem_append_left _ hb)
 refine⟨⟨zgi h.o9 k fun b hb hm=>(h.n1 b hb).2.1 (hM b hm),zgi h.o10 k fun b hb hm=>(h.n2 b hb).1 (hM b hm),zaz.mono hv hb,h.bs.kpd k fun b hb hm=>h.n3 b (hM b hm) hb,fun b hb=>⟨(h.n1 b hb).1,fun h2=>?_,(h.n1 b hb).2.2⟩,fun b hb=>⟨fun h2=>?_,(h.n2 b hb).2⟩,fun b hb=>?_⟩,?_⟩
 ·rcases hf b h2 with h1|h1
  ·exact(h.n1 b hb).2.1 h1
  ·have:=hlt b (zaJ.2 (.inl hb));omega
 ·rcases hf b h2 with h1|h1
  ·exact(h.n2 b hb).1 h1
  ·have:=hlt b (zaJ.2 (.inr (.inl hb)));omega
 ·rcases hf b hb with h1|h1
  ·exact h.n3 b h1
  ·intro h2;have:=hlt b (zaJ.2 (.inr (.inr (.inr h2))));omega
 ·refine(zlW hT k (N:=v'.ownBlock.toList) (fun b hb=>.inr (List.mem_append_left _ (zaJ.2 (.inr (.inr (.inl (hM b hb))))))) (fun b hb=>(hf b hb).imp (fun h=>List.mem_append_left _ (zaJ.2 (.inr (.inr (.inl h))))) id) fun b hb=>(hv.lt b (Option.mem_toList.1 hb)).2).weak fun b hb=>?_
  rcases List.mem_append.1 hb with hb|hb
  ·rcases zaJ.1 hb with h1|h1|h1|h1
   ·exact List.mem_append_right _ (List.mem_append_left _ (zaJ.2 (.inl h1)))
   ·exact List.mem_append_right _ (List.mem_append_left _ (zaJ.2 (.inr (.inl h1))))
   ·exact List.mem_append_left _ h1
   ·exact List.mem_append_right _ (List.mem_append_left _ (zaJ.2 (.inr (.inr (.inr h1)))))
  ·exact List.mem_append_right _ (List.mem_append_right _ hb)
theorem set10(h:zgh lo v9 v10 v11 bl vs A D Gv w)(hT:Two X Y lo (zfk v9 v10 v11 bl++(ob++L)) w)(hob:∀ b∈ob,b∉zfk v9 v10 v11 [])(k:Kp M w w')(hM:∀ b∈M,b∈v10.ownBlock.toList)(hv:zaz w' base 33 1 v' D'.length vs')(hb:lo≤base)(hf:∀ b∈v'.ownBlock.toList,b∈v10.ownBlock.toList∨w.heap.size≤b)(hbs:zgT w' (ob++bl) vs' D'):
  zgh lo v9 v' v11 (ob++bl) vs' A D' Gv w'∧Two X Y lo (zfk v9 v' v11 (ob++bl)++L) w':=by
 have hlt:∀ b∈zfk v9 v10 v11 bl,b<w.heap.size:=fun b hb=>hT.lt b (List.mem_append_left _ hb)
 have hlo:∀ b∈ob,b<w.heap.size:=fun b hb=>hT.lt b (List.mem_append_right _ (List.mem_append_left _ hb))
 refine⟨⟨zgi h.o9 k fun b hb hm=>(h.n1 b hb).1 (hM b hm),zaz.mono hv hb,zgi h.o11 k fun b hb hm=>(h.n2 b (hM b hm)).1 hb,hbs,fun b hb=>⟨fun h2=>?_,(h.n1 b hb).2.1,fun h2=>?_⟩,fun b hb=>⟨fun h2=>?_,fun h2=>?_⟩,fun b hb h2=>?_⟩,?_⟩
 ·rcases hf b h2 with h1|h1
  ·exact(h.n1 b hb).1 h1
  ·have:=hlt b (zaJ.2 (.inl hb));omega
 ·rcases List.mem_append.1 h2 with h2|h2
  ·exact hob b h2 (zaJ.2 (.inl hb))
  ·exact(h.n1 b hb).2.2 h2
 ·rcases hf b hb with h1|h1
  ·exact(h.n2 b h1).1 h2
  ·have:=hlt b (zaJ.2 (.inr (.inr (.inl h2))));omega
 ·rcases hf b hb with h1|h1<;>rcases List.mem_append.1 h2 with h2|h2
  ·exact hob b h2 (zaJ.2 (.inr (.inl h1)))
  ·exact(h.n2 b h1).2 h2
  ·have:=hlo b h2;omega
  ·have:=hlt b (zaJ.2 (.inr (.inr (.inr h2))));omega
 ·rcases List.mem_append.1 h2 with h2|h2
  ·exact hob b h2 (zaJ.2 (.inr (.inr (.inl hb))))
  ·exact h.n3 b hb h2
 ·refine(zlW hT k (N:=v'.ownBlock.toList) (fun b hb=>.inr (List.mem_append_left _ (zaJ.2 (.inr (.inl (hM b hb)))))) (fun b hb=>(hf b hb).imp (fun h=>List.mem_append_left _ (zaJ.2 (.inr (.inl h)))) id) fun b hb=>(hv.lt b (Option.mem_toList.1 hb)).2).weak fun b hb=>?_
  rcases List.mem_append.1 hb with hb|hb
  ·rcases zaJ.1 hb with h1|h1|h1|h1
   ·exact List.mem_append_right _ (List.mem_append_left _ (zaJ.2 (.inl h1)))
   ·exact List.mem_append_left _ h1
   ·exact List.mem_append_right _ (List.mem_append_left _ (zaJ.2 (.inr (.inr (.inl h1)))))
   ·rcases List.mem_append.1 h1 with h1|h1
    ·exact List.mem_append_right _ (List.mem_append_right _ (List.mem_append_left _ h1))
    ·exact List.mem_append_right _ (List.mem_append_left _ (zaJ.2 (.inr (.inr (.inr h1)))))
  ·exact List.mem_append_right _ (List.mem_append_right _ (List.mem_append_right _ hb))
theorem put9(hT:Two X (ziP Y (zfk v9 v10 v11 bl) (zgh lo v9 v10 v11 bl vs A D Gv)) lo L w)(k:Kp M w w')(hM:∀ b∈M,b∈v9.ownBlock.toList)(hv:zaz w' base 38 2 v' A'.length (plv A'))(hb:lo≤base)(hf:∀ b∈v'.ownBlock.toList,b∈v9.ownBlock.toList∨w.heap.size≤b):
  Two X (ziP Y (zfk v' v10 v11 bl) (zgh lo v' v10 v11 bl vs A' D Gv)) lo L w':=by
 obtain⟨h1,h2,h3⟩:=zbr hT
 obtain⟨h4,h5⟩:=h2.set9 h1 k hM hv hb hf
 refine zeP h5 h4 fun b hb=>?_
 rcases zaJ.1 hb with h6|h6
 ·rcases hf b h6 with h7|h7
  ·exact h3 b (zaJ.2 (.inl h7))
  ·exact⟨by have:=hT.lo;omega,fun hm=>by have:=hT.lt b hm;omega⟩
 ·exact h3 b (zaJ.2 (.inr h6))
theorem put11(hT:Two X (ziP Y (zfk v9 v10 v11 bl) (zgh lo v9 v10 v11 bl vs A D Gv)) lo L w)(k:Kp M w w')(hM:∀ b∈M,b∈v11.ownBlock.toList)(hv:zaz w' base 3 1 v' Gv'.length (nv Gv'))(hb:lo≤base)(hf:∀ b∈v'.ownBlock.toList,b∈v11.ownBlock.toList∨w.heap.size≤b):
  Two X (ziP Y (zfk v9 v10 v' bl) (zgh lo v9 v10 v' bl vs A D Gv')) lo L w':=by
 obtain⟨h1,h2,h3⟩:=zbr hT
 obtain⟨h4,h5⟩:=h2.set11 h1 k hM hv hb hf
 refine zeP h5 h4 fun b hb=>?_
 rcases zaJ.1 hb with h6|h6|h6|h6
 ·exact h3 b (zaJ.2 (.inl h6))
 ·exact h3 b (zaJ.2 (.inr (.inl h6)))
 ·rcases hf b h6 with h7|h7
  ·exact h3 b (zaJ.2 (.inr (.inr (.inl h7))))
  ·exact⟨by have:=hT.lo;omega,fun hm=>by have:=hT.lt b hm;omega⟩
 ·exact h3 b (zaJ.2 (.inr (.inr (.inr h6))))
theorem put10(hT:Two X (ziP Y (zfk v9 v10 v11 bl) (zgh lo v9 v10 v11 bl vs A D Gv)) lo (ob++L) w)(hob:∀ b∈ob,lo≤b∧b∉L)(k:Kp M w w')(hM:∀ b∈M,b∈v10.ownBlock.toList)(hv:zaz w' base 33 1 v' D'.length vs')(hb:lo≤base)(hf:∀ b∈v'.ownBlock.toList,b∈v10.ownBlock.toList∨w.heap.size≤b)(hbs:zgT w' (ob++bl) vs' D'):
  Two X (ziP Y (zfk v9 v' v11 (ob++bl)) (zgh lo v9 v' v11 (ob++bl) vs' A D' Gv)) lo L w':=by
 obtain⟨h1,h2,h3⟩:=zbr hT
 obtain⟨h4,h5⟩:=h2.set10 h1 (fun b hb hm=>(h3 b (by
  rcases zaJ.1 hm with h|h|h|h
  ·exact zaJ.2 (.inl h)
  ·exact zaJ.2 (.inr (.inl h))
  ·exact zaJ.2 (.inr (.inr (.inl h)))
  ·cases h)).2 (List.mem_append_left _ hb)) k hM hv hb hf hbs
 have h3':∀ b∈zfk v9 v10 v11 bl,lo≤b∧b∉L:=fun b hb=>⟨(h3 b hb).1,fun hm=>(h3 b hb).2 (List.mem_append_right _ hm)⟩
 refine zeP h5 h4 fun b hb=>?_
 rcases zaJ.1 hb with h6|h6|h6|h6
 ·exact h3' b (zaJ.2 (.inl h6))
 ·rcases hf b h6 with h7|h7
  ·exact h3' b (zaJ.2 (.inr (.inl h7)))
  ·exact⟨by have:=hT.lo;omega,fun hm=>by have:=hT.lt b (List.mem_append_right _ hm);omega⟩
 ·exact h3' b (zaJ.2 (.inr (.inr (.inl h6))))
 ·rcases List.mem_append.1 h6 with h7|h7
  ·exact hob b h7
  ·exact h3' b (zaJ.2 (.inr (.inr (.inr h7))))
theorem fresh {v'':Value} {b9 b10:Nat} (hT:Two X (ziP Y (zfk v9 v10 v11 bl) (zgh lo v9 v10 v11 bl vs A D Gv)) lo L w) (hB:Below w.heap.size w w') (h9:zaz w' b9 38 2 v' A'.length (plv A')) (h10:zaz w' b10 33 1 v'' D'.length vs') (hb9:w.heap.size≤b9) (hb10:w.heap.size≤b10)
  (hd:∀ b∈v'.ownBlock.toList,b∉v''.ownBlock.toList) (hbs:zgT w' bl vs' D'):Two X (ziP Y (zfk v' v'' v11 bl) (zgh lo v' v'' v11 bl vs' A' D' Gv)) lo L w':=by
 obtain⟨h1,h2,h3⟩:=zbr hT
 have hlt:∀ b∈zfk v9 v10 v11 bl,b<w.heap.size:=fun b hb=>h1.lt b (List.mem_append_left _ hb)
 have hlo:=hT.lo
 have g9:∀ b∈v'.ownBlock.toList,w.heap.size≤b∧b<w'.heap.size:=fun b hb=>by
  have:=h9.lt b (Option.mem_toList.1 hb);omega
 have g10:∀ b∈v''.ownBlock.toList,w.heap.size≤b∧b<w'.heap.size:=fun b hb=>by
  have:=h10.lt b (Option.mem_toList.1 hb);omega
 refine zeP ((h1.zk8 hB (M:=v'.ownBlock.toList++v''.ownBlock.toList) fun b hb=>(List.mem_append.1 hb).elim (g9 b) (g10 b)).weak fun b hb=>?_) ⟨zaz.mono h9 ae,zaz.mono h10 ae,h2.o11.new hB,hbs,fun b hb=>⟨hd b hb,fun h=>?_,fun h=>?_⟩,fun b hb=>⟨fun h=>?_,fun h=>?_⟩,h2.n3⟩ fun b hb=>?_
 ·rcases List.mem_append.1 hb with h|h
  ·rcases zaJ.1 h with h|h|h
   ·exact List.mem_append_left _ (List.mem_append_left _ h)
   ·exact List.mem_append_left _ (List.mem_append_right _ h)
   ·exact List.mem_append_right _ (List.mem_append_left _ (zaJ.2 (.inr (.inr h))))
  ·exact List.mem_append_right _ (List.mem_append_right _ h)
 ·have:=g9 b hb;have:=hlt b (zaJ.2 (.inr (.inr (.inl h))));omega
 ·have:=g9 b hb;have:=hlt b (zaJ.2 (.inr (.inr (.inr h))));omega
 ·have:=g10 b hb;have:=hlt b (zaJ.2 (.inr (.inr (.inl h))));omega
 ·have:=g10 b hb;have:=hlt b (zaJ.2 (.inr (.inr (.inr h))));omega
 ·rcases zaJ.1 hb with h|h|h
  ·have:=g9 b h;exact⟨ae,fun hm=>by have:=hT.lt b hm;omega⟩
  ·have:=g10 b h;exact⟨ae,fun hm=>by have:=hT.lt b hm;omega⟩
  ·exact h3 b (zaJ.2 (.inr (.inr h)))
end zgh
theorem zgT.one{w:World}{bl:List Nat}{vs:List Value}{D:List (List UInt8)}(h:zgT w bl vs D):∀ v∈vs,v.oneCell'=true:=fun v hv=>by
 obtain⟨i,hi⟩:=List.mem_iff_getElem?.1 hv
 have hl:=(List.getElem?_eq_some_iff.1 hi).1
 obtain⟨p,c,h1,_⟩:=h.at_ i _ (List.getElem?_eq_getElem (by rw[←h.len];exact hl))
 rw[hi]at h1
 rw[Option.some.inj h1]
 rfl
theorem zgT.snoc{w:World}{bl ob:List Nat}{vs:List Value}{D:List (List UInt8)}{p:Option Addr}{c:Nat}{b:List UInt8}(h:zgT w bl vs D)(hs:zaS w p b.length 1 (bv b))(hp:∀ g o,p=some ⟨g,o,none⟩→g∈ob)(hc:b.length≤c)(hl:b.length≤21000):zgT w (ob++bl) (vs++[.slice p b.length c]) (D++[b]):=
 ⟨by rw[List.length_append,List.length_append,h.len];rfl,fun i b' hi=>by
  by_cases e:i<D.length
  ·rw[List.getElem?_append_left e]at hi
   obtain⟨p',c',h1,h2,h3,h4⟩:=h.at_ i b' hi
   exact⟨p',c',by rw[List.getElem?_append_left (by rw[h.len];exact e)];exact h1,h2,fun g o e=>by simp[h3 g o e],h4⟩
  ·have e2:i=D.length:=by have:=(List.getElem?_eq_some_iff.1 hi).1;simp at this;omega
   subst e2
   rw[List.getElem?_append_right (Nat.le_refl _),Nat.sub_self]at hi
   cases hi
   exact⟨p,c,by rw[List.getElem?_append_right (by rw[h.len];exact Nat.le_refl _),h.len,Nat.sub_self];rfl,hs,fun g o e=>by simp[hp g o e],hc,hl⟩⟩
theorem zgT.set{w:World}{bl ob:List Nat}{vs:List Value}{D:List (List UInt8)}{p:Option Addr}{c k:Nat}{b:List UInt8}(h:zgT w bl vs D)(hs:zaS w p b.length 1 (bv b))(hp:∀ g o,p=some ⟨g,o,none⟩→g∈ob)(hc:b.length≤c)(hl:b.length≤21000):zgT w (ob++bl) (vs.set k (.slice p b.length c)) (D.set k b):=
 ⟨by rw[List.length_set,List.length_set,h.len],fun i b' hi=>by
  have hil:=(List.getElem?_eq_some_iff.1 hi).1
  rw[List.length_set]at hil
  by_cases e:k=i
  ·subst e
   rw[List.getElem?_set_self hil]at hi
   cases hi
   exact⟨p,c,List.getElem?_set_self (by rw[h.len];exact hil),hs,fun g o e=>by simp[hp g o e],hc,hl⟩
  ·rw[List.getElem?_set_ne e]at hi
   obtain⟨p',c',h1,h2,h3,h4⟩:=h.at_ i b' hi
   exact⟨p',c',by rw[List.getElem?_set_ne e];exact h1,h2,fun g o e=>by simp[h3 g o e],h4⟩⟩
theorem zgT.erase{w:World}{bl:List Nat}{vs:List Value}{D:List (List UInt8)}{k:Nat}(h:zgT w bl vs D):zgT w bl (vs.eraseIdx k) (D.eraseIdx k):=
 ⟨by rw[List.length_eraseIdx,List.length_eraseIdx,h.len],fun i b' hi=>by
  rw[List.getElem?_eraseIdx]at hi ⊢
  split at hi
  ·rename_i e;rw[if_pos e];exact h.at_ i b' hi
  ·rename_i e;rw[if_neg e];exact h.at_ (i+1) b' hi⟩
theorem zqZ(A:List (Nat × Nat))(m s:Nat):plv (A++[(m,s)])=plv A++[.int .i64 (m:Int), .int .i64 (s:Int)]:=by unfold plv;rw[List.flatMap_append];rfl
theorem zpK{m s:Nat}:∀ {A:List (Nat × Nat)} {K:Nat},K<A.length→splice (plv A) (K*2) [.int .i64 (m:Int), .int .i64 (s:Int)]=plv (A.set K (m,s))
 |x::A,0,_=>by
  simp only[splice,plv,List.flatMap_cons,List.set_cons_zero]
  rfl
 |x::A,K+1,h=>by
  have ih:=zpK (A:=A) (K:=K) (m:=m) (s:=s) aX
  have e:∀ A:List (Nat × Nat),plv (x::A)= .int .i64 (x.1:Int):: .int .i64 (x.2:Int)::plv A:=fun A=>rfl
  rw[List.set_cons_succ,e,e,←ih,show(K+1)*2=K*2+2 by omega]
  simp[splice,Nat.add_right_comm]
theorem zaS.tl{w:World}{p:Option Addr}{N sz n cap:Nat}{cs:List Value}(h:zaS w p N sz cs)(hn:n≤N)(hc:N≤cap):zaS w (if cap=n then p else p.map (·.add (n*sz))) (N - n) sz (cs.drop (n*sz)):=by
 have hl:=h.len
 refine⟨by rw[List.length_drop,hl,Nat.sub_mul],Nat.le_trans (Nat.sub_le _ _) h.max,fun h0=>?_⟩
 have h1:N - n≠0:=fun e=>by rw[e,Nat.zero_mul]at h0;omega
 obtain⟨g,o,rfl,hg⟩:=h.some (Nat.lt_of_lt_of_le h0 (Nat.mul_le_mul_right _ (Nat.sub_le _ _)))
 have hs:=h.sub n (N - n) ae
 rw[if_neg ae,Option.map_some,Addr.add_lit]
 rw[List.take_of_length_le (by rw[List.length_drop,hl,Nat.sub_mul];exact Nat.le_refl _)]at hs
 exact hs.at_ h0
theorem ziR {P:Program} {ρ:Env} {w:World} {d:Option Nat} {ty:TypeId} {pos:String} {af:Array Edge} {gd:Option (Nat × Bool)} {t e sz:Nat} {x lo:Operand} {p:Option Addr} {len cap:Nat} (l:Nat) (q:Option Addr) (ht:zdT P t e sz=true) (hx:ev ρ x= .slice p len cap)
  (hl:∃ k a,ev ρ lo= .int k a∧a=(l:Int)) (hq:(if cap=l then p else p.map (·.add (l*sz)))=q) (h1:l≤len) (h2:len≤cap):
  (execOp (ev ρ) ⟨d, .slice t x (some lo) none none,ty,pos,af,gd⟩).run P w= .ok (.value (.slice q (len - l) (cap - l))) w:=by
 rw[←hq]
 exact zc8 l len cap ht hx hl rfl rfl ay h1 h2 (Nat.le_refl _)
theorem zpL{g o n sz cap:Nat}:∃ o',(if cap=n then(some ⟨g,o,none⟩:Option Addr)else(some ⟨g,o,none⟩:Option Addr).map (·.add (n*sz)))=some ⟨g,o',none⟩:=by
 split
 ·exact⟨_,rfl⟩
 ·exact⟨_,by rw[Option.map_some,Addr.add_lit]⟩
theorem zpM(A:List (Nat × Nat)):∀ v∈plv A,v.oneCell'=true:=fun v hv=>by
 obtain⟨x,_,hx⟩:=List.mem_flatMap.1 hv
 simp only[List.mem_cons,List.not_mem_nil,or_false]at hx
 rcases hx with rfl|rfl<;>rfl
theorem zk5:∀ {A:List (Nat × Nat)} {K:Nat},(plv A).take (K*2)++(plv A).drop ((K+1)*2)=plv (A.eraseIdx K)
 |[],K=>by simp[plv]
 |x::A,0=>rfl
 |x::A,K+1=>by
  have e:∀ A:List (Nat × Nat),plv (x::A)= .int .i64 (x.1:Int):: .int .i64 (x.2:Int)::plv A:=fun A=>rfl
  rw[List.eraseIdx_cons_succ,e,e,←zk5 (A:=A) (K:=K),show(K+1+1)*2=(K+1)*2+1+1 by omega,show(K+1)*2=K*2+1+1 by omega]
  rfl
section
variable {Y:World→List Nat→Prop}[hYT:Thing Y]{q N lo:Nat}{L:List Nat}{V:Nat→Pg}{k:Nat}{H:HS}{fl rl:List Nat}{R:Nat→Nat→Prop}{P:Nat→Nat→List Nat}{B:Nat→Nat→List UInt8}{m s:Nat}{w:World}
theorem layQ (hb : Nat) (p : Option Addr) (cap : Nat) (b : List UInt8) (h : Two (GZ q N (pgH H) V k) Y lo L w) (hI : HI N H fl rl R P B []) (hF : Full H rl R) (hr : row w hb [.pointer (some ⟨q, 0, none⟩)] 50) (hbL : hb < lo ∨ hb ∈ L) (hs : zaS w p b.length 1 (bv b)) (hcap : b.length ≤ cap) (hpL : ∀ c o, p = some ⟨c, o, none⟩ → c < lo ∨ c ∈ L) :
  Calls Tryz.prog 11 [.pointer (some ⟨hb, 0, none⟩), .slice p b.length cap].toArray w (Ret fun v w' => ∃ x y e : Int, v = .tuple #[.agg #[.int .i64 x, .int .i64 y], .int .i64 e] ∧ ((e ≠ 0 ∧ Two (GZ q N (pgH H) V k) Y lo L w') ∨ (e = 0 ∧ ∃ (m s : Nat) (H' : HS), x = (m : Int) ∧ y = (s : Int) ∧ b.length ≤ 20000 ∧ zgk N b H rl = some (m, s, H') ∧ Two (GZ q N (pgH H') V k) Y lo L w')) ∧ LoL lo L w w') :=
 (layM hb p cap b h hI hF hr hbL hs hcap hpL).to fun v w' ⟨h1, h2⟩ => by
  rcases h1 with ⟨_, h3, h4⟩ | ⟨_, _, h3, h4⟩ | ⟨h5, m, s, H', h6, h3, h4⟩
  ·exact ⟨_, _, _, h3, .inl ⟨by decide, h4⟩, h2⟩
  ·exact ⟨_, _, _, h3, .inl ⟨by decide, h4⟩, h2⟩
  ·exact ⟨_, _, _, h3, .inr ⟨rfl, m, s, H', rfl, rfl, h5, h6, h4⟩, h2⟩
theorem putQ (hb : Nat) (p : Option Addr) (cap : Nat) (b : List UInt8) (h : Two (GZ q N (pgH H) V k) Y lo L w) (hI : HI N H fl rl R P B []) (hF : Full H rl R) (hR : R m s) (hr : row w hb [.pointer (some ⟨q, 0, none⟩)] 50) (hbL : hb < lo ∨ hb ∈ L) (hs : zaS w p b.length 1 (bv b)) (hcap : b.length ≤ cap) (hpL : ∀ c o, p = some ⟨c, o, none⟩ → c < lo ∨ c ∈ L) :
  Calls Tryz.prog 12 [.pointer (some ⟨hb, 0, none⟩), .agg #[.int .i64 (m : Int), .int .i64 (s : Int)], .slice p b.length cap].toArray w (Ret fun v w' => ∃ x y e : Int, v = .tuple #[.agg #[.int .i64 x, .int .i64 y], .int .i64 e] ∧ ((e ≠ 0 ∧ Two (GZ q N (pgH H) V k) Y lo L w') ∨ (e = 0 ∧ ∃ (m' s' : Nat) (H' : HS), x = (m' : Int) ∧ y = (s' : Int) ∧ b.length ≤ 20000 ∧ zjJ N b H rl (P m s) m s = some (m', s', H') ∧ Two (GZ q N (pgH H') V k) Y lo L w')) ∧ LoL lo L w w') :=
 (putM hb p cap b h hI hF hR hr hbL hs hcap hpL).to fun v w' ⟨h1, h2⟩ => by
  rcases h1 with ⟨_, h3, h4⟩ | ⟨_, _, h3, h4⟩ | ⟨h5, m, s, H', h6, h3, h4⟩
  ·exact ⟨_, _, _, h3, .inl ⟨by decide, h4⟩, h2⟩
  ·exact ⟨_, _, _, h3, .inl ⟨by decide, h4⟩, h2⟩
  ·exact ⟨_, _, _, h3, .inr ⟨rfl, m, s, H', rfl, rfl, h5, h6, h4⟩, h2⟩
theorem giveQ (hb : Nat) (h : Two (GZ q N (pgH H) V k) Y lo L w) (hH : HOk N H fl) (hr : row w hb [.pointer (some ⟨q, 0, none⟩)] 50) (hbL : hb < lo ∨ hb ∈ L) :
  Calls Tryz.prog 14 [.pointer (some ⟨hb, 0, none⟩)].toArray w (Ret fun v w' => ∃ x e : Int, v = .tuple #[.int .i64 x, .int .i64 e] ∧ ((e ≠ 0 ∧ Two (GZ q N (pgH H) V k) Y lo L w') ∨ (e = 0 ∧ ∃ (n : Nat) (H' : HS) (fl' : List Nat), x = (n : Int) ∧ zfh N H fl 3 n H' fl' ∧ Two (GZ q N (pgH H') V k) Y lo L w')) ∧ LoL lo L w w') :=
 (giveM hb h hH hr hbL).to fun v w' ⟨h1, h2⟩ => by
  rcases h1 with ⟨n, H', fl', h3, h4, h5, h6⟩ | ⟨h3, h4, h5⟩
  ·exact ⟨_, _, h5, .inr ⟨rfl, n, H', fl', rfl, h4, h6⟩, h2⟩
  ·exact ⟨_, _, h4, .inl ⟨by decide, h5⟩, h2⟩
theorem backQ(hb n:Nat)(h:Two (GZ q N (pgH H) V k) Y lo L w)(hH:HOk N H fl)(h1:1≤n)(h2:n<H.F.fresh)(hk:(H.S n).kind=3)(hr:row w hb [.pointer (some ⟨q,0,none⟩)] 50)(hbL:hb<lo∨hb∈L):
  Calls Tryz.prog 16 [.pointer (some ⟨hb,0,none⟩), .int .i64 (n:Int)].toArray w (Ret fun v w'=>v= .int .i64 0∧Two (GZ q N (pgH (zcE H n)) V k) Y lo L w'∧LoL lo L w w'):=by
 have e:zfI H (n:Int)=0:=by
  unfold zfI
  rw[if_neg ae,Int.toNat_natCast,if_neg ae]
 refine(backM hb (n:Int) h hH hr hbL).to fun v w' ⟨h3,h4,h5⟩=>?_
 rw[e]at h3 h4
 rw[Int.toNat_natCast]at h4
 exact⟨h3,(h4.resolve_right fun h=>h.1 rfl).2,h5⟩
end
def StA(N q hb lo:Nat)(v9 v10 v11:Value)(A:List (Nat × Nat))(Gv:List Nat)(w:World):Prop:=
 ∃ H fl rl R P B vs bl,HM N H fl rl R P B A Gv∧Two (GZ q N (pgH H) (fun _=>zb8) 2) (ziP None (zfk v9 v10 v11 bl) (zgh lo v9 v10 v11 bl vs A (HM.dat A B) Gv)) lo [hb] w∧row w hb [.pointer (some ⟨q,0,none⟩)] 50
set_option maxRecDepth 20000 in
set_option maxHeartbeats 4000000 in
theorem znH(many:Int)(p:Option Addr)(n cp:Nat)(R:List HAct)(w:World)(h:zeJ (HaQ w) w 4 p n R):
   Calls Tryz.prog 3 [.int .i64 many, .slice p n cp].toArray w (Ret fun v w'=>v= .bool true∧Below w.heap.size w w'):=by
 have hLL:=LoL.refl w.heap.size [] w
 have hml:maxLen=9223372036854775807:=by decide
 have hfew:=few6 p n cp 50 R w h ae
 have hRl:=h.1
 have hN0:Two None None w.heap.size [] w:=⟨⟨[],[],rfl,rfl,(fun b hb=>nomatch hb),fun b hb=>nomatch hb⟩,Nat.le_refl _,fun b hb=>nomatch hb⟩
 refine Calls.to (R:=fun v w'=>v= .bool true∧LoL w.heap.size [] w w') ?_ (fun v w' hh=>⟨hh.1,zov (Below.refl _ _) hh.2 (Nat.le_refl _)⟩)
 refine zax (fn:=Tryz.f3) (rs:=[.tmp 4]) (n:=196) Tryz.func3 rfl rfl Tryz.ntmps3 aa rfl (zah (zaa (zad (zac) (zae (zaf (zah (zah (zaa (zad (zab) (zad (zaY rfl rfl) (zad (zab) (zbI 25 rfl (fun h4=>?_) (fun h4=>?_)))))))))))))
 ·
  refine zaM rfl rfl (zaM rfl rfl (zad (zaC rfl) (zad (zab) (zaM rfl rfl (zaM rfl rfl (zaM rfl rfl (zad (zaC rfl) (zae (zaf (zjU rfl (rfl) (zah (zaa (zao rfl (zaj aa rfl) (zmN w) ?_)))))))))))))
  rintro _ w34 ⟨rfl,hb34⟩
  replace hLL:=hLL.new hb34
  refine dQ ?_
  exact⟨rfl,hLL⟩
 ·
  refine zaq rfl (zad (zab) (zaq rfl (zad (zbA rfl rfl) (zad (zaE rfl) (zad (zab) (zbI 29 rfl (fun h60=>?_) (fun h60=>?_)))))))
  ·
   refine zaM rfl rfl (zaM rfl rfl (zaM rfl rfl (zad (zaC rfl) (zae (zaf (zjU rfl (rfl) (zah (zaa (zao rfl (zaj aa rfl) (zmN w) ?_)))))))))
   rintro _ w34 ⟨rfl,hb34⟩
   replace hLL:=hLL.new hb34
   refine dQ ?_
   exact⟨rfl,hLL⟩
  ·
   refine zaq rfl (zad (zab) (zaq rfl (zao rfl (zaj aa rfl) (hfew) ?_)))
   rintro _ _ ⟨Bf,rfl,hBf,rfl⟩
   refine zaq rfl (zad (zbK rfl) (zad (zaE rfl) (zae (zaf (zl0 rfl (fun hF=>?_) (fun hF=>?_))))))
   ·
    refine zah (zaa (zao rfl (zaj aa rfl) (zmN w) ?_))
    rintro _ w34 ⟨rfl,hb34⟩
    replace hLL:=hLL.new hb34
    refine dQ ?_
    exact⟨rfl,hLL⟩
   ·
    have hF2:fewA R 50:=hBf (by simpa using hF)
    have hn50:n≤50:=by have:=hF2.1;omega
    have hobN:∃ N:Nat,many=N:=⟨many.toNat,ae⟩
    obtain⟨N,e1⟩:=hobN
    subst e1
    have hbg:=begun8 hN0 N ae ae
    have hrm0:=fun q hb L' w' (h:Two (GZ q N (pgH H0) (fun _=>zb8) 2) None w.heap.size L' w') hr hbL=>zpt hb h (zqW ae) hr hbL
    rw[show zhW N H0=N - 1 from rfl]at hrm0
    have hin:∀ q hb W,Two (GZ q N (pgH H0) (fun _=>zb8) 2) None w.heap.size [hb] W→row W hb [.pointer (some ⟨q,0,none⟩)] 50→StA N q hb w.heap.size (.slice none 0 0) (.slice none 0 0) (.slice none 0 0) [] [] W:=fun q hb W hT hr=>
      ⟨H0,[],[],_,_,_,[],[],HM.begin_ ae,zeP (bl:=zfk (.slice none 0 0) (.slice none 0 0) (.slice none 0 0) []) hT ⟨zbp _ _ _ _,zbp _ _ _ _,zbp _ _ _ _,zgT.nil _ _,(fun b hb=>by cases hb),(fun b hb=>by cases hb),(fun b hb=>by cases hb)⟩ (fun b hb=>by cases hb),hr⟩
    have hkn:=fun w'=>zmN w'
    generalize pgH H0=P0 at*
    refine zat (zaf (zah (zaa (zad (zab) (zao rfl (zaj aa rfl) (hbg) ?_)))))
    rintro _ w37 ⟨q,hb,rfl,hT,hrb,hsb,hb37⟩
    replace hLL:=hLL.lq hb37
    refine zad (zab) (zad (zai rfl rfl) (zad (zai rfl rfl) (zad (zai rfl rfl) (zad (zac) (zad (zac) (zad (zac) (zae (zaf (zah (zah (zaa (zad (zab) (zad (zbK rfl) (zae (zaf (zgl rfl (ay) (zat (zaf (zah (zaa (zad (zab) (zao rfl (zaj aa rfl) (hrm0 q hb _ w37 hT hrb (.inr ay)) ?_))))))))))))))))))))))
    rintro _ w44 ⟨rfl,hT,hb44⟩
    replace hLL:=hLL.lq hb44
    replace hrb:=hrb.kpd hb44.kp ag
    refine zad (zac) (zae (zaf (zah (zaa (zad (zac) (zae (zaf (zah (zaa (zad (zac) (zae (zaf (zah (zaa (zad (zac) (zae (zaf (zah (zah (zaa (zad (zac) (zae (zaf (zav ?_))))))))))))))))))))))))
    refine zbq (α:=Nat × Value × Value × Value) (0, .slice none 0 0, .slice none 0 0, .slice none 0 0) (fun k=>[(1, .slice p n cp),(6, .pointer (some ⟨hb,0,none⟩)),(8, .int .i64 ((N - 1:Nat):Int)),(9,k.2.1),(10,k.2.2.1),(11,k.2.2.2),(12, .int .i64 (k.1:Int))])
      (fun k w'=>k.1≤n∧(∃ A Gv,A.length≤k.1∧StA N q hb w.heap.size k.2.1 k.2.2.1 k.2.2.2 A Gv w')∧LoL w.heap.size [] w w') (fun k=>n - k.1) ⟨rfl,rfl,rfl,rfl,rfl,rfl,rfl,rfl⟩ ⟨Nat.zero_le _,⟨[],[],Nat.le_refl _,hin q hb _ hT hrb⟩,hLL⟩ ?_
    clear hT hrb hLL
    rintro⟨i,v9,v10,v11⟩ f wr ⟨hi,⟨A,Gv,hAi,H,fl,rl,R',P,B,vs,bl,hM,hT,hrb⟩,hl⟩
    dsimp only at hi hAi hT ⊢
    have hDl:(HM.dat A B).length=A.length:=List.length_map ..
    have hm:=(zbr hT).2.1
    have ho10:=hm.o10
    rw[hDl]at ho10
    have hobt:=ho10.form
    obtain⟨p10,c10,rfl⟩:=hobt
    have hobt:=hm.o9.form
    obtain⟨p9,c9,rfl⟩:=hobt
    have hobt:=hm.o11.form
    obtain⟨p11,c11,rfl⟩:=hobt
    clear ho10 hm
    refine zah (zah (zaa (zad (zab) (zad (zab) (zad (zaB (e:=36) (sz:=4) aa rfl rfl) (zad (zaY rfl rfl) (zae (zaf (za0 rfl (fun hlt=>?_) (fun hlt=>?_))))))))))
    ·
     refine bL ?_
     have hwr:=hl.size
     have hhb:=hrb.lt
     have hxo:=h.get (i:=i) ae
     obtain⟨a,hx⟩:=hxo
     have hobt:=h.some ae
     obtain⟨gp,op,rfl,_⟩:=hobt
     have hBw:Below w.heap.size w wr:=zov (Below.refl _ _) hl (Nat.le_refl _)
     have hobt:=h.ldB (P:=Tryz.prog) (t:=36) aa aa hx
     obtain⟨cs,⟨q9,cq,rfl,hq9,hk9,hi9,hs9⟩,hcl,hldB⟩:=hobt
     have hfa:=hF2.2 a (List.mem_of_getElem? hx)
     have hrec:=zqX a q9 cq wr (hq9.below hBw (Nat.le_refl _)) hfa.2 hs9 hfa.1
     refine zaa (zad (zab) (zad (zab) (zad (zbe (e:=36) (sz:=4) aa rfl rfl (i) ae ae) (zad (zaG rfl ((hldB _ hBw).1)) (zao rfl (zaj aa rfl) (hrec) ?_)))))
     rintro _ w55 ⟨b,pb,cb,rfl,hob,hbl,hb55⟩
     have hTo:=hT.zk8 hb55 (M:=(Value.slice pb b.length cb).ownBlock.toList) fun x hx=>hob.lt x (Option.mem_toList.1 hx)
     replace hl:=hl.new hb55
     replace hrb:=hrb.new hb55
     have hob0:∀ x∈(Value.slice pb b.length cb).ownBlock.toList,wr.heap.size≤x:=fun x hx=>(hob.lt x (Option.mem_toList.1 hx)).1
     have hobt:∃ ob,(Value.slice pb b.length cb).ownBlock.toList=ob:=⟨_,rfl⟩
     obtain⟨ob,hobe⟩:=hobt
     rw[hobe]at hTo hob0
     have hbcap:=zgu hob
     have hsb:=hob.sl
     have hpb:∀ g o,pb=some ⟨g,o,none⟩→g∈ob:=fun g o e=>by rw[←hobe,e];simp[Value.ownBlock]
     have hobL:∀ x∈ob,w.heap.size≤x∧x∉[hb]:=fun x hx=>⟨by have:=hob0 x hx;omega,fun hm=>by have:=hob0 x hx;rw[List.mem_singleton.1 hm]at this;omega⟩
     refine zad (zac) (zae (zaf (zah (zaa (zad (zac) (zae (zaf (zgQ (fun kk:Int=>[(1, .slice (some ⟨gp,op,none⟩) n cp),(6, .pointer (some ⟨hb,0,none⟩)),(8, .int .i64 ((N - 1:Nat):Int)),(9, .slice p9 A.length c9),(10, .slice p10 A.length c10),(11, .slice p11 Gv.length c11),(12, .int .i64 (i:Int)),(13, .slice pb b.length cb),(14, .int .i64 kk)]) (fun kk w'=>((A.length=0∧kk=-1)∨∃ K:Nat,K<A.length∧kk=(K:Int))∧w55=w') ?_ ?_))))))))
     ·
      refine zah (zaa (zad (zab) (zad (zaB (e:=38) (sz:=2) aa rfl rfl) (zad (zbA rfl rfl) (zae (zaf (za0 rfl (fun hA0=>?_) (fun hA0=>?_))))))))
      ·
       have hBx:Below w.heap.size w w55:=zov (Below.refl _ _) hl (Nat.le_refl _)
       refine zaa (zad (zab) (zad (zab) (zad (zbe (e:=36) (sz:=4) aa rfl rfl (i) ae ae) (zad (zaw 1) (zad (zaG rfl (Ld.one aa ((hldB _ hBx).2 1 _ rfl))) (zad (zfq rfl rfl) (zad (zab) (zad (zaB (e:=38) (sz:=2) aa rfl rfl) (zad (znV rfl rfl ae ae) (zad (zac) (zae ?_)))))))))))
       have hm1:=Int.emod_nonneg (max a.i 0) (show(A.length:Int)≠0 by omega)
       have hm2:=Int.emod_lt_of_pos (max a.i 0) (show(0:Int)<(A.length:Int) by omega)
       refine za2 ⟨_,⟨rfl,rfl,rfl,rfl,rfl,rfl,rfl,rfl,rfl,rfl⟩, .inr ⟨((max a.i 0) % (A.length:Int)).toNat,ae,ae⟩,rfl⟩
      ·
       refine zat (za2 ⟨_,⟨rfl,rfl,rfl,rfl,rfl,rfl,rfl,rfl,rfl,rfl⟩, .inl ⟨ae,rfl⟩,rfl⟩)
     ·
      rintro kk f2 wz ⟨hkk,rfl⟩
      have hBx:Below w.heap.size w w55:=zov (Below.refl _ _) hl (Nat.le_refl _)
      refine zgQ (fun y:Value × Value × Value=>[(1, .slice (some ⟨gp,op,none⟩) n cp),(6, .pointer (some ⟨hb,0,none⟩)),(8, .int .i64 ((N - 1:Nat):Int)),(9,y.1),(10,y.2.1),(11,y.2.2),(12, .int .i64 (i:Int))]) (fun y w'=>(∃ A' Gv',A'.length≤i+1∧StA N q hb w.heap.size y.1 y.2.1 y.2.2 A' Gv' w')∧LoL w.heap.size [] w w') ?_ ?_
      ·
       refine zah (zaa (zad (zab) (zad (zab) (zad (zbe (e:=36) (sz:=4) aa rfl rfl (i) ae ae) (zad (zaw 0) (zad (zaG rfl (Ld.one aa ((hldB _ hBx).2 0 _ rfl))) (zae (zaf (zav (zah (zaa (zad (za5 rfl rfl) (zad (zac) (zae (zaf (za0 rfl (fun hk1=>?_) (fun hk1=>?_)))))))))))))))))
       ·
        refine zah ?_
        have hlay:=layQ hb pb cb b hTo hM.hi hM.full hrb (.inr ay) hsb hbcap (fun c o e=>.inr (by simp[hpb c o e]))
        have hoblt:∀ x∈ob,x<(w55).heap.size:=fun x hx=>hTo.lt x (List.mem_append_left _ hx)
        refine zaa (zad (zab) (zad (zab) (zao rfl (zaj aa rfl) (hlay) ?_)))
        rintro _ w78 ⟨x,y,e,rfl,hcase,hb78⟩
        replace hsb:=hsb.kpd hb78.kp fun g o e9=>zam (.inr (by simp[hpb g o e9]))
        replace hl:=hl.ll hb78 aA
        replace hrb:=hrb.kpd hb78.kp ag
        refine bS ?_
        have hsz78:=hb78.size
        refine zaD rfl (zar ([Value.int .i64 0,Value.int .i64 0]) aa (fun g15 w15 hg15 hr15 hb15=>?_))
        have lt_hb_g15:hb<g15:=Nat.lt_of_lt_of_le hrb.lt hg15
        replace hl:=hl.new hb15
        replace hrb:=hrb.new hb15
        have l15:=hr15.lt
        refine zaK rfl (zaQ 2 ([.int .i64 x, .int .i64 y]) hr15 (fun w901 hr15 ho901=>?_))
        replace hl:=hl.only ho901 ax
        replace hrb:=hrb.only ho901 (Nat.ne_of_lt lt_hb_g15)
        have hoE:=ho901
        replace hsb:=(hsb.new hb15).kpd (Kp.zaZ hoE) fun g o e9 hm=>by have:=List.mem_singleton.1 hm;have:=hoblt g (hpb g o e9);omega
        refine zad (zac) (zae (zaf (zah (zaa (zad (zab) (zad (za5 rfl rfl) (zae (zaf (za0 rfl (fun he=>?_) (fun he=>?_))))))))))
        ·
         have hobt:=hcase.resolve_left fun h9=>h9.1 he
         obtain⟨_,m,s,H',rfl,rfl,hb20,hlo,hT⟩:=hobt
         have hTn:=(hT.newc hb15 hg15 l15).only hoE (.inr ay)
         have hobt:=hM.lay ae hb20 hlo
         obtain⟨fl',rl',R2,P2,B2,hM2,hda⟩:=hobt
         have hm9:=(zbr hTn).2.1
         have ho9:=hm9.o9
         have ho10:=hm9.o10
         have hbs10:=hm9.bs
         have hdis:=(zbr hTn).2.2
         refine zaa (zad (zab) (zad (za7 2 hr15) (zaD rfl (zdd (e:=38) (.agg #[.int .i64 (m:Int), .int .i64 (s:Int)]) ([.int .i64 (m:Int), .int .i64 (s:Int)]) ([Value.int .i64 0,Value.int .i64 0]) 2 aa aa rfl rfl aF ⟨aD,aD⟩ (fun g85 w85 hg85 hr85 hb85=>?_)))))
         replace hl:=hl.new hb85
         replace hrb:=hrb.new hb85
         replace ho9:=ho9.new hb85
         have hs85:=hr85.slA (m:=1) (sz:=2) rfl aC
         have hTn:=hTn.new hb85
         have hrbo:=hrb
         have hsbo:=hsb.new hb85
         have hlo86:=hTn.lo
         refine zaD rfl (zbf (e:=38) (sz:=2) (bytes:=16) (z:=.agg ([Value.int .i64 0,Value.int .i64 0]).toArray) aa rfl aa rfl aD rfl ho9 rfl hs85 aL aC ae (fun hm0=>ae) (fun v86 w86 hv86 hgr86 hfr86=>?_))
         replace hl:=hl.own ho9 hgr86 ae
         have hkp86:=Kp.za6 hgr86
         have hT3:=zgh.put9 (A':=A++[(m,s)]) hTn hkp86 (fun b hb=>hb) (by rw[List.length_append,zqZ];exact hv86) (Nat.le_refl _) (fun b hb=>(hfr86 b (Option.mem_toList.1 hb)).imp (fun h=>Option.mem_toList.2 h) id)
         have hsb3:=hsbo.kpd hkp86 fun g o e hm=>(hdis g (zaJ.2 (.inl hm))).2 (by simp[hpb g o e])
         have hrb3:=hrbo.kpd hkp86 fun hm=>(hdis hb (zaJ.2 (.inl hm))).2 ay
         refine zad (zab) (zad (zab) (zaD rfl (zdd (e:=33) (.slice pb b.length cb) ([.slice pb b.length cb]) ([Value.slice none 0 0]) 1 aa aa rfl rfl aF ⟨aD,aD⟩ (fun g89 w89 hg89 hr89 hb89=>?_))))
         replace hl:=hl.new hb89
         have hs89:=hr89.slA (m:=1) (sz:=1) rfl aC
         have hT4:=(hT3.new hb89).weak (L2:=ob++[hb]) fun x hx=>List.mem_cons_of_mem _ hx
         have hm10:=(zbr hT4).2.1
         have hdis4:=(zbr hT4).2.2
         have ho10:=hm10.o10
         rw[hDl]at ho10
         have hlo90:=hT4.lo
         refine zaD rfl (zbf (e:=33) (sz:=1) (bytes:=24) (z:=Value.slice none 0 0) aa rfl aa rfl aD rfl ho10 rfl hs89 aL aC ae (fun hm0=>ae) (fun v90 w90 hv90 hgr90 hfr90=>?_))
         replace hl:=hl.own ho10 hgr90 ae
         refine zad (zac) (zad (zac) (zae (zaP ?_)))
         have hkp90:=Kp.za6 hgr90
         have hT5:=zgh.put10 (D':=HM.dat A B++[b]) hT4 hobL hkp90 (fun b hb=>hb) (by rw[List.length_append,hDl];exact hv90) (Nat.le_refl _) (fun b hb=>(hfr90 b (Option.mem_toList.1 hb)).imp (fun h=>Option.mem_toList.2 h) id) ((hm10.bs.kpd hkp90 fun x hx hm=>(hm10.n2 x hm).2 hx).snoc ((hsb3.new hb89).kpd hkp90 fun g o e hm=>(hdis4 g (zaJ.2 (.inr (.inl hm)))).2 (by simp[hpb g o e])) hpb hbcap hbl)
         have hrb5:=(hrb3.new hb89).kpd hkp90 fun hm=>(hdis4 hb (zaJ.2 (.inr (.inl hm)))).2 ay
         rw[←hda]at hT5
         refine za2 ⟨(v86,v90, .slice p11 Gv.length c11),⟨rfl,rfl,rfl,rfl,rfl,rfl,rfl,rfl⟩,⟨A++[(m,s)],Gv,by rw[List.length_append];show A.length+1≤i+1;omega,H',fl',rl',R2,P2,B2,_,ob++bl,hM2,hT5,hrb5⟩,hl⟩
        ·
         have hobt:=hcase.resolve_right fun h9=>he h9.1
         have hTn:=((hobt.2.newc hb15 hg15 l15).only hoE (.inr ay)).weak (L2:=[hb]) fun x hx=>by simp at hx;simp[hx]
         refine zat (zaP (za2 ⟨(.slice p9 A.length c9, .slice p10 A.length c10, .slice p11 Gv.length c11),⟨rfl,rfl,rfl,rfl,rfl,rfl,rfl,rfl⟩,⟨A,Gv,ae,H,fl,rl,R',P,B,vs,bl,hM,hTn,hrb⟩,hl⟩))
       ·
        refine zah (zaa (zad (za5 rfl rfl) (zad (zac) (zae (zaf (za0 rfl (fun hk2=>?_) (fun hk2=>?_)))))))
        ·
         refine zah (zaa (zad (zab) (zad (zcH rfl rfl) (zae (zaf (za0 rfl (fun hk0=>?_) (fun hk0=>?_)))))))
         ·
          refine zah ?_
          have hobt:=hkk.resolve_left fun h9=>by omega
          obtain⟨K,hKA,rfl⟩:=hobt
          have hm9:=(zbr hTo).2.1
          have ho9s:=hm9.o9.sl
          have hobt:=ho9s.some ae
          obtain⟨g9,o9,rfl,_⟩:=hobt
          have hxo:∃ x,A[K]?=some x:=⟨_,List.getElem?_eq_getElem hKA⟩
          obtain⟨⟨m0,s0⟩,hxA⟩:=hxo
          have hput:=putQ hb pb cb b hTo hM.hi hM.full (hM.at_ hxA) hrb (.inr ay) hsb hbcap (fun c o e=>.inr (by simp[hpb c o e]))
          have hoblt:∀ x∈ob,x<(w55).heap.size:=fun x hx=>hTo.lt x (List.mem_append_left _ hx)
          refine zaa (zad (zab) (zad (zab) (zad (zab) (zad (zbe (e:=38) (sz:=2) aa rfl rfl (K) ae ae) (zad (zaG rfl (ldPl ho9s hxA)) (zad (zab) (zao rfl (zaj aa rfl) (hput) ?_)))))))
          rintro _ w102 ⟨x,y,e,rfl,hcase,hb102⟩
          replace hsb:=hsb.kpd hb102.kp fun g o e9=>zam (.inr (by simp[hpb g o e9]))
          replace hl:=hl.ll hb102 aA
          replace hrb:=hrb.kpd hb102.kp ag
          refine bS ?_
          have hsz78:=hb102.size
          refine zaD rfl (zar ([Value.int .i64 0,Value.int .i64 0]) aa (fun g17 w17 hg17 hr17 hb17=>?_))
          have lt_hb_g17:hb<g17:=Nat.lt_of_lt_of_le hrb.lt hg17
          replace hl:=hl.new hb17
          replace hrb:=hrb.new hb17
          have l15:=hr17.lt
          refine zaK rfl (zaQ 2 ([.int .i64 x, .int .i64 y]) hr17 (fun w902 hr17 ho902=>?_))
          replace hl:=hl.only ho902 ax
          replace hrb:=hrb.only ho902 (Nat.ne_of_lt lt_hb_g17)
          have hoE:=ho902
          replace hsb:=(hsb.new hb17).kpd (Kp.zaZ hoE) fun g o e9 hm=>by have:=List.mem_singleton.1 hm;have:=hoblt g (hpb g o e9);omega
          refine zad (zac) (zae (zaf (zah (zaa (zad (zab) (zad (za5 rfl rfl) (zae (zaf (za0 rfl (fun he=>?_) (fun he=>?_))))))))))
          ·
           have hobt:=hcase.resolve_left fun h9=>h9.1 he
           obtain⟨_,m,s,H',rfl,rfl,hb20,hlo,hT⟩:=hobt
           have hTn:=(hT.newc hb17 hg17 l15).only hoE (.inr ay)
           have hobt:=hM.put ae hxA hb20 hlo
           obtain⟨fl',rl',R2,P2,B2,hM2,hda⟩:=hobt
           have hm9:=(zbr hTn).2.1
           have hdis:=(zbr hTn).2.2
           have ho9:zeg w902 w.heap.size 38 2 g9 o9 A.length c9 (plv A):=hm9.o9
           have ho10q:=hm9.o10
           rw[hDl]at ho10q
           have ho10s:=ho10q.sl
           have hobt:=ho10s.some ae
           obtain⟨g10,o10,rfl,_⟩:=hobt
           have hvl:=hm9.bs.len
           rw[hDl]at hvl
           have hpl9:=zlU A
           have hob9:∀ x∈ob,x≠g9:=fun x hx e=>(hdis g9 (zaJ.2 (.inl aJ))).2 (by subst e;simp[hx])
           have hob10:∀ x∈ob,x≠g10:=fun x hx e=>(hdis g10 (zaJ.2 (.inr (.inl aJ)))).2 (by subst e;simp[hx])
           have hhb9:hb≠g9:=fun e=>(hdis g9 (zaJ.2 (.inl aJ))).2 aV
           have hhb10:hb≠g10:=fun e=>(hdis g10 (zaJ.2 (.inr (.inl aJ)))).2 aV
           have hg17n:g17≠g9:=fun e=>(hdis g9 (zaJ.2 (.inl aJ))).2 aV
           have hg17m:g17≠g10:=fun e=>(hdis g10 (zaJ.2 (.inr (.inl aJ)))).2 aV
           have hl9:w.heap.size≤g9:=(hdis g9 (zaJ.2 (.inl aJ))).1
           have hl10:w.heap.size≤g10:=(hdis g10 (zaJ.2 (.inr (.inl aJ)))).1
           refine zaa (zad (zab) (zad (zab) (zad (zab) (zad (zab) (zad (za7 2 hr17) (zad (zab) (zad (zbe (e:=38) (sz:=2) aa rfl rfl (K) ae ae) (zaK rfl (zd0 ([.int .i64 (m:Int), .int .i64 (s:Int)]) (K*2) ho9 rfl rfl aa aN aL (fun w903 ho9 ho903=>?_))))))))))
           replace hl:=hl.only ho903 ax
           replace hrb:=hrb.only ho903 ae
           have hoE1:=ho903
           replace hsb:=hsb.kpd (Kp.zaZ hoE1) fun g o e hm=>hob9 g (hpb g o e) (List.mem_singleton.1 hm)
           have hT3:=zgh.put9 (A':=A.set K (m,s)) (v':=.slice (some ⟨g9,o9,none⟩) A.length c9) hTn (Kp.zaZ hoE1) (fun x hx=>by rw[List.mem_singleton.1 hx];simp[Value.ownBlock]) (by rw[List.length_set,←zpK hKA];exact ho9) (Nat.le_refl _) (fun x hx=>.inl hx)
           have ho10:zeg w903 w.heap.size 33 1 g10 o10 A.length c10 vs:=by
             have h9:=(zbr hT3).2.1.o10
             rw[hDl]at h9;exact h9
           refine zad (zaN (e:=33) aa rfl rfl (K) ae ae) (zaK rfl (zd0 ([.slice pb b.length cb]) (K) ho10 rfl rfl aa aN aL (fun w904 ho10 ho904=>?_)))
           replace hl:=hl.only ho904 ax
           replace hrb:=hrb.only ho904 ae
           have hoE2:=ho904
           refine zae (zaP ?_)
           rw[Coup.zgm ae]at ho10
           have hm10:=(zbr hT3).2.1
           have hsb5:=hsb.kpd (Kp.zaZ hoE2) fun g o e hm=>hob10 g (hpb g o e) (List.mem_singleton.1 hm)
           have hT5:=zgh.put10 (D':=(HM.dat A B).set K b) (v':=.slice (some ⟨g10,o10,none⟩) A.length c10) (hT3.weak (L2:=ob++[hb]) fun x hx=>List.mem_cons_of_mem _ hx) hobL (Kp.zaZ hoE2) (fun x hx=>by rw[List.mem_singleton.1 hx];simp[Value.ownBlock]) (by rw[List.length_set,hDl];exact ho10) (Nat.le_refl _) (fun x hx=>.inl hx) ((hm10.bs.kpd (Kp.zaZ hoE2) fun x hx hm=>(hm10.n2 g10 aJ).2 (by rw[List.mem_singleton.1 hm]at hx;exact hx)).set (k:=K) hsb5 hpb hbcap hbl)
           rw[←hda]at hT5
           refine za2 ⟨(.slice (some ⟨g9,o9,none⟩) A.length c9, .slice (some ⟨g10,o10,none⟩) A.length c10, .slice p11 Gv.length c11),⟨rfl,rfl,rfl,rfl,rfl,rfl,rfl,rfl⟩,⟨A.set K (m,s),Gv,by rw[List.length_set];omega,H',fl',rl',R2,P2,B2,_,ob++bl,hM2,hT5,hrb⟩,hl⟩
          ·
           have hobt:=hcase.resolve_right fun h9=>he h9.1
           have hTn:=((hobt.2.newc hb17 hg17 l15).only hoE (.inr ay)).weak (L2:=[hb]) fun x hx=>by simp at hx;simp[hx]
           refine zat (zaP (za2 ⟨(.slice (some ⟨g9,o9,none⟩) A.length c9, .slice p10 A.length c10, .slice p11 Gv.length c11),⟨rfl,rfl,rfl,rfl,rfl,rfl,rfl,rfl⟩,⟨A,Gv,ae,H,fl,rl,R',P,B,vs,bl,hM,hTn,hrb⟩,hl⟩))
         ·
          have hTn:=hTo.weak (L2:=[hb]) fun x hx=>List.mem_append_right _ hx
          refine zat (zaP (za2 ⟨(.slice p9 A.length c9, .slice p10 A.length c10, .slice p11 Gv.length c11),⟨rfl,rfl,rfl,rfl,rfl,rfl,rfl,rfl⟩,⟨A,Gv,ae,H,fl,rl,R',P,B,vs,bl,hM,hTn,hrb⟩,hl⟩))
        ·
         refine zah (zaa (zad (za5 rfl rfl) (zad (zac) (zae (zaf (za0 rfl (fun hk3=>?_) (fun hk3=>?_)))))))
         ·
          refine zah (zaa (zad (zab) (zad (zcH rfl rfl) (zae (zaf (za0 rfl (fun hk0=>?_) (fun hk0=>?_)))))))
          ·
           refine zah (zah ?_)
           have hobt:=hkk.resolve_left fun h9=>by omega
           obtain⟨K,hKA,rfl⟩:=hobt
           have hm9:=(zbr hTo).2.1
           have ho9s:=hm9.o9.sl
           have hobt:=ho9s.some ae
           obtain⟨g9,o9,rfl,_⟩:=hobt
           have hxo:∃ x,A[K]?=some x:=⟨_,List.getElem?_eq_getElem hKA⟩
           obtain⟨⟨m0,s0⟩,hxA⟩:=hxo
           have htake:=takeM (lo:=w.heap.size) (L:=[hb]) hb m0 s0 (hTo.weak fun x hx=>List.mem_append_right _ hx) hM.hi hM.full (hM.at_ hxA) hrb (.inr ay)
           refine zaa (zad (zab) (zad (zab) (zad (zab) (zad (zbe (e:=38) (sz:=2) aa rfl rfl (K) ae ae) (zad (zaG rfl (ldPl ho9s hxA)) (zao rfl (zaj aa rfl) (htake) ?_))))))
           rintro _ w124 ⟨rfl,hT,hb124⟩
           replace hl:=hl.ll hb124 aA
           replace hrb:=hrb.kpd hb124.kp ag
           refine zad (zaX rfl rfl) (zae (zaf (zcF rfl (ay) (zat (zaf ?_)))))
           have hm9:=(zbr hT).2.1
           have hhbl:=hrb.lt
           have hobt:=hM.take ae hxA
           obtain⟨hM2,hda⟩:=hobt
           have hdis:=(zbr hT).2.2
           have ho10q:=hm9.o10
           rw[hDl]at ho10q
           have hobt:=ho10q.sl.some ae
           obtain⟨g10,o10,rfl,_⟩:=hobt
           have hc9:=zgu hm9.o9
           have hc10:=zgu ho10q
           have hvl:=hm9.bs.len
           rw[hDl]at hvl
           have ho9c:=(zaz.cut hm9.o9 K ae).sl
           have ho10c:=(zaz.cut ho10q K ae).sl
           have hobt:=zpL (g:=g9) (o:=o9) (n:=K+1) (sz:=2) (cap:=c9)
           obtain⟨o9',hq9'⟩:=hobt
           have hobt:=zpL (g:=g10) (o:=o10) (n:=K+1) (sz:=1) (cap:=c10)
           obtain⟨o10',hq10'⟩:=hobt
           have ho9t:=zaS.tl (n:=K+1) hm9.o9.sl ae hc9
           have ho10t:=zaS.tl (n:=K+1) ho10q.sl ae hc10
           rw[hq9']at ho9t
           rw[hq10']at ho10t
           have hl9:w.heap.size≤g9:=(hdis g9 (zaJ.2 (.inl aJ))).1
           have h9lt:=(zbr hT).1.lt g9 (List.mem_append_left _ (zaJ.2 (.inl aJ)))
           have h10lt:=(zbr hT).1.lt g10 (List.mem_append_left _ (zaJ.2 (.inr (.inl aJ))))
           have hpl9:=zlU A
           have hBz:=Below.refl (w124).heap.size w124
           have hobt:∃ wq,wq=w124:=⟨_,rfl⟩
           obtain⟨wq,hwq⟩:=hobt
           refine za3 [] aa ?_
           intro w905 hb905 hS905
           replace hl:=hl.new hb905
           replace hrb:=hrb.new hb905
           replace ho9c:=ho9c.new hb905
           replace ho9t:=ho9t.new hb905
           replace ho10c:=ho10c.new hb905
           replace ho10t:=ho10t.new hb905
           replace hBz:=hBz.acc hb905
           refine zas 0 (zab) (zas 1 (zab) (zas 2 (zd1 (e:=38) (sz:=2) (K) aa rfl ⟨_,_,rfl,ae⟩ ae) (zas 4 (zab) (zas 5 (zab) (zas 6 (zaO rfl rfl (show IntKind.i64.wrap ((K:Int)+1)=((K+1:Nat):Int) by rw[w64 ae];omega)) (zas 7 (ziR (e:=38) (sz:=2) (K+1) (some ⟨g9,o9',none⟩) aa rfl ⟨_,_,rfl,rfl⟩ hq9' ae ae) (zas 9 (zab) (zas 10 (zab) (zas 11 (zd1 (e:=33) (sz:=1) (K) aa rfl ⟨_,_,rfl,ae⟩ ae) (zas 13 (zab) (zas 14 (zab) (zas 15 (zaO rfl rfl (show IntKind.i64.wrap ((K:Int)+1)=((K+1:Nat):Int) by rw[w64 ae];omega)) (zas 16 (ziR (e:=33) (sz:=1) (K+1) (some ⟨g10,o10',none⟩) aa rfl ⟨_,_,rfl,rfl⟩ hq10' ae ae) (zaA 3 aa ?_))))))))))))))
           have hzb0:=hBz.size
           refine zby rfl rfl (zbf (e:=38) (sz:=2) (bytes:=16) (z:=.agg ([Value.int .i64 0,Value.int .i64 0]).toArray) aa rfl aa rfl aD rfl (zbp w905 w905.heap.size 38 2) rfl ho9c (fun v hv=>zpM A v (List.mem_of_mem_take hv)) aC ae (fun _=>Nat.le_refl _) (fun v129 w129 hv129 hgr129 hfr129=>?_))
           have hb129:=zdM hgr129
           have hS906:=hS905.add0 hb129
           refine⟨hS906,?_⟩
           replace hl:=hl.new hb129
           replace hrb:=hrb.new hb129
           replace ho9t:=ho9t.new hb129
           replace ho10c:=ho10c.new hb129
           replace ho10t:=ho10t.new hb129
           replace hBz:=hBz.acc hb129
           refine zaA 8 aa ?_
           have hz129:=hb129.size
           refine zby rfl rfl (zbf (e:=38) (sz:=2) (bytes:=16) (z:=.agg ([Value.int .i64 0,Value.int .i64 0]).toArray) aa rfl aa rfl aD rfl hv129 rfl ho9t (fun v hv=>zpM A v (List.mem_of_mem_drop hv)) aC ae (fun hm0=>ae) (fun v134 w134 hv134 hgr134 hfr134=>?_))
           have hS907:=hS906.add (Kp.za6 hgr134) (fun g hm=>by first |exact Or.inr hm|exact Or.inr (List.mem_cons_of_mem _ hm)|(have:=(hv129.lt g (Option.mem_toList.1 hm)).1;left;omega)|exact(hfr129 g (Option.mem_toList.1 hm)).elim (fun e=>Or.inr (Option.mem_toList.2 e)) (fun e=>Or.inl ae)|exact(hfr129 g (Option.mem_toList.1 hm)).elim (fun e=>Or.inr (List.mem_cons_of_mem _ (Option.mem_toList.2 e))) (fun e=>Or.inl ae))
           refine⟨hS907,?_⟩
           replace hl:=hl.own hv129 hgr134 ae
           replace hrb:=hrb.own hv129 hgr134 ae
           replace ho10c:=ho10c.own hv129 hgr134 ae
           replace ho10t:=ho10t.own hv129 hgr134 ae
           replace hBz:=hBz.own hv129 hgr134 ae
           have hz134:=hgr134.size
           have hl134:=fun b hb=>(hv134.lt b hb).2
           have hv134o:=hv134
           have hw134:∃ wy,wy=w134:=⟨_,rfl⟩
           obtain⟨wy,hwy⟩:=hw134
           rw[←hwy]at hl134 hv134o
           have hBy:=Below.refl (w134).heap.size w134
           refine zaA 12 aa (zby rfl rfl (zbf (e:=33) (sz:=1) (bytes:=24) (z:=Value.slice none 0 0) aa rfl aa rfl aD rfl (zbp w134 w134.heap.size 33 1) rfl ho10c (fun v hv=>hm9.bs.one v (List.mem_of_mem_take hv)) aC ae (fun _=>Nat.le_refl _) (fun v138 w138 hv138 hgr138 hfr138=>?_)))
           have hb138:=zdM hgr138
           have hS908:=hS907.add0 hb138
           refine⟨hS908,?_⟩
           replace hl:=hl.new hb138
           replace hrb:=hrb.new hb138
           replace ho10t:=ho10t.new hb138
           replace hBz:=hBz.acc hb138
           replace hBy:=hBy.acc hb138
           refine zaA 17 aa ?_
           have hz138:=hb138.size
           refine zby rfl rfl (zbf (e:=33) (sz:=1) (bytes:=24) (z:=Value.slice none 0 0) aa rfl aa rfl aD rfl hv138 rfl ho10t (fun v hv=>hm9.bs.one v (List.mem_of_mem_drop hv)) aC ae (fun hm0=>ae) (fun v143 w143 hv143 hgr143 hfr143=>?_))
           have hS909:=hS908.add (Kp.za6 hgr143) (fun g hm=>by first |exact Or.inr hm|exact Or.inr (List.mem_cons_of_mem _ hm)|(have:=(hv138.lt g (Option.mem_toList.1 hm)).1;left;omega)|exact(hfr138 g (Option.mem_toList.1 hm)).elim (fun e=>Or.inr (Option.mem_toList.2 e)) (fun e=>Or.inl ae)|exact(hfr138 g (Option.mem_toList.1 hm)).elim (fun e=>Or.inr (List.mem_cons_of_mem _ (Option.mem_toList.2 e))) (fun e=>Or.inl ae))
           refine⟨hS909,?_⟩
           replace hl:=hl.own hv138 hgr143 ae
           replace hrb:=hrb.own hv138 hgr143 ae
           replace hBz:=hBz.own hv138 hgr143 ae
           replace hBy:=hBy.own hv138 hgr143 ae
           refine zas 18 (zac) (zas 19 (zac) (zaI aa (zaP ?_)))
           rw[hwy]at hv134o hl134
           have hKe:0+K+(A.length - (K+1))=A.length - 1:=by omega
           have hel:A.length - 1=(A.eraseIdx K).length:=by rw[List.length_eraseIdx,if_pos hKA]
           have hel2:A.length - 1=((HM.dat A B).eraseIdx K).length:=by rw[List.length_eraseIdx,hDl,if_pos hKA]
           have h9f:=hv134o.below hBy hl134
           rw[hKe,List.nil_append,zk5,hel]at h9f
           have h10f:=hv143
           rw[hKe,List.nil_append,Nat.mul_one,Nat.mul_one,←List.eraseIdx_eq_take_drop_succ,hel2]at h10f
           have hT5:=zgh.fresh hT hBz h9f h10f ae ae (fun b hb h=>by have h1:=hl134 b (Option.mem_toList.1 hb);have h2:=(hv143.lt b (Option.mem_toList.1 h)).1;omega) (hm9.bs.kpd (M:=[]) (Kp.of_below hBz) ay).erase
           rw[←hda]at hT5
           refine za2 ⟨(v134,v143, .slice p11 Gv.length c11),⟨rfl,rfl,rfl,rfl,rfl,rfl,rfl,rfl⟩,⟨A.eraseIdx K,Gv,by rw[List.length_eraseIdx,if_pos hKA];omega,_,_,_,_,_,_,_,bl,hM2,hT5,hrb⟩,hl⟩
          ·
           have hTn:=hTo.weak (L2:=[hb]) fun x hx=>List.mem_append_right _ hx
           refine zat (zaP (za2 ⟨(.slice p9 A.length c9, .slice p10 A.length c10, .slice p11 Gv.length c11),⟨rfl,rfl,rfl,rfl,rfl,rfl,rfl,rfl⟩,⟨A,Gv,ae,H,fl,rl,R',P,B,vs,bl,hM,hTn,hrb⟩,hl⟩))
         ·
          refine zah (zaa (zad (za5 rfl rfl) (zad (zac) (zae (zaf (za0 rfl (fun hk4=>?_) (fun hk4=>?_)))))))
          ·
           refine zah ?_
           have hgive:=giveQ (lo:=w.heap.size) (L:=[hb]) hb (hTo.weak fun x hx=>List.mem_append_right _ hx) hM.hi.ok hrb (.inr ay)
           refine zaa (zad (zab) (zao rfl (zaj aa rfl) (hgive) ?_))
           rintro _ w148 ⟨x,e,rfl,hcase,hb148⟩
           replace hl:=hl.ll hb148 aA
           replace hrb:=hrb.kpd hb148.kp ag
           refine zad (zab) (zad (zai rfl rfl) (zad (zai rfl rfl) (zad (zac) (zad (zac) (zae (zaf (zah (zaa (zad (zab) (zad (za5 rfl rfl) (zae (zaf (za0 rfl (fun he=>?_) (fun he=>?_))))))))))))))
           ·
            have hobt:=hcase.resolve_left fun h9=>h9.1 he
            obtain⟨_,n4,H',fl',rfl,hgo,hT⟩:=hobt
            have hM2:=hM.give hgo
            have hg3:=hM2.mine
            have hg4:=zeQ H' 3 N
            rw[hg3,List.length_append,List.length_singleton]at hg4
            have hm9:=(zbr hT).2.1
            have ho11:=hm9.o11
            have hdis:=(zbr hT).2.2
            have hhb9:=(hdis hb · |>.2 ay)
            have hrbo:=hrb
            have hlo9:=hT.lo
            refine zaa (zad (zab) (zad (zab) (zaD rfl (zdd (e:=3) (.int .i64 (n4:Int)) ([.int .i64 (n4:Int)]) ([Value.int .i64 0]) 1 aa aa rfl rfl aF ⟨aD,aD⟩ (fun g155 w155 hg155 hr155 hb155=>?_)))))
            replace hl:=hl.new hb155
            replace hrb:=hrb.new hb155
            replace ho11:=ho11.new hb155
            replace hT:=hT.newc hb155 hg155 hr155.lt
            have hs155:=hr155.slA (m:=1) (sz:=1) rfl aC
            have hrbo:=hrb
            have hTo:=hT.weak (L2:=[hb]) fun x hx=>(by simp at hx;simp[hx])
            have hlo9:=hTo.lo
            refine zaD rfl (zbf (e:=3) (sz:=1) (bytes:=8) (z:=Value.int .i64 0) aa rfl aa rfl aD rfl ho11 rfl hs155 aL aC ae (fun hm0=>ae) (fun v156 w156 hv156 hgr156 hfr156=>?_))
            replace hl:=hl.own ho11 hgr156 ae
            refine zad (zac) (zae (zaP ?_))
            have hkp:=Kp.za6 hgr156
            have hT5:=zgh.put11 (Gv':=Gv++[n4]) hTo hkp (fun b hb=>hb) (by rw[List.length_append];unfold nv;rw[List.map_append];exact hv156) (Nat.le_refl _) (fun b hb=>(hfr156 b (Option.mem_toList.1 hb)).imp (fun h=>Option.mem_toList.2 h) id)
            have hrb5:=hrbo.kpd hkp fun hm=>hhb9 (zaJ.2 (.inr (.inr (.inl hm))))
            refine za2 ⟨(.slice p9 A.length c9, .slice p10 A.length c10,v156),⟨rfl,rfl,rfl,rfl,rfl,rfl,rfl,rfl⟩,⟨A,Gv++[n4],ae,H',fl',rl,R',P,B,vs,bl,hM2,hT5,hrb5⟩,hl⟩
           ·
            have hTn:=(hcase.resolve_right fun h9=>he h9.1).2
            refine zat (zaP (za2 ⟨(.slice p9 A.length c9, .slice p10 A.length c10, .slice p11 Gv.length c11),⟨rfl,rfl,rfl,rfl,rfl,rfl,rfl,rfl⟩,⟨A,Gv,ae,H,fl,rl,R',P,B,vs,bl,hM,hTn,hrb⟩,hl⟩))
          ·
           have hTn:=hTo.weak (L2:=[hb]) fun x hx=>List.mem_append_right _ hx
           refine zat (zaP (za2 ⟨(.slice p9 A.length c9, .slice p10 A.length c10, .slice p11 Gv.length c11),⟨rfl,rfl,rfl,rfl,rfl,rfl,rfl,rfl⟩,⟨A,Gv,ae,H,fl,rl,R',P,B,vs,bl,hM,hTn,hrb⟩,hl⟩))
      ·
       rintro⟨y9,y10,y11⟩ f3 wz ⟨⟨A2,Gv2,hAl2,H2,fl2,rl2,R2,P2,B2,vs2,bl2,hM2,hT2,hrb2⟩,hl2⟩
       dsimp only at hT2 ⊢
       have hD2:(HM.dat A2 B2).length=A2.length:=List.length_map ..
       have hobt:=zbr hT2
       obtain⟨hT3,hm2,hd2⟩:=hobt
       have ho10:=hm2.o10
       rw[hD2]at ho10
       have hobt:=ho10.form
       obtain⟨q10,d10,rfl⟩:=hobt
       have hobt:=hm2.o9.form
       obtain⟨q9',d9,rfl⟩:=hobt
       have hobt:=hm2.o11.form
       obtain⟨q11,d11,rfl⟩:=hobt
       have hap:=apart15 (ca:=d9) (ch:=d10) (cg:=d11) hb hT3 hM2 hrb2 ay hm2.o9.sl (fun g o e=>by subst e;simp[zfk,Value.ownBlock]) ho10.sl (fun g o e=>by subst e;simp[zfk,Value.ownBlock]) hm2.bs (fun x hx=>List.mem_append_left _ (zaJ.2 (.inr (.inr (.inr hx))))) hm2.o11.sl (fun g o e=>by subst e;simp[zfk,Value.ownBlock]) ae ae
       refine zah (zaa (zad (zab) (zad (zab) (zad (zab) (zad (zab) (zao rfl (zaj aa rfl) (hap) ?_))))))
       rintro _ w161 ⟨rfl,hT4,hb161⟩
       have hm4:=hm2.kpd hb161.kp fun x hx=>zam (.inr (List.mem_append_left _ hx))
       replace hl2:=hl2.ll hb161 aA
       replace hrb2:=hrb2.kpd hb161.kp ag
       refine zad (zbK rfl) (zae (zaf (zgl rfl (ay) (zat (zaP (zaf (zaa (zad (zab) (zad (zaO rfl rfl (show IntKind.i64.wrap ((i:Int)+1)=((i+1:Nat):Int) by rw[w64 ae];omega)) (zad (zac) (zae (za2 ⟨(i+1,_,_,_),by show n - (i+1)<n - i;omega,⟨rfl,rfl,rfl,rfl,rfl,rfl,rfl,rfl⟩,by show i+1≤n;omega,⟨A2,Gv2,hAl2,H2,fl2,rl2,R2,P2,B2,vs2,bl2,hM2,zeP hT4 hm4 hd2,hrb2⟩,hl2⟩))))))))))))
    ·
     refine dU ?_
     refine zbq (α:=Nat) 0 (fun j=>[(6, .pointer (some ⟨hb,0,none⟩)),(8, .int .i64 ((N - 1:Nat):Int)),(9, .slice p9 A.length c9),(11, .slice p11 Gv.length c11),(21, .int .i64 (j:Int))])
       (fun j w'=>j≤A.length∧(∃ H fl rl R,HM N H fl rl R P B (A.drop j) Gv∧Two (GZ q N (pgH H) (fun _=>zb8) 2) (ziP None (zfk (.slice p9 A.length c9) (.slice p10 A.length c10) (.slice p11 Gv.length c11) bl) (zgh w.heap.size (.slice p9 A.length c9) (.slice p10 A.length c10) (.slice p11 Gv.length c11) bl vs A (HM.dat A B) Gv)) w.heap.size [hb] w')∧row w' hb [.pointer (some ⟨q,0,none⟩)] 50∧LoL w.heap.size [] w w') (fun j=>A.length - j)
       ⟨rfl,rfl,rfl,rfl,rfl,rfl⟩ ⟨Nat.zero_le _,⟨H,fl,rl,R',hM,hT⟩,hrb,hl⟩ ?_
     clear hT hrb hl hM
     rintro j f5 wr5 ⟨hj,⟨H,fl,rl,R',hM,hT⟩,hrb,hl⟩
     refine zah (zah (zaa (zad (zab) (zad (zab) (zad (zaB (e:=38) (sz:=2) aa rfl rfl) (zad (zaY rfl rfl) (zae (zaf (za0 rfl (fun hjl=>?_) (fun hjl=>?_))))))))))
     ·
      refine bL ?_
      replace hjl:j<A.length:=by omega
      have hm9:=(zbr hT).2.1
      have ho9s:=hm9.o9.sl
      have hobt:=ho9s.some ae
      obtain⟨g9,o9,rfl,_⟩:=hobt
      have hxo:∃ x,A[j]?=some x:=⟨_,List.getElem?_eq_getElem hjl⟩
      obtain⟨⟨m0,s0⟩,hxA⟩:=hxo
      have hx0:(A.drop j)[0]?=some (m0,s0):=by rw[List.getElem?_drop];exact hxA
      have hobt:=hM.take ae hx0
      obtain⟨hM2,_⟩:=hobt
      have htake:=takeM hb m0 s0 hT hM.hi hM.full (hM.at_ hx0) hrb (.inr ay)
      refine zaa (zad (zab) (zad (zab) (zad (zab) (zad (zbe (e:=38) (sz:=2) aa rfl rfl (j) ae ae) (zad (zaG rfl (ldPl ho9s hxA)) (zao rfl (zaj aa rfl) (htake) ?_))))))
      rintro _ w174 ⟨rfl,hT2,hb174⟩
      replace hrb:=hrb.kpd hb174.kp ag
      replace hl:=hl.ll hb174 aA
      refine zad (zaX rfl rfl) (zae (zaf (zcF rfl (ay) (zat (zaP (zaf (zaa (zad (zab) (zad (zaO rfl rfl (show IntKind.i64.wrap ((j:Int)+1)=((j+1:Nat):Int) by rw[w64 ae];omega)) (zad (zac) (zae ?_)))))))))))
      have hed:(A.drop j).eraseIdx 0=A.drop (j+1):=by rw[List.drop_eq_getElem_cons hjl];rfl
      rw[hed]at hM2
      refine za2 ⟨j+1,ae,⟨rfl,rfl,rfl,rfl,rfl,rfl⟩,hjl,⟨_,_,_,_,hM2,hT2⟩,hrb,hl⟩
     ·
      have hje:j=A.length:=by omega
      rw[hje,List.drop_length]at hM
      have hGN:Gv.length≤N:=by rw[←hM.mine];exact zeQ H 3 N
      refine dU ?_
      refine zbq (α:=Nat) 0 (fun j=>[(6, .pointer (some ⟨hb,0,none⟩)),(8, .int .i64 ((N - 1:Nat):Int)),(11, .slice p11 Gv.length c11),(22, .int .i64 (j:Int))])
        (fun j w'=>j≤Gv.length∧(∃ H fl rl R,HM N H fl rl R P B [] (Gv.drop j)∧Two (GZ q N (pgH H) (fun _=>zb8) 2) (ziP None (zfk (.slice p9 A.length c9) (.slice p10 A.length c10) (.slice p11 Gv.length c11) bl) (zgh w.heap.size (.slice p9 A.length c9) (.slice p10 A.length c10) (.slice p11 Gv.length c11) bl vs A (HM.dat A B) Gv)) w.heap.size [hb] w')∧row w' hb [.pointer (some ⟨q,0,none⟩)] 50∧LoL w.heap.size [] w w') (fun j=>Gv.length - j)
        ⟨rfl,rfl,rfl,rfl,rfl⟩ ⟨Nat.zero_le _,⟨H,fl,rl,R',hM,hT⟩,hrb,hl⟩ ?_
      clear hT hrb hl hM
      rintro j6 f6 wr6 ⟨hj6,⟨H,fl,rl,R',hM,hT⟩,hrb,hl⟩
      refine zah (zah (zaa (zad (zab) (zad (zab) (zad (zaB (e:=3) (sz:=1) aa rfl rfl) (zad (zaY rfl rfl) (zae (zaf (za0 rfl (fun hjl6=>?_) (fun hjl6=>?_))))))))))
      ·
       refine bL ?_
       replace hjl6:j6<Gv.length:=by omega
       have hm9:=(zbr hT).2.1
       have ho11s:=hm9.o11.sl
       have hobt:=ho11s.some ae
       obtain⟨g11,o11,rfl,_⟩:=hobt
       have hxo:∃ x,Gv[j6]?=some x:=⟨_,List.getElem?_eq_getElem hjl6⟩
       obtain⟨n6,hxG⟩:=hxo
       have hx0:(Gv.drop j6)[0]?=some n6:=by rw[List.getElem?_drop];exact hxG
       have hM2:=hM.back ae hx0
       have hgm:=List.mem_of_getElem? hx0
       have hgf:=hM.gf n6 hgm
       have hback:=backQ hb n6 hT hM.hi.ok hgf.1 hgf.2 ((hM.g3 n6).1 hgm) hrb (.inr ay)
       have hnv:(nv Gv)[j6]?=some (.int .i64 (n6:Int)):=by unfold nv;rw[List.getElem?_map,hxG];rfl
       refine zaa (zad (zab) (zad (zab) (zad (zab) (zad (zaN (e:=3) aa rfl rfl (j6) ae ae) (zad (zaG rfl (Ld.sl1 ho11s aa hnv)) (zao rfl (zaj aa rfl) (hback) ?_))))))
       rintro _ w187 ⟨rfl,hT2,hb187⟩
       replace hrb:=hrb.kpd hb187.kp ag
       replace hl:=hl.ll hb187 aA
       refine zad (zaX rfl rfl) (zae (zaf (zcF rfl (ay) (zat (zaP (zaf (zaa (zad (zab) (zad (zaO rfl rfl (show IntKind.i64.wrap ((j6:Int)+1)=((j6+1:Nat):Int) by rw[w64 ae];omega)) (zad (zac) (zae ?_)))))))))))
       have hed:(Gv.drop j6).eraseIdx 0=Gv.drop (j6+1):=by rw[List.drop_eq_getElem_cons hjl6];rfl
       rw[hed]at hM2
       refine za2 ⟨j6+1,ae,⟨rfl,rfl,rfl,rfl,rfl⟩,hjl6,⟨_,_,_,_,hM2,hT2⟩,hrb,hl⟩
      ·
       have hje6:j6=Gv.length:=by omega
       rw[hje6,List.drop_length]at hM
       have hrm:=zpt hb hT hM.hi.ok hrb (.inr ay)
       rw[hM.empty]at hrm
       refine zbh (zbC (zbH (zbl (zaf (zah (zaa (zad (zab) (zao rfl (zaj aa rfl) (hrm) ?_))))))))
       rintro _ w190 ⟨rfl,hT2,hb190⟩
       replace hl:=hl.ll hb190 aA
       refine zad (zab) (zad (za5 rfl rfl) (zad (zab) (zeA 193 rfl (rfl) (zaq rfl (zao rfl (zaj aa rfl) (hkn w190) ?_)))))
       rintro _ w194 ⟨rfl,hb194⟩
       replace hl:=hl.new hb194
       refine zad (zaC rfl) (zad (zac) (zae (zaf (zaF (zan [_] ⟨rfl,trivial⟩ ?_)))))
       exact⟨rfl,hl⟩
end Go.Proofs.YtdbogkndglbffaaGreat
