import Derived.Test.YtdbogkndglbffaaGreatM0
import Derived.Test.YtdbogkndglbffaaGreatM7
import Derived.Test.YtdbogkndglbffaaGreatM5
import Derived.Test.YtdbogkndglbffaaGreatM3
namespace Go.Proofs.YtdbogkndglbffaaGreat
open Go Go.RowKit Coup
section
variable {Y:World→List Nat→Prop}[hYT:Thing Y]{q jb mw N lo:Nat}{L:List Nat}{G G0 V:Nat→Pg}{k:Nat}{H:HS}{fl rl pd:List Nat}{R:Nat→Nat→Prop}{P:Nat→Nat→List Nat}{B:Nat→Nat→List UInt8}{m s:Nat}{w:World}
theorem zpu(hH:HOk N H fl)(hG:GS G0 G H)(hT:Two (JZ q jb mw N G0 G V k H.F) Y lo L w){c b:List UInt8}{l:List Nat}(hcl:CellIs H c b l)(p:Option Addr)(cap:Nat)(hs:zaS w p c.length 1 (bv c))(hcap:c.length≤cap):
  Calls Tryz.prog 56 [.pointer (some ⟨jb,0,none⟩), .slice p c.length cap].toArray w (Ret fun v w'=>∃ up pb cb M,v= .tuple #[up, .slice pb b.length cb]∧zaS w' pb b.length 1 (bv b)∧b.length≤cb∧(∀ g o,pb=some ⟨g,o,none⟩→(∃ o2,p=some ⟨g,o2,none⟩)∨g∈M)∧(∀ g∈M,w.heap.size≤g)∧
   zaz w' w.heap.size 3 1 up l.length (nv l)∧(∀ g∈up.ownBlock.toList,g∈M)∧Two (JZ q jb mw N G0 G V k H.F) Y lo (M++L) w'∧LoL lo L w w'):=by
 rcases hcl with⟨h1,h2,h3⟩|⟨x,h0,h1,h2⟩
 ·subst h2
  subst h3
  exact(partsS (.pointer (some ⟨jb,0,none⟩)) p cap b w bI (by simpa using hcap) ae).to fun v w' ⟨⟨q9,c9,e,h3,h4,h5⟩,h6⟩=>⟨_,q9,c9,[],e,h3,h4,fun g o e=>.inl (h5 g o e),fun g hg=>(by cases hg),zbp _ _ _ _,fun g hg=>(by cases hg),hT.new h6,LoL.of_below h6⟩
 ·subst h1
  have e9:(1::(beB 4 b.length++beB 4 x)).length=9:=by rw[List.length_cons,List.length_append,zaV,zaV]
  rw[e9]at hs hcap ⊢
  refine(zmD hT hH.fN (h2.ok hH hG) p cap hs hcap).to fun v w' ⟨up,ub,e,h3,h4,h5,h6⟩=>?_
  obtain⟨pb,ob,cb,rfl,h7,h8,h9⟩:=h5.form' (by have:=h2.b1;omega)
  have hfl:=h2.flat
  refine⟨up,_,cb,up.ownBlock.toList++(Value.slice (some ⟨pb,ob,none⟩) b.length cb).ownBlock.toList,e,?_,h9,fun g o e2=>?_,fun g hg=>?_,h4,fun g hg=>by simp only[List.mem_append];exact .inl hg,h3,h6⟩
  ·have:=h5.sl
   rw[hfl]at this
   exact this
  ·cases e2
   exact .inr aJ
  ·rcases List.mem_append.1 hg with h|h
   ·exact(h4.lt g (Option.mem_toList.1 h)).1
   ·exact(h5.lt g (Option.mem_toList.1 h)).1
theorem partsH(h:JH q jb mw N G0 V k H fl Y lo L w){c b:List UInt8}{l:List Nat}(hcl:CellIs H c b l)(p:Option Addr)(cap:Nat)(hs:zaS w p c.length 1 (bv c))(hcap:c.length≤cap)(hpL:∀ g o,p=some ⟨g,o,none⟩→g<lo∨g∈L):
  Calls Tryz.prog 56 [.pointer (some ⟨jb,0,none⟩), .slice p c.length cap].toArray w (Ret fun v w'=>∃ up pb cb M,v= .tuple #[up, .slice pb b.length cb]∧zaS w' pb b.length 1 (bv b)∧b.length≤cb∧(∀ g o,pb=some ⟨g,o,none⟩→g<lo∨g∈M++L)∧
   zaz w' w.heap.size 3 1 up l.length (nv l)∧(∀ g∈up.ownBlock.toList,g∈M)∧JH q jb mw N G0 V k H fl Y lo (M++L) w'∧LoL lo L w w'):=by
 obtain⟨hH,G,hG,hT⟩:=h
 exact(zpu hH hG hT hcl p cap hs hcap).to fun v w' ⟨up,pb,cb,M,h1,h2,h3,h4,_,h5,h6,h7,h8⟩=>⟨up,pb,cb,M,h1,h2,h3,fun g o e=>(h4 g o e).elim (fun⟨o2,e2⟩=>(hpL g o2 e2).imp id (List.mem_append_right _)) (fun h=>.inr (List.mem_append_left _ h)),h5,h6,⟨hH,G,hG,h7⟩,h8⟩
omit hYT in
theorem JH.inO{base e sz n:Nat}{v:Value}{xs:List Value}(h:JH q jb mw N G0 V k H fl Y lo (v.ownBlock.toList++L) w)(hv:zaz w base e sz v n xs)(hl:∀ b∈v.ownBlock.toList,lo≤b∧b∉L):JH q jb mw N G0 V k H fl (AddO Y e sz v n xs) lo L w:=let ⟨G,h1,h2⟩:=h.ex;⟨h.ok,G,h1,two_inO h2 hv hl⟩
set_option maxRecDepth 20000 in
theorem get55(ga g:Nat)(h:JH q jb mw N G0 V k H fl (zcV Y g [.slice none 0 0] 33) lo L w)(hI:HI N H fl rl R P B pd)(hr:R m s)(hx1:row w ga [.int .i64 (m:Int), .int .i64 (s:Int)] 38)(hgL:ga∈L):
  Calls Tryz.prog 55 [.pointer (some ⟨jb,0,none⟩), .pointer (some ⟨ga,0,none⟩), .pointer (some ⟨g,0,none⟩)].toArray w
  (Ret fun _ w'=>∃ v,JH q jb mw N G0 V k H fl (AddO (zcV Y g [v] 33) 5 1 v (B m s).length (bv (B m s))) lo L w'∧LoL lo L w w'):=by
 have hLL:=LoL.refl lo L w
 obtain⟨hm,c,hc,hcl⟩:=hI.cell m s hr
 have hcn:=hcl.len
 have hfi:=findR h hI hr hc hcn.1
 have hlt:=h.lo'
 have hnL0:=h.cell.2.2
 obtain⟨b,hb⟩:∃ b,B m s=b:=⟨_,rfl⟩
 rw[hb]at hcl ⊢
 have hpa:=fun p cap L' w' hs hcap hpL (h':JH q jb mw N G0 V k H fl (zcV Y g [.slice none 0 0] 33) lo L' w')=>partsH h' hcl p cap hs hcap hpL
 have hbl:b.length≤20000:=by rcases hcl with⟨h1,_⟩|⟨_,_,_,h1⟩;omega;exact h1.b2
 have hml:maxLen=9223372036854775807:=by decide
 have fun_q:∀ gq oq:Nat,∀ (g:Nat) (o:Nat),(some ⟨gq,oq,none⟩:Option Addr)=some ⟨g,o,none⟩→g<lo∨g∈oB (some ⟨gq,oq,none⟩)++L:=fun gq oq g o e=>by
  cases e
  exact .inr (by simp[oB])
 refine zax (fn:=Tryz.f55) (rs:=[]) (n:=17) Tryz.func55 rfl rfl Tryz.ntmps55 aa rfl (zah (zaa (zad (zab) (zad (zab) (zad (zaG rfl (Ld.zb9 (k:=2) hx1 aa aa rfl)) (zao rfl (zaj aa rfl) (hfi) ?_))))))
 rintro _ w10 ⟨qa,cc,rfl,hsq,hcc,hJ,hb10⟩
 have hx1:=hx1.kl hb10 (.inr hgL)
 replace hLL:=hLL.lq hb10
 have hobt:=hsq.some ae
 obtain⟨gq,oq,rfl,hgq⟩:=hobt
 refine zao rfl (zaj aa rfl) (hpa _ _ _ w10 hsq hcc (fun_q gq oq) hJ) ?_
 rintro _ w11 ⟨up,pb,cb,M,rfl,hsb,hcb,hpb,hup,hupM,hJ2,hb11⟩
 replace hLL:=hLL.ll hb11 (fun b hb=>by simp[hb])
 refine zad (zab) (zad (zai rfl rfl) (zad (zai rfl rfl) (zad (zac) (zad (zac) (zae (zaf ?_))))))
 have hc9:=hJ2.cell
 obtain⟨hx6,hlo6,hnL6⟩:=hc9
 have hsz:=hLL.size
 have hgl:=hx6.lt
 refine zaa (zad (zau hx6) (zad (zab) (zaD rfl (zbf (e:=5) (sz:=1) (bytes:=1) (z:=Value.int .u8 0) aa rfl aa rfl aD rfl (zbp w11 w11.heap.size 5 1) rfl hsb (zbV _) aC ae (fun _=>Nat.le_refl _) (fun v16 w16 hv16 hgr16 hfr16=>?_)))))
 have hb16:=zdM hgr16
 replace hLL:=hLL.new hb16
 replace hx6:=hx6.new hb16
 simp only[Nat.zero_add,List.nil_append]at hv16
 have hfm:=hv16.form
 obtain⟨p16,c16,rfl⟩:=hfm
 have hJ3:=(hJ2.zk8 hb16 (M:=(Value.slice p16 b.length c16).ownBlock.toList) (fun b hb=>hv16.lt b (Option.mem_toList.1 hb))).weak (L2:=(Value.slice p16 b.length c16).ownBlock.toList++L) (fun b hb=>by simp only[List.mem_append]at hb ⊢;rcases hb with h|h<;>simp[h])
 have hvl:=hv16.lt
 refine zaK rfl (zbn hx6 (fun w901 hx6 ho901=>?_))
 replace hLL:=hLL.oq ho901
 replace hv16:=hv16.only ho901 ae
 have hJ4:=hJ3.setc hx6 ho901
 refine cK ?_
 exact⟨_,hJ4.inO hv16 fun b hb=>⟨by have:=hvl b (Option.mem_toList.1 hb);omega,fun hm=>by have:=hvl b (Option.mem_toList.1 hb);have:=hlt.2 b hm;omega⟩,hLL⟩
theorem getM(hb m s:Nat)(h:Two (GZ q N (pgH H) V k) Y lo L w)(hI:HI N H fl rl R P B pd)(hR:R m s)(hr:row w hb [.pointer (some ⟨q,0,none⟩)] 50)(hbL:hb<lo∨hb∈L):
  Calls Tryz.prog 17 [.pointer (some ⟨hb,0,none⟩), .agg #[.int .i64 (m:Int), .int .i64 (s:Int)]].toArray w (Ret fun v w'=>∃ p c,v= .tuple #[.slice p (B m s).length c, .int .i64 0]∧zaz w' lo 5 1 (.slice p (B m s).length c) (B m s).length (bv (B m s))∧Two (GZ q N (pgH H) V k) Y lo ((Value.slice p (B m s).length c).ownBlock.toList++L) w'∧LoL lo L w w'):=by
 have hLL:=LoL.refl lo L w
 have hrun:∀ ga g W L2,ga∈L2→row W hb [.pointer (some ⟨q,0,none⟩)] 50→row W ga [.int .i64 (m:Int), .int .i64 (s:Int)] 38→Two (GZ q N (pgH H) V k) (zcV Y g [.slice none 0 0] 33) lo L2 W→Calls Tryz.prog 34 [.pointer (some ⟨hb,0,none⟩), .func (.func 55) #[] [.pointer (some ⟨ga,0,none⟩), .pointer (some ⟨g,0,none⟩)].toArray].toArray W
   (Ret fun v w'=>v= .int .i64 0∧LoL lo L2 W w'∧∃ u,Two (GZ q N (pgH H) V k) (AddO (zcV Y g [u] 33) 5 1 u (B m s).length (bv (B m s))) lo L2 w'):=fun ga g W L2 hga hr hra h=>by
  refine(zjB hb h hI.ok hr 55 [.pointer (some ⟨ga,0,none⟩), .pointer (some ⟨g,0,none⟩)] aa (fun H' fl' Y'=>H'=H∧∃ u,Y'=AddO (zcV Y g [u] 33) 5 1 u (B m s).length (bv (B m s)))
   (fun e Y'=>False) (fun H' fl' Y' ⟨_,_,e⟩=>by subst e;infer_instance) (fun e Y' h=>h.elim) (fun H' fl' Y' ⟨e,_⟩=>by rw[e];exact Nat.le_refl _) fun jb mw L' w' hs2 hl hJ=>?_).to fun v w' h=>?_
  ·exact(get55 ga g hJ hI hR (hra.kl hl (.inr hga)) (hs2 ga hga)).toP fun v w2 ⟨u,h2,h3⟩=>⟨H,fl,_,⟨rfl,u,rfl⟩,h2,h3⟩
  ·rcases h with⟨H',fl',Y',⟨rfl,u,rfl⟩,h4,h3,h5,h6⟩|⟨e,Y',h,_⟩
   ·exact⟨h3,h6,u,h5⟩
   ·exact h.elim
 refine zax (fn:=Tryz.f17) (rs:=[.tmp 4, .tmp 5]) (n:=13) Tryz.func17 rfl rfl Tryz.ntmps17 aa rfl (zah (zaa (zaD rfl (za4 ([.int .i64 (m:Int), .int .i64 (s:Int)]) rfl (fun g3 w3 hg3 hr3 hb3=>?_)))))
 replace hLL:=hLL.new hb3
 replace hr:=hr.new hb3
 replace h:=h.newc hb3 hg3 hr3.lt
 refine zad (zac) (zad (zac) (zae (zaf (zah (zaa ?_)))))
 have hp6:=h
 refine zaD rfl (zar ([Value.slice none 0 0]) aa (fun g6 w6 hg6 hr6 hb6=>?_))
 replace hLL:=hLL.new hb6
 replace hr:=hr.new hb6
 replace hr3:=hr3.new hb6
 have h6:=zfH hp6 hb6 hr6 hg6
 have hl3:=hr3.lt
 refine zae (zaf (zah (zaa (zad (zab) (zad (zbm) (zao rfl (zaj aa rfl) (hrun g3 g6 w6 (g3::L) ay hr hr3 h6) ?_))))))
 rintro _ w10 ⟨rfl,hb10,u,h7⟩
 replace hLL:=hLL.ll hb10 (fun b hb=>by simp[hb])
 refine zad (zac) (zae (zaf (zah ?_)))
 have hout:=zqR h7
 obtain⟨h8,hu⟩:=hout
 have hc:=zdr h8
 obtain⟨hx6,hlo6,hnL6⟩:=hc
 obtain⟨pu,cu,rfl⟩:=hu.form
 refine zaa (zad (zau hx6) (zad (zab) (zad (zac) (zad (zac) (zae (zaf (zaF (zan [_,_] ⟨rfl,rfl,trivial⟩ ?_))))))))
 exact⟨pu,cu,rfl,hu,(zds h8).weak fun b hb=>by simp only[List.mem_cons,List.mem_append]at hb ⊢;rcases hb with h|h<;>simp[h],hLL⟩
end
theorem zgM:∀ (S:List (Option (List UInt8))) (i:Nat) {r r':List UInt8},r.length=r'.length→zbF (S.set i (some r))=zbF (S.set i (some r'))
 |[],_,_,_,_=>rfl
 |t::S,0,r,r',h=>by simp only[List.set_cons_zero,zbF,bod,Option.getD_some,h]
 |t::S,i+1,r,r',h=>by simp only[List.set_cons_succ,zbF,zgM S i h]
theorem zkZ{V:View}{i:Nat}{r r':List UInt8}(h:r.length=r'.length):zcg V i r=zcg V i r':=by
 have e:zb3 (zbX V i r)=zb3 (zbX V i r'):=by
  unfold zb3 zbX zjI
  dsimp only
  split
  ·simp only[zdn,zbF,bod,Option.getD_some,List.length_append,List.length_cons,h]
  ·simp only[List.length_set,zgM _ _ h]
 unfold zcg
 rw[e]
def zk0(n:Nat):Nat:=if n<400 then 1+n else 9
theorem zk1{N:Nat}{b c:List UInt8}{H H':HS}(h:cellS N b H=some (c,H')):c.length=zk0 b.length:=by
 unfold cellS at h
 unfold zk0
 split at h
 ·rename_i hb
  cases h
  rw[if_pos hb,List.length_cons,Nat.add_comm]
 ·rename_i hb
  split at h
  ·cases h
  ·cases h
   rw[if_neg hb,List.length_cons,List.length_append,zaV,zaV]
def zjJ(N:Nat)(b:List UInt8)(H:HS)(rl p:List Nat)(m s:Nat):Option (Nat × Nat × HS):=
 if zcg (H.S m) s (List.replicate (zk0 b.length) 0)=8 then zgk N b (zeo H rl p m s) (znA H rl m s)
 else match cellS N b (zbt H p)with
  |none=>none
  |some (c,H1)=>some (m,s,⟨H1.F,zbb H1.S m (zbX (H.S m) s c)⟩)
theorem zpv{N:Nat}{H:HS}{fl rl pd:List Nat}{R:Nat→Nat→Prop}{P:Nat→Nat→List Nat}{B:Nat→Nat→List UInt8}{m s n:Nat}(h:HI N H fl rl R P B pd)(hr:R m s)(hk:(H.S n).kind=3):(zeo H rl (P m s) m s).S n=H.S n:=by
 have hm:=(h.cell m s hr).1
 have hnP:n∉P m s:=fun hn=>by have:=((h.pat hr).2 n hn).2.2;omega
 have hnr:n∉rl:=fun hn=>by have:=(h.rk.at_ n hn).2.2;omega
 have hnm:n≠m:=fun e=>hnr (e▸hm)
 have e1:(zbt H (P m s)).S n=H.S n:=zbG hnP
 unfold zeo
 split
 ·show(zbb _ m _ n)=_
  rw[za9 hnm]
  show zdI _ rl _ m n=_
  rw[HI.zkX (zkW hm) hnr]
  show zbb _ m _ n=_
  rw[za9 hnm,e1]
 ·show zbb _ m _ n=_
  rw[za9 hnm,e1]
theorem HI.zjJ{N:Nat}(hN:N≤2048){H H':HS}{fl rl:List Nat}{R:Nat→Nat→Prop}{P:Nat→Nat→List Nat}{B:Nat→Nat→List UInt8}{b:List UInt8}{m s m' s':Nat}(h:HI N H fl rl R P B [])(hF:Full H rl R)(hr:R m s)(hb:b.length≤20000)(he:zjJ N b H rl (P m s) m s=some (m',s',H')):
  ∃ fl' rl' l,HI N H' fl' rl' (zii (zgA R m s) m' s') (up2 P m' s' l) (up2 B m' s' b) []∧Full H' rl' (zii (zgA R m s) m' s')∧¬zgA R m s m' s'∧H.F.fresh≤H'.F.fresh∧H'.F.root=H.F.root∧∀ n,n<H.F.fresh→(H.S n).kind=3→H'.S n=H.S n:=by
 unfold Go.Proofs.YtdbogkndglbffaaGreat.zjJ at he
 split at he
 ·obtain⟨h1,h2⟩:=h.take hN hF hr
  obtain⟨fl',rl',l,r1,r2,r3,r4,r5,r6⟩:=h1.zgk hN h2 hb he
  rw[zjC.1]at r4 r6
  rw[zjC.2]at r5
  exact⟨fl',rl',l,r1,r2,r3,r4,r5,fun n h3 hk=>by
   have e:=zpv h hr hk
   rw[r6 n h3 (by rw[e];exact hk),e]⟩
 ·rename_i hE
  split at he
  ·cases he
  ·rename_i c H1 hc
   cases he
   have hdF:=(zdc (H:=H) (l:=P m s))
   obtain⟨l,fl1,h1,h2,h3,h4,h5,h6⟩:=(h.drop hN hr).zlN hN hb hc
   rw[hdF.1]at h4 h6
   rw[hdF.2.2.1]at h5
   have hm:=(h.cell m s hr).1
   obtain⟨c0,hc0,_⟩:=(h.cell m s hr).2
   have hma:=h.rk.at_ m hm
   have hsm:H1.S m=H.S m:=(h3 m hm).trans (h.same hr)
   have hsl:s<(H.S m).slots.length:=(List.getElem?_eq_some_iff.1 hc0).1
   have hE0:zcg (H.S m) s c=0:=by
    rw[zkZ (r':=List.replicate (zk0 b.length) 0) (by rw[zk1 hc,List.length_replicate])]
    unfold zcg at hE ⊢
    split
    ·rename_i hx;rw[if_pos hx]at hE;exact absurd rfl hE
    ·rfl
   have hgd:Good (zbX (H.S m) s c):=zhQ (h.ok.gd m hma.1 hma.2.1) ae h2.len.2 (by unfold zcg at hE0;split at hE0;cases hE0;omega)
   have hat:∀ j,(zbX (H.S m) s c).slots[j]?=if j=s then some (some c)else(H.S m).slots[j]?:=fun j=>zpn ae
   have hp:=h1.zjH (m:=m) hm hgd hma.2.2 (by rw[hsm];rfl) fun j c' hj hs=>by
    rw[hsm]at hs
    rw[hat,if_neg fun e=>hj.2 ⟨rfl,e⟩];exact hs
   have hnr:¬zgA R m s m s:=fun h=>h.2 ⟨rfl,rfl⟩
   have h7:=hp.addC hm (s:=s) (c:=c) (b:=b) (by
    show(zbb H1.S m _ m).slots[_]?=_
    rw[zaT,hat,if_pos rfl]) (h2.frame (Nat.le_refl _) fun n hn=>za9 fun e=>by
     have:=(h1.pk n hn).2.2.1
     rw[e,hsm]at this;omega) hnr
   refine⟨fl1,rl,l,h7,fun a ha=>?_,hnr,h4,h5,fun n hn hk=>?_⟩
   ·show(zbb H1.S m _ a).slots≠[]∧∀ s' c',(zbb H1.S m _ a).slots[s']?=some (some c')→_
    by_cases e:a=m
    ·rw[e,zaT]
     refine⟨fun hn=>?_,fun s' c' hs'=>?_⟩
     ·have:=hat s
      rw[hn,if_pos rfl]at this
      simp at this
     ·rw[hat]at hs'
      by_cases e2:s'=s
      ·exact .inr ⟨rfl,e2⟩
      ·rw[if_neg e2]at hs'
       exact .inl ⟨(hF m hm).2 s' c' hs',fun e3=>e2 e3.2⟩
    ·rw[za9 e,h3 a ha,zbG fun hx=>(h.pni hr a hx).2 ha]
     exact⟨(hF a ha).1,fun s' c' hs'=>.inl ⟨(hF a ha).2 s' c' hs',fun e2=>e e2.1⟩⟩
   ·have hnP:n∉P m s:=fun hx=>by have:=((h.pat hr).2 n hx).2.2;omega
    have e1:(zbt H (P m s)).S n=H.S n:=zbG hnP
    show zbb H1.S m _ n=_
    rw[za9 fun e=>by rw[e]at hk;omega,h6 n hn (by rw[e1];exact hk),e1]
section
variable {Y:World→List Nat→Prop}[hYT:Thing Y]{q jb mw N lo:Nat}{L:List Nat}{G G0 V:Nat→Pg}{k:Nat}{H:HS}{fl rl:List Nat}{R:Nat→Nat→Prop}{P:Nat→Nat→List Nat}{B:Nat→Nat→List UInt8}{m s:Nat}{w:World}
set_option maxRecDepth 20000 in
theorem put139(gb ga g:Nat)(v0 v1:Value)(p:Option Addr)(cap:Nat)(b:List UInt8)(h:JH q jb mw N G0 V k H fl (zcV Y g [v0,v1] 38) lo L w)(hI:HI N H fl rl R P B [])(hF:Full H rl R)(hr:R m s)(hx1:row w gb [.slice p b.length cap] 33)(hx2:row w ga [.int .i64 (m:Int), .int .i64 (s:Int)] 38)(hgL:gb∈L)(haL:ga∈L)(hs:zaS w p b.length 1 (bv b))(hcap:b.length≤cap)(hl2:b.length≤20000)(hpL:∀ c o,p=some ⟨c,o,none⟩→c<lo∨c∈L):
   Calls Tryz.prog 41 [.pointer (some ⟨jb,0,none⟩), .pointer (some ⟨gb,0,none⟩), .pointer (some ⟨ga,0,none⟩), .pointer (some ⟨g,0,none⟩)].toArray w
   (zg2 (fun _ w'=>∃ m' s' H' fl' u0 u1,zjJ N b H rl (P m s) m s=some (m',s',H')∧(u0= .int .i64 (m':Int)∧u1= .int .i64 (s':Int)∨m'=m∧s'=s∧u0=v0∧u1=v1)∧JH q jb mw N G0 V k H' fl' (zcV Y g [u0,u1] 38) lo L w'∧LoL lo L w w') (fun c w'=>zjJ N b H rl (P m s) m s=none∧c=pe (zdp 8)∧JF q jb mw N G0 V k (zcV Y g [v0,v1] 38) lo L w'∧LoL lo L w w')):=by
 have hN:=h.n48.1
 obtain⟨hm,c0,hc0,hcl0⟩:=hI.cell m s hr
 have hcn0:=hcl0.len
 have hma:=hI.rk.at_ m hm
 have hgU:=h.ok.gd m hma.1 hma.2.1
 have hLL:=LoL.refl lo L w
 have hlg:=h.lo'.1
 have hsh:=fun w'=>short0 p b.length cap hl2 w'
 have hfi:=findR h hI hr hc0 hcn0.1
 have hget:=fun L' w' (h':JH q jb mw N G0 V k H fl (zcV Y g [v0,v1] 38) lo L' w')=>getH h' m hma.1 hma.2.1
 obtain⟨z,hz⟩:∃ z,zk0 b.length=z:=⟨_,rfl⟩
 have hz4:z≤400:=by rw[←hz];unfold zk0;split<;>omega
 have hpt:∀ gz w',row w' gz (List.replicate (z*1) (zcK 0)) 5→Calls Tryz.prog 43 [.agg (bv (zay (H.S m))).toArray, .int .i64 (s:Int), .slice (some ⟨gz,0,none⟩) z z].toArray w' (Ret fun v w2=>v= .tuple #[.agg (bv (putG (H.S m) (s:Int) (List.replicate z 0))).toArray, .int .i64 (zcg (H.S m) s (List.replicate z 0):Nat)]∧Below w'.heap.size w' w2):=fun gz w' hrz=>by
   have hsz:zaS w' (some ⟨gz,0,none⟩) (List.replicate z (0:UInt8)).length 1 (bv (List.replicate z 0)):=by
     have:=hrz.slA (m:=z) (sz:=1) ay aC
     rw[List.length_replicate]
     rwa [Nat.mul_one,←zjh]at this
   have h3:=put30 (H.S m) (s:Int) (some ⟨gz,0,none⟩) z (List.replicate z 0) w' hgU hsz
   have e:putE (H.S m) (s:Int) (List.replicate z 0)=zcg (H.S m) s (List.replicate z 0):=by
     unfold putE
     rw[if_neg (by rw[List.length_replicate];omega),zft hc0,if_pos rfl,Int.toNat_natCast]
   rw[e,List.length_replicate]at h3
   exact h3
 have hPl:(bv (putG (H.S m) (s:Int) (List.replicate z 0))).length=512:=by
   unfold putG
   split
   · rename_i h0
     rw[zal]
     refine zbv _ ?_
     unfold putE zcg at h0
     rw[if_neg (by rw[List.length_replicate];omega),zft hc0,if_pos rfl]at h0
     split at h0
     · cases h0
     · omega
   · exact zd2
 have hQl:=zaR hgU
 obtain⟨Q,hQ⟩:∃ Q,zay (H.S m)=Q:=⟨_,rfl⟩
 obtain⟨PU,hPU⟩:∃ PU,putG (H.S m) (s:Int) (List.replicate z 0)=PU:=⟨_,rfl⟩
 have hE8:zcg (H.S m) s (List.replicate z 0)=8∨zcg (H.S m) s (List.replicate z 0)=0:=by unfold zcg;split<;>simp
 unfold zjJ
 rw[hz]
 obtain⟨E,hE⟩:∃ E,zcg (H.S m) s (List.replicate z 0)=E:=⟨_,rfl⟩
 simp only[hQ,hPU,hE]at hpt hPl hget hQl hE8 ⊢
 have hsW:=fun W (hl:LoL lo L w W)=>hs.kpd hl.kp fun c o e=>zam (hpL c o e)
 have hpLc:∀ x c o,p=some ⟨c,o,none⟩→c<lo∨c∈x::L:=fun x c o e=>(hpL c o e).imp id (List.mem_cons_of_mem _)
 have hx1W:=fun W (hl:LoL lo L w W)=>hx1.kl hl (.inr hgL)
 have htk:=fun L' w' (h':JH q jb mw N G0 V k H fl (zcV Y g [v0,v1] 38) lo L' w')=>takeH h' hI hF hr
 have hT:=hI.take hN hF hr
 have hcl:=fun H2 fl2 L' w' (h':JH q jb mw N G0 V k H2 fl2 (zcV Y g [v0,v1] 38) lo L' w') hs' hp'=>cellH h' p cap b hs' hcap hl2 hp'
 have hdr:=fun p' cap' L' w' (h':JH q jb mw N G0 V k H fl (zcV Y g [v0,v1] 38) lo L' w') hs' hc'=>dropH h' hI hr hc0 hcl0 p' cap' hs' hc'
 have hD:=hI.drop hN hr
 have hdF:=(zdc (H:=H) (l:=P m s)).1
 have hsm:=hI.same hr
 obtain⟨H1,hH1⟩:∃ H1,zeo H rl (P m s) m s=H1:=⟨_,rfl⟩
 obtain⟨fl1,hfl1⟩:∃ fl1,zlO H fl (P m s) m s=fl1:=⟨_,rfl⟩
 obtain⟨rl1,hrl1⟩:∃ rl1,znA H rl m s=rl1:=⟨_,rfl⟩
 obtain⟨HD,hHD⟩:∃ HD,zbt H (P m s)=HD:=⟨_,rfl⟩
 obtain⟨fD,hfD⟩:∃ fD,(P m s).reverse++fl=fD:=⟨_,rfl⟩
 simp only[hH1,hfl1,hrl1,hHD,hfD]at htk hT hdr hD hdF hsm ⊢
 refine zb6 (fn:=Tryz.f41) (rs:=[]) (n:=67) Tryz.func41 rfl rfl Tryz.ntmps41 aa rfl (zah (zaa (zad (zau hx1) (zao rfl (zaj aa rfl) (hsh w) ?_))))
 rintro _ _ ⟨rfl,rfl⟩
 refine zae (zaf (zah (zaa (zad (zab) (zad (zaG rfl (Ld.zb9 (k:=2) hx2 aa aa rfl)) (zao rfl (zaj aa rfl) (hfi) ?_))))))
 rintro _ w15 ⟨qa,cc,rfl,hsq,hcc,hJ,hb15⟩
 replace hLL:=hLL.lq hb15
 replace hx2:=hx2.kl hb15
 have hobt:=hsq.some ae
 obtain⟨gq,oq,rfl,hgq⟩:=hobt
 have hJ:JH q jb mw N G0 V k H fl (zcV Y g [v0,v1] 38) lo (gq::L) w15:=hJ
 have hL2:=LoL.refl lo (gq::L) w15
 have hsqW:=fun W (hl:LoL lo (gq::L) w15 W)=>hsq.klp hl (.inr (List.mem_cons_self ..))
 refine zad (zac) (zae (zaf (zah (zaa (zad (zac) (zae (zaf (zgQ (fun _:Unit=>[(0, .pointer (some ⟨jb,0,none⟩)),(1, .pointer (some ⟨gb,0,none⟩)),(2, .pointer (some ⟨ga,0,none⟩)),(3, .pointer (some ⟨g,0,none⟩)),(5, .slice (some ⟨gq,oq,none⟩) c0.length cc),(6, .int .i64 (z:Int))]) (fun _ w'=>w15=w') ?_ ?_))))))))
 ·
  refine zah (zaa (zad (zaG rfl (Ld.zeC (hx1W _ hLL) aa rfl)) (zad (zaB (e:=5) (sz:=1) aa rfl rfl) (zad (zaY rfl rfl) (zae (zaf (za0 rfl (fun h4=>?_) (fun h4=>?_))))))))
  ·
   refine zaa (zad (zaG rfl (Ld.zeC (hx1W _ hLL) aa rfl)) (zad (zaB (e:=5) (sz:=1) aa rfl rfl) (zad (zaO rfl rfl (Coup.w64 ae)) (zad (zac) (zae (za2 ⟨(),⟨rfl,rfl,rfl,rfl,rfl,?_,rfl⟩,rfl⟩))))))
   rw[show(z:Int)=1+(b.length:Int) by rw[←hz,zk0,if_pos ae];omega];rfl
  ·
   refine zat (za2 ⟨(),⟨rfl,rfl,rfl,rfl,rfl,?_,rfl⟩,rfl⟩)
   rw[show(z:Int)=9 by rw[←hz,zk0,if_neg ae];rfl];rfl
 ·
  rintro _ f1 _ rfl
  refine zah (zgQ (α:=Nat) (fun g7=>[(0, .pointer (some ⟨jb,0,none⟩)),(1, .pointer (some ⟨gb,0,none⟩)),(2, .pointer (some ⟨ga,0,none⟩)),(3, .pointer (some ⟨g,0,none⟩)),(5, .slice (some ⟨gq,oq,none⟩) c0.length cc),(8, .int .i64 (E:Int))]) (fun g7 w'=>JH q jb mw N G0 V k H fl (zcV Y g [v0,v1] 38) lo (gq::L) w'∧row w' ga [.int .i64 (m:Int), .int .i64 (s:Int)] 38∧LoL lo L w w'∧LoL lo (gq::L) w15 w') ?_ ?_)
  ·
   refine zct (lo) ((gq::L)) aa ?_
   intro w901 hb901 hn901 hS901
   replace hLL:=hLL.new hb901
   replace hx2:=hx2.new hb901
   replace hJ:=hJ.new hb901
   replace hL2:=hL2.new hb901
   have hLL_d901:=hLL
   have hx2_d901:=hx2
   have hJ_d901:=hJ
   have hL2_d901:=hL2
   refine zas 0 (zab) (zas 1 (zaw 0) (zbo 2 (fun w' hS'=>zau (hx2_d901.kL hS')) (zas 4 (zaw 1) (zbo 5 (fun w' hS'=>zau (hx2_d901.kL hS')) (zas 6 (zab) (zpW 3 7 12 aa ?_ ?_ ?_))))))
   ·
    refine zaU rfl rfl (zaj aa rfl) (hget _ w901 hJ) ?_
    rintro _ w26 ⟨rfl,hJ,hb26⟩
    have hS902:=hS901.zdh hn901 hb26.wk
    refine⟨hS902,?_⟩
    replace hLL:=hLL.lq hb26
    replace hx2:=hx2.kl hb26
    replace hL2:=hL2.ll hb26 aA
    refine zcA 7 12 aa ?_ ?_
    ·
     refine zby rfl rfl (zeD (e:=5) z [zcK 0] 1 1 (zcK 0) aa aa ⟨_,rfl,rfl⟩ ⟨_,rfl,rfl⟩ ay ay ae ae (fun g30 w30 hg30 hr30 hb30=>?_))
     have hS903:=hS902.add0 hb30
     refine⟨hS903,?_⟩
     have ge_hS902_g30:=Nat.le_trans hS902.size hg30
     have sz_g30:=hLL.size
     have sz_g30:=hL2.size
     have lt_ga_g30:ga<g30:=Nat.lt_of_lt_of_le hx2.lt hg30
     replace hLL:=hLL.new hb30
     replace hx2:=hx2.new hb30
     replace hJ:=hJ.newc hb30 hg30 hr30.lt
     replace hL2:=hL2.new hb30
     refine zcA 8 12 aa ?_ ?_
     ·
      refine zaU rfl rfl (zaj aa rfl) (hpt _ w30 hr30) ?_
      rintro _ w31 ⟨rfl,hb31⟩
      have hS904:=hS903.add0 hb31
      refine⟨hS904,?_⟩
      replace hLL:=hLL.new hb31
      replace hx2:=hx2.new hb31
      replace hJ:=hJ.new hb31
      replace hL2:=hL2.new hb31
      replace hr30:=hr30.new hb31
      refine zas 9 (zab) (zas 10 (zai rfl rfl) (zas 11 (zai rfl rfl) (zaA 12 aa (zby rfl rfl (zar (List.replicate 512 (Value.int .u8 0)) aa (fun g7 w7 hg7 hr7 hb7=>?_))))))
      have hS905:=hS904.add0 hb7
      refine⟨hS905,?_⟩
      have ge_hS904_g7:=Nat.le_trans hS904.size hg7
      have lt_ga_g7:ga<g7:=Nat.lt_of_lt_of_le hx2.lt hg7
      have lt_g30_g7:g30<g7:=Nat.lt_of_lt_of_le hr30.lt hg7
      replace hLL:=hLL.new hb7
      replace hx2:=hx2.new hb7
      replace hJ:=hJ.newc hb7 hg7 hr7.lt
      replace hL2:=hL2.new hb7
      replace hr30:=hr30.new hb7
      refine zaA 13 aa (zbB rfl rfl (zaQ 512 (bv PU) hr7 (fun w907 hr7 ho907=>?_)))
      have hS906:=hS905.add1 ho907 aj
      refine⟨hS906,?_⟩
      replace hLL:=hLL.oq ho907
      replace hx2:=hx2.only ho907 (Nat.ne_of_lt lt_ga_g7)
      replace hJ:=hJ.only ho907 ai
      replace hL2:=hL2.only ho907 ax
      replace hr30:=hr30.only ho907 (Nat.ne_of_lt lt_g30_g7)
      refine zas 14 (zac) (zaI aa (za2 ⟨g7,⟨rfl,rfl,rfl,rfl,rfl,rfl,rfl⟩,hJ.weak (fun b hb=>by simp only[List.mem_cons]at hb ⊢;rcases hb with h|h<;>simp[h]),hx2,hLL,hL2⟩))
     ·
      refine zby rfl rfl (zar (List.replicate 512 (Value.int .u8 0)) aa (fun g7 w7 hg7 hr7 hb7=>?_))
      have hS908:=hS903.add0 hb7
      refine⟨hS908,?_⟩
      have ge_hS903_g7:=Nat.le_trans hS903.size hg7
      have lt_ga_g7:ga<g7:=Nat.lt_of_lt_of_le hx2.lt hg7
      have lt_g30_g7:g30<g7:=Nat.lt_of_lt_of_le hr30.lt hg7
      replace hLL:=hLL.new hb7
      replace hx2:=hx2.new hb7
      replace hJ:=hJ.newc hb7 hg7 hr7.lt
      replace hL2:=hL2.new hb7
      replace hr30:=hr30.new hb7
      refine zaA 8 aa (zaU rfl rfl (zaj aa rfl) (hpt _ w7 hr30) ?_)
      rintro _ w31 ⟨rfl,hb31⟩
      have hS909:=hS908.add0 hb31
      refine⟨hS909,?_⟩
      replace hLL:=hLL.new hb31
      replace hx2:=hx2.new hb31
      replace hJ:=hJ.new hb31
      replace hL2:=hL2.new hb31
      replace hr30:=hr30.new hb31
      replace hr7:=hr7.new hb31
      refine zas 9 (zab) (zas 10 (zai rfl rfl) (zas 11 (zai rfl rfl) (zaA 13 aa (zbB rfl rfl (zaQ 512 (bv PU) hr7 (fun w911 hr7 ho911=>?_))))))
      have hS910:=hS909.add1 ho911 aj
      refine⟨hS910,?_⟩
      replace hLL:=hLL.oq ho911
      replace hx2:=hx2.only ho911 (Nat.ne_of_lt lt_ga_g7)
      replace hJ:=hJ.only ho911 ai
      replace hL2:=hL2.only ho911 ax
      replace hr30:=hr30.only ho911 (Nat.ne_of_lt lt_g30_g7)
      refine zas 14 (zac) (zaI aa (za2 ⟨g7,⟨rfl,rfl,rfl,rfl,rfl,rfl,rfl⟩,hJ.weak (fun b hb=>by simp only[List.mem_cons]at hb ⊢;rcases hb with h|h<;>simp[h]),hx2,hLL,hL2⟩))
    ·
     refine zby rfl rfl (zar (List.replicate 512 (Value.int .u8 0)) aa (fun g7 w7 hg7 hr7 hb7=>?_))
     have hS912:=hS902.add0 hb7
     refine⟨hS912,?_⟩
     have ge_hS902_g7:=Nat.le_trans hS902.size hg7
     have sz_g7:=hLL.size
     have sz_g7:=hL2.size
     have lt_ga_g7:ga<g7:=Nat.lt_of_lt_of_le hx2.lt hg7
     replace hLL:=hLL.new hb7
     replace hx2:=hx2.new hb7
     replace hJ:=hJ.newc hb7 hg7 hr7.lt
     replace hL2:=hL2.new hb7
     refine zaA 7 aa (zby rfl rfl (zeD (e:=5) z [zcK 0] 1 1 (zcK 0) aa aa ⟨_,rfl,rfl⟩ ⟨_,rfl,rfl⟩ ay ay ae ae (fun g30 w30 hg30 hr30 hb30=>?_)))
     have hS913:=hS912.add0 hb30
     refine⟨hS913,?_⟩
     have ge_hS912_g30:=Nat.le_trans hS912.size hg30
     have lt_ga_g30:ga<g30:=Nat.lt_of_lt_of_le hx2.lt hg30
     have lt_g7_g30:g7<g30:=Nat.lt_of_lt_of_le hr7.lt hg30
     replace hLL:=hLL.new hb30
     replace hx2:=hx2.new hb30
     replace hJ:=hJ.newc hb30 hg30 hr30.lt
     replace hL2:=hL2.new hb30
     replace hr7:=hr7.new hb30
     refine zaA 8 aa (zaU rfl rfl (zaj aa rfl) (hpt _ w30 hr30) ?_)
     rintro _ w31 ⟨rfl,hb31⟩
     have hS914:=hS913.add0 hb31
     refine⟨hS914,?_⟩
     replace hLL:=hLL.new hb31
     replace hx2:=hx2.new hb31
     replace hJ:=hJ.new hb31
     replace hL2:=hL2.new hb31
     replace hr7:=hr7.new hb31
     replace hr30:=hr30.new hb31
     refine zas 9 (zab) (zas 10 (zai rfl rfl) (zas 11 (zai rfl rfl) (zaA 13 aa (zbB rfl rfl (zaQ 512 (bv PU) hr7 (fun w916 hr7 ho916=>?_))))))
     have hS915:=hS914.add1 ho916 aj
     refine⟨hS915,?_⟩
     replace hLL:=hLL.oq ho916
     replace hx2:=hx2.only ho916 (Nat.ne_of_lt lt_ga_g7)
     replace hJ:=hJ.only ho916 ai
     replace hL2:=hL2.only ho916 ax
     replace hr30:=hr30.only ho916 (Nat.ne_of_gt lt_g7_g30)
     refine zas 14 (zac) (zaI aa (za2 ⟨g7,⟨rfl,rfl,rfl,rfl,rfl,rfl,rfl⟩,hJ.weak (fun b hb=>by simp only[List.mem_cons]at hb ⊢;rcases hb with h|h<;>simp[h]),hx2,hLL,hL2⟩))
   ·
    refine zby rfl rfl (zeD (e:=5) z [zcK 0] 1 1 (zcK 0) aa aa ⟨_,rfl,rfl⟩ ⟨_,rfl,rfl⟩ ay ay ae ae (fun g30 w30 hg30 hr30 hb30=>?_))
    have hS917:=hS901.add0 hb30
    refine⟨hS917,?_⟩
    have ge_hS901_g30:=Nat.le_trans hS901.size hg30
    have sz_g30:=hLL.size
    have sz_g30:=hL2.size
    have lt_ga_g30:ga<g30:=Nat.lt_of_lt_of_le hx2.lt hg30
    replace hLL:=hLL.new hb30
    replace hx2:=hx2.new hb30
    replace hJ:=hJ.newc hb30 hg30 hr30.lt
    replace hL2:=hL2.new hb30
    refine zcA 3 12 aa ?_ ?_
    ·
     refine zaU rfl rfl (zaj aa rfl) (hget _ w30 hJ) ?_
     rintro _ w26 ⟨rfl,hJ,hb26⟩
     have hS918:=hS917.zdh hn901 hb26.wk
     refine⟨hS918,?_⟩
     replace hLL:=hLL.lq hb26
     replace hx2:=hx2.kl hb26
     replace hL2:=hL2.ll hb26 aA
     replace hr30:=hr30.kl hb26
     refine zcA 8 12 aa ?_ ?_
     ·
      refine zaU rfl rfl (zaj aa rfl) (hpt _ w26 hr30) ?_
      rintro _ w31 ⟨rfl,hb31⟩
      have hS919:=hS918.add0 hb31
      refine⟨hS919,?_⟩
      replace hLL:=hLL.new hb31
      replace hx2:=hx2.new hb31
      replace hJ:=hJ.new hb31
      replace hL2:=hL2.new hb31
      replace hr30:=hr30.new hb31
      refine zas 9 (zab) (zas 10 (zai rfl rfl) (zas 11 (zai rfl rfl) (zaA 12 aa (zby rfl rfl (zar (List.replicate 512 (Value.int .u8 0)) aa (fun g7 w7 hg7 hr7 hb7=>?_))))))
      have hS920:=hS919.add0 hb7
      refine⟨hS920,?_⟩
      have ge_hS919_g7:=Nat.le_trans hS919.size hg7
      have lt_ga_g7:ga<g7:=Nat.lt_of_lt_of_le hx2.lt hg7
      have lt_g30_g7:g30<g7:=Nat.lt_of_lt_of_le hr30.lt hg7
      replace hLL:=hLL.new hb7
      replace hx2:=hx2.new hb7
      replace hJ:=hJ.newc hb7 hg7 hr7.lt
      replace hL2:=hL2.new hb7
      replace hr30:=hr30.new hb7
      refine zaA 13 aa (zbB rfl rfl (zaQ 512 (bv PU) hr7 (fun w922 hr7 ho922=>?_)))
      have hS921:=hS920.add1 ho922 aj
      refine⟨hS921,?_⟩
      replace hLL:=hLL.oq ho922
      replace hx2:=hx2.only ho922 (Nat.ne_of_lt lt_ga_g7)
      replace hJ:=hJ.only ho922 ai
      replace hL2:=hL2.only ho922 ax
      replace hr30:=hr30.only ho922 (Nat.ne_of_lt lt_g30_g7)
      refine zas 14 (zac) (zaI aa (za2 ⟨g7,⟨rfl,rfl,rfl,rfl,rfl,rfl,rfl⟩,hJ.weak (fun b hb=>by simp only[List.mem_cons]at hb ⊢;rcases hb with h|h<;>simp[h]),hx2,hLL,hL2⟩))
     ·
      refine zby rfl rfl (zar (List.replicate 512 (Value.int .u8 0)) aa (fun g7 w7 hg7 hr7 hb7=>?_))
      have hS923:=hS918.add0 hb7
      refine⟨hS923,?_⟩
      have ge_hS918_g7:=Nat.le_trans hS918.size hg7
      have lt_ga_g7:ga<g7:=Nat.lt_of_lt_of_le hx2.lt hg7
      have lt_g30_g7:g30<g7:=Nat.lt_of_lt_of_le hr30.lt hg7
      replace hLL:=hLL.new hb7
      replace hx2:=hx2.new hb7
      replace hJ:=hJ.newc hb7 hg7 hr7.lt
      replace hL2:=hL2.new hb7
      replace hr30:=hr30.new hb7
      refine zaA 8 aa (zaU rfl rfl (zaj aa rfl) (hpt _ w7 hr30) ?_)
      rintro _ w31 ⟨rfl,hb31⟩
      have hS924:=hS923.add0 hb31
      refine⟨hS924,?_⟩
      replace hLL:=hLL.new hb31
      replace hx2:=hx2.new hb31
      replace hJ:=hJ.new hb31
      replace hL2:=hL2.new hb31
      replace hr30:=hr30.new hb31
      replace hr7:=hr7.new hb31
      refine zas 9 (zab) (zas 10 (zai rfl rfl) (zas 11 (zai rfl rfl) (zaA 13 aa (zbB rfl rfl (zaQ 512 (bv PU) hr7 (fun w926 hr7 ho926=>?_))))))
      have hS925:=hS924.add1 ho926 aj
      refine⟨hS925,?_⟩
      replace hLL:=hLL.oq ho926
      replace hx2:=hx2.only ho926 (Nat.ne_of_lt lt_ga_g7)
      replace hJ:=hJ.only ho926 ai
      replace hL2:=hL2.only ho926 ax
      replace hr30:=hr30.only ho926 (Nat.ne_of_lt lt_g30_g7)
      refine zas 14 (zac) (zaI aa (za2 ⟨g7,⟨rfl,rfl,rfl,rfl,rfl,rfl,rfl⟩,hJ.weak (fun b hb=>by simp only[List.mem_cons]at hb ⊢;rcases hb with h|h<;>simp[h]),hx2,hLL,hL2⟩))
    ·
     refine zby rfl rfl (zar (List.replicate 512 (Value.int .u8 0)) aa (fun g7 w7 hg7 hr7 hb7=>?_))
     have hS927:=hS917.add0 hb7
     refine⟨hS927,?_⟩
     have ge_hS917_g7:=Nat.le_trans hS917.size hg7
     have lt_ga_g7:ga<g7:=Nat.lt_of_lt_of_le hx2.lt hg7
     have lt_g30_g7:g30<g7:=Nat.lt_of_lt_of_le hr30.lt hg7
     replace hLL:=hLL.new hb7
     replace hx2:=hx2.new hb7
     replace hJ:=hJ.newc hb7 hg7 hr7.lt
     replace hL2:=hL2.new hb7
     replace hr30:=hr30.new hb7
     refine zaA 3 aa (zaU rfl rfl (zaj aa rfl) (hget _ w7 hJ) ?_)
     rintro _ w26 ⟨rfl,hJ,hb26⟩
     have hS928:=hS927.zdh hn901 hb26.wk
     refine⟨hS928,?_⟩
     replace hLL:=hLL.lq hb26
     replace hx2:=hx2.kl hb26
     replace hL2:=hL2.ll hb26 aA
     replace hr30:=hr30.kl hb26
     replace hr7:=hr7.kl hb26
     refine zaA 8 aa (zaU rfl rfl (zaj aa rfl) (hpt _ w26 hr30) ?_)
     rintro _ w31 ⟨rfl,hb31⟩
     have hS929:=hS928.add0 hb31
     refine⟨hS929,?_⟩
     replace hLL:=hLL.new hb31
     replace hx2:=hx2.new hb31
     replace hJ:=hJ.new hb31
     replace hL2:=hL2.new hb31
     replace hr30:=hr30.new hb31
     replace hr7:=hr7.new hb31
     refine zas 9 (zab) (zas 10 (zai rfl rfl) (zas 11 (zai rfl rfl) (zaA 13 aa (zbB rfl rfl (zaQ 512 (bv PU) hr7 (fun w931 hr7 ho931=>?_))))))
     have hS930:=hS929.add1 ho931 aj
     refine⟨hS930,?_⟩
     replace hLL:=hLL.oq ho931
     replace hx2:=hx2.only ho931 (Nat.ne_of_lt lt_ga_g7)
     replace hJ:=hJ.only ho931 ai
     replace hL2:=hL2.only ho931 ax
     replace hr30:=hr30.only ho931 (Nat.ne_of_lt lt_g30_g7)
     refine zas 14 (zac) (zaI aa (za2 ⟨g7,⟨rfl,rfl,rfl,rfl,rfl,rfl,rfl⟩,hJ.weak (fun b hb=>by simp only[List.mem_cons]at hb ⊢;rcases hb with h|h<;>simp[h]),hx2,hLL,hL2⟩))
   ·
    refine zby rfl rfl (zar (List.replicate 512 (Value.int .u8 0)) aa (fun g7 w7 hg7 hr7 hb7=>?_))
    have hS932:=hS901.add0 hb7
    refine⟨hS932,?_⟩
    have ge_hS901_g7:=Nat.le_trans hS901.size hg7
    have sz_g7:=hLL.size
    have sz_g7:=hL2.size
    have lt_ga_g7:ga<g7:=Nat.lt_of_lt_of_le hx2.lt hg7
    replace hLL:=hLL.new hb7
    replace hx2:=hx2.new hb7
    replace hJ:=hJ.newc hb7 hg7 hr7.lt
    replace hL2:=hL2.new hb7
    refine zcA 3 7 aa ?_ ?_
    ·
     refine zaU rfl rfl (zaj aa rfl) (hget _ w7 hJ) ?_
     rintro _ w26 ⟨rfl,hJ,hb26⟩
     have hS933:=hS932.zdh hn901 hb26.wk
     refine⟨hS933,?_⟩
     replace hLL:=hLL.lq hb26
     replace hx2:=hx2.kl hb26
     replace hL2:=hL2.ll hb26 aA
     replace hr7:=hr7.kl hb26
     refine zaA 7 aa (zby rfl rfl (zeD (e:=5) z [zcK 0] 1 1 (zcK 0) aa aa ⟨_,rfl,rfl⟩ ⟨_,rfl,rfl⟩ ay ay ae ae (fun g30 w30 hg30 hr30 hb30=>?_)))
     have hS934:=hS933.add0 hb30
     refine⟨hS934,?_⟩
     have ge_hS933_g30:=Nat.le_trans hS933.size hg30
     have lt_ga_g30:ga<g30:=Nat.lt_of_lt_of_le hx2.lt hg30
     have lt_g7_g30:g7<g30:=Nat.lt_of_lt_of_le hr7.lt hg30
     replace hLL:=hLL.new hb30
     replace hx2:=hx2.new hb30
     replace hJ:=hJ.newc hb30 hg30 hr30.lt
     replace hL2:=hL2.new hb30
     replace hr7:=hr7.new hb30
     refine zaA 8 aa (zaU rfl rfl (zaj aa rfl) (hpt _ w30 hr30) ?_)
     rintro _ w31 ⟨rfl,hb31⟩
     have hS935:=hS934.add0 hb31
     refine⟨hS935,?_⟩
     replace hLL:=hLL.new hb31
     replace hx2:=hx2.new hb31
     replace hJ:=hJ.new hb31
     replace hL2:=hL2.new hb31
     replace hr7:=hr7.new hb31
     replace hr30:=hr30.new hb31
     refine zas 9 (zab) (zas 10 (zai rfl rfl) (zas 11 (zai rfl rfl) (zaA 13 aa (zbB rfl rfl (zaQ 512 (bv PU) hr7 (fun w937 hr7 ho937=>?_))))))
     have hS936:=hS935.add1 ho937 aj
     refine⟨hS936,?_⟩
     replace hLL:=hLL.oq ho937
     replace hx2:=hx2.only ho937 (Nat.ne_of_lt lt_ga_g7)
     replace hJ:=hJ.only ho937 ai
     replace hL2:=hL2.only ho937 ax
     replace hr30:=hr30.only ho937 (Nat.ne_of_gt lt_g7_g30)
     refine zas 14 (zac) (zaI aa (za2 ⟨g7,⟨rfl,rfl,rfl,rfl,rfl,rfl,rfl⟩,hJ.weak (fun b hb=>by simp only[List.mem_cons]at hb ⊢;rcases hb with h|h<;>simp[h]),hx2,hLL,hL2⟩))
    ·
     refine zby rfl rfl (zeD (e:=5) z [zcK 0] 1 1 (zcK 0) aa aa ⟨_,rfl,rfl⟩ ⟨_,rfl,rfl⟩ ay ay ae ae (fun g30 w30 hg30 hr30 hb30=>?_))
     have hS938:=hS932.add0 hb30
     refine⟨hS938,?_⟩
     have ge_hS932_g30:=Nat.le_trans hS932.size hg30
     have lt_ga_g30:ga<g30:=Nat.lt_of_lt_of_le hx2.lt hg30
     have lt_g7_g30:g7<g30:=Nat.lt_of_lt_of_le hr7.lt hg30
     replace hLL:=hLL.new hb30
     replace hx2:=hx2.new hb30
     replace hJ:=hJ.newc hb30 hg30 hr30.lt
     replace hL2:=hL2.new hb30
     replace hr7:=hr7.new hb30
     refine zaA 3 aa (zaU rfl rfl (zaj aa rfl) (hget _ w30 hJ) ?_)
     rintro _ w26 ⟨rfl,hJ,hb26⟩
     have hS939:=hS938.zdh hn901 hb26.wk
     refine⟨hS939,?_⟩
     replace hLL:=hLL.lq hb26
     replace hx2:=hx2.kl hb26
     replace hL2:=hL2.ll hb26 aA
     replace hr7:=hr7.kl hb26
     replace hr30:=hr30.kl hb26
     refine zaA 8 aa (zaU rfl rfl (zaj aa rfl) (hpt _ w26 hr30) ?_)
     rintro _ w31 ⟨rfl,hb31⟩
     have hS940:=hS939.add0 hb31
     refine⟨hS940,?_⟩
     replace hLL:=hLL.new hb31
     replace hx2:=hx2.new hb31
     replace hJ:=hJ.new hb31
     replace hL2:=hL2.new hb31
     replace hr7:=hr7.new hb31
     replace hr30:=hr30.new hb31
     refine zas 9 (zab) (zas 10 (zai rfl rfl) (zas 11 (zai rfl rfl) (zaA 13 aa (zbB rfl rfl (zaQ 512 (bv PU) hr7 (fun w942 hr7 ho942=>?_))))))
     have hS941:=hS940.add1 ho942 aj
     refine⟨hS941,?_⟩
     replace hLL:=hLL.oq ho942
     replace hx2:=hx2.only ho942 (Nat.ne_of_lt lt_ga_g7)
     replace hJ:=hJ.only ho942 ai
     replace hL2:=hL2.only ho942 ax
     replace hr30:=hr30.only ho942 (Nat.ne_of_gt lt_g7_g30)
     refine zas 14 (zac) (zaI aa (za2 ⟨g7,⟨rfl,rfl,rfl,rfl,rfl,rfl,rfl⟩,hJ.weak (fun b hb=>by simp only[List.mem_cons]at hb ⊢;rcases hb with h|h<;>simp[h]),hx2,hLL,hL2⟩))
  ·
   rintro g7 f7 w7 ⟨hJ,hx2,hLL,hL2⟩
   refine zah (zaa (zad (zab) (zad (za5 rfl rfl) (zae (zaf (za0 rfl (fun hE2=>?_) (fun hE2=>?_)))))))
   ·
    refine zah (zaa (zad (zab) (zad (zaG rfl (Ld.zb9 (k:=2) hx2 aa aa rfl)) (zao rfl (zaj aa rfl) (htk _ w7 hJ) ?_))))
    rintro _ w38 ⟨hJ,hb38⟩
    replace hLL:=hLL.lq hb38
    replace hx2:=hx2.kl hb38
    replace hL2:=hL2.ll hb38 aA
    refine zae (zaf (zah (zaa (zad (zab) (zad (zab) (zad (zaG rfl (Ld.zeC (hx1W _ hLL) aa rfl)) (zcQ rfl (zaj aa rfl) (hcl _ _ _ w38 hJ (hsW _ hLL) bf) ((fun c w' ⟨h1,h2,⟨G3,F3,h3⟩,h4⟩=>zbs ⟨by rw[if_pos ae];unfold zgk;rw[h1],h2,⟨G3,F3,h3.weak fun b hb=>by simp[hb]⟩,hLL.ll h4 fun b hb=>by simp[hb]⟩)) ?_)))))))
    rintro _ w42 ⟨c9,H9,fl9,hc9,hJ9,hv9,hb42⟩
    replace hLL:=hLL.lq hb42
    have hO:=hT.1.zlN hN hl2 hc9
    obtain⟨l9,fl8,hI9,hci9,-⟩:=hO
    have hcn:=hci9.len
    have hobt:=hv9.form' ae
    obtain⟨gv,ov,cv,rfl,hv91,hv92,hv93⟩:=hobt
    have hlay:=layH hJ9 hI9.rk (some ⟨gv,ov,none⟩) cv c9 hv9.sl hcn.1 hcn.2 (fun c o e=>by cases e;exact .inr aJ)
    refine zcQ rfl (zaj aa rfl) (hlay) ((fun c w' ⟨h1,h2,⟨G3,F3,h3⟩,h4⟩=>zbs ⟨by rw[if_pos ae];unfold zgk;rw[hc9];exact h1,h2,⟨G3,F3,h3.weak fun b hb=>by simp[hb]⟩,hLL.ll h4 fun b hb=>by simp[hb]⟩)) ?_
    rintro _ w43 ⟨m',s',H10,fl10,hl10,rfl,hJ10,hb43⟩
    replace hLL:=hLL.ll hb43 (fun b hb=>by simp[hb])
    have hJ11:=hJ10.weak (L2:=L) (fun b hb=>by simp[hb])
    have hc:=hJ11.cell
    obtain⟨hx3,hlo1,hnL1⟩:=hc
    refine zaK rfl (zaQ 2 ([.int .i64 (m':Int), .int .i64 (s':Int)]) hx3 (fun w943 hx3 ho943=>?_))
    replace hLL:=hLL.oq ho943
    have hJ12:=hJ11.setc hx3 ho943
    refine zae (zaf (zaF (zaW (zmA [] trivial ?_))))
    exact⟨m',s',H10,fl10,_,_,by rw[if_pos ae];unfold zgk;rw[hc9];exact hl10, .inl ⟨rfl,rfl⟩,hJ12,hLL⟩
   ·
    have hE0:E=0:=by omega
    subst hE0
    simp only[show¬(0:Nat)=8 by decide,if_false]
    have hput:∀ c9 H2,cellS N b HD=some (c9,H2)→c9.length≤400→Good (zbX (H.S m) s c9)∧∀ gv ov cv w',zaS w' (some ⟨gv,ov,none⟩) c9.length 1 (bv c9)→Calls Tryz.prog 43 [.agg (bv Q).toArray, .int .i64 (s:Int), .slice (some ⟨gv,ov,none⟩) c9.length cv].toArray w' (Ret fun v w2=>v= .tuple #[.agg (bv (zay (zbX (H.S m) s c9))).toArray, .int .i64 0]∧Below w'.heap.size w' w2):=fun c9 H2 hc9 h4=>by
      have hE9:zcg (H.S m) s c9=0:=by rw[←hE];exact zkZ (by rw[zk1 hc9,hz,List.length_replicate])
      have hsl:s<(H.S m).slots.length:=(List.getElem?_eq_some_iff.1 hc0).1
      refine⟨zhQ hgU ae h4 (by unfold zcg at hE9;split at hE9;cases hE9;omega),fun gv ov cv w' hsv=>?_⟩
      have h3:=put30 (H.S m) (s:Int) (some ⟨gv,ov,none⟩) cv c9 w' hgU hsv
      have e:putE (H.S m) (s:Int) c9=0:=by
        unfold putE
        rw[if_neg ae,zft hc0,if_pos rfl,Int.toNat_natCast,hE9]
      rw[putG,e,if_pos rfl,hQ,Int.toNat_natCast]at h3
      exact h3
    have hgX:∀ H2 fl2 L' w',H2.S m=H.S m→m<H2.F.fresh→JH q jb mw N G0 V k H2 fl2 (zcV Y g [v0,v1] 38) lo L' w'→Calls Tryz.prog 44 [.pointer (some ⟨jb,0,none⟩), .int .i64 (m:Int)].toArray w' (Ret fun v w2=>v= .agg (bv Q).toArray∧JH q jb mw N G0 V k H2 fl2 (zcV Y g [v0,v1] 38) lo L' w2∧LoL lo L' w' w2):=fun H2 fl2 L' w' e1 e2 h'=>by
      have h3:=getH h' m hma.1 e2
      rw[e1,hQ]at h3
      exact h3
    have hSm:=hsm
    have hFm:m<HD.F.fresh:=by rw[hdF];exact hma.2.1
    refine zat (zaf (zah (zaa (zad (zab) (zad (zab) (zao rfl (zaj aa rfl) (hdr _ _ _ w7 hJ (hsqW _ hL2) hcc) ?_))))))
    rintro _ w46 ⟨hJ,hb46⟩
    replace hLL:=hLL.lq hb46
    replace hx2:=hx2.kl hb46
    replace hL2:=hL2.ll hb46 aA
    have hJ:=hJ.weak (L2:=L) (fun b hb=>by simp[hb])
    have hx1:=hx1W _ hLL
    refine zae (zaf (zgQ (α:=Nat) (fun g9=>[(0, .pointer (some ⟨jb,0,none⟩)),(2, .pointer (some ⟨ga,0,none⟩)),(9, .pointer (some ⟨g9,0,none⟩)),(10, .int .i64 0)]) (fun g9 w'=>∃ c9 H2 fl2,cellS N b HD=some (c9,H2)∧m<H2.F.fresh∧m∉fl2∧Good (zbX (H.S m) s c9)∧row w' g9 (bv (zay (zbX (H.S m) s c9))) 62∧JH q jb mw N G0 V k H2 fl2 (zcV Y g [v0,v1] 38) lo (g9::L) w'∧row w' ga [.int .i64 (m:Int), .int .i64 (s:Int)] 38∧LoL lo L w w') ?_ ?_))
    ·
     refine zct (lo) (L) aa ?_
     intro w944 hb944 hn944 hS944
     replace hLL:=hLL.new hb944
     replace hx2:=hx2.new hb944
     replace hJ:=hJ.new hb944
     replace hx1:=hx1.new hb944
     have hLL_d944:=hLL
     have hx2_d944:=hx2
     have hJ_d944:=hJ
     have hx1_d944:=hx1
     refine zas 0 (zab) (zas 1 (zaw 0) (zbo 2 (fun w' hS'=>zau (hx2_d944.kL hS')) (zas 4 (zaw 1) (zbo 5 (fun w' hS'=>zau (hx2_d944.kL hS')) (zas 6 (zab) (zbo 7 (fun w' hS'=>zau (hx1_d944.kL hS')) (zcA 3 13 aa ?_ ?_)))))))
     ·
      refine zaU rfl rfl (zaj aa rfl) (hgX _ _ _ w944 hSm hFm hJ) ?_
      rintro _ w51 ⟨rfl,hJ,hb51⟩
      have hS945:=hS944.zdh hn944 hb51.wk
      refine⟨hS945,?_⟩
      replace hLL:=hLL.lq hb51
      replace hx2:=hx2.kl hb51
      replace hx1:=hx1.kl hb51
      refine zcA 8 13 aa ?_ ?_
      ·
       refine zlH rfl rfl (zaj aa rfl) (hcl _ _ _ w51 hJ (hsW _ hLL) bf) ((fun c w' ⟨h1,h2,⟨G3,F3,h3⟩,h4⟩ f=>zbs ⟨by rw[h1],h2,⟨G3,F3,h3.weak fun b hb=>by simp[hb]⟩,hLL.ll h4 fun b hb=>by simp[hb]⟩)) ?_
       rintro _ w56 ⟨c9,H2,fl2,hc9,hJ,hv9,hb56⟩
       have hS946:=hS945.zdh hn944 hb56.wk
       refine⟨hS946,?_⟩
       replace hLL:=hLL.lq hb56
       replace hx2:=hx2.kl hb56
       replace hx1:=hx1.kl hb56
       have hobt:=hD.zlN hN hl2 hc9
       obtain⟨l9,fl8,hI9,hci9,hrlS,hfr9,-⟩:=hobt
       have hcn:=hci9.len
       have hSm:H2.S m=H.S m:=(hrlS m hm).trans hSm
       have hFm:m<H2.F.fresh:=Nat.lt_of_lt_of_le hFm hfr9
       have hfm:m∉fl2:=fun hx=>by have:=(hJ.ok.fk m hx).2.2;rw[hSm]at this;omega
       have hobt:=hput c9 H2 hc9 hcn.2
       obtain⟨hgd,hpt2⟩:=hobt
       have hobt:=hv9.form' ae
       obtain⟨gv,ov,cv,rfl,hv91,hv92,hv93⟩:=hobt
       have hsv:=hv9.sl
       have hPl2:=zaR hgd
       refine zcA 9 13 aa ?_ ?_
       ·
        refine zaU rfl rfl (zaj aa rfl) (hpt2 _ _ _ w56 hsv) ?_
        rintro _ w57 ⟨rfl,hb57⟩
        have hS947:=hS946.add0 hb57
        refine⟨hS947,?_⟩
        replace hLL:=hLL.new hb57
        replace hx2:=hx2.new hb57
        replace hJ:=hJ.new hb57
        replace hx1:=hx1.new hb57
        refine zas 10 (zab) (zas 11 (zai rfl rfl) (zas 12 (zai rfl rfl) (zaA 13 aa (zby rfl rfl (zar (List.replicate 512 (Value.int .u8 0)) aa (fun g9 w9 hg9 hr9 hb9=>?_))))))
        have hS948:=hS947.add0 hb9
        refine⟨hS948,?_⟩
        have ge_hS947_g9:=Nat.le_trans hS947.size hg9
        have sz_g9:=hLL.size
        have lt_ga_g9:ga<g9:=Nat.lt_of_lt_of_le hx2.lt hg9
        have lt_gb_g9:gb<g9:=Nat.lt_of_lt_of_le hx1.lt hg9
        replace hLL:=hLL.new hb9
        replace hx2:=hx2.new hb9
        replace hJ:=hJ.newc hb9 hg9 hr9.lt
        replace hx1:=hx1.new hb9
        refine zaA 14 aa (zbB rfl rfl (zdY 512 ((bv (zay (zbX (H.S m) s c9)))) rfl rfl hr9 aa aR aP aO (fun w950 hr9 ho950=>?_)))
        have hS949:=hS948.add1 ho950 aj
        refine⟨hS949,?_⟩
        replace hLL:=hLL.oq ho950
        replace hx2:=hx2.only ho950 (Nat.ne_of_lt lt_ga_g9)
        replace hJ:=hJ.only ho950 ai
        replace hx1:=hx1.only ho950 (Nat.ne_of_lt lt_gb_g9)
        refine zas 15 (zac) (zaI aa (za2 ⟨g9,⟨rfl,rfl,rfl,rfl,rfl⟩,c9,H2,fl2,hc9,hFm,hfm,hgd,hr9,hJ.weak (fun b hb=>by rcases List.mem_cons.1 hb with h|h<;>simp[h]),hx2,hLL⟩))
       ·
        refine zby rfl rfl (zar (List.replicate 512 (Value.int .u8 0)) aa (fun g9 w9 hg9 hr9 hb9=>?_))
        have hS951:=hS946.add0 hb9
        refine⟨hS951,?_⟩
        have ge_hS946_g9:=Nat.le_trans hS946.size hg9
        have sz_g9:=hLL.size
        have lt_ga_g9:ga<g9:=Nat.lt_of_lt_of_le hx2.lt hg9
        have lt_gb_g9:gb<g9:=Nat.lt_of_lt_of_le hx1.lt hg9
        replace hLL:=hLL.new hb9
        replace hx2:=hx2.new hb9
        replace hJ:=hJ.newc hb9 hg9 hr9.lt
        replace hx1:=hx1.new hb9
        replace hsv:=hsv.new hb9
        refine zaA 9 aa (zaU rfl rfl (zaj aa rfl) (hpt2 _ _ _ w9 hsv) ?_)
        rintro _ w57 ⟨rfl,hb57⟩
        have hS952:=hS951.add0 hb57
        refine⟨hS952,?_⟩
        replace hLL:=hLL.new hb57
        replace hx2:=hx2.new hb57
        replace hJ:=hJ.new hb57
        replace hx1:=hx1.new hb57
        replace hr9:=hr9.new hb57
        refine zas 10 (zab) (zas 11 (zai rfl rfl) (zas 12 (zai rfl rfl) (zaA 14 aa (zbB rfl rfl (zdY 512 ((bv (zay (zbX (H.S m) s c9)))) rfl rfl hr9 aa aR aP aO (fun w954 hr9 ho954=>?_))))))
        have hS953:=hS952.add1 ho954 aj
        refine⟨hS953,?_⟩
        replace hLL:=hLL.oq ho954
        replace hx2:=hx2.only ho954 (Nat.ne_of_lt lt_ga_g9)
        replace hJ:=hJ.only ho954 ai
        replace hx1:=hx1.only ho954 (Nat.ne_of_lt lt_gb_g9)
        refine zas 15 (zac) (zaI aa (za2 ⟨g9,⟨rfl,rfl,rfl,rfl,rfl⟩,c9,H2,fl2,hc9,hFm,hfm,hgd,hr9,hJ.weak (fun b hb=>by rcases List.mem_cons.1 hb with h|h<;>simp[h]),hx2,hLL⟩))
      ·
       refine zby rfl rfl (zar (List.replicate 512 (Value.int .u8 0)) aa (fun g9 w9 hg9 hr9 hb9=>?_))
       have hS955:=hS945.add0 hb9
       refine⟨hS955,?_⟩
       have ge_hS945_g9:=Nat.le_trans hS945.size hg9
       have sz_g9:=hLL.size
       have lt_ga_g9:ga<g9:=Nat.lt_of_lt_of_le hx2.lt hg9
       have lt_gb_g9:gb<g9:=Nat.lt_of_lt_of_le hx1.lt hg9
       replace hLL:=hLL.new hb9
       replace hx2:=hx2.new hb9
       replace hJ:=hJ.newc hb9 hg9 hr9.lt
       replace hx1:=hx1.new hb9
       refine zaA 8 aa (zlH rfl rfl (zaj aa rfl) (hcl _ _ _ w9 hJ (hsW _ hLL) bf) ((fun c w' ⟨h1,h2,⟨G3,F3,h3⟩,h4⟩ f=>zbs ⟨by rw[h1],h2,⟨G3,F3,h3.weak fun b hb=>by simp[hb]⟩,hLL.ll h4 fun b hb=>by simp[hb]⟩)) ?_)
       rintro _ w56 ⟨c9,H2,fl2,hc9,hJ,hv9,hb56⟩
       have hS956:=hS955.zdh hn944 hb56.wk
       refine⟨hS956,?_⟩
       replace hLL:=hLL.lq hb56
       replace hx2:=hx2.kl hb56
       replace hx1:=hx1.kl hb56
       replace hr9:=hr9.kl hb56
       have hobt:=hD.zlN hN hl2 hc9
       obtain⟨l9,fl8,hI9,hci9,hrlS,hfr9,-⟩:=hobt
       have hcn:=hci9.len
       have hSm:H2.S m=H.S m:=(hrlS m hm).trans hSm
       have hFm:m<H2.F.fresh:=Nat.lt_of_lt_of_le hFm hfr9
       have hfm:m∉fl2:=fun hx=>by have:=(hJ.ok.fk m hx).2.2;rw[hSm]at this;omega
       have hobt:=hput c9 H2 hc9 hcn.2
       obtain⟨hgd,hpt2⟩:=hobt
       have hobt:=hv9.form' ae
       obtain⟨gv,ov,cv,rfl,hv91,hv92,hv93⟩:=hobt
       have hsv:=hv9.sl
       have hPl2:=zaR hgd
       refine zaA 9 aa (zaU rfl rfl (zaj aa rfl) (hpt2 _ _ _ w56 hsv) ?_)
       rintro _ w57 ⟨rfl,hb57⟩
       have hS957:=hS956.add0 hb57
       refine⟨hS957,?_⟩
       replace hLL:=hLL.new hb57
       replace hx2:=hx2.new hb57
       replace hJ:=hJ.new hb57
       replace hx1:=hx1.new hb57
       replace hr9:=hr9.new hb57
       refine zas 10 (zab) (zas 11 (zai rfl rfl) (zas 12 (zai rfl rfl) (zaA 14 aa (zbB rfl rfl (zdY 512 ((bv (zay (zbX (H.S m) s c9)))) rfl rfl hr9 aa aR aP aO (fun w959 hr9 ho959=>?_))))))
       have hS958:=hS957.add1 ho959 aj
       refine⟨hS958,?_⟩
       replace hLL:=hLL.oq ho959
       replace hx2:=hx2.only ho959 (Nat.ne_of_lt lt_ga_g9)
       replace hJ:=hJ.only ho959 ai
       replace hx1:=hx1.only ho959 (Nat.ne_of_lt lt_gb_g9)
       refine zas 15 (zac) (zaI aa (za2 ⟨g9,⟨rfl,rfl,rfl,rfl,rfl⟩,c9,H2,fl2,hc9,hFm,hfm,hgd,hr9,hJ.weak (fun b hb=>by rcases List.mem_cons.1 hb with h|h<;>simp[h]),hx2,hLL⟩))
     ·
      refine zby rfl rfl (zar (List.replicate 512 (Value.int .u8 0)) aa (fun g9 w9 hg9 hr9 hb9=>?_))
      have hS960:=hS944.add0 hb9
      refine⟨hS960,?_⟩
      have ge_hS944_g9:=Nat.le_trans hS944.size hg9
      have sz_g9:=hLL.size
      have lt_ga_g9:ga<g9:=Nat.lt_of_lt_of_le hx2.lt hg9
      have lt_gb_g9:gb<g9:=Nat.lt_of_lt_of_le hx1.lt hg9
      replace hLL:=hLL.new hb9
      replace hx2:=hx2.new hb9
      replace hJ:=hJ.newc hb9 hg9 hr9.lt
      replace hx1:=hx1.new hb9
      refine zaA 3 aa (zaU rfl rfl (zaj aa rfl) (hgX _ _ _ w9 hSm hFm hJ) ?_)
      rintro _ w51 ⟨rfl,hJ,hb51⟩
      have hS961:=hS960.zdh hn944 hb51.wk
      refine⟨hS961,?_⟩
      replace hLL:=hLL.lq hb51
      replace hx2:=hx2.kl hb51
      replace hx1:=hx1.kl hb51
      replace hr9:=hr9.kl hb51
      refine zaA 8 aa (zlH rfl rfl (zaj aa rfl) (hcl _ _ _ w51 hJ (hsW _ hLL) bf) ((fun c w' ⟨h1,h2,⟨G3,F3,h3⟩,h4⟩ f=>zbs ⟨by rw[h1],h2,⟨G3,F3,h3.weak fun b hb=>by simp[hb]⟩,hLL.ll h4 fun b hb=>by simp[hb]⟩)) ?_)
      rintro _ w56 ⟨c9,H2,fl2,hc9,hJ,hv9,hb56⟩
      have hS962:=hS961.zdh hn944 hb56.wk
      refine⟨hS962,?_⟩
      replace hLL:=hLL.lq hb56
      replace hx2:=hx2.kl hb56
      replace hx1:=hx1.kl hb56
      replace hr9:=hr9.kl hb56
      have hobt:=hD.zlN hN hl2 hc9
      obtain⟨l9,fl8,hI9,hci9,hrlS,hfr9,-⟩:=hobt
      have hcn:=hci9.len
      have hSm:H2.S m=H.S m:=(hrlS m hm).trans hSm
      have hFm:m<H2.F.fresh:=Nat.lt_of_lt_of_le hFm hfr9
      have hfm:m∉fl2:=fun hx=>by have:=(hJ.ok.fk m hx).2.2;rw[hSm]at this;omega
      have hobt:=hput c9 H2 hc9 hcn.2
      obtain⟨hgd,hpt2⟩:=hobt
      have hobt:=hv9.form' ae
      obtain⟨gv,ov,cv,rfl,hv91,hv92,hv93⟩:=hobt
      have hsv:=hv9.sl
      have hPl2:=zaR hgd
      refine zaA 9 aa (zaU rfl rfl (zaj aa rfl) (hpt2 _ _ _ w56 hsv) ?_)
      rintro _ w57 ⟨rfl,hb57⟩
      have hS963:=hS962.add0 hb57
      refine⟨hS963,?_⟩
      replace hLL:=hLL.new hb57
      replace hx2:=hx2.new hb57
      replace hJ:=hJ.new hb57
      replace hx1:=hx1.new hb57
      replace hr9:=hr9.new hb57
      refine zas 10 (zab) (zas 11 (zai rfl rfl) (zas 12 (zai rfl rfl) (zaA 14 aa (zbB rfl rfl (zdY 512 ((bv (zay (zbX (H.S m) s c9)))) rfl rfl hr9 aa aR aP aO (fun w965 hr9 ho965=>?_))))))
      have hS964:=hS963.add1 ho965 aj
      refine⟨hS964,?_⟩
      replace hLL:=hLL.oq ho965
      replace hx2:=hx2.only ho965 (Nat.ne_of_lt lt_ga_g9)
      replace hJ:=hJ.only ho965 ai
      replace hx1:=hx1.only ho965 (Nat.ne_of_lt lt_gb_g9)
      refine zas 15 (zac) (zaI aa (za2 ⟨g9,⟨rfl,rfl,rfl,rfl,rfl⟩,c9,H2,fl2,hc9,hFm,hfm,hgd,hr9,hJ.weak (fun b hb=>by rcases List.mem_cons.1 hb with h|h<;>simp[h]),hx2,hLL⟩))
    ·
     rintro g9 f9 w9 ⟨c9,H2,fl2,hc9,hFm2,hfm,hgd,hr9,hJ,hx2,hLL⟩
     have hPl9:=zaR hgd
     have hset:=fun L' w' (h':JH q jb mw N G0 V k H2 fl2 (zcV Y g [v0,v1] 38) lo L' w')=>setH h' m hma.1 hFm2 hfm hgd
     refine zah (zaa (zad (zab) (zao rfl (zaj aa rfl) (zif w9) ?_)))
     rintro _ _ ⟨rfl,rfl⟩
     refine zae (zaf (zaa (zad (zab) (zad (zaw 0) (zad (zau hx2) (zad (za7 512 hr9) (zao rfl (zaj aa rfl) (hset _ w9 hJ) ?_)))))))
     rintro _ w66 ⟨hJ,hb66⟩
     replace hLL:=hLL.lq hb66
     replace hx2:=hx2.kl hb66
     replace hr9:=hr9.kl hb66
     refine zae (zem [] trivial ?_)
     exact⟨m,s,_,fl2,v0,v1,by rw[hc9], .inr ⟨rfl,rfl,rfl,rfl⟩,hJ.weak (fun b hb=>by simp[hb]),hLL⟩
end
section
variable {Y:World→List Nat→Prop}[hYT:Thing Y]{q jb mw N lo:Nat}{L:List Nat}{G G0 V:Nat→Pg}{k:Nat}{H:HS}{fl rl:List Nat}{R:Nat→Nat→Prop}{P:Nat→Nat→List Nat}{B:Nat→Nat→List UInt8}{m s:Nat}{w:World}
set_option maxRecDepth 20000 in
omit hYT in
theorem put139L(gb ga g:Nat)(v:List Value)(p:Option Addr)(cap n:Nat)(h:JH q jb mw N G0 V k H fl (zcV Y g v 38) lo L w)(hx1:row w gb [.slice p n cap] 33)(hl2:20000<n):
  Calls Tryz.prog 41 [.pointer (some ⟨jb,0,none⟩), .pointer (some ⟨gb,0,none⟩), .pointer (some ⟨ga,0,none⟩), .pointer (some ⟨g,0,none⟩)].toArray w
  (zg2 (fun _ _=>False) (fun c w'=>c=pe (zdp 3)∧JF q jb mw N G0 V k (zcV Y g v 38) lo L w'∧LoL lo L w w')):=by
 have hsh:=fun w'=>shortP p n cap hl2 w'
 refine zb6 (fn:=Tryz.f41) (rs:=[]) (n:=67) Tryz.func41 rfl rfl Tryz.ntmps41 aa rfl (zah (zaa (zad (zau hx1) (zcQ rfl (zaj aa rfl) (hsh w) ((fun c w' ⟨h1,h2⟩=>zbs ⟨h1,by rw[←h2];exact h.fail,by rw[←h2];exact LoL.refl _ _ _⟩)) ?_))))
 rintro _ _ hF
 exact hF.elim
theorem putM (hb : Nat) (p : Option Addr) (cap : Nat) (b : List UInt8) (h : Two (GZ q N (pgH H) V k) Y lo L w) (hI : HI N H fl rl R P B []) (hF : Full H rl R) (hR : R m s) (hr : row w hb [.pointer (some ⟨q, 0, none⟩)] 50) (hbL : hb < lo ∨ hb ∈ L) (hs : zaS w p b.length 1 (bv b)) (hcap : b.length ≤ cap) (hpL : ∀ c o, p = some ⟨c, o, none⟩ → c < lo ∨ c ∈ L) :
   Calls Tryz.prog 12 [.pointer (some ⟨hb, 0, none⟩), .agg #[.int .i64 (m : Int), .int .i64 (s : Int)], .slice p b.length cap].toArray w (Ret fun v w' => ((20000 < b.length ∧ v = .tuple #[.agg #[.int .i64 0, .int .i64 0], .int .i64 3] ∧ Two (GZ q N (pgH H) V k) Y lo L w') ∨ (b.length ≤ 20000 ∧ zjJ N b H rl (P m s) m s = none ∧ v = .tuple #[.agg #[.int .i64 0, .int .i64 0], .int .i64 8] ∧ Two (GZ q N (pgH H) V k) Y lo L w') ∨
     (b.length ≤ 20000 ∧ ∃ m' s' H', zjJ N b H rl (P m s) m s = some (m', s', H') ∧ v = .tuple #[.agg #[.int .i64 (m' : Int), .int .i64 (s' : Int)], .int .i64 0] ∧ Two (GZ q N (pgH H') V k) Y lo L w')) ∧ LoL lo L w w') := by
 have hN := (zjv h).1
 have hLL := LoL.refl lo L w
 have hsW := fun W (hl : LoL lo L w W) => hs.kpd hl.kp fun c o e => zam (hpL c o e)
 have hL3 : ∀ a b c : Nat, ∀ x ∈ L, x ∈ a :: b :: c :: L := fun a b c x hx => by simp [hx]
 have hrun : ∀ ga gb g W L2, ga ∈ L2 → gb ∈ L2 → (∀ x ∈ L, x ∈ L2) → row W hb [.pointer (some ⟨q, 0, none⟩)] 50 → row W ga [.int .i64 (m : Int), .int .i64 (s : Int)] 38 → row W gb [.slice p b.length cap] 33 → zaS W p b.length 1 (bv b) → Two (GZ q N (pgH H) V k) (zcV Y g [.int .i64 (m : Int), .int .i64 (s : Int)] 38) lo L2 W → Calls Tryz.prog 34 [.pointer (some ⟨hb, 0, none⟩), .func (.func 41) #[] [.pointer (some ⟨gb, 0, none⟩), .pointer (some ⟨ga, 0, none⟩), .pointer (some ⟨g, 0, none⟩)].toArray].toArray W
     (Ret fun v w' => ∃ (e : Int) (m' s' : Nat) (H' : HS), v = .int .i64 e ∧ Two (GZ q N (pgH H') V k) (zcV Y g [.int .i64 (m' : Int), .int .i64 (s' : Int)] 38) lo L2 w' ∧ LoL lo L2 W w' ∧
      ((e = 3 ∧ 20000 < b.length ∧ H' = H) ∨ (e = 8 ∧ b.length ≤ 20000 ∧ zjJ N b H rl (P m s) m s = none ∧ H' = H) ∨ (e = 0 ∧ b.length ≤ 20000 ∧ zjJ N b H rl (P m s) m s = some (m', s', H')))) := fun ga gb g W L2 hga hgb hLs hr hra hrb hs h => by
   refine (zjB hb h hI.ok hr 41 [.pointer (some ⟨gb, 0, none⟩), .pointer (some ⟨ga, 0, none⟩), .pointer (some ⟨g, 0, none⟩)] (by kernel_rfl) (fun H' fl' Y' => ∃ m' s', b.length ≤ 20000 ∧ zjJ N b H rl (P m s) m s = some (m', s', H') ∧ Y' = zcV Y g [.int .i64 (m' : Int), .int .i64 (s' : Int)] 38)
     (fun e Y' => ((e = 3 ∧ 20000 < b.length) ∨ (e = 8 ∧ b.length ≤ 20000 ∧ zjJ N b H rl (P m s) m s = none)) ∧ Y' = zcV Y g [.int .i64 (m : Int), .int .i64 (s : Int)] 38)
     (fun H' fl' Y' ⟨_, _, _, _, e⟩ => by subst e; infer_instance) (fun e Y' ⟨_, e2⟩ => by subst e2; infer_instance) (fun H' fl' Y' ⟨_, _, h2, h3, _⟩ => by obtain ⟨_, _, _, _, _, _, h4, _⟩ := hI.zjJ hN hF hR h2 h3; exact h4) fun jb mw L' w' hs2 hl hJ => ?_).to fun v w' h => ?_
   · have hpL2 : ∀ c o, p = some ⟨c, o, none⟩ → c < lo ∨ c ∈ L2 := fun c o e => (hpL c o e).imp id (hLs _)
     have hsl : zaS w' p b.length 1 (bv b) := hs.kpd hl.kp fun c o e => zam (hpL2 c o e)
     by_cases hb2 : b.length ≤ 20000
     ·exact (put139 gb ga g _ _ p cap b hJ hI hF hR (hrb.kl hl (.inr hgb)) (hra.kl hl (.inr hga)) (hs2 _ hgb) (hs2 _ hga) hsl hcap hb2 fun c o e => (hpL2 c o e).imp id (hs2 _)).zkQ (fun v w2 ⟨m', s', H', fl', u0, u1, h1, h2, h3⟩ => ⟨H', fl', _, ⟨m', s', hb2, h1, by
       rcases h2 with ⟨rfl, rfl⟩ | ⟨rfl, rfl, rfl, rfl⟩
       ·rfl
       ·rfl⟩, h3⟩) fun c w2 ⟨h1, h2, h3, h4⟩ => ⟨8, _, ⟨.inr ⟨rfl, hb2, h1⟩, rfl⟩, h2, h3, h4⟩
     ·exact (put139L gb ga g _ p cap _ hJ (hrb.kl hl (.inr hgb)) (by omega)).zkQ (fun v w2 h => h.elim) fun c w2 ⟨h2, h3, h4⟩ => ⟨3, _, ⟨.inl ⟨rfl, by omega⟩, rfl⟩, h2, h3, h4⟩
   · rcases h with ⟨H', fl', Y', ⟨m', s', h1, h2, rfl⟩, h4, h3, h5, h6⟩ | ⟨e, Y', ⟨⟨rfl, h1⟩ | ⟨rfl, h1, h2⟩, rfl⟩, h3, h5, h6⟩
     ·exact ⟨0, m', s', H', h3, h5, h6, .inr (.inr ⟨rfl, h1, h2⟩)⟩
     ·exact ⟨3, m, s, H, h3, h5, h6, .inl ⟨rfl, h1, rfl⟩⟩
     ·exact ⟨8, m, s, H, h3, h5, h6, .inr (.inl ⟨rfl, h1, h2, rfl⟩)⟩
 refine zax (fn := Tryz.f12) (rs := [.cell 6 38, .tmp 7]) (n := 19) Tryz.func12 rfl rfl Tryz.ntmps12 (by kernel_rfl) rfl (zah (zaa (zaD rfl (za4 ([.int .i64 (m : Int), .int .i64 (s : Int)]) rfl (fun g4 w4 hg4 hr4 hb4 => ?_)))))
 have sz_g4 := hLL.size
 have lt_hb_g4 : hb < g4 := Nat.lt_of_lt_of_le hr.lt hg4
 replace hLL := hLL.new hb4
 replace hr := hr.new hb4
 replace h := h.newc hb4 hg4 hr4.lt
 refine zaD rfl (za4 ([.slice p b.length cap]) rfl (fun g5 w5 hg5 hr5 hb5 => ?_))
 have lt_hb_g5 : hb < g5 := Nat.lt_of_lt_of_le hr.lt hg5
 have lt_g4_g5 : g4 < g5 := Nat.lt_of_lt_of_le hr4.lt hg5
 replace hLL := hLL.new hb5
 replace hr := hr.new hb5
 replace h := h.newc hb5 hg5 hr5.lt
 replace hr4 := hr4.new hb5
 refine zaD rfl (zar ([Value.int .i64 0, Value.int .i64 0]) (by kernel_rfl) (fun g6 w6 hg6 hr6 hb6 => ?_))
 have lt_hb_g6 : hb < g6 := Nat.lt_of_lt_of_le hr.lt hg6
 have lt_g4_g6 : g4 < g6 := Nat.lt_of_lt_of_le hr4.lt hg6
 have lt_g5_g6 : g5 < g6 := Nat.lt_of_lt_of_le hr5.lt hg6
 replace hLL := hLL.new hb6
 replace hr := hr.new hb6
 replace h := h.newc hb6 hg6 hr6.lt
 replace hr4 := hr4.new hb6
 replace hr5 := hr5.new hb6
 refine zad (zac) (zae (zaf (zah ?_)))
 have hl4 := hr4.lt
 have hl5 := hr5.lt
 have hl6 := hr6.lt
 refine zaa (zad (zaG rfl (Ld.zb9 (k := 2) hr4 (by kernel_rfl) (by kernel_rfl) rfl)) ?_)
 have hp8 := h
 refine zaD rfl (zar ([Value.int .i64 0, Value.int .i64 0]) (by kernel_rfl) (fun g8 w8 hg8 hr8 hb8 => ?_))
 have lt_hb_g8 : hb < g8 := Nat.lt_of_lt_of_le hr.lt hg8
 have lt_g4_g8 : g4 < g8 := Nat.lt_of_lt_of_le hr4.lt hg8
 have lt_g5_g8 : g5 < g8 := Nat.lt_of_lt_of_le hr5.lt hg8
 have lt_g6_g8 : g6 < g8 := Nat.lt_of_lt_of_le hr6.lt hg8
 replace hLL := hLL.new hb8
 replace hr := hr.new hb8
 replace hr4 := hr4.new hb8
 replace hr5 := hr5.new hb8
 replace hr6 := hr6.new hb8
 have h8 := zfH hp8 hb8 hr8 hg8
 have hc := zdr h8
 obtain ⟨hx8, -⟩ := hc
 refine zaK rfl (zaQ 2 ([.int .i64 (m : Int), .int .i64 (s : Int)]) hx8 (fun w901 hx8 ho901 => ?_))
 replace hLL := hLL.oq ho901
 replace hr := hr.only ho901 (Nat.ne_of_lt lt_hb_g8)
 replace hr4 := hr4.only ho901 (Nat.ne_of_lt lt_g4_g8)
 replace hr5 := hr5.only ho901 (Nat.ne_of_lt lt_g5_g8)
 replace hr6 := hr6.only ho901 (Nat.ne_of_lt lt_g6_g8)
 have h9 := zg6 h8 hx8 ho901
 refine zae (zaf (zah (zaa (zad (zab) (zad (zbm) (zao rfl (zaj (by kernel_rfl) rfl) (hrun g4 g5 g8 w901 (g6 :: g5 :: g4 :: L) (by simp) (by simp) (hL3 _ _ _) hr hr4 hr5 (hsW _ hLL) h9) ?_))))))
 rintro _ w13 ⟨e, m', s', H2, rfl, h7, hb13, hcase⟩
 replace hLL := hLL.ll hb13 (fun b hb => by simp [hb])
 replace hr6 := hr6.kl hb13
 refine zad (zac) (zae (zaf (zah (zah (zaa (zad (zab) (zad (zaX rfl rfl) (zae (zaf (za0 rfl (fun hne => ?_) (fun hne => ?_)))))))))))
 ·
  refine zah (zaa (zad (zbN ([Value.int .i64 0, Value.int .i64 0]) (by kernel_rfl)) (zad (zab) (zaK rfl (zaQ 2 ([.int .i64 0, .int .i64 0]) hr6 (fun w902 hr6 ho902 => ?_))))))
  replace hLL := hLL.oq ho902
  replace h7 := h7.only ho902 (by first | (right; simp; done) | (left; omega) | (right; simp [*]; done))
  refine zad (zac) (zae (zaf (zaF (zaW (zan [_, _] ⟨⟨_, rfl, Ld.zb9 (k := 2) hr6 (by kernel_rfl) (by kernel_rfl) (by first | (simp; done) | (simp [zal, *]; done) | assumption)⟩, rfl, trivial⟩ ?_)))))
  have h10 := (zds h7).weak (L2 := L) fun b hb => by simp [hb]
  refine ⟨?_, hLL⟩
  rcases hcase with ⟨rfl, h1, rfl⟩ | ⟨rfl, h1, h2, rfl⟩ | ⟨rfl, _⟩
  · exact .inl ⟨h1, rfl, h10⟩
  · exact .inr (.inl ⟨h1, h2, rfl, h10⟩)
  · exact absurd rfl hne
 ·
  have hc := zdr h7
  obtain ⟨hx8, hlo6, hnL6⟩ := hc
  refine zat (zaf (zah (zaa (zad (zaG rfl (Ld.zb9 (k := 2) hx8 (by kernel_rfl) (by kernel_rfl) rfl)) (zaK rfl (zaQ 2 ([.int .i64 (m' : Int), .int .i64 (s' : Int)]) hr6 (fun w903 hr6 ho903 => ?_)))))))
  replace hLL := hLL.oq ho903
  replace h7 := h7.only ho903 (by first | (right; simp; done) | (left; omega) | (right; simp [*]; done))
  replace hx8 := hx8.only ho903 (Nat.ne_of_gt lt_g6_g8)
  refine zad (zac) (zae (zaf (zaF (zan [_, _] ⟨⟨_, rfl, Ld.zb9 (k := 2) hr6 (by kernel_rfl) (by kernel_rfl) (by first | (simp; done) | (simp [zal, *]; done) | assumption)⟩, rfl, trivial⟩ ?_))))
  have h10 := (zds h7).weak (L2 := L) fun b hb => by simp [hb]
  refine ⟨?_, hLL⟩
  rcases hcase with ⟨rfl, h1, rfl⟩ | ⟨rfl, h1, h2, rfl⟩ | ⟨rfl, h1, h2⟩
  · exact absurd (by decide) hne
  · exact absurd (by decide) hne
  · exact .inr (.inr ⟨h1, m', s', H2, h2, rfl, h10⟩)
end
def pres:Nat→List (Option (List UInt8))→List (Nat × List UInt8)
 |_,[]=>[]
 |i,none::S=>pres (i+1) S
 |i,some c::S=>(i,c)::pres (i+1) S
theorem pres_no{S:List (Option (List UInt8))}{i j:Nat}(h:S[i]?=some none):pres j (S.drop i)=pres (j+1) (S.drop (i+1)):=by
 have hi:=(List.getElem?_eq_some_iff.1 h).1
 rw[List.drop_eq_getElem_cons hi,(List.getElem?_eq_some_iff.1 h).2];rfl
theorem zqS{S:List (Option (List UInt8))}{i j:Nat}{c:List UInt8}(h:S[i]?=some (some c)):pres j (S.drop i)=(j,c)::pres (j+1) (S.drop (i+1)):=by
 have hi:=(List.getElem?_eq_some_iff.1 h).1
 rw[List.drop_eq_getElem_cons hi,(List.getElem?_eq_some_iff.1 h).2];rfl
theorem zg7{S:List (Option (List UInt8))}{c:List UInt8}{i k:Nat}:∀ {T:List (Option (List UInt8))} {j:Nat},(pres j T)[k]?=some (i,c)→(∀ x,T[x]?=S[j+x]?)→S[i]?=some (some c):=by
 intro T
 induction T generalizing k with
 |nil=>intro j h;cases h
 |cons t T ih=>
  intro j h hT
  have hT2:∀ x,T[x]?=S[(j+1)+x]?:=fun x=>by have:=hT (x+1);rw[List.getElem?_cons_succ]at this;rw[this];congr 1;omega
  cases t with
  |none=>exact ih (j:=j+1) h hT2
  |some c'=>
   cases k with
   |zero=>
    have e:(j,c')=(i,c):=Option.some.inj h
    cases e
    exact(hT 0).symm
   |succ k=>exact ih (j:=j+1) h hT2
def PaV(S:List (Option (List UInt8)))(t:List Nat)(k:Nat)(v:List Value)(w:World)(Lx _Ea:List Nat):Prop:=t=Lx∧∃ i c g o cap,(pres 0 S)[k]?=some (i,c)∧v=[.int .i64 ((i:Nat):Int), .slice (some ⟨g,o,none⟩) c.length cap]∧zaS w (some ⟨g,o,none⟩) c.length 1 (bv c)∧g∈Lx∧c.length≤cap
set_option maxRecDepth 20000 in
set_option maxHeartbeats 1000000 in
theorem zpw{X:World→List Nat→Prop}[hX:Thing X]{lo:Nat}(U:View)(hU:Good U)(g1:Nat)(w:World)(r1:row w g1 (bv (zay U)) 62):
   SeqV Tryz.prog 109 [.pointer (some ⟨g1,0,none⟩)] (pres 0 U.slots).length (PaV U.slots) (fun t n w'=>∀ b∈t,n≤b∧b<w'.heap.size) [g1] X lo w:=by
 intro α Y hYT E ly J Jx W L hks hJ hJx hE hy a hT h0
 have r1W:row W g1 (bv (zay U)) 62:=(hks g1 ay).2.trans r1
 have hbl:=zaR hU
 have hB:=Below.refl W.heap.size W
 have hLt:=hT.lt
 have hV:=hU
 have hl125:U.slots.length≤125:=by have:=hU.size;unfold zb3 at this;omega
 refine zax (fn:=Tryz.f109) (rs:=[]) (n:=30) Tryz.func109 rfl rfl Tryz.ntmps109 aa rfl (zah (zaa (zad (za7 512 r1W) (zao rfl (zaj aa rfl) (zdy U W hV) ?_))))
 rintro _ w9 ⟨p,c,vs,rfl,hv,hb9⟩
 replace hB:=hB.acc hb9
 refine bS ?_
 have hv0:=hv
 refine zaD rfl (zar ([Value.int .i64 0,Value.int .i64 0,Value.slice none 0 0]) aa (fun g3 w3 hg3 hr3 hb3=>?_))
 have ge_hB_g3:=Nat.le_trans hB.size hg3
 replace hv:=hv.new hb3
 replace hB:=hB.acc hb3
 replace hv:=(hv0.cons hg3).new hb3
 refine zaK rfl (zaQ 3 (vw U p c) hr3 (fun w901 hr3 ho901=>?_))
 replace hv:=hv.only ho901 aB
 replace hB:=ho901.below hB ge_hB_g3
 refine zad (zac) (zae (zaf (zah (zaa (zad (zaw 2) (zad (zau hr3) (zad (zaB (e:=33) (sz:=1) aa rfl rfl) (zad (zab) (zae (zaf (zav ?_)))))))))))
 have hobt:∃ wb,wb=w901:=⟨_,rfl⟩
 obtain⟨wb,hwb⟩:=hobt
 rw[←hwb]at hv hB ⊢
 have hown:=hv.own
 have hsl:=hown.sl
 have hobt:∃ Lx,List.range' W.heap.size (wb.heap.size - W.heap.size)=Lx:=⟨_,rfl⟩
 obtain⟨Lx,hLx⟩:=hobt
 have hBs:=hB.size
 have hLm:∀ b,b∈Lx↔W.heap.size≤b∧b<wb.heap.size:=fun b=>by rw[←hLx,List.mem_range'_1];omega
 have hTb:=hT.zk8 hB (fun b hb=>(hLm b).1 hb)
 have hJb:=h0 Lx wb (fun b hb=>(hLm b).1 hb) (LoL.of_below hB)
 refine zbq (α:=Nat × Nat × α) (0,0,a) (fun k=>[(0, .func (.yield ly) #[] #[]),(13, .slice p U.slots.length c),(14, .int .i64 (U.slots.length:Int)),(15, .int .i64 (k.1:Int))])
   (fun k w'=>k.1≤U.slots.length∧k.2.1≤(pres 0 U.slots).length∧(pres 0 U.slots).drop k.2.1=pres k.1 (U.slots.drop k.1)∧Two X Y lo (Lx++(E k.2.2++L)) w'∧J Lx k.2.1 k.2.2 w'∧(∀ b∈Lx,w'.heap[b]?=wb.heap[b]?)∧wb.heap.size≤w'.heap.size) (fun k=>U.slots.length - k.1)
   ⟨rfl,rfl,rfl,rfl,rfl⟩ ⟨Nat.zero_le _,Nat.zero_le _,rfl,hTb,hJb,fun _ _=>rfl,Nat.le_refl _⟩ ?_
 rintro⟨i,k,a1⟩ f wr ⟨hi,hk,hd,hTr,hJr,hsm,hsz⟩
 dsimp only at*
 refine zah (zaa (zad (zaY rfl rfl) (zae (zaf (zah (za0 rfl (fun hlt=>?_) (fun hlt=>?_)))))))
 ·
  refine bL ?_
  have hobt:∃ s,U.slots[i]?=some s:=⟨_,List.getElem?_eq_getElem ae⟩
  obtain⟨s,hsi⟩:=hobt
  have hvv:=hv.slts.val hsi
  obtain⟨q,cq,hvq,hqs,hqn,hqc,hql⟩:=hvv
  have hobt:=hsl.some ae
  obtain⟨gs,os,rfl,hgs⟩:=hobt
  have hslr:=hsl.blk (hsm gs ((hLm gs).2 (hown.lt gs rfl))) hsz
  refine zaa (zad (zab) (zad (zaN (e:=33) aa rfl rfl (i) ae ae) (zad (zaG rfl (Ld.sl1 hslr aa hvq)) (zad (zac) (zad (zac) (zae (zaf (zah (zaa (zad (zab) (zad (zj1 (e:=5) aa rfl rfl) (zad (zab) (zec 22 rfl (fun hne=>?_) (fun hne=>?_))))))))))))))
  ·
   refine zaq rfl (zad (zab) (zaq rfl (zad (zab) (zaq rfl (zad (zab) (zaq rfl ?_))))))
   obtain⟨r,rfl⟩:∃ r,s=some r:=by
     cases s with
     |none=>rw[hqn.1 rfl]at hne;cases hne
     |some r=>exact⟨r,rfl⟩
   have hobt:=hv.slts.yes i r hsi
   obtain⟨gb,ob,cb,hv2,hsb,hbl2,-,hbg,hrc⟩:=hobt
   obtain⟨rfl,rfl⟩:q=some ⟨gb,ob,none⟩∧cq=cb:=by
     rw[hvq]at hv2
     have:=Option.some.inj hv2
     injection this with h1 h2 h3
     exact⟨h1,h3⟩
   have hpr:=zqS (j:=i) hsi
   rw[hpr]at hd
   have hpk:(pres 0 U.slots)[k]?=some (i,r):=by
     have:=congrArg (fun l=>l[0]?) hd
     simpa [List.getElem?_drop]using this
   have hkl:=(List.getElem?_eq_some_iff.1 hpk).1
   have hd2:(pres 0 U.slots).drop (k+1)=pres (i+1) (U.slots.drop (i+1)):=by
     have:=congrArg (List.drop 1) hd
     simpa [List.drop_drop,Nat.add_comm]using this
   have hgm:gb∈Lx:=(hLm gb).2 ⟨hbg,hbl2⟩
   have hYk:=hy Lx k [.int .i64 ((i:Nat):Int), .slice (some ⟨gb,ob,none⟩) r.length cq] a1 wr Lx hkl ⟨rfl,i,r,gb,ob,cq,hpk,rfl,hsb.blk (hsm gb hgm) hsz,hgm,hrc⟩ (fun b hb=>.inr ((hLm b).1 hb).1) hTr hJr
   refine zi3 (vl:=[.int .i64 ((i:Nat):Int), .slice (some ⟨gb,ob,none⟩) r.length cq]) rfl rfl hYk ?_
   rintro e wy (⟨rfl,⟨a2,hT2,hJ2⟩,hky,hsy⟩|⟨rfl,hJxy⟩)
   · refine⟨_,rfl,?_⟩
     refine zaq rfl (zad (zbK rfl) (zad (zaC rfl) (zae (zaf (W_f rfl (zat (zaP (zaf (zaa (zad (zaO rfl rfl (show IntKind.i64.wrap ((i:Int)+1)=((i+1:Nat):Int) by rw[w64 ae];omega)) (zad (zab) (zae (za2 ⟨(i+1,k+1,a2),by show U.slots.length - (i+1)<U.slots.length - i;omega,⟨rfl,rfl,rfl,rfl,rfl⟩,by show i+1≤_;omega,by show k+1≤_;omega,hd2,hT2,hJ2,fun b hb=>(hky b hb).trans (hsm b hb),Nat.le_trans hsz hsy⟩)))))))))))))
   · refine⟨_,rfl,?_⟩
     refine zaq rfl (zad (zbK rfl) (zad (zaC rfl) (zae (zaf (zpT rfl (rfl) (zaF (zbc (zaW (zeb (zbc (zan [] trivial ?_)))))))))))
     exact .inr hJxy
  ·
   have hs0:s=none:=by
     cases s with
     |none=>rfl
     |some r=>
      cases q with
      |none=>have:=hqn.2 rfl;cases this
      |some x=>cases hne
   subst hs0
   rw[pres_no hsi]at hd
   refine zaM rfl rfl (zaM rfl rfl (zaM rfl rfl (zaM rfl rfl (zaM rfl rfl (zad (zaE rfl) (zae (zaf (W_f rfl (zat (zaP (zaf (zaa (zad (zaO rfl rfl (show IntKind.i64.wrap ((i:Int)+1)=((i+1:Nat):Int) by rw[w64 ae];omega)) (zad (zab) (zae (za2 ⟨(i+1,k,a1),by show U.slots.length - (i+1)<U.slots.length - i;omega,⟨rfl,rfl,rfl,rfl,rfl⟩,by show i+1≤_;omega,hk,hd,hTr,hJr,hsm,hsz⟩))))))))))))))))
 ·
  have hie:i=U.slots.length:=by omega
  have hke:k=(pres 0 U.slots).length:=by
    rw[hie,List.drop_length]at hd
    have:=List.drop_eq_nil_iff.1 (show(pres 0 U.slots).drop k=[]from hd)
    omega
  refine zbh (zbC (zbH (zbl (zbk [] trivial ?_))))
  exact .inl ⟨Lx,a1,hTr.weak (fun b hb=>by simp only[List.mem_append]at hb ⊢;exact .inr hb),hke▸hJr⟩
class Kept (bl:List Nat) (F:World→Prop):Prop where
 kpd:∀ {w w':World} {M:List Nat},F w→Kp M w w'→(∀ b∈bl,b∉M)→F w'
def ziP(Y:World→List Nat→Prop)(bl:List Nat)(F:World→Prop):World→List Nat→Prop:=fun w C=>∃ C1,C=bl++C1∧Y w C1∧F w∧(∀ b∈bl,b<w.heap.size)∧∀ b∈bl,b∉C1
instance(Y:World→List Nat→Prop)[hY:Thing Y](bl:List Nat)(F:World→Prop)[hF:Kept bl F]:Thing (ziP Y bl F):=
 ⟨fun {w w' B M} ⟨C1,he,h1,h2,h3,h4⟩ k hM=>by
  subst he
  exact⟨C1,rfl,hY.kpd h1 k fun b hb=>hM b aH,hF.kpd h2 k fun b hb=>hM b aH,fun b hb=>Nat.lt_of_lt_of_le (h3 b hb) k.size,h4⟩,fun {w B} ⟨C1,he,h1,_,h3,_⟩ b hb=>by
  subst he
  rcases List.mem_append.1 hb with hb|hb
  ·exact h3 b hb
  ·exact hY.lt h1 b hb⟩
section
variable {X Y:World→List Nat→Prop}{lo:Nat}{L bl:List Nat}{w:World}{F:World→Prop}
theorem zeP(h:Two X Y lo (bl++L) w)(hF:F w)(hl:∀ b∈bl,lo≤b∧b∉L):Two X (ziP Y bl F) lo L w:=by
 obtain⟨⟨B,C,h1,h2,h3,h4⟩,h5,h6⟩:=h
 refine⟨⟨B,bl++C,h1,⟨C,rfl,h2,hF,fun b hb=>h6 b aH,fun b hb hm=>(h4 b hm).2 aH⟩,fun b hb=>⟨(h3 b hb).1,fun hm=>?_,fun hm=>(h3 b hb).2.2 aQ⟩,fun b hb=>?_⟩,h5,fun b hb=>h6 b aH⟩
 ·rcases List.mem_append.1 hm with hm|hm
  ·exact(h3 b hb).2.2 aQ
  ·exact(h3 b hb).2.1 hm
 ·rcases List.mem_append.1 hb with hb|hb
  ·exact hl b hb
  ·exact⟨(h4 b hb).1,fun hm=>(h4 b hb).2 aQ⟩
theorem zbr(h:Two X (ziP Y bl F) lo L w):Two X Y lo (bl++L) w∧F w∧∀ b∈bl,lo≤b∧b∉L:=by
 obtain⟨⟨B,C,h1,⟨C1,rfl,h2,hF,h3,h4⟩,h5,h6⟩,h7,h8⟩:=h
 refine⟨⟨⟨B,C1,h1,h2,fun b hb=>⟨(h5 b hb).1,fun hm=>(h5 b hb).2.1 aQ,fun hm=>?_⟩,fun b hb=>⟨(h6 b aH).1,fun hm=>?_⟩⟩,h7,fun b hb=>?_⟩,hF,fun b hb=>h6 b aH⟩
 ·rcases List.mem_append.1 hm with hm|hm
  ·exact(h5 b hb).2.1 aQ
  ·exact(h5 b hb).2.2 hm
 ·rcases List.mem_append.1 hm with hm|hm
  ·exact h4 b hm hb
  ·exact(h6 b aH).2 hm
 ·rcases List.mem_append.1 hb with hb|hb
  ·exact h3 b hb
  ·exact h8 b hb
end
structure zpx(w:World)(l:Nat):Prop where
 r:∃ r,w.heap[l]?=some (.loop r)
namespace zpx
variable {w w':World}{l:Nat}
theorem lt(h:zpx w l):l<w.heap.size:=let ⟨_,h⟩:=h.r;(Array.getElem?_eq_some_iff.1 h).1
theorem kpd{M:List Nat}(h:zpx w l)(k:Kp M w w')(hM:l∉M):zpx w' l:=let ⟨r,h2⟩:=h.r;⟨r,(k.block l h.lt hM).trans h2⟩
theorem new(h:zpx w l)(hb:Below w.heap.size w w'):zpx w' l:=h.kpd (M:=[]) (Kp.of_below hb) ay
theorem only{g:Nat}(h:zpx w l)(ho:Only g w w')(hg:l≠g):zpx w' l:=h.kpd (Kp.zaZ ho) bg
end zpx
set_option maxRecDepth 20000 in
theorem zpy(U:View)(hU:Good U)(w:World):Calls Tryz.prog 61 [.agg (bv (zay U)).toArray].toArray w
  (Ret fun v w'=>∃ g,v= .func (.func 109) #[] [.pointer (some ⟨g,0,none⟩)].toArray∧w.heap.size≤g∧row w' g (bv (zay U)) 62∧Below w.heap.size w w'):=by
 have hB:=Below.refl w.heap.size w
 have hbl:=zaR hU
 refine zax (fn:=Tryz.f61) (rs:=[.tmp 2]) (n:=4) Tryz.func61 rfl rfl Tryz.ntmps61 aa rfl (zah (zaa (zaD rfl (za4 ((bv (zay U))) rfl (fun g1 w1 hg1 hr1 hb1=>?_)))))
 replace hB:=hB.acc hb1
 refine dE ?_
 exact⟨g1,rfl,hg1,hr1,hB⟩
structure zpz(w:World)(bl:List Nat)(n:Nat)(xs:List Value):Prop where
 len:xs.length=n*3
 at_:∀ i,i<n→∃ (a b:Int) (p:Option Addr) (l:List UInt8) (c:Nat),(xs.drop (i*3)).take 3=[.int .i64 a, .int .i64 b, .slice p l.length c]∧zaS w p l.length 1 (bv l)∧(∀ g o,p=some ⟨g,o,none⟩→g∈bl)∧l.length≤c∧l.length≤20000
namespace zpz
variable {w w':World}{bl bl':List Nat}{n:Nat}{xs:List Value}
theorem nil(w:World)(bl:List Nat):zpz w bl 0 []:=⟨rfl,fun i h=>absurd h ae⟩
theorem kpd{M:List Nat}(h:zpz w bl n xs)(k:Kp M w w')(hM:∀ b∈bl,b∉M):zpz w' bl n xs:=⟨h.len,fun i hi=>by
 obtain⟨a,b,p,l,c,h1,h2,h3,h4⟩:=h.at_ i hi
 exact⟨a,b,p,l,c,h1,h2.kpd k fun g o e=>hM g (h3 g o e),h3,h4⟩⟩
theorem mono(h:zpz w bl n xs)(hb:∀ b∈bl,b∈bl'):zpz w bl' n xs:=⟨h.len,fun i hi=>by
 obtain⟨a,b,p,l,c,h1,h2,h3,h4⟩:=h.at_ i hi
 exact⟨a,b,p,l,c,h1,h2,fun g o e=>hb g (h3 g o e),h4⟩⟩
theorem snoc{a b:Int}{p:Option Addr}{l:List UInt8}{c:Nat}(h:zpz w bl n xs)(hs:zaS w p l.length 1 (bv l))(hp:∀ g o,p=some ⟨g,o,none⟩→g∈bl)(hlc:l.length≤c)(hl2:l.length≤20000):zpz w bl (n+1) (xs++[.int .i64 a, .int .i64 b, .slice p l.length c]):=⟨by rw[List.length_append,h.len];simp;omega,fun i hi=>by
 have hl:=h.len
 by_cases e:i<n
 ·obtain⟨a',b',p',l',c',h1,h2⟩:=h.at_ i e
  refine⟨a',b',p',l',c',?_,h2⟩
  rw[List.drop_append_of_le_length ae,List.take_append_of_le_length (by rw[List.length_drop];omega)]
  exact h1
 ·have e2:i=n:=by omega
  subst e2
  refine⟨a,b,p,l,c,?_,hs,hp,hlc,hl2⟩
  rw[←hl,List.drop_left];rfl⟩
end zpz
def AllF(ge:Nat)(bl:List Nat)(v:Value)(n:Nat)(xs:List Value)(w:World):Prop:=row w ge [v] 107∧zaz w 0 109 3 v n xs∧zpz w bl n xs
instance(ge:Nat)(bl:List Nat)(v:Value)(n:Nat)(xs:List Value):Kept (ge::(v.ownBlock.toList++bl)) (AllF ge bl v n xs):=
 ⟨fun {w w' M} ⟨h1,h2,h3⟩ k hM=>⟨h1.kpd k (hM _ ay),h2.kpd k fun g hm e=>hM g aV hm,h3.kpd k fun b hb=>hM b aH⟩⟩
def znG(H:HS)(rl:List Nat):Nat:=(rl.map fun m=>(pres 0 (H.S m).slots).length).sum
theorem zpA{H:HS}{rl:List Nat}{i m:Nat}(h:rl[i]?=some m):znG H (rl.take (i+1))=znG H (rl.take i)+(pres 0 (H.S m).slots).length:=by
 unfold znG
 rw[List.take_add_one,h]
 simp
theorem zg8:∀ (S:List (Option (List UInt8))) (i:Nat),(pres i S).length≤S.length
 |[],_=>Nat.le_refl _
 |none::S,i=>Nat.le_trans (zg8 S (i+1)) (Nat.le_succ _)
 |some _::S,i=>Nat.succ_le_succ (zg8 S (i+1))
theorem zpB{H:HS}:∀ {rl:List Nat},(∀ m∈rl,Good (H.S m))→znG H rl≤125*rl.length
 |[],_=>Nat.le_refl _
 |m::rl,h=>by
  have h1:=zpB (H:=H) (rl:=rl) fun a ha=>h a (by simp[ha])
  have h2:=zg8 (H.S m).slots 0
  have h3:=(h m ay).size
  unfold zb3 at h3
  show(pres 0 (H.S m).slots).length+znG H rl≤125*(rl.length+1)
  omega
def oN:Option Addr→List Nat
 |some ⟨g,_,none⟩=>[g]
 |_=>[]
theorem mem_oN{p:Option Addr}{g:Nat}:g∈oN p↔∃ o,p=some ⟨g,o,none⟩:=by
 rcases p with _|⟨g',o,_|r⟩
 ·simp[oN]
 ·simp[oN,eq_comm]
 ·simp[oN]
abbrev AllT:=Value × List Nat × Nat × List Value
def eA(a:AllT):List Nat:=a.1.ownBlock.toList++a.2.1
structure zlR(ge base:Nat)(av:Nat→Prop)(a:AllT)(w:World):Prop where
 f:AllF ge a.2.1 a.1 a.2.2.1 a.2.2.2 w
 nv:∀ b∈a.1.ownBlock.toList,b∉a.2.1
 av:∀ b∈eA a,base≤b∧av b
namespace zlR
variable {ge base:Nat}{av:Nat→Prop}{a:AllT}{w w':World}
theorem kpd{M:List Nat}(h:zlR ge base av a w)(k:Kp M w w')(hg:ge∉M)(hM:∀ b∈eA a,b∉M):zlR ge base av a w':=⟨Kept.kpd (bl:=ge::(a.1.ownBlock.toList++a.2.1)) h.f k (fun b hb=>(List.mem_cons.1 hb).elim (fun e=>e▸hg) (hM b)),h.nv,h.av⟩
theorem new(h:zlR ge base av a w)(hb:Below w.heap.size w w'):zlR ge base av a w':=h.kpd (M:=[]) (Kp.of_below hb) ay ay
theorem only{g:Nat}(h:zlR ge base av a w)(ho:Only g w w')(hg:ge≠g)(hE:g∉eA a):zlR ge base av a w':=h.kpd (Kp.zaZ ho) bg fun b hb hm=>hE (List.mem_singleton.1 hm▸hb)
theorem ll{lo:Nat}{L:List Nat}(h:zlR ge base av a w)(k:LoL lo L w w')(hg:ge<lo∨ge∈L)(hE:∀ b∈eA a,b∈L):zlR ge base av a w':=h.kpd k.kp (zam hg) fun b hb=>zam (.inr (hE b hb))
theorem imp{av':Nat→Prop}(h:zlR ge base av a w)(ha:∀ b∈eA a,av b→av' b):zlR ge base av' a w:=⟨h.f,h.nv,fun b hb=>⟨(h.av b hb).1,ha b hb (h.av b hb).2⟩⟩
end zlR
section
variable {Y:World→List Nat→Prop}[hYT:Thing Y]{q jb mw N lo:Nat}{L:List Nat}{G0 V:Nat→Pg}{k:Nat}{H:HS}{fl rl:List Nat}{R:Nat→Nat→Prop}{P:Nat→Nat→List Nat}{B:Nat→Nat→List UInt8}{w:World}
set_option maxRecDepth 20000 in
set_option maxHeartbeats 1000000 in
theorem all62(ge:Nat)(h:JH q jb mw N G0 V k H fl (zcV Y ge [.slice none 0 0] 107) lo L w)(hI:HI N H fl rl R P B [])(hF:Full H rl R):
  Calls Tryz.prog 62 [.pointer (some ⟨jb,0,none⟩), .pointer (some ⟨ge,0,none⟩)].toArray w
   (Ret fun _ w'=>∃ v bl xs,JH q jb mw N G0 V k H fl (ziP Y (ge::(v.ownBlock.toList++bl)) (AllF ge bl v (znG H rl) xs)) lo L w'∧LoL lo L w w'):=by
 obtain⟨hxe,hloe,hneL⟩:=h.cell
 have hN:=h.n48
 have hH:=h.ok
 have hfN:=hH.fN
 have hlo0:=h.lo'
 obtain⟨G,hG,hT0⟩:=h.ex
 have hT:=zds hT0
 have hli:=hI.rk.li hH hG
 have hls:=fun w'=>ziN (q:=q) (jb:=jb) (mw:=mw) (lo:=lo) (G0:=G0) (V:=V) (k0:=k) hli hfN w'
 obtain⟨c,hJ⟩:=zbL hT
 obtain⟨hjl9,hjL9⟩:=hJ.jl
 have hLL:=LoL.refl lo L w
 have hB:=Below.refl w.heap.size w
 have hj:=hJ.zg3
 have hel:=hxe.lt
 refine zax (fn:=Tryz.f62) (rs:=[]) (n:=36) Tryz.func62 rfl rfl Tryz.ntmps62 aa rfl (zah (zaa (zaD rfl (za4 ([_]) rfl (fun g2 w2 hg2 hr2 hb2=>?_)))))
 have ge_hB_g2:=Nat.le_trans hB.size hg2
 have lt_jb_g2:jb<g2:=Nat.lt_of_lt_of_le hj.lt hg2
 have lt_ge_g2:ge<g2:=Nat.lt_of_lt_of_le hxe.lt hg2
 replace hT:=hT.newc hb2 hg2 hr2.lt
 replace hj:=hj.new hb2
 replace hxe:=hxe.new hb2
 replace hB:=hB.acc hb2
 refine zae (zaf (zah (za3 [] aa ?_)))
 intro w901 hb901 hS901
 replace hT:=hT.new hb901
 replace hj:=hj.new hb901
 replace hxe:=hxe.new hb901
 replace hr2:=hr2.new hb901
 replace hB:=hB.acc hb901
 have hT_d901:=hT
 have hj_d901:=hj
 have hxe_d901:=hxe
 have hr2_d901:=hr2
 have hB_d901:=hB
 refine zbo 0 (fun w' hS'=>zau (hr2_d901.kq hS')) (zbo 1 (fun w' hS'=>zau (hr2_d901.kq hS')) (zas 2 (zak rfl) (zas 3 (zaw 0) (zas 4 (zaw 3) (zbo 5 (fun w' hS'=>zau (hj_d901.kq hS')) (zaA 6 aa ?_))))))
 have hl2:=hr2.lt
 refine zaU rfl rfl (zaj aa rfl) (hls w901) ?_
 rintro _ w15 ⟨gx1,gx2,gx3,rfl,hgs,hb15,hseq⟩
 have hT:=hT.zk8 hb15 hgs
 have hS902:=hS901.add0 hb15
 refine⟨hS902,?_⟩
 replace hj:=hj.new hb15
 replace hxe:=hxe.new hb15
 replace hr2:=hr2.new hb15
 replace hB:=hB.acc hb15
 refine zaI aa (zaf (zav ?_))
 have hks1:=hgs gx1 ay
 have hks2:=hgs gx2 ay
 have hks3:=hgs gx3 ay
 have hobt:∃ D,(w15).heap.size=D:=⟨_,rfl⟩
 obtain⟨D,hD⟩:=hobt
 have hBs:=hB.size
 have hxs:(liX H.S rl).length=rl.length:=by unfold liX;rw[List.length_map]
 have hobt:∃ L0,[gx1,gx2,gx3]++g2::ge::L=L0:=⟨_,rfl⟩
 obtain⟨L0,hL0⟩:=hobt
 have hT9:Two (JZ q jb mw N G0 G V k H.F) Y lo L0 w15:=by rw[←hL0];exact hT
 have hL0s:∀ b∈L,b∈L0:=fun b hb=>by rw[←hL0];simp[hb]
 have hL02:g2∈L0∧ge∈L0:=by rw[←hL0];simp
 refine zcT (τ:=Unit) (m:=(liX H.S rl).length) (V:=fun _ k v _ Lx Ea=>(liX H.S rl)[k]?=some v∧∀ b∈Ea,b∉Lx) (T0:=fun _ _ _=>True) (ps:=[16,17]) (L:=L0) (X:=JZ q jb mw N G0 G V k H.F) (Y:=Y) (α:=AllT) eA (D+1) [D] (fun rd h=>by rw[show rd=none from h,←hD];exact zen _ _) rfl aa (SeqZ.v hseq) (fun _ i v _ _ _ hv=>by have:=List.mem_of_getElem? hv.1;unfold liX at this;obtain⟨m,_,rfl⟩:=List.mem_map.1 this;rfl) aa ay (fun b hb=>by rw[←hL0];exact List.mem_append_left _ hb)
  (fun _ i a w'=>i≤rl.length∧a.2.2.1=znG H (rl.take i)∧zlR ge (D+2) (fun _=>True) a w'∧row w' g2 [.pointer (some ⟨jb,0,none⟩)] 81∧LoL lo L w w') (fun _ _=>False)
  ?_ ?_ (fun _ _ _ h=>h.elim) (fun _ _ _ h=>h.elim) ?_ (.slice none 0 0,[],0,[]) (show Two _ Y lo (eA (.slice none 0 0,[],0,[])++L0) _ from hT9) ?_ ?_ ?_ (fun c W' h=>h.elim)
 ·rintro _ i a W W' ⟨h1,h2,h3,h4,h5⟩ hk
  exact⟨h1,h2,h3.ll hk (.inr bu) (fun b hb=>by simp[hb]),h4.kl hk (.inr bu),h5.ll hk fun b hb=>by simp[hL0s b hb]⟩
 ·rintro _ i a W W' ⟨h1,h2,h3,h4,h5⟩ ho
  exact⟨h1,h2,h3.only ho ae (fun hm=>by have:=(h3.av _ hm).1;omega),h4.only ho ae,h5.only ho aG⟩
 ·rintro _ i a W ⟨h1,h2,h3,_⟩ b hb hm
  have:=(h3.av b hb).1
  simp only[List.mem_cons,List.not_mem_nil,or_false]at hm
  omega
 ·intro _ W' _ hl
  refine⟨Nat.zero_le _,rfl,zlR.ll (L:=eA (.slice none 0 0,[],0,[])++(D+1)::([D]++L0)) ⟨⟨hxe,zbp _ _ _ _,zpz.nil _ _⟩,fun b hb=>(by cases hb),fun b hb=>(by cases hb)⟩ hl (.inr bu) (fun b hb=>by simp[hb]),hr2.kl hl (.inr bu),(LoL.of_below hB).ll hl fun b hb=>by simp[hL0s b hb]⟩
 ·rintro _ i v a W1 Lx hkm ⟨hv,hEx⟩ hLx hT1 ⟨hi,hn,hA,hr2,hl1⟩ hsz1
  obtain⟨m,hm,rfl⟩:∃ m,rl[i]?=some m∧v=[.int .i64 (m:Int), .agg (bv (zay (H.S m))).toArray]:=by
   unfold liX at hv
   rw[List.getElem?_map]at hv
   have hobt:=Option.map_eq_some_iff.1 hv
   obtain⟨m,hm,e⟩:=hobt
   exact⟨m,hm,e.symm⟩
  have hil:i<rl.length:=(List.getElem?_eq_some_iff.1 hm).1
  have hmem:=List.mem_of_getElem? hm
  have hobt:=hli.at_ m hmem
  obtain⟨ha1,ha2,ha3,ha4⟩:=hobt
  have hQl:=zaR ha3.1
  have hpa:=fun w'=>zpy (H.S m) ha3.1 w'
  have hobt:∃ Q,zay (H.S m)=Q:=⟨_,rfl⟩
  obtain⟨Q,hQ⟩:=hobt
  simp only[hQ]at hpa hQl ⊢
  have hBa:=Below.refl W1.heap.size W1
  have hT1a:=hT1
  refine zah (zaa (zaD rfl (zar ([Value.int .i64 0]) aa (fun g3 w3 hg3 hr3 hb3=>?_))))
  have ge_hBa_g3:=Nat.le_trans hBa.size hg3
  replace hT1:=hT1.newc hb3 hg3 hr3.lt
  replace hBa:=hBa.acc hb3
  refine zaK rfl (zbn hr3 (fun w903 hr3 ho903=>?_))
  replace hT1:=hT1.only ho903 ai
  replace hBa:=ho903.below hBa ge_hBa_g3
  refine zae (zaf (zaa (zaD rfl (zar (List.replicate 512 (Value.int .u8 0)) aa (fun g4 w4 hg4 hr4 hb4=>?_)))))
  have ge_hBa_g4:=Nat.le_trans hBa.size hg4
  have lt_g3_g4:g3<g4:=Nat.lt_of_lt_of_le hr3.lt hg4
  replace hT1:=hT1.newc hb4 hg4 hr4.lt
  replace hr3:=hr3.new hb4
  replace hBa:=hBa.acc hb4
  refine zaK rfl (zaQ 512 (bv Q) hr4 (fun w904 hr4 ho904=>?_))
  replace hT1:=hT1.only ho904 ai
  replace hr3:=hr3.only ho904 (Nat.ne_of_lt lt_g3_g4)
  replace hBa:=ho904.below hBa ge_hBa_g4
  refine zae (⟨rfl,hBa,fun W2 hs hlp=>?_⟩)
  have hsa:=hBa.size
  have hss:=hs.size
  have hl3:=hr3.lt
  have hl4:=hr4.lt
  replace hr3:=hr3.only hs ae
  replace hr4:=hr4.only hs ae
  replace hT1:=hT1.only hs (.inr ay)
  replace hr2:=(hr2.new hBa).only hs ae
  replace hl1:=(hl1.new hBa).only hs aG
  replace hA:=(hA.new hBa).only hs ae (fun hm=>by have:=(hA.av _ hm).1;omega)
  have hLr:=LoL.refl lo ((D+1)::D::Lx) W2
  refine zav (zah (zaa (zad (za7 512 hr4) (zao rfl (zaj aa rfl) (hpa W2) ?_))))
  rintro _ w19 ⟨gp,rfl,hgp,hrp,hb19⟩
  replace hT1:=hT1.newc hb19 hgp hrp.lt
  replace hr3:=hr3.new hb19
  replace hr4:=hr4.new hb19
  replace hLr:=hLr.new hb19
  replace hl1:=hl1.new hb19
  replace hr2:=hr2.new hb19
  refine zae (zaf (zav ?_))
  have hA2:=hA.new hb19
  have hlp2:=(zpx.mk hlp).new hb19
  have hgpl:=hrp.lt
  have hlr3:=hr3.lt
  have hlr4:=hr4.lt
  have hlr2:=hr2.lt
  have hobt:∃ D2,(w19).heap.size=D2:=⟨_,rfl⟩
  obtain⟨D2,hD2⟩:=hobt
  have hzr:=hLr.size
  have hzl:=hl1.size
  have hobt:∃ L',gp::g4::g3::(Lx++(D+1)::D::L0)=L':=⟨_,rfl⟩
  obtain⟨L',hL'⟩:=hobt
  have hL'1:gp∈L'∧g3∈L'∧g2∈L'∧ge∈L':=by rw[←hL'];simp[hL02]
  have hL'2:∀ b∈(D+1)::D::Lx,b∈L':=fun b hb=>by
   rw[←hL']
   simp only[List.mem_cons,List.mem_append]at hb ⊢
   rcases hb with h|h|h<;>simp[h]
  have hL'3:∀ b∈L,b∈L':=fun b hb=>by rw[←hL'];simp[hL0s b hb]
  have hT2:Two (JZ q jb mw N G0 G V k H.F) Y lo (eA a++L') w19:=hT1.weak fun b hb=>by
   rw[←hL']at hb
   simp only[List.mem_cons,List.mem_append,List.cons_append,List.nil_append]at hb ⊢
   rcases hb with h|h|h|h|h|h|h|h<;>simp[h]
  have heA:∀ b∈eA a,b<W1.heap.size:=fun b hb=>hT1a.lt b aH
  refine zcT (τ:=List Nat) (m:=(pres 0 (H.S m).slots).length) (V:=PaV (H.S m).slots) (T0:=fun t n w'=>∀ b∈t,n≤b∧b<w'.heap.size) (ps:=[20,21]) (L:=L') (X:=JZ q jb mw N G0 G V k H.F) (Y:=Y) (α:=AllT) eA D2 [] (fun rd h=>by rw[show rd=some (D+1)from h,←hD2];exact zhP _ hlp2.r.choose_spec) rfl aa (zpw (X:=JZ q jb mw N G0 G V k H.F) (lo:=lo) (H.S m) ha3.1 gp _ (by rw[hQ];exact hrp)) (fun t i v _ _ _ hv=>by obtain⟨_,_,_,_,_,_,_,rfl,_⟩:=hv;rfl) aa ay (fun b hb=>by rw[List.mem_singleton.1 hb];exact hL'1.1)
   (fun t j a' w'=>a'.2.2.1=a.2.2.1+j∧zlR ge (D+2) (fun b=>b≠D2∧b≠gp∧b≠g3) a' w'∧(∀ b∈a'.1.ownBlock.toList,b∉t∧b∉Lx)∧(∀ b∈t,D2<b)∧row w' g2 [.pointer (some ⟨jb,0,none⟩)] 81∧row w' g3 [.int .i64 (m:Int)] 3∧LoL lo ((D+1)::D::Lx) W2 w'∧LoL lo L w w') (fun _ _=>False)
   ?_ ?_ (fun _ _ _ h=>h.elim) (fun _ _ _ h=>h.elim) ?_ a hT2 ?_ ?_ ?_ (fun c W' h=>h.elim)
  ·rintro t j a' W W' ⟨h1,h2,h3,h4,h5,h6,h7,h8⟩ hk
   exact⟨h1,h2.ll hk (.inr aM) (fun b hb=>by simp[hb]),h3,h4,h5.kl hk (.inr aM),h6.kl hk (.inr aM),h7.ll hk fun b hb=>by simp[hL'2 b hb],h8.ll hk fun b hb=>by simp[hL'3 b hb]⟩
  ·rintro t j a' W W' ⟨h1,h2,h3,h4,h5,h6,h7,h8⟩ ho
   exact⟨h1,h2.only ho ae (fun hm=>(h2.av _ hm).2.1 rfl),h3,h4,h5.only ho ae,h6.only ho ae,h7.only ho aG,h8.only ho aG⟩
  ·rintro t j a' W ⟨_,h2,_⟩ b hb hm
   exact(h2.av b hb).2.2.1 (List.mem_singleton.1 hm)
  ·intro t W' ht hl
   refine⟨rfl,(hA2.ll hl (.inr aM) fun b hb=>by simp[hb]).imp fun b hb _=>?_,fun b hb=>⟨fun hm=>?_,hEx b (List.mem_append_left _ hb)⟩,fun b hb=>(ht b hb).1,hr2.kl hl (.inr aM),hr3.kl hl (.inr aM),hLr.ll hl fun b hb=>by simp[hL'2 b hb],hl1.ll hl fun b hb=>by simp[hL'3 b hb]⟩
   ·have:=heA b hb
    omega
   ·have h1:=heA b (List.mem_append_left _ hb)
    have h2:=(ht b hm).1
    omega
  ·rintro t j v a1 W3 Lx3 hj3 ⟨rfl,s,c,gc,oc,cc,hpk,rfl,hsc,hgc,hcc⟩ hLx3 hT3 ⟨hn3,hA3,hnt3,ht3,hr23,hr33,hlr3,hl13⟩ hsz3
   have hslot:=zg7 (S:=(H.S m).slots) hpk fun x=>by rw[Nat.zero_add]
   have hRms:R m s:=(hF m hmem).2 s c hslot
   have hobt:=hI.cell m s hRms
   obtain⟨_,c',hc',hcl⟩:=hobt
   obtain rfl:c'=c:=by rw[hslot]at hc';exact(Option.some.inj (Option.some.inj hc')).symm
   have hbL:(B m s).length≤20000:=by rcases hcl with⟨h1,_⟩|⟨_,_,_,h1⟩;omega;exact h1.b2
   have hpl:=zg8 (H.S m).slots 0
   have hcn:=zpB (H:=H) (rl:=rl.take i) fun x hx=>(hli.at_ x (List.mem_of_mem_take hx)).2.2.1.1
   rw[List.length_take]at hcn
   have hgs:=ha3.1.size
   unfold zb3 at hgs
   have hll:=hli.len
   have hBb:=Below.refl W3.heap.size W3
   refine zah (zaa (zad (zac) (zae (zaf (zaa (zad (zac) (zae (⟨rfl,hBb,fun W4 hs4 _=>?_⟩))))))))
   have hz4:=hs4.size
   replace hT3:=hT3.only hs4 (.inr ay)
   replace hr23:=hr23.only hs4 ae
   replace hr33:=hr33.only hs4 ae
   replace hlr3:=hlr3.only hs4 aG
   replace hl13:=hl13.only hs4 aG
   replace hA3:=hA3.only hs4 ae (fun hm=>(hA3.av _ hm).2.1 rfl)
   have hgcD:=ht3 gc hgc
   replace hsc:=Coup.zaS.kpd hsc (Kp.zaZ hs4) fun b o e=>by cases e;simp;omega
   have hlt3:=hT3.lt
   have hpa3:=zpu hH hG hT3 hcl (some ⟨gc,oc,none⟩) cc hsc hcc
   have hS1:∀ b∈(D+1)::D::Lx,b∈t++(eA a1++D2::([]++L')):=fun b hb=>by simp[hL'2 b hb]
   have hS2:∀ b∈L,b∈t++(eA a1++D2::([]++L')):=fun b hb=>by simp[hL'3 b hb]
   obtain⟨v1,bl1,n1,xs1⟩:=a1
   dsimp only at*
   have hvE:∀ b∈v1.ownBlock.toList,b∈eA (v1,bl1,n1,xs1):=fun b hb=>List.mem_append_left _ hb
   have hbE:∀ b∈bl1,b∈eA (v1,bl1,n1,xs1):=fun b hb=>List.mem_append_right _ hb
   refine zav (zah (zaa (zad (zau hr23) (zad (zab) (zao rfl (zaj aa rfl) (hpa3) ?_)))))
   rintro _ w25 ⟨up,pb,cb,M,rfl,hsb,hcb,hpb,hMn,hup,hupM,hT5,hb25⟩
   replace hr23:=hr23.kl hb25 (.inr aM)
   replace hr33:=hr33.kl hb25 (.inr aM)
   replace hA3:=hA3.ll hb25 (.inr aM) (fun b hb=>by simp[hb])
   replace hlr3:=hlr3.ll hb25 hS1
   replace hl13:=hl13.ll hb25 hS2
   have hl4:LoL lo (D2::t) W4 w25:=hb25.weak (Nat.le_refl _) fun b hb=>by simp only[List.mem_cons]at hb;rcases hb with h|h<;>simp[h]
   have hz25:=hb25.size
   have hpq:∀ g o,pb=some ⟨g,o,none⟩→D2<g∧g∉v1.ownBlock.toList∧(g≠gp∧g≠g3)∧(g∈t∨g∈M)∧g<w25.heap.size:=fun g o e=>by
    rcases hpb g o e with⟨o2,e2⟩|hgM
    ·cases e2
     refine⟨hgcD,fun hm=>(hnt3 _ hm).1 hgc,ae, .inl hgc,by have:=hlt3 gc (by simp[hgc]);omega⟩
    ·have h1:=hMn g hgM
     refine⟨ae,fun hm=>?_,ae, .inr hgM,hT5.lt g (by simp[hgM])⟩
     have:=hlt3 g (by simp[hvE g hm]);omega
   have hxe3:=hA3.f.1
   have hown3:zaz w25 (D+2) 109 3 v1 n1 xs1:=zaz.base hA3.f.2.1 fun b e=>(hA3.av b (hvE b (Option.mem_toList.2 e))).1
   have hen3:=hA3.f.2.2
   refine zad (zab) (zad (zai rfl rfl) (zad (zai rfl rfl) (zad (zac) (zad (zac) (zae (zaf (zaa (zad (zau hxe3) (zad (zau hr33) (zad (zab) (zad (zi4 (k0:=.i64) (k1:=.i64) aa aa rfl rfl) (zad (zab) (zad (zfU (.agg #[.int .i64 (m:Int), .int .i64 (s:Int)]) (.slice pb (B m s).length cb) [.int .i64 (m:Int), .int .i64 (s:Int), .slice pb (B m s).length cb] rfl rfl aa) (zaD rfl (zdd (e:=109) (.agg #[.int .i64 (m:Int), .int .i64 (s:Int), .slice pb (B m s).length cb]) ([.int .i64 (m:Int), .int .i64 (s:Int), .slice pb (B m s).length cb]) ([Value.int .i64 0,Value.int .i64 0,Value.slice none 0 0]) 3 aa aa rfl rfl aF ⟨aD,aD⟩ (fun g34 w34 hg34 hr34 hb34=>?_))))))))))))))))
   have lt_g2_g34:g2<g34:=Nat.lt_of_lt_of_le hr23.lt hg34
   have lt_g3_g34:g3<g34:=Nat.lt_of_lt_of_le hr33.lt hg34
   have lt_ge_g34:ge<g34:=Nat.lt_of_lt_of_le hxe3.lt hg34
   replace hr23:=hr23.new hb34
   replace hr33:=hr33.new hb34
   replace hxe3:=hxe3.new hb34
   replace hown3:=hown3.new hb34
   replace hT5:=hT5.newc hb34 hg34 hr34.lt
   have hs34:=hr34.slA (m:=1) (sz:=3) rfl aC
   have hz34:=hb34.size
   have hl5:=hl4.new hb34
   have hlr5:=hlr3.new hb34
   have hl15:=hl13.new hb34
   have hsb5:=hsb.new hb34
   have hen5:=hen3.kpd (M:=[]) (Kp.of_below hb34) ay
   have hT6:=hT5
   have hown5:=hown3
   refine zaD rfl (zbf (e:=109) (sz:=3) (bytes:=40) (z:=.agg ([Value.int .i64 0,Value.int .i64 0,Value.slice none 0 0]).toArray) aa rfl aa rfl aD rfl hown3 rfl hs34 aL aC ae (fun hm0=>ae) (fun v35 w35 hv35 hgr35 hfr35=>?_))
   replace hr23:=hr23.own hown3 hgr35 ae
   replace hxe3:=hxe3.own hown3 hgr35 ae
   have hform35:=hv35.form
   obtain⟨p35,c35,rfl⟩:=hform35
   have hk35:=Kp.za6 hgr35
   have hr33b:=hr33.kpd hk35 (fun hm=>(hA3.av _ (hvE _ hm)).2.2.2 rfl)
   have hT7:=hT6.zoc (fun b hb=>by simp[hvE b hb]) hgr35 hfr35 hv35
   have hz35:=hgr35.size
   refine zaK rfl (zbn hxe3 (fun w905 hxe3 ho905=>?_))
   replace hr23:=hr23.only ho905 (Nat.ne_of_gt lt_ge_g2)
   replace hv35:=hv35.only ho905 ae
   replace hr33b:=hr33b.only ho905 ae
   have hoE:=ho905
   refine zae (zaP ?_)
   have hq:∀ b∈oN pb,D2<b∧b∉v1.ownBlock.toList∧(b≠gp∧b≠g3)∧(b∈t∨b∈M)∧b<w25.heap.size:=fun b hb=>by
    have hobt:=mem_oN.1 hb
    obtain⟨o,e⟩:=hobt
    exact hpq b o e
   have hv2:∀ b∈(Value.slice p35 (n1+1) c35).ownBlock.toList,b∈v1.ownBlock.toList∨w34.heap.size≤b:=fun b hb=>(hfr35 b (Option.mem_toList.1 hb)).imp (fun h=>Option.mem_toList.2 h) id
   have hvl:∀ b∈v1.ownBlock.toList,b<W4.heap.size:=fun b hb=>hlt3 b (by simp[hvE b hb])
   have hbl1:∀ b∈bl1,b<W4.heap.size:=fun b hb=>hlt3 b (by simp[hbE b hb])
   have hgeE:∀ b∈eA (v1,bl1,n1,xs1),b≠ge:=fun b hb e=>by have:=(hA3.av b hb).1;omega
   have hsbW:zaS w905 pb (B m s).length 1 (bv (B m s)):=(hsb5.kpd hk35 fun g o e hm=>(hpq g o e).2.1 hm).kpd (Kp.zaZ hoE) fun g o e hm=>by
    have h1:=(hpq g o e).1
    have h2:=List.mem_singleton.1 hm
    omega
   have henW:=((((hen5.kpd hk35 fun b hb hm=>hA3.nv b hm hb).kpd (Kp.zaZ hoE) fun b hb hm=>hgeE b (hbE b hb) (List.mem_singleton.1 hm)).mono (bl':=oN pb++bl1) fun b hb=>by simp[hb]).snoc (a:=(m:Int)) (b:=(s:Int)) hsbW (fun g o e=>by simp[mem_oN.2 ⟨o,e⟩]) hcb hbL)
   have hT8:=hT7.only hoE (.inr aM)
   have hgo:ge∉D2::t:=fun hm=>by
    rcases List.mem_cons.1 hm with h|h
    ·omega
    ·have:=ht3 ge h;omega
   have hl9:LoL lo (D2::t) W4 w905:=(hl5.kpd hk35 fun b hb=>.inl ⟨by have:=(hA3.av b (hvE b hb)).1;omega,fun hm=>(List.mem_cons.1 hm).elim (fun e=>(hA3.av b (hvE b hb)).2.1 e) fun h=>(hnt3 b hb).1 h⟩).only hoE (.inr ⟨hloe,hgo⟩)
   have hlr9:LoL lo ((D+1)::D::Lx) W2 w905:=(hlr5.kpd hk35 fun b hb=>.inl ⟨by have:=(hA3.av b (hvE b hb)).1;omega,fun hm=>by
    have h1:=(hA3.av b (hvE b hb)).1
    simp only[List.mem_cons]at hm
    rcases hm with h|h|h
    ·omega
    ·omega
    ·exact(hnt3 b hb).2 h⟩).only hoE (.inr ⟨hloe,fun hm=>by
    simp only[List.mem_cons]at hm
    rcases hm with h|h|h
    ·omega
    ·omega
    ·rcases hLx ge h with h2|h2
     ·simp only[List.mem_cons,List.not_mem_nil,or_false]at h2
      omega
     ·omega⟩)
   have hl19:LoL lo L w w905:=(hl15.kpd hk35 fun b hb=>.inr (by have:=(hA3.av b (hvE b hb)).1;omega)).only hoE (.inr ⟨hloe,hneL⟩)
   have hLxl:∀ b∈Lx,b<W1.heap.size:=fun b hb=>hT1a.lt b aH
   refine⟨hl9,(.slice p35 (n1+1) c35,oN pb++bl1,n1+1,_),hT8.weak fun b hb=>?_,by show n1+1=a.2.2.1+(j+1);omega,⟨⟨hxe3,zaz.mono hv35 (Nat.zero_le _),henW⟩,fun b hb hm=>?_,fun b hb=>?_⟩,fun b hb=>?_,ht3,hr23,hr33b,hlr9,hl19⟩
   ·simp only[eA,List.mem_append,List.mem_cons,List.nil_append]at hb ⊢
    rcases hb with h|(h|h|h)|h|h
    ·simp[h]
    ·simp[h]
    ·rcases(hq b h).2.2.2.1 with h2|h2<;>simp[h2]
    ·simp[h]
    ·simp[h]
    ·simp[h]
   ·rcases hv2 b hb with h|h<;>rcases List.mem_append.1 hm with h2|h2
    ·exact(hq b h2).2.1 h
    ·exact hA3.nv b h h2
    ·have:=(hq b h2).2.2.2.2;omega
    ·have:=hbl1 b h2;omega
   ·simp only[eA,List.mem_append]at hb
    rcases hb with h|h|h
    ·rcases hv2 b h with h2|h2
     ·exact hA3.av b (hvE b h2)
     ·omega
    ·have:=hq b h;omega
    ·exact hA3.av b (hbE b h)
   ·rcases hv2 b hb with h|h
    ·exact hnt3 b h
    ·refine⟨fun hm=>?_,fun hm=>?_⟩
     ·have:=hlt3 b aQ;omega
     ·have:=hLxl b hm;omega
  ·rintro t a' W' hT' ⟨hn',hA',_,_,hr2',_,hlr',hl'⟩ _
   refine zaP (zaP (⟨hlr',a',hT'.weak fun b hb=>?_,ae,?_,hA'.imp fun _ _ _=>trivial,hr2',hl'⟩))
   ·rw[←hL']
    simp only[List.mem_append,List.mem_cons,List.nil_append,List.cons_append]at hb ⊢
    rcases hb with h|h|h|h|h<;>simp[h]
   ·rw[hn',zpA hm,hn]
 ·rintro _ a W hTd ⟨_,hn,hA,hr2,hl⟩ hds
  have hD9:=hds D ay
  refine zaP (zeS [] D hD9 trivial ?_)
  obtain⟨v,bl,n,xs⟩:=a
  have ho:Only D W (World.putObj W D (.deferred none)):=zce _
  rw[hxs,List.take_length]at hn
  dsimp only at hn
  subst hn
  have hA9:=hA.only ho ae (fun hm=>by have:=(hA.av _ hm).1;omega)
  have hlo:=h.lo'
  refine⟨v,bl,xs,⟨hH,G,hG,zeP ((hTd.only ho (.inr ay)).weak fun b hb=>?_) hA9.f fun b hb=>?_⟩,hl.only ho aG⟩
  ·simp only[List.cons_append,List.append_assoc,List.mem_cons,List.mem_append]at hb
   simp only[eA,List.mem_append,List.mem_cons]
   rcases hb with h|h|h|h
   ·simp[h,hL02]
   ·simp[h]
   ·simp[h]
   ·simp[hL0s b h]
  ·rcases List.mem_cons.1 hb with h|h
   ·rw[h];exact⟨hloe,hneL⟩
   ·have h1:=(hA.av b h).1
    exact⟨ae,fun hm=>by have:=hlo.2 b hm;omega⟩
end
section
variable {Y:World→List Nat→Prop}[hYT:Thing Y]{q N lo:Nat}{L:List Nat}{V:Nat→Pg}{k:Nat}{H:HS}{fl rl:List Nat}{R:Nat→Nat→Prop}{P:Nat→Nat→List Nat}{B:Nat→Nat→List UInt8}{w:World}
set_option maxRecDepth 20000 in
theorem allM(hb:Nat)(h:Two (GZ q N (pgH H) V k) Y lo L w)(hI:HI N H fl rl R P B [])(hF:Full H rl R)(hr:row w hb [.pointer (some ⟨q,0,none⟩)] 50)(hbL:hb<lo∨hb∈L):
  Calls Tryz.prog 21 [.pointer (some ⟨hb,0,none⟩)].toArray w (Ret fun v w'=>∃ ge u bl xs,v= .func (.func 63) #[] [.pointer (some ⟨ge,0,none⟩)].toArray∧Two (GZ q N (pgH H) V k) Y lo ((ge::(u.ownBlock.toList++bl))++L) w'∧AllF ge bl u (znG H rl) xs w'∧(∀ b∈ge::(u.ownBlock.toList++bl),lo≤b∧b∉L)∧LoL lo L w w'):=by
 have hLL:=LoL.refl lo L w
 have hrun:∀ g W,row W hb [.pointer (some ⟨q,0,none⟩)] 50→Two (GZ q N (pgH H) V k) (zcV Y g [.slice none 0 0] 107) lo L W→Calls Tryz.prog 34 [.pointer (some ⟨hb,0,none⟩), .func (.func 62) #[] [.pointer (some ⟨g,0,none⟩)].toArray].toArray W
   (Ret fun v w'=>v= .int .i64 0∧LoL lo L W w'∧∃ u bl xs,Two (GZ q N (pgH H) V k) (ziP Y (g::(u.ownBlock.toList++bl)) (AllF g bl u (znG H rl) xs)) lo L w'):=fun g W hr h=>by
  refine(zjB hb h hI.ok hr 62 [.pointer (some ⟨g,0,none⟩)] aa (fun H' fl' Y'=>H'=H∧∃ u bl xs,Y'=ziP Y (g::(u.ownBlock.toList++bl)) (AllF g bl u (znG H rl) xs))
   (fun e Y'=>False) (fun H' fl' Y' ⟨_,_,_,_,e⟩=>by subst e;infer_instance) (fun e Y' h=>h.elim) (fun H' fl' Y' ⟨e,_⟩=>by rw[e];exact Nat.le_refl _) fun jb mw L' w' hs2 hl hJ=>?_).to fun v w' h=>?_
  ·exact(all62 g hJ hI hF).toP fun v w2 ⟨u,bl,xs,h2,h3⟩=>⟨H,fl,_,⟨rfl,u,bl,xs,rfl⟩,h2,h3⟩
  ·rcases h with⟨H',fl',Y',⟨rfl,u,bl,xs,rfl⟩,h4,h3,h5,h6⟩|⟨e,Y',h,_⟩
   ·exact⟨h3,h6,u,bl,xs,h5⟩
   ·exact h.elim
 refine zax (fn:=Tryz.f21) (rs:=[.tmp 2]) (n:=11) Tryz.func21 rfl rfl Tryz.ntmps21 aa rfl (zah (zaa (zad (zac) (zae (zaf (zah (zaa ?_)))))))
 have hp6:=h
 refine zaD rfl (zar ([Value.slice none 0 0]) aa (fun g3 w3 hg3 hr3 hb3=>?_))
 replace hLL:=hLL.new hb3
 replace hr:=hr.new hb3
 have h6:=zfH hp6 hb3 hr3 hg3
 refine zae (zaf (zah (zaa (zad (zab) (zad (zbm) (zao rfl (zaj aa rfl) (hrun g3 w3 hr h6) ?_))))))
 rintro _ w7 ⟨rfl,hb7,u,bl,xs,h7⟩
 replace hLL:=hLL.ll hb7 (fun b hb=>hb)
 refine zad (zac) (zae (zaf (zah (zah (zaa (zad (zab) (zad (zaX rfl rfl) (zae (zaf (zcF rfl (aD) (zat (zaf (zah (zaa (zad (zbm) (zad (zac) (zae (zaf (zaF (zan [_] ⟨rfl,trivial⟩ ?_))))))))))))))))))))
 have hout:=zbr h7
 exact⟨g3,u,bl,xs,rfl,hout.1,hout.2.1,hout.2.2,hLL⟩
end
theorem zaS.sameP{w w':World}{p:Option Addr}{m sz:Nat}{cs:List Value}(h:zaS w p m sz cs)(e:∀ g o,p=some ⟨g,o,none⟩→w'.heap[g]?=w.heap[g]?):zaS w' p m sz cs:=by
 refine⟨h.len,h.max,fun h0=>?_⟩
 obtain⟨b,off,hp,hlt,hc⟩:=h.at_ h0
 have e2:=e b off hp
 refine⟨b,off,hp,?_,fun j hj=>?_⟩
 ·have h3:w.heap[b]?≠none:=by rw[Array.getElem?_eq_getElem hlt];simp
  rw[←e2]at h3
  rcases Nat.lt_or_ge b w'.heap.size with h4|h4
  ·exact h4
  ·exact absurd (Array.getElem?_eq_none h4) h3
 ·rw[←hc j hj]
  simp only[World.cell?,e2]
theorem zaS.same{w w':World}{g o m sz:Nat}{cs:List Value}(h:zaS w (some ⟨g,o,none⟩) m sz cs)(e:w'.heap[g]?=w.heap[g]?):zaS w' (some ⟨g,o,none⟩) m sz cs:=zaS.sameP h fun g' o' e2=>by cases e2;exact e
def AlV(_:Unit)(_:Nat)(v:List Value)(_:World)(_ _:List Nat):Prop:=v.length=2
set_option maxRecDepth 20000 in
set_option maxHeartbeats 1000000 in
theorem allSeq{X:World→List Nat→Prop}[hX:Thing X]{lo:Nat}(ge:Nat)(bl:List Nat)(u:Value)(n:Nat)(xs:List Value)(w:World)(hA:AllF ge bl u n xs w):
   SeqV Tryz.prog 63 [.pointer (some ⟨ge,0,none⟩)] n AlV (fun _ _ _=>True) (ge::(u.ownBlock.toList++bl)) X lo w:=by
 intro α Y hYT E ly J Jx W L hks hJ hJx hE hy a hT h0
 obtain⟨h1,h2,h3⟩:=hA
 have r1W:row W ge [u] 107:=(hks ge ay).2.trans h1
 obtain⟨pu,cu,rfl⟩:=h2.form
 have hB:=Below.refl W.heap.size W
 refine zax (fn:=Tryz.f63) (rs:=[]) (n:=20) Tryz.func63 rfl rfl Tryz.ntmps63 aa rfl (zah (zaa (zad (zau r1W) (zad (zaB (e:=109) (sz:=3) aa rfl rfl) (zad (zab) (zae (zaf (zav ?_))))))))
 have hks':∀ b∈ge::((Value.slice pu n cu).ownBlock.toList++bl),W.heap[b]?=w.heap[b]?:=fun b hb=>(hks b hb).2
 have hksL:=fun b hb=>(hks b hb).1
 have hobt:∃ ks,ge::((Value.slice pu n cu).ownBlock.toList++bl)=ks:=⟨_,rfl⟩
 obtain⟨ks,hkse⟩:=hobt
 have hkm:ge∈ks∧(∀ b∈(Value.slice pu n cu).ownBlock.toList,b∈ks)∧∀ b∈bl,b∈ks:=by rw[←hkse];exact⟨ay,fun b hb=>by simp[hb],fun b hb=>by simp[hb]⟩
 rw[hkse]at hks' hksL hE hy
 have hsl:=h2.sl
 have hxl:=h3.len
 have hn63:=hsl.max
 unfold maxLen at hn63
 refine zbq (α:=Nat × α) (0,a) (fun k=>[(0, .func (.yield ly) #[] #[]),(5, .slice pu n cu),(6, .int .i64 (n:Int)),(7, .int .i64 (k.1:Int))])
   (fun k w'=>k.1≤n∧Two X Y lo (E k.2++L) w'∧J () k.1 k.2 w'∧(∀ b∈ks,w'.heap[b]?=w.heap[b]?)) (fun k=>n - k.1)
   ⟨rfl,rfl,rfl,rfl,rfl⟩ ⟨Nat.zero_le _,hT,h0 () W trivial (LoL.refl _ _ _),hks'⟩ ?_
 rintro⟨i,a1⟩ f wr ⟨hi,hTr,hJr,hsm⟩
 dsimp only at*
 have hBr:=Below.refl wr.heap.size wr
 refine zah (zaa (zad (zaY rfl rfl) (zae (zaf (zah (za0 rfl (fun hlt=>?_) (fun hlt=>?_)))))))
 ·
  refine bL ?_
  have hobt:=h3.at_ i ae
  obtain⟨ea,es,ep,eb,ec,he,heb,hep,hec,hel⟩:=hobt
  have hobt:=hsl.some ae
  obtain⟨gs,os,rfl,hgs⟩:=hobt
  have hcell:zaS wr (some ⟨gs,os,none⟩) n 3 xs:=zaS.same hsl (hsm gs (hkm.2.1 gs aJ))
  have hebr:zaS wr ep eb.length 1 (bv eb):=zaS.sameP heb fun g o e=>hsm g (hkm.2.2 g (hep g o e))
  have hld:=Ld.slN (P:=Tryz.prog) (t:=109) (j:=i*3) (k:=3) hcell aa aa ae
  rw[he]at hld
  refine zaa (zad (zbe (e:=109) (sz:=3) aa rfl rfl (i) ae ae) (zad (zaG rfl (hld)) (zaD rfl (zar ([Value.int .i64 0,Value.int .i64 0,Value.slice none 0 0]) aa (fun g4 w4 hg4 hr4 hb4=>?_)))))
  have ge_hBr_g4:=Nat.le_trans hBr.size hg4
  replace hBr:=hBr.acc hb4
  refine zaK rfl (zaQ 3 ([.int .i64 ea, .int .i64 es, .slice ep eb.length ec]) hr4 (fun w901 hr4 ho901=>?_))
  replace hBr:=ho901.below hBr ge_hBr_g4
  have hebr2:=Coup.zaS.kpd (Coup.zaS.new hebr hb4) (Kp.zaZ ho901) fun g o e hm=>by have h7:=hTr.lt g (by simp[hksL g (hkm.2.2 g (hep g o e))]);have h8:=List.mem_singleton.1 hm;omega
  refine zae (zaf (zah (za3 [] aa ?_)))
  intro w902 hb902 hS902
  replace hr4:=hr4.new hb902
  replace hebr2:=hebr2.new hb902
  replace hBr:=hBr.acc hb902
  have hr4_d902:=hr4
  have hebr2_d902:=hebr2
  have hBr_d902:=hBr
  refine zas 0 (zab) (zas 1 (zaw 0) (zbo 2 (fun w' hS'=>zaG rfl (Ld.rowN (off:=0) (k:=2) (hr4_d902.kq hS') aa aa ay)) (zas 3 (zaw 2) (zbo 4 (fun w' hS'=>zau (hr4_d902.kq hS')) (zaA 5 aa (zby rfl rfl (zbf (e:=5) (sz:=1) (bytes:=1) (z:=Value.int .u8 0) aa rfl aa rfl aD rfl (zbp w902 w902.heap.size 5 1) rfl hebr2 (zbV _) aC ae (fun _=>Nat.le_refl _) (fun v16 w16 hv16 hgr16 hfr16=>?_))))))))
  have hb16:=zdM hgr16
  have hS903:=hS902.add0 hb16
  refine⟨hS903,?_⟩
  replace hr4:=hr4.new hb16
  replace hebr2:=hebr2.new hb16
  replace hBr:=hBr.acc hb16
  refine zld ?_
  obtain⟨p16,c16,rfl⟩:=hv16.form
  have hYk:=hy () i [.agg #[.int .i64 ea, .int .i64 es], .slice p16 (0+eb.length) c16] a1 w16 ks ae rfl (fun b hb=>.inl hb) ((hTr.new hBr).weak fun b hb=>(List.mem_append.1 hb).elim (fun h=>by simp[hksL b h]) id) (hJ () _ _ _ _ hJr (LoL.of_below hBr))
  refine znT (i:=6) aa rfl (zjY (vl:=[.agg #[.int .i64 ea, .int .i64 es], .slice p16 (0+eb.length) c16]) rfl rfl hYk ?_)
  rintro e wy (⟨rfl,⟨a2,hT2,hJ2⟩,hky,hsy⟩|⟨rfl,hJxy⟩)
  · refine⟨_,rfl,?_⟩
    refine zlh (i:=7) aa rfl (zbK rfl) (zgV aa (zaf (W_f rfl (zat (zaP (zaf (zaa (zad (zaO rfl rfl (show IntKind.i64.wrap ((i:Int)+1)=((i+1:Nat):Int) by rw[w64 ae];omega)) (zad (zab) (zae (za2 ⟨(i+1,a2),by show n - (i+1)<n - i;omega,⟨rfl,rfl,rfl,rfl,rfl⟩,by show i+1≤_;omega,hT2.weak (fun b hb=>by simp only[List.mem_append]at hb ⊢;exact .inr hb),hJ2,fun b hb=>(hky b hb).trans ((hBr.block b (by have:=hTr.lt b (by simp[hksL b hb]);omega)).trans (hsm b hb))⟩)))))))))))
  · refine⟨_,rfl,?_⟩
    refine zlh (i:=7) aa rfl (zbK rfl) (zgV aa (zaf (zpT rfl (rfl) (zaF (zbc (zaW (zeb (zbc (zan [] trivial ?_)))))))))
    exact .inr hJxy
 ·
  have hie:i=n:=by omega
  refine zbh (zbC (zbH (zbl (zbk [] trivial ?_))))
  exact .inl ⟨(),a1,hTr,hie▸hJr⟩
def zeu(H:HS)(n:Nat):Int:=if n=0 then 4 else if n<H.F.fresh then((H.S n).kind:Int)else 0
def zfJ(f:Nat→Int)(l:List Nat)(v:Int):Nat→Int:=fun n=>if n∈l then v else f n
def ups'(f:Nat→Int)(U:List (List Nat × Int)):Nat→Int:=U.foldl (fun f u=>zfJ f u.1 u.2) f
theorem zjD(f:Nat→Int)(U T:List (List Nat × Int)):ups' f (U++T)=ups' (ups' f U) T:=List.foldl_append ..
theorem zhX{n:Nat}:∀ {U:List (List Nat × Int)} {f:Nat→Int},(∀ u∈U,n∉u.1)→ups' f U n=f n
 |[],_,_=>rfl
 |u::U,f,h=>(zhX (U:=U) (f:=zfJ f u.1 u.2) fun x hx=>h x (by simp[hx])).trans (if_neg (h u ay))
theorem zmM{n:Nat}{v:Int}:∀ {U:List (List Nat × Int)} {f:Nat→Int},(∀ u∈U,n∈u.1→u.2=v)→(∃ u∈U,n∈u.1)→ups' f U n=v
 |[],_,_,⟨_,h,_⟩=>nomatch h
 |u::U,f,h,⟨x,hx,hn⟩=>by
  by_cases he:∃ y∈U,n∈y.1
  ·exact zmM (U:=U) (f:=zfJ f u.1 u.2) (fun y hy=>h y (by simp[hy])) he
  ·have h1:ups' f (u::U) n=zfJ f u.1 u.2 n:=zhX (U:=U) (f:=zfJ f u.1 u.2) fun y hy hm=>he ⟨y,hy,hm⟩
   have h2:x=u:=(List.mem_cons.1 hx).resolve_right fun h=>he ⟨x,h,hn⟩
   subst h2
   rw[h1,zfJ,if_pos hn]
   exact h x ay hn
def upR(H:HS)(P:Nat→Nat→List Nat)(m:Nat):List (List Nat × Int):=([m],1)::(pres 0 (H.S m).slots).map fun x=>(P m x.1,2)
def zgf(H:HS)(n:Nat):Int:=if n=0 then 4 else if n<H.F.fresh then 3 else 0
theorem zpC{S:List (Option (List UInt8))}{i:Nat}{c:List UInt8}(h:S[i]?=some (some c)):∀ {T:List (Option (List UInt8))} {j:Nat},j≤i→(∀ x,T[x]?=S[j+x]?)→(i,c)∈pres j T:=by
 intro T
 induction T with
 |nil=>intro j hj hT;have:=hT (i - j);rw[show j+(i - j)=i by omega,h]at this;cases this
 |cons t T ih=>
  intro j hj hT
  have hT2:∀ x,T[x]?=S[(j+1)+x]?:=fun x=>by have:=hT (x+1);rw[List.getElem?_cons_succ]at this;rw[this];congr 1;omega
  by_cases e:j=i
  ·subst e
   have h0:=hT 0
   rw[Nat.add_zero,h]at h0
   have h1:t=some c:=Option.some.inj h0
   subst h1
   exact List.mem_cons_self ..
  ·have h3:=ih (j:=j+1) ae hT2
   cases t with
   |none=>exact h3
   |some c'=>exact List.mem_cons_of_mem _ h3
theorem HI.uses{N:Nat}{H:HS}{fl rl:List Nat}{R:Nat→Nat→Prop}{P:Nat→Nat→List Nat}{B:Nat→Nat→List UInt8}(h:HI N H fl rl R P B [])(hF:Full H rl R)(h3:∀ n,1≤n→n<H.F.fresh→(H.S n).kind≤3)(n:Nat):
  ups' (zgf H) ((fl,0)::rl.flatMap (upR H P)) n=zeu H n:=by
 have hR:∀ m x,m∈rl→x∈pres 0 (H.S m).slots→R m x.1:=fun m x hm hx=>by
  obtain⟨k,hk⟩:=List.mem_iff_getElem?.1 hx
  exact(hF m hm).2 x.1 x.2 (zg7 (S:=(H.S m).slots) hk fun y=>by rw[Nat.zero_add])
 have hU:∀ u∈(fl,(0:Int))::rl.flatMap (upR H P),n∈u.1→1≤n∧n<H.F.fresh∧u.2=((H.S n).kind:Int):=fun u hu hn=>by
  rcases List.mem_cons.1 hu with rfl|hu
  ·have:=h.ok.fk n hn
   exact⟨this.1,this.2.1,by rw[this.2.2];rfl⟩
  ·obtain⟨m,hm,hu⟩:=List.mem_flatMap.1 hu
   rcases List.mem_cons.1 hu with rfl|hu
   ·have:=h.rk.at_ m hm
    rw[List.mem_singleton.1 hn]
    exact⟨this.1,this.2.1,by rw[this.2.2];rfl⟩
   ·obtain⟨x,hx,rfl⟩:=List.mem_map.1 hu
    have:=(h.pat (hR m x hm hx)).2 n hn
    exact⟨this.1,this.2.1,by rw[this.2.2];rfl⟩
 by_cases he:∃ u∈(fl,(0:Int))::rl.flatMap (upR H P),n∈u.1
 ·obtain⟨u,hu,hn⟩:=he
  obtain⟨h1,h2,h3⟩:=hU u hu hn
  rw[zmM (v:=((H.S n).kind:Int)) (fun u hu hn=>(hU u hu hn).2.2) ⟨u,hu,hn⟩,zeu,if_neg ae,if_pos h2]
 ·rw[zhX fun u hu hn=>he ⟨u,hu,hn⟩]
  unfold zgf zeu
  by_cases h0:n=0
  ·rw[if_pos h0,if_pos h0]
  ·rw[if_neg h0,if_neg h0]
   by_cases hf:n<H.F.fresh
   ·rw[if_pos hf,if_pos hf]
    have hk:=h3 n ae hf
    have n0:(H.S n).kind≠0:=fun e=>he ⟨_,List.mem_cons_self ..,h.c0 n ae hf e⟩
    have n1:(H.S n).kind≠1:=fun e=>he ⟨([n],1),List.mem_cons_of_mem _ (List.mem_flatMap.2 ⟨n,h.c1 n ae hf e,List.mem_cons_self ..⟩),ay⟩
    have n2:(H.S n).kind≠2:=fun e=>by
     rcases h.c2 n ae hf e with h4|⟨m,s,h4,h5⟩
     ·cases h4
     ·obtain⟨hm,c,hc,_⟩:=h.cell m s h4
      exact he ⟨(P m s,2),List.mem_cons_of_mem _ (List.mem_flatMap.2 ⟨m,hm,List.mem_cons_of_mem _ (List.mem_map.2 ⟨(s,c),zpC (S:=(H.S m).slots) hc (Nat.zero_le _) (fun x=>by rw[Nat.zero_add]),rfl⟩)⟩),h5⟩
    omega
   ·rw[if_neg hf,if_neg hf]
end Go.Proofs.YtdbogkndglbffaaGreat
namespace Coup
open Go Go.RowKit
structure zjE(w:World)(ds:List Nat):Prop where
 d:∀ D∈ds,w.heap[D]?=some (.deferred (some []))
 nd:ds.Nodup
namespace zjE
variable {w w':World}{ds:List Nat}
theorem nil(w:World):zjE w []:=⟨(fun _ h=>nomatch h),List.nodup_nil⟩
theorem lt(h:zjE w ds):∀ D∈ds,D<w.heap.size:=fun D hD=>(Array.getElem?_eq_some_iff.1 (h.d D hD)).1
theorem kpd{M:List Nat}(h:zjE w ds)(k:Kp M w w')(hM:∀ D∈ds,D∉M):zjE w' ds:=⟨fun D hD=>(k.block D (h.lt D hD) (hM D hD)).trans (h.d D hD),h.nd⟩
theorem new(h:zjE w ds)(hb:Below w.heap.size w w'):zjE w' ds:=h.kpd (M:=[]) (Kp.of_below hb) fun _ _ h=>nomatch h
theorem only{g:Nat}(h:zjE w ds)(ho:Only g w w')(hg:g∉ds):zjE w' ds:=h.kpd (Kp.zaZ ho) fun D hD hm=>hg (List.mem_singleton.1 hm▸hD)
theorem cons{D:Nat}(h:zjE w ds)(hd:w.heap[D]?=some (.deferred (some [])))(hn:D∉ds):zjE w (D::ds):=⟨fun E hE=>(List.mem_cons.1 hE).elim (fun e=>e▸hd) (h.d E),List.nodup_cons.2 ⟨hn,h.nd⟩⟩
theorem soft{B:Nat}(h:zjE w ds)(k:zfc B w w')(hB:∀ D∈ds,D<B):zjE w' ds:=⟨fun D hD=>by
 rcases k.block D (h.lt D hD)with e|⟨e,_⟩
 ·rw[e];exact h.d D hD
 ·have:=hB D hD;omega,h.nd⟩
end zjE
def dms(ds:List Nat):List Dm:=ds.map Dm.m
section
variable {md:Option Nat→Prop}{P:Program}{n:Nat}{Q:Post}{ρ:Env}{w:World}
theorem zhY{rs:List ResultVar}{R:Value→World→Prop}:∀ {ds:List Nat} {w:World},zjE w ds→(∀ w',Kp ds w w'→∃ vs,zh8 P w' ρ rs vs∧R (pack vs) w')→zfN P rs R ρ (dms ds) w
 |[],w,_,h=>h w (Kp.refl _ _)
 |D::ds,w,hm,h=>by
  have hnd:=List.nodup_cons.1 hm.nd
  have ho:Only D w (w.putObj D (.deferred none)):=zce _
  have hm2:zjE (w.putObj D (.deferred none)) ds:=(show zjE w ds from⟨fun E hE=>hm.d E (List.mem_cons_of_mem _ hE),hnd.2⟩).only ho hnd.1
  refine⟨hm.d D ay,zhY hm2 fun w' hk=>h w' ?_⟩
  exact((Kp.zaZ ho).weak fun k _ hk=>by rw[List.mem_singleton.1 hk];simp).trans (hk.weak fun k _ hk=>by simp[hk])
theorem zpE{rs:List ResultVar}{R:Value→World→Prop}(ds:List Nat)(hm:zjE w ds)(hms:ρ.ms=dms ds)(h:∀ w',Kp ds w w'→∃ vs,zh8 P w' ρ rs vs∧R (pack vs) w'):retQ P rs R .ret ρ w:=by
 show zfN P rs R ρ ρ.ms w
 rw[hms];exact zhY hm h
def funcT(P:Program)(t:Nat):Bool:=match P.underlying t with|some (.func _ _ _)=>true|_=>false
theorem zqT{d:Option Nat}{ty:TypeId}{pos:String}{af:Array Edge}{gd:Option (Nat × Bool)}{t t':Nat}{x:Operand}{f:Fn}{a b:Array Value}(ht:funcT P t=true)(hx:ev ρ x= .func f a b):(execOp (ev ρ) ⟨d, .binOp .eql t x (.const .nilFunc) t',ty,pos,af,gd⟩).run P w= .ok (.value (.bool false)) w:=by
 unfold funcT at ht
 split at ht
 ·rename_i hu
  have h1:(eqGuard .eql t x (.const .nilFunc) (.func f a b) .nilFunc).run P w= .ok () w:=by
   unfold eqGuard
   simp
  have h2:∀ n,(Op.equalIn (n+1) t (.func f a b) .nilFunc).run P w= .ok false w:=fun n=>by
   simp only[Op.equalIn,Sem.run_bind,run_underlying hu,Result.andThen_ok]
   rfl
  have h3:(binOp .eql t (.func f a b) .nilFunc).run P w= .ok (.bool false) w:=by
   simp only[binOp]
   simp[Op.equal,Op.maxDepth,h2 9999]
  have h4:ev ρ (.const .nilFunc)= .nilFunc:=rfl
  simp only[execOp,hx,h4,Sem.run_bind,h1,h3,Result.andThen_ok]
  rfl
 ·cases ht
end
end Coup
namespace Go.Proofs.YtdbogkndglbffaaGreat
open Go Go.RowKit Coup
def uL(N:Nat)(f:Nat→Int):List Int:=(List.range N).map f
theorem ziQ(N:Nat)(f:Nat→Int):(uL N f).length=N:=by unfold uL;simp
theorem zk2{N n:Nat}{f:Nat→Int}{v:Int}(h:n<N):(uL N f).set n v=uL N (zfJ f [n] v):=by
 refine List.ext_getElem? fun i=>?_
 unfold uL zfJ
 rw[List.getElem?_set]
 by_cases e:n=i
 ·subst e
  simp[h]
 ·rw[if_neg e]
  by_cases hi:i<N
  ·simp[hi,Ne.symm e]
  ·rw[List.getElem?_eq_none aK,List.getElem?_eq_none aK]
theorem ze8{N:Nat}{f g:Nat→Int}(h:∀ i,i<N→f i=g i):uL N f=uL N g:=List.map_congr_left fun i hi=>h i (List.mem_range.1 hi)
def u03(n i:Nat):Int:=if i=0 then 0 else if i<n then 3 else 0
theorem uL_zero(N:Nat):List.replicate (N*1) (Value.int .i64 0)=iv (uL N (u03 1)):=by
 have:uL N (u03 1)=List.replicate N 0:=by
  refine List.ext_getElem? fun i=>?_
  unfold uL u03
  by_cases hi:i<N
  ·simp[hi]
  ·rw[List.getElem?_eq_none aK,List.getElem?_eq_none aK]
 rw[this,Nat.mul_one,iv,List.map_replicate]
theorem uL_03{N n:Nat}(h1:1≤n):uL N (zfJ (u03 n) [n] 3)=uL N (u03 (n+1)):=ze8 fun i _=>by
 unfold zfJ u03
 by_cases e:i=n
 ·subst e;simp;omega
 ·have:i<n↔i<n+1:=by omega
  simp[e,this]
theorem zqU(f:Nat→Int)(U:List (List Nat × Int))(l:List Nat)(v:Int):ups' f (U++[(l,v)])=zfJ (ups' f U) l v:=zjD ..
theorem uL_more{N i m:Nat}{f:Nat→Int}{l:List Nat}{v:Int}(h:l[i]?=some m):uL N (zfJ (zfJ f (l.take i) v) [m] v)=uL N (zfJ f (l.take (i+1)) v):=ze8 fun x _=>by
 unfold zfJ
 rw[List.take_add_one,h]
 by_cases e:x=m<;>simp[e]
theorem zqV{H:HS}{P:Nat→Nat→List Nat}{rl:List Nat}{i m:Nat}(h:rl[i]?=some m):(rl.take (i+1)).flatMap (upR H P)=(rl.take i).flatMap (upR H P)++upR H P m:=by
 rw[List.take_add_one,h];simp
def UsF(N:Nat)(H:HS)(g gs:Nat)(w:World):Prop:=row w g [.slice (some ⟨gs,0,none⟩) N N] 32∧row w gs (iv (uL N (zeu H))) 3
instance(N:Nat)(H:HS)(g gs:Nat):Kept [g,gs] (UsF N H g gs):=⟨fun⟨h1,h2⟩ k hM=>⟨h1.kpd k (hM g ay),h2.kpd k (hM gs ay)⟩⟩
theorem HOk.liF{N:Nat}{H:HS}{fl:List Nat}{z:Nat→Pg}{G:Nat→Pg}(hH:HOk N H fl)(hG:GS z G H):LiOk G H.S H.F.fresh 0 H.F.free fl:=
 ⟨hH.ch,fun m hm=>have h1:=hH.fk m hm;⟨h1.1,h1.2.1,hH.isV hG h1.1 h1.2.1,h1.2.2⟩,by
  have h2:=zea (H.F.fresh - 1) 1 fl hH.nd fun x hx=>by have:=hH.fk x hx;have:=hH.f1;omega
  have:=hH.f1
  omega⟩
section
variable {Y:World→List Nat→Prop}[hYT:Thing Y]{q jb mw N lo:Nat}{L:List Nat}{G0 V:Nat→Pg}{k:Nat}{H:HS}{fl rl:List Nat}{R:Nat→Nat→Prop}{P:Nat→Nat→List Nat}{B:Nat→Nat→List UInt8}{w:World}
set_option maxRecDepth 20000 in
set_option maxHeartbeats 1000000 in
theorem uses59(g:Nat)(h:JH q jb mw N G0 V k H fl (zcV Y g [.slice none 0 0] 32) lo L w)(hI:HI N H fl rl R P B [])(hF:Full H rl R)(h3:∀ n,1≤n→n<H.F.fresh→(H.S n).kind≤3):
   Calls Tryz.prog 59 [.pointer (some ⟨jb,0,none⟩), .pointer (some ⟨g,0,none⟩)].toArray w
     (Ret fun _ w'=>∃ gs,JH q jb mw N G0 V k H fl (ziP Y [g,gs] (UsF N H g gs)) lo L w'∧LoL lo L w w'):=by
 obtain⟨hxe,hloe,hneL⟩:=h.cell
 have hN:=h.n48
 have hH:=h.ok
 have hfN:=hH.fN
 have hlo0:=h.lo'
 obtain⟨G,hG,hT0⟩:=h.ex
 have hT:=zds hT0
 obtain⟨c,hJ⟩:=zbL hT
 obtain⟨hjl9,hjL9⟩:=hJ.jl
 have hLL:=LoL.refl lo L w
 have hB:=Below.refl w.heap.size w
 have hj:=hJ.zg3
 have hel:=hxe.lt
 have hjg:jb≠g:=fun e=>by
   have h2:=zdr (zbL hT0).choose_spec.p
   exact h2.2.2 aV
 have hpg:=fun L' w' (h':Two (GZ q N G V k) Y lo L' w')=>zkU h'
 have hp:=hJ.p
 have hf1:=hH.f1
 have hliF:=hH.liF hG
 have hliR:=hI.rk.li hH hG
 have hlsF:=fun w'=>ziN (q:=q) (jb:=jb) (mw:=mw) (lo:=lo) (G0:=G0) (V:=V) (k0:=k) hliF hfN w'
 have hlsR:=fun w'=>ziN (q:=q) (jb:=jb) (mw:=mw) (lo:=lo) (G0:=G0) (V:=V) (k0:=k) hliR hfN w'
 obtain⟨fr,hfr⟩:∃ fr,H.F.fresh=fr:=⟨_,rfl⟩
 refine zax (fn:=Tryz.f59) (rs:=[]) (n:=77) Tryz.func59 rfl rfl Tryz.ntmps59 aa rfl (zah (zaa (zaD rfl (za4 ([_]) rfl (fun g2 w2 hg2 hr2 hb2=>?_)))))
 have ge_hB_g2:=Nat.le_trans hB.size hg2
 have lt_jb_g2:jb<g2:=Nat.lt_of_lt_of_le hj.lt hg2
 have lt_g_g2:g<g2:=Nat.lt_of_lt_of_le hxe.lt hg2
 replace hT:=hT.newc hb2 hg2 hr2.lt
 replace hp:=hp.newc hb2 hg2 hr2.lt
 replace hj:=hj.new hb2
 replace hxe:=hxe.new hb2
 replace hB:=hB.acc hb2
 refine zae (zaf (zah (zaa (zad (zau hr2) (zad (zak rfl) (zad (zaw 5) (zad (zau hj) (zao rfl (zaj aa rfl) (hpg _ w2 hp) ?_))))))))
 rintro _ w17 ⟨rfl,hb17⟩
 replace hT:=hT.new hb17
 replace hp:=hp.new hb17
 replace hj:=hj.new hb17
 replace hxe:=hxe.new hb17
 replace hr2:=hr2.new hb17
 replace hB:=hB.acc hb17
 refine zaD rfl (zeD (e:=3) N [.int .i64 0] 1 8 (.int .i64 0) aa aa ⟨_,rfl,rfl⟩ ⟨_,rfl,rfl⟩ ay ay ae ae (fun g18 w18 hg18 hr18 hb18=>?_))
 have ge_hB_g18:=Nat.le_trans hB.size hg18
 have lt_jb_g18:jb<g18:=Nat.lt_of_lt_of_le hj.lt hg18
 have lt_g_g18:g<g18:=Nat.lt_of_lt_of_le hxe.lt hg18
 have lt_g2_g18:g2<g18:=Nat.lt_of_lt_of_le hr2.lt hg18
 replace hT:=hT.newc hb18 hg18 hr18.lt
 replace hp:=hp.newc hb18 hg18 hr18.lt
 replace hj:=hj.new hb18
 replace hxe:=hxe.new hb18
 replace hr2:=hr2.new hb18
 replace hB:=hB.acc hb18
 have hz1:=hB.size
 have hLb:=LoL.of_below (lo:=lo) (L:=L) hB
 refine zaK rfl (zbn hxe (fun w901 hxe ho901=>?_))
 replace hT:=hT.only ho901 ai
 replace hj:=hj.only ho901 ae
 replace hr2:=hr2.only ho901 (Nat.ne_of_gt lt_g_g2)
 replace hr18:=hr18.only ho901 (Nat.ne_of_gt lt_g_g18)
 replace hLb:=hLb.only ho901 ax
 refine zae (zaf (zah (zah (zaa (zad (zac) (zae (zaf (zav ?_))))))))
 rw[uL_zero]at hr18
 have hl2:=hr2.lt
 have hl18:=hr18.lt
 have hg18L:g18∉L:=fun hm=>by have:=h.lo'.2 _ hm;omega
 refine zbq (α:=Nat) 1 (fun n=>[(1, .pointer (some ⟨g,0,none⟩)),(2, .pointer (some ⟨g2,0,none⟩)),(3, .int .i64 (n:Int))])
   (fun n w'=>1≤n∧n≤fr∧Two (JZ q jb mw N G0 G V k H.F) Y lo (g18::g2::g::L) w'∧row w' g [.slice (some ⟨g18,0,none⟩) N N] 32∧row w' g2 [.pointer (some ⟨jb,0,none⟩)] 81∧row w' g18 (iv (uL N (u03 n))) 3∧LoL lo L w w') (fun n=>fr - n)
   ⟨rfl,rfl,rfl,rfl⟩ ⟨Nat.le_refl _,by show 1≤fr;rw[←hfr];exact hf1,hT,hxe,hr2,hr18,hLb⟩ ?_
 rintro n f wr ⟨hn1,hnf,hTr,hxr,hr2r,hsr,hlr⟩
 dsimp only at*
 have hul:=ziQ N (u03 n)
 have hfN2:fr≤N:=by rw[←hfr];exact hfN
 have hobt:=zbL hTr
 obtain⟨c',hJ'⟩:=hobt
 have hjr:=hJ'.zg3
 refine zah (zah (zaa (zad (zab) (zad (zau hr2r) (zad (zak rfl) (zad (zaw 0) (zad (zaw 0) (zad (zau hjr) (zad (zaY rfl rfl) (zae (zaf (za0 rfl (fun hlt=>?_) (fun hlt=>?_)))))))))))))
 ·
  refine zat (zaf (zah (zav (zaa (zad (zau hxr) (zad (zab) (zad (zaN (e:=3) aa rfl rfl (n) ae ae) (zaK rfl (zbn hsr (fun w902 hsr ho902=>?_))))))))))
  replace hTr:=hTr.only ho902 ai
  replace hxr:=hxr.only ho902 (Nat.ne_of_lt lt_g_g18)
  replace hr2r:=hr2r.only ho902 (Nat.ne_of_lt lt_g2_g18)
  replace hlr:=hlr.only ho902 ax
  replace hsr:row w902 g18 ((iv (uL N (u03 n))).set (0+n) (.int .i64 3)) 3:=hsr
  rw[Nat.zero_add,zjZ,zk2 ae,uL_03 hn1]at hsr
  refine zae (zaP (zaf (zaa (zad (zab) (zad (zaO rfl rfl (Coup.w64 ae)) (zad (zac) (zae (za2 ⟨n+1,by show fr - (n+1)<fr - n;omega,⟨rfl,rfl,rfl,rfl⟩,by show 1≤n+1;omega,by show n+1≤fr;omega,hTr,hxr,hr2r,hsr,hlr⟩))))))))
 ·
  have hne:n=fr:=by omega
  rw[hne]at hsr
  have hul2:=ziQ N (u03 fr)
  refine zbh (zbC (zbH (zbl (zaf (zah (zaa (zad (zau hxr) (zad (zaN (e:=3) aa rfl rfl (0) ae ae) (zaK rfl (zbn hsr (fun w903 hsr ho903=>?_)))))))))))
  replace hTr:=hTr.only ho903 ai
  replace hxr:=hxr.only ho903 (Nat.ne_of_lt lt_g_g18)
  replace hr2r:=hr2r.only ho903 (Nat.ne_of_lt lt_g2_g18)
  replace hlr:=hlr.only ho903 ax
  replace hsr:row w903 g18 ((iv (uL N (u03 fr))).set (0+0) (.int .i64 4)) 3:=hsr
  rw[Nat.zero_add,zjZ,zk2 ae]at hsr
  refine zae (zaf (zah (zah ?_)))
  have hobt:=zbL hTr
  obtain⟨c7,hJ7⟩:=hobt
  have hj7:=hJ7.zg3
  refine za3 [] aa ?_
  intro w904 hb904 hS904
  replace hTr:=hTr.new hb904
  replace hxr:=hxr.new hb904
  replace hr2r:=hr2r.new hb904
  replace hsr:=hsr.new hb904
  replace hlr:=hlr.new hb904
  replace hj7:=hj7.new hb904
  have hTr_d904:=hTr
  have hxr_d904:=hxr
  have hr2r_d904:=hr2r
  have hsr_d904:=hsr
  have hlr_d904:=hlr
  have hj7_d904:=hj7
  refine zbo 0 (fun w' hS'=>zau (hr2r_d904.kq hS')) (zbo 1 (fun w' hS'=>zau (hr2r_d904.kq hS')) (zas 2 (zak rfl) (zas 3 (zaw 0) (zas 4 (zaw 1) (zbo 5 (fun w' hS'=>zau (hj7_d904.kq hS')) (zaA 6 aa ?_))))))
  have hq1:=hxr.lt
  have hq2:=hr2r.lt
  have hq3:=hsr.lt
  refine zaU rfl rfl (zaj aa rfl) (hlsF w904) ?_
  rintro _ w39 ⟨gx1,gx2,gx3,rfl,hgs,hb39,hseq⟩
  have hTr:=hTr.zk8 hb39 hgs
  have hS905:=hS904.add0 hb39
  refine⟨hS905,?_⟩
  replace hxr:=hxr.new hb39
  replace hr2r:=hr2r.new hb39
  replace hsr:=hsr.new hb39
  replace hlr:=hlr.new hb39
  replace hj7:=hj7.new hb39
  refine zaI aa (zaf (zav ?_))
  have hu0:uL N (zfJ (u03 fr) [0] 4)=uL N (zfJ (zgf H) (fl.take 0) 0):=ze8 fun i _=>by
    unfold zfJ u03 zgf
    rw[hfr]
    by_cases e:i=0
    · simp[e]
    · simp[e]
  rw[hu0]at hsr
  have hks1:=hgs gx1 ay
  have hks2:=hgs gx2 ay
  have hks3:=hgs gx3 ay
  have hlrg:=hxr.lt
  have hlr2:=hr2r.lt
  have hlrs:=hsr.lt
  have hlrz:=hlr.size
  have hobt:∃ D,(w39).heap.size=D:=⟨_,rfl⟩
  obtain⟨D,hD⟩:=hobt
  have hobt:∃ L0,[gx1,gx2,gx3]++g18::g2::g::L=L0:=⟨_,rfl⟩
  obtain⟨L0,hL0⟩:=hobt
  have hT9:Two (JZ q jb mw N G0 G V k H.F) Y lo L0 w39:=by rw[←hL0];exact hTr
  have hL0s:∀ b∈L,b∈L0:=fun b hb=>by rw[←hL0];simp[hb]
  have hL02:g18∈L0∧g2∈L0∧g∈L0:=by rw[←hL0];simp
  refine zdQ (ps:=[40,41]) (L:=L0) (X:=JZ q jb mw N G0 G V k H.F) (Y:=Y) (α:=Unit) (fun _=>[]) D hD (fun _ h=>h) rfl aa hseq (fun v hv=>by unfold liX at hv;obtain⟨m,_,rfl⟩:=List.mem_map.1 hv;rfl) aa ay (fun b hb=>by rw[←hL0];exact List.mem_append_left _ hb)
    (fun i _ w'=>i≤fl.length∧row w' g [.slice (some ⟨g18,0,none⟩) N N] 32∧row w' g2 [.pointer (some ⟨jb,0,none⟩)] 81∧row w' g18 (iv (uL N (zfJ (zgf H) (fl.take i) 0))) 3∧LoL lo L w w') (fun _ _=>False)
    ?_ ?_ (fun _ _ _ h=>h.elim) (fun _ _ _ h=>h.elim) (fun _ _ _ _ b hb=>by cases hb) () hT9 ⟨Nat.zero_le _,hxr,hr2r,hsr,hlr⟩ ?_ ?_ (fun c W' h=>h.elim)
  · rintro i _ W W' ⟨h1,h2,h3,h4,h5⟩ hk
    exact⟨h1,h2.kl hk (.inr bu),h3.kl hk (.inr bu),h4.kl hk (.inr bu),h5.ll hk fun b hb=>by simp[hL0s b hb]⟩
  · rintro i _ W W' ⟨h1,h2,h3,h4,h5⟩ ho
    exact⟨h1,h2.only ho ae,h3.only ho ae,h4.only ho ae,h5.only ho aG⟩
  · rintro ly i v _ W1 Lx hv hLx _ hT1 ⟨hi,hxr,hr2r,hsr,hlr⟩ hsz1
    obtain⟨m,hm,rfl⟩:∃ m,fl[i]?=some m∧v=[.int .i64 (m:Int), .agg (bv (zay (H.S m))).toArray]:=by
      unfold liX at hv
      rw[List.getElem?_map]at hv
      have hobt:=Option.map_eq_some_iff.1 hv
      obtain⟨m,hm,e⟩:=hobt
      exact⟨m,hm,e.symm⟩
    have hil:i<fl.length:=(List.getElem?_eq_some_iff.1 hm).1
    have hfk:=hH.fk m (List.mem_of_getElem? hm)
    have hul9:=ziQ N (zfJ (zgf H) (fl.take i) 0)
    have hBa:=Below.refl W1.heap.size W1
    refine zaa (zad (zac) (zae (⟨rfl,hBa,fun W2 hs=>?_⟩)))
    replace hT1:=hT1.only hs (.inr ay)
    replace hxr:=hxr.only hs ae
    replace hr2r:=hr2r.only hs ae
    replace hsr:=hsr.only hs ae
    replace hlr:=hlr.only hs aG
    refine zav (zaa (zad (zau hxr) (zad (zab) (zad (zaN (e:=3) aa rfl rfl (m) ae ae) (zaK rfl (zbn hsr (fun w906 hsr ho906=>?_)))))))
    replace hxr:=hxr.only ho906 (Nat.ne_of_lt lt_g_g18)
    replace hr2r:=hr2r.only ho906 (Nat.ne_of_lt lt_g2_g18)
    replace hlr:=hlr.only ho906 ax
    replace hsr:row w906 g18 ((iv (uL N (zfJ (zgf H) (fl.take i) 0))).set (0+m) (.int .i64 0)) 3:=hsr
    rw[Nat.zero_add,zjZ,zk2 ae]at hsr
    have hoE:=ho906
    refine zae (zaP ?_)
    have hse:uL N (zfJ (zfJ (zgf H) (fl.take i) 0) [m] 0)=uL N (zfJ (zgf H) (fl.take (i+1)) 0):=ze8 fun x _=>by
      unfold zfJ
      rw[List.take_add_one,hm]
      by_cases e:x=m<;>simp[e]
    rw[hse]at hsr
    have hgo:g18∉(D+1)::D::Lx:=fun hx=>by
      simp only[List.mem_cons]at hx
      rcases hx with h|h|h
      ·omega
      ·omega
      ·rcases hLx g18 h with h2|h2
       · simp only[List.mem_cons,List.not_mem_nil,or_false]at h2
         omega
       · omega
    have hlo9:=hT1.lo
    exact⟨(LoL.refl lo _ W2).only hoE (.inr ⟨ae,hgo⟩),(),hT1.only hoE (.inr bu),ae,hxr,hr2r,hsr,hlr⟩
  · rintro _ W hTd ⟨_,hxr,hr2r,hsr,hlr⟩ hdef
    have hxsF:(liX H.S fl).length=fl.length:=by unfold liX;rw[List.length_map]
    rw[hxsF,List.take_length]at hsr
    have hdf:zju W D:=⟨hdef⟩
    have hTd:Two (JZ q jb mw N G0 G V k H.F) Y lo (D::L0) W:=hTd
    have hobt:=zbL hTd
    obtain⟨c8,hJ8⟩:=hobt
    have hj8:=hJ8.zg3
    refine zaP (zaf (zah (za3 [] aa ?_)))
    intro w907 hb907 hS907
    replace hxr:=hxr.new hb907
    replace hr2r:=hr2r.new hb907
    replace hsr:=hsr.new hb907
    replace hlr:=hlr.new hb907
    replace hdf:=hdf.new hb907
    replace hTd:=hTd.new hb907
    replace hj8:=hj8.new hb907
    have hxr_d907:=hxr
    have hr2r_d907:=hr2r
    have hsr_d907:=hsr
    have hlr_d907:=hlr
    have hdf_d907:=hdf
    have hTd_d907:=hTd
    have hj8_d907:=hj8
    refine zbo 0 (fun w' hS'=>zau (hr2r_d907.kq hS')) (zbo 1 (fun w' hS'=>zau (hr2r_d907.kq hS')) (zas 2 (zak rfl) (zas 3 (zaw 0) (zas 4 (zaw 3) (zbo 5 (fun w' hS'=>zau (hj8_d907.kq hS')) (zaA 6 aa ?_))))))
    have hq4:=hxr.lt
    have hq5:=hr2r.lt
    have hq6:=hsr.lt
    have hq7:=hdf.lt
    refine zaU rfl rfl (zaj aa rfl) (hlsR w907) ?_
    rintro _ w51 ⟨gy1,gy2,gy3,rfl,hgs2,hb51,hseq2⟩
    have hTd:=hTd.zk8 hb51 hgs2
    have hS908:=hS907.add0 hb51
    refine⟨hS908,?_⟩
    replace hxr:=hxr.new hb51
    replace hr2r:=hr2r.new hb51
    replace hsr:=hsr.new hb51
    replace hlr:=hlr.new hb51
    replace hdf:=hdf.new hb51
    replace hj8:=hj8.new hb51
    refine zaI aa (zaf (zav ?_))
    have hky1:=hgs2 gy1 ay
    have hky2:=hgs2 gy2 ay
    have hky3:=hgs2 gy3 ay
    have hql1:=hxr.lt
    have hql2:=hr2r.lt
    have hql3:=hsr.lt
    have hql4:=hdf.lt
    have hqlz:=hlr.size
    have hobt:∃ E0,(w51).heap.size=E0:=⟨_,rfl⟩
    obtain⟨E0,hE0⟩:=hobt
    have hobt:∃ E1,E0+1=E1:=⟨_,rfl⟩
    obtain⟨E1,hE1⟩:=hobt
    have hxsR:(liX H.S rl).length=rl.length:=by unfold liX;rw[List.length_map]
    have hobt:∃ L1,[gy1,gy2,gy3]++D::L0=L1:=⟨_,rfl⟩
    obtain⟨L1,hL1⟩:=hobt
    have hTe:Two (JZ q jb mw N G0 G V k H.F) Y lo L1 w51:=by rw[←hL1];exact hTd
    have hL1s:∀ b∈L,b∈L1:=fun b hb=>by rw[←hL1];simp[hL0s b hb]
    have hL12:g18∈L1∧g2∈L1∧g∈L1∧D∈L1:=by rw[←hL1];simp[hL02]
    have hks2:∀ b∈[gy1,gy2,gy3],D<b∧g18<b:=fun b hb=>by
      have:=hgs2 b hb
      omega
    refine zcT (τ:=Unit) (m:=(liX H.S rl).length) (V:=fun _ k v _ Lx Ea=>(liX H.S rl)[k]?=some v∧∀ b∈Ea,b∉Lx) (T0:=fun _ _ _=>True) (ps:=[52,53]) (L:=L1) (X:=JZ q jb mw N G0 G V k H.F) (Y:=Y) (α:=Unit) (fun _=>[]) E1 [E0] (fun rd h=>by rw[show rd=none from h,←hE1,←hE0];exact zen _ _) rfl aa (SeqZ.v hseq2) (fun _ i v _ _ _ hv=>by have:=List.mem_of_getElem? hv.1;unfold liX at this;obtain⟨m,_,rfl⟩:=List.mem_map.1 this;rfl) aa ay (fun b hb=>by rw[←hL1];exact List.mem_append_left _ hb)
      (fun _ i _ w'=>i≤rl.length∧row w' g [.slice (some ⟨g18,0,none⟩) N N] 32∧row w' g2 [.pointer (some ⟨jb,0,none⟩)] 81∧row w' g18 (iv (uL N (ups' (zgf H) ((fl,0)::(rl.take i).flatMap (upR H P))))) 3∧LoL lo L w w'∧zju w' D) (fun _ _=>False)
      ?_ ?_ (fun _ _ _ h=>h.elim) (fun _ _ _ h=>h.elim) (fun _ _ _ _ _ b hb=>by cases hb) () (show Two _ Y lo ([]++L1) _ from hTe) ?_ ?_ ?_ (fun c W' h=>h.elim)
    · rintro _ i _ W W' ⟨h1,h2,h3,h4,h5,h6⟩ hk
      exact⟨h1,h2.kl hk (.inr bz),h3.kl hk (.inr bz),h4.kl hk (.inr bz),h5.ll hk (fun b hb=>by simp[hL1s b hb]),h6.kpd hk.kp (zam (.inr bz))⟩
    · rintro _ i _ W W' ⟨h1,h2,h3,h4,h5,h6⟩ ho
      exact⟨h1,h2.only ho ae,h3.only ho ae,h4.only ho ae,h5.only ho aG,h6.only ho ae⟩
    · intro _ W' _ hl
      exact⟨Nat.zero_le _,hxr.kl hl (.inr bz),hr2r.kl hl (.inr bz),hsr.kl hl (.inr bz),hlr.ll hl (fun b hb=>by simp[hL1s b hb]),hdf.kpd hl.kp (zam (.inr bz))⟩
    · rintro _ i v _ W1 Lx hkm ⟨hv,_⟩ hLx hT1 ⟨hi,hxr,hr2r,hsr,hlr,hdf⟩ hsz1
      obtain⟨m,hm,rfl⟩:∃ m,rl[i]?=some m∧v=[.int .i64 (m:Int), .agg (bv (zay (H.S m))).toArray]:=by
       unfold liX at hv
       rw[List.getElem?_map]at hv
       have hobt:=Option.map_eq_some_iff.1 hv
       obtain⟨m,hm,e⟩:=hobt
       exact⟨m,hm,e.symm⟩
      replace hT1:Two (JZ q jb mw N G0 G V k H.F) Y lo (Lx++E1::E0::L1) W1:=hT1
      have hil:i<rl.length:=(List.getElem?_eq_some_iff.1 hm).1
      have hmem:=List.mem_of_getElem? hm
      have hobt:=hliR.at_ m hmem
      obtain⟨ha1,ha2,ha3,ha4⟩:=hobt
      have hQl:=zaR ha3.1
      have hpa:=fun w'=>zpy (H.S m) ha3.1 w'
      have hobt:∃ Q,zay (H.S m)=Q:=⟨_,rfl⟩
      obtain⟨Q,hQ⟩:=hobt
      simp only[hQ]at hpa hQl ⊢
      have hobt:∃ U0,(fl,(0:Int))::(rl.take i).flatMap (upR H P)=U0:=⟨_,rfl⟩
      obtain⟨U0,hU0⟩:=hobt
      rw[hU0]at hsr
      have hul9:=ziQ N (ups' (zgf H) U0)
      have hLx9:∀ b∈Lx,D<b∧g18<b:=fun b hb=>by
       rcases hLx b hb with h|h
       · exact hks2 b h
       · omega
      have hBa:=Below.refl W1.heap.size W1
      have hT1a:=hT1
      refine zah (zaa (zad (zac) (zae (zaf (zaa (zaD rfl (zar (List.replicate 512 (Value.int .u8 0)) aa (fun g6 w6 hg6 hr6 hb6=>?_))))))))
      have ge_hBa_g6:=Nat.le_trans hBa.size hg6
      replace hT1:=hT1.newc hb6 hg6 hr6.lt
      replace hBa:=hBa.acc hb6
      refine zaK rfl (zaQ 512 (bv Q) hr6 (fun w909 hr6 ho909=>?_))
      replace hT1:=hT1.only ho909 ai
      replace hBa:=ho909.below hBa ge_hBa_g6
      refine zae (⟨rfl,hBa,fun W2 hs hlp=>?_⟩)
      have hsa:=hBa.size
      have hss:=hs.size
      have hl6:=hr6.lt
      have hlpA:=zpx.mk hlp
      replace hr6:=hr6.only hs ae
      replace hT1:=hT1.only hs (.inr ay)
      replace hr2r:=(hr2r.new hBa).only hs ae
      replace hxr:=(hxr.new hBa).only hs ae
      replace hsr:=(hsr.new hBa).only hs ae
      replace hlr:=(hlr.new hBa).only hs aG
      replace hdf:=(hdf.new hBa).only hs ae
      have hLr:=LoL.refl lo (E1::E0::Lx) W2
      refine zav (zah (zaa (zad (zau hxr) (zad (zab) (zad (zaN (e:=3) aa rfl rfl (m) ae ae) (zaK rfl (zbn hsr (fun w910 hsr ho910=>?_))))))))
      replace hT1:=hT1.only ho910 ai
      replace hr6:=hr6.only ho910 ae
      replace hr2r:=hr2r.only ho910 (Nat.ne_of_lt lt_g2_g18)
      replace hxr:=hxr.only ho910 (Nat.ne_of_lt lt_g_g18)
      replace hsr:row w910 g18 ((iv (uL N (ups' (zgf H) U0))).set (0+m) (.int .i64 1)) 3:=hsr
      rw[Nat.zero_add,zjZ,zk2 ae,←zqU]at hsr
      have hoE:=ho910
      replace hLr:=hLr.only hoE (.inr ⟨ae,fun hm=>by simp only[List.mem_cons]at hm;rcases hm with h|h|h;omega;omega;have:=hLx9 _ h;omega⟩)
      replace hlr:=hlr.only hoE (.inr ⟨ae,hg18L⟩)
      replace hdf:=hdf.only hoE ae
      replace hlpA:=hlpA.only hoE ae
      refine zae (zaf (zah (zaa (zad (za7 512 hr6) (zao rfl (zaj aa rfl) (hpa w910) ?_)))))
      rintro _ w58 ⟨gp,rfl,hgp,hrp,hb58⟩
      replace hT1:=hT1.newc hb58 hgp hrp.lt
      replace hr6:=hr6.new hb58
      replace hr2r:=hr2r.new hb58
      replace hxr:=hxr.new hb58
      replace hsr:=hsr.new hb58
      replace hLr:=hLr.new hb58
      replace hlr:=hlr.new hb58
      replace hdf:=hdf.new hb58
      replace hlpA:=hlpA.new hb58
      refine zae (zaf (zav ?_))
      have hgpl:=hrp.lt
      have hlr6:=hr6.lt
      have hlr2:=hr2r.lt
      have hzr:=hLr.size
      have hzl:=hlr.size
      have hobt:∃ D2,(w58).heap.size=D2:=⟨_,rfl⟩
      obtain⟨D2,hD2⟩:=hobt
      have hobt:∃ L',gp::g6::(Lx++E1::E0::L1)=L':=⟨_,rfl⟩
      obtain⟨L',hL'⟩:=hobt
      have hL'1:gp∈L'∧g18∈L'∧g2∈L'∧g∈L'∧D∈L':=by rw[←hL'];simp[hL12]
      have hL'2:∀ b∈E1::E0::Lx,b∈L':=fun b hb=>by
       rw[←hL']
       simp only[List.mem_cons,List.mem_append]at hb ⊢
       rcases hb with h|h|h<;>simp[h]
      have hL'3:∀ b∈L,b∈L':=fun b hb=>by rw[←hL'];simp[hL1s b hb]
      have hT2:Two (JZ q jb mw N G0 G V k H.F) Y lo L' w58:=by rw[←hL'];exact hT1
      have hobt:∃ f1,ups' (zgf H) (U0++[([m],1)])=f1:=⟨_,rfl⟩
      obtain⟨f1,hf1⟩:=hobt
      rw[hf1]at hsr
      refine zcT (τ:=List Nat) (m:=(pres 0 (H.S m).slots).length) (V:=PaV (H.S m).slots) (T0:=fun t n w'=>∀ b∈t,n≤b∧b<w'.heap.size) (ps:=[59,60]) (L:=L') (X:=JZ q jb mw N G0 G V k H.F) (Y:=Y) (α:=Unit) (fun _=>[]) D2 [] (fun rd h=>by rw[show rd=some E1 from h,←hD2];exact zhP _ hlpA.r.choose_spec) rfl aa (zpw (X:=JZ q jb mw N G0 G V k H.F) (lo:=lo) (H.S m) ha3.1 gp _ (by rw[hQ];exact hrp)) (fun t i v _ _ _ hv=>by obtain⟨_,_,_,_,_,_,_,rfl,_⟩:=hv;rfl) aa ay (fun b hb=>by rw[List.mem_singleton.1 hb];exact hL'1.1)
       (fun t j _ w'=>(∀ b∈t,D2<b)∧row w' g [.slice (some ⟨g18,0,none⟩) N N] 32∧row w' g2 [.pointer (some ⟨jb,0,none⟩)] 81∧row w' g18 (iv (uL N (ups' f1 (((pres 0 (H.S m).slots).take j).map fun x=>(P m x.1,2))))) 3∧zju w' D∧LoL lo (E1::E0::Lx) W2 w'∧LoL lo L w w') (fun _ _=>False)
       ?_ ?_ (fun _ _ _ h=>h.elim) (fun _ _ _ h=>h.elim) (fun _ _ _ _ _ b hb=>by cases hb) () (show Two _ Y lo ([]++L') _ from hT2) ?_ ?_ ?_ (fun c W' h=>h.elim)
      ·rintro t j _ W W' ⟨h1,h2,h3,h4,h5,h6,h7⟩ hk
       exact⟨h1,h2.kl hk (.inr aM),h3.kl hk (.inr aM),h4.kl hk (.inr aM),h5.kpd hk.kp (zam (.inr aM)),h6.ll hk (fun b hb=>by simp[hL'2 b hb]),h7.ll hk fun b hb=>by simp[hL'3 b hb]⟩
      ·rintro t j _ W W' ⟨h1,h2,h3,h4,h5,h6,h7⟩ ho
       exact⟨h1,h2.only ho ae,h3.only ho ae,h4.only ho ae,h5.only ho ae,h6.only ho aG,h7.only ho aG⟩
      ·intro t W' ht hl
       exact⟨fun b hb=>(ht b hb).1,hxr.kl hl (.inr aM),hr2r.kl hl (.inr aM),hsr.kl hl (.inr aM),hdf.kpd hl.kp (zam (.inr aM)),hLr.ll hl (fun b hb=>by simp[hL'2 b hb]),hlr.ll hl fun b hb=>by simp[hL'3 b hb]⟩
      ·rintro t j v _ W3 Lx3 hj3 ⟨rfl,s,c,gc,oc,cc,hpk,rfl,hsc,hgc,hcc⟩ hLx3 hT3 ⟨ht3,hxr3,hr23,hsr3,hdf3,hlr3,hl13⟩ hsz3
       replace hT3:Two (JZ q jb mw N G0 G V k H.F) Y lo (t++D2::L') W3:=hT3
       have hslot:=zg7 (S:=(H.S m).slots) hpk fun x=>by rw[Nat.zero_add]
       have hRms:R m s:=(hF m hmem).2 s c hslot
       have hobt:=hI.cell m s hRms
       obtain⟨_,c',hc',hcl⟩:=hobt
       obtain rfl:c'=c:=by rw[hslot]at hc';exact(Option.some.inj (Option.some.inj hc')).symm
       have hBb:=Below.refl W3.heap.size W3
       refine zaa (zad (zac) (zae (⟨rfl,hBb,fun W4 hs4 _=>?_⟩)))
       have hz4:=hs4.size
       replace hT3:=hT3.only hs4 (.inr ay)
       replace hxr3:=hxr3.only hs4 ae
       replace hr23:=hr23.only hs4 ae
       replace hsr3:=hsr3.only hs4 ae
       replace hdf3:=hdf3.only hs4 ae
       replace hlr3:=hlr3.only hs4 aG
       replace hl13:=hl13.only hs4 aG
       have hgcD:=ht3 gc hgc
       replace hsc:=Coup.zaS.kpd hsc (Kp.zaZ hs4) fun b o e=>by cases e;simp;omega
       have hpa3:=zpu hH hG hT3 hcl (some ⟨gc,oc,none⟩) cc hsc hcc
       have hobt:∃ f2,ups' f1 (((pres 0 (H.S m).slots).take j).map fun x=>(P m x.1,(2:Int)))=f2:=⟨_,rfl⟩
       obtain⟨f2,hf2⟩:=hobt
       have hu9:ups' f1 (((pres 0 (H.S m).slots).take (j+1)).map fun x=>(P m x.1,(2:Int)))=zfJ f2 (P m s) 2:=by rw[List.take_add_one,hpk,Option.toList_some,List.map_append,zjD,hf2];rfl
       rw[hf2]at hsr3
       have hz0:uL N f2=uL N (zfJ f2 ((P m s).take 0) 2):=ze8 fun x _=>by simp[zfJ]
       rw[hz0]at hsr3
       have hpl:=(hI.pat hRms).2
       have hobt:∃ pl,P m s=pl:=⟨_,rfl⟩
       obtain⟨pl,hple⟩:=hobt
       rw[hple]at hpa3 hu9 hsr3 hpl
       have hsz4:=hlr3.size
       refine zav (zah (zaa (zad (zau hr23) (zad (zab) (zao rfl (zaj aa rfl) (hpa3) ?_)))))
       rintro _ w64 ⟨up,pb,cb,M,rfl,hsb,hcb,hpb,hMn,hup,hupM,hT5,hb64⟩
       replace hr23:=hr23.kl hb64 (.inr aM)
       replace hxr3:=hxr3.kl hb64 (.inr aM)
       replace hsr3:=hsr3.kl hb64 (.inr aM)
       replace hdf3:=hdf3.kpd hb64.kp (zam (.inr aM))
       replace hlr3:=hlr3.ll hb64 fun b hb=>by simp[hL'2 b hb]
       replace hl13:=hl13.ll hb64 fun b hb=>by simp[hL'3 b hb]
       have hl4:LoL lo (D2::t) W4 w64:=hb64.weak (Nat.le_refl _) fun b hb=>by simp only[List.mem_cons]at hb;rcases hb with h|h<;>simp[h]
       have hz64:=hb64.size
       have hform:=hup.form
       obtain⟨pu,cu,rfl⟩:=hform
       have hsl0:=hup.sl
       have hlm:=hsl0.max
       unfold maxLen at hlm
       refine zad (zab) (zad (zai rfl rfl) (zad (zai rfl rfl) (zad (zac) (zad (zac) (zae (zaf (zah (zaa (zad (zab) (zad (zaB (e:=3) (sz:=1) aa rfl rfl) (zad (zab) (zae (zaf (zav ?_))))))))))))))
       have hobt:∃ LM,M++(t++D2::L')=LM:=⟨_,rfl⟩
       obtain⟨LM,hLM⟩:=hobt
       have hT6:Two (JZ q jb mw N G0 G V k H.F) Y lo LM w64:=by rw[←hLM];exact hT5
       have hLM1:g18∈LM:=by rw[←hLM];simp[hL'1]
       have hpu:∀ g' o,pu=some ⟨g',o,none⟩→W4.heap.size≤g':=fun g' o e=>hMn g' (hupM g' (by rw[e];simp[Value.ownBlock]))
       refine zbq (α:=Nat) 0 (fun i=>[(1, .pointer (some ⟨g,0,none⟩)),(67, .slice pu pl.length cu),(68, .int .i64 (pl.length:Int)),(69, .int .i64 (i:Int))])
         (fun i w'=>i≤pl.length∧Two (JZ q jb mw N G0 G V k H.F) Y lo LM w'∧row w' g [.slice (some ⟨g18,0,none⟩) N N] 32∧row w' g2 [.pointer (some ⟨jb,0,none⟩)] 81∧row w' g18 (iv (uL N (zfJ f2 (pl.take i) 2))) 3∧zaS w' pu pl.length 1 (nv pl)∧zju w' D∧LoL lo (D2::t) W4 w'∧LoL lo (E1::E0::Lx) W2 w'∧LoL lo L w w') (fun i=>pl.length - i) ⟨rfl,rfl,rfl,rfl,rfl⟩ ⟨Nat.zero_le _,hT6,hxr3,hr23,hsr3,hsl0,hdf3,hl4,hlr3,hl13⟩ ?_
       rintro i9 f9 wr ⟨hi9,hT7,hx7,hr7,hs7,hsl7,hd7,hl7,hlr7,hl17⟩
       have hul7:=ziQ N (zfJ f2 (pl.take i9) 2)
       have hz7:=hl7.size
       refine zah (zaa (zad (zaY rfl rfl) (zae (zaf (zah (za0 rfl (fun hlt=>?_) (fun hlt=>?_)))))))
       ·
        refine bL ?_
        have hil9:i9<pl.length:=by omega
        have hm9:=List.getElem?_eq_getElem hil9
        have hobt:∃ m9,pl[i9]=m9:=⟨_,rfl⟩
        obtain⟨m9,hme9⟩:=hobt
        rw[hme9]at hm9
        have hmN:=hpl m9 (List.mem_of_getElem? hm9)
        have hnm:(nv pl)[i9]?=some (.int .i64 (m9:Int)):=by unfold nv;rw[List.getElem?_map,hm9];rfl
        have hobt:=hsl7.some ae
        obtain⟨gs9,os9,rfl,hgs9⟩:=hobt
        have hgu:=hpu gs9 os9 rfl
        refine zaa (zad (zaN (e:=3) aa rfl rfl (i9) ae ae) (zad (zaG rfl (Ld.sl1 hsl7 aa hnm)) (zad (zac) (zae (zaf (zaa (zad (zau hx7) (zad (zab) (zad (zaN (e:=3) aa rfl rfl (m9) ae ae) (zaK rfl (zbn hs7 (fun w911 hs7 ho911=>?_))))))))))))
        replace hT7:=hT7.only ho911 ai
        replace hx7:=hx7.only ho911 (Nat.ne_of_lt lt_g_g18)
        replace hr7:=hr7.only ho911 (Nat.ne_of_lt lt_g2_g18)
        replace hs7:row w911 g18 ((iv (uL N (zfJ f2 (pl.take i9) 2))).set (0+m9) (.int .i64 2)) 3:=hs7
        rw[Nat.zero_add,zjZ,zk2 ae,uL_more hm9]at hs7
        have hoE:=ho911
        refine zae (zaP (zaf (zaa (zad (zaO rfl rfl (show IntKind.i64.wrap ((i9:Int)+1)=((i9+1:Nat):Int) by rw[Coup.w64 ae];omega)) (zad (zab) (zae (za2 ⟨i9+1,ae,⟨rfl,rfl,rfl,rfl,rfl⟩,hil9,hT7,hx7,hr7,hs7,Coup.zaS.kpd hsl7 (Kp.zaZ hoE) fun g' o e hm=>by cases e;have:=List.mem_singleton.1 hm;omega,hd7.only hoE ae,hl7.only hoE (.inr ⟨ae,fun hm=>by rcases List.mem_cons.1 hm with h|h;omega;have:=ht3 _ h;omega⟩),hlr7.only hoE (.inr ⟨ae,fun hm=>by simp only[List.mem_cons]at hm;rcases hm with h|h|h;omega;omega;have:=hLx9 _ h;omega⟩),hl17.only hoE (.inr ⟨ae,hg18L⟩)⟩)))))))
       ·
        have hie9:i9=pl.length:=by omega
        rw[hie9,List.take_length,←hu9]at hs7
        refine zbh (zbC (zbH (zbl (zaP ?_))))
        exact⟨hl7,(),hT7.weak (fun b hb=>by rw[←hLM];exact List.mem_append_right _ hb),ht3,hx7,hr7,hs7,hd7,hlr7,hl17⟩
      ·rintro t _ W' hT' ⟨_,hxr',hr2',hsr',hdf',hlr',hl'⟩ _
       replace hT':Two (JZ q jb mw N G0 G V k H.F) Y lo L' W':=hT'
       rw[List.take_length]at hsr'
       have hu9:ups' f1 ((pres 0 (H.S m).slots).map fun x=>(P m x.1,(2:Int)))=ups' (zgf H) ((fl,0)::(rl.take (i+1)).flatMap (upR H P)):=by
         rw[zqV hm,←List.cons_append,hU0,←hf1,←zjD,List.append_assoc]
         rfl
       rw[hu9]at hsr'
       refine zaP (zaP ?_)
       exact⟨hlr',(),hT'.weak (fun b hb=>by rw[←hL'];exact List.mem_cons_of_mem _ (List.mem_cons_of_mem _ hb)),hil,hxr',hr2',hsr',hl',hdf'⟩
    · rintro _ _ W hT9 ⟨_,hx9,hr9,hs9,hl9,hd9⟩ hds
      have hE9:=hds E0 ay
      replace hT9:Two (JZ q jb mw N G0 G V k H.F) Y lo (E0::L1) W:=hT9
      rw[hxsR,List.take_length]at hs9
      have hmk:zjE W [E0,D]:=⟨fun x hx=>by rcases List.mem_cons.1 hx with rfl|hx;exact hE9;rw[List.mem_singleton.1 hx];exact hd9.d,by simp;omega⟩
      rw[ze8 (g:=zeu H) fun n _=>hI.uses hF h3 n]at hs9
      refine zaP (zpE [E0,D] hmk rfl fun w9 hk=>⟨[],trivial,g18,⟨hH,G,hG,zeP ((hT9.kpd hk fun b hb=>?_).weak fun b hb=>?_) ⟨hx9.kpd hk aK,hs9.kpd hk aK⟩ fun b hb=>?_⟩,hl9.kpd hk fun b hb=>?_⟩)
      ·rcases List.mem_cons.1 hb with h|h
       · exact .inr (by simp[h])
       · exact .inr (by rw[List.mem_singleton.1 h];simp[hL12])
      ·simp only[List.cons_append,List.nil_append,List.mem_cons]at hb ⊢
       rcases hb with h|h|h
       · simp[h,hL12]
       · simp[h,hL12]
       · simp[hL1s b h]
      ·simp only[List.mem_cons,List.not_mem_nil,or_false]at hb
       rcases hb with h|h
       · rw[h];exact⟨hloe,hneL⟩
       · rw[h];exact⟨ae,hg18L⟩
      ·simp only[List.mem_cons,List.not_mem_nil,or_false]at hb
       right;omega
end
def F0:Fst:=⟨1,0,0,0,0⟩
def H0:HS:=⟨F0,fun _=>zdX 0⟩
theorem zqW{N:Nat}(h:1≤N):HOk N H0 []:=⟨Nat.le_refl _,h,(fun n h1 h2=>by have h3:n<1:=h2;omega),rfl,(fun n hn=>by cases hn),List.nodup_nil,rfl,(by show 0<1;omega),(by show 0<N;omega)⟩
theorem H0_in{N:Nat}(h:1≤N):HI N H0 [] [] (fun _ _=>False) (fun _ _=>[]) (fun _ _=>[]) []:=
 ⟨zqW h,⟨rfl,(fun m hm=>by cases hm),List.nodup_nil⟩,(fun m s h=>h.elim),(fun m s m' s' n h=>h.elim),(fun n hn=>by cases hn),(fun n h1 h2=>by have h3:n<1:=h2;omega),(fun n h1 h2=>by have h3:n<1:=h2;omega),fun n h1 h2=>by have h3:n<1:=h2;omega⟩
theorem zlS:Full H0 [] (fun _ _=>False):=fun m hm=>by cases hm
theorem pg0(n:Nat):ze9 (fun _=>zb8) 0 (zay (zc6 F0)) n=pgH H0 n:=by
 unfold ze9 pgH
 split
 ·rfl
 ·rw[if_neg (by show¬n<1;omega)]
section
variable {Y:World→List Nat→Prop}[hYT:Thing Y]{q N lo:Nat}{L:List Nat}{G V:Nat→Pg}{k:Nat}{H:HS}{fl:List Nat}{w:World}
set_option maxRecDepth 20000 in
theorem formatH(h:Two (GZ q N (fun _=>zb8) V k) Y lo L w):Calls Tryz.prog 24 [.pointer (some ⟨q,0,none⟩)].toArray w (Ret fun v w'=>v= .int .i64 0∧Two (GZ q N (pgH H0) V k) Y lo L w'∧LoL lo L w w'):=by
 have hg:=zjv h
 have hpg:=fun w'=>zpp F0 w'
 have hl:=zbv (zc6 F0) (zdE F0).size
 have hpu:=fun L' w' (h':Two (GZ q N (fun _=>zb8) V k) Y lo L' w')=>(gPut h' 0 ae hl).to fun v w2 ⟨h1,h2,h3⟩=>(show v=Value.int .i64 0∧Two (GZ q N (pgH H0) V k) Y lo L' w2∧LoL lo L' w' w2 from⟨h1,zhV h2 fun _ hB=>GZ.congr hB fun n _=>pg0 n,h3⟩)
 have hLL:=LoL.refl lo L w
 obtain⟨Q,hQ⟩:∃ Q,zay (zc6 F0)=Q:=⟨_,rfl⟩
 simp only[hQ]at hpg hpu
 refine zax (fn:=Tryz.f24) (rs:=[.tmp 2]) (n:=7) Tryz.func24 rfl rfl Tryz.ntmps24 aa rfl (zah (zaa (zad (zac) (zae (zaf (zah (zaa (zad (zab) (zad (zfT (.int .i64 1) (zh6 F0) rfl aa) (zao rfl (zaj aa rfl) (hpg w) ?_))))))))))
 rintro _ w5 ⟨rfl,hb5⟩
 replace hLL:=hLL.new hb5
 replace h:=h.new hb5
 refine zao rfl (zaj aa rfl) (hpu _ w5 h) ?_
 rintro _ w6 ⟨rfl,h,hb6⟩
 replace hLL:=hLL.lq hb6
 refine cB ?_
 exact⟨rfl,h,hLL⟩
set_option maxRecDepth 20000 in
theorem open65(a:Value)(w:World):Calls Tryz.prog 65 [a].toArray w (Ret fun _ w'=>w=w'):=by
 refine zax (fn:=Tryz.f65) (rs:=[]) (n:=2) Tryz.func65 rfl rfl Tryz.ntmps65 aa rfl (zat (zbk [] trivial ?_))
 exact rfl
set_option maxRecDepth 20000 in
theorem openH(h:Two (GZ q N (pgH H) V k) Y lo L w)(hH:HOk N H fl):Calls Tryz.prog 22 [.pointer (some ⟨q,0,none⟩)].toArray w (Ret fun v w'=>∃ hb,v= .tuple #[.pointer (some ⟨hb,0,none⟩), .int .i64 0]∧row w' hb [.pointer (some ⟨q,0,none⟩)] 50∧w.heap.size≤hb∧Two (GZ q N (pgH H) V k) Y lo (hb::L) w'∧LoL lo L w w'):=by
 have hLL:=LoL.refl lo L w
 have hrun:Calls Tryz.prog 64 [.pointer (some ⟨q,0,none⟩), .func (.func 65) #[] ([]:List Value).toArray].toArray w (Ret fun v w'=>v= .int .i64 0∧Two (GZ q N (pgH H) V k) Y lo L w'∧LoL lo L w w'):=by
  refine(run64 h hH.hr 65 [] aa (fun H' fl' Y'=>H'=H∧Y'=Y) (fun e Y'=>False)
   (fun H' fl' Y' ⟨_,e⟩=>by subst e;infer_instance) (fun e Y' h=>h.elim) (fun H' fl' Y' ⟨e,_⟩=>by rw[e];exact Nat.le_refl _) fun jb mw L' w' hs hl hJ=>?_).to fun v w' h=>?_
  ·exact(open65 _ w').toP fun v w2 e=>by subst e;exact⟨H,fl,Y,⟨rfl,rfl⟩,hJ,LoL.refl _ _ _⟩
  ·rcases h with⟨H',fl',Y',G',⟨rfl,rfl⟩,h3,h4,h5,h6⟩|⟨e,Y',h,_⟩
   ·exact⟨h3,h4.two h5,h6⟩
   ·exact h.elim
 refine zax (fn:=Tryz.f22) (rs:=[.tmp 2, .tmp 3]) (n:=13) Tryz.func22 rfl rfl Tryz.ntmps22 aa rfl (zah (zaa (zad (zac) (zad (zac) (zae (zaf (zah (zah (zaa (zad (zab) (zao rfl (zaj aa rfl) (hrun) ?_)))))))))))
 rintro _ w6 ⟨rfl,h,hb6⟩
 replace hLL:=hLL.lq hb6
 refine zad (zac) (zae (zaf (zah (zaa (zad (zab) (zad (zaX rfl rfl) (zae (zaf (zcF rfl (aD) (zat (zaf (zah (zaa (zad (zab) (zad (zfT (.pointer (some ⟨q,0,none⟩)) [.pointer (some ⟨q,0,none⟩)] rfl aa) (zaD rfl (za4 ([.pointer (some ⟨q,0,none⟩)]) rfl (fun g12 w12 hg12 hr12 hb12=>?_))))))))))))))))))
 have sz_g12:=hLL.size
 replace hLL:=hLL.new hb12
 replace h:=h.newc hb12 hg12 hr12.lt
 refine zad (zac) (zad (zac) (zae (zaf (zaF (zan [_,_] ⟨rfl,rfl,trivial⟩ ?_)))))
 exact⟨g12,rfl,hr12,by have:=hLL.size;omega,h,hLL⟩
set_option maxRecDepth 20000 in
set_option maxHeartbeats 1000000 in
theorem begun8(h:Two Y None lo L w)(pages:Nat)(hp4:4≤pages)(hp:pages≤400):
  Calls Tryz.prog 8 [.int .i64 (pages:Int)].toArray w (Ret fun v w'=>∃ q hb,v= .tuple #[.pointer (some ⟨q,0,none⟩), .pointer (some ⟨hb,0,none⟩), .bool true]∧Two (GZ q pages (pgH H0) (fun _=>zb8) 2) Y lo (hb::L) w'∧row w' hb [.pointer (some ⟨q,0,none⟩)] 50∧w.heap.size≤hb∧LoL lo L w w'):=by
 have hLL:=LoL.refl lo L w
 have hN:=newC (w:=w) (1+400+4*pages) ae ae
 rw[show((1+400+4*pages:Nat):Int)=401+4*(pages:Int) by omega]at hN
 have hfm:=fun g w' (h':Two (DZ g (zh4 (1+400+4*pages))) Y lo L w')=>formatP h' 400 ⟨ae,ae⟩ ((zkg (n:=1+400+4*pages) ae).weak ae)
 have hcn:=cnt_fr (pages:=pages) (s:=400) ae ae
 have hcn2:zgJ (1+400+4*pages) 400=pages:=hcn
 simp only[ze1,show Int.toNat 400=400 from rfl,hcn2,if_neg (show¬pages<4 by omega)]at hfm
 obtain⟨a1,a2,a3⟩:=zjt (pages:=pages) (s:=400) ae ae ae
 obtain⟨b1,b2,b3,b4⟩:=zmy (pages:=pages) (s:=400) ae ae ae
 obtain⟨c1,c2⟩:=zqC (pages:=pages) (s:=400) 20 ae ae ae
 have hpn:(frP pages 400 20).n=pages:=(zlF (pages:=pages) (s:=400) 20 ae ae ae).2.2.1
 have hPG:PG (frP pages 400 20) pages (fun _=>zb8) (fun _=>zb8) 2:=⟨frP_inv ae ae ae ae ae ae,hpn,fun n hn=>rfl,rfl⟩
 have hop:=fun g w' (h':Two (DZ g (frD pages 400)) Y lo L w')=>(openOk h' 400 20 (by rw[a2,hcn];omega) ⟨ae,ae⟩ b1 (zcb a1.short ae) c1).to fun v w'' ⟨hh,k⟩=>(show(∃ q,v=Value.tuple #[Value.pointer (some ⟨q,0,none⟩),Value.int .i64 0]∧Two (GZ q pages (fun _=>zb8) (fun _=>zb8) 2) Y lo L w'')∧LoL lo L w' w'' from by
  rw[c2]at hh
  rcases hh with⟨h1,_⟩|⟨_,x,q,mc,md,cv,e,hP⟩
  ·exact absurd rfl h1
  ·exact⟨⟨q,e,zlK hPG (zmr hP)⟩,k⟩)
 have hfe:fmtD (zpD (zh4 (1+400+4*pages)) 400 pages) 400=frD pages 400:=rfl
 rw[hfe]at hfm
 generalize frD pages 400=D1 at*
 have hfo:=fun q w' (h':Two (GZ q pages (fun _=>zb8) (fun _=>zb8) 2) Y lo L w')=>formatH h'
 have hoh:=fun q w' (h':Two (GZ q pages (pgH H0) (fun _=>zb8) 2) Y lo L w')=>openH h' (zqW ae)
 refine zax (fn:=Tryz.f8) (rs:=[.tmp 2, .tmp 3, .tmp 4]) (n:=46) Tryz.func8 rfl rfl Tryz.ntmps8 aa rfl (zah (zaa (zad (zac) (zad (zac) (zad (zac) (zae (zaf (zah (zaa (zad (zab) (zad (zdv rfl rfl (Coup.w64 ae)) (zad (zaO rfl rfl (Coup.w64 ae)) (zao rfl (zaj aa rfl) (hN) ?_)))))))))))))
 rintro _ w15 ⟨g,B,rfl,hX,hBf,hb15⟩
 have hT:=(h.add (Y:=DZ g (zh4 (1+400+4*pages))) hb15 hX hBf).swap
 replace hLL:=hLL.new hb15
 refine zad (zab) (zad (zai rfl rfl) (zad (zai rfl rfl) (zad (zac) (zad (zac) (zae (zaf (zah (zah (zaa (zad (zab) (zad (zaX rfl rfl) (zad (zab) (zfl 20 rfl (ay) (zaq rfl (zad (zab) (zaq rfl (zao rfl (zaj aa rfl) (hfm g w15 hT) ?_)))))))))))))))))
 rintro _ w22 ⟨rfl,hT,hb22⟩
 replace hLL:=hLL.lq hb22
 refine zaq rfl (zad (zaX rfl rfl) (zad (zaE rfl) (zae (zaf (zcF rfl (ay) (zat (zaf (zah (zaa (zad (zab) (zao rfl (zaj aa rfl) (hop g w22 hT) ?_)))))))))))
 rintro _ w27 ⟨⟨q,rfl,hP⟩,hb27⟩
 replace hLL:=hLL.lq hb27
 refine zad (zab) (zad (zai rfl rfl) (zad (zai rfl rfl) (zad (zac) (zad (zac) (zae (zaf (zah (zah (zaa (zad (zab) (zad (zaX rfl rfl) (zad (zab) (zfl 32 rfl (ay) (zaq rfl (zad (zab) (zaq rfl (zao rfl (zaj aa rfl) (hfo q w27 hP) ?_)))))))))))))))))
 rintro _ w34 ⟨rfl,hP,hb34⟩
 replace hLL:=hLL.lq hb34
 refine zaq rfl (zad (zaX rfl rfl) (zad (zaE rfl) (zae (zaf (zcF rfl (ay) (zat (zaf (zah (zaa (zad (zab) ?_))))))))))
 have hsz:=hLL.size
 refine zao rfl (zaj aa rfl) (hoh q w34 hP) ?_
 rintro _ w39 ⟨hb,rfl,hrb,hsb,hPh,hb39⟩
 replace hLL:=hLL.lq hb39
 refine zad (zab) (zad (zai rfl rfl) (zad (zai rfl rfl) (zad (zac) (zad (zac) (zae (zaf (zah (zaa (zad (zab) (zad (zab) (zad (zab) (zad (za5 rfl rfl) (zad (zac) (zad (zac) (zad (zac) (zae (zaf (zaF (zan [_,_,_] ⟨rfl,rfl,rfl,trivial⟩ ?_)))))))))))))))))))
 exact⟨q,hb,rfl,hPh,hrb,ae,hLL⟩
end
theorem zpF(b:List UInt8)(hb:b.length=1000):∃ H4,zgk 5 b H0 []=some (4,0,H4)∧zhW 5 H4=0:=by
 have h3:(b.length+399) / 400=3:=by omega
 unfold zgk cellS
 rw[if_neg ae,h3]
 exact⟨_,rfl,rfl⟩
set_option maxRecDepth 20000 in
set_option maxHeartbeats 2000000 in
theorem zmN(w:World):Calls Tryz.prog 7 [].toArray w (Ret fun v w'=>v= .bool true∧Below w.heap.size w w'):=by
 have hLL:=LoL.refl w.heap.size [] w
 have hml:maxLen=9223372036854775807:=by decide
 have hN0:Two None None w.heap.size [] w:=⟨⟨[],[],rfl,rfl,(fun b hb=>nomatch hb),fun b hb=>nomatch hb⟩,Nat.le_refl _,fun b hb=>nomatch hb⟩
 have hbg:=begun8 hN0 5 ae ae
 obtain⟨b,hbe⟩:∃ b,(zbi 1000).set 999 (7:UInt8)=b:=⟨_,rfl⟩
 have hbl:b.length=1000:=by rw[←hbe,List.length_set];simp[zbi]
 have hbv:(bv (zbi 1000)).set 999 (.int .u8 7)=bv b:=by rw[←hbe];exact zb0 (b:=7) (by simp[zbi])
 obtain⟨H4,hl4,hr4⟩:=zpF b hbl
 obtain⟨fl4,rl4,l4,hI4,hF4,-,-⟩:=(H0_in (N:=5) ae).zgk ae zlS ae hl4
 have hB4:up2 (fun _ _=>([]:List UInt8)) 4 0 b 4 0=b:=ze7 ..
 have hR4:zii (fun _ _=>False) 4 0 4 0:=.inr ⟨rfl,rfl⟩
 have hrm0:=fun q hb w' (h:Two (GZ q 5 (pgH H0) (fun _=>zb8) 2) None w.heap.size [hb] w') hr=>zpt hb h (zqW ae) hr (.inr ay)
 rw[show((zhW 5 H0:Nat):Int)=4 from rfl]at hrm0
 have hly:=fun q hb L' p cap w' (h:Two (GZ q 5 (pgH H0) (fun _=>zb8) 2) None w.heap.size L' w') hr hbL hs hcap hpL=>(layM hb p cap b h (H0_in ae) zlS hr hbL hs hcap hpL).to fun v w2 ⟨h1,h2⟩=>(show v=Value.tuple #[.agg #[.int .i64 4, .int .i64 0], .int .i64 0]∧Two (GZ q 5 (pgH H4) (fun _=>zb8) 2) None w.heap.size L' w2∧LoL w.heap.size L' w' w2 from by
  rcases h1 with⟨h1,_⟩|⟨_,h1,_⟩|⟨_,m,s,H',h1,h3,h4⟩
  ·omega
  ·rw[hl4]at h1;cases h1
  ·rw[hl4]at h1
   cases h1
   exact⟨h3,h4,h2⟩)
 have hge:=fun q hb L' w' (h:Two (GZ q 5 (pgH H4) (fun _=>zb8) 2) None w.heap.size L' w') hr hbL=>getM hb 4 0 h hI4 hR4 hr hbL
 have hrm4:=fun q hb L' w' (h:Two (GZ q 5 (pgH H4) (fun _=>zb8) 2) None w.heap.size L' w') hr hbL=>zpt hb h hI4.ok hr hbL
 rw[hr4]at hrm4
 simp only[hB4]at hge
 rw[hbl]at hly hge
 have hnd:=fun w'=>zmC 1000 w'
 rw[show((zeO 1000:Nat):Int)=3 from rfl]at hnd
 clear hI4 hF4 hR4 hB4
 have hp21:∀ g h:Nat,∀ c o,(some ⟨g,0,none⟩:Option Addr)=some ⟨c,o,none⟩→c<w.heap.size∨c∈[g,h]:=fun g h c o e=>by cases e;exact .inr ay
 generalize pgH H4=P4 at*
 generalize pgH H0=P0 at*
 refine zax (fn:=Tryz.f7) (rs:=[.tmp 0]) (n:=58) Tryz.func7 rfl rfl Tryz.ntmps7 aa rfl (zah (zaa (zad (zac) (zae (zaf (zah (zaa (zao rfl (zaj aa rfl) (hbg) ?_))))))))
 rintro _ w10 ⟨q,hb,rfl,hT,hrb,hsb,hb10⟩
 replace hLL:=hLL.lq hb10
 refine zad (zab) (zad (zai rfl rfl) (zad (zai rfl rfl) (zad (zai rfl rfl) (zad (zac) (zad (zac) (zad (zac) (zae (zaf (zah (zah (zaa (zad (zab) (zad (zbK rfl) (zad (zab) (znO 16 rfl (ay) (zaq rfl (zad (zab) (zaq rfl (zao rfl (zaj aa rfl) (hrm0 q hb w10 hT hrb) ?_)))))))))))))))))))
 rintro _ w18 ⟨rfl,hT,hb18⟩
 replace hLL:=hLL.lq hb18
 replace hrb:=hrb.kpd hb18.kp ag
 refine zaq rfl (zad (zaX rfl rfl) (zad (zaE rfl) (zae (zaf (zcF rfl (ay) (zat (zaf (zah (zaa (zaD rfl (zeD (e:=5) 1000 [zcK 0] 1 1 (zcK 0) aa aa ⟨_,rfl,rfl⟩ ⟨_,rfl,rfl⟩ ay ay ae ae (fun g21 w21 hg21 hr21 hb21=>?_))))))))))))
 have lt_hb_g21:hb<g21:=Nat.lt_of_lt_of_le hrb.lt hg21
 replace hLL:=hLL.new hb21
 replace hT:=hT.newc hb21 hg21 hr21.lt
 replace hrb:=hrb.new hb21
 rw[show List.replicate (1000*1) (zcK 0)=bv (zbi 1000) by rw[zjh,Nat.mul_one]]at hr21
 have hzl:(bv (zbi 1000)).length=1000:=by simp[zal,zbi]
 refine zad (zac) (zae (zaf (zah (zaa (zad (zab) (zad (zaN (e:=5) aa rfl rfl (999) ae ae) (zaK rfl (zbn hr21 (fun w901 hr21 ho901=>?_)))))))))
 replace hLL:=hLL.oq ho901
 replace hT:=hT.only ho901 ai
 replace hrb:=hrb.only ho901 (Nat.ne_of_lt lt_hb_g21)
 replace hr21:row w901 g21 ((bv (zbi 1000)).set 999 (.int .u8 7)) 5:=hr21
 rw[hbv]at hr21
 have hlb:(bv b).length=1000*1:=by rw[zal,hbl]
 refine zae (zaf (zah (zaa (zad (zab) (zad (zab) ?_)))))
 have hs27:=hr21.slA (m:=1000) (sz:=1) hlb ae
 refine zao rfl (zaj aa rfl) (hly q hb _ _ _ w901 hT hrb (.inr ay) hs27 (Nat.le_refl _) (hp21 g21 hb)) ?_
 rintro _ w27 ⟨rfl,hT2,hb27⟩
 replace hLL:=hLL.lq hb27
 replace hrb:=hrb.kpd hb27.kp ag
 replace hr21:=hr21.kl hb27
 refine zad (zab) (zad (zai rfl rfl) (zad (zai rfl rfl) (zaD rfl (zar ([Value.int .i64 0,Value.int .i64 0]) aa (fun g5 w5 hg5 hr5 hb5=>?_)))))
 have lt_hb_g5:hb<g5:=Nat.lt_of_lt_of_le hrb.lt hg5
 have lt_g21_g5:g21<g5:=Nat.lt_of_lt_of_le hr21.lt hg5
 replace hLL:=hLL.new hb5
 replace hrb:=hrb.new hb5
 replace hr21:=hr21.new hb5
 replace hT2:=hT2.newc hb5 hg5 hr5.lt
 refine zaK rfl (zaQ 2 ([.int .i64 4, .int .i64 0]) hr5 (fun w902 hr5 ho902=>?_))
 replace hLL:=hLL.oq ho902
 replace hrb:=hrb.only ho902 (Nat.ne_of_lt lt_hb_g5)
 replace hr21:=hr21.only ho902 (Nat.ne_of_lt lt_g21_g5)
 replace hT2:=hT2.only ho902 ai
 refine zad (zac) (zae (zaf (zah (zaa (zad (zab) (zad (zaG rfl (Ld.zb9 (k:=2) hr5 aa aa rfl)) (zao rfl (zaj aa rfl) (hge q hb _ w902 hT2 hrb (.inr ay)) ?_)))))))
 rintro _ w33 ⟨pc,cc,rfl,hoc,hT3,hb33⟩
 replace hLL:=hLL.lq hb33
 replace hrb:=hrb.kpd hb33.kp ag
 replace hr21:=hr21.kl hb33
 refine dP ?_
 have hs45:=hr21.slA (m:=1000) (sz:=1) hlb ae
 refine zaa (zad (zab) (zad (za5 rfl rfl) (zad (zab) (zeA 38 rfl (rfl) (zaq rfl (zad (zab) (zaq rfl (zad (za5 rfl rfl) (zad (zaC rfl) (zad (zab) (zeA 42 rfl (rfl) (zaq rfl (zad (zab) (zaq rfl (zad (zl6 (e:=5) (l:=b) aa aa aa rfl hoc.sl) (zaq rfl (zad (zab) (zaq rfl (zad (zl6 (e:=5) (l:=b) aa aa aa rfl hs45) (zaq rfl (zad (rn_eqlS rfl rfl) (zad (zaC rfl) (zad (zab) (zeA 49 rfl (rfl) (zaq rfl (zad (zab) (zaq rfl (zao rfl (zaj aa rfl) (hrm4 q hb _ w33 hT3 hrb (.inr ay)) ?_))))))))))))))))))))))))))))
 rintro _ w51 ⟨rfl,hT3,hb51⟩
 replace hLL:=hLL.lq hb51
 refine zaq rfl (zad (za5 rfl rfl) (zad (zaC rfl) (zad (zab) (zeA 54 rfl (rfl) (zaq rfl (zao rfl (zaj aa rfl) (hnd w51) ?_))))))
 rintro _ _ ⟨rfl,rfl⟩
 refine zaq rfl (zad (za5 rfl rfl) (zad (zaC rfl) (zad (zac) (zae (zaf (zaF (zan [_] ⟨rfl,trivial⟩ ?_)))))))
 exact⟨rfl,zov (Below.refl _ _) hLL (Nat.le_refl _)⟩
end Go.Proofs.YtdbogkndglbffaaGreat
namespace Go.Proofs.YtdbogkndglbffaaGreat
open Go Go.RowKit Coup Go.ChangeShapes Go.WideShapes Go.Deep
section
variable {Y:World→List Nat→Prop}[hYT:Thing Y]{q N lo:Nat}{L:List Nat}{V:Nat→Pg}{k:Nat}{H:HS}{fl rl:List Nat}{R:Nat→Nat→Prop}{P:Nat→Nat→List Nat}{B:Nat→Nat→List UInt8}{w:World}
set_option maxRecDepth 20000 in
theorem usesM(hb:Nat)(h:Two (GZ q N (pgH H) V k) Y lo L w)(hI:HI N H fl rl R P B [])(hF:Full H rl R)(h3:∀ n,1≤n→n<H.F.fresh→(H.S n).kind≤3)(hr:row w hb [.pointer (some ⟨q,0,none⟩)] 50)(hbL:hb<lo∨hb∈L):
  Calls Tryz.prog 20 [.pointer (some ⟨hb,0,none⟩)].toArray w (Ret fun v w'=>∃ gs,v= .slice (some ⟨gs,0,none⟩) N N∧row w' gs (iv (uL N (zeu H))) 3∧lo≤gs∧gs∉L∧Two (GZ q N (pgH H) V k) Y lo (gs::L) w'∧LoL lo L w w'):=by
 have hLL:=LoL.refl lo L w
 have hrun:∀ g W,row W hb [.pointer (some ⟨q,0,none⟩)] 50→Two (GZ q N (pgH H) V k) (zcV Y g [.slice none 0 0] 32) lo L W→Calls Tryz.prog 34 [.pointer (some ⟨hb,0,none⟩), .func (.func 59) #[] [.pointer (some ⟨g,0,none⟩)].toArray].toArray W
   (Ret fun v w'=>v= .int .i64 0∧LoL lo L W w'∧∃ gs,Two (GZ q N (pgH H) V k) (ziP Y [g,gs] (UsF N H g gs)) lo L w'):=fun g W hr h=>by
  refine(zjB hb h hI.ok hr 59 [.pointer (some ⟨g,0,none⟩)] aa (fun H' fl' Y'=>H'=H∧∃ gs,Y'=ziP Y [g,gs] (UsF N H g gs))
   (fun e Y'=>False) (fun H' fl' Y' ⟨_,_,e⟩=>by subst e;infer_instance) (fun e Y' h=>h.elim) (fun H' fl' Y' ⟨e,_⟩=>by rw[e];exact Nat.le_refl _) fun jb mw L' w' hs2 hl hJ=>?_).to fun v w' h=>?_
  ·exact(uses59 g hJ hI hF h3).toP fun v w2 ⟨gs,h2,h3⟩=>⟨H,fl,_,⟨rfl,gs,rfl⟩,h2,h3⟩
  ·rcases h with⟨H',fl',Y',⟨rfl,gs,rfl⟩,h4,h3,h5,h6⟩|⟨e,Y',h,_⟩
   ·exact⟨h3,h6,gs,h5⟩
   ·exact h.elim
 refine zax (fn:=Tryz.f20) (rs:=[.tmp 2]) (n:=11) Tryz.func20 rfl rfl Tryz.ntmps20 aa rfl (zah (zaa (zad (zac) (zae (zaf (zah (zaa ?_)))))))
 have hp6:=h
 refine zaD rfl (zar ([Value.slice none 0 0]) aa (fun g3 w3 hg3 hr3 hb3=>?_))
 replace hLL:=hLL.new hb3
 replace hr:=hr.new hb3
 have h6:=zfH hp6 hb3 hr3 hg3
 refine zae (zaf (zah (zaa (zad (zab) (zad (zbm) (zao rfl (zaj aa rfl) (hrun g3 w3 hr h6) ?_))))))
 rintro _ w7 ⟨rfl,hb7,gs,h7⟩
 replace hLL:=hLL.ll hb7 (fun b hb=>hb)
 refine zad (zac) (zae (zaf (zah (zah (zaa (zad (zab) (zad (zaX rfl rfl) (zae (zaf (zcF rfl (aD) (zat (zaf (zah (zaa ?_))))))))))))))
 have hout:=zbr h7
 have hx3:=hout.2.1.1
 refine zad (zau hx3) (zad (zac) (zae (zaf (zaF (zan [_] ⟨rfl,trivial⟩ ?_)))))
 have hgs:=hout.2.2 gs ay
 exact⟨gs,rfl,hout.2.1.2,hgs.1,hgs.2,hout.1.weak (fun b hb=>by simp only[List.cons_append,List.nil_append,List.mem_cons]at hb ⊢;rcases hb with h|h<;>simp[h]),hLL⟩
end
structure HAct where
 kind:Int
 i:Int
 size:Int
 b:List UInt8
def HaQ(W:World)(a:HAct)(cs:List Value):Prop:=∃ q cp,cs=[.int .i64 a.kind, .int .i64 a.i, .int .i64 a.size, .slice q a.b.length cp]∧zaS W q a.b.length 1 (bv a.b)∧zqr a.kind∧zqr a.i∧zqr a.size
theorem haQ_opn{H:Type}{enc:TypeId × Value→H}{W:World}{base:Nat}{spare:Nat→Bool}{held:Bool}:Opn enc Tryz.prog W base spare held 36 (HaQ W):=fun fuel cs x h=>by
 obtain⟨hl,m,hf⟩:=zqk Tryz.underlying36 h
 have hl2:cs.length=4:=hl.trans aa
 obtain⟨_,h0⟩:=fld hf 0 0 1 rfl rfl aa
 obtain⟨_,h1⟩:=fld hf 1 1 1 rfl rfl aa
 obtain⟨_,h2⟩:=fld hf 2 2 1 rfl rfl aa
 obtain⟨_,h3⟩:=fld hf 3 3 1 rfl rfl aa
 obtain⟨a,e0,w0⟩:=zjk aa _ _ _ h0
 obtain⟨b,e1,w1⟩:=zjk aa _ _ _ h1
 obtain⟨c,e2,w2⟩:=zjk aa _ _ _ h2
 obtain⟨R,q,cp,e3,hcp,hR⟩:=zoG (e:=5) (n:=1) aa aa (zjk (k:=.u8) aa) _ _ _ h3
 obtain⟨l,hll,hl4⟩:=zoH hR
 refine⟨⟨a,b,c,l⟩,q,cp,?_,by rw[hll];exact hl4,zhl w0,zhl w1,zhl w2⟩
 have k0:=zmk cs 0 1
 have k1:=zmk cs 1 1
 have k2:=zmk cs 2 1
 have k3:=zmk cs 3 1
 rw[e0]at k0
 rw[e1]at k1
 rw[e2]at k2
 rw[e3,List.drop_of_length_le (l:=cs) (i:=3+1) ae,List.append_nil]at k3
 rw[k3]at k2
 rw[k2]at k1
 rw[k1]at k0
 rw[List.drop_zero]at k0
 rw[hll]
 exact k0
theorem zpG{H:Type}{enc:TypeId × Value→H}{W:World}{a:Option Addr}{len cap:Nat}{d:DataW H}{p:List MemPlace}(h:DataW.Trod enc Tryz.prog W 0 (fun _=>true) true 22 (.slice a len cap) d p):(∃ R,zeJ (HaQ W) W 4 a len R)∧len≤cap:=
 opn_arg aa aa haQ_opn h
theorem HaQ.below{w w':World}{a:HAct}{cs:List Value}(h:HaQ w a cs)(hb:Below w.heap.size w w'):HaQ w' a cs:=by
 obtain⟨q,cp,h1,h2,h3⟩:=h
 exact⟨q,cp,h1,h2.below hb (Nat.le_refl _),h3⟩
def fewA(R:List HAct)(most:Nat):Prop:=R.length≤most∧∀ a∈R,a.b.length≤500∧a.size≤21000
set_option maxRecDepth 20000 in
theorem few6(p:Option Addr)(n cp most:Nat)(R:List HAct)(w:World)(h:zeJ (HaQ w) w 4 p n R)(hm:most≤1000):
   Calls Tryz.prog 6 [.slice p n cp, .int .i64 (most:Int)].toArray w (Ret fun v w'=>∃ B:Bool,v= .bool B∧(B=true→fewA R most)∧w=w'):=by
 have hmax:=h.max
 have hml:maxLen=9223372036854775807:=by decide
 have hRl:=h.1
 refine zax (fn:=Tryz.f6) (rs:=[.tmp 4]) (n:=49) Tryz.func6 rfl rfl Tryz.ntmps6 aa rfl (zah (zaa (zad (zac) (zae (zaf (zah (zaa (zad (zac) (zae (zaf (zah (zah (zaa (zad (zac) (zae (zaf (zav ?_)))))))))))))))))
 refine zbq (α:=Nat × Nat) (0,0) (fun i=>[(6, .int .i64 (i.1:Nat)),(5, .int .i64 (i.2:Nat)),(0, .slice p n cp),(1, .int .i64 (most:Int))]) (fun i w'=>i.1≤n∧i.1≤most+1∧i.2≤21000*i.1∧(∀ (j:Nat) (a:HAct),j<i.1→R[j]?=some a→a.b.length≤500∧a.size≤21000)∧w=w') (fun i=>n - i.1)
   ⟨rfl,rfl,rfl,rfl,rfl⟩ ⟨Nat.zero_le _,Nat.zero_le _,Nat.le_refl _,(by intro j x hj;exact absurd hj (Nat.not_lt_zero _)),rfl⟩ ?_
 rintro⟨i,s⟩ f wr ⟨hi,him,hs,hall,rfl⟩
 dsimp only at*
 refine zah (zah (zaa (zad (zab) (zad (zab) (zad (zaB (e:=36) (sz:=4) aa rfl rfl) (zad (zaY rfl rfl) (zad (zab) (zbI 11 rfl (fun hlt=>?_) (fun hlt=>?_)))))))))
 ·
  refine zaq rfl (zad (zab) (zaq rfl (zad (zab) (zaq rfl (zad (zhj rfl rfl) (zad (zaC rfl) (zae (zaf (za0 rfl (fun hle=>?_) (fun hle=>?_))))))))))
  ·
   refine zat (zaf (zah (zav (zah (zah ?_)))))
   have hobt:=h.get (i:=i) ae
   obtain⟨a,hx⟩:=hobt
   have hobt:=h.some ae
   obtain⟨gp,op,rfl,_⟩:=hobt
   have hle:=h.el hx
   obtain⟨cs,⟨q,c1,rfl,hq1,_,_,hw2⟩,hcl,hce⟩:=hle
   refine zaa (zad (zab) (zad (zab) (zad (zbe (e:=36) (sz:=4) aa rfl rfl (i) ae ae) (zad (zaw 3) (zad (zaG rfl (Ld.one aa (hce 3 _ rfl))) (zad (zaB (e:=5) (sz:=1) aa rfl rfl) (zad (zbA rfl rfl) (zad (zab) (zbI 25 rfl (fun h500=>?_) (fun h500=>?_))))))))))
   ·
    refine zaM rfl rfl (zaM rfl rfl (zaM rfl rfl (zaM rfl rfl (zaM rfl rfl (zaM rfl rfl (zad (zaC rfl) (zae (zaf (zjU rfl (rfl) (zah (zaa (zad (zac) (zae (zaf (zaF (zaW (zbc (zaW (zeb (zbc (zaW (zan [_] ⟨rfl,trivial⟩ ?_))))))))))))))))))))))
    exact⟨false,rfl,ay,rfl⟩
   ·
    refine zaq rfl (zad (zab) (zaq rfl (zad (zab) (zaq rfl (zad (zbe (e:=36) (sz:=4) aa rfl rfl (i) ae ae) (zaq rfl (zad (zaw 2) (zaq rfl (zad (zaG rfl (Ld.one aa (hce 2 _ rfl))) (zaq rfl (zad (zbA rfl rfl) (zad (zaE rfl) (zae (zaf (za0 rfl (fun h21=>?_) (fun h21=>?_))))))))))))))))
    ·
     refine zah (zaa (zad (zac) (zae (zaf (zaF (zaW (zbc (zaW (zeb (zbc (zaW (zan [_] ⟨rfl,trivial⟩ ?_))))))))))))
     exact⟨false,rfl,ay,rfl⟩
    ·
     have hmx:∃ m:Nat,max a.size 0=(m:Int)∧m≤21000:=⟨(max a.size 0).toNat,ae,ae⟩
     obtain⟨m,hme,hm2⟩:=hmx
     refine zat (zaf (zaa (zad (zab) (zad (zab) (zad (zab) (zad (zbe (e:=36) (sz:=4) aa rfl rfl (i) ae ae) (zad (zaw 2) (zad (zaG rfl (Ld.one aa (hce 2 _ rfl))) (zad (zfq rfl rfl) (zad (zaO rfl rfl (show IntKind.i64.wrap ((s:Int)+max a.size 0)=((s+m:Nat):Int) by rw[w64 ae];omega)) (zad (zac) (zae (zaP (zaf (zaa (zad (zab) (zad (zaO rfl rfl (Coup.w64 ae)) (zad (zac) (zae (za2 ⟨(i+1,s+m),by show n - (i+1)<n - i;omega,⟨by go_num,rfl,rfl,rfl,rfl⟩,by show i+1≤n;omega,by show i+1≤most+1;omega,by show s+m≤21000*(i+1);omega,fun j y hj hy=>?_,rfl⟩))))))))))))))))))))
     by_cases hjk:j<i
     ·exact hall j y hjk hy
     ·obtain rfl:j=i:=by have h9:j<i+1:=hj;omega
      rw[hx]at hy;cases hy;omega
  ·
   have hno:most<i:=by omega
   refine zbh (zbC (zbH (zbl (zaf (zah (zaa (zad (zab) (zad (zaB (e:=36) (sz:=4) aa rfl rfl) (zad (zab) (zad (zhj rfl rfl) (zad (zab) (zfl 45 rfl (ae) (zaM rfl rfl (zaM rfl rfl (zad (zaE rfl) (zad (zac) (zae (zaf (zaF (zan [_] ⟨rfl,trivial⟩ ?_))))))))))))))))))))
   exact⟨false,rfl,ay,rfl⟩
 ·
  have hin:i=n:=by omega
  subst hin
  refine zaM rfl rfl (zaM rfl rfl (zaM rfl rfl (zad (zaE rfl) (zae (zaf (zjG rfl (rfl) (zbh (zbC (zbH (zbl (zaf (zah (zaa (zad (zab) (zad (zaB (e:=36) (sz:=4) aa rfl rfl) (zad (zab) (zad (zhj rfl rfl) (zad (zab) (zbI 45 rfl (fun hnm=>?_) (fun hnm=>?_))))))))))))))))))))
  ·
   refine zaq rfl (zad (zab) (zaq rfl (zad (zhj rfl rfl) (zad (zaC rfl) (zad (zac) (zae (zaf (zaF (zan [_] ⟨rfl,trivial⟩ (⟨decide ((s:Int)≤100000),rfl,fun _=>⟨ae,fun a ha=>?_⟩,rfl⟩))))))))))
   have hobt:=List.getElem?_of_mem ha
   obtain⟨j,hj⟩:=hobt
   exact hall j a (by have:=(List.getElem?_eq_some_iff.1 hj).1;omega) hj
  ·
   refine zaM rfl rfl (zaM rfl rfl (zad (zaE rfl) (zad (zac) (zae (zaf (zaF (zan [_] ⟨rfl,trivial⟩ ?_)))))))
   exact⟨false,rfl,ay,rfl⟩
set_option maxRecDepth 20000 in
set_option maxHeartbeats 1000000 in
theorem zqX(a:HAct)(q:Option Addr)(cp:Nat)(w:World)(hq:zaS w q a.b.length 1 (bv a.b))(hs:a.size≤21000)(hw:zqr a.size)(hb5:a.b.length≤500):
   Calls Tryz.prog 10 [.agg #[.int .i64 a.kind, .int .i64 a.i, .int .i64 a.size, .slice q a.b.length cp]].toArray w
    (Ret fun v w'=>∃ b p c,v= .slice p b.length c∧zaz w' w.heap.size 5 1 (.slice p b.length c) b.length (bv b)∧b.length≤21000∧Below w.heap.size w w'):=by
 have hB:=Below.refl w.heap.size w
 have hml:maxLen=9223372036854775807:=by decide
 refine zax (fn:=Tryz.f10) (rs:=[.tmp 2]) (n:=27) Tryz.func10 rfl rfl Tryz.ntmps10 aa rfl (zah (zaa (zaD rfl (za4 ([.int .i64 a.kind, .int .i64 a.i, .int .i64 a.size, .slice q a.b.length cp]) rfl (fun g1 w1 hg1 hr1 hb1=>?_)))))
 replace hB:=hB.acc hb1
 refine zad (zac) (zae (zaf (zah (zaa (zad (zac) (zae (zaf (zah (zav ?_)))))))))
 refine zbq (α:=Value × List UInt8) (.slice none 0 0,[]) (fun u=>[(3,u.1),(1, .pointer (some ⟨g1,0,none⟩))])
   (fun u w'=>u.2.length≤21500∧zaz w' w.heap.size 5 1 u.1 u.2.length (bv u.2)∧(∀ b∈u.1.ownBlock.toList,g1<b)∧row w' g1 [.int .i64 a.kind, .int .i64 a.i, .int .i64 a.size, .slice q a.b.length cp] 36∧Below w.heap.size w w') (fun u=>21500 - u.2.length) ⟨rfl,rfl,rfl⟩ ⟨Nat.zero_le _,zbp _ _ _ _,(fun b hb=>by cases hb),hr1,hB⟩ ?_
 clear hB hr1
 rintro⟨u,x⟩ f wr ⟨hx,hu,hub,hr1,hB⟩
 dsimp only at*
 obtain⟨pu,cu,rfl⟩:=hu.form
 have l1:=hr1.lt
 have hmi:∃ K:Nat,min (x.length:Int) (max a.size 0)=(K:Int)∧K≤x.length∧K≤21000:=⟨(min (x.length:Int) (max a.size 0)).toNat,ae,ae,ae⟩
 obtain⟨K,hKe,hKx,hK2⟩:=hmi
 have hcut:=zaz.cut hu K hKx
 rw[Nat.mul_one,←zdg]at hcut
 have hule:=zgu hu
 refine zah (zah (zaa (zad (zab) (zad (zaB (e:=5) (sz:=1) aa rfl rfl) (zad (zaw 2) (zad (zau hr1) (zad (zaY rfl rfl) (zad (zab) (zbI 9 rfl (fun hlt=>?_) (fun hlt=>?_))))))))))
 ·
  refine zaq rfl (zad (zaw 3) (zaq rfl (zad (zau hr1) (zaq rfl (zad (zaB (e:=5) (sz:=1) aa rfl rfl) (zaq rfl (zad (zbA rfl rfl) (zad (zaC rfl) (zae (zaf (za0 rfl (fun hpos=>?_) (fun hpos=>?_))))))))))))
  ·
   refine zat (zaf (zav (zaa (zad (zab) (zad (zaw 3) (zad (zau hr1) ?_))))))
   have hr1o:=hr1
   refine zaD rfl (zbf (e:=5) (sz:=1) (bytes:=1) (z:=Value.int .u8 0) aa rfl aa rfl aD rfl hu rfl (hq.below hB (Nat.le_refl _)) (zbV _) aC ae (fun hm0=>ae) (fun v18 w18 hv18 hgr18 hfr18=>?_))
   replace hB:=hB.own hu hgr18 ae
   refine zad (zac) (zae (zaP ?_))
   have hr1n:=hr1o.kpd (Kp.za6 hgr18) (fun hm=>Nat.lt_irrefl _ (hub _ hm))
   refine za2 ⟨(v18,x++a.b),by show 21500 - (x++a.b).length<21500 - x.length;rw[List.length_append];omega,⟨rfl,rfl,rfl⟩,by show(x++a.b).length≤21500;rw[List.length_append];omega,?_,fun b hb=>(hfr18 b (Option.mem_toList.1 hb)).elim (fun h=>hub b (Option.mem_toList.2 h)) fun h=>ae,hr1n,hB⟩
   show zaz _ _ _ _ _ (x++a.b).length (bv (x++a.b))
   rw[List.length_append,zcG]
   exact hv18
  ·
   refine zbh (zbC (zbH (zbl (zaf (zah (zaa (zad (zab) (zad (zab) (zad (zaB (e:=5) (sz:=1) aa rfl rfl) (zad (zaw 2) (zad (zau hr1) (zad (zfq rfl rfl) (zad (zi2 rfl rfl) (zad (zd1 (e:=5) (sz:=1) (K) aa rfl ⟨_,_,rfl,ae⟩ ae) (zad (zac) (zae (zaf (zaF (zan [_] ⟨rfl,trivial⟩ ?_)))))))))))))))))))
   exact⟨x.take K,pu,cu,by rw[List.length_take,Nat.min_eq_left hKx];rfl,by rw[List.length_take,Nat.min_eq_left hKx];exact hcut,by rw[List.length_take];omega,hB⟩
 ·
  refine zaM rfl rfl (zaM rfl rfl (zaM rfl rfl (zaM rfl rfl (zad (zaE rfl) (zae (zaf (W_f rfl (zbh (zbC (zbH (zbl (zaf (zah (zaa (zad (zab) (zad (zab) (zad (zaB (e:=5) (sz:=1) aa rfl rfl) (zad (zaw 2) (zad (zau hr1) (zad (zfq rfl rfl) (zad (zi2 rfl rfl) (zad (zd1 (e:=5) (sz:=1) (K) aa rfl ⟨_,_,rfl,ae⟩ ae) (zad (zac) (zae (zaf (zaF (zan [_] ⟨rfl,trivial⟩ ?_)))))))))))))))))))))))))))
  exact⟨x.take K,pu,cu,by rw[List.length_take,Nat.min_eq_left hKx];rfl,by rw[List.length_take,Nat.min_eq_left hKx];exact hcut,by rw[List.length_take];omega,hB⟩
end Go.Proofs.YtdbogkndglbffaaGreat
namespace Go.Proofs.YtdbogkndglbffaaGreat
open Go Go.RowKit Coup
def LoK(S S':Nat→View):Prop:=∀ n,(S' n).kind≤2∨(S' n).kind=(S n).kind
theorem LoK.refl(S:Nat→View):LoK S S:=fun _=>.inr rfl
theorem LoK.trans{S T U:Nat→View}(h:LoK S T)(k:LoK T U):LoK S U:=fun n=>(k n).elim .inl fun e=>by rw[e];exact h n
theorem LoK.set{S:Nat→View}{n:Nat}{U:View}(h:U.kind≤2∨U.kind=(S n).kind):LoK S (zbb S n U):=fun i=>by
 by_cases e:i=n
 ·rw[e,zaT];exact h
 ·rw[za9 e];exact .inr rfl
theorem zmO{N kind n:Nat}{H H':HS}(he:zdj N H kind=some (n,H'))(hk:kind≤2):LoK H.S H'.S:=by
 unfold zdj at he
 split at he
 ·cases he;exact LoK.set (.inl hk)
 ·split at he
  ·cases he
  ·cases he;exact LoK.set (.inl hk)
theorem zhZ{N:Nat}{b:List UInt8}:∀ {i nx n:Nat} {H H':HS},zcf N b i nx H=some (n,H')→LoK H.S H'.S
 |0,nx,n,H,H',h=>by cases h;exact LoK.refl _
 |i+1,nx,n,H,H',h=>by
  rw[zcf]at h
  split at h
  ·cases h
  ·rename_i m H1 hg
   exact(zmO hg ae).trans ((LoK.set (.inl (show(zga b i nx).kind≤2 from Nat.le_refl 2))).trans (zhZ h))
theorem zmP{N:Nat}{b c:List UInt8}{H H':HS}(h:cellS N b H=some (c,H')):LoK H.S H'.S:=by
 unfold cellS at h
 split at h
 ·cases h;exact LoK.refl _
 ·split at h
  ·cases h
  ·rename_i hl
   cases h
   exact zhZ hl
theorem layS_lo{N m s:Nat}{c:List UInt8}{rl:List Nat}{H H':HS}(h:zmF N c H rl=some (m,s,H')):LoK H.S H'.S:=by
 unfold zmF at h
 split at h
 ·cases h;exact LoK.set (.inr rfl)
 ·split at h
  ·cases h
  ·rename_i hg
   cases h
   exact(zmO hg ae).trans (LoK.set (.inl (by show(1:Nat)≤2;omega)))
theorem zpH{N m s:Nat}{b:List UInt8}{rl:List Nat}{H H':HS}(h:zgk N b H rl=some (m,s,H')):LoK H.S H'.S:=by
 unfold zgk at h
 split at h
 ·cases h
 ·rename_i hc
  exact(zmP hc).trans (layS_lo h)
theorem zmQ{H:HS}{n:Nat}:LoK H.S (zcE H n).S:=LoK.set (.inl (Nat.zero_le 2))
theorem zk3{l:List Nat}:∀ {H:HS},LoK H.S (zbt H l).S:=by
 induction l with
 |nil=>intro H;exact LoK.refl _
 |cons n l ih=>intro H;exact zmQ.trans (ih (H:=zcE H n))
theorem zmR{H:HS}{rl p:List Nat}{m s:Nat}(hb:(zbt H p).S m=H.S m):LoK H.S (zeo H rl p m s).S:=by
 have h1:LoK H.S (zbb (zbt H p).S m (wtV (H.S m) s)):=zk3.trans (LoK.set (.inr (by rw[hb];rfl)))
 unfold zeo
 split
 ·refine(h1.trans fun n=>.inr ?_).trans zmQ
  exact(zgb _ _ _ _ _).1
 ·exact h1
theorem putO_lo{N m s m' s':Nat}{b:List UInt8}{rl p:List Nat}{H H':HS}(hb:(zbt H p).S m=H.S m)(hk:(H.S m).kind≤2)(h:zjJ N b H rl p m s=some (m',s',H')):LoK H.S H'.S:=by
 unfold zjJ at h
 split at h
 ·exact(zmR hb).trans (zpH h)
 ·split at h
  ·cases h
  ·rename_i hc
   cases h
   exact(zk3.trans (zmP hc)).trans (LoK.set (.inl hk))
structure HM(N:Nat)(H:HS)(fl rl:List Nat)(R:Nat→Nat→Prop)(P:Nat→Nat→List Nat)(B:Nat→Nat→List UInt8)(A:List (Nat × Nat))(Gv:List Nat):Prop where
 hi:HI N H fl rl R P B []
 full:Full H rl R
 ra:∀ m s,R m s↔(m,s)∈A
 nd:A.Nodup
 gn:Gv.Nodup
 g3:∀ n,n∈Gv↔(H.S n).kind=3
 gf:∀ n∈Gv,1≤n∧n<H.F.fresh
 k3:∀ n,(H.S n).kind≤3
theorem HM.lo {N:Nat} {H H':HS} {fl rl fl' rl':List Nat} {R R':Nat→Nat→Prop} {P P':Nat→Nat→List Nat} {B B':Nat→Nat→List UInt8} {A A':List (Nat × Nat)} {Gv:List Nat} (h:HM N H fl rl R P B A Gv)
  (hi:HI N H' fl' rl' R' P' B' []) (hf:Full H' rl' R') (ra:∀ m s,R' m s↔(m,s)∈A') (nd:A'.Nodup) (hl:LoK H.S H'.S) (hfr:H.F.fresh≤H'.F.fresh) (h3:∀ n,n<H.F.fresh→(H.S n).kind=3→H'.S n=H.S n):HM N H' fl' rl' R' P' B' A' Gv:=
 ⟨hi,hf,ra,nd,h.gn,fun n=>⟨fun hn=>by
  have h4:=(h.g3 n).1 hn
  rw[h3 n (h.gf n hn).2 h4];exact h4,fun hk=>by
  rcases hl n with e|e
  ·omega
  ·exact(h.g3 n).2 (by rw[←e];exact hk)⟩,fun n hn=>⟨(h.gf n hn).1,by have:=(h.gf n hn).2;omega⟩,fun n=>by
  rcases hl n with e|e
  ·omega
  ·rw[e];exact h.k3 n⟩
theorem zcJ{α:Type}{l:List α}(h:l.Nodup){i j:Nat}{x:α}(hi:l[i]?=some x)(hj:l[j]?=some x):i=j:=
 (List.getElem?_inj (List.getElem?_eq_some_iff.1 hi).1 h).1 (hi.trans hj.symm)
theorem zk4{α:Type}{l:List α}(h:∀ (i j:Nat) (x:α),i<j→l[i]?=some x→l[j]?=some x→False):l.Nodup:=
 List.pairwise_iff_getElem.2 fun i j hi hj hij e=>h i j _ hij (List.getElem?_eq_getElem hi) (by rw[e];exact List.getElem?_eq_getElem hj)
theorem zdF{α:Type}{l:List α}(h:l.Nodup){k:Nat}{x:α}(hk:l[k]?=some x)(y:α):y∈l.eraseIdx k↔y∈l∧y≠x:=by
 constructor
 ·intro hy
  obtain⟨i,hi,hne⟩:=List.mem_eraseIdx_iff_getElem?.1 hy
  ·exact⟨List.mem_of_getElem? hne,fun e=>by subst e;exact hi (zcJ h hne hk)⟩
 ·rintro⟨hy,hne⟩
  obtain⟨i,hi⟩:=List.mem_iff_getElem?.1 hy
  exact List.mem_eraseIdx_iff_getElem?.2 ⟨i,fun e=>by rw[e,hk]at hi;exact hne (Option.some.inj hi).symm,hi⟩
theorem zgg{α β:Type}(f:α→β):∀ (l:List α) (k:Nat),(l.eraseIdx k).map f=(l.map f).eraseIdx k
 |[],k=>by cases k<;>rfl
 |x::l,0=>rfl
 |x::l,k+1=>by simp[zgg f l k]
namespace HM
variable {N:Nat}{H H':HS}{fl rl:List Nat}{R:Nat→Nat→Prop}{P:Nat→Nat→List Nat}{B:Nat→Nat→List UInt8}{A:List (Nat × Nat)}{Gv:List Nat}{b:List UInt8}{m s:Nat}
abbrev dat(A:List (Nat × Nat))(B:Nat→Nat→List UInt8):List (List UInt8):=A.map fun x=>B x.1 x.2
theorem at_(h:HM N H fl rl R P B A Gv){k:Nat}(hk:A[k]?=some (m,s)):R m s:=(h.ra m s).2 (List.mem_of_getElem? hk)
theorem lay(h:HM N H fl rl R P B A Gv)(hN:N≤2048)(hb:b.length≤20000)(he:zgk N b H rl=some (m,s,H')):
  ∃ fl' rl' R' P' B',HM N H' fl' rl' R' P' B' (A++[(m,s)]) Gv∧dat (A++[(m,s)]) B'=dat A B++[b]:=by
 obtain⟨fl',rl',l,r1,r2,r3,r4,r5,r6⟩:=h.hi.zgk hN h.full hb he
 have hni:(m,s)∉A:=fun hm=>r3 ((h.ra m s).2 hm)
 refine⟨fl',rl',_,_,_,h.lo r1 r2 (fun a c=>?_) ?_ (zpH he) r4 r6,?_⟩
 ·unfold zii
  rw[h.ra,List.mem_append,List.mem_singleton,Prod.mk.injEq]
 ·exact List.nodup_append.2 ⟨h.nd,ay,fun a ha c hc e=>by rw[List.mem_singleton.1 hc]at e;exact hni (e▸ha)⟩
 ·unfold dat
  rw[List.map_append]
  congr 1
  ·exact List.map_congr_left fun x hx=>zgc fun e=>hni (by rw[←e.1,←e.2];exact hx)
  ·simp[up2]
theorem put(h:HM N H fl rl R P B A Gv)(hN:N≤2048){k m' s':Nat}(hk:A[k]?=some (m,s))(hb:b.length≤20000)(he:zjJ N b H rl (P m s) m s=some (m',s',H')):
  ∃ fl' rl' R' P' B',HM N H' fl' rl' R' P' B' (A.set k (m',s')) Gv∧dat (A.set k (m',s')) B'=(dat A B).set k b:=by
 have hr:=h.at_ hk
 have hkl:=(List.getElem?_eq_some_iff.1 hk).1
 obtain⟨fl',rl',l,r1,r2,r3,r4,r5,r6⟩:=h.hi.zjJ hN h.full hr hb he
 have hm:=h.hi.rk.at_ m (h.hi.cell m s hr).1
 have hbs:=h.hi.same hr
 have hne:∀ j x,A[j]?=some x→j≠k→x≠(m',s'):=fun j x hj hjk e=>by
  subst e
  exact r3 ⟨h.at_ hj,fun e=>hjk (zcJ h.nd hj (by rw[e.1,e.2];exact hk))⟩
 refine⟨fl',rl',_,_,_,h.lo r1 r2 (fun a c=>?_) ?_ (putO_lo hbs ae he) r4 r6,?_⟩
 ·unfold zii zgA
  rw[h.ra]
  constructor
  ·rintro(⟨h1,h2⟩|⟨rfl,rfl⟩)
   ·obtain⟨j,hj⟩:=List.mem_iff_getElem?.1 h1
    have hjk:k≠j:=fun e=>h2 (by rw[←e,hk]at hj;cases hj;exact⟨rfl,rfl⟩)
    exact List.mem_iff_getElem?.2 ⟨j,by rw[List.getElem?_set,if_neg hjk];exact hj⟩
   ·exact List.mem_iff_getElem?.2 ⟨k,by rw[List.getElem?_set,if_pos rfl,if_pos hkl]⟩
  ·intro hx
   obtain⟨j,hj⟩:=List.mem_iff_getElem?.1 hx
   rw[List.getElem?_set]at hj
   split at hj
   ·cases hj;exact .inr ⟨rfl,rfl⟩
   ·rename_i hkj
    refine .inl ⟨List.mem_of_getElem? hj,fun e=>hkj ?_⟩
    exact zcJ h.nd hk (by rw[hj,e.1,e.2])
 ·refine zk4 fun i j x hij hi hj=>?_
  rw[List.getElem?_set]at hi hj
  split at hi
  ·rename_i e
   rw[if_neg ae]at hj
   exact hne j x hj ae (Option.some.inj hi).symm
  ·split at hj
   ·rename_i e1 e
    exact hne i x hi ae (Option.some.inj hj).symm
   ·have:=zcJ h.nd hi hj;omega
 ·refine List.ext_getElem? fun j=>?_
  unfold dat
  rw[List.getElem?_map,List.getElem?_set,List.getElem?_set,List.getElem?_map,List.length_map]
  split
  ·simp[hkl,up2]
  ·rename_i hkj
   cases hj:A[j]? with
   |none=>rfl
   |some x=>
    show some (up2 B m' s' b x.1 x.2)=some (B x.1 x.2)
    rw[zgc fun e=>hne j x hj (fun e2=>hkj e2.symm) (by rw[←e.1,←e.2])]
theorem take(h:HM N H fl rl R P B A Gv)(hN:N≤2048){k:Nat}(hk:A[k]?=some (m,s)):
  HM N (zeo H rl (P m s) m s) (zlO H fl (P m s) m s) (znA H rl m s) (zgA R m s) P B (A.eraseIdx k) Gv∧dat (A.eraseIdx k) B=(dat A B).eraseIdx k:=by
 have hr:=h.at_ hk
 obtain⟨r1,r2⟩:=h.hi.take hN h.full hr
 refine⟨h.lo r1 r2 (fun a c=>?_) (h.nd.eraseIdx _) (zmR (h.hi.same hr)) (by rw[zjC.1];exact Nat.le_refl _) (fun n _ h3=>zpv h.hi hr h3),zgg _ _ _⟩
 unfold zgA
 rw[h.ra,zdF h.nd hk,Ne,Prod.mk.injEq]
theorem give(h:HM N H fl rl R P B A Gv){n:Nat}{fl':List Nat}(hg:zfh N H fl 3 n H' fl'):HM N H' fl' rl R P B A (Gv++[n]):=by
 have h1:=h.hi.gave hg (U:=zdX 3) (zbQ ae) rl (.inl ⟨rfl,rfl⟩)
 rw[if_pos (show(zdX 3).kind=3 from rfl)]at h1
 have hS:zbb H'.S n (zdX 3)=H'.S:=funext fun i=>by
  by_cases e:i=n
  ·rw[e,zaT,hg.new]
  ·rw[za9 e]
 rw[hS]at h1
 have hnr:∀ m∈rl,m≠n:=fun m hm e=>by
  have hma:=h.hi.rk.at_ m hm
  rcases hg.was with e2|e2
  ·have:=(h.hi.ok.fk n e2).2.2;rw[e]at hma;omega
  ·omega
 have hnG:n∉Gv:=fun hm=>by
  have h4:=h.gf n hm
  have h5:=(h.g3 n).1 hm
  rcases hg.was with e2|e2
  ·have:=(h.hi.ok.fk n e2).2.2;omega
  ·omega
 refine⟨h1,fun m hm=>?_,h.ra,h.nd,List.nodup_append.2 ⟨h.gn,ay,fun a ha c hc e=>by rw[List.mem_singleton.1 hc]at e;exact hnG (e▸ha)⟩,fun i=>?_,fun i hi=>?_,fun i=>?_⟩
 ·rw[hg.old m (hnr m hm)];exact h.full m hm
 ·rw[List.mem_append,List.mem_singleton]
  by_cases e:i=n
  ·rw[e,hg.new];exact⟨fun _=>rfl,fun _=>.inr rfl⟩
  ·rw[hg.old i e,←h.g3];exact⟨fun h=>h.resolve_right e, .inl⟩
 ·rcases List.mem_append.1 hi with h2|h2
  ·have:=h.gf i h2;have:=hg.grow;omega
  ·rw[List.mem_singleton.1 h2];exact⟨hg.n1,hg.nf⟩
 ·by_cases e:i=n
  ·rw[e,hg.new];exact Nat.le_refl 3
  ·rw[hg.old i e];exact h.k3 i
theorem back(h:HM N H fl rl R P B A Gv)(hN:N≤2048){k n:Nat}(hk:Gv[k]?=some n):HM N (zcE H n) (n::fl) rl R P B A (Gv.eraseIdx k):=by
 have hn:=List.mem_of_getElem? hk
 have h1:=h.gf n hn
 have h2:=(h.g3 n).1 hn
 have hS:∀ i,i≠n→(zcE H n).S i=H.S i:=fun i hi=>za9 hi
 have hSn:((zcE H n).S n).kind=0:=by show(zbb H.S n _ n).kind=0;rw[zaT];rfl
 refine⟨h.hi.back hN h1.1 h1.2 h2,fun m hm=>?_,h.ra,h.nd,h.gn.eraseIdx _,fun i=>?_,fun i hi=>?_,fun i=>?_⟩
 ·rw[hS m fun e=>by have:=h.hi.rk.at_ m hm;rw[e]at this;omega];exact h.full m hm
 ·rw[zdF h.gn hk]
  by_cases e:i=n
  ·rw[e,hSn];exact⟨fun h=>absurd rfl h.2,fun h=>absurd h aD⟩
  ·rw[hS i e,←h.g3];exact⟨fun h=>h.1,fun h=>⟨h,e⟩⟩
 ·exact h.gf i ((zdF h.gn hk i).1 hi).1
 ·by_cases e:i=n
  ·rw[e,hSn];omega
  ·rw[hS i e];exact h.k3 i
end HM
end Go.Proofs.YtdbogkndglbffaaGreat
