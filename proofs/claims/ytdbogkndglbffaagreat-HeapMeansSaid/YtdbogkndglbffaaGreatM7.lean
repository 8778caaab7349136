import Derived.Test.YtdbogkndglbffaaGreatM0
import Derived.Test.YtdbogkndglbffaaGreatM6
import Derived.Test.YtdbogkndglbffaaGreatM5
import Derived.Test.YtdbogkndglbffaaGreatM1
import Derived.Test.YtdbogkndglbffaaGreatM3
import Derived.Maps.RangeWalk
namespace Go.Proofs.YtdbogkndglbffaaGreat
open Go Go.RowKit Coup
def zjz(H:HS)(rl:List Nat)(i out:Nat):HS:=⟨⟨H.F.fresh,H.F.free,H.F.many,if i=0 then(H.S out).next else H.F.records,H.F.root⟩,zdI H.S rl i out⟩
def lastOf(rl:List Nat)(k:Nat):Nat:=if k=0 then 0 else rl.getD (k - 1) 0
theorem zhS{U:View}(h:Good U){m:Nat}(hm:m<2147483648):Good {U with next:=m}:=⟨h.kind,hm,h.size,h.cell,h.last⟩
theorem zcl.zpl{H:HS}{rl:List Nat}(hR:znK H rl){i out:Nat}(hi:rl[i]?=some out)(h1:1≤H.F.fresh):(H.S out).next<H.F.fresh:=by
 have hil:=(List.getElem?_eq_some_iff.1 hi).1
 obtain⟨m,h2,h3⟩:=hR.ch.drop hil
 have e:m=out:=by rw[hi]at h2;exact(Option.some.inj h2).symm
 subst e
 have hd:=List.drop_eq_getElem_cons hil
 rw[hd]at h3
 have e2:rl[i]=m:=by rw[List.getElem?_eq_getElem hil]at hi;exact Option.some.inj hi
 rw[e2]at h3
 have h4:=h3.2.2
 cases hq:rl.drop (i+1)with
 |nil=>rw[hq]at h4;have h5:(H.S m).next=0:=h4;omega
 |cons x t=>
  rw[hq]at h4
  have hx:x∈rl:=List.mem_of_mem_drop (i:=i+1) (by rw[hq];simp)
  have:=hR.at_ x hx
  rw[h4.1];exact this.2.1
theorem zpm{N:Nat}{H:HS}{fl rl:List Nat}{i out:Nat}(h:HOk N H fl)(hR:znK H rl)(hi:rl[i]?=some out)(hN:N≤2048):HOk N (zjz H rl i out) fl:=by
 have hnx:=zcl.zpl hR hi h.f1
 have hfN:=h.fN
 have hfs:∀ m,zdI H.S rl i out m=H.S m∨(m∈rl∧zdI H.S rl i out m={H.S m with next:=(H.S out).next}):=fun m=>by
  unfold zdI
  split
  ·exact .inl rfl
  ·unfold zbb
   split
   ·rename_i hne e
    refine .inr ⟨?_,by rw[e]⟩
    have hil:=(List.getElem?_eq_some_iff.1 hi).1
    rw[e,List.getD_eq_getElem?_getD,List.getElem?_eq_getElem (show i - 1<rl.length by omega)]
    exact List.getElem_mem _
   ·exact .inl rfl
 refine⟨h.f1,h.fN,fun n h1 h2=>?_,h.ch.frame fun m hm=>?_,fun n hn=>?_,h.nd,h.fm,?_,h.rt⟩
 ·show Good (zdI H.S rl i out n)
  rcases hfs n with e|⟨_,e⟩
  ·rw[e];exact h.gd n h1 h2
  ·rw[e];exact zhS (h.gd n h1 h2) ae
 ·show zdI H.S rl i out m=H.S m
  rcases hfs m with e|⟨hm2,_⟩
  ·exact e
  ·exact absurd hm (hR.ni h hm2)
 ·have h1:=h.fk n hn
  refine⟨h1.1,h1.2.1,?_⟩
  show(zdI H.S rl i out n).kind=0
  rw[(zgb ..).1];exact h1.2.2
 ·show(if i=0 then(H.S out).next else H.F.records)<H.F.fresh
  split
  ·exact hnx
  ·exact h.rc
theorem zmH{α:Type}:∀ {l:List α} {i j:Nat} {m:α},l.Nodup→l[i]?=some m→l[j]?=some m→i=j
 |x::l,0,0,_,_,_,_=>rfl
 |x::l,0,j+1,m,h,h1,h2=>by
  have e:x=m:=by simpa using h1
  exact absurd (List.mem_of_getElem? (by simpa using h2:l[j]?=some m)) (e▸(List.nodup_cons.1 h).1)
 |x::l,i+1,0,m,h,h1,h2=>by
  have e:x=m:=by simpa using h2
  exact absurd (List.mem_of_getElem? (by simpa using h1:l[i]?=some m)) (e▸(List.nodup_cons.1 h).1)
 |x::l,i+1,j+1,m,h,h1,h2=>congrArg (· +1) (zmH (List.nodup_cons.1 h).2 (by simpa using h1) (by simpa using h2))
section
variable {Y:World→List Nat→Prop}[hYT:Thing Y]{q jb mw N lo:Nat}{L:List Nat}{G0 V:Nat→Pg}{k:Nat}{H:HS}{fl:List Nat}{w:World}
set_option maxRecDepth 20000 in
set_option maxHeartbeats 1000000 in
theorem unlinkH(h:JH q jb mw N G0 V k H fl Y lo L w){rl:List Nat}(hR:znK H rl){i out:Nat}(hio:rl[i]?=some out):
  Calls Tryz.prog 103 [.pointer (some ⟨jb,0,none⟩), .int .i64 (out:Int)].toArray w (Ret fun _ w'=>JH q jb mw N G0 V k (zcE (zjz H rl i out) out) (out::fl) Y lo L w'∧LoL lo L w w'):=by
 have hN:=h.n48
 have hH:=h.ok
 have hfN:=hH.fN
 have hlo0:=h.lo'
 have hnxl:=zcl.zpl hR hio hH.f1
 have hok2:=zpm hH hR hio hN.1
 have hmemo:=List.mem_of_getElem? hio
 have hout:=hR.at_ out hmemo
 have hnio:=hR.ni hH hmemo
 obtain⟨G,hG,hT⟩:=h.ex
 have hli:=hR.li hH hG
 have hls:=fun w'=>ziN (q:=q) (jb:=jb) (mw:=mw) (lo:=lo) (G0:=G0) (V:=V) (k0:=k) hli hfN w'
 obtain⟨c,hJ⟩:=zbL hT
 obtain⟨hjl9,hjL9⟩:=hJ.jl
 have hLL:=LoL.refl lo L w
 have hB:=Below.refl w.heap.size w
 have hj:=hJ.zg3
 refine zax (fn:=Tryz.f103) (rs:=[]) (n:=51) Tryz.func103 rfl rfl Tryz.ntmps103 aa rfl (zah (zaa (zaD rfl (za4 ([_]) rfl (fun g2 w2 hg2 hr2 hb2=>?_)))))
 have ge_hB_g2:=Nat.le_trans hB.size hg2
 have lt_jb_g2:jb<g2:=Nat.lt_of_lt_of_le hj.lt hg2
 replace hT:=hT.newc hb2 hg2 hr2.lt
 replace hj:=hj.new hb2
 replace hB:=hB.acc hb2
 refine zaD rfl (za4 ([_]) rfl (fun g3 w3 hg3 hr3 hb3=>?_))
 have ge_hB_g3:=Nat.le_trans hB.size hg3
 have lt_jb_g3:jb<g3:=Nat.lt_of_lt_of_le hj.lt hg3
 have lt_g2_g3:g2<g3:=Nat.lt_of_lt_of_le hr2.lt hg3
 replace hT:=hT.newc hb3 hg3 hr3.lt
 replace hj:=hj.new hb3
 replace hr2:=hr2.new hb3
 replace hB:=hB.acc hb3
 refine zae (zaf (W_scope (zah (zaa (zaD rfl (zar ([Value.int .i64 0]) aa (fun g4 w4 hg4 hr4 hb4=>?_)))))))
 have ge_hB_g4:=Nat.le_trans hB.size hg4
 have lt_jb_g4:jb<g4:=Nat.lt_of_lt_of_le hj.lt hg4
 have lt_g2_g4:g2<g4:=Nat.lt_of_lt_of_le hr2.lt hg4
 have lt_g3_g4:g3<g4:=Nat.lt_of_lt_of_le hr3.lt hg4
 replace hT:=hT.newc hb4 hg4 hr4.lt
 replace hj:=hj.new hb4
 replace hr2:=hr2.new hb4
 replace hr3:=hr3.new hb4
 replace hB:=hB.acc hb4
 refine zaK rfl (zbn hr4 (fun w901 hr4 ho901=>?_))
 replace hT:=hT.only ho901 ai
 replace hj:=hj.only ho901 (Nat.ne_of_lt lt_jb_g4)
 replace hr2:=hr2.only ho901 (Nat.ne_of_lt lt_g2_g4)
 replace hr3:=hr3.only ho901 (Nat.ne_of_lt lt_g3_g4)
 replace hB:=ho901.below hB ge_hB_g4
 refine zae (zaf (zah (W_label (zaf (zah (zah (za3 [] aa ?_)))))))
 intro w902 hb902 hS902
 replace hT:=hT.new hb902
 replace hj:=hj.new hb902
 replace hr2:=hr2.new hb902
 replace hr3:=hr3.new hb902
 replace hr4:=hr4.new hb902
 replace hB:=hB.acc hb902
 have hT_d902:=hT
 have hj_d902:=hj
 have hr2_d902:=hr2
 have hr3_d902:=hr3
 have hr4_d902:=hr4
 have hB_d902:=hB
 refine zbo 0 (fun w' hS'=>zau (hr2_d902.kq hS')) (zbo 1 (fun w' hS'=>zau (hr2_d902.kq hS')) (zas 2 (zak rfl) (zas 3 (zaw 0) (zas 4 (zaw 3) (zbo 5 (fun w' hS'=>zau (hj_d902.kq hS')) (zaA 6 aa ?_))))))
 have hl2:=hr2.lt
 have hl3:=hr3.lt
 have hl4:=hr4.lt
 refine zaU rfl rfl (zaj aa rfl) (hls w902) ?_
 rintro _ w15 ⟨gx1,gx2,gx3,rfl,hgs,hb15,hseq⟩
 have hT:=hT.zk8 hb15 hgs
 have hS903:=hS902.add0 hb15
 refine⟨hS903,?_⟩
 replace hj:=hj.new hb15
 replace hr2:=hr2.new hb15
 replace hr3:=hr3.new hb15
 replace hr4:=hr4.new hb15
 replace hB:=hB.acc hb15
 refine zaI aa (zaf (zav ?_))
 have hks1:=hgs gx1 ay
 have hks2:=hgs gx2 ay
 have hks3:=hgs gx3 ay
 have hobt:∃ D,(w15).heap.size=D:=⟨_,rfl⟩
 obtain⟨D,hD⟩:=hobt
 have hBs:=hB.size
 have hxs:(liX H.S rl).length=rl.length:=by unfold liX;rw[List.length_map]
 have hobt:∃ L0,[gx1,gx2,gx3]++g4::g3::g2::L=L0:=⟨_,rfl⟩
 obtain⟨L0,hL0⟩:=hobt
 have hT9:Two (JZ q jb mw N G0 G V k H.F) Y lo L0 w15:=by rw[←hL0];exact hT
 have hL0s:∀ b∈L,b∈L0:=fun b hb=>by rw[←hL0];simp[hb]
 have hL02:g2∈L0∧g3∈L0∧g4∈L0:=by rw[←hL0];simp
 refine zdQ (ps:=[16,17]) (L:=L0) (X:=JZ q jb mw N G0 G V k H.F) (Y:=Y) (α:=Unit) (fun _=>[]) D hD (fun _ h=>h) rfl aa hseq (fun v hv=>by unfold liX at hv;obtain⟨m,_,rfl⟩:=List.mem_map.1 hv;rfl) aa ay (fun b hb=>by rw[←hL0];exact List.mem_append_left _ hb)
  (fun j _ w'=>j≤i∧row w' g2 [.pointer (some ⟨jb,0,none⟩)] 81∧row w' g3 [.int .i64 (out:Int)] 3∧row w' g4 [.int .i64 (lastOf rl j:Int)] 3∧LoL lo L w w')
  (fun c w'=>c= .ret∧JH q jb mw N G0 V k (zcE (zjz H rl i out) out) (out::fl) Y lo ((D+1)::D::L) w'∧LoL lo L w w')
  ?_ ?_ ?_ ?_ (fun _ _ _ _ b hb=>by cases hb) () hT9 ⟨Nat.zero_le _,hr2,hr3,hr4,LoL.of_below hB⟩ ?_ ?_ ?_
 ·rintro j _ W W' ⟨h1,h3,h4,h5,h7⟩ hk
  have hm:∀ b∈L0,b∈[]++(D+1)::D::L0:=fun b hb=>by simp[hb]
  exact⟨h1,h3.kpd hk.kp (zam (.inr (hm _ hL02.1))),h4.kpd hk.kp (zam (.inr (hm _ hL02.2.1))),h5.kpd hk.kp (zam (.inr (hm _ hL02.2.2))),h7.ll hk fun b hb=>hm _ (hL0s b hb)⟩
 ·rintro j _ W W' ⟨h1,h3,h4,h5,h7⟩ ho
  exact⟨h1,h3.only ho ae,h4.only ho ae,h5.only ho ae,h7.only ho aG⟩
 ·rintro c W W' ⟨h1,h3,h5⟩ hb
  exact⟨h1,h3.new hb,h5.new hb⟩
 ·rintro c W W' ⟨h1,h3,h5⟩ ho
  exact⟨h1,h3.only ho (.inr ay),h5.only ho aG⟩
 ·rintro ly j v _ W1 Lx hv hLx _ hT1 ⟨hi,hr2,hr3,hr4,hl1⟩ hsz1
  obtain⟨m,hm,rfl⟩:∃ m,rl[j]?=some m∧v=[.int .i64 (m:Int), .agg (bv (zay (H.S m))).toArray]:=by
   unfold liX at hv
   rw[List.getElem?_map]at hv
   have hobt:=Option.map_eq_some_iff.1 hv
   obtain⟨m,hm,e⟩:=hobt
   exact⟨m,hm,e.symm⟩
  have hil:j<rl.length:=(List.getElem?_eq_some_iff.1 hm).1
  have hmem:=List.mem_of_getElem? hm
  have hobt:=hli.at_ m hmem
  obtain⟨ha1,ha2,ha3,ha4⟩:=hobt
  have hQl:=zaR ha3.1
  have hnx:=fun w'=>zoh (H.S m) w' ha3.1
  have hJ1:JH q jb mw N G0 V k H fl Y lo (Lx++((D+1)::D::L0)) W1:=⟨hH,G,hG,hT1⟩
  have hobt:∃ Q,zay (H.S m)=Q:=⟨_,rfl⟩
  obtain⟨Q,hQ⟩:=hobt
  simp only[hQ]at hQl hnx ⊢
  have hBa:=Below.refl W1.heap.size W1
  refine zah (zaa (zad (zac) (zae (zaf (zaa (zaD rfl (zar (List.replicate 512 (Value.int .u8 0)) aa (fun g6 w6 hg6 hr6 hb6=>?_))))))))
  have ge_hBa_g6:=Nat.le_trans hBa.size hg6
  replace hJ1:=hJ1.newc hb6 hg6 hr6.lt
  replace hT1:=hT1.newc hb6 hg6 hr6.lt
  replace hBa:=hBa.acc hb6
  refine zaK rfl (zaQ 512 (bv Q) hr6 (fun w904 hr6 ho904=>?_))
  replace hJ1:=hJ1.only ho904 ai
  replace hT1:=hT1.only ho904 ai
  replace hBa:=ho904.below hBa ge_hBa_g6
  refine zae (⟨rfl,hBa,fun W2 hs=>?_⟩)
  have hsa:=hBa.size
  have hss:=hs.size
  replace hr6:=hr6.only hs ae
  replace hJ1:=hJ1.only hs (.inr ay)
  replace hT1:=hT1.only hs (.inr ay)
  replace hr2:=(hr2.new hBa).only hs ae
  replace hr3:=(hr3.new hBa).only hs ae
  replace hr4:=(hr4.new hBa).only hs ae
  replace hl1:=(hl1.new hBa).only hs aG
  have hLr:=LoL.refl lo ((D+1)::D::Lx) W2
  obtain⟨hg2L,hg3L,hg4L⟩:=hL02
  have hfix:∀ g,g<D→gx1≠g→gx2≠g→gx3≠g→g∉(D+1)::D::Lx:=fun g hg e1 e2 e3 hm=>by
   simp only[List.mem_cons]at hm
   rcases hm with e|e|e
   ·omega
   ·omega
   ·rcases hLx g e with e|e
    · simp only[List.mem_cons,List.not_mem_nil,or_false]at e
      rcases e with e|e|e
      · exact e1 e.symm
      · exact e2 e.symm
      · exact e3 e.symm
    · omega
  have hgL4:=hfix g4 ae ae ae ae
  have hlo4:lo≤g4:=by have:=hlo0.1;omega
  by_cases hne:m=out
  ·have hne2:=hne.symm
   subst hne2
   have hji:i=j:=zmH hR.nd hio hm
   subst hji
   have hbk:=fun L' w' (h':JH q jb mw N G0 V k (zjz H rl i out) fl Y lo L' w')=>backH h' out ha1 ha2 hnio
   have hLi1:∀ a:Nat,∀ x∈L,x∈a::(Lx++((D+1)::D::L0)):=fun a x hx=>by have:=hL0s x hx;simp[this]
   have hLi2:∀ a b:Nat,∀ x∈L,x∈a::b::(Lx++((D+1)::D::L0)):=fun a b x hx=>by have:=hL0s x hx;simp[this]
   have hLr1:∀ a:Nat,∀ x∈(D+1)::D::Lx,x∈a::(Lx++((D+1)::D::L0)):=fun a x hx=>by
    simp only[List.mem_cons,List.mem_append]at hx ⊢
    rcases hx with h|h|h<;>simp[h]
   have hLr2:∀ a b:Nat,∀ x∈(D+1)::D::Lx,x∈a::b::(Lx++((D+1)::D::L0)):=fun a b x hx=>List.mem_cons_of_mem _ (hLr1 b x hx)
   by_cases hi0:i=0
   ·have hl0:lastOf rl i=0:=by unfold lastOf;rw[if_pos hi0]
    rw[hl0]at hr4
    have hu:zjz H rl i out=⟨⟨H.F.fresh,H.F.free,H.F.many,(H.S out).next,H.F.root⟩,H.S⟩:=by unfold zjz zdI;rw[if_pos hi0,if_pos hi0]
    have hobt:∃ nx,(H.S out).next=nx:=⟨_,rfl⟩
    obtain⟨nx,hnxe⟩:=hobt
    simp only[hnxe]at hnx hu
    obtain⟨hH1,G1,hG1,hT3⟩:=hJ1
    have hobt:=zbL hT3
    obtain⟨c1,hA⟩:=hobt
    have hj:=hA.zg3
    refine zav (zah (zav (zah (zaa (zad (zab) (zad (zau hr3) (zad (zaX rfl rfl) (zad (zac) (zae (zaf (zcF rfl (ay) (zah (zaa (zad (zau hr4) (zad (za5 rfl rfl) (zad (zac) (zae (zaf (zgP rfl (rfl) (za3 [jb] aa ?_))))))))))))))))))))
    intro w905 hb905 hS905
    replace hr6:=hr6.new hb905
    replace hA:=hA.new hb905
    replace hLr:=hLr.new hb905
    replace hl1:=hl1.new hb905
    replace hr2:=hr2.new hb905
    replace hr3:=hr3.new hb905
    replace hr4:=hr4.new hb905
    replace hj:=hj.new hb905
    have hr6_d905:=hr6
    have hA_d905:=hA
    have hLr_d905:=hLr
    have hl1_d905:=hl1
    have hr2_d905:=hr2
    have hr3_d905:=hr3
    have hr4_d905:=hr4
    have hj_d905:=hj
    refine zbo 0 (fun w' hS'=>zau (hr2_d905.kq hS')) (zbo 1 (fun w' hS'=>za7 512 (hr6_d905.kq hS')) (zaA 2 aa (zaU rfl rfl (zaj aa rfl) (hnx w905) ?_)))
    rintro _ w43 ⟨rfl,hb43⟩
    have hS906:=hS905.add0 hb43
    refine⟨hS906,?_⟩
    replace hr6:=hr6.new hb43
    replace hA:=hA.new hb43
    replace hLr:=hLr.new hb43
    replace hl1:=hl1.new hb43
    replace hr2:=hr2.new hb43
    replace hr3:=hr3.new hb43
    replace hr4:=hr4.new hb43
    replace hj:=hj.new hb43
    refine zas 3 (zak rfl) (zas 4 (zaw 0) (zas 5 (zaw 3) (zaA 6 aa ?_)))
    have hjD:jb∉(D+1)::D::Lx:=fun e=>hA.jl.2 (hLr1 _ _ e)
    refine zbB rfl rfl (zbn hj (fun w908 hj ho908=>?_))
    have hS907:=hS906.aq ho908
    refine⟨hS907,?_⟩
    replace hr6:=hr6.only ho908 ae
    replace hLr:=hLr.only ho908 ax
    replace hl1:=hl1.only ho908 ax
    replace hr2:=hr2.only ho908 (Nat.ne_of_gt lt_jb_g2)
    replace hr3:=hr3.only ho908 (Nat.ne_of_gt lt_jb_g3)
    replace hr4:=hr4.only ho908 (Nat.ne_of_gt lt_jb_g4)
    have hJ2:JH q jb mw N G0 V k (zjz H rl i out) fl Y lo (g6::(Lx++((D+1)::D::L0))) w908:=⟨hok2,G1,(by rw[hu];exact⟨hG1.s,hG1.z0,hG1.u⟩),(by rw[hu];exact(hA.setF (F2:=⟨H.F.fresh,H.F.free,H.F.many,nx,H.F.root⟩) hj ho908).close)⟩
    refine zaI aa (zaP (zaf (zah (zaa (zad (zau hr2) (zad (zab) (zao rfl (zaj aa rfl) (hbk _ w908 hJ2) ?_)))))))
    rintro _ w49 ⟨hJ2,hb49⟩
    have hl1:=hl1.ll hb49 (hLi1 _)
    have hLr:=hLr.ll hb49 (hLr1 _)
    replace hr6:=hr6.kl hb49
    replace hr2:=hr2.kl hb49
    replace hr3:=hr3.kl hb49
    replace hr4:=hr4.kl hb49
    refine zae (zaf (zaF (zbc ?_)))
    exact⟨hLr,rfl,hJ2.weak (fun b hb=>by
      simp only[List.mem_cons,List.mem_append]at hb ⊢
      rcases hb with h|h|h
      · exact .inr (.inr (.inl h))
      · exact .inr (.inr (.inr (.inl h)))
      · exact .inr (.inr (.inr (.inr (hL0s _ h))))),hl1⟩
   ·have hpl:i - 1<rl.length:=by omega
    have hobt:∃ p,rl[i - 1]=p:=⟨_,rfl⟩
    obtain⟨p,hp⟩:=hobt
    have hpm:p∈rl:=hp▸List.getElem_mem _
    have hpe:lastOf rl i=p:=by
      unfold lastOf
      rw[if_neg hi0,List.getD_eq_getElem?_getD,List.getElem?_eq_getElem hpl,hp];rfl
    have hpe2:rl.getD (i - 1) 0=p:=by rw[List.getD_eq_getElem?_getD,List.getElem?_eq_getElem hpl,hp];rfl
    have hpa:=hR.at_ p hpm
    have hpg:=hH.gd p hpa.1 hpa.2.1
    have hpn:=hR.ni hH hpm
    have hu:zjz H rl i out=⟨H.F,zbb H.S p {H.S p with next:=(H.S out).next}⟩:=by unfold zjz zdI;rw[if_neg hi0,if_neg hi0,hpe2]
    have hP2l:=zaR (zhS hpg (m:=(H.S out).next) ae)
    have hPpl:=zaR hpg
    have hget:=fun L' w' (h':JH q jb mw N G0 V k H fl Y lo L' w')=>getH h' p hpa.1 hpa.2.1
    have hlk:=fun w'=>zmc (H.S p) (H.S out).next w' hpg ae
    have hset:∀ L' w',JH q jb mw N G0 V k H fl Y lo L' w'→Calls Tryz.prog 48 [.pointer (some ⟨jb,0,none⟩), .int .i64 (p:Int), .agg (bv (zay {H.S p with next:=(H.S out).next})).toArray].toArray w' (Ret fun _ w2=>JH q jb mw N G0 V k (zjz H rl i out) fl Y lo L' w2∧LoL lo L' w' w2):=fun L' w' h'=>by
      rw[hu]
      exact setH h' p hpa.1 hpa.2.1 hpn (zhS hpg ae)
    rw[hpe]at hr4
    have hobt:∃ P2,zay {H.S p with next:=(H.S out).next}=P2:=⟨_,rfl⟩
    obtain⟨P2,hP2⟩:=hobt
    have hobt:∃ PP,zay (H.S p)=PP:=⟨_,rfl⟩
    obtain⟨PP,hPP⟩:=hobt
    simp only[hP2]at hlk hset hP2l
    simp only[hPP]at hget hlk hPpl
    have hobt:∃ nx,(H.S out).next=nx:=⟨_,rfl⟩
    obtain⟨nx,hnxe⟩:=hobt
    simp only[hnxe]at hnx hlk
    refine zav (zah (zav (zah (zaa (zad (zab) (zad (zau hr3) (zad (zaX rfl rfl) (zad (zac) (zae (zaf (zcF rfl (ay) (zah (zaa (zad (zau hr4) (zad (za5 rfl rfl) (zad (zac) (zae (zaf (zcF rfl (ae) (zgQ (α:=Nat) (fun g7=>[(2, .pointer (some ⟨g2,0,none⟩)),(4, .pointer (some ⟨g4,0,none⟩)),(5, .int .i64 (out:Int)),(7, .pointer (some ⟨g7,0,none⟩)),(8, .int .i64 0)]) (fun g7 w'=>row w' g7 (bv P2) 62∧D≤g7∧JH q jb mw N G0 V k H fl Y lo (g7::g6::(Lx++((D+1)::D::L0))) w'∧row w' g2 [.pointer (some ⟨jb,0,none⟩)] 81∧row w' g4 [.int .i64 (p:Int)] 3∧LoL lo L w w'∧LoL lo ((D+1)::D::Lx) W2 w') ?_ ?_))))))))))))))))))))
    ·
     refine zct (lo) ((g6::(Lx++((D+1)::D::L0)))) aa ?_
     intro w909 hb909 hn909 hS909
     replace hJ1:=hJ1.new hb909
     replace hr6:=hr6.new hb909
     replace hLr:=hLr.new hb909
     replace hl1:=hl1.new hb909
     replace hr2:=hr2.new hb909
     replace hr3:=hr3.new hb909
     replace hr4:=hr4.new hb909
     have hJ1_d909:=hJ1
     have hr6_d909:=hr6
     have hLr_d909:=hLr
     have hl1_d909:=hl1
     have hr2_d909:=hr2
     have hr3_d909:=hr3
     have hr4_d909:=hr4
     refine zbo 0 (fun w' hS'=>zau (hr2_d909.kL hS')) (zbo 1 (fun w' hS'=>zau (hr4_d909.kL hS')) (zbo 3 (fun w' hS'=>za7 512 (hr6_d909.kL hS')) (zcA 2 9 aa ?_ ?_)))
     ·
      refine zaU rfl rfl (zaj aa rfl) (hget _ w909 hJ1) ?_
      rintro _ w21 ⟨rfl,hJ1,hb21⟩
      have hl1:=hl1.ll hb21 (by first |exact hLi1 _|exact hLi2 _ _)
      have hLr:=hLr.ll hb21 (by first |exact hLr1 _|exact hLr2 _ _)
      have hS910:=hS909.zdh hn909 hb21.wk
      refine⟨hS910,?_⟩
      replace hr6:=hr6.kl hb21
      replace hr2:=hr2.kl hb21
      replace hr3:=hr3.kl hb21
      replace hr4:=hr4.kl hb21
      refine zcA 4 9 aa ?_ ?_
      ·
       refine zaU rfl rfl (zaj aa rfl) (hnx w21) ?_
       rintro _ w23 ⟨rfl,hb23⟩
       have hS911:=hS910.add0 hb23
       refine⟨hS911,?_⟩
       replace hJ1:=hJ1.new hb23
       replace hr6:=hr6.new hb23
       replace hLr:=hLr.new hb23
       replace hl1:=hl1.new hb23
       replace hr2:=hr2.new hb23
       replace hr3:=hr3.new hb23
       replace hr4:=hr4.new hb23
       refine zcA 5 9 aa ?_ ?_
       ·
        refine zaU rfl rfl (zaj aa rfl) (hlk w23) ?_
        rintro _ w24 ⟨rfl,hb24⟩
        have hS912:=hS911.add0 hb24
        refine⟨hS912,?_⟩
        replace hJ1:=hJ1.new hb24
        replace hr6:=hr6.new hb24
        replace hLr:=hLr.new hb24
        replace hl1:=hl1.new hb24
        replace hr2:=hr2.new hb24
        replace hr3:=hr3.new hb24
        replace hr4:=hr4.new hb24
        refine zas 6 (zab) (zas 7 (zai rfl rfl) (zas 8 (zai rfl rfl) (zaA 9 aa (zby rfl rfl (zar (List.replicate 512 (Value.int .u8 0)) aa (fun g7 w7 hg7 hr7 hb7=>?_))))))
        have hS913:=hS912.add0 hb7
        refine⟨hS913,?_⟩
        have ge_hS912_g7:=Nat.le_trans hS912.size hg7
        have lt_g6_g7:g6<g7:=Nat.lt_of_lt_of_le hr6.lt hg7
        have lt_g2_g7:g2<g7:=Nat.lt_of_lt_of_le hr2.lt hg7
        have lt_g3_g7:g3<g7:=Nat.lt_of_lt_of_le hr3.lt hg7
        have lt_g4_g7:g4<g7:=Nat.lt_of_lt_of_le hr4.lt hg7
        replace hJ1:=hJ1.newc hb7 hg7 hr7.lt
        replace hr6:=hr6.new hb7
        replace hLr:=hLr.new hb7
        replace hl1:=hl1.new hb7
        replace hr2:=hr2.new hb7
        replace hr3:=hr3.new hb7
        replace hr4:=hr4.new hb7
        refine zaA 10 aa (zbB rfl rfl (zaQ 512 (bv P2) hr7 (fun w915 hr7 ho915=>?_)))
        have hS914:=hS913.add1 ho915 aj
        refine⟨hS914,?_⟩
        replace hJ1:=hJ1.only ho915 ai
        replace hr6:=hr6.only ho915 (Nat.ne_of_lt lt_g6_g7)
        replace hLr:=hLr.only ho915 ax
        replace hl1:=hl1.only ho915 ax
        replace hr2:=hr2.only ho915 (Nat.ne_of_lt lt_g2_g7)
        replace hr3:=hr3.only ho915 (Nat.ne_of_lt lt_g3_g7)
        replace hr4:=hr4.only ho915 (Nat.ne_of_lt lt_g4_g7)
        refine zas 11 (zac) (zaI aa ?_)
        refine za2 ⟨g7,⟨rfl,rfl,rfl,rfl,rfl,rfl⟩,hr7,by have:=hr7.lt;omega,hJ1.weak (fun b hb=>by
          simp only[List.mem_cons]at hb ⊢
          rcases hb with h|h|h<;>simp[h]),hr2,hr4,hl1,hLr⟩
       ·
        refine zby rfl rfl (zar (List.replicate 512 (Value.int .u8 0)) aa (fun g7 w7 hg7 hr7 hb7=>?_))
        have hS916:=hS911.add0 hb7
        refine⟨hS916,?_⟩
        have ge_hS911_g7:=Nat.le_trans hS911.size hg7
        have lt_g6_g7:g6<g7:=Nat.lt_of_lt_of_le hr6.lt hg7
        have lt_g2_g7:g2<g7:=Nat.lt_of_lt_of_le hr2.lt hg7
        have lt_g3_g7:g3<g7:=Nat.lt_of_lt_of_le hr3.lt hg7
        have lt_g4_g7:g4<g7:=Nat.lt_of_lt_of_le hr4.lt hg7
        replace hJ1:=hJ1.newc hb7 hg7 hr7.lt
        replace hr6:=hr6.new hb7
        replace hLr:=hLr.new hb7
        replace hl1:=hl1.new hb7
        replace hr2:=hr2.new hb7
        replace hr3:=hr3.new hb7
        replace hr4:=hr4.new hb7
        refine zaA 5 aa (zaU rfl rfl (zaj aa rfl) (hlk w7) ?_)
        rintro _ w24 ⟨rfl,hb24⟩
        have hS917:=hS916.add0 hb24
        refine⟨hS917,?_⟩
        replace hJ1:=hJ1.new hb24
        replace hr6:=hr6.new hb24
        replace hLr:=hLr.new hb24
        replace hl1:=hl1.new hb24
        replace hr2:=hr2.new hb24
        replace hr3:=hr3.new hb24
        replace hr4:=hr4.new hb24
        replace hr7:=hr7.new hb24
        refine zas 6 (zab) (zas 7 (zai rfl rfl) (zas 8 (zai rfl rfl) (zaA 10 aa (zbB rfl rfl (zaQ 512 (bv P2) hr7 (fun w919 hr7 ho919=>?_))))))
        have hS918:=hS917.add1 ho919 aj
        refine⟨hS918,?_⟩
        replace hJ1:=hJ1.only ho919 ai
        replace hr6:=hr6.only ho919 (Nat.ne_of_lt lt_g6_g7)
        replace hLr:=hLr.only ho919 ax
        replace hl1:=hl1.only ho919 ax
        replace hr2:=hr2.only ho919 (Nat.ne_of_lt lt_g2_g7)
        replace hr3:=hr3.only ho919 (Nat.ne_of_lt lt_g3_g7)
        replace hr4:=hr4.only ho919 (Nat.ne_of_lt lt_g4_g7)
        refine zas 11 (zac) (zaI aa ?_)
        refine za2 ⟨g7,⟨rfl,rfl,rfl,rfl,rfl,rfl⟩,hr7,by have:=hr7.lt;omega,hJ1.weak (fun b hb=>by
          simp only[List.mem_cons]at hb ⊢
          rcases hb with h|h|h<;>simp[h]),hr2,hr4,hl1,hLr⟩
      ·
       refine zby rfl rfl (zar (List.replicate 512 (Value.int .u8 0)) aa (fun g7 w7 hg7 hr7 hb7=>?_))
       have hS920:=hS910.add0 hb7
       refine⟨hS920,?_⟩
       have ge_hS910_g7:=Nat.le_trans hS910.size hg7
       have lt_g6_g7:g6<g7:=Nat.lt_of_lt_of_le hr6.lt hg7
       have lt_g2_g7:g2<g7:=Nat.lt_of_lt_of_le hr2.lt hg7
       have lt_g3_g7:g3<g7:=Nat.lt_of_lt_of_le hr3.lt hg7
       have lt_g4_g7:g4<g7:=Nat.lt_of_lt_of_le hr4.lt hg7
       replace hJ1:=hJ1.newc hb7 hg7 hr7.lt
       replace hr6:=hr6.new hb7
       replace hLr:=hLr.new hb7
       replace hl1:=hl1.new hb7
       replace hr2:=hr2.new hb7
       replace hr3:=hr3.new hb7
       replace hr4:=hr4.new hb7
       refine zaA 4 aa (zaU rfl rfl (zaj aa rfl) (hnx w7) ?_)
       rintro _ w23 ⟨rfl,hb23⟩
       have hS921:=hS920.add0 hb23
       refine⟨hS921,?_⟩
       replace hJ1:=hJ1.new hb23
       replace hr6:=hr6.new hb23
       replace hLr:=hLr.new hb23
       replace hl1:=hl1.new hb23
       replace hr2:=hr2.new hb23
       replace hr3:=hr3.new hb23
       replace hr4:=hr4.new hb23
       replace hr7:=hr7.new hb23
       refine zaA 5 aa (zaU rfl rfl (zaj aa rfl) (hlk w23) ?_)
       rintro _ w24 ⟨rfl,hb24⟩
       have hS922:=hS921.add0 hb24
       refine⟨hS922,?_⟩
       replace hJ1:=hJ1.new hb24
       replace hr6:=hr6.new hb24
       replace hLr:=hLr.new hb24
       replace hl1:=hl1.new hb24
       replace hr2:=hr2.new hb24
       replace hr3:=hr3.new hb24
       replace hr4:=hr4.new hb24
       replace hr7:=hr7.new hb24
       refine zas 6 (zab) (zas 7 (zai rfl rfl) (zas 8 (zai rfl rfl) (zaA 10 aa (zbB rfl rfl (zaQ 512 (bv P2) hr7 (fun w924 hr7 ho924=>?_))))))
       have hS923:=hS922.add1 ho924 aj
       refine⟨hS923,?_⟩
       replace hJ1:=hJ1.only ho924 ai
       replace hr6:=hr6.only ho924 (Nat.ne_of_lt lt_g6_g7)
       replace hLr:=hLr.only ho924 ax
       replace hl1:=hl1.only ho924 ax
       replace hr2:=hr2.only ho924 (Nat.ne_of_lt lt_g2_g7)
       replace hr3:=hr3.only ho924 (Nat.ne_of_lt lt_g3_g7)
       replace hr4:=hr4.only ho924 (Nat.ne_of_lt lt_g4_g7)
       refine zas 11 (zac) (zaI aa ?_)
       refine za2 ⟨g7,⟨rfl,rfl,rfl,rfl,rfl,rfl⟩,hr7,by have:=hr7.lt;omega,hJ1.weak (fun b hb=>by
         simp only[List.mem_cons]at hb ⊢
         rcases hb with h|h|h<;>simp[h]),hr2,hr4,hl1,hLr⟩
     ·
      refine zby rfl rfl (zar (List.replicate 512 (Value.int .u8 0)) aa (fun g7 w7 hg7 hr7 hb7=>?_))
      have hS925:=hS909.add0 hb7
      refine⟨hS925,?_⟩
      have ge_hS909_g7:=Nat.le_trans hS909.size hg7
      have lt_g6_g7:g6<g7:=Nat.lt_of_lt_of_le hr6.lt hg7
      have lt_g2_g7:g2<g7:=Nat.lt_of_lt_of_le hr2.lt hg7
      have lt_g3_g7:g3<g7:=Nat.lt_of_lt_of_le hr3.lt hg7
      have lt_g4_g7:g4<g7:=Nat.lt_of_lt_of_le hr4.lt hg7
      replace hJ1:=hJ1.newc hb7 hg7 hr7.lt
      replace hr6:=hr6.new hb7
      replace hLr:=hLr.new hb7
      replace hl1:=hl1.new hb7
      replace hr2:=hr2.new hb7
      replace hr3:=hr3.new hb7
      replace hr4:=hr4.new hb7
      refine zaA 2 aa (zaU rfl rfl (zaj aa rfl) (hget _ w7 hJ1) ?_)
      rintro _ w21 ⟨rfl,hJ1,hb21⟩
      have hl1:=hl1.ll hb21 (by first |exact hLi1 _|exact hLi2 _ _)
      have hLr:=hLr.ll hb21 (by first |exact hLr1 _|exact hLr2 _ _)
      have hS926:=hS925.zdh hn909 hb21.wk
      refine⟨hS926,?_⟩
      replace hr6:=hr6.kl hb21
      replace hr2:=hr2.kl hb21
      replace hr3:=hr3.kl hb21
      replace hr4:=hr4.kl hb21
      replace hr7:=hr7.kl hb21
      refine zaA 4 aa (zaU rfl rfl (zaj aa rfl) (hnx w21) ?_)
      rintro _ w23 ⟨rfl,hb23⟩
      have hS927:=hS926.add0 hb23
      refine⟨hS927,?_⟩
      replace hJ1:=hJ1.new hb23
      replace hr6:=hr6.new hb23
      replace hLr:=hLr.new hb23
      replace hl1:=hl1.new hb23
      replace hr2:=hr2.new hb23
      replace hr3:=hr3.new hb23
      replace hr4:=hr4.new hb23
      replace hr7:=hr7.new hb23
      refine zaA 5 aa (zaU rfl rfl (zaj aa rfl) (hlk w23) ?_)
      rintro _ w24 ⟨rfl,hb24⟩
      have hS928:=hS927.add0 hb24
      refine⟨hS928,?_⟩
      replace hJ1:=hJ1.new hb24
      replace hr6:=hr6.new hb24
      replace hLr:=hLr.new hb24
      replace hl1:=hl1.new hb24
      replace hr2:=hr2.new hb24
      replace hr3:=hr3.new hb24
      replace hr4:=hr4.new hb24
      replace hr7:=hr7.new hb24
      refine zas 6 (zab) (zas 7 (zai rfl rfl) (zas 8 (zai rfl rfl) (zaA 10 aa (zbB rfl rfl (zaQ 512 (bv P2) hr7 (fun w930 hr7 ho930=>?_))))))
      have hS929:=hS928.add1 ho930 aj
      refine⟨hS929,?_⟩
      replace hJ1:=hJ1.only ho930 ai
      replace hr6:=hr6.only ho930 (Nat.ne_of_lt lt_g6_g7)
      replace hLr:=hLr.only ho930 ax
      replace hl1:=hl1.only ho930 ax
      replace hr2:=hr2.only ho930 (Nat.ne_of_lt lt_g2_g7)
      replace hr3:=hr3.only ho930 (Nat.ne_of_lt lt_g3_g7)
      replace hr4:=hr4.only ho930 (Nat.ne_of_lt lt_g4_g7)
      refine zas 11 (zac) (zaI aa ?_)
      refine za2 ⟨g7,⟨rfl,rfl,rfl,rfl,rfl,rfl⟩,hr7,by have:=hr7.lt;omega,hJ1.weak (fun b hb=>by
        simp only[List.mem_cons]at hb ⊢
        rcases hb with h|h|h<;>simp[h]),hr2,hr4,hl1,hLr⟩
    ·
     rintro g7 f7 w7 ⟨hr7,hg7,hJ1,hr2,hr4,hl1,hLr⟩
     refine zah (zaa (zad (zab) (zao rfl (zaj aa rfl) (zif w7) ?_)))
     rintro _ _ ⟨rfl,rfl⟩
     refine zae (zaf (zaa (zad (zau hr2) (zad (zau hr4) (zad (za7 512 hr7) (zao rfl (zaj aa rfl) (hset _ w7 hJ1) ?_))))))
     rintro _ w32 ⟨hJ2,hb32⟩
     have hl1:=hl1.ll hb32 (hLi2 _ _)
     have hLr:=hLr.ll hb32 (hLr2 _ _)
     replace hr2:=hr2.kl hb32
     replace hr4:=hr4.kl hb32
     replace hr7:=hr7.kl hb32
     refine zae (zaP (zaf (zah (zaa (zad (zau hr2) (zad (zab) (zao rfl (zaj aa rfl) (hbk _ w32 hJ2) ?_)))))))
     rintro _ w49 ⟨hJ2,hb49⟩
     have hl1:=hl1.ll hb49 (hLi2 _ _)
     have hLr:=hLr.ll hb49 (hLr2 _ _)
     replace hr2:=hr2.kl hb49
     replace hr4:=hr4.kl hb49
     replace hr7:=hr7.kl hb49
     refine zae (zaf (zaF (zbc ?_)))
     exact⟨hLr,rfl,hJ2.weak (fun b hb=>by
       simp only[List.mem_cons,List.mem_append]at hb ⊢
       rcases hb with h|h|h
       · exact .inr (.inr (.inr (.inl h)))
       · exact .inr (.inr (.inr (.inr (.inl h))))
       · exact .inr (.inr (.inr (.inr (.inr (hL0s _ h)))))),hl1⟩
  ·have hji:j≠i:=fun e=>hne (by rw[e,hio]at hm;exact(Option.some.inj hm).symm)
   have hlN:lastOf rl (j+1)=m:=by
    unfold lastOf
    rw[if_neg ae,Nat.add_sub_cancel,List.getD_eq_getElem?_getD,hm];rfl
   refine zav (zah (zav (zah (zaa (zad (zab) (zad (zau hr3) (zad (zaX rfl rfl) (zad (zac) (zae (zaf (zgP rfl (ae) (zah (zaa (zad (zab) (zaK rfl (zbn hr4 (fun w931 hr4 ho931=>?_)))))))))))))))))
   replace hT1:=hT1.only ho931 ai
   replace hr6:=hr6.only ho931 ae
   replace hLr:=hLr.only ho931 ax
   replace hl1:=hl1.only ho931 ax
   replace hr2:=hr2.only ho931 (Nat.ne_of_lt lt_g2_g4)
   replace hr3:=hr3.only ho931 (Nat.ne_of_lt lt_g3_g4)
   refine zae (zaf (zbh (zjS rfl (zbC (zbl ?_)))))
   exact⟨hLr,(),hT1.weak (fun b hb=>by simp only[List.mem_cons,List.mem_append]at hb ⊢;exact .inr hb),ae,hr2,hr3,(by rw[hlN];exact hr4),hl1⟩
 ·rintro _ W hTd ⟨hx,_⟩ hdef
  rw[hxs]at hx
  have:=(List.getElem?_eq_some_iff.1 hio).1
  omega
 ·rintro c W' ⟨rfl,hJr,hlw⟩ hdef
  have hdf:zju W' D:=⟨hdef⟩
  have hxo:Only D W' (World.putObj W' D (.deferred none)):=zce _
  refine⟨rfl,?_⟩
  refine zaF (zbc (zaW (scopeR (zeS [] D hdf.d trivial ?_))))
  exact⟨(hJr.only hxo (.inr ay)).weak fun b hb=>by simp[hb],hlw.only hxo aG⟩
end
theorem zmI{j:Nat}{r:List UInt8}:∀ (n:Nat) (S:List (Option (List UInt8))),S.length=n→((trimS S)[j]?=some (some r)↔S[j]?=some (some r))
 |0,S,h=>by rw[List.eq_nil_of_length_eq_zero h];rfl
 |n+1,S,h=>by
  rcases List.eq_nil_or_concat S with rfl|⟨T,s,rfl⟩
  ·rfl
  ·rw[List.concat_eq_append]at h ⊢
   cases s with
   |none=>
    rw[zi7,zmI n T aX]
    by_cases hj:j<T.length
    ·rw[List.getElem?_append_left hj]
    ·rw[List.getElem?_append_right ae,List.getElem?_eq_none ae]
     cases hk:j - T.length with
     |zero=>simp
     |succ k=>simp
   |some q=>rw[zhq]
theorem wtV_at{V:View}{i j:Nat}{r:List UInt8}:(wtV V i).slots[j]?=some (some r)↔j≠i∧V.slots[j]?=some (some r):=by
 show(trimS (V.slots.set i none))[j]?=_↔_
 rw[zmI _ _ rfl,List.getElem?_set]
 by_cases h:i=j
 ·rw[if_pos h]
  split
  ·constructor
   ·intro e;cases e
   ·intro e;exact absurd h.symm e.1
  ·constructor
   ·intro e;cases e
   ·intro e;exact absurd h.symm e.1
 ·rw[if_neg h];exact⟨fun e=>⟨fun e2=>h e2.symm,e⟩,fun e=>e.2⟩
theorem zmJ{V:View}(hV:Good V)(i:Nat):Good (wtV V i):=by
 obtain⟨k,h1,h2,h3,_⟩:=zj6 (V.slots.set i none)
 refine⟨hV.kind,hV.next,Nat.le_trans (zmd V i) hV.size,fun r hr=>?_,?_⟩
 ·have h5:some r∈trimS (V.slots.set i none):=hr
  rw[h2]at h5
  rcases List.mem_or_eq_of_mem_set (List.mem_of_mem_take h5)with h|h
  ·exact hV.cell r h
  ·cases h
 ·show(trimS (V.slots.set i none)).getLast?≠some none
  rw[h2];exact h3
theorem zpn{S:List (Option (List UInt8))}{i j:Nat}{r:List UInt8}(hi:i≤S.length):(zjI S i r)[j]?=if j=i then some (some r)else S[j]?:=by
 unfold zjI
 split
 ·rename_i e
  by_cases hj:j=i
  ·rw[if_pos hj,List.getElem?_append_right ae,show j - S.length=0 by omega];rfl
  ·rw[if_neg hj]
   by_cases hl:j<S.length
   ·rw[List.getElem?_append_left hl]
   ·rw[List.getElem?_append_right ae,List.getElem?_eq_none aK,List.getElem?_eq_none ae]
 ·rw[List.getElem?_set]
  by_cases hj:j=i
  ·rw[if_pos hj.symm,if_pos hj,if_pos ae]
  ·rw[if_neg (fun e=>hj e.symm),if_neg hj]
def CellIs(H:HS)(c b:List UInt8)(l:List Nat):Prop:=(b.length<400∧c=0::b∧l=[])∨∃ x,x<2048∧c=1::(beB 4 b.length++beB 4 x)∧zfi H x l b
theorem zfi.frame{H H':HS}{x:Nat}{l:List Nat}{b:List UInt8}(h:zfi H x l b)(hf:H.F.fresh≤H'.F.fresh)(he:∀ m∈l,H'.S m=H.S m):zfi H' x l b:=
 ⟨h.ch.frame he,fun m hm=>by have:=h.at_ m hm;rw[he m hm];exact⟨this.1,ae,this.2.2⟩,fun i m hm=>by rw[he m (List.mem_of_getElem? hm)];exact h.sl i m hm,h.nd,h.b1,h.b2,h.nl⟩
theorem CellIs.frame{H H':HS}{c b:List UInt8}{l:List Nat}(h:CellIs H c b l)(hf:H.F.fresh≤H'.F.fresh)(he:∀ m∈l,H'.S m=H.S m):CellIs H' c b l:=by
 rcases h with h|⟨x,h0,h1,h2⟩
 ·exact .inl h
 ·exact .inr ⟨x,h0,h1,h2.frame hf he⟩
theorem CellIs.at_{H:HS}{c b:List UInt8}{l:List Nat}(h:CellIs H c b l):l.Nodup∧∀ n∈l,1≤n∧n<H.F.fresh∧(H.S n).kind=2:=by
 rcases h with⟨_,_,rfl⟩|⟨x,_,_,h2⟩
 ·exact⟨List.nodup_nil,fun n hn=>by cases hn⟩
 ·exact⟨h2.nd,h2.at_⟩
structure HI(N:Nat)(H:HS)(fl rl:List Nat)(R:Nat→Nat→Prop)(P:Nat→Nat→List Nat)(B:Nat→Nat→List UInt8)(pd:List Nat):Prop where
 ok:HOk N H fl
 rk:znK H rl
 cell:∀ m s,R m s→m∈rl∧∃ c,(H.S m).slots[s]?=some (some c)∧CellIs H c (B m s) (P m s)
 ap:∀ m s m' s' n,R m s→R m' s'→n∈P m s→n∈P m' s'→m=m'∧s=s'
 pk:∀ n∈pd,1≤n∧n<H.F.fresh∧(H.S n).kind=2∧∀ m s,R m s→n∉P m s
 c0:∀ n,1≤n→n<H.F.fresh→(H.S n).kind=0→n∈fl
 c1:∀ n,1≤n→n<H.F.fresh→(H.S n).kind=1→n∈rl
 c2:∀ n,1≤n→n<H.F.fresh→(H.S n).kind=2→n∈pd∨∃ m s,R m s∧n∈P m s
def Full(H:HS)(rl:List Nat)(R:Nat→Nat→Prop):Prop:=∀ m∈rl,(H.S m).slots≠[]∧∀ s c,(H.S m).slots[s]?=some (some c)→R m s
def zgA(R:Nat→Nat→Prop)(m s:Nat):Nat→Nat→Prop:=fun a b=>R a b∧¬(a=m∧b=s)
def zii(R:Nat→Nat→Prop)(m s:Nat):Nat→Nat→Prop:=fun a b=>R a b∨(a=m∧b=s)
def up2{α:Type}(f:Nat→Nat→α)(m s:Nat)(v:α):Nat→Nat→α:=fun a b=>if a=m∧b=s then v else f a b
theorem ze7{α:Type}(f:Nat→Nat→α)(m s:Nat)(v:α):up2 f m s v m s=v:=if_pos ⟨rfl,rfl⟩
theorem zgc{α:Type}{f:Nat→Nat→α}{m s a b:Nat}{v:α}(h:¬(a=m∧b=s)):up2 f m s v a b=f a b:=if_neg h
theorem znK.frame{H H':HS}{rl:List Nat}(h:znK H rl)(hf:H.F.fresh≤H'.F.fresh)(hr:H'.F.records=H.F.records)(he:∀ m∈rl,H'.S m=H.S m):znK H' rl:=
 ⟨by rw[hr];exact h.ch.frame he,fun m hm=>by have:=h.at_ m hm;rw[he m hm];exact⟨this.1,ae,this.2.2⟩,h.nd⟩
theorem zhT{l:List Nat}:∀ {H:HS} {n:Nat},n∈l→((zbt H l).S n).kind=0:=by
 induction l with
 |nil=>intro H n hn;cases hn
 |cons a l ih=>
  intro H n hn
  by_cases hm:n∈l
  ·exact ih (H:=zcE H a) hm
  ·have e:n=a:=(List.mem_cons.1 hn).resolve_right hm
   subst e
   show((zbt (zcE H n) l).S n).kind=0
   rw[zbG hm]
   show(zbb H.S n (zd9 H.F) n).kind=0
   rw[zaT];rfl
namespace HI
variable {N:Nat}{H:HS}{fl rl pd:List Nat}{R:Nat→Nat→Prop}{P:Nat→Nat→List Nat}{B:Nat→Nat→List UInt8}{m s:Nat}
theorem pat(h:HI N H fl rl R P B pd)(hr:R m s):(P m s).Nodup∧∀ n∈P m s,1≤n∧n<H.F.fresh∧(H.S n).kind=2:=(h.cell m s hr).2.elim fun _ hc=>hc.2.at_
theorem pni(h:HI N H fl rl R P B pd)(hr:R m s):∀ n∈P m s,n∉fl∧n∉rl:=fun n hn=>by
 have h2:=((h.pat hr).2 n hn).2.2
 refine⟨fun hf=>?_,fun hf=>?_⟩
 ·have:=(h.ok.fk n hf).2.2;omega
 ·have:=(h.rk.at_ n hf).2.2;omega
theorem drop(h:HI N H fl rl R P B pd)(hN:N≤2048)(hr:R m s):HI N (zbt H (P m s)) ((P m s).reverse++fl) rl (zgA R m s) P B pd:=by
 obtain⟨hnd,hat⟩:=h.pat hr
 have hni:=h.pni hr
 have hF:=zdc (l:=P m s) (H:=H)
 have hother:∀ a b,zgA R m s a b→∀ n∈P a b,n∉P m s:=fun a b hab n hn hm=>hab.2 (h.ap a b m s n hab.1 hr hn hm)
 have hrl:∀ a∈rl,(zbt H (P m s)).S a=H.S a:=fun a ha=>zbG fun hm=>(hni a hm).2 ha
 refine⟨h.ok.backs hN hnd fun n hn=>⟨(hat n hn).1,(hat n hn).2.1,(hni n hn).1⟩,h.rk.frame (Nat.le_of_eq hF.1.symm) hF.2.1 hrl,fun a b hab=>?_,fun a b a' b' n h1 h2=>h.ap a b a' b' n h1.1 h2.1,fun n hn=>?_,fun n h1 h2 hk=>?_,fun n h1 h2 hk=>?_,fun n h1 h2 hk=>?_⟩
 ·obtain⟨h1,c,h2,h3⟩:=h.cell a b hab.1
  exact⟨h1,c,by rw[hrl a h1];exact h2,h3.frame (Nat.le_of_eq hF.1.symm) fun n hn=>zbG (hother a b hab n hn)⟩
 ·obtain⟨h1,h2,h3,h4⟩:=h.pk n hn
  refine⟨h1,by rw[hF.1];exact h2,?_,fun a b hab=>h4 a b hab.1⟩
  rw[zbG (h4 m s hr)];exact h3
 ·by_cases hm:n∈P m s
  ·simp[hm]
  ·rw[zbG hm]at hk
   rw[hF.1]at h2
   simp[h.c0 n h1 h2 hk]
 ·by_cases hm:n∈P m s
  ·rw[zhT hm]at hk;cases hk
  ·rw[zbG hm]at hk
   rw[hF.1]at h2
   exact h.c1 n h1 h2 hk
 ·by_cases hm:n∈P m s
  ·rw[zhT hm]at hk;cases hk
  ·rw[zbG hm]at hk
   rw[hF.1]at h2
   rcases h.c2 n h1 h2 hk with h3|⟨a,b,h3,h4⟩
   ·exact .inl h3
   ·refine .inr ⟨a,b,⟨h3,fun e=>hm ?_⟩,h4⟩
    rw[←e.1,←e.2];exact h4
theorem zjH(h:HI N H fl rl R P B pd)(hm:m∈rl){U:View}(hU:Good U)(hk:U.kind=1)(hn:U.next=(H.S m).next)(hs:∀ s c,R m s→(H.S m).slots[s]?=some (some c)→U.slots[s]?=some (some c)):HI N ⟨H.F,zbb H.S m U⟩ fl rl R P B pd:=by
 have hmn:=h.rk.ni h.ok hm
 have hma:=h.rk.at_ m hm
 have hkd:∀ n,(zbb H.S m U n).kind=(H.S n).kind:=fun n=>by
  by_cases e:n=m
  ·rw[e,zaT,hk,hma.2.2]
  ·rw[za9 e]
 have hnx:∀ n,(zbb H.S m U n).next=(H.S n).next:=fun n=>by
  by_cases e:n=m
  ·rw[e,zaT,hn]
  ·rw[za9 e]
 have hch:∀ {l:List Nat} {x:Nat},zcl H.S x l→zcl (zbb H.S m U) x l:=by
  intro l
  induction l with
  |nil=>exact fun h=>h
  |cons a l ih=>exact fun {x} h=>⟨h.1,h.2.1,ih (by rw[hnx];exact h.2.2)⟩
 have hpm:∀ a b,R a b→∀ n∈P a b,zbb H.S m U n=H.S n:=fun a b hab n hn=>za9 fun e=>(h.pni hab n hn).2 (e▸hm)
 refine⟨h.ok.set hmn hU,⟨hch h.rk.ch,fun a ha=>?_,h.rk.nd⟩,fun a b hab=>?_,h.ap,fun n hn=>?_,fun n h1 h2 h3=>h.c0 n h1 h2 (by rw[←hkd];exact h3),fun n h1 h2 h3=>h.c1 n h1 h2 (by rw[←hkd];exact h3),fun n h1 h2 h3=>h.c2 n h1 h2 (by rw[←hkd];exact h3)⟩
 ·have:=h.rk.at_ a ha
  exact⟨this.1,this.2.1,(hkd a).trans this.2.2⟩
 ·obtain⟨h1,c,h2,h3⟩:=h.cell a b hab
  refine⟨h1,c,?_,h3.frame (Nat.le_refl _) (hpm a b hab)⟩
  show(zbb H.S m U a).slots[b]?=_
  by_cases e:a=m
  ·subst e;rw[zaT];exact hs b c hab h2
  ·rw[za9 e];exact h2
 ·obtain⟨h1,h2,h3,h4⟩:=h.pk n hn
  exact⟨h1,h2,(hkd n).trans h3,h4⟩
end HI
theorem zlM{r:List UInt8}:∀ {S:List (Option (List UInt8))},S[zbY S]?≠some (some r)
 |[]=>by simp[zbY]
 |none::S=>by
  have e:zbY (none::S)=0:=rfl
  rw[e];simp
 |some q::S=>by
  have e:zbY (some q::S)=zbY S+1:=by simp[zbY,List.findIdx_cons]
  rw[e,List.getElem?_cons_succ]
  exact zlM (S:=S)
theorem zfG:∀ {l:List Nat} {i m a:Nat},l.Nodup→l[i]?=some m→(a∈l.eraseIdx i↔a∈l∧a≠m)
 |x::l,0,m,a,h,hi=>by
  have e:x=m:=by simpa using hi
  subst e
  have h2:=(List.nodup_cons.1 h).1
  show a∈l↔_
  constructor
  ·exact fun ha=>⟨List.mem_cons_of_mem _ ha,fun e=>h2 (e▸ha)⟩
  ·exact fun⟨ha,hn⟩=>(List.mem_cons.1 ha).resolve_left hn
 |x::l,i+1,m,a,h,hi=>by
  have h2:=List.nodup_cons.1 h
  have hi2:l[i]?=some m:=by simpa using hi
  have ih:=zfG (a:=a) h2.2 hi2
  have hxm:x≠m:=fun e=>h2.1 (e▸List.mem_of_getElem? hi2)
  show a∈x::l.eraseIdx i↔_
  rw[List.mem_cons,List.mem_cons,ih]
  constructor
  ·rintro(e|⟨h3,h4⟩)
   ·exact⟨.inl e,e▸hxm⟩
   ·exact⟨.inr h3,h4⟩
  ·rintro⟨e|h3,h4⟩
   ·exact .inl e
   ·exact .inr ⟨h3,h4⟩
theorem zgd:∀ {l:List Nat} {i:Nat},l.Nodup→(l.eraseIdx i).Nodup
 |[],_,h=>h
 |x::l,0,h=>(List.nodup_cons.1 h).2
 |x::l,i+1,h=>List.nodup_cons.2 ⟨fun hm=>(List.nodup_cons.1 h).1 (List.mem_of_mem_eraseIdx hm),zgd (List.nodup_cons.1 h).2⟩
theorem zkW:∀ {l:List Nat} {m:Nat},m∈l→l[l.idxOf m]?=some m
 |x::l,m,h=>by
  by_cases e:x=m
  ·subst e;rw[List.idxOf_cons_self];rfl
  ·have h2:=(List.mem_cons.1 h).resolve_left (fun h=>e h.symm)
   have e2:(x::l).idxOf m=l.idxOf m+1:=by
    have e3:(x == m)=false:=by simpa using e
    simp[List.idxOf,List.findIdx_cons,e3]
   rw[e2,List.getElem?_cons_succ]
   exact zkW h2
namespace HI
variable {N:Nat}{H:HS}{fl rl pd:List Nat}{R:Nat→Nat→Prop}{P:Nat→Nat→List Nat}{B:Nat→Nat→List UInt8}{m s:Nat}
theorem addC{c b:List UInt8}{l:List Nat}(h:HI N H fl rl R P B l)(hm:m∈rl)(hc:(H.S m).slots[s]?=some (some c))(hl:CellIs H c b l)(hnr:¬R m s):HI N H fl rl (zii R m s) (up2 P m s l) (up2 B m s b) []:=by
 refine⟨h.ok,h.rk,fun a b hab=>?_,fun a b a' b' n h1 h2 h3 h4=>?_,fun n hn=>(by cases hn),h.c0,h.c1,fun n h1 h2 h3=>?_⟩
 ·by_cases e:a=m∧b=s
  ·rw[e.1,e.2,ze7,ze7];exact⟨hm,c,hc,hl⟩
  ·rw[zgc e,zgc e]
   exact h.cell a b (hab.resolve_right e)
 ·by_cases e:a=m∧b=s
  ·by_cases e':a'=m∧b'=s
   ·exact⟨e.1.trans e'.1.symm,e.2.trans e'.2.symm⟩
   ·rw[e.1,e.2,ze7]at h3
    rw[zgc e']at h4
    exact absurd h4 ((h.pk n h3).2.2.2 a' b' (h2.resolve_right e'))
  ·by_cases e':a'=m∧b'=s
   ·rw[e'.1,e'.2,ze7]at h4
    rw[zgc e]at h3
    exact absurd h3 ((h.pk n h4).2.2.2 a b (h1.resolve_right e))
   ·rw[zgc e]at h3
    rw[zgc e']at h4
    exact h.ap a b a' b' n (h1.resolve_right e) (h2.resolve_right e') h3 h4
 ·rcases h.c2 n h1 h2 h3 with h4|⟨a,b',h4,h5⟩
  ·exact .inr ⟨m,s, .inr ⟨rfl,rfl⟩,by rw[ze7];exact h4⟩
  ·have e:¬(a=m∧b'=s):=fun e=>hnr (e.1▸e.2▸h4)
   exact .inr ⟨a,b', .inl h4,by rw[zgc e];exact h5⟩
theorem zkX{S:Nat→View}{i out n:Nat}(hi:rl[i]?=some out)(hn:n∉rl):zdI S rl i out n=S n:=by
 have hil:=(List.getElem?_eq_some_iff.1 hi).1
 unfold zdI
 split
 ·rfl
 ·refine za9 fun e=>hn ?_
  rw[e,List.getD_eq_getElem?_getD,List.getElem?_eq_getElem (show i - 1<rl.length by omega)]
  exact List.getElem_mem _
theorem unl(h:HI N H fl rl R P B pd)(hN:N≤2048){i:Nat}(hi:rl[i]?=some m)(hno:∀ s,¬R m s):HI N (zcE (zjz H rl i m) m) (m::fl) (rl.eraseIdx i) R P B pd:=by
 have hm:=List.mem_of_getElem? hi
 have hma:=h.rk.at_ m hm
 have hmn:=h.rk.ni h.ok hm
 have hmem:∀ a,a∈rl.eraseIdx i↔a∈rl∧a≠m:=fun a=>zfG h.rk.nd hi
 have hS:∀ n,n≠m→(zcE (zjz H rl i m) m).S n=zdI H.S rl i m n:=fun n hn=>za9 hn
 have hSm:(zcE (zjz H rl i m) m).S m=zd9 (zjz H rl i m).F:=zaT ..
 have hkd:∀ n,n≠m→((zcE (zjz H rl i m) m).S n).kind=(H.S n).kind∧((zcE (zjz H rl i m) m).S n).slots=(H.S n).slots:=fun n hn=>by rw[hS n hn];exact zgb ..
 have hno2:∀ n,n∉rl→(zcE (zjz H rl i m) m).S n=H.S n:=fun n hn=>by rw[hS n fun e=>hn (e▸hm)];exact zkX hi hn
 refine⟨(zpm h.ok h.rk hi hN).back hN hma.1 hma.2.1 hmn,⟨?_,fun a ha=>?_,zgd h.rk.nd⟩,fun a b hab=>?_,h.ap,fun n hn=>?_,fun n h1 h2 h3=>?_,fun n h1 h2 h3=>?_,fun n h1 h2 h3=>?_⟩
 ·exact(zcl.skip h.rk.ch h.rk.nd hi).set fun hm2=>((hmem m).1 hm2).2 rfl
 ·have h2:=(hmem a).1 ha
  have h3:=h.rk.at_ a h2.1
  exact⟨h3.1,h3.2.1,(hkd a h2.2).1.trans h3.2.2⟩
 ·obtain⟨h1,c,h2,h3⟩:=h.cell a b hab
  have hne:a≠m:=fun e=>hno b (e▸hab)
  exact⟨(hmem a).2 ⟨h1,hne⟩,c,by rw[(hkd a hne).2];exact h2,h3.frame (Nat.le_refl _) fun n hn=>hno2 n (h.pni hab n hn).2⟩
 ·obtain⟨h1,h2,h3,h4⟩:=h.pk n hn
  refine⟨h1,h2,?_,h4⟩
  rw[hno2 n fun hr=>by have:=(h.rk.at_ n hr).2.2;omega];exact h3
 ·by_cases e:n=m
  ·simp[e]
  ·rw[(hkd n e).1]at h3
   simp[h.c0 n h1 h2 h3]
 ·by_cases e:n=m
  ·rw[e,hSm]at h3;cases h3
  ·rw[(hkd n e).1]at h3
   exact(hmem n).2 ⟨h.c1 n h1 h2 h3,e⟩
 ·by_cases e:n=m
  ·rw[e,hSm]at h3;cases h3
  ·rw[(hkd n e).1]at h3
   exact h.c2 n h1 h2 h3
theorem parts(h:HI N H fl rl R P B [])(hN:N≤2048){b:List UInt8}{x:Nat}{H':HS}(hb1:400≤b.length)(hb2:b.length≤20000)(he:zcf N b ((b.length+399) / 400) 0 H=some (x,H')):
  ∃ l fl',HI N H' fl' rl R P B l∧zfi H' x l b∧x<2048∧(∀ m∈rl,H'.S m=H.S m)∧H.F.fresh≤H'.F.fresh∧H'.F.root=H.F.root∧∀ n,n<H.F.fresh→(H.S n).kind=3→H'.S n=H.S n:=by
 obtain⟨l,fl',r1,r2,r3,r4,r5,r6,r7,r8,r9,r10,r11,_⟩:=zhR hN h.ok (l:=[]) (nx:=0) ⟨rfl,fun m hm=>(by cases hm),fun j m hm=>(by simp at hm),List.nodup_nil⟩ ae (fun m hm=>by cases hm) he
 have hpx:zfi H' x l b:=⟨r2.ch,r2.at_,fun i m hm=>by rw[r2.sl i m hm,Nat.zero_add],r2.nd,hb1,hb2,by rw[r4];rfl⟩
 have hx:x<2048:=by
  cases hl:l with
  |nil=>rw[hl]at r4;simp at r4;omega
  |cons m t=>
   have hch:=r2.ch
   rw[hl]at hch
   have:=(r2.at_ m (by rw[hl];simp)).2.1
   have:=r1.fN
   rw[hch.1];omega
 have hrl:∀ m∈rl,H'.S m=H.S m:=fun m hm=>r6 m (h.rk.ni h.ok hm) (h.rk.at_ m hm).2.1
 have hpl:∀ a b,R a b→∀ n∈P a b,H'.S n=H.S n∧n∉l:=fun a b hab n hn=>by
  have h1:=((h.pat hab).2 n hn)
  have h2:=(h.pni hab n hn).1
  refine⟨r6 n h2 h1.2.1,fun hm=>?_⟩
  rcases r10 n hm with e|e|e
  ·cases e
  ·exact h2 e
  ·omega
 have hsame:∀ n,1≤n→n<H'.F.fresh→n∉l→n∉fl'→n<H.F.fresh∧H'.S n=H.S n:=fun n h1 h2 h3 h4=>by
  rcases r11 n h2 with e|e|⟨e1,e2⟩
  ·exact absurd e h3
  ·exact absurd e h4
  ·exact⟨e2,r6 n e1 e2⟩
 refine⟨l,fl',⟨r1,h.rk.frame r7 r8 hrl,fun a b hab=>?_,h.ap,fun n hn=>?_,fun n h1 h2 h3=>?_,fun n h1 h2 h3=>?_,fun n h1 h2 h3=>?_⟩,hpx,hx,hrl,r7,r9,fun n h1 h2=>r6 n (fun hf=>by have:=(h.ok.fk n hf).2.2;omega) h1⟩
 ·obtain⟨h1,c,h2,h3⟩:=h.cell a b hab
  exact⟨h1,c,by rw[hrl a h1];exact h2,h3.frame r7 fun n hn=>(hpl a b hab n hn).1⟩
 ·have:=r2.at_ n hn
  exact⟨this.1,this.2.1,this.2.2,fun a b hab hp=>(hpl a b hab n hp).2 hn⟩
 ·by_cases hl:n∈l
  ·have:=(r2.at_ n hl).2.2;omega
  ·by_cases hf:n∈fl'
   ·exact hf
   ·obtain⟨e1,e2⟩:=hsame n h1 h2 hl hf
    rw[e2]at h3
    rcases r11 n h2 with e|e|⟨e,_⟩
    ·exact absurd e hl
    ·exact e
    ·exact absurd (h.c0 n h1 e1 h3) e
 ·by_cases hl:n∈l
  ·have:=(r2.at_ n hl).2.2;omega
  ·by_cases hf:n∈fl'
   ·have:=(r1.fk n hf).2.2;omega
   ·obtain⟨e1,e2⟩:=hsame n h1 h2 hl hf
    rw[e2]at h3
    exact h.c1 n h1 e1 h3
 ·by_cases hl:n∈l
  ·exact .inl hl
  ·by_cases hf:n∈fl'
   ·have:=(r1.fk n hf).2.2;omega
   ·obtain⟨e1,e2⟩:=hsame n h1 h2 hl hf
    rw[e2]at h3
    rcases h.c2 n h1 e1 h3 with h4|⟨a,b',h4,h5⟩
    ·cases h4
    ·exact .inr ⟨a,b',h4,h5⟩
theorem zlN(h:HI N H fl rl R P B [])(hN:N≤2048){b c:List UInt8}{H':HS}(hb2:b.length≤20000)(he:cellS N b H=some (c,H')):
  ∃ l fl',HI N H' fl' rl R P B l∧CellIs H' c b l∧(∀ m∈rl,H'.S m=H.S m)∧H.F.fresh≤H'.F.fresh∧H'.F.root=H.F.root∧∀ n,n<H.F.fresh→(H.S n).kind=3→H'.S n=H.S n:=by
 unfold cellS at he
 split at he
 ·rename_i hb
  cases he
  exact⟨[],fl,h, .inl ⟨hb,rfl,rfl⟩,fun _ _=>rfl,Nat.le_refl _,rfl,fun _ _ _=>rfl⟩
 ·split at he
  ·cases he
  ·rename_i hb _ x H1 hx
   cases he
   obtain⟨l,fl',h1,h2,h3,h4,h5,h6,h7⟩:=h.parts hN ae hb2 hx
   exact⟨l,fl',h1, .inr ⟨x,h3,rfl,h2⟩,h4,h5,h6,h7⟩
theorem _root_.Go.Proofs.YtdbogkndglbffaaGreat.CellIs.len{H:HS}{c b:List UInt8}{l:List Nat}(h:CellIs H c b l):1≤c.length∧c.length≤400:=by
 rcases h with⟨h1,rfl,_⟩|⟨x,_,rfl,_⟩
 ·rw[List.length_cons];omega
 ·rw[List.length_cons,List.length_append,zaV,zaV];omega
theorem gave(h:HI N H fl rl R P B pd){kind n:Nat}{H1:HS}{fl1:List Nat}(hg:zfh N H fl kind n H1 fl1){U:View}(hU:Good U)(rl':List Nat)(hcase:(rl'=rl∧U.kind=3)∨(rl'=n::rl∧U.kind=1∧U.next=H.F.records)):
  HI N ⟨⟨H1.F.fresh,H1.F.free,H1.F.many,if U.kind=3 then H1.F.records else n,H1.F.root⟩,zbb H1.S n U⟩ fl1 rl' R P B pd:=by
 have hnrl:n∉rl:=fun hm=>by
  rcases hg.was with e|e
  ·exact h.rk.ni h.ok hm e
  ·have:=(h.rk.at_ n hm).2.1;omega
 have hnpd:n∉pd:=fun hm=>by
  have hp:=h.pk n hm
  rcases hg.was with e|e
  ·have:=(h.ok.fk n e).2.2;omega
  ·omega
 have hnP:∀ a b,R a b→n∉P a b:=fun a b hab hm=>by
  rcases hg.was with e|e
  ·exact(h.pni hab n hm).1 e
  ·have:=((h.pat hab).2 n hm).2.1;omega
 have hS:∀ i,i≠n→zbb H1.S n U i=H.S i:=fun i hi=>by rw[za9 hi];exact hg.old i hi
 have hUk:U.kind=3∨U.kind=1:=by rcases hcase with⟨_,e⟩|⟨_,e,_⟩<;>simp[e]
 have hch:zcl (zbb H1.S n U) H.F.records rl:=h.rk.ch.frame fun m hm=>hS m fun e=>hnrl (e▸hm)
 have hold:∀ i,1≤i→i<H1.F.fresh→i≠n→i<H.F.fresh:=fun i h1 h2 h3=>by rcases hg.fre with e|⟨e,e2⟩<;>omega
 have hok1:=hg.ok.set hg.ni hU
 refine⟨⟨hok1.f1,hok1.fN,hok1.gd,hok1.ch,hok1.fk,hok1.nd,hok1.fm,?_,hok1.rt⟩,⟨?_,fun m hm=>?_,?_⟩,fun a b hab=>?_,h.ap,fun i hi=>?_,fun i h1 h2 h3=>?_,fun i h1 h2 h3=>?_,fun i h1 h2 h3=>?_⟩
 ·show(if U.kind=3 then H1.F.records else n)<H1.F.fresh
  split
  ·exact hg.ok.rc
  ·exact hg.nf
 ·show zcl (zbb H1.S n U) (if U.kind=3 then H1.F.records else n) rl'
  rcases hcase with⟨e,e2⟩|⟨e,e2,e3⟩
  ·rw[e,if_pos e2,hg.rec_];exact hch
  ·rw[e,if_neg ae]
   refine⟨rfl,by have:=hg.n1;omega,?_⟩
   rw[zaT,e3];exact hch
 ·show 1≤m∧m<H1.F.fresh∧(zbb H1.S n U m).kind=1
  have hm2:m=n∧U.kind=1∨m∈rl:=by
   rcases hcase with⟨e,e2⟩|⟨e,e2,_⟩
   ·rw[e]at hm;exact .inr hm
   ·rw[e]at hm;exact(List.mem_cons.1 hm).imp (fun e=>⟨e,e2⟩) id
  rcases hm2 with⟨e,e2⟩|hm2
  ·rw[e,zaT];exact⟨hg.n1,hg.nf,e2⟩
  ·have h3:=h.rk.at_ m hm2
   rw[hS m fun e=>hnrl (e▸hm2)]
   exact⟨h3.1,Nat.lt_of_lt_of_le h3.2.1 hg.grow,h3.2.2⟩
 ·rcases hcase with⟨e,_⟩|⟨e,_,_⟩
  ·rw[e];exact h.rk.nd
  ·rw[e];exact List.nodup_cons.2 ⟨hnrl,h.rk.nd⟩
 ·obtain⟨h1,c,h2,h3⟩:=h.cell a b hab
  refine⟨by rcases hcase with⟨e,_⟩|⟨e,_,_⟩<;>simp[e,h1],c,?_,h3.frame hg.grow fun i hi=>hS i fun e=>hnP a b hab (e▸hi)⟩
  show(zbb H1.S n U a).slots[b]?=_
  rw[hS a fun e=>hnrl (e▸h1)];exact h2
 ·obtain⟨h1,h2,h3,h4⟩:=h.pk i hi
  refine⟨h1,Nat.lt_of_lt_of_le h2 hg.grow,?_,h4⟩
  show(zbb H1.S n U i).kind=2
  rw[hS i fun e=>hnpd (e▸hi)];exact h3
 ·have h4:(zbb H1.S n U i).kind=0:=h3
  by_cases e:i=n
  ·rw[e,zaT]at h4;omega
  ·rw[hS i e]at h4
   rcases hg.cov i (h.c0 i h1 (hold i h1 h2 e) h4)with e2|e2
   ·exact absurd e2 e
   ·exact e2
 ·have h4:(zbb H1.S n U i).kind=1:=h3
  by_cases e:i=n
  ·rw[e,zaT]at h4
   rcases hcase with⟨_,e2⟩|⟨e2,_,_⟩
   ·omega
   ·rw[e2,e];simp
  ·rw[hS i e]at h4
   have h5:=h.c1 i h1 (hold i h1 h2 e) h4
   rcases hcase with⟨e2,_⟩|⟨e2,_,_⟩<;>simp[e2,h5]
 ·have h4:(zbb H1.S n U i).kind=2:=h3
  by_cases e:i=n
  ·rw[e,zaT]at h4;omega
  ·rw[hS i e]at h4
   exact h.c2 i h1 (hold i h1 h2 e) h4
theorem back(h:HI N H fl rl R P B pd)(hN:N≤2048){n:Nat}(h1:1≤n)(h2:n<H.F.fresh)(hk:(H.S n).kind=3):HI N (zcE H n) (n::fl) rl R P B pd:=by
 have hnf:n∉fl:=fun hf=>by have:=(h.ok.fk n hf).2.2;omega
 have hnr:n∉rl:=fun hf=>by have:=(h.rk.at_ n hf).2.2;omega
 have hnP:∀ a b,R a b→n∉P a b:=fun a b hab hm=>by have:=((h.pat hab).2 n hm).2.2;omega
 have hS:∀ i,i≠n→(zcE H n).S i=H.S i:=fun i hi=>za9 hi
 have hSn:(zcE H n).S n=zd9 H.F:=zaT ..
 refine⟨h.ok.back hN h1 h2 hnf,h.rk.frame (Nat.le_refl _) rfl fun m hm=>hS m fun e=>hnr (e▸hm),fun a b hab=>?_,h.ap,fun i hi=>?_,fun i h1 h2 h3=>?_,fun i h1 h2 h3=>?_,fun i h1 h2 h3=>?_⟩
 ·obtain⟨h3,c,h4,h5⟩:=h.cell a b hab
  exact⟨h3,c,by rw[hS a fun e=>hnr (e▸h3)];exact h4,h5.frame (Nat.le_refl _) fun i hi=>hS i fun e=>hnP a b hab (e▸hi)⟩
 ·obtain⟨h3,h4,h5,h6⟩:=h.pk i hi
  refine⟨h3,h4,?_,h6⟩
  rw[hS i fun e=>by rw[e]at h5;omega];exact h5
 ·by_cases e:i=n
  ·simp[e]
  ·rw[hS i e]at h3
   simp[h.c0 i h1 h2 h3]
 ·by_cases e:i=n
  ·rw[e,hSn]at h3;cases h3
  ·rw[hS i e]at h3;exact h.c1 i h1 h2 h3
 ·by_cases e:i=n
  ·rw[e,hSn]at h3;cases h3
  ·rw[hS i e]at h3;exact h.c2 i h1 h2 h3
end HI
def zeo(H:HS)(rl p:List Nat)(m s:Nat):HS:=
 if(wtV (H.S m) s).slots.length=0 then zcE (zjz ⟨(zbt H p).F,zbb (zbt H p).S m (wtV (H.S m) s)⟩ rl (rl.idxOf m) m) m else⟨(zbt H p).F,zbb (zbt H p).S m (wtV (H.S m) s)⟩
def znA(H:HS)(rl:List Nat)(m s:Nat):List Nat:=if(wtV (H.S m) s).slots.length=0 then rl.eraseIdx (rl.idxOf m)else rl
def zlO(H:HS)(fl p:List Nat)(m s:Nat):List Nat:=if(wtV (H.S m) s).slots.length=0 then m::(p.reverse++fl)else p.reverse++fl
namespace HI
variable {N:Nat}{H:HS}{fl rl pd:List Nat}{R:Nat→Nat→Prop}{P:Nat→Nat→List Nat}{B:Nat→Nat→List UInt8}{m s:Nat}
theorem same(h:HI N H fl rl R P B pd)(hr:R m s):(zbt H (P m s)).S m=H.S m:=zbG fun hm=>(h.pni hr m hm).2 (h.cell m s hr).1
theorem wt(h:HI N H fl rl R P B pd)(hN:N≤2048)(hr:R m s):HI N ⟨(zbt H (P m s)).F,zbb (zbt H (P m s)).S m (wtV (H.S m) s)⟩ ((P m s).reverse++fl) rl (zgA R m s) P B pd:=by
 obtain⟨hm,c,hc,_⟩:=h.cell m s hr
 have hma:=h.rk.at_ m hm
 have hsm:=h.same hr
 exact(h.drop hN hr).zjH hm (zmJ (h.ok.gd m hma.1 hma.2.1) s) hma.2.2 (by rw[hsm];rfl) fun s' c' hr' hs'=>wtV_at.2 ⟨fun e=>hr'.2 ⟨rfl,e⟩,by rw[hsm]at hs';exact hs'⟩
theorem take(h:HI N H fl rl R P B pd)(hN:N≤2048)(hF:Full H rl R)(hr:R m s):HI N (zeo H rl (P m s) m s) (zlO H fl (P m s) m s) (znA H rl m s) (zgA R m s) P B pd∧Full (zeo H rl (P m s) m s) (znA H rl m s) (zgA R m s):=by
 have hw:=h.wt hN hr
 have hm:=(h.cell m s hr).1
 have hS:∀ a,a∈rl→a≠m→zbb (zbt H (P m s)).S m (wtV (H.S m) s) a=H.S a:=fun a ha hne=>by
  rw[za9 hne]
  exact zbG fun hx=>(h.pni hr a hx).2 ha
 unfold zeo znA zlO
 by_cases hl:(wtV (H.S m) s).slots.length=0
 ·rw[if_pos hl,if_pos hl,if_pos hl]
  have hno:∀ s',¬zgA R m s m s':=fun s' hrs=>by
   obtain⟨_,c,hc,_⟩:=hw.cell m s' hrs
   have hc2:(zbb (zbt H (P m s)).S m (wtV (H.S m) s) m).slots[s']?=some (some c):=hc
   rw[zaT,List.eq_nil_of_length_eq_zero hl]at hc2
   simp at hc2
  refine⟨hw.unl hN (zkW hm) hno,fun a ha=>?_⟩
  have ha2:=(zfG h.rk.nd (zkW hm)).1 ha
  have e:((zcE (zjz ⟨(zbt H (P m s)).F,zbb (zbt H (P m s)).S m (wtV (H.S m) s)⟩ rl (rl.idxOf m) m) m).S a).slots=(H.S a).slots:=by
   show(zbb _ m _ a).slots=_
   rw[za9 ha2.2]
   show(zdI _ rl _ m a).slots=_
   rw[(zgb ..).2]
   show(zbb _ m _ a).slots=_
   rw[hS a ha2.1 ha2.2]
  rw[e]
  exact⟨(hF a ha2.1).1,fun s' c' hs'=>⟨(hF a ha2.1).2 s' c' hs',fun e=>ha2.2 e.1⟩⟩
 ·rw[if_neg hl,if_neg hl,if_neg hl]
  refine⟨hw,fun a ha=>?_⟩
  show(zbb (zbt H (P m s)).S m (wtV (H.S m) s) a).slots≠[]∧∀ s' c',(zbb (zbt H (P m s)).S m (wtV (H.S m) s) a).slots[s']?=some (some c')→_
  by_cases e:a=m
  ·rw[e,zaT]
   exact⟨fun h=>hl (by rw[h];rfl),fun s' c' hs'=>by
    have h2:=wtV_at.1 hs'
    exact⟨(hF m hm).2 s' c' h2.2,fun e=>h2.1 e.2⟩⟩
  ·rw[hS a ha e]
   exact⟨(hF a ha).1,fun s' c' hs'=>⟨(hF a ha).2 s' c' hs',fun e2=>e e2.1⟩⟩
end HI
theorem getR_at{S:List (Option (List UInt8))}{i:Nat}{r:List UInt8}(h:S[i]?=some (some r)):ziu S (i:Int)=r:=by
 unfold ziu
 rw[zft h,if_pos rfl,Int.toNat_natCast,List.getD_eq_getElem?_getD,h];rfl
section
variable {Y:World→List Nat→Prop}[hYT:Thing Y]{q jb mw N lo:Nat}{L:List Nat}{G0 V:Nat→Pg}{k:Nat}{H:HS}{fl rl pd:List Nat}{R:Nat→Nat→Prop}{P:Nat→Nat→List Nat}{B:Nat→Nat→List UInt8}{m s:Nat}{w:World}
theorem findR(h:JH q jb mw N G0 V k H fl Y lo L w)(hI:HI N H fl rl R P B pd)(hr:R m s){c:List UInt8}(hc:(H.S m).slots[s]?=some (some c))(hc1:1≤c.length):
  Calls Tryz.prog 42 [.pointer (some ⟨jb,0,none⟩), .agg #[.int .i64 (m:Int), .int .i64 (s:Int)]].toArray w (Ret fun v w'=>∃ qa cc,v= .slice qa c.length cc∧zaS w' qa c.length 1 (bv c)∧c.length≤cc∧JH q jb mw N G0 V k H fl Y lo (oB qa++L) w'∧LoL lo L w w'):=by
 obtain⟨hH,G,hG,hT⟩:=h
 have hma:=hI.rk.at_ m (hI.cell m s hr).1
 have hg:=getR_at hc
 have h2:=findC hT m (s:Int) hma.1 hma.2.1 hH.fN (hH.isV hG hma.1 hma.2.1) (zft hc) hma.2.2 (by rw[hg];omega)
 rw[hg]at h2
 exact h2.to fun v w' ⟨qa,cc,h3,h4,h5,h6,h7⟩=>⟨qa,cc,h3,h4,h5,⟨hH,G,hG,h6⟩,h7⟩
theorem dropH(h:JH q jb mw N G0 V k H fl Y lo L w)(hI:HI N H fl rl R P B pd)(hr:R m s){c:List UInt8}(hc:(H.S m).slots[s]?=some (some c))(hcl:CellIs H c (B m s) (P m s))(p:Option Addr)(cap:Nat)(hs:zaS w p c.length 1 (bv c))(hcap:c.length≤cap):
  Calls Tryz.prog 46 [.pointer (some ⟨jb,0,none⟩), .slice p c.length cap].toArray w (Ret fun _ w'=>JH q jb mw N G0 V k (zbt H (P m s)) ((P m s).reverse++fl) Y lo L w'∧LoL lo L w w'):=by
 have hN:=h.n48.1
 have hok:=(hI.drop hN hr).ok
 obtain⟨hH,G,hG,hT⟩:=h
 have hfr:=hH.zqJ
 have hfN:=hH.fN
 have hmN:=hok.many
 rw[zdc.2.2.2,zdc.1]at hmN
 rcases hcl with⟨h1,h2,h3⟩|⟨x,h0,h1,h2⟩
 ·rw[h3]at hok ⊢
  subst h2
  exact(dropS hT p cap (B m s) bI (by simpa using hcap) ae).to fun v w' ⟨h4,h5⟩=>⟨⟨hok,G,hG,h4⟩,h5⟩
 ·subst h1
  have hb:=backs_S (l:=P m s) hG fun n hn=>⟨((hI.pat hr).2 n hn).1,((hI.pat hr).2 n hn).2.1⟩
  have e9:(1::(beB 4 (B m s).length++beB 4 x)).length=9:=by rw[List.length_cons,List.length_append,zaV,zaV]
  rw[e9]at hs hcap ⊢
  refine(dropL hT hfN (h2.ok hH hG) p cap hs hcap ae ae).to fun v w' ⟨h4,h5⟩=>⟨⟨hok,_,hb.2,?_⟩,h5⟩
  rw[hb.1]at h4
  exact h4
set_option maxRecDepth 20000 in
set_option maxHeartbeats 1000000 in
theorem takeH(h:JH q jb mw N G0 V k H fl Y lo L w)(hI:HI N H fl rl R P B pd)(hF:Full H rl R)(hr:R m s):
   Calls Tryz.prog 45 [.pointer (some ⟨jb,0,none⟩), .agg #[.int .i64 (m:Int), .int .i64 (s:Int)]].toArray w (Ret fun _ w'=>JH q jb mw N G0 V k (zeo H rl (P m s) m s) (zlO H fl (P m s) m s) Y lo L w'∧LoL lo L w w'):=by
 have hN:=h.n48.1
 obtain⟨hm,c,hc,hcl⟩:=hI.cell m s hr
 have hcn:=hcl.len
 have hma:=hI.rk.at_ m hm
 have hwt:=hI.wt hN hr
 have hsm:=hI.same hr
 have hgU:=h.ok.gd m hma.1 hma.2.1
 have hfN:=h.ok.fN
 have hdf:=(zdc (l:=P m s) (H:=H)).1
 have hfi:=fun L' w' (h':JH q jb mw N G0 V k H fl Y lo L' w')=>findR h' hI hr hc hcn.1
 have hdr:=fun p cap L' w' (h':JH q jb mw N G0 V k H fl Y lo L' w') hs hcap=>dropH h' hI hr hc hcl p cap hs hcap
 have hget:=fun L' w' (h':JH q jb mw N G0 V k (zbt H (P m s)) ((P m s).reverse++fl) Y lo L' w')=>getH h' m hma.1 (by rw[hdf];exact hma.2.1)
 rw[hsm]at hget
 have htk:=fun w'=>take11 (H.S m) (s:Int) w' hgU
 rw[zp7,zft hc,if_pos rfl,if_pos rfl,Int.toNat_natCast]at htk
 have hgT:=zmJ hgU s
 have hset:=fun L' w' (h':JH q jb mw N G0 V k (zbt H (P m s)) ((P m s).reverse++fl) Y lo L' w')=>setH h' m hma.1 (by rw[hdf];exact hma.2.1) ((hI.drop hN hr).rk.ni (hI.drop hN hr).ok hm) hgT
 have hsl:=fun w'=>zoi (wtV (H.S m) s) w' hgT
 have hPl:=zaR hgT
 have hQl:=zaR hgU
 have hun:=fun L' w' (h':JH q jb mw N G0 V k ⟨(zbt H (P m s)).F,zbb (zbt H (P m s)).S m (wtV (H.S m) s)⟩ ((P m s).reverse++fl) Y lo L' w')=>unlinkH h' hwt.rk (zkW hm)
 unfold zeo zlO
 obtain⟨H1,hH1⟩:∃ H1,zbt H (P m s)=H1:=⟨_,rfl⟩
 obtain⟨fl1,hfl1⟩:∃ fl1,(P m s).reverse++fl=fl1:=⟨_,rfl⟩
 obtain⟨U1,hU1⟩:∃ U1,wtV (H.S m) s=U1:=⟨_,rfl⟩
 simp only[hH1,hfl1,hU1]at hdr hget htk hset hsl hPl hun ⊢
 obtain⟨PU,hPU⟩:∃ PU,zay U1=PU:=⟨_,rfl⟩
 obtain⟨Q,hQ⟩:∃ Q,zay (H.S m)=Q:=⟨_,rfl⟩
 simp only[hPU,hQ]at hget htk hset hsl hPl hQl
 obtain⟨sl,hsle⟩:∃ sl,U1.slots.length=sl:=⟨_,rfl⟩
 simp only[hsle]at hsl ⊢
 have hLL:=LoL.refl lo L w
 refine zax (fn:=Tryz.f45) (rs:=[]) (n:=35) Tryz.func45 rfl rfl Tryz.ntmps45 aa rfl (zah (zaa (zaD rfl (za4 ([.int .i64 (m:Int), .int .i64 (s:Int)]) rfl (fun g3 w3 hg3 hr3 hb3=>?_)))))
 have sz_g3:=hLL.size
 replace h:=h.newc hb3 hg3 hr3.lt
 replace hLL:=hLL.new hb3
 refine zae (zaf (zah (zaa (zad (zab) (zad (zab) (zad (zaG rfl (Ld.zb9 (k:=2) hr3 aa aa rfl)) (zao rfl (zaj aa rfl) (hfi _ w3 h) ?_)))))))
 rintro _ w9 ⟨qa,cc,rfl,hsq,hcc,hJ2,hb9⟩
 replace hLL:=hLL.lq hb9
 replace hr3:=hr3.kl hb9
 refine zao rfl (zaj aa rfl) (hdr _ _ _ w9 hJ2 hsq hcc) ?_
 rintro _ w10 ⟨hJ2,hb10⟩
 have hLL:=hLL.ll hb10 (fun x hx=>by simp[hx])
 have hr3:=hr3.kpd hb10.kp (zam (.inr ay))
 have hJ2:=hJ2.weak (L2:=g3::L) (fun b hb=>by simp only[List.mem_cons,List.mem_append]at hb ⊢;rcases hb with h|h<;>simp[h])
 refine zae (zaf (zgQ (α:=Nat) (fun g4=>[(0, .pointer (some ⟨jb,0,none⟩)),(3, .pointer (some ⟨g3,0,none⟩)),(4, .pointer (some ⟨g4,0,none⟩)),(5, .int .i64 0)]) (fun g4 w'=>row w' g4 (bv PU) 62∧JH q jb mw N G0 V k H1 fl1 Y lo (g4::g3::L) w'∧row w' g3 [.int .i64 (m:Int), .int .i64 (s:Int)] 38∧LoL lo L w w') ?_ ?_))
 ·
  refine zct (lo) ((g3::L)) aa ?_
  intro w901 hb901 hn901 hS901
  replace hLL:=hLL.new hb901
  replace hr3:=hr3.new hb901
  replace hJ2:=hJ2.new hb901
  have hLL_d901:=hLL
  have hr3_d901:=hr3
  have hJ2_d901:=hJ2
  refine zas 0 (zab) (zas 1 (zaw 0) (zbo 2 (fun w' hS'=>zau (hr3_d901.kL hS')) (zas 4 (zaw 1) (zbo 5 (fun w' hS'=>zau (hr3_d901.kL hS')) (zcA 3 10 aa ?_ ?_)))))
  ·
   refine zaU rfl rfl (zaj aa rfl) (hget _ w901 hJ2) ?_
   rintro _ w15 ⟨rfl,hJ2,hb15⟩
   have hS902:=hS901.zdh hn901 hb15.wk
   refine⟨hS902,?_⟩
   replace hLL:=hLL.lq hb15
   replace hr3:=hr3.kl hb15
   refine zcA 6 10 aa ?_ ?_
   ·
    refine zaU rfl rfl (zaj aa rfl) (htk w15) ?_
    rintro _ w18 ⟨rfl,hb18⟩
    have hS903:=hS902.add0 hb18
    refine⟨hS903,?_⟩
    replace hLL:=hLL.new hb18
    replace hr3:=hr3.new hb18
    replace hJ2:=hJ2.new hb18
    refine zas 7 (zab) (zas 8 (zai rfl rfl) (zas 9 (zai rfl rfl) (zaA 10 aa (zby rfl rfl (zar (List.replicate 512 (Value.int .u8 0)) aa (fun g4 w4 hg4 hr4 hb4=>?_))))))
    have hS904:=hS903.add0 hb4
    refine⟨hS904,?_⟩
    have ge_hS903_g4:=Nat.le_trans hS903.size hg4
    have lt_g3_g4:g3<g4:=Nat.lt_of_lt_of_le hr3.lt hg4
    replace hLL:=hLL.new hb4
    replace hr3:=hr3.new hb4
    replace hJ2:=hJ2.newc hb4 hg4 hr4.lt
    refine zaA 11 aa (zbB rfl rfl (zaQ 512 (bv PU) hr4 (fun w906 hr4 ho906=>?_)))
    have hS905:=hS904.add1 ho906 aj
    refine⟨hS905,?_⟩
    replace hLL:=hLL.oq ho906
    replace hr3:=hr3.only ho906 (Nat.ne_of_lt lt_g3_g4)
    replace hJ2:=hJ2.only ho906 ai
    refine zas 12 (zac) (zaI aa (za2 ⟨g4,⟨rfl,rfl,rfl,rfl,rfl⟩,hr4,hJ2.weak (fun b hb=>by simp only[List.mem_cons]at hb ⊢;rcases hb with h|h|h<;>simp[h]),hr3,hLL⟩))
   ·
    refine zby rfl rfl (zar (List.replicate 512 (Value.int .u8 0)) aa (fun g4 w4 hg4 hr4 hb4=>?_))
    have hS907:=hS902.add0 hb4
    refine⟨hS907,?_⟩
    have ge_hS902_g4:=Nat.le_trans hS902.size hg4
    have lt_g3_g4:g3<g4:=Nat.lt_of_lt_of_le hr3.lt hg4
    replace hLL:=hLL.new hb4
    replace hr3:=hr3.new hb4
    replace hJ2:=hJ2.newc hb4 hg4 hr4.lt
    refine zaA 6 aa (zaU rfl rfl (zaj aa rfl) (htk w4) ?_)
    rintro _ w18 ⟨rfl,hb18⟩
    have hS908:=hS907.add0 hb18
    refine⟨hS908,?_⟩
    replace hLL:=hLL.new hb18
    replace hr3:=hr3.new hb18
    replace hJ2:=hJ2.new hb18
    replace hr4:=hr4.new hb18
    refine zas 7 (zab) (zas 8 (zai rfl rfl) (zas 9 (zai rfl rfl) (zaA 11 aa (zbB rfl rfl (zaQ 512 (bv PU) hr4 (fun w910 hr4 ho910=>?_))))))
    have hS909:=hS908.add1 ho910 aj
    refine⟨hS909,?_⟩
    replace hLL:=hLL.oq ho910
    replace hr3:=hr3.only ho910 (Nat.ne_of_lt lt_g3_g4)
    replace hJ2:=hJ2.only ho910 ai
    refine zas 12 (zac) (zaI aa (za2 ⟨g4,⟨rfl,rfl,rfl,rfl,rfl⟩,hr4,hJ2.weak (fun b hb=>by simp only[List.mem_cons]at hb ⊢;rcases hb with h|h|h<;>simp[h]),hr3,hLL⟩))
  ·
   refine zby rfl rfl (zar (List.replicate 512 (Value.int .u8 0)) aa (fun g4 w4 hg4 hr4 hb4=>?_))
   have hS911:=hS901.add0 hb4
   refine⟨hS911,?_⟩
   have ge_hS901_g4:=Nat.le_trans hS901.size hg4
   have lt_g3_g4:g3<g4:=Nat.lt_of_lt_of_le hr3.lt hg4
   replace hLL:=hLL.new hb4
   replace hr3:=hr3.new hb4
   replace hJ2:=hJ2.newc hb4 hg4 hr4.lt
   refine zaA 3 aa (zaU rfl rfl (zaj aa rfl) (hget _ w4 hJ2) ?_)
   rintro _ w15 ⟨rfl,hJ2,hb15⟩
   have hS912:=hS911.zdh hn901 hb15.wk
   refine⟨hS912,?_⟩
   replace hLL:=hLL.lq hb15
   replace hr3:=hr3.kl hb15
   replace hr4:=hr4.kl hb15
   refine zaA 6 aa (zaU rfl rfl (zaj aa rfl) (htk w15) ?_)
   rintro _ w18 ⟨rfl,hb18⟩
   have hS913:=hS912.add0 hb18
   refine⟨hS913,?_⟩
   replace hLL:=hLL.new hb18
   replace hr3:=hr3.new hb18
   replace hJ2:=hJ2.new hb18
   replace hr4:=hr4.new hb18
   refine zas 7 (zab) (zas 8 (zai rfl rfl) (zas 9 (zai rfl rfl) (zaA 11 aa (zbB rfl rfl (zaQ 512 (bv PU) hr4 (fun w915 hr4 ho915=>?_))))))
   have hS914:=hS913.add1 ho915 aj
   refine⟨hS914,?_⟩
   replace hLL:=hLL.oq ho915
   replace hr3:=hr3.only ho915 (Nat.ne_of_lt lt_g3_g4)
   replace hJ2:=hJ2.only ho915 ai
   refine zas 12 (zac) (zaI aa (za2 ⟨g4,⟨rfl,rfl,rfl,rfl,rfl⟩,hr4,hJ2.weak (fun b hb=>by simp only[List.mem_cons]at hb ⊢;rcases hb with h|h|h<;>simp[h]),hr3,hLL⟩))
 ·
  rintro g4 f4 w4 ⟨hr4,hJ2,hr3,hLL⟩
  refine zah (zaa (zad (zab) (zao rfl (zaj aa rfl) (zif w4) ?_)))
  rintro _ _ ⟨rfl,rfl⟩
  refine zae (zaf (zah (zaa (zad (zab) (zad (zaw 0) (zad (zau hr3) (zad (za7 512 hr4) (zao rfl (zaj aa rfl) (hset _ w4 hJ2) ?_))))))))
  rintro _ w27 ⟨hJ3,hb27⟩
  replace hLL:=hLL.lq hb27
  replace hr3:=hr3.kl hb27
  replace hr4:=hr4.kl hb27
  refine zae (zaf (zah (zaa (zad (za7 512 hr4) (zao rfl (zaj aa rfl) (hsl w27) ?_)))))
  rintro _ w29 ⟨rfl,hb29⟩
  replace hLL:=hLL.new hb29
  replace hr3:=hr3.new hb29
  replace hr4:=hr4.new hb29
  replace hJ3:=hJ3.new hb29
  refine zad (za5 rfl rfl) (zae (zaf (za0 rfl (fun h0=>?_) (fun h0=>?_))))
  ·
   refine zaa (zad (zab) (zad (zaw 0) (zad (zau hr3) (zao rfl (zaj aa rfl) (hun _ w29 hJ3) ?_))))
   rintro _ w34 ⟨hJ4,hb34⟩
   replace hLL:=hLL.lq hb34
   replace hr3:=hr3.kl hb34
   replace hr4:=hr4.kl hb34
   refine cK ?_
   rw[if_pos ae,if_pos ae]
   exact⟨hJ4.weak (fun b hb=>by simp[hb]),hLL⟩
  ·
   refine zat (zbk [] trivial ?_)
   rw[if_neg ae,if_neg ae]
   exact⟨hJ3.weak (fun b hb=>by simp[hb]),hLL⟩
end
end Go.Proofs.YtdbogkndglbffaaGreat
namespace Coup
open Go Go.RowKit
section
variable {P:Program}{ρ:Env}{w:World}{d:Option Nat}{ty:TypeId}{pos:String}{af:Array Edge}{gd:Option (Nat × Bool)}
def zqL(P:Program):List Field→Nat→Bool
 |[],_=>true
 |f::fs,o=>(f.name != "_") && Nat.beq f.offset o && intT P f.type .i64 && zqL P fs (o+1)
theorem zge(dd:Nat)(A B:List Int)(w:World):∀ (fs:List Field) (o:Nat),zqL P fs o=true→o+fs.length=A.length→A.length=B.length→
  (Op.eqFields (dd+1) (iv A).toArray (iv B).toArray fs).run P w= .ok (decide (A.drop o=B.drop o)) w
 |[],o,_,h,hl=>by
  rw[List.drop_eq_nil_of_le (by simp at h;omega),List.drop_eq_nil_of_le (by simp at h;omega)]
  simp[Op.eqFields]
 |f::fs,o,hf,h,hl=>by
  simp only[zqL,Bool.and_eq_true,bne_iff_ne,ne_eq]at hf
  obtain⟨⟨⟨h1,h2⟩,h3⟩,h4⟩:=hf
  have e0:=Nat.eq_of_beq_eq_true h2
  have u0:=zgn h3
  have g0:(isAgg f.type).run P w= .ok false w:=by simp[isAgg,run_underlying u0]
  rw[List.length_cons]at h
  have p0:∀ (C:List Int) (hC:o<C.length),(part f.type (iv C).toArray f.offset).run P w= .ok (.int .i64 C[o]) w:=fun C hC=>by
   have e1:(iv C).toArray[o]?=some (.int .i64 C[o]):=by simp[iv,hC]
   simp[part,g0,e0,Result.andThen,iv,hC]
  have s0:=run_equalIn_int w dd f.type .i64 .i64 (A[o]'ae) (B[o]'ae) u0
  have ih:=zge dd A B w fs (o+1) h4 ae hl
  simp only[Op.eqFields,h1,ne_eq,not_false_eq_true,if_true,Sem.run_bind,p0 A ae,p0 B ae,Result.andThen_ok,s0]
  have dA:=List.drop_eq_getElem_cons (l:=A) (i:=o) ae
  have dB:=List.drop_eq_getElem_cons (l:=B) (i:=o) ae
  rw[dA,dB]
  clear s0 p0 dA dB
  generalize A[o]'ae=x
  generalize B[o]'ae=y
  by_cases he:x=y
  ·subst he
   simp only[beq_self_eq_true,Bool.not_true,Bool.false_eq_true,if_false,ih,List.cons.injEq,true_and]
  ·have:(x == y)=false:=by simpa using he
   simp[this,he]
def intsT(P:Program)(t n:Nat):Bool:=(match P.underlying t with|some (.struct fs)=>zqL P fs.toList 0 && Nat.beq fs.toList.length n|_=>false) && !P.eqGuardType P.depth t && !P.stoodInHeld t
theorem rn_neqI{t t' n:Nat}{x y:Operand}{A B:List Int}(ht:intsT P t n=true)(hx:ev ρ x= .agg (iv A).toArray)(hy:ev ρ y= .agg (iv B).toArray)(hA:A.length=n)(hB:B.length=n):
  (execOp (ev ρ) ⟨d, .binOp .neq t x y t',ty,pos,af,gd⟩).run P w= .ok (.value (.bool (!decide (A=B)))) w:=by
 unfold intsT at ht
 simp only[Bool.and_eq_true,Bool.not_eq_true']at ht
 obtain⟨⟨h1,h2⟩,h3⟩:=ht
 split at h1
 ·rename_i fs hu
  rw[Bool.and_eq_true]at h1
  have hf:P.fieldsOf t=fs:=by simp[Program.fieldsOf,hu]
  have g:=run_eqGuard_agg (P:=P) w .neq t x y (iv A).toArray (iv B).toArray h2
  have e:=zge 9998 A B w fs.toList 0 h1.1 (by have:=Nat.eq_of_beq_eq_true h1.2;omega) ae
  have s:=run_equalIn_struct (P:=P) (w:=w) 9999 t (iv A).toArray (iv B).toArray (by rw[hf];exact hu) h3
  rw[hf,show 9999=9998+1 from rfl,e]at s
  simp only[execOp,hx,hy,Sem.run_bind,g,Result.andThen_ok,run_neq_struct,show 10000=9998+1+1 from rfl,s]
  rfl
 ·cases h1
theorem znB{s t:Nat}{x:Operand}{v:Value}(ht:zeV P t=true)(hx:ev ρ x= .iface t v):(execOp (ev ρ) ⟨d, .typeAssert x s t true,ty,pos,af,gd⟩).run P w= .ok (.value (.tuple #[v, .bool true])) w:=by
 unfold zeV at ht
 cases hu:P.underlying t with
 |none=>simp[hu]at ht
 |some dd=>
  rw[hu]at ht
  simp only[execOp,hx,Instr.typeAssert,Sem.run_bind,run_underlying hu,Result.andThen_ok]
  cases dd<;>first |(simp at ht;done)|(simp[Result.andThen];done)
theorem znC{s t:Nat}{x:Operand}{z:Value}(ht:zeV P t=true)(hx:ev ρ x= .nilIface)(hz:∀ w,(zeroValue t).run P w= .ok z w):(execOp (ev ρ) ⟨d, .typeAssert x s t true,ty,pos,af,gd⟩).run P w= .ok (.value (.tuple #[z, .bool false])) w:=by
 unfold zeV at ht
 cases hu:P.underlying t with
 |none=>simp[hu]at ht
 |some dd=>
  rw[hu]at ht
  simp only[execOp,hx,Instr.typeAssert,Sem.run_bind,run_underlying hu,Result.andThen_ok]
  cases dd<;>first |(simp at ht;done)|(simp[Result.andThen,Sem.run_bind,hz];done)
theorem zhI {t i0 i1 i2:Nat} {x0 x1 x2:Operand} (v0 v1 v2:Value) (cs:List Value) (h0:ev ρ x0=v0) (h1:ev ρ x1=v1) (h2:ev ρ x2=v2)
  (hb:P.built t [(i0,v0),(i1,v1),(i2,v2)]=some cs.toArray):
  (execOp (ev ρ) ⟨d, .build t #[(i0,x0),(i1,x1),(i2,x2)],ty,pos,af,gd⟩).run P w= .ok (.value (.agg cs.toArray)) w:=by
 have:=run_build (P:=P) w t #[(i0,v0),(i1,v1),(i2,v2)] cs.toArray bn
 simp only[execOp,List.map_toArray,List.map_cons,List.map_nil,h0,h1,h2,Sem.run_bind,this,Result.andThen_ok]
 rfl
theorem zkY {t i0 i1 i2 i3 i4:Nat} {x0 x1 x2 x3 x4:Operand} (v0 v1 v2 v3 v4:Value) (cs:List Value) (h0:ev ρ x0=v0) (h1:ev ρ x1=v1) (h2:ev ρ x2=v2) (h3:ev ρ x3=v3) (h4:ev ρ x4=v4)
  (hb:P.built t [(i0,v0),(i1,v1),(i2,v2),(i3,v3),(i4,v4)]=some cs.toArray):
  (execOp (ev ρ) ⟨d, .build t #[(i0,x0),(i1,x1),(i2,x2),(i3,x3),(i4,x4)],ty,pos,af,gd⟩).run P w= .ok (.value (.agg cs.toArray)) w:=by
 have:=run_build (P:=P) w t #[(i0,v0),(i1,v1),(i2,v2),(i3,v3),(i4,v4)] cs.toArray bn
 simp only[execOp,List.map_toArray,List.map_cons,List.map_nil,h0,h1,h2,h3,h4,Sem.run_bind,this,Result.andThen_ok]
 rfl
def arrT1(P:Program)(t n e:Nat):Bool:=(match P.underlying t with|some (.array m e')=>Nat.beq m n && Nat.beq e' e|_=>false) && (match P.underlying e with|some (.int _)=>true|some (.pointer _)=>true|_=>false) && (match P.info? e with|some i=>Nat.beq i.size 1|none=>false)
theorem zhU{t n e:Nat}{x i:Operand}{cs:List Value}{k:IntKind}{a:Int}{v:Value}(ht:arrT1 P t n e=true)(hx:ev ρ x= .agg cs.toArray)(hi:ev ρ i= .int k a)(j:Nat)(hj:a=(j:Int))(hn:j<n)(hv:cs[j]?=some v):
  (execOp (ev ρ) ⟨d, .index t x i,ty,pos,af,gd⟩).run P w= .ok (.value v) w:=by
 subst hj
 unfold arrT1 at ht
 simp only[Bool.and_eq_true]at ht
 obtain⟨⟨h1,h2⟩,h3⟩:=ht
 split at h1
 ·rename_i m e' hu
  rw[Bool.and_eq_true]at h1
  obtain⟨rfl,rfl⟩:m=n∧e'=e:=⟨Nat.eq_of_beq_eq_true h1.1,Nat.eq_of_beq_eq_true h1.2⟩
  have hg:(isAgg e').run P w= .ok false w:=by
   split at h2
   ·rename_i hq;simp[isAgg,run_underlying hq]
   ·rename_i hq;simp[isAgg,run_underlying hq]
   ·cases h2
  obtain⟨inf,hinf,hsz⟩:∃ i,P.info? e'=some i∧i.size=1:=by
   split at h3
   ·rename_i i hi;exact⟨i,hi,Nat.eq_of_beq_eq_true h3⟩
   ·cases h3
  have hs:(Go.sizeOf e').run P w= .ok 1 w:=by simp[Go.sizeOf,typeInfo,hinf,hsz]
  have hp:(part e' cs.toArray j).run P w= .ok v w:=by
   simp[part,hg,Result.andThen,hv]
  have hr:(0:Int)≤(j:Int)∧(j:Int)<(m:Int):=by omega
  simp only[execOp,hx,hi,Instr.index,asIntOf,Sem.run_bind,Sem.run_pure,run_underlying hu,Result.andThen_ok,hr,and_self,if_true,hs,Int.toNat_natCast,Nat.mul_one,hp]
 ·cases h1
theorem rn_max3{x y z:Operand}{k:IntKind}{a b c:Int}{ats:Array Nat}(hx:ev ρ x= .int k a)(hy:ev ρ y= .int k b)(hz:ev ρ z= .int k c):
  (execOp (ev ρ) ⟨d, .call ⟨.builtin .max,#[x,y,z],ats⟩,ty,pos,af,gd⟩).run P w= .ok (.value (.int k (max (max a b) c))) w:=by
 have h1:(if a<b then b else a)=max a b:=by omega
 have h2:(if max a b<c then c else max a b)=max (max a b) c:=by omega
 simp[execOp,resolve,invoke,builtin,Builtin.max_,Builtin.max2,hx,hy,hz,h1,h2,Result.andThen]
def ifaceT(P:Program)(t:Nat):Bool:=match P.underlying t with|some (.interface _)=>true|_=>false
theorem zqM{t t':Nat}{x:Operand}(ht:ifaceT P t=true)(hx:ev ρ x= .nilIface):(execOp (ev ρ) ⟨d, .binOp .neq t x (.const .nilIface) t',ty,pos,af,gd⟩).run P w= .ok (.value (.bool false)) w:=by
 unfold ifaceT at ht
 split at ht
 ·rename_i ms hu
  have h1:(eqGuard .neq t x (.const .nilIface) .nilIface .nilIface).run P w= .ok () w:=by
   unfold eqGuard
   simp
  have h2:∀ n,(Op.equalIn (n+1) t .nilIface .nilIface).run P w= .ok true w:=fun n=>by
   simp only[Op.equalIn,Sem.run_bind,run_underlying hu,Result.andThen_ok]
   rfl
  have h3:(binOp .neq t .nilIface .nilIface).run P w= .ok (.bool false) w:=by
   simp only[binOp]
   simp[Op.equal,Op.maxDepth,h2 9999]
  have h4:ev ρ (.const .nilIface)= .nilIface:=rfl
  simp only[execOp,hx,h4,Sem.run_bind,h1,h3,Result.andThen_ok]
  rfl
 ·cases ht
end
end Coup
namespace Go.Proofs.YtdbogkndglbffaaGreat
open Go Go.RowKit Coup
def hp:List UInt8:=[72,69,65,80]
def nums(F:Fst):List Nat:=[F.fresh,F.free,F.many,F.records,F.root]
def zfa(l:List Nat):List UInt8:=(l.map (beB 4)).flatten
def zfj(F:Fst):List UInt8:=hp++zfa (nums F)
def zc6(F:Fst):View:=⟨4,0,[some (zfj F)]⟩
theorem zpo(l:List Nat):(zfa l).length=4*l.length:=by
 induction l with
 |nil=>rfl
 |cons a l ih=>show(beB 4 a++zfa l).length=_;rw[List.length_append,zaV,ih,List.length_cons];omega
theorem znD(l:List Nat)(n:Nat):zfa (l++[n])=zfa l++beB 4 n:=by unfold zfa;rw[List.map_append,List.flatten_append];simp
theorem zgB(F:Fst):(zfj F).length=24:=by unfold zfj;rw[List.length_append,zpo];rfl
theorem zdE(F:Fst):Good (zc6 F):=zdq ae ae (by rw[zgB];omega)
set_option maxRecDepth 20000 in
theorem zpp(F:Fst)(w:World):Calls Tryz.prog 68 [.agg (zh6 F).toArray].toArray w (Ret fun v w'=>v= .agg (bv (zay (zc6 F))).toArray∧Below w.heap.size w w'):=by
 have hfl:=zgB F
 have hln:=fun pr cr w' h=>layNew 4 ae pr cr (zfj F) w' h (by rw[hfl];omega)
 have hnk:=fun w'=>newK 4 ae w'
 rw[hfl]at hln
 have hQl:=zaR (zdE F)
 have hQe:zay ⟨4,0,[some (zfj F)]⟩=zay (zc6 F):=rfl
 have hNl:=zaR (zbQ (kind:=4) ae)
 rw[hQe]at hln
 obtain⟨Q,hQ⟩:∃ Q,zay (zc6 F)=Q:=⟨_,rfl⟩
 obtain⟨P4,hP4⟩:∃ P4,zay (zdX 4)=P4:=⟨_,rfl⟩
 simp only[hQ,hP4]at hln hnk hQl hNl ⊢
 have hfb:zfj F=hp++zfa (nums F):=rfl
 obtain⟨fb,hfbe⟩:∃ fb,zfj F=fb:=⟨_,rfl⟩
 rw[hfbe]at hfb
 simp only[hfbe]at hln
 obtain⟨nl,hnl⟩:∃ nl,nums F=nl:=⟨_,rfl⟩
 have hn5:nl.length=5:=by rw[←hnl];rfl
 have hnv:nv nl=zh6 F:=by rw[←hnl];rfl
 rw[hnl]at hfb
 have hB:=Below.refl w.heap.size w
 have hml:maxLen=9223372036854775807:=by decide
 obtain⟨z2,hz2,hzl⟩:∃ z2,List.replicate 512 (Value.int .u8 0)=z2∧z2.length=512:=⟨_,rfl,List.length_replicate⟩
 refine zax (fn:=Tryz.f68) (rs:=[.cell 2 62]) (n:=41) Tryz.func68 rfl rfl Tryz.ntmps68 aa rfl (zah (zaa (zaD rfl (za4 (zh6 F) rfl (fun g1 w1 hg1 hr1 hb1=>?_)))))
 have ge_hB_g1:=Nat.le_trans hB.size hg1
 replace hB:=hB.acc hb1
 replace hr1:row w1 g1 [.int .i64 (F.fresh:Int), .int .i64 (F.free:Int), .int .i64 (F.many:Int), .int .i64 (F.records:Int), .int .i64 (F.root:Int)] 83:=hr1
 refine zaD rfl (zar (List.replicate 512 (Value.int .u8 0)) aa (fun g2 w2 hg2 hr2 hb2=>?_))
 have ge_hB_g2:=Nat.le_trans hB.size hg2
 have lt_g1_g2:g1<g2:=Nat.lt_of_lt_of_le hr1.lt hg2
 replace hr1:=hr1.new hb2
 replace hB:=hB.acc hb2
 rw[hz2]at hr2
 refine zae (zaf (zah (zaa (zaD rfl (zef (e:=5) [(0, .int .u8 72),(1, .int .u8 69),(2, .int .u8 65),(3, .int .u8 80)] [.int .u8 0] 1 aa aa rfl ae ae aY (by simp[Value.cells]) (fun g8 w8 hg8 hr8 hb8=>?_))))))
 have ge_hB_g8:=Nat.le_trans hB.size hg8
 have lt_g1_g8:g1<g8:=Nat.lt_of_lt_of_le hr1.lt hg8
 have lt_g2_g8:g2<g8:=Nat.lt_of_lt_of_le hr2.lt hg8
 replace hr1:=hr1.new hb8
 replace hr2:=hr2.new hb8
 replace hB:=hB.acc hb8
 replace hr8:row w8 g8 (bv hp) 5:=hr8
 have hr8k:=hr8
 have l1:=hr1.lt
 have l2:=hr2.lt
 refine zaD rfl (mk_mark (e:=5) aa aa rfl hr8k rfl ae (fun w9 hs8 ho8=>?_))
 replace hr1:=hr1.only ho8 (Nat.ne_of_lt lt_g1_g8)
 replace hr2:=hr2.only ho8 (Nat.ne_of_lt lt_g2_g8)
 replace hB:=ho8.below hB ge_hB_g8
 refine zad (zac) (zae (zaf (zah (zah (zaa (zad (zaw 0) (zad (zau hr1) (zad (zaw 1) (zad (zau hr1) (zad (zaw 2) (zad (zau hr1) (zad (zaw 3) (zad (zau hr1) (zad (zaw 4) (zad (zau hr1) (zad (zkY (.int .i64 (F.fresh:Int)) (.int .i64 (F.free:Int)) (.int .i64 (F.many:Int)) (.int .i64 (F.records:Int)) (.int .i64 (F.root:Int)) (zh6 F) rfl rfl rfl rfl rfl aa) (zad (zab) (zae (zaf (zav ?_))))))))))))))))))))
 refine zbq (α:=Nat × Value) (0, .slice (some ⟨g8,0,none⟩) 4 4) (fun k=>[(2, .pointer (some ⟨g2,0,none⟩)),(3,k.2),(20, .agg (zh6 F).toArray),(21, .int .i64 (k.1:Int))])
  (fun k w'=>k.1≤5∧((k.1=0∧k.2= .slice (some ⟨g8,0,none⟩) 4 4∧zaS w' (some ⟨g8,0,none⟩) 4 1 (bv hp))∨(0<k.1∧zaz w' g8 5 1 k.2 (4+4*k.1) (bv (hp++zfa (nl.take k.1)))))∧row w' g2 z2 62∧Below w.heap.size w w') (fun k=>5 - k.1) ⟨rfl,rfl,rfl,rfl,rfl⟩ ⟨Nat.zero_le _, .inl ⟨rfl,rfl,hs8⟩,hr2,hB⟩ ?_
 rintro⟨i,v⟩ f wr ⟨hi,hv,hr2,hB⟩
 dsimp only at*
 by_cases hi5:i<5
 ·obtain⟨n,hn⟩:∃ n,nl[i]?=some n:=⟨_,List.getElem?_eq_getElem ae⟩
  have hix:(zh6 F)[i]?=some (.int .i64 (n:Int)):=by rw[←hnv];unfold nv;rw[List.getElem?_map,hn];rfl
  have htk:nl.take (i+1)=nl.take i++[n]:=by rw[List.take_add_one,hn];rfl
  have happ:bv (hp++zfa (nl.take (i+1)))=bv (hp++zfa (nl.take i))++bv (beB 4 n):=by rw[htk,znD,←List.append_assoc,zcG]
  rcases hv with⟨rfl,rfl,hs8⟩|⟨hi0,hv⟩
  ·have happ2:bv (hp++zfa (nl.take (0+1)))=bv hp++bv (beB 4 n):=by rw[happ];simp[zfa]
   refine zah (zaa (zad (zaY rfl rfl) (zae (zaf (zah (zgP rfl (ae) (zat (zaf (zah (zav (zah (zaa (zad (zhU (k:=.i64) (n:=5) (e:=3) aa rfl rfl 0 rfl ae hix) (zad (zac) (zae (zaf (zaa (zad (zab) (zad (zab) (zao rfl (zaj aa rfl) (zmB n wr) ?_))))))))))))))))))))
   rintro _ w26 ⟨g26,rfl,hr26,hg26,hb26⟩
   have ge_hB_g26:=Nat.le_trans hB.size hg26
   have lt_g2_g26:g2<g26:=Nat.lt_of_lt_of_le hr2.lt hg26
   replace hr2:=hr2.new hb26
   replace hs8:=hs8.new hb26
   replace hB:=hB.acc hb26
   have hs26:=hr26.slA (m:=4) (sz:=1) (by rw[zal,zaV]) ae
   have hs8k:=hs8
   have hobt:=hs8.some ae
   obtain⟨g9,o9,e9,hl9⟩:=hobt
   have hszB:g8≤w26.heap.size:=by cases e9;omega
   refine zaD rfl (znu (e:=5) (sz:=1) (bytes:=1) (z:=.int .u8 0) aa rfl aa rfl aD rfl hs8k rfl hs26 ae ae ae ae (fun v27 w27 hv27 hb27=>?_))
   replace hr2:=hr2.new hb27
   replace hB:=hB.acc hb27
   refine zad (zac) (zae (zaP (zaf (zaa (zad (zaO rfl rfl (show IntKind.i64.wrap (((0:Nat):Int)+1)=((0+1:Nat):Int) by rw[w64 ae];omega)) (zad (zab) (zae (za2 ⟨(0+1,v27),by show 5 - (0+1)<5 - 0;omega,⟨rfl,rfl,rfl,rfl,rfl⟩,by show 0+1≤5;omega, .inr ⟨by show 0<0+1;omega,?_⟩,hr2,hB⟩))))))))
   show zaz _ _ _ _ v27 (4+4*(0+1)) _
   rw[happ2]
   exact zaz.mono hv27 hszB
  ·have hi1:=hi0
   refine zah (zaa (zad (zaY rfl rfl) (zae (zaf (zah (zgP rfl (ae) (zat (zaf (zah (zav (zah (zaa (zad (zhU (k:=.i64) (n:=5) (e:=3) aa rfl rfl i rfl ae hix) (zad (zac) (zae (zaf (zaa (zad (zab) (zad (zab) (zao rfl (zaj aa rfl) (zmB n wr) ?_))))))))))))))))))))
   rintro _ w26 ⟨g26,rfl,hr26,hg26,hb26⟩
   have ge_hB_g26:=Nat.le_trans hB.size hg26
   have lt_g2_g26:g2<g26:=Nat.lt_of_lt_of_le hr2.lt hg26
   replace hr2:=hr2.new hb26
   replace hv:=hv.new hb26
   replace hB:=hB.acc hb26
   have hs26:=hr26.slA (m:=4) (sz:=1) (by rw[zal,zaV]) ae
   have hsz:=hB.size
   have sz_hB_27:=hB.size
   refine zaD rfl (zbf (e:=5) (sz:=1) (bytes:=1) (z:=Value.int .u8 0) aa rfl aa rfl aD rfl hv rfl hs26 (zbV _) aC ae (fun hm0=>ae) (fun v27 w27 hv27 hgr27 hfr27=>?_))
   replace hr2:=hr2.own hv hgr27 ae
   replace hB:=hB.own hv hgr27 ae
   refine zad (zac) (zae (zaP (zaf (zaa (zad (zaO rfl rfl (show IntKind.i64.wrap ((i:Int)+1)=((i+1:Nat):Int) by rw[w64 ae];omega)) (zad (zab) (zae (za2 ⟨(i+1,v27),by show 5 - (i+1)<5 - i;omega,⟨rfl,rfl,rfl,rfl,rfl⟩,by show i+1≤5;omega, .inr ⟨by show 0<i+1;omega,?_⟩,hr2,hB⟩))))))))
   show zaz _ _ _ _ v27 (4+4*(i+1)) _
   rw[happ]
   exact hv27
 ·have hie:i=5:=by omega
  subst hie
  have hv2:zaz wr g8 5 1 v 24 (bv fb):=by
   rcases hv with⟨h,_⟩|⟨_,h⟩
   ·omega
   ·rw[hfb,←List.take_of_length_le (l:=nl) (i:=5) ae];exact h
  have hobt:=hv2.form' ae
  obtain⟨gh,oh,ch,rfl,hgh1,hgh2,hch⟩:=hobt
  have hs2:=hv2.sl
  have hBr:=Below.refl wr.heap.size wr
  have hltg:=hr2.lt
  refine zah (zaa (zad (zaY rfl rfl) (zae (zaf (zah (zcF rfl (ae) (zbh (zbC (zbH (zbl (zaf (zah (zaa (zao rfl (zaj aa rfl) (hnk wr) ?_))))))))))))))
  rintro _ w30 ⟨rfl,hb30⟩
  replace hr2:=hr2.new hb30
  replace hs2:=hs2.new hb30
  replace hB:=hB.acc hb30
  replace hBr:=hBr.acc hb30
  refine zad (zab) (zad (zai rfl rfl) (zad (zai rfl rfl) (zaD rfl (zar (List.replicate 512 (Value.int .u8 0)) aa (fun g6 w6 hg6 hr6 hb6=>?_)))))
  have ge_hB_g6:=Nat.le_trans hB.size hg6
  have ge_hBr_g6:=Nat.le_trans hBr.size hg6
  have lt_g2_g6:g2<g6:=Nat.lt_of_lt_of_le hr2.lt hg6
  replace hr2:=hr2.new hb6
  replace hs2:=hs2.new hb6
  replace hB:=hB.acc hb6
  refine zaK rfl (zaQ 512 (bv P4) hr6 (fun w901 hr6 ho901=>?_))
  replace hr2:=hr2.only ho901 (Nat.ne_of_lt lt_g2_g6)
  replace hs2:=hs2.only ho901 ae
  replace hB:=ho901.below hB ge_hB_g6
  refine zad (zac) (zae (zaf (zah (zaa (zad (za7 512 hr6) (zad (zab) (zao rfl (zaj aa rfl) (hln _ _ w901 hs2) ?_)))))))
  rintro _ w36 ⟨rfl,hb36⟩
  replace hr2:=hr2.new hb36
  replace hr6:=hr6.new hb36
  replace hB:=hB.acc hb36
  refine zad (zab) (zad (zai rfl rfl) (zad (zai rfl rfl) (zad (zai rfl rfl) (zaK rfl (zaQ 512 (bv Q) hr6 (fun w902 hr6 ho902=>?_))))))
  replace hr2:=hr2.only ho902 (Nat.ne_of_lt lt_g2_g6)
  replace hB:=ho902.below hB ge_hB_g6
  refine zae (zaf (zah (zaa (zad (za7 512 hr6) (zaK rfl (zaQ 512 (bv Q) hr2 (fun w903 hr2 ho903=>?_)))))))
  replace hB:=ho903.below hB ge_hB_g2
  refine zae (zaf (zaF (zan [_] ⟨⟨_,rfl,Ld.zb9 (k:=512) hr2 aa aa ak⟩,trivial⟩ ?_)))
  exact⟨rfl,hB⟩
theorem numB4{n:Nat}(h:n<4294967296):zdl (beB 4 n)=n:=by rw[zg1,Nat.mod_eq_of_lt ae]
theorem zmK:∀ {l:List Nat} {i n:Nat},l[i]?=some n→((zfa l).drop (4*i)).take 4=beB 4 n
 |a::l,0,n,h=>by
  have e:a=n:=by simpa using h
  subst e
  show(beB 4 a++zfa l).take 4=_
  exact List.take_left' (zaV _ _)
 |a::l,i+1,n,h=>by
  have ih:=zmK (l:=l) (i:=i) (n:=n) aX
  show((beB 4 a++zfa l).drop (4*(i+1))).take 4=_
  rw[show 4*(i+1)=(beB 4 a).length+4*i by rw[zaV];omega,List.drop_append,List.drop_eq_nil_of_le ae,List.nil_append,show(beB 4 a).length+4*i - (beB 4 a).length=4*i by omega]
  exact ih
structure FstOk(N:Nat)(F:Fst):Prop where
 f1:1≤F.fresh
 fN:F.fresh≤N
 fe:F.free<F.fresh
 ma:F.many<F.fresh
 rc:F.records<F.fresh
 rt:F.root<N
 n48:N≤2048
theorem HOk.fst{N:Nat}{H:HS}{fl:List Nat}(h:HOk N H fl)(hN:N≤2048):FstOk N H.F:=⟨h.f1,h.fN,h.zqJ,h.many,h.rc,h.rt,hN⟩
def zjA(l:List Nat)(k:Nat):List Value:=nv (l.take k)++List.replicate (5 - k) (.int .i64 0)
theorem zqN{l:List Nat}{k n:Nat}(hl:l.length=5)(h:l[k]?=some n):(zjA l k).set k (.int .i64 (n:Int))=zjA l (k+1):=by
 have hk:k<5:=by have:=(List.getElem?_eq_some_iff.1 h).1;omega
 unfold zjA
 have e:(nv (l.take k)).length=k:=by rw[nv_len,List.length_take];omega
 rw[List.set_append,e,if_neg ae,Nat.sub_self,show 5 - k=(5 - (k+1))+1 by omega,List.replicate_succ,List.set_cons_zero,List.take_add_one,h]
 unfold nv
 simp
set_option maxRecDepth 20000 in
set_option maxHeartbeats 1000000 in
theorem znE(F:Fst)(N:Nat)(hF:FstOk N F)(w:World):Calls Tryz.prog 110 [.agg (bv (zay (zc6 F))).toArray, .int .i64 (N:Int)].toArray w (Ret fun v w'=>v= .tuple #[.agg (zh6 F).toArray, .bool true]∧Below w.heap.size w w'):=by
 have hgd:=zdE F
 have hfl:=zgB F
 have hge:=fun w'=>get17 (zc6 F) 0 w' hgd
 have hgr:ziu (zc6 F).slots 0=zfj F:=rfl
 have hhv:zh2 (zc6 F).slots 0=true:=rfl
 simp only[hgr,hhv,if_true,hfl]at hge
 have hpg:=fun w'=>zpp F w'
 have hnum:∀ (m:Nat) (hm:m<4294967296) p c w',zaS w' p 4 1 (bv (beB 4 m))→Calls Tryz.prog 107 [.slice p 4 c].toArray w' (Ret fun v w2=>v= .int .i64 (m:Int)∧w'=w2):=fun m hm p c w' h'=>
  (num15 p 4 c _ w' h' ae).to fun v w2 ⟨e,h2⟩=>⟨by rw[e,numB4 hm],h2⟩
 have hQl:=zaR hgd
 have hQl2:=zbv (zc6 F) hgd.size
 obtain⟨Q,hQ⟩:∃ Q,zay (zc6 F)=Q:=⟨_,rfl⟩
 simp only[hQ]at hge hpg hQl hQl2 ⊢
 have hfb:zfj F=hp++zfa (nums F):=rfl
 obtain⟨fb,hfbe⟩:∃ fb,zfj F=fb:=⟨_,rfl⟩
 rw[hfbe]at hfb hfl
 simp only[hfbe]at hge
 obtain⟨nl,hnl⟩:∃ nl,nums F=nl:=⟨_,rfl⟩
 have hn5:nl.length=5:=by rw[←hnl];rfl
 have hnv:nv nl=zh6 F:=by rw[←hnl];rfl
 have hlt:∀ n∈nl,n<4294967296:=fun n hn=>by
  rw[←hnl]at hn
  have:=hF.fe
  have:=hF.ma
  have:=hF.rc
  have:=hF.rt
  have:=hF.fN
  have:=hF.n48
  simp only[nums,List.mem_cons,List.not_mem_nil,or_false]at hn
  omega
 rw[hnl]at hfb
 have hB:=Below.refl w.heap.size w
 have hml:maxLen=9223372036854775807:=by decide
 refine zax (fn:=Tryz.f110) (rs:=[.cell 4 83, .tmp 5]) (n:=81) Tryz.func110 rfl rfl Tryz.ntmps110 aa rfl (zah (zaa (zaD rfl (za4 (bv Q) rfl (fun g2 w2 hg2 hr2 hb2=>?_)))))
 replace hB:=hB.acc hb2
 refine zaD rfl (zar ([Value.int .i64 0,Value.int .i64 0,Value.int .i64 0,Value.int .i64 0,Value.int .i64 0]) aa (fun g4 w4 hg4 hr4 hb4=>?_))
 have ge_hB_g4:=Nat.le_trans hB.size hg4
 have lt_g2_g4:g2<g4:=Nat.lt_of_lt_of_le hr2.lt hg4
 replace hr2:=hr2.new hb4
 replace hB:=hB.acc hb4
 refine zad (zac) (zae (zaf (zah (zaa (zad (zaG rfl (Ld.zb9 (k:=512) hr2 aa aa hQl)) ?_)))))
 have hl2:=hr2.lt
 have hl4:=hr4.lt
 refine zao rfl (zaj aa rfl) (hge w4) ?_
 rintro _ w13 ⟨⟨q9,c9,rfl,hs9,hc9,hb9⟩,hb13⟩
 replace hr2:=hr2.new hb13
 replace hr4:=hr4.new hb13
 replace hB:=hB.acc hb13
 refine zad (zab) (zad (zai rfl rfl) (zad (zai rfl rfl) (zad (zac) (zad (zac) (zae (zaf (zah (zah (zaa (zad (zab) (zad (zaX rfl rfl) (zad (zab) (zfl 18 rfl (aD) (zaq rfl (zad (zab) (zaq rfl (zad (zaB (e:=5) (sz:=1) aa rfl rfl) (zaq rfl (zad (zaX rfl rfl) (zad (zaE rfl) (zae (zaf (zcF rfl (aD) (zat (zaf (zah (zaa (zad (zac) (zae (zaf (zah (zah (zaa (zad (zaw 0) (zad (zaw 1) (zad (zaw 2) (zad (zaw 3) (zad (zaw 4) (zad (zkY (.pointer (some ⟨g4,0,none⟩)) (.pointer (some ⟨g4,1,none⟩)) (.pointer (some ⟨g4,2,none⟩)) (.pointer (some ⟨g4,3,none⟩)) (.pointer (some ⟨g4,4,none⟩)) [.pointer (some ⟨g4,0,none⟩), .pointer (some ⟨g4,1,none⟩), .pointer (some ⟨g4,2,none⟩), .pointer (some ⟨g4,3,none⟩), .pointer (some ⟨g4,4,none⟩)] rfl rfl rfl rfl rfl aa) (zad (zab) (zae (zaf (zav ?_)))))))))))))))))))))))))))))))))))))))))))
 refine zbq (α:=Nat) 0 (fun k=>[(1, .int .i64 (N:Int)),(2, .pointer (some ⟨g2,0,none⟩)),(4, .pointer (some ⟨g4,0,none⟩)),(5, .bool false),(6, .slice q9 24 c9),(8, .int .i64 ((4+4*k:Nat):Int)),(29, .agg #[.pointer (some ⟨g4,0,none⟩), .pointer (some ⟨g4,1,none⟩), .pointer (some ⟨g4,2,none⟩), .pointer (some ⟨g4,3,none⟩), .pointer (some ⟨g4,4,none⟩)]),(30, .int .i64 (k:Int))])
  (fun k w'=>k≤5∧row w' g4 (zjA nl k) 83∧row w' g2 (bv Q) 62∧zaS w' q9 24 1 (bv fb)∧Below w.heap.size w w') (fun k=>5 - k) ⟨rfl,rfl,rfl,rfl,rfl,rfl,rfl,rfl,rfl⟩ ⟨Nat.zero_le _,hr4,hr2,hs9,hB⟩ ?_
 have hobt:=hs9.some ae
 obtain⟨gq,oq,rfl,_⟩:=hobt
 have hgq:=hb9 _ _ rfl
 clear hr4 hr2 hs9 hB
 rintro i f wr ⟨hi,hr4,hr2,hs9,hB⟩
 by_cases hi5:i<5
 ·obtain⟨n,hn⟩:∃ n,nl[i]?=some n:=⟨_,List.getElem?_eq_getElem ae⟩
  have hn4:=hlt n (List.mem_of_getElem? hn)
  have hsub:∀ w',zaS w' (some ⟨gq,oq,none⟩) 24 1 (bv fb)→zaS w' (some ⟨gq,oq+(4+4*i),none⟩) 4 1 (bv (beB 4 n)):=fun w' h'=>by
   have h9:=h'.subB (4+4*i) 4 ae
   rwa [hfb,show 4+4*i=hp.length+4*i from rfl,List.drop_append,List.drop_eq_nil_of_le ae,List.nil_append,show hp.length+4*i - hp.length=4*i by omega,zmK hn]at h9
  have hfs:=zqN hn5 hn
  have hfl5:(zjA nl i).length=5:=by unfold zjA;rw[List.length_append,nv_len,List.length_take,List.length_replicate];omega
  refine zah (zaa (zad (zaY rfl rfl) (zae (zaf (zah (zgP rfl (ae) (zat (zaf (zah (zav (zah (zaa (zad (zhU (k:=.i64) (n:=5) (e:=203) (v:=.pointer (some ⟨g4,i,none⟩)) aa rfl rfl i rfl ae (by rcases i with _|_|_|_|_|i<;>first |rfl|omega)) (zad (zac) (zae (zaf (zah (zaa (zad (zab) (zad (zab) (zad (zab) (zad (zab) (zad (zaO rfl rfl (show IntKind.i64.wrap (((4+4*i:Nat):Int)+4)=((4+4*i+4:Nat):Int) by rw[w64 ae];omega)) (zad (zab) (zad (zaO rfl rfl (show IntKind.i64.wrap (((4+4*i:Nat):Int)+4)=((4+4*i+4:Nat):Int) by rw[w64 ae];omega)) (zad (zcq (e:=5) (4+4*i) (4+4*i+4) (4+4*i+4) (4) aa rfl ⟨_,_,rfl,ae⟩ ⟨_,_,rfl,ae⟩ ⟨_,_,rfl,ae⟩ ay ae ae ae ae ae) (zao rfl (zaj aa rfl) (hnum n hn4 _ _ wr (hsub _ hs9)) ?_)))))))))))))))))))))))))))
  rintro _ _ ⟨rfl,rfl⟩
  refine zad (zak rfl) (zaK rfl (zbn hr4 (fun w901 hr4 ho901=>?_)))
  replace hr2:=hr2.only ho901 (Nat.ne_of_lt lt_g2_g4)
  replace hs9:=hs9.only ho901 ae
  replace hB:=ho901.below hB ge_hB_g4
  replace hr4:row w901 g4 ((zjA nl i).set i (.int .i64 (n:Int))) 83:=hr4
  rw[hfs]at hr4
  refine zae (zaf (zaa (zad (zab) (zad (zaO rfl rfl (show IntKind.i64.wrap (((4+4*i:Nat):Int)+4)=((4+4*(i+1):Nat):Int) by rw[w64 ae];omega)) (zad (zac) (zae (zaP (zaf (zaa (zad (zaO rfl rfl (show IntKind.i64.wrap ((i:Int)+1)=((i+1:Nat):Int) by rw[w64 ae];omega)) (zad (zab) (zae (za2 ⟨i+1,ae,⟨rfl,rfl,rfl,rfl,rfl,rfl,rfl,rfl,rfl⟩,ae,hr4,hr2,hs9,hB⟩)))))))))))))
 ·have hie:i=5:=by omega
  subst hie
  have hff:zjA nl 5=zh6 F:=by unfold zjA;rw[List.take_of_length_le ae,hnv];simp
  rw[hff]at hr4
  obtain⟨h1,h2,h3,h4,h5,h6,h7⟩:=hF
  obtain⟨fr,fe,ma,re,ro⟩:=F
  dsimp only[zh6]at*
  have hl2:=hr2.lt
  have hl4:=hr4.lt
  refine zah (zaa (zad (zaY rfl rfl) (zae (zaf (zah (zcF rfl (ae) (zbh (zbC (zbH (zbl (zaf (zah (za3 [] aa ?_)))))))))))))
  intro w902 hb902 hS902
  replace hr4:=hr4.new hb902
  replace hr2:=hr2.new hb902
  replace hB:=hB.acc hb902
  have hr4_d902:=hr4
  have hr2_d902:=hr2
  refine zbo 0 (fun w' hS'=>zaG rfl (Ld.zb9 (k:=5) (hr4_d902.kq hS') aa aa rfl)) (zbo 2 (fun w' hS'=>za7 512 (hr2_d902.kq hS')) (zaA 1 aa (zaU rfl rfl (zaj aa rfl) (hpg w902) ?_)))
  rintro _ w47 ⟨rfl,hb47⟩
  have hS903:=hS902.add0 hb47
  refine⟨hS903,?_⟩
  replace hr4:=hr4.new hb47
  replace hB:=hB.acc hb47
  refine zas 3 (zn0 (n:=512) aa rfl rfl (by simp[*]) (by simp[*])) (zas 4 (zab) (zle 50 rfl (rfl) (zas 5 (zaw 0) (zbo 6 (fun w' hS'=>zau (hr4_d902.kq hS')) (zas 7 (zcH rfl rfl) (zas 8 (zaC rfl) (zas 9 (zab) (zle 55 rfl (ae) (zas 10 (zaw 0) (zbo 11 (fun w' hS'=>zau (hr4_d902.kq hS')) (zas 12 (zab) (zas 13 (zhj rfl rfl) (zas 14 (zaC rfl) (zas 15 (zab) (zle 61 rfl (ae) (zas 16 (zaw 1) (zbo 17 (fun w' hS'=>zau (hr4_d902.kq hS')) (zas 18 (zaw 2) (zbo 19 (fun w' hS'=>zau (hr4_d902.kq hS')) (zas 20 (zaw 3) (zbo 21 (fun w' hS'=>zau (hr4_d902.kq hS')) (zas 22 (rn_max3 rfl rfl rfl) (zas 23 (zaw 0) ?_)))))))))))))))))))))))
  refine zbo 24 (fun w' hS'=>zau (hr4_d902.kq hS')) (zas 25 (zaY rfl rfl) (zas 26 (zaC rfl) (zas 27 (zab) (zle 73 rfl (ae) (zas 28 (zaw 4) (zbo 29 (fun w' hS'=>zau (hr4_d902.kq hS')) (zas 30 (zab) (zas 31 (zaY rfl rfl) (zas 32 (zaC rfl) (zas 33 (zac) (zaI aa (zaf (zah (zaa (zad (za7 5 hr4) (zad (zab) (zaK rfl (zaQ 5 (_) hr4 (fun w904 hr4 ho904=>?_)))))))))))))))))))
  replace hB:=ho904.below hB ge_hB_g4
  refine zad (zac) (zae (zaf (zaF (zan [_,_] ⟨⟨_,rfl,Ld.zb9 (k:=5) hr4 aa aa ak⟩,rfl,trivial⟩ ?_))))
  have hz:decide ((ro:Int)<(N:Int))=true:=decide_eq_true ae
  have hf:∀ b:Bool,b=true→Value.tuple #[Value.agg (zh6 ⟨fr,fe,ma,re,ro⟩).toArray, .bool b]= .tuple #[.agg (zh6 ⟨fr,fe,ma,re,ro⟩).toArray, .bool true]:=fun b hb=>by rw[hb]
  exact⟨hf _ hz,hB⟩
end Go.Proofs.YtdbogkndglbffaaGreat
namespace Coup
open Go Go.RowKit Go.Maps Go.ChangeMaps Go.MapKept Go.WideElems
section
variable {H:Type}{P:Program}{k:TypeId}{R:Value→Option (DataW H × List MemPlace)}{w:World}{b r n:Nat}{D:DataW H}{left:Lit→Bool}{cnt:Nat}
theorem znF(h:w.ranges P k R b r n D left cnt){kl:Lit}(hl:left kl=true){l:List (Lit × DataW H)}(hD:D= .map l):∃ z,(kl,z)∈l:=by
 obtain⟨es,clock,since,seen,c0,hb,F,hs,rfl,hr,hold,rfl,hl1,hl2,hsc,hsk⟩:=h
 obtain⟨x,hx,rfl⟩:=hl2 kl hl
 injection hD with hD
 exact⟨(rg P k R x).2,by rw[←hD];exact mem_sorted.2 (List.mem_map.2 ⟨x,hx,rfl⟩)⟩
theorem zlP{w':World}(h:w.ranges P k R b r n D left cnt)(h1:w'.heap[b]?=w.heap[b]?)(h2:w'.heap[r]?=w.heap[r]?):w'.ranges P k R b r n D left cnt:=by
 obtain⟨es,clock,since,seen,c0,hb,F,hs,hD,hr,rest⟩:=h
 exact⟨es,clock,since,seen,c0,h1.trans hb,F,hs,hD,h2.trans hr,rest⟩
end
theorem zg5{f:Nat→Option Value}:∀ {m a:Nat} {x:Lit × DataW Value},x∈kvL f a m→∃ i v,a≤i∧i<a+m∧f i=some v∧x=(.int .i64 (i:Int), .held v)
 |0,a,x,h=>by simp[kvL]at h
 |m+1,a,x,h=>by
  rw[kvL]at h
  split at h
  ·rename_i v hv
   rcases List.mem_cons.1 h with rfl|h
   ·exact⟨a,v,Nat.le_refl _,ae,hv,rfl⟩
   ·obtain⟨i,v,h1,h2,h3,h4⟩:=zg5 h;exact⟨i,v,ae,ae,h3,h4⟩
  ·obtain⟨i,v,h1,h2,h3,h4⟩:=zg5 h;exact⟨i,v,ae,ae,h3,h4⟩
theorem zpq{f:Nat→Option Value}{i:Nat}{v:Value}:∀ {m a:Nat},f i=some v→a≤i→i<a+m→(Lit.int .i64 (i:Int),DataW.held v)∈kvL f a m
 |0,a,hf,h1,h2=>by omega
 |m+1,a,hf,h1,h2=>by
  rw[kvL]
  by_cases h:a=i
  ·subst h;rw[hf];exact List.mem_cons_self ..
  ·have ih:=zpq (m:=m) (a:=a+1) hf ae ae
   split
   ·exact List.mem_cons_of_mem _ ih
   ·exact ih
theorem has_kvL{f:Nat→Option Value}{i N:Nat}(hi:i<N):Maps.has (DataW.map (kvL f 0 N)) (.int .i64 (i:Int))=(f i).isSome:=by
 cases hf:f i with
 |some v=>exact List.any_eq_true.2 ⟨_,zpq hf (Nat.zero_le _) ae,by rw[zdO];simp⟩
 |none=>
  refine List.any_eq_false.2 fun x hx=>?_
  obtain⟨j,v,h1,h2,h3,rfl⟩:=zg5 hx
  rw[zdO]
  simp
  rintro rfl
  rw[hf]at h3;cases h3
def zlQ(P:Program)(k:TypeId)(w:World)(m r N:Nat)(f:Nat→Option Value)(left:Nat→Bool)(cnt:Nat):Prop:=
 ∃ L,w.ranges P k RH m r N (.map (kvL f 0 N)) L cnt∧∀ i,i<N→L (.int .i64 (i:Int))=left i
namespace zlQ
variable {P:Program}{k:TypeId}{w w':World}{m r N cnt:Nat}{f:Nat→Option Value}{left:Nat→Bool}
theorem map(h:zlQ P k w m r N f left cnt):MapAt P k w m N f:=by
 obtain⟨L,h1,_⟩:=h
 exact h1.owns
theorem lt(h:zlQ P k w m r N f left cnt):r<w.heap.size:=by
 obtain⟨L,h1,_⟩:=h
 exact h1.lt
theorem ne(h:zlQ P k w m r N f left cnt):r≠m:=by
 obtain⟨L,h1,_⟩:=h
 exact h1.ne
theorem kpd{M:List Nat}(h:zlQ P k w m r N f left cnt)(hk:Kp M w w')(hM:m∉M∧r∉M):zlQ P k w' m r N f left cnt:=by
 have h1:=h.map.lt
 have h2:=h.lt
 obtain⟨L,h3,h4⟩:=h
 exact⟨L,zlP h3 (hk.block m h1 hM.1) (hk.block r h2 hM.2),h4⟩
theorem new(h:zlQ P k w m r N f left cnt)(hb:Below w.heap.size w w'):zlQ P k w' m r N f left cnt:=h.kpd (M:=[]) (Kp.of_below hb) ay
theorem only{g:Nat}(h:zlQ P k w m r N f left cnt)(ho:Only g w w')(hg:m≠g∧r≠g):zlQ P k w' m r N f left cnt:=h.kpd (Kp.zaZ ho) bg
end zlQ
section
variable {P:Program}{ρ:Env}{w:World}{d:Option Nat}{ty:TypeId}{pos:String}{af:Array Edge}{gd:Option (Nat × Bool)}{K:Value→World→Prop}{Kw:World→Prop}
theorem zpr {t k e:TypeId} {x:Operand} {m N:Nat} {f:Nat→Option Value} (ht:P.underlying t=some (.map k e)) (hk:P.underlying k=some (.int .i64)) (hm:MapAt P k w m N f) (hx:ev ρ x= .map (some m))
  (h:∀ r w' cnt,w.heap.size≤r→zlQ P k w' m r N f (fun i=>(f i).isSome) cnt→Below w.heap.size w w'→K (.pointer (some ⟨r,0,none⟩)) w'):Mk P ρ w ⟨d, .range t x,ty,pos,af,gd⟩ K:=by
 obtain⟨w',hr,h1,h2,h3⟩:=World.ownsMap.range hm (int_keyed hk) ht
 refine⟨_,w',?_,h _ w' _ (Nat.le_refl _) ⟨_,h1,fun i hi=>has_kvL hi⟩ ⟨h2.os,h2.tape,h2.output,h2.size,fun i hi=>h2.block i hi ay⟩⟩
 simp[execOp,hx,hr,Result.andThen]
theorem zqO {x : Operand} {k : TypeId} {m r N cnt : Nat} {f : Nat → Option Value} {left : Nat → Bool} (hk : P.underlying k = some (.int .i64)) (hg : zlQ P k w m r N f left cnt) (hx : ev ρ x = .pointer (some ⟨r, 0, none⟩))
  (h0 : (∀ i, i < N → left i = false) → K (.tuple #[.bool false]) w)
  (h1 : ∀ (i : Nat) (v : Value) (w' : World) (cnt' : Nat), i < N → left i = true → f i = some v → zlQ P k w' m r N f (fun j => left j && !decide (j = i)) cnt' → cnt' < cnt → Only r w w' →
   (Instr.entry (.pointer (some ⟨r, 0, none⟩))).run P w' = .ok (.tuple #[.int .i64 (i : Int), v]) w' → K (.tuple #[.bool true, .int .i64 (i : Int), v]) w') : Mk P ρ w ⟨d, .next x false, ty, pos, af, gd⟩ K := by
 obtain ⟨L, hg, hL⟩ := hg
 rcases hg.next (int_keyed hk) ty with ⟨hc, hl, hrun⟩ | ⟨key, v, kl, y, w', cnt', hkey, hlk, hv, hat, hrun, hrg, hlt, hgr, hsz, hen⟩
 ·exact ⟨_, _, by simp [execOp, hx, hrun, Result.andThen], h0 fun i hi => by rw [← hL i hi]; exact hl _⟩
 ·obtain ⟨z, hz⟩ := znF hg hlk rfl
  obtain ⟨i, u, _, hi, hfi, he⟩ := zg5 hz
  have hkl : kl = .int .i64 (i : Int) := congrArg Prod.fst he
  obtain ⟨a, rfl, ekl, _⟩ := Maps.keyOf_int_inv hk hkey
  rw [hkl] at ekl
  injection ekl with _ ekl
  subst ekl
  have hi' : i < N := by omega
  have hu : u = v := by
   have h3 := hat (.held u)
   rw [hkl] at h3
   have h4 : (some (DataW.held v, ([] : List MemPlace))) = some y := hv
   injection h4 with h4
   rw [← h4] at h3
   unfold DataW.atKey at h3
   simp only [zgX N 0 (Nat.zero_le _) (by omega : i < 0 + N), hfi] at h3
   injection h3
  subst hu
  refine ⟨_, w', by simp [execOp, hx, hrun, Result.andThen], h1 i u w' cnt' hi' (by rw [← hL i hi', ← hkl]; exact hlk) hfi ⟨_, hrg, fun j hj => ?_⟩ hlt ⟨hgr.os, hgr.tape, hgr.output, hsz, fun q hq => ?_⟩ hen⟩
  ·rw [hL j hj, hkl, zdO]
  ·by_cases hql : q < w.heap.size
   ·exact hgr.block q hql (by simpa using hq)
   ·rw [Array.getElem?_eq_none (by omega), Array.getElem?_eq_none (by omega)]
theorem zqP{x:Operand}{r:Nat}{v:Value}(hx:ev ρ x= .pointer (some ⟨r,0,none⟩))(hen:(Instr.entry (.pointer (some ⟨r,0,none⟩))).run P w= .ok v w):(execOp (ev ρ) ⟨d, .entry x,ty,pos,af,gd⟩).run P w= .ok (.value v) w:=by
 simp[execOp,hx,hen,Result.andThen]
end
end Coup
namespace Go.Proofs.YtdbogkndglbffaaGreat
open Go Go.RowKit Coup
theorem GZ.congr{q N:Nat}{G G' V:Nat→Pg}{k:Nat}{w:World}{B:List Nat}(h:GZ q N G V k w B)(he:∀ n,n<N→G n=G' n):GZ q N G' V k w B:=by
 obtain⟨P,h1,h2⟩:=h
 exact⟨P,⟨h1.i,h1.n,fun n hn=>(h1.g n hn).trans (he n hn),h1.s⟩,h2⟩
theorem zhV{X X' Y:World→List Nat→Prop}{lo:Nat}{L:List Nat}{w:World}(h:Two X Y lo L w)(he:∀ B,X w B→X' w B):Two X' Y lo L w:=by
 obtain⟨⟨B,C,h1,h2,h3,h4⟩,h5,h6⟩:=h
 exact⟨⟨B,C,he B h1,h2,h3,h4⟩,h5,h6⟩
section
variable {Y:World→List Nat→Prop}[hYT:Thing Y]{q jb mw N lo:Nat}{L:List Nat}{G0 G V:Nat→Pg}{k:Nat}{F:Fst}{w:World}
set_option maxRecDepth 20000 in
theorem undoN(a b c:Value)(w:World):CallsDIn Fence.wide 8 Tryz.prog 111 [a,b,c].toArray .returning w (fun en u' w'=>u'= .returning∧Ret (fun _ w'=>Below w.heap.size w w') en w'):=by
 have hB:=Below.refl w.heap.size w
 refine ziL (fn:=Tryz.f111) (rs:=[]) (n:=36) (x:=.nilIface) (u:=.returning) (u2:=.returning) Tryz.func111 rfl rfl Tryz.ntmps111 aa rfl rfl rfl (fun c₀ cs h=>.inr ⟨rec_no c₀ cs h,rfl,rfl⟩) (zah (zaa (zad (zab) (zad (znC (z:=.agg #[.int .i64 0]) aa rfl aZ) (zad (zab) (zad (zai rfl rfl) (zad (zai rfl rfl) (zaD rfl (zar ([Value.int .i64 0]) aa (fun g4 w4 hg4 hr4 hb4=>?_))))))))))
 have ge_hB_g4:=Nat.le_trans hB.size hg4
 replace hB:=hB.acc hb4
 refine zaK rfl (zaQ 1 ([.int .i64 0]) hr4 (fun w901 hr4 ho901=>?_))
 replace hB:=ho901.below hB ge_hB_g4
 refine zad (zac) (zae (zaf (zav (zah (zaa (zad (zab) (zad (zac) (zae (zaf (zjG rfl (rfl) (zah (zaa (zad (zab) (zad (zqM aa rfl) (zad (zac) (zae (zaf (zjG rfl (rfl) (zat (zaP (zhO [] trivial ?_)))))))))))))))))))))
 exact hB
set_option maxRecDepth 20000 in
set_option maxHeartbeats 1000000 in
theorem undoP (e:Int) (ga gb ge:Nat) (v0:Value) (h:Two (JZ q jb mw N G0 G V k F) Y lo L w) (hx1:row w ga [.pointer (some ⟨jb,0,none⟩)] 81) (hx2:row w gb [.pointer (some ⟨q,0,none⟩)] 25) (hx3:row w ge [v0] 39)
   (ha:ga∈L) (hb:gb∈L) (he:ge∈L) (hab:ge≠ga∧ge≠gb) (hlo:lo≤ge) {L2:List Nat} (hL2:∀ b∈L2,b∈L) (h2:ge∉L2):
   CallsDIn Fence.wide 8 Tryz.prog 111 [.pointer (some ⟨ga,0,none⟩), .pointer (some ⟨gb,0,none⟩), .pointer (some ⟨ge,0,none⟩)].toArray (.panicking (pe (zdp e))) w (fun en u' w'=>u'= .panicking [{v:=zdp e,recovered:=true}]∧Ret (fun _ w'=>Two (GZ q N G0 V k) Y lo L w'∧row w' ge [.int .i64 e] 39∧LoL lo L2 w w') en w'):=by
 have hN:=(zgS h).1
 obtain⟨c,h⟩:=zbL h
 have hLL:=LoL.refl lo L2 w
 have hj:=h.zg3
 have hm:=h.map
 have hwas:=h.was
 have hne:=h.ne
 have hjl:=h.jl
 have hml:=h.ml
 have hp:=h.p
 have hgl:=(zjv hp).2.2
 have hjn:jb∉L2:=fun hx=>hjl.2 (hL2 _ hx)
 have hga:=hx1.lt
 have hgb:=hx2.lt
 have hge:=hx3.lt
 have hje:jb≠ge:=fun e=>hjl.2 (e▸he)
 have hme:mw≠ge:=fun e=>hml.2 (e▸he)
 have hloL:=hp.lo
 have hLt:∀ b∈L,b<w.heap.size:=fun b hb=>hp.lt b aH
 refine ziL (fn:=Tryz.f111) (rs:=[]) (n:=36) (x:=zdp e) (u:=.panicking (pe (zdp e))) (u2:=.panicking [{v:=zdp e,recovered:=true}]) Tryz.func111 rfl rfl Tryz.ntmps111 aa rfl rfl rfl (fun c₀ cs h=>.inl (rec_pe _ c₀ cs h)) (zah (zaa (zad (zab) (zad (znB aa rfl) (zad (zab) (zad (zai rfl rfl) (zad (zai rfl rfl) (zaD rfl (zar ([Value.int .i64 0]) aa (fun g4 w4 hg4 hr4 hb4=>?_))))))))))
 have lt_ga_g4:ga<g4:=Nat.lt_of_lt_of_le hx1.lt hg4
 have lt_gb_g4:gb<g4:=Nat.lt_of_lt_of_le hx2.lt hg4
 have lt_ge_g4:ge<g4:=Nat.lt_of_lt_of_le hx3.lt hg4
 have lt_jb_g4:jb<g4:=Nat.lt_of_lt_of_le hj.lt hg4
 have lt_mw_g4:mw<g4:=Nat.lt_of_lt_of_le hm.lt hg4
 replace hp:=hp.newc hb4 hg4 hr4.lt
 replace hLL:=hLL.new hb4
 replace hx1:=hx1.new hb4
 replace hx2:=hx2.new hb4
 replace hx3:=hx3.new hb4
 replace hj:=hj.new hb4
 replace hm:=hm.new hb4
 refine zaK rfl (zaQ 1 ([.int .i64 e]) hr4 (fun w901 hr4 ho901=>?_))
 replace hp:=hp.only ho901 ai
 replace hLL:=hLL.oq ho901
 replace hx1:=hx1.only ho901 (Nat.ne_of_lt lt_ga_g4)
 replace hx2:=hx2.only ho901 (Nat.ne_of_lt lt_gb_g4)
 replace hx3:=hx3.only ho901 (Nat.ne_of_lt lt_ge_g4)
 replace hj:=hj.only ho901 (Nat.ne_of_lt lt_jb_g4)
 replace hm:=hm.only ho901 (Nat.ne_of_lt lt_mw_g4)
 refine zad (zac) (zae (zaf (zav (zah (zaa (zad (zab) (zad (zac) (zae (zaf (zjU rfl (rfl) (zah (zah (zaa (zad (zau hx1) (zad (zak rfl) (zad (zaw 6) (zad (zau hj) ?_)))))))))))))))))
 have zb:=hx2.lt
 have ze:=hx3.lt
 have z4:=hr4.lt
 have zs:=hLL.size
 refine zaD rfl (zpr (k:=3) (e:=62) aa aa hm rfl (fun r w20 cnt hr0 hrg hb20=>?_))
 replace hp:=hp.newc hb20 hr0 hrg.lt
 replace hLL:=hLL.new hb20
 replace hx2:=hx2.new hb20
 replace hx3:=hx3.new hb20
 replace hr4:=hr4.new hb20
 refine zae (zaf (zav ?_))
 have hrne:=hrg.ne
 have hr4l:=hr4.lt
 have hobt:∃ L3,r::g4::jb::mw::L=L3:=⟨_,rfl⟩
 obtain⟨L3,hL3⟩:=hobt
 have hp3:Two (GZ q N G V k) Y lo L3 w20:=by rw[←hL3];exact hp
 have hmem:r∈L3∧g4∈L3∧mw∈L3∧∀ b∈L,b∈L3:=by rw[←hL3];exact⟨ay,ay,ay,fun b hb=>by simp[hb]⟩
 obtain⟨hrL,h4L,hmL,hLs⟩:=hmem
 have hL2s:∀ b∈L2,b∈L3:=fun b hb=>hLs b (hL2 b hb)
 have haL:=hLs _ ha
 have hbL:=hLs _ hb
 have heL:=hLs _ he
 refine zbq (α:=Nat × (Nat→Pg) × (Nat→Bool)) (cnt,G,fun i=>(zdG c i).isSome) (fun _=>[(1, .pointer (some ⟨gb,0,none⟩)),(2, .pointer (some ⟨ge,0,none⟩)),(4, .pointer (some ⟨g4,0,none⟩)),(20, .pointer (some ⟨r,0,none⟩))])
   (fun s w'=>zlQ Tryz.prog 3 w' mw r N (zdG c) s.2.2 s.1∧(∀ n,n<N→s.2.2 n=false→s.2.1 n=G0 n)∧Two (GZ q N s.2.1 V k) Y lo L3 w'∧row w' gb [.pointer (some ⟨q,0,none⟩)] 25∧row w' ge [v0] 39∧row w' g4 [.int .i64 e] 160∧LoL lo L2 w w') (fun s=>s.1)
   ⟨rfl,rfl,rfl,rfl,rfl⟩ ⟨hrg,fun n hn hl=>?_,hp3,hx2,hx3,hr4,hLL⟩ ?_
 · refine(hwas.no n hn ?_)
   dsimp only at hl
   cases hc:c n with
   |none=>rfl
   |some x=>unfold zdG at hl;rw[hc]at hl;cases hl
 clear hx2 hx3 hr4 hLL hrg
 rintro⟨cn,Gi,left⟩ f0 wr ⟨hrg,hdn,hp,hx2,hx3,hr4,hLL⟩
 dsimp only at hrg hdn hp ⊢
 refine zah (zaa (zaD rfl (zqO aa hrg rfl (fun hdone=>?_) (fun i v w902 cntN hiN hleftN hfN hrgN hltN hoN henN=>?_))))
 ·
  refine zad (zai rfl rfl) (zae (zaf (zah (zjG rfl (rfl) (zbh (zbC (zbH (zbl (zaf ?_)))))))))
  have hp2:=(zhV hp fun B hB=>GZ.congr hB (G':=G0) fun n hn=>hdn n hn (hdone n hn))
  refine zaa (zad (zaw 0) (zad (zau hr4) (zaK rfl (zbn hx3 (fun w903 hx3 ho903=>?_)))))
  replace hLL:=hLL.oq ho903
  replace hp2:=hp2.only ho903 ai
  refine zae (zaP (zhO [] trivial ?_))
  exact⟨hp2.weak hLs,hx3,hLL⟩
 ·
  obtain⟨x,hx,hv⟩:∃ x,c i=some x∧v= .agg (bv x).toArray:=by
    unfold zdG at hfN
    cases hc:c i with
    |none=>rw[hc]at hfN;cases hfN
    |some x=>rw[hc]at hfN;exact⟨x,rfl,(Option.some.inj hfN).symm⟩
  subst hv
  have hxl:=hwas.len i x hx
  have hxbl:(bv x).length=512:=by rw[zal];exact hxl
  have hx0:=(hwas.yes i x hx).2
  have hpu:=fun L' w' (h':Two (GZ q N Gi V k) Y lo L' w')=>gPut h' i hiN hxl
  replace hp:=hp.only hoN (.inr hrL)
  replace hx2:=hx2.only hoN (fun e=>by have:=hrgN.lt;omega)
  replace hx3:=hx3.only hoN ae
  replace hr4:=hr4.only hoN ae
  replace hLL:=hLL.only hoN aG
  have zr:=hrgN.lt
  have zm:=hrgN.map.lt
  refine zad (zai rfl rfl) (zae (zaf (zah (zjU rfl (rfl) (zat (zaf (zav (zah (zaa (zad (zqP rfl henN) (zad (zai rfl rfl) (zad (zai rfl rfl) (zaD rfl (zar (List.replicate 512 (Value.int .u8 0)) aa (fun g7 w7 hg7 hr7 hb7=>?_)))))))))))))))
  have lt_gb_g7:gb<g7:=Nat.lt_of_lt_of_le hx2.lt hg7
  have lt_ge_g7:ge<g7:=Nat.lt_of_lt_of_le hx3.lt hg7
  have lt_g4_g7:g4<g7:=Nat.lt_of_lt_of_le hr4.lt hg7
  replace hp:=hp.newc hb7 hg7 hr7.lt
  replace hLL:=hLL.new hb7
  replace hx2:=hx2.new hb7
  replace hx3:=hx3.new hb7
  replace hr4:=hr4.new hb7
  replace hrgN:=hrgN.new hb7
  refine zad (zac) (zaK rfl (zaQ 512 (bv x) hr7 (fun w904 hr7 ho904=>?_)))
  replace hp:=hp.only ho904 ai
  replace hLL:=hLL.oq ho904
  replace hx2:=hx2.only ho904 (Nat.ne_of_lt lt_gb_g7)
  replace hx3:=hx3.only ho904 (Nat.ne_of_lt lt_ge_g7)
  replace hr4:=hr4.only ho904 (Nat.ne_of_lt lt_g4_g7)
  replace hrgN:=hrgN.only ho904 ae
  refine zae (zaf (zaa (zad (zau hx2) (zad (zab) (zad (za7 512 hr7) (zao rfl (zaj aa rfl) (hpu _ w904 hp) ?_))))))
  rintro _ w29 ⟨rfl,hp,hb29⟩
  replace hrgN:=hrgN.kpd hb29.kp ⟨zam (.inr (by simp[hmL])),zam (.inr (by simp[hrL]))⟩
  replace hLL:=hLL.ll hb29 (fun b hb=>List.mem_cons_of_mem _ (hL2s b hb))
  replace hx2:=hx2.kl hb29
  replace hx3:=hx3.kl hb29
  replace hr4:=hr4.kl hb29
  refine zae (zaP (za2 ⟨(cntN,ze9 Gi i x,fun j=>left j && !decide (j=i)),hltN,⟨rfl,rfl,rfl,rfl,rfl⟩,hrgN,fun n hn hl=>?_,hp.weak (fun b hb=>by simp[hb]),hx2,hx3,hr4,hLL⟩))
  dsimp only at hl ⊢
  unfold ze9
  by_cases hni:n=i
  · rw[if_pos hni,hni,hx0]
  · rw[if_neg hni]
    refine hdn n hn ?_
    rw[decide_eq_false hni]at hl
    simpa using hl
end
theorem zps{P:Program}{f:FuncId}{args:Array Value}{w:World}{A:Value→World→Prop}(h:Calls P f args w (zg2 A fun _ _=>False)):Calls P f args w (Ret A):=
 h.mono fun e w' h=>by
  cases e with
  |returned v=>exact⟨v,rfl,h⟩
  |panicked c=>exact h.elim
  |outgrown=>exact h.elim
structure HR(N:Nat)(G:Nat→Pg)(H:HS)(fl:List Nat):Prop where
 ok:HOk N H fl
 g0:G 0=zay (zc6 H.F)
 s:∀ n,1≤n→n<H.F.fresh→G n=zay (H.S n)
 z:∀ n,H.F.fresh≤n→n<N→G n=zb8
theorem fst_one(F:Fst):∀ v∈zh6 F,Value.oneCell' v=true:=fun v hv=>by
 simp only[zh6,List.mem_cons,List.not_mem_nil,or_false]at hv
 rcases hv with rfl|rfl|rfl|rfl|rfl<;>rfl
theorem zjw.nil{N:Nat}{G:Nat→Pg}:zjw N G G noP:=⟨(fun n x h=>nomatch h),fun n _ _=>rfl,(fun n x h=>nomatch h)⟩
def fi(F:Fst):List Int:=[(F.fresh:Int),(F.free:Int),(F.many:Int),(F.records:Int),(F.root:Int)]
theorem fi_inj{F F':Fst}(h:fi F=fi F'):F=F':=by
 simp only[fi,List.cons.injEq,and_true]at h
 obtain⟨h1,h2,h3,h4,h5⟩:=h
 cases F;cases F'
 simp only[Fst.mk.injEq]at*
 omega
section
variable {ρ:Env}{w:World}{rs:List ResultVar}{A:Value→World→Prop}{B:List PanicEntry→World→Prop}
theorem zmL{a b c:Value}(hms:ρ.ms=[.fn 111 [a,b,c] []])(h:∀ w',Below w.heap.size w w'→∃ vs,zh8 Tryz.prog w' ρ rs vs∧A (pack vs) w'):zkR Tryz.prog rs A B .ret ρ w:=by
 show zdP Tryz.prog rs A B ρ ρ.ms .returning w
 rw[hms]
 refine⟨ay,aa,(undoN a b c w).mono ?_⟩
 rintro e u' w' ⟨rfl,v,rfl,hb⟩
 exact h w' hb
theorem zqQ {Y:World→List Nat→Prop} [Thing Y] {q jb mw N lo:Nat} {L:List Nat} {G0 G V:Nat→Pg} {k:Nat} {F:Fst} (e:Int) (ga gb ge:Nat) (v0:Value) (hms:ρ.ms=[.fn 111 [.pointer (some ⟨ga,0,none⟩), .pointer (some ⟨gb,0,none⟩), .pointer (some ⟨ge,0,none⟩)] []])
  (h:Two (JZ q jb mw N G0 G V k F) Y lo L w) (ra:row w ga [.pointer (some ⟨jb,0,none⟩)] 81) (rb:row w gb [.pointer (some ⟨q,0,none⟩)] 25) (re:row w ge [v0] 39)
  (ha:ga∈L) (hb:gb∈L) (he:ge∈L) (hab:ge≠ga∧ge≠gb) (hlo:lo≤ge) {L2:List Nat} (hL2:∀ b∈L2,b∈L) (h2:ge∉L2)
  (hA:∀ w',Two (GZ q N G0 V k) Y lo L w'→row w' ge [.int .i64 e] 39→LoL lo L2 w w'→∃ vs,zh8 Tryz.prog w' ρ rs vs∧A (pack vs) w'):zkR Tryz.prog rs A B (.panic (pe (zdp e))) ρ w:=by
 show zdP Tryz.prog rs A B ρ ρ.ms (.panicking (pe (zdp e))) w
 rw[hms]
 refine⟨ay,aa,(undoP e ga gb ge v0 h ra rb re ha hb he hab hlo hL2 h2).mono ?_⟩
 rintro en u' w' ⟨rfl,v,rfl,h3,h4,h5⟩
 exact hA w' h3 h4 h5
end
section
variable {Y:World→List Nat→Prop}[hYT:Thing Y]{q N lo:Nat}{L:List Nat}{G V:Nat→Pg}{k:Nat}{H:HS}{fl:List Nat}{w:World}
set_option maxRecDepth 20000 in
set_option maxHeartbeats 1000000 in
theorem run64 (h:Two (GZ q N G V k) Y lo L w) (hR:HR N G H fl) (kf:Nat) (caps:List Value) (hcan:zcC Tryz.prog kf=true)
   (A:HS→List Nat→(World→List Nat→Prop)→Prop) (E:Int→(World→List Nat→Prop)→Prop) (hAT:∀ H' fl' Y',A H' fl' Y'→Thing Y') (hET:∀ e Y',E e Y'→Thing Y') (hAF:∀ H' fl' Y',A H' fl' Y'→H.F.fresh≤H'.F.fresh)
   (hdo:∀ jb mw L' w',(∀ b∈L,b∈L')→LoL lo L w w'→JH q jb mw N G V k H fl Y lo L' w'→Calls Tryz.prog kf (.pointer (some ⟨jb,0,none⟩)::caps).toArray w'
     (zg2 (fun _ w2=>∃ H' fl' Y',A H' fl' Y'∧JH q jb mw N G V k H' fl' Y' lo L' w2∧LoL lo L' w' w2) (fun c w2=>∃ e Y',E e Y'∧c=pe (zdp e)∧JF q jb mw N G V k Y' lo L' w2∧LoL lo L' w' w2))):
   Calls Tryz.prog 64 [.pointer (some ⟨q,0,none⟩), .func (.func kf) #[] caps.toArray].toArray w (Ret fun v w'=>(∃ H' fl' Y' G',A H' fl' Y'∧v= .int .i64 0∧HR N G' H' fl'∧Two (GZ q N G' V k) Y' lo L w'∧LoL lo L w w')∨
     (∃ e Y',E e Y'∧v= .int .i64 e∧Two (GZ q N G V k) Y' lo L w'∧LoL lo L w w')):=by
 have hgl:=zjv h
 have hN:=hgl.1
 have hfst:=hR.ok.fst hN
 have hget:=fun L' w' (h':Two (GZ q N G V k) Y lo L' w')=>gGet h' 0 ae
 have hpg:=fun L' w' (h':Two (GZ q N G V k) Y lo L' w')=>zkU h'
 have hfo:=fun w'=>znE H.F N hfst w'
 have hQl:=zaR (zdE H.F)
 rw[hR.g0]at hget
 obtain⟨Q,hQ⟩:∃ Q,zay (zc6 H.F)=Q:=⟨_,rfl⟩
 simp only[hQ]at hget hfo hQl
 have hF1:=fst_one H.F
 have hFl:(zh6 H.F).length=5:=rfl
 have hLt:∀ b∈L,b<w.heap.size:=h.lt
 have hlo0:=h.lo
 have hLL:=LoL.refl lo L w
 refine zps (zb6 (fn:=Tryz.f64) (rs:=[.cell 4 39]) (n:=48) Tryz.func64 rfl rfl Tryz.ntmps64 aa rfl (zah (zaa (zaD rfl (za4 ([_]) rfl (fun g2 w2 hg2 hr2 hb2=>?_))))))
 have sz_g2:=hLL.size
 replace h:=h.newc hb2 hg2 hr2.lt
 replace hLL:=hLL.new hb2
 refine zaD rfl (zar ([Value.int .i64 0]) aa (fun g4 w4 hg4 hr4 hb4=>?_))
 have lt_g2_g4:g2<g4:=Nat.lt_of_lt_of_le hr2.lt hg4
 replace h:=h.newc hb4 hg4 hr4.lt
 replace hLL:=hLL.new hb4
 replace hr2:=hr2.new hb4
 refine zae (zaf (zah (zaa (zad (zau hr2) (zao rfl (zaj aa rfl) (hget _ w4 h) ?_)))))
 rintro _ w11 ⟨rfl,h,hb11⟩
 replace hLL:=hLL.lq hb11
 replace hr2:=hr2.kl hb11
 replace hr4:=hr4.kl hb11
 refine zad (zab) (zad (zai rfl rfl) (zad (zai rfl rfl) (zaD rfl (zar (List.replicate 512 (Value.int .u8 0)) aa (fun g5 w5 hg5 hr5 hb5=>?_)))))
 have lt_g2_g5:g2<g5:=Nat.lt_of_lt_of_le hr2.lt hg5
 have lt_g4_g5:g4<g5:=Nat.lt_of_lt_of_le hr4.lt hg5
 replace h:=h.newc hb5 hg5 hr5.lt
 replace hLL:=hLL.new hb5
 replace hr2:=hr2.new hb5
 replace hr4:=hr4.new hb5
 refine zaK rfl (zaQ 512 (bv Q) hr5 (fun w901 hr5 ho901=>?_))
 replace h:=h.only ho901 ai
 replace hLL:=hLL.oq ho901
 replace hr2:=hr2.only ho901 (Nat.ne_of_lt lt_g2_g5)
 replace hr4:=hr4.only ho901 (Nat.ne_of_lt lt_g4_g5)
 refine zaK rfl (zbn hr4 (fun w902 hr4 ho902=>?_))
 replace h:=h.only ho902 ai
 replace hLL:=hLL.oq ho902
 replace hr2:=hr2.only ho902 (Nat.ne_of_lt lt_g2_g4)
 replace hr5:=hr5.only ho902 (Nat.ne_of_gt lt_g4_g5)
 refine zae (zaf (zah (zah (zaa (zad (zau hr4) (zad (zaX rfl rfl) (zae (zaf (zcF rfl (aD) (zat (zaf (zgQ (α:=Nat) (fun g6=>[(1, .func (.func kf) #[] caps.toArray),(2, .pointer (some ⟨g2,0,none⟩)),(4, .pointer (some ⟨g4,0,none⟩)),(6, .pointer (some ⟨g6,0,none⟩)),(7, .bool true)]) (fun g6 w'=>row w' g6 (zh6 H.F) 83∧Two (GZ q N G V k) Y lo (g6::g5::g4::g2::L) w'∧row w' g2 [.pointer (some ⟨q,0,none⟩)] 25∧row w' g4 [.int .i64 0] 39∧LoL lo L w w'∧g5<w'.heap.size) ?_ ?_))))))))))))
 ·
  refine za3 [] aa ?_
  intro w903 hb903 hS903
  replace h:=h.new hb903
  replace hLL:=hLL.new hb903
  replace hr2:=hr2.new hb903
  replace hr4:=hr4.new hb903
  replace hr5:=hr5.new hb903
  have h_d903:=h
  have hLL_d903:=hLL
  have hr2_d903:=hr2
  have hr4_d903:=hr4
  have hr5_d903:=hr5
  refine zbo 0 (fun w' hS'=>zaG rfl (Ld.zb9 (k:=512) (hr5_d903.kq hS') aa aa hQl)) (zbo 1 (fun w' hS'=>zau (hr2_d903.kq hS')) (zcA 2 7 aa ?_ ?_))
  ·
   refine zaU rfl rfl (zaj aa rfl) (hpg _ w903 h) ?_
   rintro _ w20 ⟨rfl,hb20⟩
   have hS904:=hS903.add0 hb20
   refine⟨hS904,?_⟩
   replace h:=h.new hb20
   replace hLL:=hLL.new hb20
   replace hr2:=hr2.new hb20
   replace hr4:=hr4.new hb20
   replace hr5:=hr5.new hb20
   refine zcA 3 7 aa ?_ ?_
   ·
    refine zaU rfl rfl (zaj aa rfl) (hfo w20) ?_
    rintro _ w21 ⟨rfl,hb21⟩
    have hS905:=hS904.add0 hb21
    refine⟨hS905,?_⟩
    replace h:=h.new hb21
    replace hLL:=hLL.new hb21
    replace hr2:=hr2.new hb21
    replace hr4:=hr4.new hb21
    replace hr5:=hr5.new hb21
    refine zas 4 (zab) (zas 5 (zai rfl rfl) (zas 6 (zai rfl rfl) (zaA 7 aa (zby rfl rfl (zar ([Value.int .i64 0,Value.int .i64 0,Value.int .i64 0,Value.int .i64 0,Value.int .i64 0]) aa (fun g6 w6 hg6 hr6 hb6=>?_))))))
    have hS906:=hS905.add0 hb6
    refine⟨hS906,?_⟩
    have ge_hS905_g6:=Nat.le_trans hS905.size hg6
    have lt_g2_g6:g2<g6:=Nat.lt_of_lt_of_le hr2.lt hg6
    have lt_g4_g6:g4<g6:=Nat.lt_of_lt_of_le hr4.lt hg6
    have lt_g5_g6:g5<g6:=Nat.lt_of_lt_of_le hr5.lt hg6
    replace h:=h.newc hb6 hg6 hr6.lt
    replace hLL:=hLL.new hb6
    replace hr2:=hr2.new hb6
    replace hr4:=hr4.new hb6
    replace hr5:=hr5.new hb6
    refine zaA 8 aa (zbB rfl rfl (zaQ 5 (zh6 H.F) hr6 (fun w908 hr6 ho908=>?_)))
    have hS907:=hS906.aq ho908
    refine⟨hS907,?_⟩
    replace h:=h.only ho908 ai
    replace hLL:=hLL.oq ho908
    replace hr2:=hr2.only ho908 (Nat.ne_of_lt lt_g2_g6)
    replace hr4:=hr4.only ho908 (Nat.ne_of_lt lt_g4_g6)
    replace hr5:=hr5.only ho908 (Nat.ne_of_lt lt_g5_g6)
    refine zas 9 (zac) (zaI aa (za2 ⟨g6,⟨rfl,rfl,rfl,rfl,rfl,rfl⟩,hr6,h.weak (fun b hb=>hb),hr2,hr4,hLL,hr5.lt⟩))
   ·
    refine zby rfl rfl (zar ([Value.int .i64 0,Value.int .i64 0,Value.int .i64 0,Value.int .i64 0,Value.int .i64 0]) aa (fun g6 w6 hg6 hr6 hb6=>?_))
    have hS909:=hS904.add0 hb6
    refine⟨hS909,?_⟩
    have ge_hS904_g6:=Nat.le_trans hS904.size hg6
    have lt_g2_g6:g2<g6:=Nat.lt_of_lt_of_le hr2.lt hg6
    have lt_g4_g6:g4<g6:=Nat.lt_of_lt_of_le hr4.lt hg6
    have lt_g5_g6:g5<g6:=Nat.lt_of_lt_of_le hr5.lt hg6
    replace h:=h.newc hb6 hg6 hr6.lt
    replace hLL:=hLL.new hb6
    replace hr2:=hr2.new hb6
    replace hr4:=hr4.new hb6
    replace hr5:=hr5.new hb6
    refine zaA 3 aa (zaU rfl rfl (zaj aa rfl) (hfo w6) ?_)
    rintro _ w21 ⟨rfl,hb21⟩
    have hS910:=hS909.add0 hb21
    refine⟨hS910,?_⟩
    replace h:=h.new hb21
    replace hLL:=hLL.new hb21
    replace hr2:=hr2.new hb21
    replace hr4:=hr4.new hb21
    replace hr5:=hr5.new hb21
    replace hr6:=hr6.new hb21
    refine zas 4 (zab) (zas 5 (zai rfl rfl) (zas 6 (zai rfl rfl) (zaA 8 aa (zbB rfl rfl (zaQ 5 (zh6 H.F) hr6 (fun w912 hr6 ho912=>?_))))))
    have hS911:=hS910.aq ho912
    refine⟨hS911,?_⟩
    replace h:=h.only ho912 ai
    replace hLL:=hLL.oq ho912
    replace hr2:=hr2.only ho912 (Nat.ne_of_lt lt_g2_g6)
    replace hr4:=hr4.only ho912 (Nat.ne_of_lt lt_g4_g6)
    replace hr5:=hr5.only ho912 (Nat.ne_of_lt lt_g5_g6)
    refine zas 9 (zac) (zaI aa (za2 ⟨g6,⟨rfl,rfl,rfl,rfl,rfl,rfl⟩,hr6,h.weak (fun b hb=>hb),hr2,hr4,hLL,hr5.lt⟩))
  ·
   refine zby rfl rfl (zar ([Value.int .i64 0,Value.int .i64 0,Value.int .i64 0,Value.int .i64 0,Value.int .i64 0]) aa (fun g6 w6 hg6 hr6 hb6=>?_))
   have hS913:=hS903.add0 hb6
   refine⟨hS913,?_⟩
   have ge_hS903_g6:=Nat.le_trans hS903.size hg6
   have lt_g2_g6:g2<g6:=Nat.lt_of_lt_of_le hr2.lt hg6
   have lt_g4_g6:g4<g6:=Nat.lt_of_lt_of_le hr4.lt hg6
   have lt_g5_g6:g5<g6:=Nat.lt_of_lt_of_le hr5.lt hg6
   replace h:=h.newc hb6 hg6 hr6.lt
   replace hLL:=hLL.new hb6
   replace hr2:=hr2.new hb6
   replace hr4:=hr4.new hb6
   replace hr5:=hr5.new hb6
   refine zaA 2 aa (zaU rfl rfl (zaj aa rfl) (hpg _ w6 h) ?_)
   rintro _ w20 ⟨rfl,hb20⟩
   have hS914:=hS913.add0 hb20
   refine⟨hS914,?_⟩
   replace h:=h.new hb20
   replace hLL:=hLL.new hb20
   replace hr2:=hr2.new hb20
   replace hr4:=hr4.new hb20
   replace hr5:=hr5.new hb20
   replace hr6:=hr6.new hb20
   refine zaA 3 aa (zaU rfl rfl (zaj aa rfl) (hfo w20) ?_)
   rintro _ w21 ⟨rfl,hb21⟩
   have hS915:=hS914.add0 hb21
   refine⟨hS915,?_⟩
   replace h:=h.new hb21
   replace hLL:=hLL.new hb21
   replace hr2:=hr2.new hb21
   replace hr4:=hr4.new hb21
   replace hr5:=hr5.new hb21
   replace hr6:=hr6.new hb21
   refine zas 4 (zab) (zas 5 (zai rfl rfl) (zas 6 (zai rfl rfl) (zaA 8 aa (zbB rfl rfl (zaQ 5 (zh6 H.F) hr6 (fun w917 hr6 ho917=>?_))))))
   have hS916:=hS915.aq ho917
   refine⟨hS916,?_⟩
   replace h:=h.only ho917 ai
   replace hLL:=hLL.oq ho917
   replace hr2:=hr2.only ho917 (Nat.ne_of_lt lt_g2_g6)
   replace hr4:=hr4.only ho917 (Nat.ne_of_lt lt_g4_g6)
   replace hr5:=hr5.only ho917 (Nat.ne_of_lt lt_g5_g6)
   refine zas 9 (zac) (zaI aa (za2 ⟨g6,⟨rfl,rfl,rfl,rfl,rfl,rfl⟩,hr6,h.weak (fun b hb=>hb),hr2,hr4,hLL,hr5.lt⟩))
 ·
  rintro g6 f6 w6 ⟨hr6,h,hr2,hr4,hLL,hl5⟩
  have hl2:=hr2.lt
  have hl4:=hr4.lt
  have hl6:=hr6.lt
  refine zah (zah (zaa (zad (zab) (zad (zbK rfl) (zae (zaf (zgl rfl (rfl) (zat (zaf (zah (zaa (zad (zaG rfl (Ld.zb9 (k:=5) hr6 aa aa rfl)) (zad (zau hr2) (zaD rfl (zeY (k:=3) N (fun m28 w28 hg28 hm28 hb28=>?_))))))))))))))))
  replace h:=h.newc hb28 hg28 hm28.lt
  replace hLL:=hLL.new hb28
  replace hr2:=hr2.new hb28
  replace hr4:=hr4.new hb28
  replace hr6:=hr6.new hb28
  refine zad (zhI (.agg (zh6 H.F).toArray) (.pointer (some ⟨q,0,none⟩)) (.map (some m28)) (jV H.F q m28) rfl rfl rfl aa) ?_
  have hlm:=hm28.lt
  refine zaD rfl (za4 (jV H.F q m28) rfl (fun g30 w30 hg30 hr30 hb30=>?_))
  have lt_g2_g30:g2<g30:=Nat.lt_of_lt_of_le hr2.lt hg30
  have lt_g4_g30:g4<g30:=Nat.lt_of_lt_of_le hr4.lt hg30
  have lt_g6_g30:g6<g30:=Nat.lt_of_lt_of_le hr6.lt hg30
  have lt_m28_g30:m28<g30:=Nat.lt_of_lt_of_le hm28.lt hg30
  replace h:=h.newc hb30 hg30 hr30.lt
  replace hLL:=hLL.new hb30
  replace hr2:=hr2.new hb30
  replace hr4:=hr4.new hb30
  replace hr6:=hr6.new hb30
  replace hm28:=hm28.new hb30
  replace hr30:row w30 g30 (jV H.F q m28) 86:=hr30
  have hl30:=hr30.lt
  refine zaD rfl (zar ([Value.pointer none]) aa (fun g8 w8 hg8 hr8 hb8=>?_))
  have lt_g2_g8:g2<g8:=Nat.lt_of_lt_of_le hr2.lt hg8
  have lt_g4_g8:g4<g8:=Nat.lt_of_lt_of_le hr4.lt hg8
  have lt_g6_g8:g6<g8:=Nat.lt_of_lt_of_le hr6.lt hg8
  have lt_m28_g8:m28<g8:=Nat.lt_of_lt_of_le hm28.lt hg8
  have lt_g30_g8:g30<g8:=Nat.lt_of_lt_of_le hr30.lt hg8
  replace h:=h.newc hb8 hg8 hr8.lt
  replace hLL:=hLL.new hb8
  replace hr2:=hr2.new hb8
  replace hr4:=hr4.new hb8
  replace hr6:=hr6.new hb8
  replace hm28:=hm28.new hb8
  replace hr30:=hr30.new hb8
  refine zaK rfl (zbn hr8 (fun w918 hr8 ho918=>?_))
  replace h:=h.only ho918 ai
  replace hLL:=hLL.oq ho918
  replace hr2:=hr2.only ho918 (Nat.ne_of_lt lt_g2_g8)
  replace hr4:=hr4.only ho918 (Nat.ne_of_lt lt_g4_g8)
  replace hr6:=hr6.only ho918 (Nat.ne_of_lt lt_g6_g8)
  replace hm28:=hm28.only ho918 (Nat.ne_of_lt lt_m28_g8)
  replace hr30:=hr30.only ho918 (Nat.ne_of_lt lt_g30_g8)
  refine zae (zaf (zah ?_))
  have hl8:=hr8.lt
  have hls:=hLL.size
  have hJ:∃ L9,(∀ b∈L,b∈L9)∧g8∈L9∧g6∈L9∧g4∈L9∧g2∈L9∧JH q g30 m28 N G V k H fl Y lo L9 w918:=⟨g8::g6::g5::g4::g2::L,fun b hb=>by simp[hb],ay,ay,ay,ay,hR.ok,G,⟨hR.s,rfl,fun _ _=>rfl⟩,zjx (c:=noP) (h.weak fun b hb=>by
    simp only[List.mem_cons]at hb ⊢
    rcases hb with h|h|h|h|h|h|h|h<;>simp[h]) hr30 hm28 zjw.nil ae ⟨ae,fun hm=>by
    simp only[List.mem_cons]at hm
    rcases hm with h|h|h|h|h|h
    · omega
    · omega
    · omega
    · omega
    · omega
    · have:=hLt _ h;omega⟩ ⟨ae,fun hm=>by
    simp only[List.mem_cons]at hm
    rcases hm with h|h|h|h|h|h
    · omega
    · omega
    · omega
    · omega
    · omega
    · have:=hLt _ h;omega⟩⟩
  obtain⟨L9,hLs,h8L,h6L,h4L,h2L,hJ⟩:=hJ
  have h4n:g4∉L:=fun hm=>by have:=hLt _ hm;omega
  refine zaa (zad (zbm) (zqG (fun _ h=>h) rfl rfl (zae (zaf (zah (zaa (zad (zab) (zad (zau hr8) (zcQ rfl (zbZ hcan rfl rfl) (hdo g30 m28 _ w918 hLs hLL hJ) ((fun c w' ⟨e,Y2,hE,hc,⟨G2,F2,hT2⟩,hl⟩=>by subst hc;haveI:=hET _ _ hE;exact zqQ e g8 g2 g4 _ rfl hT2 (hr8.kl hl (.inr h8L)) (hr2.kl hl (.inr h2L)) (hr4.kl hl (.inr h4L)) h8L h2L h4L ⟨ae,ae⟩ ae hLs h4n (fun w3 h3 h4 h5=>⟨[_],⟨⟨_,rfl,Ld.zeC h4 aa rfl⟩,trivial⟩, .inr ⟨e,Y2,hE,rfl,h3.weak hLs,(hLL.ll hl hLs).ll h5 (fun b hb=>hb)⟩⟩))) ?_)))))))))
  rintro _ w34 ⟨H2,fl2,Y2,hA2,hJ2,hb34⟩
  haveI:=hAT _ _ _ hA2
  replace hLL:=hLL.ll hb34 hLs
  replace hr2:=hr2.kl hb34
  replace hr4:=hr4.kl hb34
  replace hr6:=hr6.kl hb34
  replace hr8:=hr8.kl hb34
  refine zae (zaf (zah (zah ?_)))
  obtain⟨hH2,G2,hG2,hT2⟩:=hJ2
  have hobt:=zbL hT2
  obtain⟨c2,hA9⟩:=hobt
  have hj2:=hA9.row
  have hld:∀ w',row w' g30 (jV H2.F q m28) 86→Ld Tryz.prog w' 83 ⟨g30,0,none⟩ (.agg (zh6 H2.F).toArray):=fun w' hr=>Ld.rowN (k:=5) hr aa aa (by show 0+5≤7;omega)
  have hpg2:=fun w'=>zpp H2.F w'
  have hPl:=zbv (zc6 H2.F) (zdE H2.F).size
  have hset:=fun L' w' (h':Two (JZ q g30 m28 N G G2 V k H2.F) Y2 lo L' w')=>ziM h' 0 ae (zay (zc6 H2.F)) hPl
  have h30:=hA9.jl.1
  refine za3 [] aa ?_
  intro w919 hb919 hS919
  replace hLL:=hLL.new hb919
  replace hr2:=hr2.new hb919
  replace hr4:=hr4.new hb919
  replace hr6:=hr6.new hb919
  replace hr8:=hr8.new hb919
  replace hT2:=hT2.new hb919
  replace hj2:=hj2.new hb919
  have hLL_d919:=hLL
  have hr2_d919:=hr2
  have hr4_d919:=hr4
  have hr6_d919:=hr6
  have hr8_d919:=hr8
  have hT2_d919:=hT2
  have hj2_d919:=hj2
  refine zbo 0 (fun w' hS'=>zau (hr8_d919.kq hS')) (zas 1 (zak rfl) (zas 2 (zaw 0) (zbo 3 (fun w' hS'=>zaG rfl (hld _ (hj2_d919.kpd hS' ah))) (zbo 4 (fun w' hS'=>zaG rfl (Ld.zb9 (k:=5) (hr6_d919.kq hS') aa aa rfl)) (zas 5 (rn_neqI (n:=5) (A:=fi H2.F) (B:=fi H.F) aa rfl rfl rfl rfl) (zaI aa (zaf (zjT rfl (fun hne=>?_) (fun hne=>?_)))))))))
  ·
   refine zct (lo) (L9) aa ?_
   intro w920 hb920 hn920 hS920
   replace hLL:=hLL.new hb920
   replace hr2:=hr2.new hb920
   replace hr4:=hr4.new hb920
   replace hr6:=hr6.new hb920
   replace hr8:=hr8.new hb920
   replace hT2:=hT2.new hb920
   replace hj2:=hj2.new hb920
   have hLL_d920:=hLL
   have hr2_d920:=hr2
   have hr4_d920:=hr4
   have hr6_d920:=hr6
   have hr8_d920:=hr8
   have hT2_d920:=hT2
   have hj2_d920:=hj2
   refine zbo 0 (fun w' hS'=>zau (hr8_d920.kL hS')) (zbo 1 (fun w' hS'=>zau (hr8_d920.kL hS')) (zas 2 (zak rfl) (zas 3 (zaw 0) (zaA 4 aa (zfP rfl rfl (zaG rfl (hld _ hj2)) hS920 (zaA 5 aa (zaU rfl rfl (zaj aa rfl) (hpg2 w920) ?_)))))))
   rintro _ w46 ⟨rfl,hb46⟩
   have hS922:=hS920.add0 hb46
   refine⟨hS922,?_⟩
   replace hLL:=hLL.new hb46
   replace hr2:=hr2.new hb46
   replace hr4:=hr4.new hb46
   replace hr6:=hr6.new hb46
   replace hr8:=hr8.new hb46
   replace hT2:=hT2.new hb46
   replace hj2:=hj2.new hb46
   refine zaA 6 aa (zaU rfl rfl (zaj aa rfl) (hset _ w46 hT2) ?_)
   rintro _ w47 ⟨hT3,hb47⟩
   replace hLL:=hLL.ll hb47 hLs
   have hS923:=hS922.zdh hn920 hb47.wk
   refine⟨hS923,?_⟩
   replace hr2:=hr2.kl hb47
   replace hr4:=hr4.kl hb47
   replace hr6:=hr6.kl hb47
   replace hr8:=hr8.kl hb47
   refine zaI aa (zaf (zah (zaa (zaK rfl (zbn hr4 (fun w924 hr4 ho924=>?_))))))
   replace hLL:=hLL.oq ho924
   replace hT3:=hT3.only ho924 ai
   refine zae (zaf (zaF (zmL rfl ?_)))
   have hobt:=zbL hT3
   obtain⟨c3,hA3⟩:=hobt
   rintro w9 hb9
   refine⟨[.int .i64 0],⟨⟨_,rfl,Ld.zeC (hr4.new hb9) aa rfl⟩,trivial⟩, .inl ⟨H2,fl2,Y2,_,hA2,rfl,⟨hH2,if_pos rfl,fun n h1 h2=>?_,fun n h1 h2=>?_⟩,(hA3.p.new hb9).weak fun b hb=>by simp[hLs b hb],hLL.new hb9⟩⟩
   · exact(if_neg ae).trans (hG2.s n h1 h2)
   · exact(if_neg (by have:=hH2.f1;omega)).trans ((hG2.u n h1).trans (hR.z n (Nat.le_trans (hAF _ _ _ hA2) h1) h2))
  ·
   refine zat (zaf (zah (zaa (zaK rfl (zbn hr4 (fun w925 hr4 ho925=>?_))))))
   replace hLL:=hLL.oq ho925
   replace hT2:=hT2.only ho925 ai
   refine zae (zaf (zaF (zmL rfl ?_)))
   have heq:H2.F=H.F:=fi_inj (by simpa using hne)
   have hobt:=zbL hT2
   obtain⟨c3,hA3⟩:=hobt
   rintro w9 hb9
   exact⟨[.int .i64 0],⟨⟨_,rfl,Ld.zeC (hr4.new hb9) aa rfl⟩,trivial⟩, .inl ⟨H2,fl2,Y2,_,hA2,rfl,⟨hH2,by rw[hG2.z0,hR.g0,heq],hG2.s,fun n h1 h2=>(hG2.u n h1).trans (hR.z n (Nat.le_trans (hAF _ _ _ hA2) h1) h2)⟩,(hA3.p.new hb9).weak fun b hb=>by simp[hLs b hb],hLL.new hb9⟩⟩
end
def zcV(Y:World→List Nat→Prop)(g:Nat)(l:List Value)(t:TypeId):World→List Nat→Prop:=fun w C=>∃ C1,C=g::C1∧Y w C1∧row w g l t∧g∉C1
instance(Y:World→List Nat→Prop)[hY:Thing Y](g:Nat)(l:List Value)(t:TypeId):Thing (zcV Y g l t):=
 ⟨fun {w w' B M} ⟨C1,e,h1,h2,h3⟩ k hM=>by
  subst e
  exact⟨C1,rfl,hY.kpd h1 k fun b hb=>hM b aH,h2.kpd k (hM g ay),h3⟩,fun {w B} ⟨C1,e,h1,h2,h3⟩ b hb=>by
  subst e
  rcases List.mem_cons.1 hb with rfl|hb
  ·exact h2.lt
  ·exact hY.lt h1 b hb⟩
section
variable {X Y:World→List Nat→Prop}[hX:Thing X][hYT:Thing Y]{lo g:Nat}{L:List Nat}{w w':World}{l l':List Value}{t:TypeId}
theorem zfH(h:Two X Y lo L w)(hb:Below w.heap.size w w')(hr:row w' g l t)(hg:w.heap.size≤g):Two X (zcV Y g l t) lo L w':=by
 have h':=h.new hb
 obtain⟨⟨B,C,h1,h2,h3,h4⟩,h5,h6⟩:=h
 have k:=Kp.of_below (M:=[]) hb
 refine⟨⟨B,g::C,hX.kpd h1 k fun b _ hm=>(by cases hm),⟨C,rfl,hYT.kpd h2 k fun b _ hm=>(by cases hm),hr,fun hm=>?_⟩,fun b hb'=>⟨(h3 b hb').1,fun hm=>?_,(h3 b hb').2.2⟩,fun b hb'=>?_⟩,h'.lo,h'.lt⟩
 ·have:=hYT.lt h2 g hm;omega
 ·rcases List.mem_cons.1 hm with e|hm
  ·have:=hX.lt h1 b hb';omega
  ·exact(h3 b hb').2.1 hm
 ·rcases List.mem_cons.1 hb' with rfl|hb'
  ·exact⟨ae,fun hm=>by have:=h6 _ hm;omega⟩
  ·exact h4 b hb'
omit hX hYT in
theorem zdr(h:Two X (zcV Y g l t) lo L w):row w g l t∧lo≤g∧g∉L:=by
 obtain⟨⟨B,C,_,⟨C1,rfl,_,h3,_⟩,_,h5⟩,_,_⟩:=h
 have:=h5 g ay
 exact⟨h3,this.1,this.2⟩
theorem zg6(h:Two X (zcV Y g l t) lo L w)(hr:row w' g l' t)(ho:Only g w w'):Two X (zcV Y g l' t) lo L w':=by
 obtain⟨⟨B,C,h1,⟨C1,rfl,h2,h3,h4⟩,h5,h6⟩,h7,h8⟩:=h
 have k:=Kp.zaZ ho
 refine⟨⟨B,g::C1,hX.kpd h1 k fun b hb hm=>?_,⟨C1,rfl,hYT.kpd h2 k fun b hb hm=>h4 (List.mem_singleton.1 hm▸hb),hr,h4⟩,h5,h6⟩,Nat.le_trans h7 k.size,fun b hb=>Nat.lt_of_lt_of_le (h8 b hb) k.size⟩
 exact(h5 b hb).2.1 (List.mem_singleton.1 hm▸by simp)
omit hX hYT in
theorem zds(h:Two X (zcV Y g l t) lo L w):Two X Y lo (g::L) w:=by
 obtain⟨⟨B,C,h1,⟨C1,rfl,h2,h3,h4⟩,h5,h6⟩,h7,h8⟩:=h
 refine⟨⟨B,C1,h1,h2,fun b hb=>⟨(h5 b hb).1,fun hm=>(h5 b hb).2.1 aQ,fun hm=>?_⟩,fun b hb=>⟨(h6 b aH).1,fun hm=>?_⟩⟩,h7,fun b hb=>?_⟩
 ·rcases List.mem_cons.1 hm with rfl|hm
  ·exact(h5 _ hb).2.1 ay
  ·exact(h5 b hb).2.2 hm
 ·rcases List.mem_cons.1 hm with rfl|hm
  ·exact h4 hb
  ·exact(h6 b aH).2 hm
 ·rcases List.mem_cons.1 hb with rfl|hb
  ·exact h3.lt
  ·exact h8 b hb
end
section
variable {Y:World→List Nat→Prop}[hYT:Thing Y]{q jb mw N lo g:Nat}{L:List Nat}{G0 V:Nat→Pg}{k:Nat}{H:HS}{fl:List Nat}{w w':World}{l l':List Value}{t:TypeId}
omit hYT in
theorem JH.cell(h:JH q jb mw N G0 V k H fl (zcV Y g l t) lo L w):row w g l t∧lo≤g∧g∉L:=let ⟨_,_,h2⟩:=h.ex;zdr h2
theorem JH.setc(h:JH q jb mw N G0 V k H fl (zcV Y g l t) lo L w)(hr:row w' g l' t)(ho:Only g w w'):JH q jb mw N G0 V k H fl (zcV Y g l' t) lo L w':=let ⟨G,h1,h2⟩:=h.ex;⟨h.ok,G,h1,zg6 h2 hr ho⟩
def pgH(H:HS):Nat→Pg:=fun n=>if n=0 then zay (zc6 H.F)else if n<H.F.fresh then zay (H.S n)else zb8
omit hYT in
theorem HOk.hr{N:Nat}{H:HS}{fl:List Nat}(h:HOk N H fl):HR N (pgH H) H fl:=by
 refine⟨h,if_pos rfl,fun n h1 h2=>?_,fun n h1 h2=>?_⟩
 ·unfold pgH;rw[if_neg ae,if_pos h2]
 ·have:=h.f1
  unfold pgH;rw[if_neg ae,if_neg ae]
omit hYT in
theorem HR.eq{N:Nat}{G:Nat→Pg}{H:HS}{fl:List Nat}(h:HR N G H fl){n:Nat}(hn:n<N):G n=pgH H n:=by
 unfold pgH
 split
 ·rename_i e;rw[e];exact h.g0
 ·split
  ·exact h.s n ae (by assumption)
  ·exact h.z n ae hn
omit hYT in
theorem HR.two{N:Nat}{G:Nat→Pg}{H:HS}{fl:List Nat}(h:HR N G H fl)(h2:Two (GZ q N G V k) Y lo L w):Two (GZ q N (pgH H) V k) Y lo L w:=zhV h2 fun _ hB=>GZ.congr hB fun _ hn=>h.eq hn
set_option maxRecDepth 20000 in
theorem zjB (hb : Nat) (h : Two (GZ q N (pgH H) V k) Y lo L w) (hH : HOk N H fl) (hr : row w hb [.pointer (some ⟨q, 0, none⟩)] 50) (kf : Nat) (caps : List Value) (hcan : zcC Tryz.prog kf = true)
  (A : HS → List Nat → (World → List Nat → Prop) → Prop) (E : Int → (World → List Nat → Prop) → Prop) (hAT : ∀ H' fl' Y', A H' fl' Y' → Thing Y') (hET : ∀ e Y', E e Y' → Thing Y') (hAF : ∀ H' fl' Y', A H' fl' Y' → H.F.fresh ≤ H'.F.fresh)
  (hdo : ∀ jb mw L' w', (∀ b ∈ L, b ∈ L') → LoL lo L w w' → JH q jb mw N (pgH H) V k H fl Y lo L' w' → Calls Tryz.prog kf (.pointer (some ⟨jb, 0, none⟩) :: caps).toArray w'
   (zg2 (fun _ w2 => ∃ H' fl' Y', A H' fl' Y' ∧ JH q jb mw N (pgH H) V k H' fl' Y' lo L' w2 ∧ LoL lo L' w' w2) (fun c w2 => ∃ e Y', E e Y' ∧ c = pe (zdp e) ∧ JF q jb mw N (pgH H) V k Y' lo L' w2 ∧ LoL lo L' w' w2))) :
  Calls Tryz.prog 34 [.pointer (some ⟨hb, 0, none⟩), .func (.func kf) #[] caps.toArray].toArray w (Ret fun v w' => (∃ H' fl' Y', A H' fl' Y' ∧ HOk N H' fl' ∧ v = .int .i64 0 ∧ Two (GZ q N (pgH H') V k) Y' lo L w' ∧ LoL lo L w w') ∨
   (∃ e Y', E e Y' ∧ v = .int .i64 e ∧ Two (GZ q N (pgH H) V k) Y' lo L w' ∧ LoL lo L w w')) := by
 have hde := gDead h
 have hrun := (run64 h hH.hr kf caps hcan A E hAT hET hAF hdo).to fun v w' hh => (show (∃ H' fl' Y', A H' fl' Y' ∧ HOk N H' fl' ∧ v = .int .i64 0 ∧ Two (GZ q N (pgH H') V k) Y' lo L w' ∧ LoL lo L w w') ∨
   (∃ e Y', E e Y' ∧ v = .int .i64 e ∧ Two (GZ q N (pgH H) V k) Y' lo L w' ∧ LoL lo L w w') from hh.imp (fun ⟨H', fl', Y', G', h1, h2, h3, h4, h5⟩ => ⟨H', fl', Y', h1, h3.ok, h2, h3.two h4, h5⟩) id)
 refine zax (fn := Tryz.f34) (rs := [.tmp 4]) (n := 25) Tryz.func34 rfl rfl Tryz.ntmps34 (by kernel_rfl) rfl (zah (zaa (zad (zac) (zae (zaf (zah (zah (zaa (zad (zab) (zad (zcY (by kernel_rfl) rfl rfl) (zad (zab) (WR_is 7 (.bool false) (rfl) (zaq rfl (zad (zab) (zaq rfl (zad (zak rfl) (zaq rfl (zad (zaw 0) (zaq rfl (zad (zau hr) (zaq rfl (zad (zcY (by kernel_rfl) rfl rfl) (zad (zaE rfl) (zae (zaf (zjG rfl (rfl) (zat (zaf (zah (zah (zaa (zad (zab) (zad (zak rfl) (zad (zaw 0) (zad (zau hr) (zao rfl (zaj (by kernel_rfl) rfl) (hde) ?_))))))))))))))))))))))))))))))))))))
 rintro _ _ ⟨rfl, rfl⟩
 refine zae (zaf (zjG rfl (rfl) (zat (zaf (zah (zaa (zad (zab) (zad (zak rfl) (zad (zaw 0) (zad (zau hr) (zad (zab) (zao rfl (zaj (by kernel_rfl) rfl) (hrun) ?_))))))))))))
 rintro _ w24 hb24
 refine zad (zac) (zae (zaf (zaF (zan [_] ⟨rfl, trivial⟩ ?_))))
 exact hb24
end
section
variable {Y:World→List Nat→Prop}[hYT:Thing Y]{q jb mw N lo:Nat}{L:List Nat}{G G0 V:Nat→Pg}{k:Nat}{H:HS}{fl:List Nat}{w:World}
set_option maxRecDepth 20000 in
theorem give50(g:Nat)(v0:Value)(h:JH q jb mw N G0 V k H fl (zcV Y g [v0] 3) lo L w):Calls Tryz.prog 50 [.pointer (some ⟨jb,0,none⟩), .pointer (some ⟨g,0,none⟩)].toArray w
  (zg2 (fun _ w'=>∃ n H' fl',zdj N H 3=some (n,H')∧zfh N H fl 3 n H' fl'∧JH q jb mw N G0 V k H' fl' (zcV Y g [.int .i64 (n:Int)] 3) lo L w'∧LoL lo L w w') (fun c w'=>zdj N H 3=none∧c=pe (zdp 8)∧JF q jb mw N G0 V k (zcV Y g [v0] 3) lo L w'∧LoL lo L w w')):=by
 have hLL:=LoL.refl lo L w
 have hg:=giveH h 3 ae
 refine zb6 (fn:=Tryz.f50) (rs:=[]) (n:=5) Tryz.func50 rfl rfl Tryz.ntmps50 aa rfl (zaa (zad (zab) (zcQ rfl (zaj aa rfl) (hg) ((fun c w' h=>zbs h)) ?_)))
 rintro _ w4 ⟨n,H2,fl2,hg2,hok,rfl,hJ,hb4⟩
 replace hLL:=hLL.lq hb4
 have hc:=hJ.cell
 obtain⟨hx1,hlo1,hnL1⟩:=hc
 refine zaK rfl (zbn hx1 (fun w901 hx1 ho901=>?_))
 replace hLL:=hLL.oq ho901
 have hJ2:=hJ.setc hx1 ho901
 refine zae (zem [] trivial ?_)
 exact⟨n,H2,fl2,hg2,hok,hJ2,hLL⟩
set_option maxRecDepth 20000 in
theorem giveM(hb:Nat)(h:Two (GZ q N (pgH H) V k) Y lo L w)(hH:HOk N H fl)(hr:row w hb [.pointer (some ⟨q,0,none⟩)] 50)(hbL:hb<lo∨hb∈L):
  Calls Tryz.prog 14 [.pointer (some ⟨hb,0,none⟩)].toArray w (Ret fun v w'=>((∃ n H' fl',zdj N H 3=some (n,H')∧zfh N H fl 3 n H' fl'∧v= .tuple #[.int .i64 (n:Int), .int .i64 0]∧Two (GZ q N (pgH H') V k) Y lo L w')∨
   (zdj N H 3=none∧v= .tuple #[.int .i64 0, .int .i64 8]∧Two (GZ q N (pgH H) V k) Y lo L w'))∧LoL lo L w w'):=by
 have hLL:=LoL.refl lo L w
 have hrun:∀ g W,row W hb [.pointer (some ⟨q,0,none⟩)] 50→Two (GZ q N (pgH H) V k) (zcV Y g [.int .i64 0] 3) lo L W→Calls Tryz.prog 34 [.pointer (some ⟨hb,0,none⟩), .func (.func 50) #[] [.pointer (some ⟨g,0,none⟩)].toArray].toArray W
   (Ret fun v w'=>∃ (e:Int) (n:Nat) (H':HS),v= .int .i64 e∧Two (GZ q N (pgH H') V k) (zcV Y g [.int .i64 (n:Int)] 3) lo L w'∧LoL lo L W w'∧((∃ fl',e=0∧zdj N H 3=some (n,H')∧zfh N H fl 3 n H' fl')∨(e=8∧n=0∧zdj N H 3=none∧H'=H))):=fun g W hr h=>by
  refine(zjB hb h hH hr 50 [.pointer (some ⟨g,0,none⟩)] aa (fun H' fl' Y'=>∃ n,zdj N H 3=some (n,H')∧zfh N H fl 3 n H' fl'∧Y'=zcV Y g [.int .i64 (n:Int)] 3) (fun e Y'=>zdj N H 3=none∧e=8∧Y'=zcV Y g [.int .i64 0] 3)
   (fun H' fl' Y' ⟨n,_,_,e⟩=>by subst e;infer_instance) (fun e Y' ⟨_,_,e2⟩=>by subst e2;infer_instance) (fun H' fl' Y' ⟨_,_,h2,_⟩=>h2.grow) fun jb mw L' w' hs hl hJ=>?_).to fun v w' h=>?_
  ·exact(give50 g _ hJ).zkQ (fun v w2 ⟨n,H',fl',h1,h2,h3,h4⟩=>⟨H',fl',_,⟨n,h1,h2,rfl⟩,h3,h4⟩) fun c w2 ⟨h1,h2,h3,h4⟩=>⟨8,_,⟨h1,rfl,rfl⟩,h2,h3,h4⟩
  ·rcases h with⟨H',fl',Y',⟨n,h1,h2,rfl⟩,h4,h3,h5,h6⟩|⟨e,Y',⟨h1,rfl,rfl⟩,h3,h5,h6⟩
   ·exact⟨0,n,H',h3,h5,h6, .inl ⟨fl',rfl,h1,h2⟩⟩
   ·exact⟨8,0,H,h3,h5,h6, .inr ⟨rfl,rfl,h1,rfl⟩⟩
 refine zax (fn:=Tryz.f14) (rs:=[.cell 2 3, .tmp 3]) (n:=9) Tryz.func14 rfl rfl Tryz.ntmps14 aa rfl (zah (zaa (zaD rfl (zar ([Value.int .i64 0]) aa (fun g2 w2 hg2 hr2 hb2=>?_)))))
 replace hLL:=hLL.new hb2
 replace hr:=hr.new hb2
 refine zad (zac) (zae (zaf (zah (zaa (zad (zab) (zad (zbm) ?_))))))
 have h2:=zfH (l:=[.int .i64 0]) (t:=3) h hb2 hr2 hg2
 have hls:=h.lo
 have hlt:=h.lt
 refine zao rfl (zaj aa rfl) (hrun g2 w2 hr h2) ?_
 rintro _ w6 ⟨e,n,H2,rfl,h3,hb6,hcase⟩
 replace hLL:=hLL.ll hb6 (fun b hb=>hb)
 refine zad (zac) (zae (zaf (zah ?_)))
 have hc:=zdr h3
 obtain⟨hx1,hlo1,hnL1⟩:=hc
 refine zaa (zad (zau hx1) (zad (zab) (zaK rfl (zbn hx1 (fun w901 hx1 ho901=>?_)))))
 replace hLL:=hLL.oq ho901
 have h4:=zg6 h3 hx1 ho901
 refine zad (zac) (zae (zaf (zaF (zan [_,_] ⟨⟨_,rfl,Ld.zeC hx1 aa rfl⟩,rfl,trivial⟩ ?_))))
 have h5:=(zds h4).weak (L2:=L) fun b hb=>by simp[hb]
 refine⟨?_,hLL⟩
 rcases hcase with⟨fl',rfl,h1,h2⟩|⟨rfl,rfl,h1,rfl⟩
 ·exact .inl ⟨n,H2,fl',h1,h2,rfl,h5⟩
 ·exact .inr ⟨h1,rfl,h5⟩
def zhW(N:Nat)(H:HS):Nat:=N - H.F.fresh+H.F.many
set_option maxRecDepth 20000 in
theorem room35(g:Nat)(v0:Value)(h:JH q jb mw N G0 V k H fl (zcV Y g [v0] 3) lo L w):Calls Tryz.prog 35 [.pointer (some ⟨jb,0,none⟩), .pointer (some ⟨g,0,none⟩)].toArray w
  (Ret fun _ w'=>JH q jb mw N G0 V k H fl (zcV Y g [.int .i64 (zhW N H:Int)] 3) lo L w'∧LoL lo L w w'):=by
 have hLL:=LoL.refl lo L w
 have hN:=h.n48.1
 have hfN:=h.ok.fN
 have hmN:=h.ok.many
 have hc:=h.cell
 obtain⟨hx1,hlo1,hnL1⟩:=hc
 obtain⟨hH,G,hG,hT⟩:=h
 obtain⟨c,hA⟩:=zbL hT
 have hj:=hA.zg3
 have hjg:jb≠g:=fun e=>by
  have h2:=zdr hA.p
  exact h2.2.2 aV
 have hpg:=fun L' w' (h':Two (GZ q N G V k) (zcV Y g [v0] 3) lo L' w')=>zkU h'
 have hp:=hA.p
 have hJ:JH q jb mw N G0 V k H fl (zcV Y g [v0] 3) lo L w:=⟨hH,G,hG,hT⟩
 unfold zhW
 refine zax (fn:=Tryz.f35) (rs:=[]) (n:=20) Tryz.func35 rfl rfl Tryz.ntmps35 aa rfl (za3 [g] aa ?_)
 intro w901 hb901 hS901
 replace hLL:=hLL.new hb901
 replace hx1:=hx1.new hb901
 replace hj:=hj.new hb901
 replace hp:=hp.new hb901
 replace hJ:=hJ.new hb901
 have hj_d901:=hj
 refine zas 0 (zab) (zas 1 (zak rfl) (zas 2 (zaw 5) (zbo 3 (fun w' hS'=>zau (hj_d901.kq hS')) (zas 5 (zab) (zas 6 (zak rfl) (zas 7 (zaw 0) (zas 8 (zaw 0) (zbo 9 (fun w' hS'=>zau (hj_d901.kq hS')) (zas 11 (zab) (zas 12 (zak rfl) (zas 13 (zaw 0) (zas 14 (zaw 2) (zbo 15 (fun w' hS'=>zau (hj_d901.kq hS')) (zaA 4 aa (zaU rfl rfl (zaj aa rfl) (hpg _ w901 hp) ?_)))))))))))))))
 rintro _ w7 ⟨rfl,hb7⟩
 have hS902:=hS901.add0 hb7
 refine⟨hS902,?_⟩
 replace hLL:=hLL.new hb7
 replace hx1:=hx1.new hb7
 replace hJ:=hJ.new hb7
 refine zas 10 (zcX rfl rfl (show IntKind.i64.wrap ((N:Int) - (H.F.fresh:Int))=((N - H.F.fresh:Nat):Int) by rw[w64 ae];omega)) (zas 16 (zaO rfl rfl (show IntKind.i64.wrap (((N - H.F.fresh:Nat):Int)+(H.F.many:Int))=((N - H.F.fresh+H.F.many:Nat):Int) by rw[w64 ae];omega)) (zaA 17 aa (zbB rfl rfl (zbn hx1 (fun w904 hx1 ho904=>?_)))))
 have hS903:=hS902.aq ho904
 refine⟨hS903,?_⟩
 replace hLL:=hLL.oq ho904
 have hJ2:=hJ.setc hx1 ho904
 refine zaI aa (zbk [] trivial ?_)
 exact⟨hJ2,hLL⟩
theorem zpt(hb:Nat)(h:Two (GZ q N (pgH H) V k) Y lo L w)(hH:HOk N H fl)(hr:row w hb [.pointer (some ⟨q,0,none⟩)] 50)(hbL:hb<lo∨hb∈L):
  Calls Tryz.prog 9 [.pointer (some ⟨hb,0,none⟩)].toArray w (Ret fun v w'=>v= .int .i64 (zhW N H:Int)∧Two (GZ q N (pgH H) V k) Y lo L w'∧LoL lo L w w'):=by
 have hLL:=LoL.refl lo L w
 have hrun:∀ g W,row W hb [.pointer (some ⟨q,0,none⟩)] 50→Two (GZ q N (pgH H) V k) (zcV Y g [.int .i64 0] 3) lo L W→Calls Tryz.prog 34 [.pointer (some ⟨hb,0,none⟩), .func (.func 35) #[] [.pointer (some ⟨g,0,none⟩)].toArray].toArray W
   (Ret fun v w'=>Two (GZ q N (pgH H) V k) (zcV Y g [.int .i64 (zhW N H:Int)] 3) lo L w'∧LoL lo L W w'):=fun g W hr h=>by
  refine(zjB hb h hH hr 35 [.pointer (some ⟨g,0,none⟩)] aa (fun H' fl' Y'=>H'=H∧Y'=zcV Y g [.int .i64 (zhW N H:Int)] 3) (fun e Y'=>False)
   (fun H' fl' Y' ⟨_,e⟩=>by subst e;infer_instance) (fun e Y' h=>h.elim) (fun H' fl' Y' ⟨e,_⟩=>by rw[e];exact Nat.le_refl _) fun jb mw L' w' hs hl hJ=>?_).to fun v w' h=>?_
  ·exact(room35 g _ hJ).toP fun v w2 ⟨h3,h4⟩=>⟨H,fl,_,⟨rfl,rfl⟩,h3,h4⟩
  ·rcases h with⟨H',fl',Y',⟨rfl,rfl⟩,h4,h3,h5,h6⟩|⟨e,Y',h,_⟩
   ·exact⟨h5,h6⟩
   ·exact h.elim
 refine zax (fn:=Tryz.f9) (rs:=[.cell 2 3]) (n:=7) Tryz.func9 rfl rfl Tryz.ntmps9 aa rfl (zah (zaa (zaD rfl (zar ([Value.int .i64 0]) aa (fun g2 w2 hg2 hr2 hb2=>?_)))))
 replace hLL:=hLL.new hb2
 replace hr:=hr.new hb2
 refine zae (zaf (zah (zaa (zad (zab) (zad (zbm) ?_)))))
 have h2:=zfH (l:=[.int .i64 0]) (t:=3) h hb2 hr2 hg2
 have hls:=h.lo
 have hlt:=h.lt
 refine zao rfl (zaj aa rfl) (hrun g2 w2 hr h2) ?_
 rintro _ w5 ⟨h3,hb5⟩
 replace hLL:=hLL.ll hb5 (fun b hb=>hb)
 refine zae (zaf (zah ?_))
 have hc:=zdr h3
 obtain⟨hx1,hlo1,hnL1⟩:=hc
 refine zaa (zad (zau hx1) (zaK rfl (zbn hx1 (fun w901 hx1 ho901=>?_))))
 replace hLL:=hLL.oq ho901
 have h4:=zg6 h3 hx1 ho901
 refine zae (zaf (zaF (zan [_] ⟨⟨_,rfl,Ld.zeC hx1 aa rfl⟩,trivial⟩ ?_)))
 exact⟨rfl,(zds h4).weak fun b hb=>by simp[hb],hLL⟩
end
section
variable {Y:World→List Nat→Prop}[hYT:Thing Y]{q jb mw N lo:Nat}{L:List Nat}{G G0 V:Nat→Pg}{k:Nat}{H:HS}{fl rl:List Nat}{R:Nat→Nat→Prop}{P:Nat→Nat→List Nat}{B:Nat→Nat→List UInt8}{w:World}
def zfI(H:HS)(n:Int):Int:=if n<1∨(H.F.fresh:Int)≤n then 2 else if(H.S n.toNat).kind≠3 then 6 else 0
set_option maxRecDepth 20000 in
theorem back52(g:Nat)(n:Int)(h:JH q jb mw N G0 V k H fl Y lo L w)(hx1:row w g [.int .i64 n] 3)(hgL:g∈L)(hI:∀ m∈fl,(H.S m).kind≠3):Calls Tryz.prog 52 [.pointer (some ⟨jb,0,none⟩), .pointer (some ⟨g,0,none⟩)].toArray w
  (zg2 (fun _ w'=>zfI H n=0∧JH q jb mw N G0 V k (zcE H n.toNat) (n.toNat::fl) Y lo L w'∧LoL lo L w w') (fun c w'=>zfI H n≠0∧c=pe (zdp (zfI H n))∧JF q jb mw N G0 V k Y lo L w'∧LoL lo L w w')):=by
 unfold zfI
 by_cases h1:n<1
 ·rw[if_pos (.inl h1)]
  have hLL:=LoL.refl lo L w
  obtain⟨hH,G,hG,hT⟩:=h
  obtain⟨c,hA⟩:=zbL hT
  have hj:=hA.zg3
  have hJ:JH q jb mw N G0 V k H fl Y lo L w:=⟨hH,G,hG,hT⟩
  refine dR ?_
  intro w901 hb901 hS901
  replace hLL:=hLL.new hb901
  replace hx1:=hx1.new hb901
  replace hJ:=hJ.new hb901
  have hx1_d901:=hx1
  refine zbo 0 (fun w' hS'=>zau (hx1_d901.kq hS')) (zas 1 (zaY rfl rfl) (zas 2 (zab) (zle 5 rfl (h1) (zaL 3 aa rfl (zaL 4 aa rfl (zaL 5 aa rfl (zaL 6 aa rfl (zaL 7 aa rfl (zaL 8 aa rfl (zaL 9 aa rfl (zas 10 (zaC rfl) (zaI aa (zaf (zjU rfl (rfl) (zaa (zcQ rfl (zaj aa rfl) (zpf 2 aD w901) ((fun c w' ⟨hc,hw⟩=>zbs ⟨aD,hc,by rw[←hw];exact hJ.fail,by rw[←hw];exact hLL⟩)) ?_))))))))))))))))
  rintro _ _ hF
  exact hF.elim
 ·by_cases h2:(H.F.fresh:Int)≤n
  ·rw[if_pos (.inr h2)]
   have hLL:=LoL.refl lo L w
   obtain⟨hH,G,hG,hT⟩:=h
   obtain⟨c,hA⟩:=zbL hT
   have hj:=hA.zg3
   have hJ:JH q jb mw N G0 V k H fl Y lo L w:=⟨hH,G,hG,hT⟩
   refine dR ?_
   intro w901 hb901 hS901
   replace hLL:=hLL.new hb901
   replace hx1:=hx1.new hb901
   replace hj:=hj.new hb901
   replace hJ:=hJ.new hb901
   have hx1_d901:=hx1
   have hj_d901:=hj
   refine zbo 0 (fun w' hS'=>zau (hx1_d901.kq hS')) (zas 1 (zaY rfl rfl) (zas 2 (zab) (zi1 5 rfl (h1) (zbo 3 (fun w' hS'=>zau (hx1_d901.kq hS')) (zas 4 (zab) (zas 5 (zak rfl) (zas 6 (zaw 0) (zas 7 (zaw 0) (zbo 8 (fun w' hS'=>zau (hj_d901.kq hS')) (zas 9 (zcH rfl rfl) (zas 10 (zaE rfl) (zaI aa (zaf (zgP rfl (h2) (zaa (zcQ rfl (zaj aa rfl) (zpf 2 aD w901) ((fun c w' ⟨hc,hw⟩=>zbs ⟨aD,hc,by rw[←hw];exact hJ.fail,by rw[←hw];exact hLL⟩)) ?_))))))))))))))))
   rintro _ _ hF
   exact hF.elim
  ·rw[if_neg ae]
   obtain⟨m,rfl⟩:∃ m:Nat,n=m:=⟨n.toNat,ae⟩
   rw[Int.toNat_natCast]
   have hgd:=h.ok.gd m ae ae
   have hki:=fun w'=>zog (H.S m) w' hgd
   have hge:=fun L' w' (h':JH q jb mw N G0 V k H fl Y lo L' w')=>getH h' m ae ae
   have hQl:=zaR hgd
   have hbk:=fun L' w' hn (h':JH q jb mw N G0 V k H fl Y lo L' w')=>backH h' m ae ae hn
   obtain⟨Q,hQ⟩:∃ Q,zay (H.S m)=Q:=⟨_,rfl⟩
   obtain⟨kd,hkd⟩:∃ kd,(H.S m).kind=kd:=⟨_,rfl⟩
   simp only[hQ,hkd]at hki hge hQl ⊢
   by_cases hk3:kd=3
   ·have hnf:m∉fl:=fun hm=>hI m hm (hkd.trans hk3)
    rw[if_neg (fun h=>h hk3)]
    have hLL:=LoL.refl lo L w
    obtain⟨hH,G,hG,hT⟩:=h
    obtain⟨c,hA⟩:=zbL hT
    have hj:=hA.zg3
    have hJ:JH q jb mw N G0 V k H fl Y lo L w:=⟨hH,G,hG,hT⟩
    refine dR ?_
    intro w901 hb901 hS901
    replace hLL:=hLL.new hb901
    replace hx1:=hx1.new hb901
    replace hj:=hj.new hb901
    replace hJ:=hJ.new hb901
    have hx1_d901:=hx1
    have hj_d901:=hj
    refine zbo 0 (fun w' hS'=>zau (hx1_d901.kq hS')) (zas 1 (zaY rfl rfl) (zas 2 (zab) (zi1 5 rfl (h1) (zbo 3 (fun w' hS'=>zau (hx1_d901.kq hS')) (zas 4 (zab) (zas 5 (zak rfl) (zas 6 (zaw 0) (zas 7 (zaw 0) (zbo 8 (fun w' hS'=>zau (hj_d901.kq hS')) (zas 9 (zcH rfl rfl) (zas 10 (zaE rfl) (zaI aa (zaf (zcF rfl (h2) (zat (zaf (zah (zah (zaa (zad (zab) (zad (zau hx1) (zao rfl (zaj aa rfl) (hge _ w901 hJ) ?_))))))))))))))))))))))
    rintro _ w17 ⟨rfl,hJ,hb17⟩
    replace hLL:=hLL.lq hb17
    replace hx1:=hx1.kl hb17
    refine zao rfl (zaj aa rfl) (hki w17) ?_
    rintro _ w18 ⟨rfl,hb18⟩
    replace hLL:=hLL.new hb18
    replace hx1:=hx1.new hb18
    replace hJ:=hJ.new hb18
    refine zad (zaX rfl rfl) (zae (zaf (zcF rfl (ae) (zat (zaf (zaa (zad (zab) (zad (zau hx1) (zao rfl (zaj aa rfl) (hbk _ w18 hnf hJ) ?_)))))))))
    rintro _ w23 ⟨hJ2,hb23⟩
    replace hLL:=hLL.lq hb23
    refine zae (zem [] trivial ?_)
    exact⟨rfl,hJ2,hLL⟩
   ·rw[if_pos hk3]
    have hLL:=LoL.refl lo L w
    obtain⟨hH,G,hG,hT⟩:=h
    obtain⟨c,hA⟩:=zbL hT
    have hj:=hA.zg3
    have hJ:JH q jb mw N G0 V k H fl Y lo L w:=⟨hH,G,hG,hT⟩
    refine dR ?_
    intro w901 hb901 hS901
    replace hLL:=hLL.new hb901
    replace hx1:=hx1.new hb901
    replace hj:=hj.new hb901
    replace hJ:=hJ.new hb901
    have hx1_d901:=hx1
    have hj_d901:=hj
    refine zbo 0 (fun w' hS'=>zau (hx1_d901.kq hS')) (zas 1 (zaY rfl rfl) (zas 2 (zab) (zi1 5 rfl (h1) (zbo 3 (fun w' hS'=>zau (hx1_d901.kq hS')) (zas 4 (zab) (zas 5 (zak rfl) (zas 6 (zaw 0) (zas 7 (zaw 0) (zbo 8 (fun w' hS'=>zau (hj_d901.kq hS')) (zas 9 (zcH rfl rfl) (zas 10 (zaE rfl) (zaI aa (zaf (zcF rfl (h2) (zat (zaf (zah (zah (zaa (zad (zab) (zad (zau hx1) (zao rfl (zaj aa rfl) (hge _ w901 hJ) ?_))))))))))))))))))))))
    rintro _ w17 ⟨rfl,hJ,hb17⟩
    replace hLL:=hLL.lq hb17
    refine zao rfl (zaj aa rfl) (hki w17) ?_
    rintro _ w18 ⟨rfl,hb18⟩
    replace hLL:=hLL.new hb18
    replace hJ:=hJ.new hb18
    refine zad (zaX rfl rfl) (zae (zaf (zgP rfl (ae) (zaa (zcQ rfl (zaj aa rfl) (zpf 6 aD w18) ((fun c w' ⟨hc,hw⟩=>zbs ⟨aD,hc,by rw[←hw];exact hJ.fail,by rw[←hw];exact hLL⟩)) ?_)))))
    rintro _ _ hF
    exact hF.elim
def rootE(N:Nat)(n:Int):Int:=if n<0∨(N:Int)≤n then 2 else 0
def rootS(H:HS)(n:Nat):HS:=⟨⟨H.F.fresh,H.F.free,H.F.many,H.F.records,n⟩,H.S⟩
omit hYT in
theorem HOk.root(h:HOk N H fl){n:Nat}(hn:n<N):HOk N (rootS H n) fl:=⟨h.f1,h.fN,h.gd,h.ch,h.fk,h.nd,h.fm,h.rc,hn⟩
theorem backM(hb:Nat)(n:Int)(h:Two (GZ q N (pgH H) V k) Y lo L w)(hH:HOk N H fl)(hr:row w hb [.pointer (some ⟨q,0,none⟩)] 50)(hbL:hb<lo∨hb∈L):
  Calls Tryz.prog 16 [.pointer (some ⟨hb,0,none⟩), .int .i64 n].toArray w (Ret fun v w'=>v= .int .i64 (zfI H n)∧((zfI H n=0∧Two (GZ q N (pgH (zcE H n.toNat)) V k) Y lo L w')∨(zfI H n≠0∧Two (GZ q N (pgH H) V k) Y lo L w'))∧LoL lo L w w'):=by
 have hLL:=LoL.refl lo L w
 have hrun:∀ g W,row W hb [.pointer (some ⟨q,0,none⟩)] 50→row W g [.int .i64 n] 3→Two (GZ q N (pgH H) V k) Y lo (g::L) W→Calls Tryz.prog 34 [.pointer (some ⟨hb,0,none⟩), .func (.func 52) #[] [.pointer (some ⟨g,0,none⟩)].toArray].toArray W
   (Ret fun v w'=>v= .int .i64 (zfI H n)∧LoL lo (g::L) W w'∧((zfI H n=0∧Two (GZ q N (pgH (zcE H n.toNat)) V k) Y lo L w')∨(zfI H n≠0∧Two (GZ q N (pgH H) V k) Y lo L w'))):=fun g W hr hg h=>by
  refine(zjB hb h hH hr 52 [.pointer (some ⟨g,0,none⟩)] aa (fun H' fl' Y'=>zfI H n=0∧H'=zcE H n.toNat∧Y'=Y) (fun e Y'=>zfI H n≠0∧e=zfI H n∧Y'=Y)
   (fun H' fl' Y' ⟨_,_,e⟩=>by subst e;infer_instance) (fun e Y' ⟨_,_,e⟩=>by subst e;infer_instance) (fun H' fl' Y' ⟨_,e,_⟩=>by rw[e];exact Nat.le_refl _) fun jb mw L' w' hs hl hJ=>?_).to fun v w' h=>?_
  ·have hgL:=hs g ay
   exact(back52 g n hJ (hg.kpd hl.kp (zam (.inr ay))) hgL fun m hm=>by rw[(hH.fk m hm).2.2];decide).zkQ (fun v w2 ⟨h1,h2,h3⟩=>⟨zcE H n.toNat,_,Y,⟨h1,rfl,rfl⟩,h2,h3⟩) fun c w2 ⟨h1,h2,h3,h4⟩=>⟨_,Y,⟨h1,rfl,rfl⟩,h2,h3,h4⟩
  ·rcases h with⟨H',fl',Y',⟨h1,rfl,rfl⟩,h4,h3,h5,h6⟩|⟨e,Y',⟨h1,rfl,rfl⟩,h3,h5,h6⟩
   ·exact⟨by rw[h1];exact h3,h6, .inl ⟨h1,h5.weak fun b hb=>by simp[hb]⟩⟩
   ·exact⟨h3,h6, .inr ⟨h1,h5.weak fun b hb=>by simp[hb]⟩⟩
 refine zax (fn:=Tryz.f16) (rs:=[.tmp 4]) (n:=8) Tryz.func16 rfl rfl Tryz.ntmps16 aa rfl (zah (zaa (zaD rfl (za4 ([.int .i64 n]) rfl (fun g3 w3 hg3 hr3 hb3=>?_)))))
 replace hLL:=hLL.new hb3
 replace hr:=hr.new hb3
 replace h:=h.newc hb3 hg3 hr3.lt
 refine dS ?_
 rintro _ w7 ⟨rfl,hb7,hc⟩
 replace hLL:=hLL.ll hb7 (fun b hb=>by simp[hb])
 refine cB ?_
 exact⟨rfl,hc,hLL⟩
def NoRec(H:HS)(p s:Int):Prop:=p<1∨(H.F.fresh:Int)≤p∨zh2 (H.S p.toNat).slots s=false∨(H.S p.toNat).kind≠1
set_option maxRecDepth 20000 in
theorem take49(g:Nat)(m s:Nat)(h:JH q jb mw N G0 V k H fl Y lo L w)(hI:HI N H fl rl R P B [])(hF:Full H rl R)(hr:R m s)(hx1:row w g [.int .i64 (m:Int), .int .i64 (s:Int)] 38):Calls Tryz.prog 49 [.pointer (some ⟨jb,0,none⟩), .pointer (some ⟨g,0,none⟩)].toArray w
  (Ret fun _ w'=>JH q jb mw N G0 V k (zeo H rl (P m s) m s) (zlO H fl (P m s) m s) Y lo L w'∧LoL lo L w w'):=by
 have htk:=takeH h hI hF hr
 refine zax (fn:=Tryz.f49) (rs:=[]) (n:=6) Tryz.func49 rfl rfl Tryz.ntmps49 aa rfl (zaa (zad (zab) (zad (zaG rfl (Ld.zb9 (k:=2) hx1 aa aa rfl)) (zao rfl (zaj aa rfl) (htk) ?_))))
 rintro _ w5 ⟨hJ,hb5⟩
 refine cK ?_
 exact⟨hJ,hb5⟩
omit hYT in
theorem zjC{p:List Nat}{m s:Nat}:(zeo H rl p m s).F.fresh=H.F.fresh∧(zeo H rl p m s).F.root=H.F.root:=by
 unfold zeo
 split
 ·exact⟨zdc.1,zdc.2.2.1⟩
 ·exact⟨zdc.1,zdc.2.2.1⟩
theorem takeM(hb m s:Nat)(h:Two (GZ q N (pgH H) V k) Y lo L w)(hI:HI N H fl rl R P B [])(hF:Full H rl R)(hR:R m s)(hr:row w hb [.pointer (some ⟨q,0,none⟩)] 50)(hbL:hb<lo∨hb∈L):
  Calls Tryz.prog 13 [.pointer (some ⟨hb,0,none⟩), .agg #[.int .i64 (m:Int), .int .i64 (s:Int)]].toArray w (Ret fun v w'=>v= .int .i64 0∧Two (GZ q N (pgH (zeo H rl (P m s) m s)) V k) Y lo L w'∧LoL lo L w w'):=by
 have hH:=hI.ok
 have hLL:=LoL.refl lo L w
 have hrun:∀ g W,row W hb [.pointer (some ⟨q,0,none⟩)] 50→row W g [.int .i64 (m:Int), .int .i64 (s:Int)] 38→Two (GZ q N (pgH H) V k) Y lo (g::L) W→Calls Tryz.prog 34 [.pointer (some ⟨hb,0,none⟩), .func (.func 49) #[] [.pointer (some ⟨g,0,none⟩)].toArray].toArray W
   (Ret fun v w'=>v= .int .i64 0∧LoL lo (g::L) W w'∧Two (GZ q N (pgH (zeo H rl (P m s) m s)) V k) Y lo L w'):=fun g W hr hg h=>by
  refine(zjB hb h hH hr 49 [.pointer (some ⟨g,0,none⟩)] aa (fun H' fl' Y'=>True∧H'=zeo H rl (P m s) m s∧Y'=Y) (fun e Y'=>False∧e=0∧Y'=Y)
   (fun H' fl' Y' ⟨_,_,e⟩=>by subst e;infer_instance) (fun e Y' ⟨_,_,e⟩=>by subst e;infer_instance) (fun H' fl' Y' ⟨_,e,_⟩=>by rw[e];exact Nat.le_of_eq zjC.1.symm) fun jb mw L' w' hs hl hJ=>?_).to fun v w' h=>?_
  ·have hgL:=hs g ay
   have hg2:=(hg.kpd hl.kp (zam (.inr ay)))
   exact(take49 g m s hJ hI hF hR hg2).toP fun v w2 ⟨h2,h3⟩=>⟨_,_,Y,⟨trivial,rfl,rfl⟩,h2,h3⟩
  ·rcases h with⟨H',fl',Y',⟨h1,rfl,rfl⟩,h4,h3,h5,h6⟩|⟨e,Y',⟨h1,rfl,rfl⟩,h3,h5,h6⟩
   ·first |exact h1.elim|exact⟨h3,h6,h5.weak fun b hb=>by simp[hb]⟩
   ·first |exact h1.elim|exact⟨h3,h6,h5.weak fun b hb=>by simp[hb]⟩
 refine zax (fn:=Tryz.f13) (rs:=[.tmp 4]) (n:=8) Tryz.func13 rfl rfl Tryz.ntmps13 aa rfl (zah (zaa (zaD rfl (za4 ([.int .i64 (m:Int), .int .i64 (s:Int)]) rfl (fun g3 w3 hg3 hr3 hb3=>?_)))))
 replace hLL:=hLL.new hb3
 replace hr:=hr.new hb3
 replace h:=h.newc hb3 hg3 hr3.lt
 refine dS ?_
 rintro _ w7 ⟨rfl,hb7,hc⟩
 replace hLL:=hLL.ll hb7 (fun b hb=>by simp[hb])
 refine cB ?_
 exact⟨rfl,hc,hLL⟩
end
def zgk(N:Nat)(b:List UInt8)(H:HS)(rl:List Nat):Option (Nat × Nat × HS):=match cellS N b H with
 |none=>none
 |some (c,H1)=>zmF N c H1 rl
theorem layS_ok{N:Nat}(hN:N≤2048){H H':HS}{fl rl l:List Nat}{R:Nat→Nat→Prop}{P:Nat→Nat→List Nat}{B:Nat→Nat→List UInt8}{b c:List UInt8}{m s:Nat}(h:HI N H fl rl R P B l)(hF:Full H rl R)(hc:CellIs H c b l)(he:zmF N c H rl=some (m,s,H')):
  ∃ fl' rl',HI N H' fl' rl' (zii R m s) (up2 P m s l) (up2 B m s b) []∧Full H' rl' (zii R m s)∧¬R m s∧H.F.fresh≤H'.F.fresh∧H'.F.root=H.F.root∧∀ n,n<H.F.fresh→(H.S n).kind=3→H'.S n=H.S n:=by
 have hcl:=hc.len
 unfold zmF at he
 cases hf:rl.find? (fun m=>decide (zi6 (H.S m) c=0))with
 |some m'=>
  rw[hf]at he
  cases he
  have hm:=List.mem_of_find?_eq_some hf
  have hE:zi6 (H.S m) c=0:=by simpa using List.find?_some hf
  have hma:=h.rk.at_ m hm
  have hgd:=zmG (h.ok.gd m hma.1 hma.2.1) hE
  have hfl:=zi5 (H.S m).slots
  have hat:∀ j,(zbX (H.S m) (zbY (H.S m).slots) c).slots[j]?=if j=zbY (H.S m).slots then some (some c)else(H.S m).slots[j]?:=fun j=>zpn hfl
  have hnr:¬R m (zbY (H.S m).slots):=fun hr=>by
   obtain⟨_,c',h2,_⟩:=h.cell m _ hr
   exact zlM h2
  have h2:=h.zjH hm hgd hma.2.2 rfl fun s c' hr hs=>by
   rw[hat s,if_neg fun e=>zlM (e▸hs)]
   exact hs
  have h3:=h2.addC hm (s:=zbY (H.S m).slots) (c:=c) (b:=b) (by
   show(zbb H.S m _ m).slots[_]?=_
   rw[zaT,hat,if_pos rfl]) (hc.frame (Nat.le_refl _) fun n hn=>za9 fun e=>by have:=(h.pk n hn).2.2.1;rw[e]at this;omega) hnr
  refine⟨_,_,h3,fun a ha=>?_,hnr,Nat.le_refl _,rfl,fun n _ hk=>za9 fun e=>by rw[e]at hk;omega⟩
  show(zbb H.S m _ a).slots≠[]∧∀ s' c',(zbb H.S m _ a).slots[s']?=some (some c')→_
  by_cases e:a=m
  ·rw[e,zaT]
   refine⟨fun hn=>?_,fun s' c' hs'=>?_⟩
   ·have:=hat (zbY (H.S m).slots)
    rw[hn,if_pos rfl]at this
    simp at this
   ·rw[hat]at hs'
    by_cases e2:s'=zbY (H.S m).slots
    ·exact .inr ⟨rfl,e2⟩
    ·rw[if_neg e2]at hs'
     exact .inl ((hF m hm).2 s' c' hs')
  ·rw[za9 e]
   exact⟨(hF a ha).1,fun s' c' hs'=>.inl ((hF a ha).2 s' c' hs')⟩
 |none=>
  rw[hf]at he
  cases hg:zdj N H 1 with
  |none=>rw[hg]at he;cases he
  |some p=>
   obtain⟨n,H1⟩:=p
   rw[hg]at he
   cases he
   obtain⟨fl1,hok⟩:=zg4 h.ok ae hg
   have hrc:H1.F.records<2147483648:=by have:=hok.ok.rc;have:=hok.ok.fN;omega
   have h2:=h.gave hok (U:=⟨1,H1.F.records,[some c]⟩) (zdq ae hrc hcl.2) (m::rl) (.inr ⟨rfl,rfl,hok.rec_⟩)
   rw[if_neg (show¬(1:Nat)=3 by decide)]at h2
   have hnl:m∉rl:=fun hm=>by
    rcases hok.was with e|e
    ·exact h.rk.ni h.ok hm e
    ·have:=(h.rk.at_ m hm).2.1;omega
   have hnr:¬R m 0:=fun hr=>hnl (h.cell m 0 hr).1
   have hS:∀ i,i≠m→zbb H1.S m ⟨1,H1.F.records,[some c]⟩ i=H.S i:=fun i hi=>by rw[za9 hi];exact hok.old i hi
   have hnlp:m∉l:=fun hm=>by
    have hp:=h.pk m hm
    rcases hok.was with e|e
    ·have:=(h.ok.fk m e).2.2;omega
    ·omega
   have h3:=h2.addC (m:=m) (s:=0) (c:=c) (b:=b) ay (by
    show(zbb H1.S m _ m).slots[0]?=_
    rw[zaT];rfl) (hc.frame hok.grow fun i hi=>hS i fun e=>hnlp (e▸hi)) hnr
   refine⟨_,_,h3,fun a ha=>?_,hnr,hok.grow,hok.root,fun i hi hk=>hS i fun e=>?_⟩
   ·show(zbb H1.S m _ a).slots≠[]∧∀ s' c',(zbb H1.S m _ a).slots[s']?=some (some c')→_
    by_cases e:a=m
    ·rw[e,zaT]
     refine⟨ay,fun s' c' hs'=>.inr ⟨rfl,?_⟩⟩
     cases s' with
     |zero=>rfl
     |succ s'=>simp at hs'
    ·have ha2:=(List.mem_cons.1 ha).resolve_left e
     rw[hS a e]
     exact⟨(hF a ha2).1,fun s' c' hs'=>.inl ((hF a ha2).2 s' c' hs')⟩
   ·rcases hok.was with e2|e2
    ·have:=(h.ok.fk m e2).2.2
     rw[e]at hk;omega
    ·omega
theorem HI.zgk{N:Nat}(hN:N≤2048){H H':HS}{fl rl:List Nat}{R:Nat→Nat→Prop}{P:Nat→Nat→List Nat}{B:Nat→Nat→List UInt8}{b:List UInt8}{m s:Nat}(h:HI N H fl rl R P B [])(hF:Full H rl R)(hb:b.length≤20000)(he:zgk N b H rl=some (m,s,H')):
  ∃ fl' rl' l,HI N H' fl' rl' (zii R m s) (up2 P m s l) (up2 B m s b) []∧Full H' rl' (zii R m s)∧¬R m s∧H.F.fresh≤H'.F.fresh∧H'.F.root=H.F.root∧∀ n,n<H.F.fresh→(H.S n).kind=3→H'.S n=H.S n:=by
 unfold Go.Proofs.YtdbogkndglbffaaGreat.zgk at he
 split at he
 ·cases he
 ·rename_i c H1 hc
  obtain⟨l,fl1,h1,h2,h3,h4,h5,h6⟩:=h.zlN hN hb hc
  have hF1:Full H1 rl R:=fun a ha=>by rw[h3 a ha];exact hF a ha
  obtain⟨fl',rl',r1,r2,r3,r4,r5,r6⟩:=layS_ok hN h1 hF1 h2 he
  exact⟨fl',rl',l,r1,r2,r3,Nat.le_trans h4 r4,r5.trans h5,fun n hn hk=>(r6 n (Nat.lt_of_lt_of_le hn h4) (by rw[h6 n hn hk];exact hk)).trans (h6 n hn hk)⟩
theorem zaz.base{w:World}{base lo e sz m:Nat}{v:Value}{xs:List Value}(h:zaz w base e sz v m xs)(hb:∀ b,v.ownBlock=some b→lo≤b):zaz w lo e sz v m xs:=by
 refine⟨h.1,?_⟩
 rcases h.2 with hn|⟨g,off,cap,cur,rfl,hb',rest⟩
 ·exact .inl hn
 ·exact .inr ⟨g,off,cap,cur,rfl,hb _ rfl,rest⟩
def AddO(Y:World→List Nat→Prop)(e sz:Nat)(v:Value)(m:Nat)(xs:List Value):World→List Nat→Prop:=fun w C=>∃ C1,C=v.ownBlock.toList++C1∧Y w C1∧zaz w 0 e sz v m xs∧∀ b∈v.ownBlock.toList,b∉C1
instance(Y:World→List Nat→Prop)[hY:Thing Y](e sz:Nat)(v:Value)(m:Nat)(xs:List Value):Thing (AddO Y e sz v m xs):=
 ⟨fun {w w' B M} ⟨C1,he,h1,h2,h3⟩ k hM=>by
  subst he
  exact⟨C1,rfl,hY.kpd h1 k fun b hb=>hM b aH,h2.kpd k fun g hm e=>hM g aV hm,h3⟩,fun {w B} ⟨C1,he,h1,h2,h3⟩ b hb=>by
  subst he
  rcases List.mem_append.1 hb with hb|hb
  ·exact(h2.lt b (Option.mem_toList.1 hb)).2
  ·exact hY.lt h1 b hb⟩
section
variable {X Y:World→List Nat→Prop}[hX:Thing X][hYT:Thing Y]{lo g base e sz m:Nat}{L:List Nat}{w w':World}{v:Value}{xs:List Value}
omit hX hYT in
theorem two_inO(h:Two X Y lo (v.ownBlock.toList++L) w)(hv:zaz w base e sz v m xs)(hl:∀ b∈v.ownBlock.toList,lo≤b∧b∉L):Two X (AddO Y e sz v m xs) lo L w:=by
 obtain⟨⟨B,C,h1,h2,h3,h4⟩,h5,h6⟩:=h
 refine⟨⟨B,v.ownBlock.toList++C,h1,⟨C,rfl,h2,zaz.mono hv (Nat.zero_le _),fun b hb hm=>(h4 b hm).2 (by simp only[List.mem_append];exact .inl hb)⟩,fun b hb=>⟨(h3 b hb).1,fun hm=>?_,fun hm=>(h3 b hb).2.2 bA⟩,fun b hb=>?_⟩,h5,fun b hb=>h6 b bB⟩
 ·rcases List.mem_append.1 hm with hm|hm
  ·exact(h3 b hb).2.2 (by simp only[List.mem_append];exact .inl hm)
  ·exact(h3 b hb).2.1 hm
 ·rcases List.mem_append.1 hb with hb|hb
  ·exact hl b hb
  ·exact⟨(h4 b hb).1,fun hm=>(h4 b hb).2 bA⟩
omit hX hYT in
theorem zqR(h:Two X (AddO Y e sz v m xs) lo L w):Two X Y lo (v.ownBlock.toList++L) w∧zaz w lo e sz v m xs:=by
 obtain⟨⟨B,C,h1,⟨C1,rfl,h2,h3,h4⟩,h5,h6⟩,h7,h8⟩:=h
 refine⟨⟨⟨B,C1,h1,h2,fun b hb=>⟨(h5 b hb).1,fun hm=>(h5 b hb).2.1 bA,fun hm=>?_⟩,fun b hb=>⟨(h6 b bB).1,fun hm=>?_⟩⟩,h7,fun b hb=>?_⟩,?_⟩
 ·rcases List.mem_append.1 hm with hm|hm
  ·exact(h5 b hb).2.1 (by simp only[List.mem_append];exact .inl hm)
  ·exact(h5 b hb).2.2 hm
 ·rcases List.mem_append.1 hm with hm|hm
  ·exact h4 b hm hb
  ·exact(h6 b bB).2 hm
 ·rcases List.mem_append.1 hb with hb|hb
  ·exact(h3.lt b (Option.mem_toList.1 hb)).2
  ·exact h8 b hb
 ·exact zaz.base h3 fun b hb=>(h6 b (by simp only[List.mem_append];exact .inl (Option.mem_toList.2 hb))).1
end
section
variable {Y:World→List Nat→Prop}[hYT:Thing Y]{q jb mw N lo:Nat}{L:List Nat}{G G0 V:Nat→Pg}{k:Nat}{H:HS}{fl rl pd:List Nat}{R:Nat→Nat→Prop}{P:Nat→Nat→List Nat}{B:Nat→Nat→List UInt8}{w:World}
theorem cellH(h:JH q jb mw N G0 V k H fl Y lo L w)(p:Option Addr)(cap:Nat)(b:List UInt8)(hs:zaS w p b.length 1 (bv b))(hcap:b.length≤cap)(hl2:b.length≤20000)(hpL:∀ c o,p=some ⟨c,o,none⟩→c<lo∨c∈L):
  Calls Tryz.prog 40 [.pointer (some ⟨jb,0,none⟩), .slice p b.length cap].toArray w (zg2 (fun v w'=>∃ c H' fl',cellS N b H=some (c,H')∧JH q jb mw N G0 V k H' fl' Y lo (v.ownBlock.toList++L) w'∧zaz w' w.heap.size 5 1 v c.length (bv c)∧LoL lo L w w')
   (fun c w'=>cellS N b H=none∧c=pe (zdp 8)∧JF q jb mw N G0 V k Y lo L w'∧LoL lo L w w')):=by
 by_cases hb:b.length<400
 ·have hc:cellS N b H=some (0::b,H):=by unfold cellS;rw[if_pos hb]
  refine(cellSh _ p cap b w hs hb).toP fun v w' ⟨h1,h2⟩=>⟨0::b,H,fl,hc,h.zk8 h2 fun x hx=>h1.lt x (Option.mem_toList.1 hx),?_,LoL.of_below h2⟩
  rw[List.length_cons,Nat.add_comm];exact h1
 ·refine(cellLg h p cap b hs hcap ae hl2 hpL).zkQ (fun v w' ⟨n,H',fl',h1,h2,h3,h4⟩=>⟨1::(beB 4 b.length++beB 4 n),H',fl',?_,h2,?_,h4⟩) fun c w' ⟨h1,h2,h3,h4⟩=>⟨?_,h2,h3,h4⟩
  ·unfold cellS;rw[if_neg hb,h1]
  ·rw[List.length_cons,List.length_append,zaV,zaV];exact h3
  ·unfold cellS;rw[if_neg hb,h1]
set_option maxRecDepth 20000 in
theorem lay37(gb g:Nat)(v0 v1:Value)(p:Option Addr)(cap:Nat)(b:List UInt8)(h:JH q jb mw N G0 V k H fl (zcV Y g [v0,v1] 38) lo L w){fl2:List Nat}(hI:HI N H fl2 rl R P B [])(hx1:row w gb [.slice p b.length cap] 33)(hgL:gb∈L)(hs:zaS w p b.length 1 (bv b))(hcap:b.length≤cap)(hl2:b.length≤20000)(hpL:∀ c o,p=some ⟨c,o,none⟩→c<lo∨c∈L):
  Calls Tryz.prog 37 [.pointer (some ⟨jb,0,none⟩), .pointer (some ⟨gb,0,none⟩), .pointer (some ⟨g,0,none⟩)].toArray w
  (zg2 (fun _ w'=>∃ m s H' fl',zgk N b H rl=some (m,s,H')∧JH q jb mw N G0 V k H' fl' (zcV Y g [.int .i64 (m:Int), .int .i64 (s:Int)] 38) lo L w'∧LoL lo L w w') (fun c w'=>zgk N b H rl=none∧c=pe (zdp 8)∧JF q jb mw N G0 V k (zcV Y g [v0,v1] 38) lo L w'∧LoL lo L w w')):=by
 have hLL:=LoL.refl lo L w
 have hcell:=cellH h p cap b hs hcap hl2 hpL
 have hlg:=h.lo'.1
 have hsh:=fun w'=>short0 p b.length cap hl2 w'
 refine zb6 (fn:=Tryz.f37) (rs:=[]) (n:=11) Tryz.func37 rfl rfl Tryz.ntmps37 aa rfl (zah (zaa (zad (zau hx1) (zao rfl (zaj aa rfl) (hsh w) ?_))))
 rintro _ _ ⟨rfl,rfl⟩
 refine zae (zaf (zaa (zad (zab) (zad (zab) (zad (zau hx1) (zcQ rfl (zaj aa rfl) (hcell) ((fun c w' ⟨h1,h2,h3,h4⟩=>zbs ⟨by unfold zgk;rw[h1],h2,h3,hLL.lq h4⟩)) ?_))))))
 rintro _ w9 ⟨c9,H9,fl9,hc9,hJ9,hv9,hb9⟩
 have hx1:=hx1.kl hb9 (.inr hgL)
 replace hLL:=hLL.lq hb9
 have hO:=hI.zlN h.n48.1 hl2 hc9
 obtain⟨l9,fl8,hI9,hci9,-⟩:=hO
 have hcn:=hci9.len
 have hobt:=hv9.form' ae
 obtain⟨gv,ov,cv,rfl,hv91,hv92,hv93⟩:=hobt
 have hlay:=layH hJ9 hI9.rk (some ⟨gv,ov,none⟩) cv c9 hv9.sl hcn.1 hcn.2 (fun c o e=>by cases e;exact .inr aJ)
 refine zcQ rfl (zaj aa rfl) (hlay) ((fun c w' ⟨h1,h2,⟨G3,F3,h3⟩,h4⟩=>zbs ⟨by unfold zgk;rw[hc9];exact h1,h2,⟨G3,F3,h3.weak fun b hb=>by simp[hb]⟩,hLL.ll h4 fun b hb=>by simp[hb]⟩)) ?_
 rintro _ w10 ⟨m,s,H10,fl10,hl10,rfl,hJ10,hb10⟩
 replace hLL:=hLL.ll hb10 (fun b hb=>by simp[hb])
 have hJ11:=hJ10.weak (L2:=L) (fun b hb=>by simp[hb])
 have hc:=hJ11.cell
 obtain⟨hx2,hlo1,hnL1⟩:=hc
 refine zaK rfl (zaQ 2 ([.int .i64 (m:Int), .int .i64 (s:Int)]) hx2 (fun w901 hx2 ho901=>?_))
 replace hLL:=hLL.oq ho901
 have hJ12:=hJ11.setc hx2 ho901
 refine zae (zem [] trivial ?_)
 exact⟨m,s,H10,fl10,by unfold zgk;rw[hc9];exact hl10,hJ12,hLL⟩
set_option maxRecDepth 20000 in
omit hYT in
theorem lay37L(gb g:Nat)(v:List Value)(p:Option Addr)(cap n:Nat)(h:JH q jb mw N G0 V k H fl (zcV Y g v 38) lo L w)(hx1:row w gb [.slice p n cap] 33)(hl2:20000<n):
  Calls Tryz.prog 37 [.pointer (some ⟨jb,0,none⟩), .pointer (some ⟨gb,0,none⟩), .pointer (some ⟨g,0,none⟩)].toArray w
  (zg2 (fun _ _=>False) (fun c w'=>c=pe (zdp 3)∧JF q jb mw N G0 V k (zcV Y g v 38) lo L w'∧LoL lo L w w')):=by
 have hsh:=fun w'=>shortP p n cap hl2 w'
 refine zb6 (fn:=Tryz.f37) (rs:=[]) (n:=11) Tryz.func37 rfl rfl Tryz.ntmps37 aa rfl (zah (zaa (zad (zau hx1) (zcQ rfl (zaj aa rfl) (hsh w) ((fun c w' ⟨h1,h2⟩=>zbs ⟨h1,by rw[←h2];exact h.fail,by rw[←h2];exact LoL.refl _ _ _⟩)) ?_))))
 rintro _ _ hF
 exact hF.elim
set_option maxRecDepth 20000 in
theorem layM (hb : Nat) (p : Option Addr) (cap : Nat) (b : List UInt8) (h : Two (GZ q N (pgH H) V k) Y lo L w) (hI : HI N H fl rl R P B []) (hF : Full H rl R) (hr : row w hb [.pointer (some ⟨q, 0, none⟩)] 50) (hbL : hb < lo ∨ hb ∈ L) (hs : zaS w p b.length 1 (bv b)) (hcap : b.length ≤ cap) (hpL : ∀ c o, p = some ⟨c, o, none⟩ → c < lo ∨ c ∈ L) :
   Calls Tryz.prog 11 [.pointer (some ⟨hb, 0, none⟩), .slice p b.length cap].toArray w (Ret fun v w' => ((20000 < b.length ∧ v = .tuple #[.agg #[.int .i64 0, .int .i64 0], .int .i64 3] ∧ Two (GZ q N (pgH H) V k) Y lo L w') ∨ (b.length ≤ 20000 ∧ zgk N b H rl = none ∧ v = .tuple #[.agg #[.int .i64 0, .int .i64 0], .int .i64 8] ∧ Two (GZ q N (pgH H) V k) Y lo L w') ∨
     (b.length ≤ 20000 ∧ ∃ m s H', zgk N b H rl = some (m, s, H') ∧ v = .tuple #[.agg #[.int .i64 (m : Int), .int .i64 (s : Int)], .int .i64 0] ∧ Two (GZ q N (pgH H') V k) Y lo L w')) ∧ LoL lo L w w') := by
 have hN := (zjv h).1
 have hL34 : ∀ a c : Nat, ∀ x ∈ L, x ∈ a :: c :: L := fun a c x hx => by simp [hx]
 have hLL := LoL.refl lo L w
 have hrun : ∀ gb g W L2, gb ∈ L2 → (∀ x ∈ L, x ∈ L2) → row W hb [.pointer (some ⟨q, 0, none⟩)] 50 → row W gb [.slice p b.length cap] 33 → zaS W p b.length 1 (bv b) → Two (GZ q N (pgH H) V k) (zcV Y g [.int .i64 0, .int .i64 0] 38) lo L2 W → Calls Tryz.prog 34 [.pointer (some ⟨hb, 0, none⟩), .func (.func 37) #[] [.pointer (some ⟨gb, 0, none⟩), .pointer (some ⟨g, 0, none⟩)].toArray].toArray W
     (Ret fun v w' => ∃ (e : Int) (m s : Nat) (H' : HS), v = .int .i64 e ∧ Two (GZ q N (pgH H') V k) (zcV Y g [.int .i64 (m : Int), .int .i64 (s : Int)] 38) lo L2 w' ∧ LoL lo L2 W w' ∧
      ((e = 3 ∧ 20000 < b.length ∧ H' = H) ∨ (e = 8 ∧ b.length ≤ 20000 ∧ zgk N b H rl = none ∧ H' = H) ∨ (e = 0 ∧ b.length ≤ 20000 ∧ zgk N b H rl = some (m, s, H')))) := fun gb g W L2 hgb hLs hr hrb hs h => by
   refine (zjB hb h hI.ok hr 37 [.pointer (some ⟨gb, 0, none⟩), .pointer (some ⟨g, 0, none⟩)] (by kernel_rfl) (fun H' fl' Y' => ∃ m s, b.length ≤ 20000 ∧ zgk N b H rl = some (m, s, H') ∧ Y' = zcV Y g [.int .i64 (m : Int), .int .i64 (s : Int)] 38)
     (fun e Y' => ((e = 3 ∧ 20000 < b.length) ∨ (e = 8 ∧ b.length ≤ 20000 ∧ zgk N b H rl = none)) ∧ Y' = zcV Y g [.int .i64 0, .int .i64 0] 38)
     (fun H' fl' Y' ⟨_, _, _, _, e⟩ => by subst e; infer_instance) (fun e Y' ⟨_, e2⟩ => by subst e2; infer_instance) (fun H' fl' Y' ⟨_, _, h2, h3, _⟩ => by obtain ⟨_, _, _, _, _, _, h4, _⟩ := hI.zgk hN hF h2 h3; exact h4) fun jb mw L' w' hs2 hl hJ => ?_).to fun v w' h => ?_
   · have hgb2 := hs2 gb hgb
     have hrb2 := hrb.kl hl (.inr hgb)
     have hpL2 : ∀ c o, p = some ⟨c, o, none⟩ → c < lo ∨ c ∈ L2 := fun c o e => (hpL c o e).imp id (hLs _)
     have hsl : zaS w' p b.length 1 (bv b) := hs.kpd hl.kp fun c o e => zam (hpL2 c o e)
     by_cases hb2 : b.length ≤ 20000
     ·exact (lay37 gb g _ _ p cap b hJ hI hrb2 hgb2 hsl hcap hb2 fun c o e => (hpL2 c o e).imp id (hs2 _)).zkQ (fun v w2 ⟨m, s, H', fl', h1, h2, h3⟩ => ⟨H', fl', _, ⟨m, s, hb2, h1, rfl⟩, h2, h3⟩) fun c w2 ⟨h1, h2, h3, h4⟩ => ⟨8, _, ⟨.inr ⟨rfl, hb2, h1⟩, rfl⟩, h2, h3, h4⟩
     ·exact (lay37L gb g _ p cap _ hJ hrb2 (by omega)).zkQ (fun v w2 h => h.elim) fun c w2 ⟨h2, h3, h4⟩ => ⟨3, _, ⟨.inl ⟨rfl, by omega⟩, rfl⟩, h2, h3, h4⟩
   · rcases h with ⟨H', fl', Y', ⟨m, s, h1, h2, rfl⟩, h4, h3, h5, h6⟩ | ⟨e, Y', ⟨⟨rfl, h1⟩ | ⟨rfl, h1, h2⟩, rfl⟩, h3, h5, h6⟩
     ·exact ⟨0, m, s, H', h3, h5, h6, .inr (.inr ⟨rfl, h1, h2⟩)⟩
     ·exact ⟨3, 0, 0, H, h3, h5, h6, .inl ⟨rfl, h1, rfl⟩⟩
     ·exact ⟨8, 0, 0, H, h3, h5, h6, .inr (.inl ⟨rfl, h1, h2, rfl⟩)⟩
 refine zax (fn := Tryz.f11) (rs := [.cell 4 38, .tmp 5]) (n := 16) Tryz.func11 rfl rfl Tryz.ntmps11 (by kernel_rfl) rfl (zah (zaa (zaD rfl (za4 ([.slice p b.length cap]) rfl (fun g3 w3 hg3 hr3 hb3 => ?_)))))
 have sz_g3 := hLL.size
 have lt_hb_g3 : hb < g3 := Nat.lt_of_lt_of_le hr.lt hg3
 replace hLL := hLL.new hb3
 replace hr := hr.new hb3
 replace h := h.newc hb3 hg3 hr3.lt
 replace hs := hs.new hb3
 refine zaD rfl (zar ([Value.int .i64 0, Value.int .i64 0]) (by kernel_rfl) (fun g4 w4 hg4 hr4 hb4 => ?_))
 have lt_hb_g4 : hb < g4 := Nat.lt_of_lt_of_le hr.lt hg4
 have lt_g3_g4 : g3 < g4 := Nat.lt_of_lt_of_le hr3.lt hg4
 replace hLL := hLL.new hb4
 replace hr := hr.new hb4
 replace h := h.newc hb4 hg4 hr4.lt
 replace hs := hs.new hb4
 replace hr3 := hr3.new hb4
 refine zad (zac) (zae (zaf (zah (zaa ?_))))
 have hp6 := h
 refine zaD rfl (zar ([Value.int .i64 0, Value.int .i64 0]) (by kernel_rfl) (fun g6 w6 hg6 hr6 hb6 => ?_))
 have lt_hb_g6 : hb < g6 := Nat.lt_of_lt_of_le hr.lt hg6
 have lt_g3_g6 : g3 < g6 := Nat.lt_of_lt_of_le hr3.lt hg6
 have lt_g4_g6 : g4 < g6 := Nat.lt_of_lt_of_le hr4.lt hg6
 replace hLL := hLL.new hb6
 replace hr := hr.new hb6
 replace hs := hs.new hb6
 replace hr3 := hr3.new hb6
 replace hr4 := hr4.new hb6
 have h6 := zfH hp6 hb6 hr6 hg6
 have hl3 := hr3.lt
 have hl4 := hr4.lt
 refine zae (zaf (zah (zaa (zad (zab) (zad (zbm) (zao rfl (zaj (by kernel_rfl) rfl) (hrun g3 g6 w6 (g4 :: g3 :: L) (by simp) (hL34 g4 g3) hr hr3 hs h6) ?_))))))
 rintro _ w10 ⟨e, m, s, H2, rfl, h7, hb10, hcase⟩
 replace hLL := hLL.ll hb10 (fun b hb => by simp [hb])
 replace hr4 := hr4.kl hb10
 refine zad (zac) (zae (zaf (zah (zah (zaa (zad (zab) (zad (zaX rfl rfl) (zae (zaf (za0 rfl (fun hne => ?_) (fun hne => ?_)))))))))))
 ·
  refine zah (zaa (zad (zbN ([Value.int .i64 0, Value.int .i64 0]) (by kernel_rfl)) (zad (zab) (zaK rfl (zaQ 2 ([.int .i64 0, .int .i64 0]) hr4 (fun w901 hr4 ho901 => ?_))))))
  replace hLL := hLL.oq ho901
  replace h7 := h7.only ho901 (by first | (right; simp; done) | (left; omega) | (right; simp [*]; done))
  refine zad (zac) (zae (zaf (zaF (zaW (zan [_, _] ⟨⟨_, rfl, Ld.zb9 (k := 2) hr4 (by kernel_rfl) (by kernel_rfl) (by first | (simp; done) | (simp [zal, *]; done) | assumption)⟩, rfl, trivial⟩ ?_)))))
  have h8 := (zds h7).weak (L2 := L) fun b hb => by simp [hb]
  refine ⟨?_, hLL⟩
  rcases hcase with ⟨rfl, h1, rfl⟩ | ⟨rfl, h1, h2, rfl⟩ | ⟨rfl, _⟩
  · exact .inl ⟨h1, rfl, h8⟩
  · exact .inr (.inl ⟨h1, h2, rfl, h8⟩)
  · exact absurd rfl hne
 ·
  have hc := zdr h7
  obtain ⟨hx6, hlo6, hnL6⟩ := hc
  refine zat (zaf (zah (zaa (zad (zaG rfl (Ld.zb9 (k := 2) hx6 (by kernel_rfl) (by kernel_rfl) rfl)) (zaK rfl (zaQ 2 ([.int .i64 (m : Int), .int .i64 (s : Int)]) hr4 (fun w902 hr4 ho902 => ?_)))))))
  replace hLL := hLL.oq ho902
  replace h7 := h7.only ho902 (by first | (right; simp; done) | (left; omega) | (right; simp [*]; done))
  replace hx6 := hx6.only ho902 (Nat.ne_of_gt lt_g4_g6)
  refine zad (zac) (zae (zaf (zaF (zan [_, _] ⟨⟨_, rfl, Ld.zb9 (k := 2) hr4 (by kernel_rfl) (by kernel_rfl) (by first | (simp; done) | (simp [zal, *]; done) | assumption)⟩, rfl, trivial⟩ ?_))))
  have h8 := (zds h7).weak (L2 := L) fun b hb => by simp [hb]
  refine ⟨?_, hLL⟩
  rcases hcase with ⟨rfl, h1, rfl⟩ | ⟨rfl, h1, h2, rfl⟩ | ⟨rfl, h1, h2⟩
  · exact absurd (by decide) hne
  · exact absurd (by decide) hne
  · exact .inr (.inr ⟨h1, m, s, H2, h2, rfl, h8⟩)
end
end Go.Proofs.YtdbogkndglbffaaGreat
