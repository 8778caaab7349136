import Derived.Test.YtdbogkndglbffaaGreatM0
import Derived.Test.YtdbogkndglbffaaGreatM3
import Derived.Test.YtdbogkndglbffaaGreatM1
import Derived.Shelf.SlIterI.Nil
import Derived.Shelf.SortM.Plain
import Derived.Shelf.SortM.SortNone
import Derived.Test.YtdbogkndglbffaaGreatProg
import Derived.Test.YtdbogkndglbffaaGreatM2
namespace Go.Proofs.YtdbogkndglbffaaGreat
open Go Go.RowKit Coup
structure RdAt(w0:World)(B x g g1 g2 cc si n:Nat)(de:Bool)(T:List Rec)(W:World):Prop where
 rx:row W x [.int .u64 (cc:Int), .int .u64 (si:Int), .pointer (some ⟨g,0,none⟩), .int .i64 (n:Int), .int .i64 ((T.length:Nat):Int), .int .i64 ((atS T:Nat):Int), .bool de] 197
 r1:row W g1 [.pointer (some ⟨x,0,none⟩)] 113
 ow:∃ v vs,row W g2 [v] 143∧zaz W B 114 1 v T.length vs∧zer W B v.ownBlock vs T
 kb:Kp [x] w0 W
theorem RdAt.soft{w0 W W':World}{B B' x g g1 g2 cc si n:Nat}{de:Bool}{T:List Rec}(h:RdAt w0 B x g g1 g2 cc si n de T W)(hs:zfc B' W W')(hB:w0.heap.size≤B'):RdAt w0 B x g g1 g2 cc si n de T W':=
 ⟨h.rx.soft hs,h.r1.soft hs,let ⟨v,vs,h1,h2,h3⟩:=h.ow;⟨v,vs,h1.soft hs,h2.soft hs,h3.soft hs⟩,h.kb.soft hs hB⟩
theorem all_of{w0 W:World}{B e:Nat}{p:Option Addr}{c:Nat}{vs:List Value}{o:Option Nat}{S:List Rec}(hv:zaz W B e 1 (.slice p S.length c) S.length vs)(hr:zer W B o vs S)(hB:w0.heap.size≤B):
  zlx p S W (List.range' w0.heap.size (W.heap.size - w0.heap.size)):=by
 have hC:∀ b,w0.heap.size≤b→b<W.heap.size→b∈List.range' w0.heap.size (W.heap.size - w0.heap.size):=fun b h1 h2=>List.mem_range'_1.2 ⟨h1,ae⟩
 refine⟨fun b hb=>by have:=List.mem_range'_1.1 hb;omega,vs,hv.sl,fun h0 b o e=>?_,fun i r hi=>?_⟩
 ·subst e
  have:=hv.lt b rfl
  exact hC b ae this.2
 ·obtain⟨b,off,c,h1,h2,h3,_,_,h6⟩:=hr.at_ i r hi
  exact⟨b,off,c,h1,h2,hC b ae h3⟩
theorem zoO{w:World}{base e sz m b:Nat}{v:Value}{xs:List Value}(h:zaz w base e sz v m xs)(hb:v.ownBlock=some b):∃ o:Obj,w.heap[b]?=some o∧o.isCells=true:=by
 rcases h.2 with hn|⟨g,off,cap,cur,rfl,hb',hgg,rest⟩
 ·simp[hn,Value.ownBlock]at hb
 ·cases hb;exact⟨_,hgg,rfl⟩
theorem zgu{w:World}{base e sz m c:Nat}{p:Option Addr}{xs:List Value}(h:zaz w base e sz (.slice p m c) m xs):m≤c:=by
 rcases h.2 with⟨hn,_⟩|⟨g,off,cap,cur,he,hb',hgg,hmc,_⟩
 ·cases hn;exact Nat.le_refl _
 ·cases he;exact hmc
theorem zd7{s c k:Nat}{r:zjn}{R:List zjn}(h:zhH s c k r=none):zes s c k (r::R)=[]:=by rw[zes,h]
theorem ziA{s c k:Nat}{r:zjn}{R:List zjn}{x:Rec}(h:zhH s c k r=some x):zes s c k (r::R)=x::zes s c (k+1) R:=by rw[zes,h]
theorem zmp(T:List Rec)(r:Rec):atS (T++[r])=atS T+zci (516*r.length):=by simp[atS]
theorem ofR_may{b:List UInt8}{r:Rec}(h:ofR b=some r):1≤r.length∧r.length≤60:=by
 unfold ofR at h
 split at h
 ·rename_i hok
  cases h
  rw[ofOk,Bool.and_eq_true,Bool.and_eq_true]at hok
  have:=of_decide_eq_true hok.1.2
  rwa [zlv]
 ·cases h
section
variable {Y:World→List Nat→Prop}[Thing Y]{g x lo:Nat}{L:List Nat}{D:Dk}{G:Lg}{w:World}
set_option maxRecDepth 20000 in
set_option maxHeartbeats 2000000 in
theorem read52(h:zew g x Y lo L D G w)(hok:LgOk D G)(h0:G.num=0)(h1:G.at_=0):
   Calls Tryz.prog 141 [.pointer (some ⟨x,0,none⟩)].toArray w (Ret fun v w'=>∃ p c,v= .tuple #[.slice p (zcR D G).length c, .int .i64 0]∧(zcR D G).length≤c∧
     zew g x (zly Y (zlx p (zcR D G))) lo L D {G with num:=(zcR D G).length,at_:=atS (zcR D G)} w'∧LoL lo L w w'):=by
 have hB:=Below.refl w.heap.size w
 have hx:=h.rowx
 have hxl:=hx.lt
 have hge:=h.ge
 have hni:=h.ni
 have hfit:=hok.fit
 have hszm:=hok.szm
 have hsz4:=hok.sz4
 have hDk:=(tOk h.two).1
 have hml:maxLen=9223372036854775807:=by decide
 have hrec:zcR D G=zes G.since G.count 0 (zcO G.size (znl D G.size) G.size):=rfl
 have hTw:=fun w' (hb:Below w.heap.size w w') i=>tRead (h.new hb).two i
 generalize zcR D G=S at*
 obtain⟨cc,si,sz,nu,at_,de⟩:=G
 dsimp only[lgV]at*
 subst h0 h1
 refine zax (fn:=Tryz.f141) (rs:=[.cell 2 143, .tmp 3]) (n:=99) Tryz.func141 rfl rfl Tryz.ntmps141 aa rfl (zah (zaa (zaD rfl (za4 ([_]) rfl (fun g1 w1 hg1 hr1 hb1=>?_)))))
 have lt_x_g1:x<g1:=Nat.lt_of_lt_of_le hx.lt hg1
 replace hx:=hx.new hb1
 replace hB:=hB.acc hb1
 refine zaD rfl (zar ([Value.slice none 0 0]) aa (fun g2 w2 hg2 hr2 hb2=>?_))
 have lt_x_g2:x<g2:=Nat.lt_of_lt_of_le hx.lt hg2
 have lt_g1_g2:g1<g2:=Nat.lt_of_lt_of_le hr1.lt hg2
 replace hx:=hx.new hb2
 replace hr1:=hr1.new hb2
 replace hB:=hB.acc hb2
 refine zad (zac) (zae (zaf (zah (zaa (zad (zac) (zae (zaf (zah (zah (zaa (zad (zau hr1) (zad (zak rfl) (zad (zaw 3) (zad (zau hx) (zad (zab) (zae (zaf (zav ?_))))))))))))))))))
 have hx2:=hx.lt
 have h12:=hr1.lt
 have h22:=hr2.lt
 have hb2:=hB.size
 refine zbq (α:=Nat × Value) (0, .slice none 0 0) (fun k=>[(16, .int .i64 (k.1:Nat)),(15, .int .i64 (sz:Int)),(4,k.2),(1, .pointer (some ⟨g1,0,none⟩)),(2, .pointer (some ⟨g2,0,none⟩))])
   (fun k w'=>k.1≤sz∧zaz w' w2.heap.size 172 128 k.2 k.1 (bv (znl D k.1))∧row w' x [.int .u64 (cc:Int), .int .u64 (si:Int), .pointer (some ⟨g,0,none⟩), .int .i64 (sz:Int), .int .i64 ((0:Nat):Int), .int .i64 ((0:Nat):Int), .bool de] 197∧row w' g1 [.pointer (some ⟨x,0,none⟩)] 113∧row w' g2 [.slice none 0 0] 143∧Below w.heap.size w w'∧w2.heap.size≤w'.heap.size) (fun k=>sz - k.1)
   ⟨rfl,rfl,rfl,rfl,rfl,rfl⟩ ⟨Nat.zero_le _,zbp _ _ _ _,hx,hr1,hr2,hB,Nat.le_refl _⟩ ?_
 clear hx hr1 hr2 hB
 rintro⟨i,u⟩ f wr ⟨hi,hu,hx,hr1,hr2,hB,hsw⟩
 dsimp only at*
 have hBr:=Below.refl wr.heap.size wr
 refine zah (zaa (zad (zaY rfl rfl) (zae (zaf (zah (za0 rfl (fun hlt=>?_) (fun hlt=>?_)))))))
 ·
  refine zat (zaf (zah (zav (zah (zaa (zad (zab) (zad (zac) (zae (zaf (zah (zaa ?_)))))))))))
  have hcast:((1+i:Nat):Int)=1+(i:Int):=by omega
  have hin:inD D ((1+i:Nat):Int)=true:=decide_eq_true ae
  have hsl:=zf5 hDk (i:=1+i) ae
  have hlsn:=zkw D i
  have hex:∃ s,za8 D (1+i)=s:=⟨_,rfl⟩
  obtain⟨s,hs⟩:=hex
  rw[hs]at hsl hlsn
  refine zad (zau hr1) (zad (zak rfl) (zad (zaw 2) (zad (zau hx) (zad (zab) (zad (zaO rfl rfl (Coup.w64 ae)) ?_)))))
  have hrd:=hTw _ hB ((1+i:Nat):Int)
  rw[hin,if_pos rfl,if_pos rfl,Int.toNat_natCast,hs,hcast]at hrd
  refine zao rfl (zaj aa rfl) (hrd) ?_
  rintro _ w26 ⟨rfl,hb26⟩
  replace hx:=hx.new hb26
  replace hr1:=hr1.new hb26
  replace hr2:=hr2.new hb26
  replace hB:=hB.acc hb26
  replace hBr:=hBr.acc hb26
  refine zad (zab) (zad (zai rfl rfl) (zad (zai rfl rfl) (zaD rfl (zar (List.replicate 128 (Value.int .u8 0)) aa (fun g6 w6 hg6 hr6 hb6=>?_)))))
  have ge_hB_g6:=Nat.le_trans hB.size hg6
  have ge_hBr_g6:=Nat.le_trans hBr.size hg6
  have lt_x_g6:x<g6:=Nat.lt_of_lt_of_le hx.lt hg6
  have lt_g1_g6:g1<g6:=Nat.lt_of_lt_of_le hr1.lt hg6
  have lt_g2_g6:g2<g6:=Nat.lt_of_lt_of_le hr2.lt hg6
  replace hx:=hx.new hb6
  replace hr1:=hr1.new hb6
  replace hr2:=hr2.new hb6
  replace hB:=hB.acc hb6
  replace hBr:=hBr.acc hb6
  refine zaK rfl (zaQ 128 (bv s) hr6 (fun w901 hr6 ho901=>?_))
  replace hx:=hx.only ho901 (Nat.ne_of_lt lt_x_g6)
  replace hr1:=hr1.only ho901 (Nat.ne_of_lt lt_g1_g6)
  replace hr2:=hr2.only ho901 (Nat.ne_of_lt lt_g2_g6)
  replace hB:=ho901.below hB ge_hB_g6
  replace hBr:=ho901.below hBr ge_hBr_g6
  refine zad (zac) (zae (zaf (zah (zah (zaa (zad (zab) (zad (zaX rfl rfl) (zae (zaf (zcF rfl (ay) (zat (zaf (zaa (zad (zab) (zad (zaG rfl (Ld.zb9 (k:=128) hr6 aa aa (by rw[zal,hsl]))) (zaD rfl (zdd (e:=172) (.agg (bv s).toArray) (bv s) (List.replicate 128 (Value.int .u8 0)) 128 aa aa rfl rfl aF ⟨aD,aD⟩ (fun g34 w34 hg34 hr34 hb34=>?_))))))))))))))))))
  replace hx:=hx.new hb34
  replace hr1:=hr1.new hb34
  replace hr2:=hr2.new hb34
  replace hB:=hB.acc hb34
  replace hBr:=hBr.acc hb34
  have hs34:=hr34.slA (m:=1) (sz:=128) (by rw[zal,hsl]) ae
  replace hu:=hu.new hBr
  have hbz:=hBr.size
  refine zaD rfl (zbf (e:=172) (sz:=128) (bytes:=128) (z:=.agg (List.replicate 128 (Value.int .u8 0)).toArray) aa rfl aa rfl aD rfl hu rfl hs34 (zbV _) aC ae (fun hm0=>ae) (fun v35 w35 hv35 hgr35 hfr35=>?_))
  replace hx:=hx.own hu hgr35 ae
  replace hr1:=hr1.own hu hgr35 ae
  replace hr2:=hr2.own hu hgr35 ae
  replace hB:=hB.own hu hgr35 ae
  refine zad (zac) (zae (zaP (zaf (zaa (zad (zaO rfl rfl (Coup.w64 ae)) (zad (zab) (zae ?_)))))))
  rw[←zcG,←hlsn]at hv35
  refine za2 ⟨(i+1,v35),by show _ - (i+1)<_ - i;omega,⟨by go_num,rfl,rfl,rfl,rfl,rfl⟩,by show i+1≤_;omega,hv35,hx,hr1,hr2,hB,by have:=hgr35.size;have:=hBr.size;omega⟩
 ·
  have him:i=sz:=by omega
  subst him
  have hobt:=hu.form' ae
  obtain⟨ga,oa,ca,rfl,hga1,hga2,hca⟩:=hobt
  have hall:=hu.sl
  refine zbh (zbC (zbH (zbl (zaf (zah (zah (zaa (zad (zab) (zao rfl (zaj aa rfl) (rows73 (znl D i) ga oa i ca wr hall ae ae hca) ?_)))))))))
  rintro _ w38 ⟨gr,rfl,hgr,hgr2,hb38,hseq⟩
  replace hx:=hx.new hb38
  replace hr1:=hr1.new hb38
  replace hr2:=hr2.new hb38
  replace hB:=hB.acc hb38
  refine zae (zaf (zav ?_))
  have hRs:=zhG i (znl D i) i
  have hRl:=zkv i (znl D i) i
  have hobt:∃ R,zcO i (znl D i) i=R:=⟨_,rfl⟩
  obtain⟨R,hR⟩:=hobt
  rw[hR]at hseq hrec hRs hRl
  have hbs:=hB.size
  have hobt:∃ b,(w38).heap.size=b:=⟨_,rfl⟩
  obtain⟨BB,hBB⟩:=hobt
  have hg1l:=hr1.lt
  have hg2l:=hr2.lt
  have hRd:RdAt w BB x g g1 g2 cc si i de [] w38:=⟨hx,hr1,⟨_,[],hr2,zbp _ _ _ _,zer.nil _ _ _⟩,Kp.zc0 hB⟩
  refine zku (ps:=[39,40]) (m:=R.length) (V:=RowV R) (ks:=[gr,ga]) (fun _ h=>h) rfl aa hseq (Below.refl _ _) (by rintro k v W ⟨r,_,sp,rfl,_⟩;rfl) aa ay
    (by intro y hy;simp only[List.mem_cons,List.not_mem_nil,or_false]at hy;rcases hy with rfl|rfl<;>omega)
    (fun k W=>k≤R.length∧∃ T:List Rec,T.length=k∧atS T≤1000*k∧S=T++zes si cc k (R.drop k)∧RdAt w BB x g g1 g2 cc si i de T W)
    (fun c W=>c= .exit 2∧RdAt w BB x g g1 g2 cc si i de S W) (fun k W W' ⟨h1,T,h2,ha,h3,h4⟩ hs=>⟨h1,T,h2,ha,h3,h4.soft hs hbs⟩) (fun c W W' ⟨h1,h2⟩ hs=>⟨h1,h2.soft hs hbs⟩) ⟨Nat.zero_le _,[],rfl,Nat.le_refl _,hrec,hRd⟩ ?_ ?_ ?_
  · intro l k v W1 hkR hv hI hsz
    obtain⟨hk,T,hTk,hat,hST,hT⟩:=hI
    obtain⟨r,hRk,sp,rfl,hsp⟩:=hv
    have hrs:=hRs r (List.mem_of_getElem? hRk)
    have hdr:R.drop k=r::R.drop (k+1):=by rw[List.drop_eq_getElem_cons hkR];congr 1;exact Option.some.inj ((List.getElem?_eq_getElem hkR).symm.trans hRk)
    rw[hdr]at hST
    have hBa:=Below.refl W1.heap.size W1
    refine zah (zaa (zaD rfl (zar ([Value.int .u64 0,Value.int .i64 0]) aa (fun g8 w8 hg8 hr8 hb8=>?_))))
    have ge_hBa_g8:=Nat.le_trans hBa.size hg8
    replace hBa:=hBa.acc hb8
    refine zaK rfl (zaQ 2 ([.int .u64 (r.c:Int), .int .i64 (r.nn:Int)]) hr8 (fun w902 hr8 ho902=>?_))
    replace hBa:=ho902.below hBa ge_hBa_g8
    refine zae (zaf (zaa (zad (zac) (zae (⟨rfl,hBa,fun W2 hs=>?_⟩)))))
    have hr8:=hr8.soft hs
    have hsp:=(hsp.new hBa).soft hs
    have hsz2:=hs.size
    have hsz1:=hBa.size
    have hT2:RdAt w BB x g g1 g2 cc si i de T W2:=RdAt.soft (w0:=w) ⟨hT.rx.new hBa,hT.r1.new hBa,let ⟨v,vs,q1,q2,q3⟩:=hT.ow;⟨v,vs,q1.new hBa,q2.new hBa,q3.new hBa⟩,hT.kb.trans (Kp.zc0 hBa)⟩ hs hbs
    obtain⟨hx,hr1,⟨v,vs,hr2,hu,hrl⟩,hkb⟩:=hT2
    obtain⟨pu,cu,rfl⟩:=hu.form
    have hBi:=Below.refl W2.heap.size W2
    have hof:=fun w' (h:zaS w' sp r.b.length 1 (bv r.b))=>of13 r.b sp r.b.length r.b.length w' h (Nat.le_refl _) ae
    cases hrb:ofR r.b with
    |none=>
      have hS2:S=T:=by rw[hST,zd7 (by rw[zhH,hrb];split<;>rfl),List.append_nil]
      have hof2:=fun w' (h:zaS w' sp r.b.length 1 (bv r.b))=>(hof w' h).to fun v w2 h=>(show v= .tuple #[.slice none 0 0, .int .i64 4]∧Below w'.heap.size w' w2 from⟨h.1.elim (fun⟨_,_,_,_,h1,_⟩=>by rw[hrb]at h1;cases h1) fun h=>h.2,h.2⟩)
      refine zav (zah (zaa (zad (zab) (zao rfl (zaj aa rfl) (hof2 _ (hsp.new hBi)) ?_))))
      rintro _ w43 ⟨rfl,hb43⟩
      replace hx:=hx.new hb43
      replace hr1:=hr1.new hb43
      replace hBi:=hBi.acc hb43
      refine dF ?_
      intro w903 hb903 hS903
      replace hx:=hx.new hb903
      replace hr1:=hr1.new hb903
      replace hBi:=hBi.acc hb903
      refine zas 0 (zab) (zas 1 (zaX rfl rfl) (zas 2 (zab) (zle 48 rfl (aD) (zaL 3 aa rfl (zaL 4 aa rfl (zaL 5 aa rfl (zaL 6 aa rfl (zaL 7 aa rfl (zaL 8 aa rfl (zaL 9 aa rfl (zas 10 (zaC rfl) (zas 11 (zab) (zaL 12 aa rfl (zaL 13 aa rfl (zaL 14 aa rfl (zaL 15 aa rfl (zaL 16 aa rfl (zaL 17 aa rfl (zaL 18 aa rfl (zaL 19 aa rfl (zas 20 (zaC rfl) (zas 21 (zab) (zaL 22 aa rfl ?_)))))))))))))))))))))))
      refine zaL 23 aa rfl (zaL 24 aa rfl (zaL 25 aa rfl (zaL 26 aa rfl (zaL 27 aa rfl (zaL 28 aa rfl (zaL 29 aa rfl (zas 30 (zaC rfl) (zaI aa (zaf (W_t rfl (zbh (zbC (zjS rfl ?_)))))))))))))
      exact⟨zcr (M:=[]) (Kp.of_below hBi) ay,rfl,hS2▸⟨hx,hr1,⟨_,vs,hr2.new hBi,hu.new hBi,hrl.new hBi⟩,hkb.trans (Kp.zc0 hBi)⟩⟩
    |some rr=>
      have hof3:=fun w' (h:zaS w' sp r.b.length 1 (bv r.b))=>(hof w' h).to fun v w2 h=>(show ∃ g o c,v= .tuple #[.slice (some ⟨g,o,none⟩) rr.length c, .int .i64 0]∧w'.heap.size≤g∧rr.length≤c∧zaS w2 (some ⟨g,o,none⟩) rr.length 513 (zcj rr)∧Below w'.heap.size w' w2 from h.1.elim (fun⟨r2,g,o,c,h1,h2,h3,h4,h5⟩=>by rw[hrb]at h1;cases h1;exact⟨g,o,c,h2,h3,h4,h5,h.2⟩) fun h=>by rw[hrb]at h;cases h.1)
      have hrr:=ofR_may hrb
      have hnw:=zkp hrr
      have hN:zci (516*rr.length)≤1000:=by unfold zci zc4;omega
      refine zav (zah (zaa (zad (zab) (zao rfl (zaj aa rfl) (hof3 _ (hsp.new hBi)) ?_))))
      rintro _ w43 ⟨gq,oq,cq,rfl,hgq,hcq,hsq,hb43⟩
      replace hr8:=hr8.new hb43
      replace hx:=hx.new hb43
      replace hr1:=hr1.new hb43
      replace hBi:=hBi.acc hb43
      refine dF ?_
      intro w904 hb904 hS904
      replace hr8:=hr8.new hb904
      replace hx:=hx.new hb904
      replace hr1:=hr1.new hb904
      replace hsq:=hsq.new hb904
      replace hBi:=hBi.acc hb904
      have hr8_d904:=hr8
      have hx_d904:=hx
      have hr1_d904:=hr1
      refine zas 0 (zab) (zas 1 (zaX rfl rfl) (zas 2 (zab) (zi1 48 rfl (ay) (zas 3 (zaw 1) (zbo 4 (fun w' hS'=>zau (hr8_d904.kq hS')) (zbo 5 (fun w' hS'=>zau (hr1_d904.kq hS')) (zas 6 (zak rfl) (zas 7 (zaw 4) (zbo 8 (fun w' hS'=>zau (hx_d904.kq hS')) (zas 9 (zaX rfl rfl) (zas 10 (zaE rfl) (zas 11 (zab) (zeB 57 rfl (fun hnn=>?_) (fun hnn=>?_))))))))))))))
      ·
       refine zaL 12 aa rfl (zaL 13 aa rfl (zaL 14 aa rfl (zaL 15 aa rfl (zaL 16 aa rfl (zaL 17 aa rfl (zaL 18 aa rfl (zaL 19 aa rfl (zas 20 (zaC rfl) (zas 21 (zab) (zaL 22 aa rfl (zaL 23 aa rfl (zaL 24 aa rfl (zaL 25 aa rfl (zaL 26 aa rfl (zaL 27 aa rfl (zaL 28 aa rfl (zaL 29 aa rfl (zas 30 (zaC rfl) (zaI aa (zaf (W_t rfl (zbh (zbC (zjS rfl ?_))))))))))))))))))))))))
       have hS2:S=T:=by rw[hST,zd7 (by rw[zhH,if_neg ae]),List.append_nil]
       exact⟨zcr (M:=[]) (Kp.of_below hBi) ay,rfl,hS2▸⟨hx,hr1,⟨_,vs,hr2.new hBi,hu.new hBi,hrl.new hBi⟩,hkb.trans (Kp.zc0 hBi)⟩⟩
      ·
       refine zas 12 (zaw 0) (zbo 13 (fun w' hS'=>zau (hr8_d904.kq hS')) (zbo 14 (fun w' hS'=>zau (hr1_d904.kq hS')) (zas 15 (zak rfl) (zas 16 (zaw 0) (zas 17 (zaw 1) (zbo 18 (fun w' hS'=>zau (hx_d904.kq hS')) (zas 19 (zaY rfl rfl) (zas 20 (zaE rfl) (zas 21 (zab) (zeB 67 rfl (fun hsi=>?_) (fun hsi=>?_)))))))))))
       ·
        refine zaL 22 aa rfl (zaL 23 aa rfl (zaL 24 aa rfl (zaL 25 aa rfl (zaL 26 aa rfl (zaL 27 aa rfl (zaL 28 aa rfl (zaL 29 aa rfl (zas 30 (zaC rfl) (zaI aa (zaf (W_t rfl (zbh (zbC (zjS rfl ?_))))))))))))))
        have hS2:S=T:=by rw[hST,zd7 (by rw[zhH,if_neg ae]),List.append_nil]
        exact⟨zcr (M:=[]) (Kp.of_below hBi) ay,rfl,hS2▸⟨hx,hr1,⟨_,vs,hr2.new hBi,hu.new hBi,hrl.new hBi⟩,hkb.trans (Kp.zc0 hBi)⟩⟩
       ·
        refine zas 22 (zaw 0) (zbo 23 (fun w' hS'=>zau (hr8_d904.kq hS')) (zbo 24 (fun w' hS'=>zau (hr1_d904.kq hS')) (zas 25 (zak rfl) (zas 26 (zaw 0) (zas 27 (zaw 0) (zbo 28 (fun w' hS'=>zau (hx_d904.kq hS')) (zas 29 (zbA rfl rfl) (zas 30 (zaE rfl) (zaI aa (zaf (za0 rfl (fun hcc=>?_) (fun hcc=>?_))))))))))))
        ·
         refine zbh (zbC (zjS rfl ?_))
         have hS2:S=T:=by rw[hST,zd7 (by rw[zhH,if_neg ae]),List.append_nil]
         exact⟨zcr (M:=[]) (Kp.of_below hBi) ay,rfl,hS2▸⟨hx,hr1,⟨_,vs,hr2.new hBi,hu.new hBi,hrl.new hBi⟩,hkb.trans (Kp.zc0 hBi)⟩⟩
        ·
         have hok2:zhH si cc k r=some rr:=by rw[zhH,if_pos ae,hrb]
         rw[ziA hok2]at hST
         have hu2:=hu
         have hsi2:=hsi
         refine zat (zaf (zah (zaa ?_)))
         replace hr2:=hr2.new hBi
         replace hu:=hu.new hBi
         replace hrl:=hrl.new hBi
         have hBe:=hBi
         have hKx:KpB (x::g2::(Value.slice pu T.length cu).ownBlock.toList) W2 w904:=⟨Kp.zc0 hBi⟩
         have hwz:=hBi.size
         refine zad (zau hr2) (zad (zab) (zaD rfl (zdd (e:=114) (.slice (some ⟨gq,oq,none⟩) rr.length cq) ([.slice (some ⟨gq,oq,none⟩) rr.length cq]) ([Value.slice none 0 0]) 1 aa aa rfl rfl rfl ⟨aD,aD⟩ (fun g79 w79 hg79 hr79 hb79=>?_))))
         replace hx:=hx.new hb79
         replace hr1:=hr1.new hb79
         replace hsq:=hsq.new hb79
         replace hr2:=hr2.new hb79
         replace hu:=hu.new hb79
         replace hrl:=hrl.new hb79
         replace hKx:=hKx.new hb79
         have hs79:=hr79.slA (m:=1) (sz:=1) rfl ae
         have hgq2:=(hsq.some ae)
         obtain⟨_,_,hqe,hgq3⟩:=hgq2
         cases hqe
         have hwz2:=hb79.size
         refine zaD rfl (zbf (e:=114) (sz:=1) (bytes:=24) (z:=Value.slice none 0 0) aa rfl aa rfl aD rfl hu rfl hs79 aL aC ae (fun hm0=>ae) (fun v80 w80 hv80 hgr80 hfr80=>?_))
         replace hx:=hx.own hu hgr80 ae
         replace hr1:=hr1.own hu hgr80 ae
         replace hr2:=hr2.own hu hgr80 ae
         obtain⟨p80,c80,rfl⟩:=hv80.form
         have hne:∀ b,(Value.slice pu T.length cu).ownBlock=some b→BB≤b∧b<W2.heap.size:=hu2.lt
         have hsq2:=hsq.kpd (Kp.za6 hgr80) (fun b o e hm=>by cases e;have:=(hne _ (Option.mem_toList.1 hm)).2;omega)
         have hrl2:=(hrl.grow hgr80 hfr80).snoc hsq2 (Nat.lt_of_lt_of_le hgq3 hgr80.size) (fun e=>(hfr80 gq e.symm).elim (fun e'=>by have:=(hne _ e').2;omega) (fun e'=>ae)) hcq ae
         replace hKx:=hKx.kpd (Kp.za6 hgr80) (fun b hb=>.inl (List.mem_cons_of_mem _ (List.mem_cons_of_mem _ hb)))
         refine zaK rfl (zbn hr2 (fun w905 hr2 ho905=>?_))
         replace hx:=hx.only ho905 (Nat.ne_of_lt lt_x_g2)
         replace hr1:=hr1.only ho905 (Nat.ne_of_lt lt_g1_g2)
         replace hv80:=hv80.only ho905 ae
         replace hKx:=hKx.only ho905 aB
         replace hrl2:=hrl2.only ho905 ae
         refine zae (zaf (zah (zaa (zad (zau hr1) (zad (zak rfl) (zad (zaw 4) (zad (zau hx) (zad (zaO rfl rfl (Coup.w64 ae)) (zad (zak rfl) (zad (zaw 4) (zaK rfl (zbn hx (fun w906 hx ho906=>?_)))))))))))))
         replace hr1:=hr1.only ho906 (Nat.ne_of_gt lt_x_g1)
         replace hr2:=hr2.only ho906 (Nat.ne_of_gt lt_x_g2)
         replace hv80:=hv80.only ho906 ae
         replace hKx:=hKx.only ho906 aB
         replace hrl2:=hrl2.only ho906 ae
         refine zae (zaf ?_)
         have hx2:row w906 x [.int .u64 (cc:Int), .int .u64 (si:Int), .pointer (some ⟨g,0,none⟩), .int .i64 (i:Int), .int .i64 (((T.length:Nat):Int)+1), .int .i64 ((atS T:Nat):Int), .bool de] 197:=hx
         replace hx:=hx2
         clear hx2
         refine za3 [x] aa ?_
         intro w907 hb907 hS907
         replace hx:=hx.new hb907
         replace hr1:=hr1.new hb907
         replace hr2:=hr2.new hb907
         replace hv80:=hv80.new hb907
         replace hKx:=hKx.new hb907
         replace hrl2:=hrl2.new hb907
         have hr1_d907:=hr1
         refine zbo 0 (fun w' hS'=>zau (hr1_d907.kq hS')) (zas 1 (zak rfl) (zas 2 (zaw 5) (zas 4 (zab) (zas 5 (zaB (e:=147) (sz:=513) aa rfl rfl) (zdS 6 aa rfl (fun _=>zaj aa rfl) (fun w' hS'=>need10 rr.length w') (zaA 3 aa (zfP rfl rfl (zau hx) hS907 (zas 7 (zaO rfl rfl (Coup.w64 (by rw[hnw.1];omega))) (zas 8 (zak rfl) (zas 9 (zaw 5) (zaA 10 aa (zbB rfl rfl (zbn hx (fun w910 hx ho910=>?_))))))))))))))
         have hS909:=hS907.aq ho910
         refine⟨hS909,?_⟩
         replace hr1:=hr1.only ho910 (Nat.ne_of_gt lt_x_g1)
         replace hr2:=hr2.only ho910 (Nat.ne_of_gt lt_x_g2)
         replace hv80:=hv80.only ho910 ae
         replace hKx:=hKx.only ho910 aB
         replace hrl2:=hrl2.only ho910 ae
         refine zaI aa (zaP ?_)
         have e1:(((T++[rr]).length:Nat):Int)=((T.length:Nat):Int)+1:=by rw[List.length_append];rfl
         have e2:((atS (T++[rr]):Nat):Int)=((atS T:Nat):Int)+zdV rr.length:=by rw[zmp,hnw.1];rfl
         refine⟨zcr hKx.k fun b hb=>?_,fun b hb=>?_,ae,T++[rr],by rw[List.length_append,List.length_singleton];omega,by rw[zmp];omega,by rw[List.append_assoc];exact hST,by rw[e1,e2];exact hx,hr1,⟨_,_,hr2,by rw[List.length_append];exact hv80,hrl2⟩,?_⟩
         ·rcases List.mem_cons.1 hb with rfl|hb
          ·left;omega
          ·rcases List.mem_cons.1 hb with rfl|hb
           ·left;omega
           ·right;exact zoO hu2 (Option.mem_toList.1 hb)
         ·have hbl:b<BB∧b≠x∧b≠g2:=by
           simp only[List.mem_cons,List.not_mem_nil,or_false]at hb
           rcases hb with rfl|rfl<;>omega
          refine hKx.k.block b ae fun hm=>?_
          rcases List.mem_cons.1 hm with e|hm
          ·exact hbl.2.1 e
          ·rcases List.mem_cons.1 hm with e|hm
           ·exact hbl.2.2 e
           ·have:=(hne _ (Option.mem_toList.1 hm)).1;omega
         ·refine((⟨hkb⟩:KpB [x] w W2).kpd hKx.k fun b hm=>?_).k
          rcases List.mem_cons.1 hm with e|hm
          ·left;simp[e]
          ·rcases List.mem_cons.1 hm with e|hm
           ·right;omega
           ·have:=(hne _ (Option.mem_toList.1 hm)).1;right;omega
  · intro Dd W hD hI hdef
    obtain⟨hk,T,hTk,hat,hST,hT⟩:=hI
    rw[List.drop_length,zes,List.append_nil]at hST
    subst hST
    obtain⟨hx,hr1,⟨v,vs,hr2,hu,hrl⟩,hkb⟩:=hT
    obtain⟨pu,cu,rfl⟩:=hu.form
    refine zaP (zaf (zah (zaa (zad (zau hr2) (zaK rfl (zbn hr2 (fun w911 hr2 ho911=>?_)))))))
    have hdef2:(w911).heap[Dd]?=some (.deferred (some [])):=((Kp.zaZ ho911).block Dd (Array.getElem?_eq_some_iff.1 hdef).1 aK).trans hdef
    replace hdef:=hdef2
    clear hdef2
    have hput:=zfc.put (B:=w.heap.size) (.deferred none) hdef ae rfl
    have hr2n:row w911 g2 [.slice pu S.length cu] 143:=hr2
    have hr2p:=hr2n.soft hput
    have hx2:=(hx.only ho911 ae).soft hput
    have hu2:=(hu.only ho911 ae).soft hput
    have hrl2:=(hrl.only ho911 ae).soft hput
    have hk2:=((⟨hkb⟩:KpB [x] w W).only ho911 (by right;omega)).k.soft hput (Nat.le_refl _)
    refine dG ?_
    exact⟨pu,cu,rfl,zgu hu2,⟨zoN h.two hk2 (fun b hb=>.inr (by simp at hb;simp[hb])) (all_of hu2 hrl2 ae) (fun b hb=>(List.mem_range'_1.1 hb).1),hx2,hge,hni⟩,LoL.zkf hk2 (fun b hb=>.inl (by simp at hb;subst hb;exact⟨hge,hni⟩))⟩
  · intro Dd c W' hD hI hdef
    obtain⟨rfl,hT⟩:=hI
    obtain⟨hx,hr1,⟨v,vs,hr2,hu,hrl⟩,hkb⟩:=hT
    obtain⟨pu,cu,rfl⟩:=hu.form
    refine⟨aa,zbh ?_⟩
    refine zbl (zaf (zah (zaa (zad (zau hr2) (zaK rfl (zbn hr2 (fun w912 hr2 ho912=>?_)))))))
    have hdef2:(w912).heap[Dd]?=some (.deferred (some [])):=((Kp.zaZ ho912).block Dd (Array.getElem?_eq_some_iff.1 hdef).1 aK).trans hdef
    replace hdef:=hdef2
    clear hdef2
    have hput:=zfc.put (B:=w.heap.size) (.deferred none) hdef ae rfl
    have hr2n:row w912 g2 [.slice pu S.length cu] 143:=hr2
    have hr2p:=hr2n.soft hput
    have hx2:=(hx.only ho912 ae).soft hput
    have hu2:=(hu.only ho912 ae).soft hput
    have hrl2:=(hrl.only ho912 ae).soft hput
    have hk2:=((⟨hkb⟩:KpB [x] w W').only ho912 (by right;omega)).k.soft hput (Nat.le_refl _)
    refine dG ?_
    exact⟨pu,cu,rfl,zgu hu2,⟨zoN h.two hk2 (fun b hb=>.inr (by simp at hb;simp[hb])) (all_of hu2 hrl2 ae) (fun b hb=>(List.mem_range'_1.1 hb).1),hx2,hge,hni⟩,LoL.zkf hk2 (fun b hb=>.inl (by simp at hb;subst hb;exact⟨hge,hni⟩))⟩
end
theorem zhI{P:Program}{ρ:Env}{w:World}{d:Option Nat}{ty:TypeId}{pos:String}{af:Array Edge}{gd:Option (Nat × Bool)}{t i j k:Nat}{x y z:Operand}(v u s:Value)(cs:List Value)(hx:ev ρ x=v)(hy:ev ρ y=u)(hz:ev ρ z=s)(hb:P.built t [(i,v),(j,u),(k,s)]=some cs.toArray):
  (execOp (ev ρ) ⟨d, .build t #[(i,x),(j,y),(k,z)],ty,pos,af,gd⟩).run P w= .ok (.value (.agg cs.toArray)) w:=by
 have:=run_build (P:=P) w t #[(i,v),(j,u),(k,s)] cs.toArray bn
 simp only[execOp,List.map_toArray,List.map_cons,List.map_nil,hx,hy,hz,Sem.run_bind,this,Result.andThen_ok]
 rfl
theorem zjo{X Y Z:World→List Nat→Prop}{lo:Nat}{L:List Nat}{w:World}(h:Two X (zly Y Z) lo L w):Two X Y lo L w:=by
 obtain⟨⟨B,_,h1,⟨C1,C2,rfl,h2,_⟩,h3,h4⟩,h5,h6⟩:=h
 exact⟨⟨B,C1,h1,h2,fun b hb=>⟨(h3 b hb).1,fun hm=>(h3 b hb).2.1 (List.mem_append_left _ hm),(h3 b hb).2.2⟩,fun b hb=>h4 b (List.mem_append_left _ hb)⟩,h5,h6⟩
def zf6(D:Dk)(n:Int):Int:=if zf4 D.V.length n then(if zmm (za8 D 0)then(if hdC (za8 D 0)=4611686018427387904 then 8 else 0)else 6)else 2
def zet(D:Dk)(n:Int):Lg:=⟨hdC (za8 D 0),hdS (za8 D 0),n.toNat,0,0,false⟩
section
variable {Y:World→List Nat→Prop}[Thing Y]{g lo:Nat}{L:List Nat}{D:Dk}{w:World}
def noLog(e:Int):Value:=.tuple #[.pointer none, .slice none 0 0, .int .i64 e]
set_option maxRecDepth 20000 in
set_option maxHeartbeats 1000000 in
theorem openYes (h : Two (DZ g D) Y lo L w) (n : Nat) (he : zf6 D n = 0) (hsh : zbR D 90000) :
    Calls Tryz.prog 89 [.pointer (some ⟨g, 0, none⟩), .int .i64 (n : Int)].toArray w (Ret fun v w' => ∃ ok D2 C s S, zd6 D (C + 1) s = ok ∧ zcI D (C + 1) s = D2 ∧ hdC (za8 D 0) = C ∧ hdS (za8 D 0) = s ∧ zcR D (zet D n) = S ∧ LoL lo L w w' ∧
      ((ok = false ∧ v = noLog 10 ∧ Two (DZ g D2) Y lo L w') ∨ (ok = true ∧ ∃ x p c, v = .tuple #[.pointer (some ⟨x, 0, none⟩), .slice p S.length c, .int .i64 0] ∧ S.length ≤ c ∧
        zew g x (zly Y (zlx p S)) lo L D2 ⟨C + 1, s, n, S.length, atS S, false⟩ w'))) := by
  have hfit : zf4 D.V.length n = true := Decidable.byContradiction fun hc => by
    unfold zf6 at he; rw [if_neg hc] at he; cases he
  have his : zmm (za8 D 0) = true := Decidable.byContradiction fun hc => by
    unfold zf6 at he; rw [if_pos hfit, if_neg hc] at he; cases he
  have hCn : hdC (za8 D 0) ≠ 4611686018427387904 := fun hc => by
    unfold zf6 at he; rw [if_pos hfit, if_pos his] at he; rw [if_pos hc] at he; cases he
  have hft := of_decide_eq_true hfit
  have hi2 := his
  rw [zmm, Bool.and_eq_true, Bool.and_eq_true, Bool.and_eq_true] at hi2
  have hs1 := of_decide_eq_true hi2.1.1.2
  have hsc := of_decide_eq_true hi2.1.2
  have hcm := of_decide_eq_true hi2.2
  have hB := Below.refl w.heap.size w
  have hM := may49 h n ⟨by omega, by omega⟩
  rw [hfit] at hM
  have hpos := (tOk h).2
  have hin : inD D 0 = true := decide_eq_true ⟨by omega, by omega⟩
  have hrd := fun w' (hb : Below w.heap.size w w') => tRead (h.new hb) 0
  rw [hin, if_pos rfl, if_pos rfl] at hrd
  have hsl := zf5 (tOk h).1 hpos
  have hz : (0 : Int).toNat = 0 := rfl
  rw [hz] at hrd
  have hhd := fun w' => zqq (za8 D 0) w' hsl
  rw [his] at hhd
  have hHG : zet D n = ⟨hdC (za8 D 0), hdS (za8 D 0), n, 0, 0, false⟩ := by rw [zet, Int.toNat_natCast]
  obtain ⟨C, hC⟩ : ∃ C, hdC (za8 D 0) = C := ⟨_, rfl⟩
  obtain ⟨s, hS⟩ : ∃ s, hdS (za8 D 0) = s := ⟨_, rfl⟩
  rw [hC, hS] at hHG hhd
  rw [hC] at hCn hsc hcm
  rw [hS] at hsc hs1
  obtain ⟨S, hR⟩ : ∃ S, zcR D (zet D n) = S := ⟨_, rfl⟩
  have hrec := fun (x : Nat) (w' : World) (h : zew g x Y lo L D ⟨C, s, n, 0, 0, false⟩ w') => read52 h ⟨hs1, hsc, hcm, by show 4 ≤ n; omega, by show n ≤ 4000; omega, Nat.zero_le _, Nat.le_refl _, by show 1 + n ≤ _; omega⟩ rfl rfl
  rw [← hHG, hR, hHG] at hrec
  dsimp only at hrec
  obtain ⟨ok, hok⟩ : ∃ ok, zd6 D (C + 1) s = ok := ⟨_, rfl⟩
  obtain ⟨D2, hD2⟩ : ∃ D2, zcI D (C + 1) s = D2 := ⟨_, rfl⟩
  have hnx := fun (x : Nat) (p : Option Addr) (w' : World) (h : zew g x (zly Y (zlx p S)) lo L D ⟨C, s, n, S.length, atS S, false⟩ w') => next48 h s (by show C + 1 < _; omega) (by omega) hsh
  dsimp only at hnx
  rw [hok, hD2] at hnx
  generalize za8 D 0 = sc at *
  have hlo := h.lo
  have hlt := h.lt
  have hLL := LoL.refl lo L w
  have hD := h
  refine Calls.to (R := fun v w' => LoL lo L w w' ∧ ((ok = false ∧ v = noLog 10 ∧ Two (DZ g D2) Y lo L w') ∨ (ok = true ∧ ∃ x p c, v = .tuple #[.pointer (some ⟨x, 0, none⟩), .slice p S.length c, .int .i64 0] ∧ S.length ≤ c ∧
        zew g x (zly Y (zlx p S)) lo L D2 ⟨C + 1, s, n, S.length, atS S, false⟩ w'))) ?_ (fun v w' hh => ⟨ok, D2, C, s, S, hok, hD2, hC, hS, hR, hh.1, hh.2⟩)
  clear he
  refine zax (fn := Tryz.f89) (rs := [.tmp 4, .tmp 5, .tmp 6]) (n := 64) Tryz.func89 rfl rfl Tryz.ntmps89 (by kernel_rfl) rfl (zah (zaa (zad (zac) (zad (zac) (zad (zac) (zae (zaf (zah (zah (zaa (zad (zab) (zad (zab) (zao rfl (zaj (by kernel_rfl) rfl) (hM) ?_)))))))))))))
  rintro _ _ ⟨rfl, rfl⟩
  refine zad (zac) (zae (zaf (zah (zaa (zad (zab) (zad (zaX rfl rfl) (zae (zaf (zcF rfl ((by simp)) (zat (zaf (zah (zaa (zad (zab) (zao rfl (zaj (by kernel_rfl) rfl) (hrd _ hB) ?_)))))))))))))))
  rintro _ w22 ⟨rfl, hb22⟩
  replace hLL := hLL.new hb22
  replace hB := hB.acc hb22
  refine zad (zab) (zad (zai rfl rfl) (zad (zai rfl rfl) (zaD rfl (zar (List.replicate 128 (Value.int .u8 0)) (by kernel_rfl) (fun g8 w8 hg8 hr8 hb8 => ?_)))))
  have ge_hB_g8 := Nat.le_trans hB.size hg8
  have sz_g8 := hLL.size
  replace hLL := hLL.new hb8
  replace hB := hB.acc hb8
  refine zaK rfl (zaQ 128 (bv sc) hr8 (fun w901 hr8 ho901 => ?_))
  replace hLL := hLL.oq ho901
  replace hB := ho901.below hB ge_hB_g8
  refine zad (zac) (zae (zaf (zah (zah (zaa (zad (zab) (zad (zaX rfl rfl) (zae (zaf (zcF rfl ((by simp)) (zat (zaf (zah (zaa (zad (zaG rfl (Ld.zb9 (k := 128) hr8 (by kernel_rfl) (by kernel_rfl) (by rw [zal, hsl]))) (zao rfl (zaj (by kernel_rfl) rfl) (hhd w901) ?_))))))))))))))))
  rintro _ w30 ⟨rfl, hb30⟩
  replace hLL := hLL.new hb30
  replace hr8 := hr8.new hb30
  replace hB := hB.acc hb30
  refine zad (zab) (zad (zai rfl rfl) (zad (zai rfl rfl) (zaD rfl (zar ([Value.int .u64 0, Value.int .u64 0]) (by kernel_rfl) (fun g10 w10 hg10 hr10 hb10 => ?_)))))
  have ge_hB_g10 := Nat.le_trans hB.size hg10
  have lt_g8_g10 : g8 < g10 := Nat.lt_of_lt_of_le hr8.lt hg10
  replace hLL := hLL.new hb10
  replace hr8 := hr8.new hb10
  replace hB := hB.acc hb10
  refine zaK rfl (zaQ 2 ([.int .u64 (C : Int), .int .u64 (s : Int)]) hr10 (fun w902 hr10 ho902 => ?_))
  replace hLL := hLL.oq ho902
  replace hr8 := hr8.only ho902 (Nat.ne_of_lt lt_g8_g10)
  replace hB := ho902.below hB ge_hB_g10
  refine zad (zac) (zae (zaf (zah (zav (zah (zaa (zad (zab) (zad (zbK rfl) (zad (zac) (zae (zaf (zgl rfl (rfl) (zah (zaa (zad (zaw 0) (zad (zau hr10) (zad (za5 rfl rfl) (zad (zac) (zae (zaf (zcF rfl ((by omega)) (zat (zaP (zaf (zah (zaa (zad (za7 2 hr10) (zad (zab) (zad (zab) (zad (zhI (.agg #[.int .u64 (C : Int), .int .u64 (s : Int)]) (.pointer (some ⟨g, 0, none⟩)) (.int .i64 (n : Int)) [.int .u64 (C : Int), .int .u64 (s : Int), .pointer (some ⟨g, 0, none⟩), .int .i64 (n : Int), .int .i64 0, .int .i64 0, .bool false] rfl rfl rfl (by kernel_rfl)) ?_))))))))))))))))))))))))))))))
  have hDw := h.new hB
  refine zaD rfl (za4 ([.int .u64 (C : Int), .int .u64 (s : Int), .pointer (some ⟨g, 0, none⟩), .int .i64 (n : Int), .int .i64 0, .int .i64 0, .bool false]) rfl (fun g44 w44 hg44 hr44 hb44 => ?_))
  have ge_hB_g44 := Nat.le_trans hB.size hg44
  have lt_g8_g44 : g8 < g44 := Nat.lt_of_lt_of_le hr8.lt hg44
  have lt_g10_g44 : g10 < g44 := Nat.lt_of_lt_of_le hr10.lt hg44
  replace hLL := hLL.new hb44
  replace hB := hB.acc hb44
  have hbz := hB.size
  have hG : zew g g44 Y lo L D ⟨C, s, n, 0, 0, false⟩ w44 := ⟨hDw.newc hb44 hg44 hr44.lt, hr44, by omega, fun hm => by have := hDw.lt _ hm; omega⟩
  refine zad (zac) (zae (zaf (zah (zaa (zad (zab) (zao rfl (zaj (by kernel_rfl) rfl) (hrec _ w44 hG) ?_))))))
  rintro _ w47 ⟨p, cp, rfl, hcp, hG, hb47⟩
  replace hLL := hLL.lq hb47
  refine zad (zab) (zad (zai rfl rfl) (zad (zai rfl rfl) (zad (zac) (zad (zac) (zae (zaf (zah (zah (zaa (zad (zab) (zad (za5 rfl rfl) (zae (zaf (zgP rfl (rfl) (zaa (zad (zab) (zad (zab) (zad (zak rfl) (zad (zaw 0) (zad (zaw 1) (zad (zaG rfl (Ld.zeC hG.rowx (by kernel_rfl) rfl)) (zao rfl (zaj (by kernel_rfl) rfl) (hnx _ _ w47 hG) ?_))))))))))))))))))))))
  rintro _ w58 ⟨rfl, hG, hb58⟩
  replace hLL := hLL.lq hb58
  refine zad (zac) (zae (zaf (zah (zah (zaa (zad (zab) (zad (zaX rfl rfl) (zae (zaf (za0 rfl (fun hne => ?_) (fun hne => ?_)))))))))))
  ·
   refine zah (zaa (zad (zab) (zad (zac) (zad (zac) (zad (zac) (zae (zaf (zaF (zaW (zan [_, _, _] ⟨rfl, rfl, rfl, trivial⟩ ?_))))))))))
   have hf : ok = false := by cases ok with | false => rfl | true => simp at hne
   subst hf
   exact ⟨hLL, .inl ⟨rfl, rfl, zjo hG.fst⟩⟩
  ·
   have hf : ok = true := by cases ok with | true => rfl | false => simp at hne
   subst hf
   refine zat (zaf (zah (zaa (zad (zab) (zad (zab) (zad (zac) (zad (zac) (zad (zac) (zae (zaf (zaF (zan [_, _, _] ⟨rfl, rfl, rfl, trivial⟩ ?_))))))))))))
   exact ⟨hLL, .inr ⟨rfl, _, p, cp, rfl, hcp, hG⟩⟩
end
def zgJ(n:Nat)(s:Int):Nat:=if s<4∨4000<s then 0 else(n - 1 - s.toNat) / 4
section
variable {Y:World→List Nat→Prop}{g lo:Nat}{L:List Nat}{D:Dk}{w:World}
set_option maxRecDepth 20000 in
theorem countP(h:Two (DZ g D) Y lo L w)(s:Int)(hs:zqr s):Calls Tryz.prog 86 [.pointer (some ⟨g,0,none⟩), .int .i64 s].toArray w (Ret fun v w'=>v= .int .i64 ((zgJ D.V.length s:Nat):Int)∧w=w'):=by
 have hS:=zjf h
 have hn8:=(tOk h).1.n
 have h1:=hs.1
 have h2:=hs.2
 refine zax (fn:=Tryz.f86) (rs:=[.tmp 4]) (n:=18) Tryz.func86 rfl rfl Tryz.ntmps86 aa rfl (zah (zaa (zad (zac) (zae (zaf (zah (zah (zaa (zad (zab) (zad (zaY rfl rfl) (zad (zab) (zbI 7 rfl (fun h3=>?_) (fun h3=>?_)))))))))))))
 ·
  refine dD ?_
  exact⟨by rw[zgJ,if_pos (.inl h3)];rfl,rfl⟩
 ·
  refine zaq rfl (zad (zab) (zaq rfl (zad (zbA rfl rfl) (zad (zaE rfl) (zae (zaf (za0 rfl (fun h4=>?_) (fun h4=>?_))))))))
  ·
   refine bZ ?_
   exact⟨by rw[zgJ,if_pos (.inr h4)];rfl,rfl⟩
  ·
   have hobt:∃ m:Nat,s=m:=⟨s.toNat,ae⟩
   obtain⟨m,rfl⟩:=hobt
   refine zat (zaf (zah (zaa (zad (zab) (zao rfl (zaj aa rfl) (hS) ?_)))))
   rintro _ _ ⟨rfl,rfl⟩
   refine zad (zcX rfl rfl (Coup.w64 ae)) (zad (zab) (zad (zcX rfl rfl (Coup.w64 ae)) (zad (zfq rfl rfl) (zad (zhi rfl rfl ae ae) (zad (zac) (zae (zaf (zaF (zan [_] ⟨rfl,trivial⟩ (⟨?_,rfl⟩))))))))))
   show Value.int .i64 (max ((D.V.length:Int) - 1 - m) 0 / 4)=_
   rw[zgJ,if_neg ae,Int.toNat_natCast]
   congr 1
   omega
set_option maxRecDepth 20000 in
theorem mayP(h:Two (DZ g D) Y lo L w)(s:Int)(hs:zqr s):Calls Tryz.prog 85 [.pointer (some ⟨g,0,none⟩), .int .i64 s].toArray w (Ret fun v w'=>v= .int .i64 (if zgJ D.V.length s<4 then 2 else 0)∧w=w'):=by
 have hS:=zjf h
 have hp:=(tOk h).2
 have hC:=countP h s hs
 refine zax (fn:=Tryz.f85) (rs:=[.tmp 4]) (n:=14) Tryz.func85 rfl rfl Tryz.ntmps85 aa rfl (zah (zaa (zad (zac) (zae (zaf (zah (zav (zah (zaa (zad (zab) (zao rfl (zaj aa rfl) (hS) ?_)))))))))))
 rintro _ _ ⟨rfl,rfl⟩
 refine zad (za5 rfl rfl) (zad (zac) (zae (zaf (zcF rfl (ae) (zah (zaa (zad (zab) (zad (zab) (zao rfl (zaj aa rfl) (hC) ?_)))))))))
 rintro _ _ ⟨rfl,rfl⟩
 refine zad (zaY rfl rfl) (zad (zac) (zae (zaf (za0 rfl (fun h3=>?_) (fun h3=>?_)))))
 ·
  refine bW ?_
  exact⟨by rw[if_pos ae];rfl,rfl⟩
 ·
  refine bX ?_
  exact⟨by rw[if_neg ae];rfl,rfl⟩
end
set_option maxRecDepth 20000 in
theorem placeP(s n:Nat)(w:World)(hs:s≤4000)(hn:n≤8192):Calls Tryz.prog 116 [.int .i64 (s:Int), .int .i64 (n:Int)].toArray w (Ret fun v w'=>v= .int .i64 ((1+s+n*4:Nat):Int)∧w=w'):=by
 refine zax (fn:=Tryz.f116) (rs:=[.tmp 4]) (n:=10) Tryz.func116 rfl rfl Tryz.ntmps116 aa rfl (zah (zaa (zad (zac) (zae (zaf (zah (zaa (zad (zab) (zad (zaO rfl rfl (Coup.w64 ae)) (zad (zab) (zad (zdv rfl rfl (Coup.w64 ae)) (zad (zaO rfl rfl (Coup.w64 ae)) (zad (zac) (zae (zaf (zaF (zan [_] ⟨rfl,trivial⟩ ?_)))))))))))))))))
 exact⟨by show Value.int .i64 (1+(s:Int)+n*4)=_;congr 1,rfl⟩
theorem zlz(b:List UInt8){m n:Nat}(h:m≤n):(zbj b n).take m=zbj b m:=by
 rw[zbj,zbj,←List.map_take,List.take_range,Nat.min_eq_left h]
section
variable {Y:World→List Nat→Prop}[Thing Y]{g lo:Nat}{L:List Nat}{D:Dk}{w:World}
set_option maxRecDepth 20000 in
set_option maxHeartbeats 1000000 in
theorem writeP(h:Two (DZ g D) Y lo L w)(s n:Nat)(X:List UInt8)(hX:X.length=512)(hs:s≤4000)(hn:1+s+n*4+4≤D.V.length)(hsh:zbR D 80000):
   Calls Tryz.prog 87 [.pointer (some ⟨g,0,none⟩), .int .i64 (s:Int), .int .i64 (n:Int), .agg (bv X).toArray].toArray w (Ret fun v w'=>v= .int .i64 (if(za1 D (1+s+n*4) (zbj X 4)).2 then 0 else 10)∧Two (DZ g (za1 D (1+s+n*4) (zbj X 4)).1) Y lo L w'∧LoL lo L w w'):=by
 have hD:=h
 have hLL:=LoL.refl lo L w
 have hn8:=(tOk hD).1.n
 have hpl:=fun w'=>placeP s n w' hs ae
 obtain⟨a,ha⟩:∃ a,1+s+n*4=a:=⟨_,rfl⟩
 rw[ha]at hpl hn ⊢
 have hXb:(bv X).length=512:=by rw[zal];exact hX
 refine zax (fn:=Tryz.f87) (rs:=[.tmp 8]) (n:=33) Tryz.func87 rfl rfl Tryz.ntmps87 aa rfl (zah (zaa (zaD rfl (za4 (bv X) rfl (fun g7 w7 hg7 hr7 hb7=>?_)))))
 replace hD:=hD.newc hb7 hg7 hr7.lt
 replace hLL:=hLL.new hb7
 refine zad (zac) (zae (zaf (zah (zah (zaa (zad (zab) (zae (zaf (zav ?_)))))))))
 refine zbq (α:=Nat) 0 (fun i=>[(11, .int .i64 (i:Nat)),(7, .pointer (some ⟨g7,0,none⟩)),(0, .pointer (some ⟨g,0,none⟩)),(1, .int .i64 (s:Int)),(2, .int .i64 (n:Int))])
   (fun i w'=>i≤4∧(za1 D a (zbj X i)).2=true∧row w' g7 (bv X) 62∧Two (DZ g (za1 D a (zbj X i)).1) Y lo (g7::L) w'∧LoL lo L w w') (fun i=>4 - i)
   ⟨rfl,rfl,rfl,rfl,rfl,rfl⟩ ⟨Nat.zero_le _,rfl,hr7,hD,hLL⟩ ?_
 clear hD hLL hr7
 rintro i f wr ⟨hi,hok,hr7,hD,hLL⟩
 have hshi:=zek (zbj X i) D a 80000 hsh
 have hlni:=zb5 (zbj X i) D a
 rw[zcz]at hshi
 refine zah (zaa (zad (zaY rfl rfl) (zae (zaf (zah (za0 rfl (fun hlt=>?_) (fun hlt=>?_)))))))
 ·
  refine bM ?_
  have hobS:∃ S,(X.drop (128*i)).take 128=S:=⟨_,rfl⟩
  obtain⟨S,hS⟩:=hobS
  have hSb:bv S=((bv X).drop (0+128*i)).take 128:=by rw[←hS,zdg,zc7,Nat.zero_add]
  have hSl:S.length=128:=by rw[←hS,List.length_take,List.length_drop];omega
  have hsx:=zhE X i
  rw[hS]at hsx
  have hsn:=zgI (zbj X i) D a S hok
  rw[←hsx,zcz]at hsn
  refine zct (lo) ((g7::L)) aa ?_
  intro w901 hb901 hn901 hS901
  replace hD:=hD.new hb901
  replace hLL:=hLL.new hb901
  replace hr7:=hr7.new hb901
  have hr7_d901:=hr7
  refine zas 0 (zab) (zas 1 (zab) (zas 2 (zab) (zdS 3 aa rfl (fun _=>zaj aa rfl) (fun w' hS'=>hpl w') (zas 4 (zab) (zas 5 (zaO rfl rfl (Coup.w64 ae)) (zas 6 (zab) (zas 7 (zdv rfl rfl (Coup.w64 ae)) (zas 8 (zab) (zas 9 (zaO rfl rfl (Coup.w64 ae)) (zas 10 (zdv rfl rfl (Coup.w64 ae)) (zas 11 (zbw (e:=5) (n:=512) (128*i) (128*i+128) (512) (128) aa rfl ⟨_,_,rfl,ae⟩ ⟨_,_,rfl,ae⟩ rfl ay ae ae ae ae ae) (zas 12 (zin (n:=128) (e:=5) (sz:=1) aa rfl ae) (zbo 13 (fun w' hS'=>zaG rfl (Ld.rowN (k:=128) (off:=0+128*i) (hr7_d901.kL hS') aa aa ae)) (zaA 14 aa ?_))))))))))))))
  have hw:=zox hD ((a:Int)+(i:Int)) S hSl (zcb hshi ae)
  rw[hSb]at hw
  refine zaU rfl rfl (zaj aa rfl) (hw) ?_
  rintro _ w28 ⟨rfl,hD,hb28⟩
  have hS902:=hS901.zdh hn901 hb28.wk
  refine⟨hS902,?_⟩
  replace hLL:=hLL.lq hb28
  replace hr7:=hr7.kl hb28
  refine zas 15 (zac) (zaI aa (zaf (zah (zaa ?_))))
  have hin:inD (za1 D a (zbj X i)).1 ((a:Int)+(i:Int))=true:=decide_eq_true ae
  rw[zix,hin,if_pos rfl]
  rw[show(a:Int)+(i:Int)=((a+i:Nat):Int) by omega]at hD
  refine zad (zab) (zad (zaX rfl rfl) (zae (zaf (za0 rfl (fun hne=>?_) (fun hne=>?_)))))
  ·
   refine bN ?_
   have hf:zbg (za1 D a (zbj X i)).1=false:=by cases hq:zbg (za1 D a (zbj X i)).1 with|false=>rfl|true=>simp[hq]at hne
   rw[hf]at hsn
   have hbd:=zhD (zbj X (i+1)) ((zbj X 4).drop (i+1)) D a (by rw[hsn])
   rw[show zbj X (i+1)++(zbj X 4).drop (i+1)=zbj X 4 by rw[←zlz X (show i+1≤4 by omega),List.take_append_drop],hsn]at hbd
   rw[hbd]
   exact⟨by rw[hf];rfl,hD.weak (fun b hb=>List.mem_cons_of_mem _ hb),hLL⟩
  ·
   have hf:zbg (za1 D a (zbj X i)).1=true:=by cases hq:zbg (za1 D a (zbj X i)).1 with|true=>rfl|false=>simp[hq]at hne
   refine zat (zaP (zaf (zaa (zad (zaO rfl rfl (Coup.w64 ae)) (zad (zab) (zae (za2 ⟨i+1,ae,⟨by go_num,rfl,rfl,rfl,rfl,rfl⟩,ae,by rw[hsn];exact hf,hr7,by rw[hsn];exact hD,hLL⟩)))))))
 ·
  have hi4:i=4:=by omega
  subst hi4
  refine cZ ?_
  exact⟨by rw[hok];rfl,hD.weak (fun b hb=>List.mem_cons_of_mem _ hb),hLL⟩
theorem zdW:∀ (l:List Sec) {D:Dk} {k:Nat} (a:Nat),zch D k→(za1 D a l).2=true∧zch (za1 D a l).1 (k+l.length)
 |[],D,k,a,h=>⟨rfl,h⟩
 |t::l,D,k,a,h=>by
  rw[za1,(zcx h.left h.dead).1,if_pos rfl]
  obtain⟨h1,h2⟩:=zdW l (a+1) (h.zbO (a:Int) t).1
  exact⟨h1,h2.weak (by rw[List.length_cons];omega)⟩
def zb8:List UInt8:=List.replicate 512 0
def zpD(D:Dk)(s:Nat):Nat→Dk
 |0=>D
 |m+1=>(za1 (zpD D s m) (1+s+m*4) (zbj zb8 4)).1
theorem zf7{D:Dk}{k s:Nat}(h:zch D k):∀ m,zch (zpD D s m) (k+m*4)∧(zpD D s m).V.length=D.V.length
 |0=>⟨by rw[Nat.zero_mul,Nat.add_zero];exact h,rfl⟩
 |m+1=>by
  obtain⟨h1,h2⟩:=zf7 (s:=s) h m
  refine⟨?_,(zb5 _ _ _).trans h2⟩
  exact(zdW (zbj zb8 4) (1+s+m*4) h1).2.weak (by rw[zcz];omega)
set_option maxRecDepth 20000 in
set_option maxHeartbeats 1000000 in
theorem formatP(h:Two (DZ g D) Y lo L w)(s:Int)(hs:zqr s)(ha:zch D 60000):
   Calls Tryz.prog 32 [.pointer (some ⟨g,0,none⟩), .int .i64 s].toArray w (Ret fun v w'=>v= .int .i64 (if zgJ D.V.length s<4 then 2 else 0)∧Two (DZ g (if zgJ D.V.length s<4 then D else fmtD (zpD D s.toNat (zgJ D.V.length s)) s.toNat)) Y lo L w'∧LoL lo L w w'):=by
 have hD:=h
 have hLL:=LoL.refl lo L w
 have hM:=mayP h s hs
 have hC:=countP h s hs
 have hn8:=(tOk hD).1.n
 obtain⟨c,hc⟩:∃ c,zgJ D.V.length s=c:=⟨_,rfl⟩
 rw[hc]at hM hC ⊢
 refine zax (fn:=Tryz.f32) (rs:=[.tmp 4]) (n:=32) Tryz.func32 rfl rfl Tryz.ntmps32 aa rfl (zah (zaa (zad (zac) (zae (zaf (zah (zah (zaa (zad (zab) (zad (zab) (zao rfl (zaj aa rfl) (hM) ?_)))))))))))
 rintro _ _ ⟨rfl,rfl⟩
 refine zad (zac) (zae (zaf (zah (zaa (zad (zab) (zad (zaX rfl rfl) (zae (zaf (za0 rfl (fun hne=>?_) (fun hne=>?_))))))))))
 ·
  refine cO ?_
  have hf:c<4:=by
    by_cases h:c<4
    ·exact h
    ·rw[if_neg h]at hne;simp at hne
  rw[if_pos hf,if_pos hf]
  exact⟨rfl,hD,hLL⟩
 ·
  have hf:¬c<4:=fun h=>by rw[if_pos h]at hne;simp at hne
  rw[if_neg hf,if_neg hf]
  have hcn:¬(s<4∨4000<s)∧(D.V.length - 1 - s.toNat) / 4=c:=by
    rw[zgJ]at hc
    by_cases h:s<4∨4000<s
    ·rw[if_pos h]at hc;omega
    ·rw[if_neg h]at hc;exact⟨h,hc⟩
  have hobt:∃ m:Nat,s=m:=⟨s.toNat,ae⟩
  obtain⟨m,rfl⟩:=hobt
  rw[Int.toNat_natCast]at hcn ⊢
  have hZl:zb8.length=512:=List.length_replicate ..
  have hobt:∃ Z,zb8=Z:=⟨_,rfl⟩
  obtain⟨Z,hZ⟩:=hobt
  have hzs:=fun i=>show zpD D m (i+1)=(za1 (zpD D m i) (1+m+i*4) (zbj zb8 4)).1 from rfl
  have hzb:bv Z=List.replicate 512 (.int .u8 0):=by rw[←hZ];kernel_rfl
  have hwa:=fun i=>(zdW (zbj zb8 4) (1+m+i*4) (zf7 (s:=m) ha i).1).1
  rw[hZ]at hzs hZl hwa
  refine zat (zaf (zah (zah (zaa (zad (zab) (zad (zab) (zao rfl (zaj aa rfl) (hC) ?_)))))))
  rintro _ _ ⟨rfl,rfl⟩
  refine zad (zab) (zae (zaf (zav ?_)))
  refine zbq (α:=Nat) 0 (fun i=>[(17, .int .i64 (i:Nat)),(16, .int .i64 (c:Int)),(0, .pointer (some ⟨g,0,none⟩)),(1, .int .i64 (m:Int))])
    (fun i w'=>i≤c∧Two (DZ g (zpD D m i)) Y lo L w'∧LoL lo L w w') (fun i=>c - i)
    ⟨rfl,rfl,rfl,rfl,rfl⟩ ⟨Nat.zero_le _,hD,hLL⟩ ?_
  clear hD hLL
  rintro i f wr ⟨hi,hD,hLL⟩
  have hal:=zf7 (s:=m) ha i
  refine zah (zaa (zad (zaY rfl rfl) (zae (zaf (zah (za0 rfl (fun hlt=>?_) (fun hlt=>?_)))))))
  ·
   refine zat (zaf (zah (zav (zah (zaa (zad (zab) (zad (zac) (zae (zaf (zah (zaa (zad (zab) (zad (zab) (zad (zab) (zad (zbN (bv Z) (by rw[hzb];kernel_rfl)) ?_)))))))))))))))
   have hw:=writeP hD m i Z hZl ae ae (zcb hal.1.short ae)
   rw[hwa i,if_pos rfl,←hzs]at hw
   refine zao rfl (zaj aa rfl) (hw) ?_
   rintro _ w24 ⟨rfl,hD,hb24⟩
   replace hLL:=hLL.lq hb24
   refine zad (zac) (zae (zaf (zah (zaa (zad (zab) (zad (zaX rfl rfl) (zae (zaf (zcF rfl (ae) (zat (zaP (zaf (zaa (zad (zaO rfl rfl (Coup.w64 ae)) (zad (zab) (zae (za2 ⟨i+1,ae,⟨by go_num,rfl,rfl,rfl,rfl⟩,ae,hD,hLL⟩)))))))))))))))))
  ·
   have him:i=c:=by omega
   subst him
   refine zbh (zbC (zbH (zbl (zaf (zah (zaa (zad (zab) (zad (zab) ?_))))))))
   have hfm:=zqs hD (m:Int) ⟨ae,ae⟩ (hal.1.weak ae)
   rw[hal.2,show zf4 D.V.length (m:Int)=true from decide_eq_true ae,if_pos rfl,if_pos rfl,Int.toNat_natCast]at hfm
   refine zao rfl (zaj aa rfl) (hfm) ?_
   rintro _ w31 ⟨rfl,hD,hb31⟩
   replace hLL:=hLL.lq hb31
   refine cB ?_
   exact⟨rfl,hD,hLL⟩
end
set_option maxRecDepth 20000 in
theorem isA(c:Ch)(b:Nat)(n:Int)(w:World)(hb:row w b [.int .i64 n] 3):Calls Tryz.prog 113 [.agg (chV c).toArray, .pointer (some ⟨b,0,none⟩)].toArray w (Ret fun v w'=>v= .bool (decide (c.num=n))∧Below w.heap.size w w'):=by
 have hB:=Below.refl w.heap.size w
 refine zax (fn:=Tryz.f113) (rs:=[.tmp 3]) (n:=8) Tryz.func113 rfl rfl Tryz.ntmps113 aa rfl (zah (zaa (zaD rfl (za4 (chV c) rfl (fun g2 w2 hg2 hr2 hb2=>?_)))))
 replace hb:=hb.new hb2
 replace hB:=hB.acc hb2
 refine dH ?_
 exact⟨rfl,hB⟩
set_option maxRecDepth 20000 in
theorem isB(c:Ch)(b:Nat)(n:Int)(w:World)(hb:row w b [.int .i64 n] 3):Calls Tryz.prog 160 [.agg (chV c).toArray, .pointer (some ⟨b,0,none⟩)].toArray w (Ret fun v w'=>v= .bool (decide (c.num=n))∧Below w.heap.size w w'):=by
 have hB:=Below.refl w.heap.size w
 refine zax (fn:=Tryz.f160) (rs:=[.tmp 3]) (n:=8) Tryz.func160 rfl rfl Tryz.ntmps160 aa rfl (zah (zaa (zaD rfl (za4 (chV c) rfl (fun g2 w2 hg2 hr2 hb2=>?_)))))
 replace hb:=hb.new hb2
 replace hB:=hB.acc hb2
 refine dH ?_
 exact⟨rfl,hB⟩
def zel(R:Rec)(n:Int):Nat:=R.findIdx fun c=>decide (c.num=n)
theorem zoP{R:Rec}{n:Int}{i:Nat}{c:Ch}(h:R[i]?=some c)(hi:i≤zel R n)(hc:c.num=n):zel R n=i:=by
 obtain⟨h1,h2⟩:=List.getElem?_eq_some_iff.1 h
 by_cases he:i=zel R n
 ·exact he.symm
 ·have hlt:i<List.findIdx (fun c:Ch=>decide (c.num=n)) R:=by
   have:i<zel R n:=by omega
   exact this
  have:=List.not_of_lt_findIdx hlt
  rw[h2]at this
  simp[hc]at this
theorem zoQ{R:Rec}{n:Int}{i:Nat}{c:Ch}(h:R[i]?=some c)(hi:i≤zel R n)(hc:¬c.num=n):i+1≤zel R n:=by
 obtain⟨h1,h2⟩:=List.getElem?_eq_some_iff.1 h
 by_cases he:i=zel R n
 ·exfalso
  have:=List.findIdx_getElem (p:=fun c:Ch=>decide (c.num=n)) (xs:=R) (w:=by rw[←show i=List.findIdx _ R from he];exact h1)
  have e:R[zel R n]?=some c:=by rw[←he];exact h
  have e2:=(List.getElem?_eq_some_iff.1 e).2
  unfold zel at e2
  rw[e2]at this
  simp[hc]at this
 ·omega
set_option maxRecDepth 20000 in
set_option maxHeartbeats 1000000 in
theorem indexA(R:Rec)(hR:zcu R)(p:Option Addr)(c m:Nat)(hm:m=R.length)(b:Nat)(n:Int)(w:World)(h:zaS w p m 513 (zcj R))(hb:row w b [.int .i64 n] 3):
   Calls Tryz.prog 112 [.slice p m c, .func (.func 113) #[] #[.pointer (some ⟨b,0,none⟩)]].toArray w (Ret fun v w'=>v= .int .i64 (if zel R n<m then(zel R n:Int)else -1)∧Below w.heap.size w w'):=by
 have hB:=Below.refl w.heap.size w
 have hml:maxLen=9223372036854775807:=by decide
 have hmax:=h.max
 refine dI ?_
 refine zbq (α:=Nat) 0 (fun k=>[(8, .int .i64 (k:Nat)),(7, .int .i64 (m:Nat)),(0, .slice p m c),(1, .func (.func 113) #[] #[.pointer (some ⟨b,0,none⟩)])]) (fun k w'=>k≤m∧k≤zel R n∧Below w.heap.size w w') (fun k=>m - k)
   ⟨rfl,rfl,rfl,rfl,rfl⟩ ⟨Nat.zero_le _,Nat.zero_le _,hB⟩ ?_
 rintro i f wr ⟨hi,hfr,hB⟩
 refine zah (zaa (zad (zaY rfl rfl) (zae (zaf (zah (za0 rfl (fun hlt=>?_) (fun hlt=>?_)))))))
 ·
  refine bM ?_
  have hci:∃ ch,R[i]?=some ch:=⟨_,List.getElem?_eq_getElem ae⟩
  obtain⟨ch,hci⟩:=hci
  have hobt:=h.some ae
  obtain⟨gp,off,rfl,hgp⟩:=hobt
  have hbB:=hb.new hB
  refine zaa (zad (zab) (zad (zab) (zad (zab) (zad (zbe (e:=147) (sz:=513) aa rfl rfl (i) ae ae) (zad (zaG rfl (zqm (h.below hB (Nat.le_refl _)) hR hci)) (zao rfl (zbZ aa rfl rfl) (isA ch b n wr hbB) ?_))))))
  rintro _ w16 ⟨rfl,hb16⟩
  replace hB:=hB.acc hb16
  refine zae (zaf (zjT rfl (fun hq=>?_) (fun hq=>?_)))
  ·
   refine bN ?_
   have hfi:=zoP hci hfr (of_decide_eq_true hq)
   refine⟨?_,hB⟩
   rw[if_pos ae,hfi];rfl
  ·
   have hfg:=zoQ hci hfr (of_decide_eq_false hq)
   refine zat (zaP (zaf (zaa (zad (zaO rfl rfl (Coup.w64 ae)) (zad (zab) (zae (za2 ⟨i+1,ae,⟨rfl,rfl,rfl,rfl,rfl⟩,ae,hfg,hB⟩)))))))
 ·
  obtain rfl:i=m:=by omega
  refine zbh (zbC (zbH (zbl (zaf (zah (zaa (zad (zac) (zae (zaf (zaF (zan [_] ⟨rfl,trivial⟩ (⟨?_,hB⟩))))))))))))
  rw[if_neg ae];rfl
set_option maxRecDepth 20000 in
set_option maxHeartbeats 1000000 in
theorem indexB(R:Rec)(hR:zcu R)(p:Option Addr)(c m:Nat)(hm:m=R.length)(b:Nat)(n:Int)(w:World)(h:zaS w p m 513 (zcj R))(hb:row w b [.int .i64 n] 3):
   Calls Tryz.prog 112 [.slice p m c, .func (.func 160) #[] #[.pointer (some ⟨b,0,none⟩)]].toArray w (Ret fun v w'=>v= .int .i64 (if zel R n<m then(zel R n:Int)else -1)∧Below w.heap.size w w'):=by
 have hB:=Below.refl w.heap.size w
 have hml:maxLen=9223372036854775807:=by decide
 have hmax:=h.max
 refine dI ?_
 refine zbq (α:=Nat) 0 (fun k=>[(8, .int .i64 (k:Nat)),(7, .int .i64 (m:Nat)),(0, .slice p m c),(1, .func (.func 160) #[] #[.pointer (some ⟨b,0,none⟩)])]) (fun k w'=>k≤m∧k≤zel R n∧Below w.heap.size w w') (fun k=>m - k)
   ⟨rfl,rfl,rfl,rfl,rfl⟩ ⟨Nat.zero_le _,Nat.zero_le _,hB⟩ ?_
 rintro i f wr ⟨hi,hfr,hB⟩
 refine zah (zaa (zad (zaY rfl rfl) (zae (zaf (zah (za0 rfl (fun hlt=>?_) (fun hlt=>?_)))))))
 ·
  refine bM ?_
  have hci:∃ ch,R[i]?=some ch:=⟨_,List.getElem?_eq_getElem ae⟩
  obtain⟨ch,hci⟩:=hci
  have hobt:=h.some ae
  obtain⟨gp,off,rfl,hgp⟩:=hobt
  have hbB:=hb.new hB
  refine zaa (zad (zab) (zad (zab) (zad (zab) (zad (zbe (e:=147) (sz:=513) aa rfl rfl (i) ae ae) (zad (zaG rfl (zqm (h.below hB (Nat.le_refl _)) hR hci)) (zao rfl (zbZ aa rfl rfl) (isB ch b n wr hbB) ?_))))))
  rintro _ w16 ⟨rfl,hb16⟩
  replace hB:=hB.acc hb16
  refine zae (zaf (zjT rfl (fun hq=>?_) (fun hq=>?_)))
  ·
   refine bN ?_
   have hfi:=zoP hci hfr (of_decide_eq_true hq)
   refine⟨?_,hB⟩
   rw[if_pos ae,hfi];rfl
  ·
   have hfg:=zoQ hci hfr (of_decide_eq_false hq)
   refine zat (zaP (zaf (zaa (zad (zaO rfl rfl (Coup.w64 ae)) (zad (zab) (zae (za2 ⟨i+1,ae,⟨rfl,rfl,rfl,rfl,rfl⟩,ae,hfg,hB⟩)))))))
 ·
  obtain rfl:i=m:=by omega
  refine zbh (zbC (zbH (zbl (zaf (zah (zaa (zad (zac) (zae (zaf (zaF (zan [_] ⟨rfl,trivial⟩ (⟨?_,hB⟩))))))))))))
  rw[if_neg ae];rfl
end Go.Proofs.YtdbogkndglbffaaGreat
namespace Coup
open Go Go.RowKit Go.Maps
section
variable {P:Program}{ρ:Env}{w:World}{d:Option Nat}{ty:TypeId}{pos:String}{af:Array Edge}{gd:Option (Nat × Bool)}{K:Value→World→Prop}
theorem zlA {t k e:TypeId} {x:Operand} {m N:Nat} {f:Nat→Option Value} (ht:P.underlying t=some (.map k e)) (hm:MapAt P k w m N f) (hx:ev ρ x= .map (some m))
  (h:∀ w',MapAt P k w' m N (fun _=>none)→Only m w w'→K (.tuple #[]) w'):Mk P ρ w ⟨d, .call ⟨.builtin .clear,#[x],#[t]⟩,ty,pos,af,gd⟩ K:=by
 obtain⟨es,clock,hb,F,hs,hD⟩:=hm
 have hlt:=(Array.getElem?_eq_some_iff.1 hb).1
 refine⟨.tuple #[],Go.ChangeMaps.setBlock w m (.map #[] clock),?_,h _ ⟨#[],clock,?_,⟨ay,Go.MapKept.stamped_empty clock,ay⟩,Nat.zero_le _,by rw[zjb];rfl⟩ (zfu ⟨es,clock,#[],clock,hb,rfl⟩)⟩
 ·have h1:=Go.MapKept.run_getObj_map (P:=P) hb
  have h2:=Go.MapKept.run_setObj_map (P:=P) (.map #[] clock) hb
  simp[execOp,resolve,invoke,builtin,Builtin.clear_,hx,run_underlying ht,h1,h2,Result.andThen,Go.ChangeMaps.setBlock]
 ·simp[Go.ChangeMaps.setBlock,hlt]
theorem ziB{g o:Nat}{base e sz m c:Nat}{xs:List Value}(vs:List Value)(j:Nat)(hown:zeg w base e sz g o m c xs)(hfit:j+vs.length≤xs.length):
  ∃ cur,row w g cur e∧o+j+vs.length≤cur.length∧∀ w',row w' g (splice cur (o+j) vs) e→zeg w' base e sz g o m c (splice xs j vs):=by
 have hlen:=hown.1
 rcases hown.2 with⟨hn,_⟩|⟨g',off,cap,cur,he,hb,hg,hmc,hmx,hsz,hcur⟩
 ·cases hn
 ·cases he
  have hrow:row w g cur.toList e:=by unfold row;simpa using hg
  have hle:m*sz≤c*sz:=Nat.mul_le_mul_right _ hmc
  have hcl:cur.toList.length=cur.size:=by simp
  refine⟨cur.toList,hrow,ae,fun w' hr=>⟨?_,Or.inr ⟨g,o,c,(splice cur.toList (o+j) vs).toArray,rfl,hb,hr,hmc,hmx,?_,?_⟩⟩⟩
  ·simp only[splice,List.length_append,List.length_take,List.length_drop];omega
  ·simp only[splice,List.size_toArray,List.length_append,List.length_take,List.length_drop];omega
  ·rw[←hcur]
   have hm2:((cur.toList.drop o).take (m*sz)).length=m*sz:=by rw[List.length_take,List.length_drop];omega
   refine List.ext_getElem? fun i=>?_
   rw[List.getElem?_take,List.getElem?_drop,zeW ae,zeW (by rw[hm2];omega),List.getElem?_take,List.getElem?_drop]
   by_cases hi:i<m*sz
   ·rw[if_pos hi]
    by_cases h2:i<j
    ·rw[if_pos ae,if_pos h2,if_pos hi]
    ·rw[if_neg ae,if_neg h2]
     by_cases h3:i<j+vs.length
     ·rw[if_pos ae,if_pos h3];congr 1;omega
     ·rw[if_neg ae,if_neg h3,if_pos hi]
   ·rw[if_neg hi,if_neg ae,if_neg ae,if_neg hi]
theorem zjq{z:Array Value}(hz:∀ v∈z.toList,v.oneCell'=true)(n:Nat):∀ v∈(Builtin.zeroCells z n).toList,v.oneCell'=true:=fun v hv=>by
 unfold Builtin.zeroCells at hv
 rw[Array.toList_map,List.mem_map]at hv
 obtain⟨i,hi,rfl⟩:=hv
 have hi2:i<n*z.size:=by simpa using hi
 have hp:0<z.size:=Nat.pos_of_ne_zero fun h0=>by rw[h0,Nat.mul_zero]at hi2;omega
 have hlt:=Nat.mod_lt i hp
 rw[getElem!_pos z (i % z.size) hlt]
 exact hz _ ay
theorem zkx {t e0:TypeId} {x:Operand} {z:Value} {g o base e sz m c k cc:Nat} {xs:List Value} (j:Nat) (ht:P.underlying t=some (.slice e0)) (hz:∀ w,(zeroValue e0).run P w= .ok z w) (hzs:z.cells.size=sz)
  (hz1:∀ v∈z.cells.toList,v.oneCell'=true) (hown:zeg w base e sz g o m c xs) (hx:ev ρ x= .slice (some ⟨g,o+j*sz,none⟩) k cc) (hfit:j+k≤m)
  (h:∀ w' zs,zs.length=k*sz→zeg w' base e sz g o m c (splice xs (j*sz) zs)→Only g w w'→K (.tuple #[]) w'):Mk P ρ w ⟨d, .call ⟨.builtin .clear,#[x],#[t]⟩,ty,pos,af,gd⟩ K:=by
 have hlen:=hown.1
 have hle:(j+k)*sz≤m*sz:=Nat.mul_le_mul_right _ hfit
 rw[Nat.add_mul]at hle
 cases k with
 |zero=>
  refine⟨.tuple #[],w,?_,h w [] ay ?_ ⟨rfl,rfl,rfl,rfl,fun _ _=>rfl⟩⟩
  ·simp[execOp,resolve,invoke,builtin,Builtin.clear_,hx,run_underlying ht,Result.andThen]
  ·have:splice xs (j*sz) []=xs:=by simp[splice]
   rw[this];exact hown
 |succ k=>
  have hzl:(Builtin.zeroCells z.cells (k+1)).toList.length=(k+1)*sz:=by rw[Array.length_toList,size_zeroCells,hzs]
  have hf2:j*sz+(Builtin.zeroCells z.cells (k+1)).toList.length≤xs.length:=by rw[hzl];omega
  obtain⟨cur,hr,hf,hafter⟩:=ziB (Builtin.zeroCells z.cells (k+1)).toList (j*sz) hown hf2
  have hst:=run_storeCells_at P g (o+j*sz) e (Builtin.zeroCells z.cells (k+1)).toList 0 cur.toArray w hr (by simpa using hf) (zjq hz1 _)
  refine⟨.tuple #[],_,?_,h (w.setRow g (splice cur (o+j*sz) (Builtin.zeroCells z.cells (k+1)).toList).toArray) _ hzl (hafter _ (setRow_heap w g _ _ e _ hr)) (Only.setRow _)⟩
  simp only[Nat.add_zero]at hst
  have hst2:(storeCells ⟨g,o+j*sz,none⟩ (Builtin.zeroCells z.cells (k+1)).toList).run P w= .ok () (w.setRow g (splice cur (o+j*sz) (Builtin.zeroCells z.cells (k+1)).toList).toArray):=by simpa [splice]using hst
  simp[execOp,resolve,invoke,builtin,Builtin.clear_,hx,run_underlying ht,hz,hst2,Result.andThen]
theorem znm {t t' e base sz g o m n cap k c g1 o1:Nat} {s x:Operand} {ys news:List Value} (ht:P.underlying t=some (.slice e)) (ht':t'=t) (hsz:zco P e sz=true) (hs:ev ρ s= .slice (some ⟨g,o,none⟩) n cap)
  (hown:zeg w base e sz g o m cap ys) (hx:ev ρ x= .slice (some ⟨g1,o1,none⟩) k c) (hsrc:zaS w (some ⟨g1,o1,none⟩) k sz news) (h1:∀ u∈news,u.oneCell'=true) (hroom:n+k≤m)
  (h:∀ w',zeg w' base e sz g o m cap (splice ys (n*sz) news)→Only g w w'→K (.slice (some ⟨g,o,none⟩) (n+k) cap) w'):Mk P ρ w ⟨d, .call ⟨.builtin .append,#[s,x],#[t,t']⟩,ty,pos,af,gd⟩ K:=by
 subst ht'
 obtain⟨i,hq,hi⟩:=zcp hsz
 subst hi
 have hl:=hsrc.len
 have hlen:=hown.1
 have hle:(n+k)*i.size≤m*i.size:=Nat.mul_le_mul_right _ hroom
 rw[Nat.add_mul]at hle
 have hmc:m≤cap:=by
  rcases hown.2 with⟨hn,_⟩|⟨g',off,cap',cur,he,hb,hg,hmc,_⟩
  ·cases hn
  ·cases he;exact hmc
 obtain⟨cur,hr,hf,hafter⟩:=ziB news (n*i.size) hown ae
 have hrun:=zdJ (P:=P) w t' ty e i ht hq g o n cap cur.toArray hr ⟨g1,o1,none⟩ k c news hl (fun j u hu=>by rw[Addr.add_lit];exact hsrc.cell j hu) h1 ae (by simpa using hf)
 have hrun2:(Builtin.append_ #[t',t'] ty #[.slice (some ⟨g,o,none⟩) n cap, .slice (some ⟨g1,o1,none⟩) k c]).run P w= .ok (.slice (some ⟨g,o,none⟩) (n+k) cap) (w.setRow g (splice cur (o+n*i.size) news).toArray):=by simpa [splice]using hrun
 refine⟨_,w.setRow g (splice cur (o+n*i.size) news).toArray,?_,h _ (hafter _ (setRow_heap w g _ _ e _ hr)) (Only.setRow _)⟩
 simp[execOp,resolve,invoke,builtin,hs,hx,hrun2,Result.andThen]
end
end Coup
namespace Go.Proofs.YtdbogkndglbffaaGreat
open Go Go.RowKit Coup
theorem zky{w:World}{base e sz g o m n c:Nat}{xs:List Value}(h:zeg w base e sz g o m c xs)(hn:n≤m):zeg w base e sz g o n c (xs.take (n*sz)):=by
 have hlen:=h.1
 have hle:n*sz≤m*sz:=Nat.mul_le_mul_right _ hn
 refine⟨by rw[List.length_take];omega,?_⟩
 rcases h.2 with⟨hn,_⟩|⟨g',off,cap,cur,he,hb,hg,hmc,hmx,hsz,hcur⟩
 ·cases hn
 ·cases he
  exact .inr ⟨g,o,c,cur,rfl,hb,hg,Nat.le_trans hn hmc,hmx,hsz,by rw[←hcur,List.take_take,Nat.min_eq_left hle]⟩
theorem zkz{R:Rec}(h:zcu R)(k:Nat):(zcj R).take (k*513)=zcj (R.take k):=by
 by_cases hk:k≤R.length
 ·have h1:zcu (R.take k):=fun c hc=>h c (List.mem_of_mem_take hc)
  have e:zcj R=zcj (R.take k)++zcj (R.drop k):=by
   rw[zcj,zcj,zcj,←List.flatMap_append,List.take_append_drop]
  have hl:=zcd h1
  rw[List.length_take,Nat.min_eq_left hk]at hl
  rw[e,List.take_left' hl]
 ·rw[List.take_of_length_le (l:=R) ae,List.take_of_length_le]
  rw[zcd h]
  exact Nat.mul_le_mul_right _ ae
theorem zqv{R:Rec}(h:zcu R){i:Nat}{c:Ch}(hi:i<R.length)(hc:c.page.length=512):splice (zcj R) (i*513) (chV c)=zcj (R.set i c):=by
 have h1:zcu (R.take i):=fun c hc=>h c (List.mem_of_mem_take hc)
 have hl:=zcd h1
 rw[List.length_take,Nat.min_eq_left ae]at hl
 have hcl:=zeK hc
 have hd:∀ k,(zcj R).drop (k*513)=zcj (R.drop k):=fun k=>by
  by_cases hk:k≤R.length
  ·have h2:zcu (R.take k):=fun c hc=>h c (List.mem_of_mem_take hc)
   have e:zcj R=zcj (R.take k)++zcj (R.drop k):=by
    rw[zcj,zcj,zcj,←List.flatMap_append,List.take_append_drop]
   have hl:=zcd h2
   rw[List.length_take,Nat.min_eq_left hk]at hl
   rw[e,List.drop_left' hl]
  ·rw[List.drop_of_length_le (l:=R) ae,List.drop_of_length_le]
   ·rfl
   ·rw[zcd h]
    exact Nat.mul_le_mul_right _ ae
 have e2:R.set i c=R.take i++(c::R.drop (i+1)):=List.set_eq_take_append_cons_drop.trans (by rw[if_pos hi])
 unfold splice
 rw[zkz h,hcl,show i*513+513=(i+1)*513 by omega,hd,e2]
 simp[zcj]
def without(R:Rec)(n:Int):Rec:=R.filter fun c=>!decide (c.num=n)
theorem zkA{R:Rec}{n:Int}(h:¬zel R n<R.length):without R n=R:=by
 refine List.filter_eq_self.2 fun c hc=>?_
 have h2:¬∃ x∈R,decide (x.num=n)=true:=fun he=>h (List.findIdx_lt_length.2 he)
 cases hd:decide (c.num=n)with
 |false=>rfl
 |true=>exact absurd ⟨c,hc,hd⟩ h2
theorem zjr{R:Rec}{n:Int}(h:zel R n<R.length):R.take (zel R n)=without (R.take (zel R n+1)) n:=by
 have hp:decide ((R[zel R n]).num=n)=true:=List.findIdx_getElem (p:=fun c:Ch=>decide (c.num=n)) (xs:=R) (w:=h)
 rw[List.take_add_one,List.getElem?_eq_getElem h,without,List.filter_append]
 have h1:(R.take (zel R n)).filter (fun c=>!decide (c.num=n))=R.take (zel R n):=by
  refine List.filter_eq_self.2 fun c hc=>?_
  obtain⟨i,hi,rfl⟩:=List.mem_take_iff_getElem.1 hc
  have hlt:i<List.findIdx (fun c:Ch=>decide (c.num=n)) R:=by
   have:i<zel R n:=by omega
   exact this
  have h3:=List.not_of_lt_findIdx hlt
  rw[h3];rfl
 rw[h1,Option.toList_some,List.filter_cons,hp]
 simp
theorem zkB{R:Rec}{n:Int}{j:Nat}{c:Ch}(h:R[j]?=some c):without (R.take (j+1)) n=if c.num=n then without (R.take j) n else without (R.take j) n++[c]:=by
 rw[List.take_add_one,h,without,List.filter_append,Option.toList_some]
 by_cases hc:c.num=n
 ·rw[if_pos hc];simp[without,hc]
 ·rw[if_neg hc];simp[without,hc]
theorem zeroCh(w:World):(zeroValue 147).run Tryz.prog w= .ok (.agg (chV ⟨0,List.replicate 512 0⟩).toArray) w:=by kernel_rfl
theorem zgK{xs zs:List Value}(a:Nat)(h:a≤xs.length):(splice xs a zs).take a=xs.take a:=by
 unfold splice
 first
  |rw[List.take_left' aW]
  |rw[List.append_assoc,List.take_left' aW]
theorem own_le{w:World}{base e sz g o m c:Nat}{xs:List Value}(h:zeg w base e sz g o m c xs):m≤c:=by
 rcases h.2 with⟨hn,_⟩|⟨g',off,cap,cur,he,hb,hg,hmc,_⟩
 ·cases hn
 ·cases he;exact hmc
set_option maxRecDepth 20000 in
set_option maxHeartbeats 2000000 in
theorem deleteB(R:Rec)(hR:zcu R)(g o m c base:Nat)(hm:m=R.length)(b:Nat)(n:Int)(w:World)(h:zeg w base 147 513 g o m c (zcj R))(hb:row w b [.int .i64 n] 3)(hbg:b≠g):
   Calls Tryz.prog 159 [.slice (some ⟨g,o,none⟩) m c, .func (.func 160) #[] #[.pointer (some ⟨b,0,none⟩)]].toArray w (Ret fun v w'=>v= .slice (some ⟨g,o,none⟩) (without R n).length c∧zeg w' base 147 513 g o (without R n).length c (zcj (without R n))∧KpB [g] w w'):=by
 have hK:=KpB.refl [g] w
 have hml:maxLen=9223372036854775807:=by decide
 have hmx:=h.sl.max
 obtain⟨q,hq⟩:∃ q:Int,(if zel R n<m then(zel R n:Int)else -1)=q:=⟨_,rfl⟩
 have hix:=fun w' (h:zaS w' (some ⟨g,o,none⟩) m 513 (zcj R)) (hb:row w' b [.int .i64 n] 3)=>indexB R hR (some ⟨g,o,none⟩) c m hm b n w' h hb
 simp only[hq]at hix
 have hgl:=h.lt
 have hcap:=own_le h
 have hbl:=hb.lt
 refine zax (fn:=Tryz.f159) (rs:=[.tmp 4]) (n:=42) Tryz.func159 rfl rfl Tryz.ntmps159 aa rfl (zah (zaa (zad (zac) (zae (zaf (zah (zaa (zad (zab) (zad (zab) (zao rfl (zaj aa rfl) (hix w h.sl hb) ?_))))))))))
 rintro _ w10 ⟨rfl,hb10⟩
 replace hK:=hK.new hb10
 replace h:=h.new hb10
 replace hb:=hb.new hb10
 refine zad (zac) (zae (zaf (zah (zah (zaa (zad (zab) (zad (za5 rfl rfl) (zae (zaf (za0 rfl (fun hne=>?_) (fun hne=>?_)))))))))))
 ·
  refine cO ?_
  have hni:¬zel R n<R.length:=fun hl=>by rw[if_pos ae]at hq;omega
  rw[zkA hni,←hm]
  exact⟨rfl,h,hK⟩
 ·
  have hil:zel R n<R.length:=by
    by_cases hl:zel R n<R.length
    ·exact hl
    ·rw[if_neg ae]at hq;exact absurd hq.symm hne
  rw[if_pos ae]at hq
  subst hq
  refine zat (zaf (zah (zah (zaa (zad (zab) (zad (zaO rfl rfl (Coup.w64 ae)) (zad (zac) (zae (zaf (zav ?_))))))))))
  refine zbq (α:=Nat × Nat × Rec) (zel R n,zel R n+1,R) (fun a=>[(5, .int .i64 (a.1:Nat)),(6, .int .i64 (a.2.1:Nat)),(0, .slice (some ⟨g,o,none⟩) m c),(1, .func (.func 160) #[] #[.pointer (some ⟨b,0,none⟩)])])
    (fun a w'=>a.1<a.2.1∧a.2.1≤m∧a.2.2.length=m∧zcu a.2.2∧(∀ k,a.2.1≤k→a.2.2[k]?=R[k]?)∧a.2.2.take a.1=without (R.take a.2.1) n∧zeg w' base 147 513 g o m c (zcj a.2.2)∧row w' b [.int .i64 n] 3∧KpB [g] w w') (fun a=>m - a.2.1)
    ⟨rfl,rfl,rfl,rfl,rfl⟩ ⟨Nat.lt_succ_self _,by show zel R n+1≤m;omega,hm.symm,hR,fun _ _=>rfl,zjr hil,h,hb,hK⟩ ?_
  clear h hb hK
  rintro⟨i,j,T⟩ f wr ⟨hij,hj,hTl,hT,hTR,hTw,h,hb,hK⟩
  dsimp only at*
  refine zah (zah (zaa (zad (zab) (zad (zab) (zad (zaB (e:=147) (sz:=513) aa rfl rfl) (zad (zaY rfl rfl) (zae (zaf (za0 rfl (fun hlt=>?_) (fun hlt=>?_))))))))))
  ·
   refine bL ?_
   have hob:∃ ch,R[j]?=some ch:=⟨_,List.getElem?_eq_getElem ae⟩
   obtain⟨ch,hch⟩:=hob
   have hTj:=(hTR j (Nat.le_refl _)).trans hch
   have hcl:=hR ch (List.mem_of_getElem? hch)
   have hws:=zkB (n:=n) hch
   have hcl2:=zeK hcl
   have hco:=zfx ch
   have hKs:=hK.k.size
   refine zaa (zad (zab) (zad (zab) (zad (zbe (e:=147) (sz:=513) aa rfl rfl (j) ae ae) (zad (zaG rfl (zqm h.sl hT hTj)) (zaD rfl (zar (([Value.int .i64 0])++(List.replicate 512 (Value.int .u8 0))) aa (fun g7 w7 hg7 hr7 hb7=>?_)))))))
   have lt_g_g7:g<g7:=Nat.lt_of_lt_of_le h.lt hg7
   have lt_b_g7:b<g7:=Nat.lt_of_lt_of_le hb.lt hg7
   replace hK:=hK.new hb7
   replace h:=h.new hb7
   replace hb:=hb.new hb7
   refine zaK rfl (zaQ 513 (chV ch) hr7 (fun w901 hr7 ho901=>?_))
   replace hK:=hK.only ho901 aB
   replace h:=h.only ho901 (Nat.ne_of_lt lt_g_g7)
   replace hb:=hb.only ho901 (Nat.ne_of_lt lt_b_g7)
   refine zae (zaf (zah (zaa (zad (zab) (zad (za7 513 hr7) (zao rfl (zbZ aa rfl rfl) (isB ch b n w901 hb) ?_))))))
   rintro _ w28 ⟨rfl,hb28⟩
   replace hK:=hK.new hb28
   replace h:=h.new hb28
   replace hb:=hb.new hb28
   replace hr7:=hr7.new hb28
   refine zad (zbK rfl) (zae (zaf (zl0 rfl (fun hnot=>?_) (fun hnot=>?_))))
   ·
    refine zah ?_
    have hne2:¬ch.num=n:=by simpa using hnot
    rw[if_neg hne2]at hws
    have hTl2:=zcd hT
    have hTs:=zqv hT (i:=i) (c:=ch) ae hcl
    refine zaa (zad (zab) (zad (zab) (zad (za7 513 hr7) (zad (zbe (e:=147) (sz:=513) aa rfl rfl (i) ae ae) (zaK rfl (zd0 (chV ch) (i*513) h rfl rfl (by rw[hcl2];kernel_rfl) (by first |(simp only[zal];omega)|omega) hco (fun w902 h ho902=>?_)))))))
    replace hK:=hK.only ho902 aB
    replace hb:=hb.only ho902 ae
    rw[hTs]at h
    refine zae (zaf (zaa (zad (zab) (zad (zaO rfl rfl (Coup.w64 ae)) (zad (zac) (zae (zaP (zaf (zaa (zad (zab) (zad (zaO rfl rfl (Coup.w64 ae)) (zad (zac) (zae (za2 ⟨(i+1,j+1,T.set i ch),by show m - (j+1)<m - j;omega,⟨by go_num,by go_num,rfl,rfl,rfl⟩,by show i+1<j+1;omega,by show j+1≤m;omega,by show(T.set i ch).length=m;rw[List.length_set];exact hTl,?_,?_,?_,h,hb,hK⟩))))))))))))))
    ·intro c hc
     rcases List.mem_or_eq_of_mem_set hc with e|e
     ·exact hT c e
     ·rw[e];exact hcl
    ·intro k hk
     show(T.set i ch)[k]?=_
     rw[List.getElem?_set,if_neg (by have:j+1≤k:=hk;omega)]
     exact hTR k (Nat.le_trans (Nat.le_succ _) hk)
    ·show(T.set i ch).take (i+1)=without (R.take (j+1)) n
     rw[hws,←hTw,List.take_add_one,List.getElem?_set,if_pos rfl,if_pos ae,List.take_set_of_le (Nat.le_refl _)];rfl
   ·
    have hne2:ch.num=n:=by simpa using hnot
    rw[if_pos hne2]at hws
    refine zat (zaP (zaf (zaa (zad (zab) (zad (zaO rfl rfl (Coup.w64 ae)) (zad (zac) (zae (za2 ⟨(i,j+1,T),by show m - (j+1)<m - j;omega,⟨rfl,by go_num,rfl,rfl,rfl⟩,by show i<j+1;omega,by show j+1≤m;omega,hTl,hT,fun k hk=>hTR k (Nat.le_trans (Nat.le_succ _) hk),hTw.trans hws.symm,h,hb,hK⟩))))))))
  ·
   obtain rfl:j=m:=by omega
   rw[List.take_of_length_le (l:=R) ae]at hTw
   have hln:(without R n).length=i:=by rw[←hTw,List.length_take];omega
   have hzo:=zfx ⟨0,List.replicate 512 0⟩
   refine zbh (zbC (zbH (zbl (zaf (zah (zaa (zad (zab) (zad (zab) (zad (zcL (e:=147) (sz:=513) (i) (j) (c) (j - i) aa rfl ⟨_,_,rfl,ae⟩ rfl rfl ay ae ae ae ae ae) (zaD rfl (zkx (e0:=147) (i) aa zeroCh aa hzo h rfl ae (fun w903 zs903 hzs903 h ho903=>?_))))))))))))
   replace hK:=hK.only ho903 aB
   refine zae (zaf (zah (zaa (zad (zab) (zad (zab) (zad (zcL (e:=147) (sz:=513) (0) (i) (c) (i) aa rfl rfl ⟨_,_,rfl,ae⟩ rfl ay ae ae ae ae ae) (zad (zac) (zae (zaf (zaF (zan [_] ⟨rfl,trivial⟩ ?_)))))))))))
   have hsh:=zky h (n:=i) ae
   rw[zgK _ (by rw[zcd hT];exact Nat.mul_le_mul_right _ ae),zkz hT,hTw]at hsh
   rw[hln]
   exact⟨rfl,hsh,hK⟩
theorem zoR{R:Rec}(h:zcu R)(k:Nat):(zcj R).drop (k*513)=zcj (R.drop k):=by
 by_cases hk:k≤R.length
 ·have h2:zcu (R.take k):=fun c hc=>h c (List.mem_of_mem_take hc)
  have e:zcj R=zcj (R.take k)++zcj (R.drop k):=by
   rw[zcj,zcj,zcj,←List.flatMap_append,List.take_append_drop]
  have hl:=zcd h2
  rw[List.length_take,Nat.min_eq_left hk]at hl
  rw[e,List.drop_left' hl]
 ·rw[List.drop_of_length_le (l:=R) ae,List.drop_of_length_le]
  ·rfl
  ·rw[zcd h]
   exact Nat.mul_le_mul_right _ ae
theorem zkC{l n:List Value}:(splice l 0 n).take n.length=n:=by simp[splice]
theorem zlB{l n:List Value}(h:n.length≤l.length):(splice l (0*513) n).length=l.length:=by
 simp[splice];omega
set_option maxRecDepth 20000 in
set_option maxHeartbeats 2000000 in
theorem deleteF(R:Rec)(hR:zcu R)(g o m c base:Nat)(hm:m=R.length)(h2:2≤m)(w:World)(h:zeg w base 147 513 g o m c (zcj R)):
  Calls Tryz.prog 148 [.slice (some ⟨g,o,none⟩) m c, .int .i64 0, .int .i64 1].toArray w (Ret fun v w'=>v= .slice (some ⟨g,o,none⟩) (R.drop 1).length c∧zeg w' base 147 513 g o (R.drop 1).length c (zcj (R.drop 1))∧KpB [g] w w'):=by
 have hK:=KpB.refl [g] w
 have hml:maxLen=9223372036854775807:=by decide
 have hmx:=h.sl.max
 have hgl:=h.lt
 have hcap:=own_le h
 have hsr:=fun w' (h:zeg w' base 147 513 g o m c (zcj R))=>(show zaS w' (some ⟨g,o+1*513,none⟩) (m - 1) 513 (zcj (R.drop 1))from by
  have h1:=h.sl.sub 1 (m - 1) ae
  rw[zoR hR 1,List.take_of_length_le]at h1
  ·exact h1
  ·rw[zcd (fun c hc=>hR c (List.mem_of_mem_drop hc)),List.length_drop,←hm];exact Nat.le_refl _)
 have hdl:(R.drop 1).length=m - 1:=by rw[List.length_drop,hm]
 have hd1:=zql (R.drop 1)
 have hzo:=zfx ⟨0,List.replicate 512 0⟩
 refine zax (fn:=Tryz.f148) (rs:=[.tmp 6]) (n:=33) Tryz.func148 rfl rfl Tryz.ntmps148 aa rfl (zah (zaa (zad (zac) (zae (zaf (zah (zaa (zad (zab) (zad (zab) (zad (zab) (zad (zab) (zad (zaB (e:=147) (sz:=513) aa rfl rfl) (zad (zcL (e:=147) (sz:=513) (0) (1) (m) (1) aa rfl ⟨_,_,rfl,ae⟩ ⟨_,_,rfl,ae⟩ ⟨_,_,rfl,ae⟩ ay ae ae ae ae ae) (zae (zaf (zah (zah (zaa (zad (zab) (zad (zab) (zad (za5 rfl rfl) (zae (zaf (zcF rfl (ae) (zat (zaf (zah (zaa (zad (zab) (zad (zaB (e:=147) (sz:=513) aa rfl rfl) (zad (zac) (zae (zaf (zah (za3 [g] aa ?_)))))))))))))))))))))))))))))))))))
 intro w901 hb901 hS901
 replace hK:=hK.new hb901
 replace h:=h.new hb901
 refine zas 0 (zab) (zas 1 (zab) (zas 2 (zcL (e:=147) (sz:=513) (0) (0) (c) (0) aa rfl rfl ⟨_,_,rfl,ae⟩ rfl ay ae ae ae ae ae) (zas 3 (zab) (zas 4 (zab) (zas 5 (zcL (e:=147) (sz:=513) (1) (m) (c) (m - 1) aa rfl ⟨_,_,rfl,ae⟩ rfl rfl ay ae ae ae ae ae) (zaA 6 aa (zby rfl rfl (znm (e:=147) (sz:=513) aa rfl aa rfl h rfl (hsr _ h) hd1 ae (fun w26 h ho26=>?_)))))))))
 have hS902:=hS901.aq ho26
 refine⟨hS902,?_⟩
 replace hK:=hK.only ho26 aB
 refine zas 7 (zac) (zaI aa (zaf (zah (zaa (zad (zab) (zad (zab) (zad (zaB (e:=147) (sz:=513) aa rfl rfl) (zad (zab) (zad (zcL (e:=147) (sz:=513) (m - 1) (m) (c) (1) aa rfl ⟨_,_,rfl,ae⟩ ⟨_,_,rfl,ae⟩ rfl ay ae ae ae ae ae) (zaD rfl (zkx (e0:=147) ((m - 1)) aa zeroCh aa hzo h rfl ae (fun w903 zs903 hzs903 h ho903=>?_))))))))))))
 replace hK:=hK.only ho903 aB
 refine dJ ?_
 have hsh:=zky h (n:=m - 1) ae
 have hld:=zcd (fun c hc=>hR c (List.mem_of_mem_drop hc):zcu (R.drop 1))
 rw[hdl]at hld
 have hlR:=zcd hR
 rw[zgK _ (by rw[zlB ae];omega),Nat.zero_mul,Nat.add_zero,Nat.sub_zero,←hld,zkC]at hsh
 rw[hdl]
 exact⟨by show Value.slice (some ⟨g,o+0*513,none⟩) (0+(m - 1)) (c - 0)=_;rw[Nat.zero_mul,Nat.add_zero,Nat.zero_add,Nat.sub_zero],hsh,hK⟩
end Go.Proofs.YtdbogkndglbffaaGreat
namespace Go.Proofs
open Go.Shelf
def Tryz.zkD:Go.Shelf.Ren:=⟨fun|7=>179|10=>191|n=>n,fun|23=>84|26=>3|3=>62|28=>231|0=>0|27=>230|33=>126|4=>4|n=>n,fun|n=>n⟩
theorem Tryz.zjs:Go.Proofs.SlLaysZI.n7 Tryz.prog Tryz.zkD:={
 mixed:=by kernel_rfl
 f7:=⟨Tryz.f179.name,aD,Tryz.func179.trans (congrArg some aa)⟩
 f10:=⟨Tryz.f191.name,aD,Tryz.func191.trans (congrArg some aa)⟩
 t0:=Tryz.underlying0
 a0:=Tryz.isAgg0
 z0:=Tryz.sizeOf0
 v0:=Tryz.zeroValue0
 t4:=Tryz.underlying4
 a4:=Tryz.isAgg4
 z4:=Tryz.sizeOf4
 v4:=Tryz.zeroValue4
 t23:=Tryz.underlying84
 a23:=Tryz.isAgg84
 z23:=Tryz.sizeOf84
 v23:=Tryz.zeroValue84
 t26:=Tryz.underlying3
 a26:=Tryz.isAgg3
 z26:=Tryz.sizeOf3
 v26:=Tryz.zeroValue3
 t27:=Tryz.underlying230
 a27:=Tryz.isAgg230
 z27:=Tryz.sizeOf230
 v27:=Tryz.zeroValue230
 t28:=Tryz.underlying231
 a28:=Tryz.isAgg231
 z28:=Tryz.sizeOf231
 v28:=Tryz.zeroValue231
 t33:=Tryz.underlying126
 a33:=Tryz.isAgg126
 z33:=Tryz.sizeOf126
 v33:=Tryz.zeroValue126}
end Go.Proofs
namespace Go.Proofs.YtdbogkndglbffaaGreat
open Go Go.RowKit Go.Maps Go.Sort Go.Shelf Coup
theorem keysCP(mb:Option Nat)(w:World):Calls Tryz.prog 179 [.map mb].toArray w (Ret fun v w'=>v= .func (.func 191) #[] #[.pointer (some ⟨w.heap.size,0,none⟩)]∧w'=w.alloc (.cells #[.map mb] 84)∧Below w.heap.size w w'):=by
 have h:CallsIn Fence.wide 5 Tryz.prog 179 #[.map mb] w fun e w'=>e= .returned (.func (.func 191) #[] #[.pointer (some ⟨w.heap.size,0,none⟩)])∧w'=w.alloc (.cells #[.map mb] 84):=AnyZI.keys_in Tryz.zjs Fence.wide 5 trivial rfl mb w
 refine(callsIn_wide.1 h).mono ?_
 rintro e w' ⟨rfl,rfl⟩
 exact⟨_,rfl,rfl,rfl,(Below.refl _ w).alloc (Nat.le_refl _) _⟩
theorem zqw{b N:Nat}{f:Nat→Option Value}(w W:World)(hW:W=w.alloc (.cells #[.map (some b)] 84))(h:MapAt Tryz.prog 3 w b N f)(hN:N≤1000000):
  Calls Tryz.prog 178 [.func (.func 191) #[] #[.pointer (some ⟨w.heap.size,0,none⟩)]].toArray W (Ret fun v w'=>∃ p c,v= .slice p (keysOf f 0 N).length c∧zaS w' p (keysOf f 0 N).length 1 (iv (keysOf f 0 N))∧(∀ b o,p=some ⟨b,o,none⟩→W.heap.size≤b)∧Below W.heap.size W w'):=by
 subst hW
 have hbl:=h.lt
 have hle:=zi8 f N 0
 have hml:maxLen=9223372036854775807:=by decide
 have hsz:Maps.size (DataW.map (kvL f 0 N))≤N:=hle
 have hown:(w.alloc (.cells #[.map (some b)] 84)).ownsMap Tryz.prog 3 RH b N (.map (kvL f 0 N)):=by
  obtain⟨es,clock,hb,Ft,hs,hD⟩:=h
  exact⟨es,clock,(Below.heap_alloc _ _ b hbl).trans hb,Ft,hs,hD⟩
 have hseq:SeqGives Fence.wide 2 Tryz.prog 191 #[.pointer (some ⟨w.heap.size,0,none⟩)] encZ (fun ss=>ss.Perm (intKeys (DataW.map (kvL f 0 N)))) (Maps.size (DataW.map (kvL f 0 N))) (w.alloc (.cells #[.map (some b)] 84)):=
  AnyZI.keys_gives (ρ:=Tryz.zkD) {Tryz.zjs with} Fence.wide _ trivial rfl ae w.heap.size b N _ _ ay ay hown
 have cS:=AnyZI.sorted_in Tryz.zol Fence.wide 5 trivial trivial trivial trivial rfl ae (sortsA _) (enters_of Tryz.func190 aa rfl) 191 #[.pointer (some ⟨w.heap.size,0,none⟩)] trivial (enters_of Tryz.func191 aa rfl) _ _ ae ae _ hseq
 change CallsIn _ _ Tryz.prog 178 _ _ _ at cS
 refine(callsIn_wide.1 cS).mono ?_
 rintro e w' ⟨v,ss,rfl,hS,hrow,hnil,hb⟩
 have hlen:ss.length=(keysOf f 0 N).length:=by rw[←zeZ,hS.length_eq]
 rw[zfX f N 0 hS,hlen]at hrow
 have ho:=zdm hrow
 obtain⟨p,c,rfl⟩:=ho.form
 exact⟨_,rfl,p,c,rfl,ho.sl,fun b o e=>(ho.lt b (by rw[e];rfl)).1,hb⟩
end Go.Proofs.YtdbogkndglbffaaGreat
namespace Go.Proofs.YtdbogkndglbffaaGreat
open Go Go.RowKit Coup
set_option maxRecDepth 20000 in
theorem keysF{m N:Nat}{f:Nat→Option Value}(w:World)(h:MapAt Tryz.prog 3 w m N f)(hN:N≤1000000):
  Calls Tryz.prog 151 [.map (some m)].toArray w (Ret fun v w'=>(∃ p c,v= .slice p (keysOf f 0 N).length c∧zaS w' p (keysOf f 0 N).length 1 (iv (keysOf f 0 N))∧∀ b o,p=some ⟨b,o,none⟩→w.heap.size≤b)∧Below w.heap.size w w'):=by
 have hB:=Below.refl w.heap.size w
 have hS:=fun w' W hW (h':MapAt Tryz.prog 3 w' m N f)=>zqw w' W hW h' hN
 refine zax (fn:=Tryz.f151) (rs:=[.tmp 2]) (n:=6) Tryz.func151 rfl rfl Tryz.ntmps151 aa rfl (zah (zaa (zad (zac) (zae (zaf (zah (zaa (zad (zab) (zao rfl (zaj aa rfl) (keysCP (some m) w) ?_)))))))))
 rintro _ w4 ⟨rfl,hkw,hb4⟩
 replace hB:=hB.acc hb4
 have hsz:=hB.size
 refine zao rfl (zaj aa rfl) (hS w w4 hkw h) ?_
 rintro _ w5 ⟨p,c,rfl,hsl,hpb,hb5⟩
 replace hB:=hB.acc hb5
 refine cB ?_
 exact⟨⟨p,c,rfl,hsl,fun b o e=>Nat.le_trans hsz (hpb b o e)⟩,hB⟩
abbrev Pg:=List UInt8
abbrev PgM:=Nat→Option Pg
def pgV(b:Pg):Value:=.agg (bv b).toArray
def zdG(c:PgM):Nat→Option Value:=fun i=>(c i).map pgV
def zfz(c:PgM)(i:Nat)(v:Option Pg):PgM:=fun j=>if j=i then v else c j
def noP:PgM:=fun _=>none
theorem zmq(c:PgM)(i:Nat)(v:Option Pg):zh3 (zdG c) i (v.map pgV)=zdG (zfz c i v):=by
 funext j
 unfold zh3 zdG zfz
 split<;>rfl
theorem zhJ(c:PgM)(i:Nat)(b:Pg):zh3 (zdG c) i (some (.agg (bv b).toArray))=zdG (zfz c i (some b)):=zmq c i (some b)
theorem zoS(c:PgM)(i:Nat):zh3 (zdG c) i none=zdG (zfz c i none):=zmq c i none
structure Pl where
 D:Dk
 G:Lg
 fr:Nat
 ch:PgM
 di:PgM
 cl:Rec
 dead:Bool
def Pl.n(P:Pl):Nat:=zgJ P.D.V.length P.G.size
structure zk7(P:Pl):Prop where
 lg:LgOk P.D P.G
 n4:4≤P.n
 fr2:2≤P.fr
 frm:P.fr≤100
 ch:∀ i b,P.ch i=some b→b.length=512
 di:∀ i b,P.di i=some b→b.length=512
 cl:zcu P.cl
 cll:P.cl.length≤P.fr
def plV(g x s f mc md:Nat)(rv:Value)(dead:Bool):List Value:=[.pointer (some ⟨g,0,none⟩), .pointer (some ⟨x,0,none⟩), .int .i64 (s:Int), .int .i64 (f:Int), .map (some mc), .map (some md),rv, .bool dead]
structure zbE(g x q mc md:Nat)(rv cv:Value)(Y:World→List Nat→Prop)(lo:Nat)(L:List Nat)(P:Pl)(w:World):Prop where
 lg:zew g x Y lo (cv.ownBlock.toList++q::mc::md::L) P.D P.G w
 row:row w q (plV g x P.G.size P.fr mc md rv P.dead) 116
 mch:MapAt Tryz.prog 3 w mc P.n (zdG P.ch)
 mdi:MapAt Tryz.prog 3 w md P.n (zdG P.di)
 own:zaz w 0 147 513 cv P.cl.length (zcj P.cl)
 qm:q≠mc
 qd:q≠md
 md':mc≠md
 cq:∀ b∈cv.ownBlock.toList,b≠q∧b≠mc∧b≠md∧lo≤b∧b∉L
 ql:lo≤q∧q∉L
 mcl:lo≤mc∧mc∉L
 mdl:lo≤md∧md∉L
def PZ(q:Nat)(P:Pl):World→List Nat→Prop:=fun w B=>∃ g x mc md cv BD,B=BD++(x::(cv.ownBlock.toList++[q,mc,md]))∧DkX w g BD P.D∧Coup.row w x (lgV g P.G) 197∧
 Coup.row w q (plV g x P.G.size P.fr mc md cv P.dead) 116∧MapAt Tryz.prog 3 w mc P.n (zdG P.ch)∧MapAt Tryz.prog 3 w md P.n (zdG P.di)∧zaz w 0 147 513 cv P.cl.length (zcj P.cl)∧
 (∀ b∈BD,b∉(x::(cv.ownBlock.toList++[q,mc,md])))∧x∉cv.ownBlock.toList++[q,mc,md]∧q≠mc∧q≠md∧mc≠md∧∀ b∈cv.ownBlock.toList,b≠q∧b≠mc∧b≠md
instance(q:Nat)(P:Pl):Thing (PZ q P):=
 ⟨fun {w w' B M} ⟨g,x,mc,md,cv,BD,e,h1,h2,h3,h4,h5,h6,h7⟩ k hM=>by
   subst e
   exact⟨g,x,mc,md,cv,BD,rfl,h1.kpd k fun b hb=>hM b aH,h2.kpd k (hM x ay),h3.kpd k (hM q ay),h4.kpd k (hM mc ay),h5.kpd k (hM md ay),h6.kpd k (fun b hb e=>hM b aV hb),h7⟩,
  fun {w B} ⟨g,x,mc,md,cv,BD,e,h1,h2,h3,h4,h5,h6,h7⟩ b hb=>by
   subst e
   simp only[List.mem_append,List.mem_cons,List.not_mem_nil,or_false]at hb
   rcases hb with hb|rfl|hb|rfl|rfl|rfl
   ·exact h1.lt b hb
   ·exact h2.lt
   ·exact(h6.lt b (Option.mem_toList.1 hb)).2
   ·exact h3.lt
   ·exact h4.lt
   ·exact h5.lt⟩
section
variable {Y:World→List Nat→Prop}{g x q mc md lo gc:Nat}{rv cv cv2:Value}{L L2 M:List Nat}{P:Pl}{w w':World}
theorem zgv(h:Two (PZ q P) Y lo L w):∃ g x mc md cv,zbE g x q mc md cv cv Y lo L P w:=by
 obtain⟨⟨B,C,⟨g,x,mc,md,cv,BD,e,h1,h2,h3,h4,h5,h6,h7,h8,h9,h10,h11,h12⟩,hC,hB,hC2⟩,hl,hL⟩:=h
 subst e
 have hBx:=hB x ay
 have hBq:=hB q ay
 have hBm:=hB mc ay
 have hBd:=hB md ay
 have hBc:=fun b (hb:b∈cv.ownBlock.toList)=>hB b aH
 refine⟨g,x,mc,md,cv,⟨⟨⟨BD,C,h1,hC,fun b hb=>⟨(hB b aH).1,(hB b aH).2.1,fun hm=>?_⟩,fun b hb=>⟨(hC2 b hb).1,fun hm=>?_⟩⟩,hl,fun b hm=>?_⟩,h2,hBx.1,fun hm=>?_⟩,h3,h4,h5,h6,h9,h10,h11,fun b hb=>⟨(h12 b hb).1,(h12 b hb).2.1,(h12 b hb).2.2,(hBc b hb).1,(hBc b hb).2.2⟩,⟨hBq.1,hBq.2.2⟩,⟨hBm.1,hBm.2.2⟩,⟨hBd.1,hBd.2.2⟩⟩
 ·have h7b:=h7 b hb
  have hbL:=(hB b aH).2.2
  simp only[List.mem_cons,List.mem_append,List.not_mem_nil,or_false,not_or]at h7b hm
  rcases hm with rfl|hm|rfl|rfl|rfl|hm
  ·exact h7b.1 rfl
  ·exact h7b.2.1 hm
  ·exact h7b.2.2.1 rfl
  ·exact h7b.2.2.2.1 rfl
  ·exact h7b.2.2.2.2 rfl
  ·exact hbL hm
 ·simp only[List.mem_cons,List.mem_append]at hm
  rcases hm with rfl|hm|rfl|rfl|rfl|hm
  ·exact hBx.2.1 hb
  ·exact(hBc b hm).2.1 hb
  ·exact hBq.2.1 hb
  ·exact hBm.2.1 hb
  ·exact hBd.2.1 hb
  ·exact(hC2 b hb).2 hm
 ·simp only[List.mem_cons,List.mem_append]at hm
  rcases hm with rfl|hm|rfl|rfl|rfl|hm
  ·exact h2.lt
  ·exact(h6.lt b (Option.mem_toList.1 hm)).2
  ·exact h3.lt
  ·exact h4.lt
  ·exact h5.lt
  ·exact hL b hm
 ·simp only[List.mem_cons,List.mem_append,List.not_mem_nil,or_false,not_or]at h8 hm
  rcases hm with hm|rfl|rfl|rfl|hm
  ·exact h8.1 hm
  ·exact h8.2.1 rfl
  ·exact h8.2.2.1 rfl
  ·exact h8.2.2.2 rfl
  ·exact hBx.2.2 hm
theorem zmr(h:zbE g x q mc md cv cv Y lo L P w):Two (PZ q P) Y lo L w:=by
 obtain⟨⟨⟨⟨BD,C,h1,hC,hB,hC2⟩,hl,hL⟩,h2,h2l,h2n⟩,h3,h4,h5,h6,h9,h10,h11,h12,hq,hm,hd⟩:=h
 have hn:∀ b,b∈C→b∉x::(cv.ownBlock.toList++q::mc::md::L):=fun b hb=>(hC2 b hb).2
 have hx2:x∉cv.ownBlock.toList++[q,mc,md]∧x∉L:=by
  simp only[List.mem_append,List.mem_cons,not_or]at h2n
  simp only[List.mem_append,List.mem_cons,not_or,List.not_mem_nil,not_false_eq_true,and_true]
  exact⟨⟨h2n.1,h2n.2.1,h2n.2.2.1,h2n.2.2.2.1⟩,h2n.2.2.2.2⟩
 refine⟨⟨_,C,⟨g,x,mc,md,cv,BD,rfl,h1,h2,h3,h4,h5,h6,fun b hb hm=>(hB b hb).2.2 ?_,hx2.1,h9,h10,h11,fun b hb=>⟨(h12 b hb).1,(h12 b hb).2.1,(h12 b hb).2.2.1⟩⟩,hC,fun b hb=>?_,fun b hb=>⟨(hC2 b hb).1,fun hm=>hn b hb aQ⟩⟩,hl,fun b hb=>hL b aH⟩
 ·simp only[List.mem_append,List.mem_cons,List.not_mem_nil,or_false]at hm ⊢
  rcases hm with hm|hm|hm|hm|hm
  ·exact .inl hm
  ·exact .inr (.inl hm)
  ·exact .inr (.inr (.inl hm))
  ·exact .inr (.inr (.inr (.inl hm)))
  ·exact .inr (.inr (.inr (.inr (.inl hm))))
 ·have hc:∀ b,b∈x::(cv.ownBlock.toList++q::mc::md::L)→b∉C:=fun b hm hc=>hn b hc hm
  simp only[List.mem_append,List.mem_cons,List.not_mem_nil,or_false]at hb
  rcases hb with hb|rfl|hb|rfl|rfl|rfl
  ·exact⟨(hB b hb).1,(hB b hb).2.1,fun hm=>(hB b hb).2.2 aQ⟩
  ·exact⟨h2l,hc _ ay,hx2.2⟩
  ·exact⟨(h12 b hb).2.2.2.1,hc _ aH,(h12 b hb).2.2.2.2⟩
  ·exact⟨hq.1,hc _ ay,hq.2⟩
  ·exact⟨hm.1,hc _ ay,hm.2⟩
  ·exact⟨hd.1,hc _ ay,hd.2⟩
namespace zbE
theorem lo'(h:zbE g x q mc md rv cv Y lo L P w):lo≤w.heap.size:=h.lg.two.lo
theorem lts(h:zbE g x q mc md rv cv Y lo L P w):q<w.heap.size∧mc<w.heap.size∧md<w.heap.size:=⟨h.row.lt,h.mch.lt,h.mdi.lt⟩
theorem ltL(h:zbE g x q mc md rv cv Y lo L P w):∀ b∈L,b<w.heap.size:=fun b hb=>h.lg.two.lt b aH
theorem kpd [hY:Thing Y](h:zbE g x q mc md rv cv Y lo L P w)(k:Kp M w w')(hM:∀ b∈M,b<lo∨b∈L):zbE g x q mc md rv cv Y lo L P w':=by
 have hn:∀ b,lo≤b∧b∉L→b∉M:=fun b hb hm=>(hM b hm).elim (fun hl=>absurd hb.1 (Nat.not_le.2 hl)) hb.2
 exact⟨h.lg.kpd k fun b hb=>(hM b hb).imp id fun hm=>by simp[hm],h.row.kpd k (hn q h.ql),h.mch.kpd k (hn mc h.mcl),h.mdi.kpd k (hn md h.mdl),h.own.kpd k fun b hb e=>hn b (h.cq b aV).2.2.2 hb,h.qm,h.qd,h.md',h.cq,h.ql,h.mcl,h.mdl⟩
theorem new [hY:Thing Y](h:zbE g x q mc md rv cv Y lo L P w)(hb:Below w.heap.size w w'):zbE g x q mc md rv cv Y lo L P w':=h.kpd (M:=[]) (Kp.of_below hb) ay
theorem only[hY:Thing Y](h:zbE g x q mc md rv cv Y lo L P w)(ho:Only gc w w')(hg:gc<lo∨gc∈L):zbE g x q mc md rv cv Y lo L P w':=h.kpd (Kp.zaZ ho) fun b hb=>by rw[List.mem_singleton.1 hb];exact hg
theorem weak(h:zbE g x q mc md rv cv Y lo L P w)(h2:∀ b∈L2,b∈L):zbE g x q mc md rv cv Y lo L2 P w:=
 ⟨h.lg.weak fun b hb=>by
  simp only[List.mem_append,List.mem_cons]at hb ⊢
  rcases hb with hm|hm|hm|hm|hm
  ·exact .inl hm
  ·exact .inr (.inl hm)
  ·exact .inr (.inr (.inl hm))
  ·exact .inr (.inr (.inr (.inl hm)))
  ·exact .inr (.inr (.inr (.inr (h2 b hm)))),h.row,h.mch,h.mdi,h.own,h.qm,h.qd,h.md',fun b hb=>⟨(h.cq b hb).1,(h.cq b hb).2.1,(h.cq b hb).2.2.1,(h.cq b hb).2.2.2.1,fun hm=>(h.cq b hb).2.2.2.2 (h2 b hm)⟩,⟨h.ql.1,fun hm=>h.ql.2 (h2 _ hm)⟩,⟨h.mcl.1,fun hm=>h.mcl.2 (h2 _ hm)⟩,⟨h.mdl.1,fun hm=>h.mdl.2 (h2 _ hm)⟩⟩
theorem newc [hY:Thing Y](h:zbE g x q mc md rv cv Y lo L P w)(hb:Below w.heap.size w w')(hg:w.heap.size≤gc)(hg':gc<w'.heap.size):zbE g x q mc md rv cv Y lo (gc::L) P w':=by
 have h2:=h.new hb
 have hlt:=h.lts
 refine⟨(h.lg.newc hb hg hg').weak fun b hb=>?_,h2.row,h2.mch,h2.mdi,h2.own,h.qm,h.qd,h.md',fun b hb=>⟨(h.cq b hb).1,(h.cq b hb).2.1,(h.cq b hb).2.2.1,(h.cq b hb).2.2.2.1,fun hm=>?_⟩,⟨h.ql.1,fun hm=>?_⟩,⟨h.mcl.1,fun hm=>?_⟩,⟨h.mdl.1,fun hm=>?_⟩⟩
 ·simp only[List.mem_append,List.mem_cons]at hb ⊢
  rcases hb with hm|hm|hm|hm|hm|hm
  ·exact .inr (.inl hm)
  ·exact .inr (.inr (.inl hm))
  ·exact .inr (.inr (.inr (.inl hm)))
  ·exact .inr (.inr (.inr (.inr (.inl hm))))
  ·exact .inl hm
  ·exact .inr (.inr (.inr (.inr (.inr hm))))
 ·rcases List.mem_cons.1 hm with rfl|hm
  ·have:=(h.own.lt b (Option.mem_toList.1 hb)).2;omega
  ·exact(h.cq b hb).2.2.2.2 hm
 ·rcases List.mem_cons.1 hm with rfl|hm
  ·omega
  ·exact h.ql.2 hm
 ·rcases List.mem_cons.1 hm with rfl|hm
  ·omega
  ·exact h.mcl.2 hm
 ·rcases List.mem_cons.1 hm with rfl|hm
  ·omega
  ·exact h.mdl.2 hm
theorem xne(h:zbE g x q mc md rv cv Y lo L P w):x≠q∧x≠mc∧x≠md∧x∉cv.ownBlock.toList∧x∉L:=by
 have h2n:=h.lg.ni
 simp only[List.mem_append,List.mem_cons,not_or]at h2n
 exact⟨h2n.2.1,h2n.2.2.1,h2n.2.2.2.1,h2n.1,h2n.2.2.2.2⟩
theorem setRow [hY:Thing Y]{rv2:Value}{b:Bool}(h:zbE g x q mc md rv cv Y lo L P w)(hr:Coup.row w' q (plV g x P.G.size P.fr mc md rv2 b) 116)(ho:Only q w w'):zbE g x q mc md rv2 cv Y lo L {P with dead:=b} w':=
 ⟨h.lg.only ho (.inr ay),hr,h.mch.only ho (Ne.symm h.qm),h.mdi.only ho (Ne.symm h.qd),h.own.kpd (Kp.zaZ ho) (fun b hb e=>by rw[List.mem_singleton.1 hb]at e;exact(h.cq q aV).1 rfl),h.qm,h.qd,h.md',h.cq,h.ql,h.mcl,h.mdl⟩
theorem zkE [hY:Thing Y]{c:PgM}(h:zbE g x q mc md rv cv Y lo L P w)(hr:MapAt Tryz.prog 3 w' mc P.n (zdG c))(ho:Only mc w w'):zbE g x q mc md rv cv Y lo L {P with ch:=c} w':=
 ⟨h.lg.only ho (.inr ay),h.row.only ho h.qm,hr,h.mdi.only ho (Ne.symm h.md'),h.own.kpd (Kp.zaZ ho) (fun b hb e=>by rw[List.mem_singleton.1 hb]at e;exact(h.cq mc aV).2.1 rfl),h.qm,h.qd,h.md',h.cq,h.ql,h.mcl,h.mdl⟩
theorem setDi [hY:Thing Y]{c:PgM}(h:zbE g x q mc md rv cv Y lo L P w)(hr:MapAt Tryz.prog 3 w' md P.n (zdG c))(ho:Only md w w'):zbE g x q mc md rv cv Y lo L {P with di:=c} w':=
 ⟨h.lg.only ho (.inr ay),h.row.only ho h.qd,h.mch.only ho h.md',hr,h.own.kpd (Kp.zaZ ho) (fun b hb e=>by rw[List.mem_singleton.1 hb]at e;exact(h.cq md aV).2.2.1 rfl),h.qm,h.qd,h.md',h.cq,h.ql,h.mcl,h.mdl⟩
theorem zms [hY:Thing Y]{R:Rec}(h:zbE g x q mc md rv cv Y lo L P w)(hv:zaz w' 0 147 513 cv2 R.length (zcj R))(k:Kp cv.ownBlock.toList w w')(hf:∀ b,cv2.ownBlock=some b→cv.ownBlock=some b∨w.heap.size≤b):zbE g x q mc md rv cv2 Y lo L {P with cl:=R} w':=by
 have hlt:=h.lts
 have hx:=h.xne
 have hloz:=h.lo'
 have hLl:=h.ltL
 have hG:=h.lg.kpd k fun b hb=>.inr aH
 have hS:∀ b∈cv2.ownBlock.toList,b∈cv.ownBlock.toList∨w.heap.size≤b:=fun b hb=>(hf b (Option.mem_toList.1 hb)).imp (fun e=>Option.mem_toList.2 e) id
 have hc2:∀ b∈cv2.ownBlock.toList,b≠q∧b≠mc∧b≠md∧lo≤b∧b∉L:=fun b hb=>(hS b hb).elim (h.cq b) fun hs=>⟨ae,ae,ae,ae,fun hm=>by have:=hLl b hm;omega⟩
 obtain⟨⟨⟨B,C,h1,h2,h3,h4⟩,h5,h6⟩,h7,h8,h9⟩:=h.lg
 have hDl:=fun b hb=>(inferInstance:Thing (DZ g P.D)).lt h1 b hb
 have hYl:=fun b hb=>hY.lt h2 b hb
 refine⟨⟨⟨⟨B,C,?_,?_,fun b hb=>⟨(h3 b hb).1,(h3 b hb).2.1,fun hm=>?_⟩,fun b hb=>⟨(h4 b hb).1,fun hm=>?_⟩⟩,Nat.le_trans h5 k.size,fun b hm=>?_⟩,hG.rowx,h8,fun hm=>?_⟩,h.row.kpd k fun hm=>(h.cq q hm).1 rfl,h.mch.kpd k fun hm=>(h.cq mc hm).2.1 rfl,h.mdi.kpd k fun hm=>(h.cq md hm).2.2.1 rfl,hv,h.qm,h.qd,h.md',hc2,h.ql,h.mcl,h.mdl⟩
 ·exact(inferInstance:Thing (DZ g P.D)).kpd h1 k fun b hb hm=>(h3 b hb).2.2 aQ
 ·exact hY.kpd h2 k fun b hb hm=>(h4 b hb).2 aQ
 ·have h3b:=(h3 b hb).2.2
  simp only[List.mem_cons,List.mem_append,not_or]at h3b hm
  rcases hm with hm|hm|hm|hm|hm|hm
  ·exact h3b.1 hm
  ·exact(hS b hm).elim h3b.2.1 fun hs=>by have:=hDl b hb;omega
  ·exact h3b.2.2.1 hm
  ·exact h3b.2.2.2.1 hm
  ·exact h3b.2.2.2.2.1 hm
  ·exact h3b.2.2.2.2.2 hm
 ·have h4b:=(h4 b hb).2
  simp only[List.mem_cons,List.mem_append,not_or]at h4b hm
  rcases hm with hm|hm|hm|hm|hm|hm
  ·exact h4b.1 hm
  ·exact(hS b hm).elim h4b.2.1 fun hs=>by have:=hYl b hb;omega
  ·exact h4b.2.2.1 hm
  ·exact h4b.2.2.2.1 hm
  ·exact h4b.2.2.2.2.1 hm
  ·exact h4b.2.2.2.2.2 hm
 ·simp only[List.mem_cons,List.mem_append]at hm
  rcases hm with hm|hm|hm|hm|hm|hm
  ·exact Nat.lt_of_lt_of_le (h6 b aQ) k.size
  ·exact(hv.lt b (Option.mem_toList.1 hm)).2
  ·exact Nat.lt_of_lt_of_le (h6 b aQ) k.size
  ·exact Nat.lt_of_lt_of_le (h6 b aQ) k.size
  ·exact Nat.lt_of_lt_of_le (h6 b aQ) k.size
  ·exact Nat.lt_of_lt_of_le (h6 b aQ) k.size
 ·simp only[List.mem_append,List.mem_cons]at hm
  rcases hm with hm|hm|hm|hm|hm
  ·refine(hS x hm).elim hx.2.2.2.1 fun hs=>?_
   have:=h7.lt;omega
  ·exact hx.1 hm
  ·exact hx.2.1 hm
  ·exact hx.2.2.1 hm
  ·exact hx.2.2.2.2 hm
theorem setLg{D:Dk}{G:Lg}(h:zbE g x q mc md rv cv Y lo L P w)(hG:zew g x Y lo (cv.ownBlock.toList++q::mc::md::L) D G w')(k:LoL lo (cv.ownBlock.toList++q::mc::md::L) w w')(hs:G.size=P.G.size)(hD:D.V.length=P.D.V.length):zbE g x q mc md rv cv Y lo L {P with D:=D,G:=G} w':=by
 have hn:({P with D:=D,G:=G}:Pl).n=P.n:=by unfold Pl.n;dsimp only;rw[hs,hD]
 refine⟨hG,?_,?_,?_,h.own.kpd k.kp fun b hb e=>zam (.inr aV) hb,h.qm,h.qd,h.md',h.cq,h.ql,h.mcl,h.mdl⟩
 ·dsimp only;rw[hs];exact h.row.kpd k.kp (zam (.inr ay))
 ·rw[hn];exact h.mch.kpd k.kp (zam (.inr ay))
 ·rw[hn];exact h.mdi.kpd k.kp (zam (.inr ay))
theorem outLo(h:zbE g x q mc md rv cv Y lo L P w)(k:LoL lo (cv.ownBlock.toList++q::mc::md::L) w w'):LoL lo L w w':=k.weak (Nat.le_refl _) fun b hb=>by simp[hb]
theorem outC(h:zbE g x q mc md rv cv Y lo L P w)(k:Kp cv.ownBlock.toList w w'):LoL lo L w w':=LoL.zkf k fun b hb=>.inl (h.cq b hb).2.2.2
end zbE
theorem zoT [hY:Thing Y] {Pr:Program} {f:FuncId} {args:Array Value} {R:Value→Prop} {P':Pl} (h:Two (PZ q P) Y lo L w)
  (hc:∀ g x mc md cv,zbE g x q mc md cv cv Y lo L P w→Calls Pr f args w (Ret fun v w'=>R v∧(∃ cv',zbE g x q mc md cv' cv' Y lo L P' w')∧LoL lo L w w')):Calls Pr f args w (Ret fun v w'=>R v∧Two (PZ q P') Y lo L w'∧LoL lo L w w'):=by
 obtain⟨g,x,mc,md,cv,hP⟩:=zgv h
 exact(hc g x mc md cv hP).to fun v w' ⟨h1,⟨cv',h2⟩,h3⟩=>⟨h1,zmr h2,h3⟩
end
set_option maxRecDepth 20000 in
theorem deleteN(b:Nat)(n:Int)(w:World)(hb:row w b [.int .i64 n] 3):
  Calls Tryz.prog 159 [.slice none 0 0, .func (.func 160) #[] #[.pointer (some ⟨b,0,none⟩)]].toArray w (Ret fun v w'=>v= .slice none 0 0∧Below w.heap.size w w'):=by
 have hB:=Below.refl w.heap.size w
 have hs0:zaS w none 0 513 (zcj []):=(zbp w 0 147 513).sl
 have hix:=fun w' (h:zaS w' none 0 513 (zcj [])) (hb:row w' b [.int .i64 n] 3)=>indexB [] (fun _ h=>nomatch h) none 0 0 rfl b n w' h hb
 rw[if_neg ay]at hix
 refine zax (fn:=Tryz.f159) (rs:=[.tmp 4]) (n:=42) Tryz.func159 rfl rfl Tryz.ntmps159 aa rfl (zah (zaa (zad (zac) (zae (zaf (zah (zaa (zad (zab) (zad (zab) (zao rfl (zaj aa rfl) (hix w hs0 hb) ?_))))))))))
 rintro _ w10 ⟨rfl,hb10⟩
 replace hB:=hB.acc hb10
 refine zad (zac) (zae (zaf (zah (zah (zaa (zad (zab) (zad (za5 rfl rfl) (zae (zaf (zgP rfl (rfl) (zah (zaa (zad (zab) (zad (zac) (zae (zaf (zaF (zaW (zan [_] ⟨rfl,trivial⟩ ?_)))))))))))))))))))
 exact⟨rfl,hB⟩
section
variable {Y:World→List Nat→Prop}[Thing Y]{g x q mc md lo:Nat}{rv cv:Value}{L:List Nat}{P:Pl}{w:World}
set_option maxRecDepth 20000 in
theorem pagesP(h:zbE g x q mc md rv cv Y lo L P w)(hsz:P.G.size≤4000):Calls Tryz.prog 36 [.pointer (some ⟨q,0,none⟩)].toArray w (Ret fun v w'=>v= .int .i64 (P.n:Int)∧Below w.heap.size w w'):=by
 have hB:=Below.refl w.heap.size w
 have hC:=fun w' (h':zbE g x q mc md rv cv Y lo L P w')=>countP h'.lg.fst (P.G.size:Int) ⟨ae,ae⟩
 have hq:=h.row
 unfold plV at hq
 unfold Pl.n
 refine zax (fn:=Tryz.f36) (rs:=[.tmp 2]) (n:=21) Tryz.func36 rfl rfl Tryz.ntmps36 aa rfl (zah (zaa (zad (zac) (zae (zaf (zah (zah (zaa (zad (zab) (zad (zcY aa rfl rfl) (zad (zab) (WR_fb 5 rfl (rfl) (zaq rfl (zad (zab) (zaq rfl (zad (zak rfl) (zaq rfl (zad (zaw 0) (zaq rfl (zad (zau hq) (zaq rfl (zad (zcY aa rfl rfl) (zad (zaE rfl) (zae (zaf (zjG rfl (rfl) (zat (zaf (zah (za3 [] aa ?_))))))))))))))))))))))))))))))
 intro w901 hb901 hS901
 replace h:=h.new hb901
 replace hq:=hq.new hb901
 replace hB:=hB.acc hb901
 have h_d901:=h
 have hq_d901:=hq
 refine zas 0 (zab) (zas 1 (zak rfl) (zas 2 (zaw 0) (zbo 3 (fun w' hS'=>zau (hq_d901.kq hS')) (zas 4 (zab) (zas 5 (zak rfl) (zas 6 (zaw 2) (zbo 7 (fun w' hS'=>zau (hq_d901.kq hS')) (zdS 8 aa rfl (fun _=>zaj aa rfl) (fun w' hS'=>hC w' (h_d901.kpd hS' ah)) (zas 9 (zac) (zaI aa (zaf (zaF (zan [_] ⟨rfl,trivial⟩ ?_)))))))))))))
 exact⟨rfl,hB⟩
def zdf(P:Pl)(n:Int):Int:=if P.dead then 10 else if 0≤n∧n<(P.n:Int)then 0 else 2
set_option maxRecDepth 20000 in
theorem zkF(h:zbE g x q mc md rv cv Y lo L P w)(hsz:P.G.size≤4000)(n:Int):Calls Tryz.prog 66 [.pointer (some ⟨q,0,none⟩), .int .i64 n].toArray w (Ret fun v w'=>v= .int .i64 (zdf P n)∧Below w.heap.size w w'):=by
 have hB:=Below.refl w.heap.size w
 have hC:=fun w' (h':zbE g x q mc md rv cv Y lo L P w')=>pagesP h' hsz
 have hq:=h.row
 obtain⟨de,hde⟩:∃ de,P.dead=de:=⟨_,rfl⟩
 obtain⟨N,hN⟩:∃ N,P.n=N:=⟨_,rfl⟩
 unfold plV at hq
 unfold zdf
 rw[hde]at hq ⊢
 rw[hN]at hC ⊢
 refine zax (fn:=Tryz.f66) (rs:=[.tmp 4]) (n:=29) Tryz.func66 rfl rfl Tryz.ntmps66 aa rfl (zah (zaa (zad (zac) (zae (zaf (zah (zav (zah (zaa (zad (zab) (zad (zcY aa rfl rfl) (zad (zab) (WR_fb 8 rfl (rfl) (zaq rfl (zad (zab) (zaq rfl (zad (zak rfl) (zaq rfl (zad (zaw 0) (zaq rfl (zad (zau hq) (zaq rfl (zad (zcY aa rfl rfl) (zad (zaE rfl) (zad (zac) (zae (zaf (zjG rfl (rfl) (zah (zaa (zad (zab) (zad (zak rfl) (zad (zaw 7) (zad (zau hq) (zad (zac) (zae (zaf (zjT rfl (fun hd=>?_) (fun hd=>?_)))))))))))))))))))))))))))))))))))))))
 ·
  refine bW ?_
  subst hd
  exact⟨rfl,hB⟩
 ·
  have hf:de=false:=by cases de with|false=>rfl|true=>cases hd
  subst hf
  refine zah (zaa (zad (zab) (zad (zaY rfl rfl) (zad (zab) (zbI 23 rfl (fun hlt=>?_) (fun hlt=>?_))))))
  ·
   refine zaM rfl rfl (zaM rfl rfl (zaM rfl rfl (zaM rfl rfl (zad (zaC rfl) (zad (zac) (zae (zaf (zjU rfl (rfl) (zah (zaa (zad (zac) (zae (zaf (zaF (zbc (zaW (zan [_] ⟨rfl,trivial⟩ ?_)))))))))))))))))
   exact⟨by rw[if_neg ay,if_neg ae];rfl,hB⟩
  ·
   refine zaq rfl (zad (zab) (zaq rfl (zad (zab) (zaq rfl (zao rfl (zaj aa rfl) (hC w h) ?_)))))
   rintro _ w26 ⟨rfl,hb26⟩
   replace hB:=hB.acc hb26
   refine zaq rfl (zad (zcH rfl rfl) (zad (zaE rfl) (zad (zac) (zae (zaf (za0 rfl (fun hge=>?_) (fun hge=>?_)))))))
   ·
    refine bW ?_
    exact⟨by rw[if_neg ay,if_neg ae];rfl,hB⟩
   ·
    refine bX ?_
    exact⟨by rw[if_neg ay,if_pos ae];rfl,hB⟩
set_option maxRecDepth 20000 in
theorem keepP(h:zbE g x q mc md rv cv Y lo L P w)(e:Int):Calls Tryz.prog 117 [.pointer (some ⟨q,0,none⟩), .int .i64 e].toArray w (Ret fun v w'=>v= .int .i64 e∧zbE g x q mc md rv cv Y lo L {P with dead:=P.dead || decide (e=10)} w'∧LoL lo L w w'):=by
 have hLL:=LoL.refl lo L w
 have hq:=h.row
 obtain⟨hql,hqL⟩:=h.ql
 obtain⟨D,G,fr,ch,di,cl,de⟩:=P
 unfold plV at hq
 dsimp only at hq ⊢
 refine zax (fn:=Tryz.f117) (rs:=[.tmp 4]) (n:=17) Tryz.func117 rfl rfl Tryz.ntmps117 aa rfl (zah (zaa (zad (zac) (zae (zaf (zah (zaa (zad (zab) (zad (zab) (zad (zak rfl) (zad (zaw 7) (zad (zau hq) (zad (zab) (zec 10 rfl (fun hd=>?_) (fun hd=>?_)))))))))))))))
 ·
  refine zaM rfl rfl (zaM rfl rfl ?_)
  subst hd
  refine zad (zaC rfl) (zad (zak rfl) (zad (zaw 7) (zaK rfl (zbn hq (fun w901 hq ho901=>?_)))))
  replace hLL:=hLL.oq ho901
  have hP:=h.setRow hq ho901
  refine dJ ?_
  exact⟨rfl,hP,hLL⟩
 ·
  have hf:de=false:=by cases de with|false=>rfl|true=>cases hd
  subst hf
  refine zaq rfl (zad (zab) (zaq rfl (zad (za5 rfl rfl) (zad (zaE rfl) (zad (zak rfl) (zad (zaw 7) (zaK rfl (zbn hq (fun w902 hq ho902=>?_)))))))))
  replace hLL:=hLL.oq ho902
  have hP:=h.setRow hq ho902
  refine dJ ?_
  exact⟨rfl,hP,hLL⟩
set_option maxRecDepth 20000 in
theorem forgetN(h:zbE g x q mc md cv cv Y lo L P w)(hcv:cv= .slice none 0 0)(h0:P.cl.length=0)(n:Int):Calls Tryz.prog 123 [.pointer (some ⟨q,0,none⟩), .int .i64 n].toArray w (Ret fun v w'=>v= .tuple #[]∧(∃ cv',zbE g x q mc md cv' cv' Y lo L {P with cl:=without P.cl n} w')∧LoL lo L w w'):=by
 have hLL:=LoL.refl lo L w
 have hq:=h.row
 obtain⟨hql,hqL⟩:=h.ql
 unfold plV at hq
 subst hcv
 have hcl:P.cl=[]:=List.eq_nil_of_length_eq_zero h0
 have hwo:without P.cl n=P.cl:=by rw[hcl];rfl
 rw[hwo]
 refine zax (fn:=Tryz.f123) (rs:=[]) (n:=13) Tryz.func123 rfl rfl Tryz.ntmps123 aa rfl (zah (zaa (zaD rfl (za4 ([_]) rfl (fun g3 w3 hg3 hr3 hb3=>?_)))))
 replace h:=h.newc hb3 hg3 hr3.lt
 replace hLL:=hLL.new hb3
 replace hq:=hq.new hb3
 refine zae (zaf (zaa (zad (zab) (zad (zab) (zad (zak rfl) (zad (zaw 6) (zad (zau hq) (zad (zbm) (zao rfl (zaj aa rfl) (deleteN _ n w3 hr3) ?_)))))))))
 rintro _ w10 ⟨rfl,hb10⟩
 replace h:=h.new hb10
 replace hLL:=hLL.new hb10
 replace hq:=hq.new hb10
 refine zad (zak rfl) (zad (zaw 6) (zaK rfl (zbn hq (fun w901 hq ho901=>?_))))
 replace hLL:=hLL.oq ho901
 have hP:=h.setRow hq ho901
 refine cK ?_
 exact⟨rfl,⟨_,hP.weak (fun b hb=>List.mem_cons_of_mem _ hb)⟩,hLL⟩
set_option maxRecDepth 20000 in
theorem forgetO{gc o c:Nat}(h:zbE g x q mc md cv cv Y lo L P w)(hcv:cv= .slice (some ⟨gc,o,none⟩) P.cl.length c)(hR:zcu P.cl)(n:Int):Calls Tryz.prog 123 [.pointer (some ⟨q,0,none⟩), .int .i64 n].toArray w (Ret fun v w'=>v= .tuple #[]∧(∃ cv',zbE g x q mc md cv' cv' Y lo L {P with cl:=without P.cl n} w')∧LoL lo L w w'):=by
 have hLL:=LoL.refl lo L w
 have hq:=h.row
 obtain⟨hql,hqL⟩:=h.ql
 unfold plV at hq
 subst hcv
 have hgl:gc<w.heap.size:=zeg.lt h.own
 have hcq:=h.cq gc (List.mem_cons_self ..)
 have hgL:∀ b∈[gc],(lo≤b∧b∉L)∨w.heap.size≤b:=fun b hb=>.inl (by rw[List.mem_singleton.1 hb];exact⟨hcq.2.2.2.1,hcq.2.2.2.2⟩)
 have hqg:q≠gc:=Ne.symm hcq.1
 refine zax (fn:=Tryz.f123) (rs:=[]) (n:=13) Tryz.func123 rfl rfl Tryz.ntmps123 aa rfl (zah (zaa (zaD rfl (za4 ([_]) rfl (fun g3 w3 hg3 hr3 hb3=>?_)))))
 replace h:=h.newc hb3 hg3 hr3.lt
 replace hLL:=hLL.new hb3
 replace hq:=hq.new hb3
 refine zae (zaf (zaa (zad (zab) (zad (zab) (zad (zak rfl) (zad (zaw 6) (zad (zau hq) (zad (zbm) (zao rfl (zaj aa rfl) (deleteB P.cl hR gc o P.cl.length c 0 rfl _ n w3 h.own hr3 ae) ?_)))))))))
 rintro _ w10 ⟨rfl,hown,hb10⟩
 replace h:=h.zms hown hb10.k (fun b e=>Or.inl e)
 replace hLL:=hLL.kpd hb10.k hgL
 replace hq:=hq.kpd hb10.k bD
 refine zad (zak rfl) (zad (zaw 6) (zaK rfl (zbn hq (fun w901 hq ho901=>?_))))
 replace hLL:=hLL.oq ho901
 have hP:=h.setRow hq ho901
 refine cK ?_
 exact⟨rfl,⟨_,hP.weak (fun b hb=>List.mem_cons_of_mem _ hb)⟩,hLL⟩
theorem forgetP(h:zbE g x q mc md cv cv Y lo L P w)(hR:zcu P.cl)(n:Int):Calls Tryz.prog 123 [.pointer (some ⟨q,0,none⟩), .int .i64 n].toArray w (Ret fun v w'=>v= .tuple #[]∧(∃ cv',zbE g x q mc md cv' cv' Y lo L {P with cl:=without P.cl n} w')∧LoL lo L w w'):=by
 rcases h.own.2 with⟨hcv,h0⟩|⟨gc,o,c,cur,hcv,_⟩
 ·exact forgetN h hcv h0 n
 ·exact forgetO h hcv hR n
end
end Go.Proofs.YtdbogkndglbffaaGreat
namespace Coup
open Go Go.RowKit Go.Maps
open Go.WideElems (Fit rd rg pl rd_val elemAt)
section
variable {P:Program}{ρ:Env}{w:World}{d:Option Nat}{ty:TypeId}{pos:String}{af:Array Edge}{gd:Option (Nat × Bool)}{K:Value→World→Prop}
theorem zoU{t k e:TypeId}{x:Operand}{m N:Nat}{f:Nat→Option Value}(ht:P.underlying t=some (.map k e))(hm:MapAt P k w m N f)(hx:ev ρ x= .map (some m)):
  (execOp (ev ρ) ⟨d, .call ⟨.builtin .len,#[x],#[t]⟩,ty,pos,af,gd⟩).run P w= .ok (.value (.int .i64 ((kvL f 0 N).length:Int))) w:=by
 obtain⟨es,clock,hb,F,hs,hD⟩:=hm
 have h1:=Go.MapKept.run_getObj_map (P:=P) hb
 have he:(kvL f 0 N).length=es.size:=by
  have h2:kvL f 0 N=(es.toList.map (rg P k RH)).foldr DataW.insert []:=by injection hD
  rw[h2,length_read]
 rw[he]
 simp[execOp,resolve,invoke,builtin,Builtin.len_,hx,run_underlying ht,h1,goInt,Result.andThen]
theorem zc9 {t k e:TypeId} {x y:Operand} {m N:Nat} {f:Nat→Option Value} {a:Int} (z:Value) (o:Option Value) (ht:P.underlying t=some (.map k e)) (hk:P.underlying k=some (.int .i64)) (hz:∀ w,(zeroValue e).run P w= .ok z w)
  (hm:MapAt P k w m N f) (hx:ev ρ x= .map (some m)) (hy:ev ρ y= .int .i64 a) (i:Nat) (ha:a=(i:Int)) (hi:i<N) (hN:N≤1000000) (hf:f i=o):
  (execOp (ev ρ) ⟨d, .lookup t x y true,ty,pos,af,gd⟩).run P w= .ok (.value (.tuple #[o.getD z, .bool o.isSome])) w:=by
 subst ha
 subst hf
 obtain⟨es,clock,hb,F,hs,hD⟩:=hm
 have hkey:=keyOf_int_mk hk (zme (i:=i) ae)
 have hat:∀ zd:DataW Value,DataW.atKey (.map (kvL f 0 N)) (.int .i64 (i:Int)) zd=((f i).map DataW.held).getD zd:=fun zd=>by
  unfold DataW.atKey
  simp only[zgX N 0 (Nat.zero_le _) (by omega:i<0+N)]
  cases f i<;>rfl
 rw[hD]at hat
 rcases Maps.fit_look true (int_keyed hk) ht (hz w) hb F hkey with⟨hrun,_,hat2⟩|⟨e0,y,_,_,hrun,hRv,hat2,_⟩
 ·have hn:f i=none:=by
   cases hfi:f i with
   |none=>rfl
   |some v=>
    have h1:=(hat (.held (.bool true))).symm.trans (hat2 (.held (.bool true)))
    have h2:=(hat (.held (.bool false))).symm.trans (hat2 (.held (.bool false)))
    rw[hfi]at h1 h2
    have h3:DataW.held (H:=Value) (.bool true)= .held (.bool false):=h1.symm.trans h2
    injection h3 with h3
    injection h3 with h3
    cases h3
  rw[hn]
  simp[execOp,hx,hy,hrun,Result.andThen]
 ·have hn:f i=some e0.val:=by
   have hy1:y=(.held e0.val,[]):=by
    have h1:some (DataW.held e0.val,([]:List MemPlace))=some y:=hRv
    injection h1 with h1
    exact h1.symm
   have h1:=fun zd=>(hat zd).symm.trans (hat2 zd)
   rw[hy1]at h1
   cases hfi:f i with
   |none=>
    rw[hfi]at h1
    have h2:DataW.held (H:=Value) (.bool true)= .held (.bool false):=(h1 (.held (.bool true))).trans (h1 (.held (.bool false))).symm
    injection h2 with h2
    injection h2 with h2
    cases h2
   |some v=>
    rw[hfi]at h1
    have h2:DataW.held (H:=Value) v= .held e0.val:=h1 (.held v)
    injection h2 with h2
    rw[h2]
  rw[hn]
  simp[execOp,hx,hy,hrun,Result.andThen]
theorem zoV {t i0 i1 i2 i3 i4 i5:Nat} {x0 x1 x2 x3 x4 x5:Operand} (v0 v1 v2 v3 v4 v5:Value) (cs:List Value) (h0:ev ρ x0=v0) (h1:ev ρ x1=v1) (h2:ev ρ x2=v2) (h3:ev ρ x3=v3) (h4:ev ρ x4=v4) (h5:ev ρ x5=v5)
  (hb:P.built t [(i0,v0),(i1,v1),(i2,v2),(i3,v3),(i4,v4),(i5,v5)]=some cs.toArray):
  (execOp (ev ρ) ⟨d, .build t #[(i0,x0),(i1,x1),(i2,x2),(i3,x3),(i4,x4),(i5,x5)],ty,pos,af,gd⟩).run P w= .ok (.value (.agg cs.toArray)) w:=by
 have:=run_build (P:=P) w t #[(i0,v0),(i1,v1),(i2,v2),(i3,v3),(i4,v4),(i5,v5)] cs.toArray bn
 simp only[execOp,List.map_toArray,List.map_cons,List.map_nil,h0,h1,h2,h3,h4,h5,Sem.run_bind,this,Result.andThen_ok]
 rfl
end
end Coup
namespace Go.Proofs.YtdbogkndglbffaaGreat
open Go Go.RowKit Coup
def zjs(c:PgM)(n:Nat):List Int:=keysOf (zdG c) 0 n
def numsP(R:Rec):List Int:=R.map (·.num)
theorem zoW(n:Nat)(s:Int):4*zgJ n s≤n:=by
 unfold zgJ
 split<;>omega
def NewI(w:World)(l:List Int)(v:Value)(w':World):Prop:=∃ p c,v= .slice p l.length c∧zaS w' p l.length 1 (iv l)∧∀ b o,p=some ⟨b,o,none⟩→w.heap.size≤b
section
variable {Y:World→List Nat→Prop}[Thing Y]{g x q mc md lo:Nat}{rv cv:Value}{L:List Nat}{P:Pl}{w:World}
omit [Thing Y] in
theorem zbE.nle(h:zbE g x q mc md rv cv Y lo L P w):P.n≤2048∧P.D.V.length≤8192:=by
 have h1:=(tOk h.lg.fst).1.n
 have h2:=zoW P.D.V.length P.G.size
 unfold Pl.n
 exact⟨ae,h1⟩
set_option maxRecDepth 20000 in
theorem dirtyP(h:zbE g x q mc md rv cv Y lo L P w):Calls Tryz.prog 153 [.pointer (some ⟨q,0,none⟩)].toArray w (Ret fun v w'=>NewI w (zjs P.di P.n) v w'∧Below w.heap.size w w'):=by
 have hB:=Below.refl w.heap.size w
 have hN:=h.nle.1
 have hq:=h.row
 unfold plV at hq
 refine zax (fn:=Tryz.f153) (rs:=[.tmp 2]) (n:=10) Tryz.func153 rfl rfl Tryz.ntmps153 aa rfl (zah (zaa (zad (zac) (zae (zaf (zah (zah (zaa (zad (zab) (zad (zcY aa rfl rfl) (zae (zaf (zjG rfl (rfl) (zat (zaf (zah (zaa (zad (zab) (zad (zak rfl) (zad (zaw 5) (zad (zau hq) (zao rfl (zaj aa rfl) (keysF w h.mdi ae) ?_))))))))))))))))))))))
 rintro _ w9 ⟨⟨p,c,rfl,hsl,hpb⟩,hb9⟩
 replace h:=h.new hb9
 replace hq:=hq.new hb9
 replace hB:=hB.acc hb9
 refine cB ?_
 exact⟨⟨p,c,rfl,hsl,hpb⟩,hB⟩
set_option maxRecDepth 20000 in
omit [Thing Y] in
theorem deadP(h:zbE g x q mc md rv cv Y lo L P w):Calls Tryz.prog 91 [.pointer (some ⟨q,0,none⟩)].toArray w (Ret fun v w'=>v= .bool P.dead∧w=w'):=by
 have hq:=h.row
 unfold plV at hq
 refine zax (fn:=Tryz.f91) (rs:=[.tmp 2]) (n:=11) Tryz.func91 rfl rfl Tryz.ntmps91 aa rfl (zah (zaa (zad (zac) (zae (zaf (zah (zaa (zad (zab) (zad (zp8 aa rfl rfl) (zad (zab) (WR_tb 5 rfl (rfl) (zaq rfl (zad (zab) (zaq rfl (zad (zak rfl) (zaq rfl (zad (zaw 7) (zaq rfl (zad (zau hq) (zad (zaC rfl) (zad (zac) (zae (zaf (zaF (zan [_] ⟨rfl,trivial⟩ ?_)))))))))))))))))))))))))
 exact⟨rfl,rfl⟩
omit [Thing Y] in
theorem zbE.cvIs(h:zbE g x q mc md rv cv Y lo L P w):∃ p c,cv= .slice p P.cl.length c∧zaS w p P.cl.length 513 (zcj P.cl):=by
 have ho:=h.own
 rcases h.own.2 with⟨rfl,h0⟩|⟨gc,o,c,cur,hcv,_⟩
 ·rw[h0]at ho ⊢;exact⟨none,0,rfl,ho.sl⟩
 ·subst hcv;exact⟨_,c,rfl,ho.sl⟩
end
def frameC(fr:Nat)(R:Rec)(n:Int)(X:Pg):Rec:=if fr<(without R n++([⟨n,X⟩]:Rec)).length then(without R n++([⟨n,X⟩]:Rec)).drop 1 else without R n++[⟨n,X⟩]
theorem zgw{R:Rec}(h:zcu R)(n:Int):zcu (without R n):=fun c hc=>h c (List.mem_filter.1 hc).1
theorem zfA(R:Rec)(n:Int):(without R n).length≤R.length:=List.length_filter_le _ _
theorem zoX{R:Rec}(h:zcu R){n:Int}{X:Pg}(hX:X.length=512):zcu (R++[⟨n,X⟩]):=fun c hc=>by
 rcases List.mem_append.1 hc with hc|hc
 ·exact h c hc
 ·rw[List.mem_singleton.1 hc];exact hX
theorem zoY{fr:Nat}{R:Rec}(h:zcu R)(hl:R.length≤fr)(n:Int){X:Pg}(hX:X.length=512):zcu (frameC fr R n X)∧(frameC fr R n X).length≤fr:=by
 have h1:=zoX (zgw h n) (n:=n) hX
 have h2:=zfA R n
 unfold frameC
 split
 ·exact⟨fun c hc=>h1 c (List.mem_of_mem_drop hc),by rw[List.length_drop,List.length_append,List.length_singleton];omega⟩
 ·exact⟨h1,ae⟩
section
variable {Y:World→List Nat→Prop}[Thing Y]{g x q mc md lo:Nat}{rv cv:Value}{L:List Nat}{P:Pl}{w:World}
omit [Thing Y] in
theorem zbE.zqx(h:zbE g x q mc md rv cv Y lo L P w)(h0:0<P.cl.length):∃ gc o c,cv= .slice (some ⟨gc,o,none⟩) P.cl.length c∧zeg w 0 147 513 gc o P.cl.length c (zcj P.cl):=by
 have ho:=h.own
 rcases h.own.2 with⟨_,h1⟩|⟨gc,o,c,cur,hcv,_⟩
 ·omega
 ·subst hcv;exact⟨gc,o,c,rfl,ho⟩
theorem zqy(R:Rec)(hR:zcu R)(g o c:Nat)(h2:2≤R.length)(w:World)(h:zeg w 0 147 513 g o R.length c (zcj R)):
 Calls Tryz.prog 148 [.slice (some ⟨g,o,none⟩) R.length c, .int .i64 0, .int .i64 1].toArray w (Ret fun v w'=>v= .slice (some ⟨g,o,none⟩) (R.drop 1).length c∧zeg w' 0 147 513 g o (R.drop 1).length c (zcj (R.drop 1))∧KpB [g] w w'):=deleteF R hR g o R.length c 0 rfl h2 w h
set_option maxRecDepth 20000 in
set_option maxHeartbeats 1000000 in
theorem frameP(h:zbE g x q mc md cv cv Y lo L P w)(hR:zcu P.cl)(hl:P.cl.length≤P.fr)(hf2:2≤P.fr)(hfm:P.fr≤100)(n:Int)(X:Pg)(hX:X.length=512):
   Calls Tryz.prog 114 [.pointer (some ⟨q,0,none⟩), .int .i64 n, .agg (bv X).toArray].toArray w (Ret fun v w'=>v= .tuple #[]∧(∃ cv',zbE g x q mc md cv' cv' Y lo L {P with cl:=frameC P.fr P.cl n X} w')∧LoL lo L w w'):=by
 have hLL:=LoL.refl lo L w
 have hml:maxLen=9223372036854775807:=by decide
 obtain⟨hql,hqL⟩:=h.ql
 have hXb:(bv X).length=512:=by rw[zal];exact hX
 have hchl:(chV ⟨n,X⟩).length=1*513:=zeK hX
 have hch1:=zfx ⟨n,X⟩
 have hRw:=zgw hR n
 have hwl:=zfA P.cl n
 have hfg:=fun L' w' (h':zbE g x q mc md cv cv Y lo L' P w')=>forgetP h' hR n
 unfold frameC
 obtain⟨T,hT⟩:∃ T,without P.cl n=T:=⟨_,rfl⟩
 simp only[hT]at hfg hRw hwl ⊢
 have hRs:=zoX hRw (n:=n) hX
 have hTl:(T++[(⟨n,X⟩:Ch)]).length=T.length+1:=by rw[List.length_append,List.length_singleton]
 have hTp:0<(T++[(⟨n,X⟩:Ch)]).length:=by omega
 refine zax (fn:=Tryz.f114) (rs:=[]) (n:=39) Tryz.func114 rfl rfl Tryz.ntmps114 aa rfl (zah (zaa (zaD rfl (za4 (bv X) rfl (fun g5 w5 hg5 hr5 hb5=>?_)))))
 replace h:=h.newc hb5 hg5 hr5.lt
 replace hLL:=hLL.new hb5
 refine zae (zaf (zah (zaa (zad (zab) (zad (zab) (zao rfl (zaj aa rfl) (hfg _ w5 h) ?_))))))
 rintro _ w8 ⟨rfl,⟨cv2,h⟩,hb8⟩
 replace hLL:=hLL.lq hb8
 replace hr5:=hr5.kl hb8
 refine zae (zaf (zgQ (fun _:Unit=>[(0, .pointer (some ⟨q,0,none⟩))]) (fun _ w'=>(∃ cv3,zbE g x q mc md cv3 cv3 Y lo (g5::L) {P with cl:=T++[⟨n,X⟩]} w')∧LoL lo L w w') ?_ ?_))
 ·
  have hq:=h.row
  have hown:=h.own
  unfold plV at hq
  dsimp only at hq hown
  have hg5c:g5∉cv2.ownBlock.toList:=fun hm=>(h.cq g5 hm).2.2.2.2 (List.mem_cons_self ..)
  have hg5q:g5≠q:=fun e=>h.ql.2 (e▸List.mem_cons_self ..)
  refine za3 ((q::cv2.ownBlock.toList)) aa ?_
  intro w901 hb901 hS901
  replace h:=h.new hb901
  replace hLL:=hLL.new hb901
  replace hr5:=hr5.new hb901
  replace hq:=hq.new hb901
  replace hown:=hown.new hb901
  have hr5_d901:=hr5
  refine zas 0 (zab) (zas 1 (zab) (zas 2 (zak rfl) (zas 3 (zaw 6) (zas 5 (zab) (zbo 6 (fun w' hS'=>za7 512 (hr5_d901.kq hS')) (zas 7 (ziy hX rfl rfl rfl) (zcA 4 8 aa ?_ ?_)))))))
  ·
   refine zfP rfl rfl (zau hq) hS901 (zaA 8 aa (zby rfl rfl (zdd (e:=147) (.agg (chV ⟨n,X⟩).toArray) (chV ⟨n,X⟩) (([Value.int .i64 0])++(List.replicate 512 (Value.int .u8 0))) 513 aa aa rfl rfl aF ⟨aD,aD⟩ (fun g17 w17 hg17 hr17 hb17=>?_))))
   have hS903:=hS901.add0 hb17
   refine⟨hS903,?_⟩
   replace h:=h.newc hb17 hg17 hr17.lt
   replace hLL:=hLL.new hb17
   replace hq:=hq.new hb17
   replace hown:=hown.new hb17
   refine zaA 9 aa ?_
   have hs17:=hr17.slA (m:=1) (sz:=513) hchl ae
   refine zby rfl rfl (zbf (v:=cv2) (e:=147) (sz:=513) (bytes:=520) (z:=.agg (([Value.int .i64 0])++(List.replicate 512 (Value.int .u8 0))).toArray) aa rfl aa rfl aD rfl hown rfl hs17 hch1 ae ae (fun hm0=>Nat.zero_le _) (fun v18 w18 hv18 hgr18 hfr18=>?_))
   rw[←zhC,←hTl]at hv18
   have hgr:w17.grownBy w18 cv2.ownBlock:=hgr18
   have hfr:∀ g,v18.ownBlock=some g→cv2.ownBlock=some g∨w17.heap.size≤g:=hfr18
   clear hgr18 hfr18
   have hk18:=(Kp.za6 hgr).weak (N:=q::cv2.ownBlock.toList) (fun _ _ hm=>List.mem_cons_of_mem _ hm)
   have hl18:=h.outC (Kp.za6 hgr)
   have h2:zbE g x q mc md cv2 v18 Y lo (g17::g5::L) {P with cl:=T++[⟨n,X⟩]} w18:=h.zms hv18 (Kp.za6 hgr) hfr
   clear h
   have h:=h2
   clear h2
   have hvi:=h.zqx hTp
   obtain⟨gn,on,cn,hvn,hown2⟩:=hvi
   subst hvn
   replace hLL:=hLL.ll (hl18.weak (L2:=L) (Nat.le_refl _) (fun b hb=>by simp[hb])) (fun b hb=>hb)
   replace hq:=h.row
   unfold plV at hq
   have hS904:=hS903.trans hk18
   refine⟨hS904,?_⟩
   refine zas 10 (zak rfl) (zas 11 (zaw 6) (zaA 12 aa (zbB rfl rfl (zbn hq (fun w906 hq ho906=>?_)))))
   have hS905:=hS904.aq ho906
   refine⟨hS905,?_⟩
   replace hLL:=hLL.oq ho906
   have hP:=h.setRow hq ho906
   refine zaI aa (za2 ⟨(),⟨rfl,rfl⟩,⟨_,hP.weak (fun b hb=>List.mem_cons_of_mem _ hb)⟩,hLL⟩)
  ·
   refine zby rfl rfl (zdd (e:=147) (.agg (chV ⟨n,X⟩).toArray) (chV ⟨n,X⟩) (([Value.int .i64 0])++(List.replicate 512 (Value.int .u8 0))) 513 aa aa rfl rfl aF ⟨aD,aD⟩ (fun g17 w17 hg17 hr17 hb17=>?_))
   have hS907:=hS901.add0 hb17
   refine⟨hS907,?_⟩
   replace h:=h.newc hb17 hg17 hr17.lt
   replace hLL:=hLL.new hb17
   replace hq:=hq.new hb17
   replace hown:=hown.new hb17
   refine zaA 4 aa (zfP rfl rfl (zau hq) hS907 (zaA 9 aa ?_))
   have hs17:=hr17.slA (m:=1) (sz:=513) hchl ae
   refine zby rfl rfl (zbf (v:=cv2) (e:=147) (sz:=513) (bytes:=520) (z:=.agg (([Value.int .i64 0])++(List.replicate 512 (Value.int .u8 0))).toArray) aa rfl aa rfl aD rfl hown rfl hs17 hch1 ae ae (fun hm0=>Nat.zero_le _) (fun v18 w18 hv18 hgr18 hfr18=>?_))
   rw[←zhC,←hTl]at hv18
   have hgr:w17.grownBy w18 cv2.ownBlock:=hgr18
   have hfr:∀ g,v18.ownBlock=some g→cv2.ownBlock=some g∨w17.heap.size≤g:=hfr18
   clear hgr18 hfr18
   have hk18:=(Kp.za6 hgr).weak (N:=q::cv2.ownBlock.toList) (fun _ _ hm=>List.mem_cons_of_mem _ hm)
   have hl18:=h.outC (Kp.za6 hgr)
   have h2:zbE g x q mc md cv2 v18 Y lo (g17::g5::L) {P with cl:=T++[⟨n,X⟩]} w18:=h.zms hv18 (Kp.za6 hgr) hfr
   clear h
   have h:=h2
   clear h2
   have hvi:=h.zqx hTp
   obtain⟨gn,on,cn,hvn,hown2⟩:=hvi
   subst hvn
   replace hLL:=hLL.ll (hl18.weak (L2:=L) (Nat.le_refl _) (fun b hb=>by simp[hb])) (fun b hb=>hb)
   replace hq:=h.row
   unfold plV at hq
   have hS909:=hS907.trans hk18
   refine⟨hS909,?_⟩
   refine zas 10 (zak rfl) (zas 11 (zaw 6) (zaA 12 aa (zbB rfl rfl (zbn hq (fun w911 hq ho911=>?_)))))
   have hS910:=hS909.aq ho911
   refine⟨hS910,?_⟩
   replace hLL:=hLL.oq ho911
   have hP:=h.setRow hq ho911
   refine zaI aa (za2 ⟨(),⟨rfl,rfl⟩,⟨_,hP.weak (fun b hb=>List.mem_cons_of_mem _ hb)⟩,hLL⟩)
 ·
  clear h hLL
  rintro _ f2 w2 ⟨⟨cv3,h⟩,hLL⟩
  have hq:=h.row
  unfold plV at hq
  dsimp only at hq
  have hobt:=h.zqx (by dsimp only;omega)
  obtain⟨gc,o,c,hcv,hown⟩:=hobt
  subst hcv
  dsimp only at hown
  have hcq:=h.cq gc (List.mem_cons_self ..)
  have hgL:∀ b∈[gc],(lo≤b∧b∉L)∨w.heap.size≤b:=fun b hb=>.inl (by rw[List.mem_singleton.1 hb];exact⟨hcq.2.2.2.1,fun hm=>hcq.2.2.2.2 (List.mem_cons_of_mem _ hm)⟩)
  have hqg:q≠gc:=Ne.symm hcq.1
  refine zah (za3 [] aa ?_)
  intro w912 hb912 hS912
  replace h:=h.new hb912
  replace hLL:=hLL.new hb912
  replace hq:=hq.new hb912
  have hq_d912:=hq
  refine zas 0 (zab) (zas 1 (zak rfl) (zas 2 (zaw 6) (zbo 3 (fun w' hS'=>zau (hq_d912.kq hS')) (zas 4 (zaB (e:=147) (sz:=513) aa rfl rfl) (zas 5 (zab) (zas 6 (zak rfl) (zas 7 (zaw 3) (zbo 8 (fun w' hS'=>zau (hq_d912.kq hS')) (zas 9 (zbA rfl rfl) (zaI aa (zaf (za0 rfl (fun hgt=>?_) (fun hgt=>?_)))))))))))))
  ·
   have hT2:2≤(T++[(⟨n,X⟩:Ch)]).length:=by rw[hTl];dsimp only at hgt;omega
   have hT3:P.fr<(T++[(⟨n,X⟩:Ch)]).length:=by rw[hTl];dsimp only at hgt;omega
   rw[if_pos hT3]
   refine zaa (zad (zab) (zad (zab) (zad (zak rfl) (zad (zaw 6) (zad (zau hq) ?_)))))
   have hown3:zeg w912 0 147 513 gc o (T++[(⟨n,X⟩:Ch)]).length c (zcj (T++[⟨n,X⟩])):=h.own
   refine zao rfl (zaj aa rfl) (zqy _ hRs gc o c hT2 w912 hown3) ?_
   rintro _ w36 ⟨rfl,hown,hb36⟩
   replace h:=h.zms hown hb36.k (fun b e=>Or.inl e)
   replace hLL:=hLL.kpd hb36.k hgL
   replace hq:=hq.kpd hb36.k bD
   refine zad (zak rfl) (zad (zaw 6) (zaK rfl (zbn hq (fun w913 hq ho913=>?_))))
   replace hLL:=hLL.oq ho913
   have hP:=h.setRow hq ho913
   refine cK ?_
   exact⟨rfl,⟨_,hP.weak (fun b hb=>List.mem_cons_of_mem _ hb)⟩,hLL⟩
  ·
   rw[if_neg (by rw[hTl];dsimp only at hgt;omega)]
   refine zat (zbk [] trivial ?_)
   exact⟨rfl,⟨_,h.weak (fun b hb=>List.mem_cons_of_mem _ hb)⟩,hLL⟩
end
def zdo(D:Dk)(a:Nat):Pg:=((List.range 4).map fun i=>za8 D (a+i)).flatten
theorem ziC{D:Dk}{a:Nat}(h:zka D)(hn:a+4≤D.V.length):(zdo D a).length=512∧∀ i,i<4→((zdo D a).drop (128*i)).take 128=za8 D (a+i):=by
 have hs:zdk ((List.range 4).map fun i=>za8 D (a+i)):=fun s hs=>by
  obtain⟨i,hi,rfl⟩:=List.mem_map.1 hs
  exact zf5 h (by have:=List.mem_range.1 hi;omega)
 refine⟨by rw[zdo,zgY hs];simp,fun i hi=>?_⟩
 have:=zon hs (i:=i) (s:=za8 D (a+i)) (by rw[List.getElem?_map,List.getElem?_range hi];rfl)
 rw[Nat.mul_comm 128 i]
 exact this
def zh5(P:Pl)(n:Nat):Pg:=match P.di n with
 |some b=>b
 |none=>match P.cl[zel P.cl n]? with
  |some c=>c.page
  |none=>zdo P.D (1+P.G.size+n*4)
def zgj(P:Pl)(n:Nat):Pl:=match P.di n with
 |some _=>P
 |none=>{P with cl:=frameC P.fr P.cl n (zh5 P n)}
theorem zkG{P:Pl}(hok:zk7 P){n:Nat}(hn:n<P.n):1+P.G.size+n*4+4≤P.D.V.length∧4≤P.G.size∧P.G.size≤4000:=by
 unfold Pl.n zgJ at hn
 split at hn
 ·omega
 ·rw[Int.toNat_natCast]at hn;omega
theorem zmt{P:Pl}(hok:zk7 P)(hD:zka P.D){n:Nat}(hn:n<P.n):(zh5 P n).length=512:=by
 unfold zh5
 split
 ·exact hok.di _ _ ‹_›
 ·split
  ·exact hok.cl _ (List.mem_of_getElem? ‹_›)
  ·exact(ziC hD (zkG hok hn).1).1
theorem ld_pg{w:World}{g o n:Nat}{R:Rec}(h:zaS w (some ⟨g,o,none⟩) n 513 (zcj R))(hR:zcu R){i:Nat}{c:Ch}(hc:R[i]?=some c):Ld Tryz.prog w 62 ⟨g,o+i*513+1,none⟩ (.agg (bv c.page).toArray):=by
 have hi:=(List.getElem?_eq_some_iff.1 hc).1
 have hl:=zcd hR
 have h1:=Ld.slN (P:=Tryz.prog) (t:=62) (j:=i*513+1) (k:=512) h aa aa ae
 have h2:=zoI hR hc
 have hp:=hR c (List.mem_of_getElem? hc)
 have e:((zcj R).drop (i*513+1)).take 512=bv c.page:=by
  have e1:(((zcj R).drop (i*513)).take 513).drop 1=bv c.page:=by rw[h2];rfl
  rw[List.drop_take,List.drop_drop]at e1
  exact e1
 rw[e]at h1
 exact h1
def zP:List Value:=List.replicate 512 (.int .u8 0)
theorem zlC(w:World):(zeroValue 62).run Tryz.prog w= .ok (.agg zP.toArray) w:=by kernel_rfl
def zeM(X:Pg)(i:Nat):Pg:=X.take (128*i)++List.replicate (512 - 128*i) 0
theorem partP_0(X:Pg):bv (zeM X 0)=zP:=by
 rw[zeM,Nat.mul_zero,List.take_zero,List.nil_append,bv,List.map_replicate]
 rfl
theorem partP_4{X:Pg}(h:X.length=512):zeM X 4=X:=by
 rw[zeM,List.take_of_length_le ae,show 512 - 128*4=0 from rfl,List.replicate_zero,List.append_nil]
theorem zoZ{X:Pg}(h:X.length=512){i:Nat}(hi:i≤4):(zeM X i).length=512:=by
 rw[zeM,List.length_append,List.length_take,List.length_replicate];omega
theorem znn{X S:Pg}(h:X.length=512){i:Nat}(hi:i<4)(hS:(X.drop (128*i)).take 128=S):splice (bv (zeM X i)) (128*i) (bv S)=bv (zeM X (i+1)):=by
 have hl:(X.take (128*i)).length=128*i:=by rw[List.length_take];omega
 have hSl:S.length=128:=by rw[←hS,List.length_take,List.length_drop];omega
 have e:splice (bv (zeM X i)) (128*i) (bv S)=bv ((zeM X i).take (128*i)++S++(zeM X i).drop (128*i+128)):=by
  simp only[splice,bv,List.map_append,List.map_take,List.map_drop,List.length_map,hSl,List.append_assoc]
 have e2:(X.take (128*i)++List.replicate (512 - 128*i) (0:UInt8)).drop (128*i+128)=List.replicate (512 - (128*i+128)) 0:=by
  rw[List.drop_append,hl,List.drop_of_length_le (by rw[hl];omega),List.nil_append,List.drop_replicate,show 512 - 128*i - (128*i+128 - 128*i)=512 - (128*i+128) by omega]
 rw[e,zeM,List.take_left' hl,e2,zeM,show 128*(i+1)=128*i+128 by omega,List.take_add,hS]
section
variable {Y:World→List Nat→Prop}[Thing Y]{g x q mc md lo:Nat}{rv cv:Value}{L:List Nat}{P:Pl}{w:World}
set_option maxRecDepth 20000 in
theorem zno(h:zbE g x q mc md cv cv Y lo L P w)(hok:zk7 P)(n:Nat)(hn:n<P.n){b:Pg}(hb:P.di n=some b):
  Calls Tryz.prog 67 [.pointer (some ⟨q,0,none⟩), .int .i64 (n:Int)].toArray w (Ret fun v w'=>v= .tuple #[.agg (bv b).toArray, .int .i64 0]∧(∃ cv',zbE g x q mc md cv' cv' Y lo L P w')∧LoL lo L w w'):=by
 have hLL:=LoL.refl lo L w
 have hnl:=h.nle.1
 have hbl:(bv b).length=512:=by rw[zal];exact hok.di n b hb
 have hmv:zdG P.di n=some (.agg (bv b).toArray):=by unfold zdG;rw[hb];rfl
 have hq:=h.row
 unfold plV at hq
 have hd:=h.mdi
 have hz:zP.length=512:=List.length_replicate
 have hz1:∀ v∈zP,Value.oneCell' v=true:=fun v hv=>by rw[(List.mem_replicate.1 hv).2];rfl
 refine zax (fn:=Tryz.f67) (rs:=[.cell 4 62, .tmp 5]) (n:=80) Tryz.func67 rfl rfl Tryz.ntmps67 aa rfl (zah (zaa (zaD rfl (za4 ([_]) rfl (fun g3 w3 hg3 hr3 hb3=>?_)))))
 have sz_g3:=hLL.size
 have lt_q_g3:q<g3:=Nat.lt_of_lt_of_le hq.lt hg3
 have lt_md_g3:md<g3:=Nat.lt_of_lt_of_le hd.lt hg3
 replace h:=h.newc hb3 hg3 hr3.lt
 replace hLL:=hLL.new hb3
 replace hq:=hq.new hb3
 replace hd:=hd.new hb3
 refine zaD rfl (zar (List.replicate 512 (Value.int .u8 0)) aa (fun g4 w4 hg4 hr4 hb4=>?_))
 have lt_q_g4:q<g4:=Nat.lt_of_lt_of_le hq.lt hg4
 have lt_md_g4:md<g4:=Nat.lt_of_lt_of_le hd.lt hg4
 have lt_g3_g4:g3<g4:=Nat.lt_of_lt_of_le hr3.lt hg4
 replace h:=h.newc hb4 hg4 hr4.lt
 replace hLL:=hLL.new hb4
 replace hq:=hq.new hb4
 replace hd:=hd.new hb4
 replace hr3:=hr3.new hb4
 refine zad (zac) (zae (zaf (zah (zah (za3 [] aa ?_)))))
 intro w901 hb901 hS901
 replace h:=h.new hb901
 replace hLL:=hLL.new hb901
 replace hq:=hq.new hb901
 replace hd:=hd.new hb901
 replace hr3:=hr3.new hb901
 replace hr4:=hr4.new hb901
 have h_d901:=h
 have hLL_d901:=hLL
 have hq_d901:=hq
 have hd_d901:=hd
 have hr3_d901:=hr3
 have hr4_d901:=hr4
 refine zas 0 (zab) (zas 1 (zak rfl) (zas 2 (zaw 5) (zbo 3 (fun w' hS'=>zau (hq_d901.kq hS')) (zbo 4 (fun w' hS'=>zau (hr3_d901.kq hS')) (zbo 5 (fun w' hS'=>zc9 (k:=3) (e:=62) (.agg zP.toArray) (some (.agg (bv b).toArray)) aa aa zlC (hd_d901.kpd hS' ah) rfl rfl n rfl hn ae hmv) (zas 6 (zab) (zas 7 (zai rfl rfl) (zas 8 (zai rfl rfl) (zaA 9 aa (zby rfl rfl (zar (List.replicate 512 (Value.int .u8 0)) aa (fun g6 w6 hg6 hr6 hb6=>?_))))))))))))
 have hS902:=hS901.add0 hb6
 refine⟨hS902,?_⟩
 have ge_hS901_g6:=Nat.le_trans hS901.size hg6
 have lt_q_g6:q<g6:=Nat.lt_of_lt_of_le hq.lt hg6
 have lt_md_g6:md<g6:=Nat.lt_of_lt_of_le hd.lt hg6
 have lt_g3_g6:g3<g6:=Nat.lt_of_lt_of_le hr3.lt hg6
 have lt_g4_g6:g4<g6:=Nat.lt_of_lt_of_le hr4.lt hg6
 replace h:=h.newc hb6 hg6 hr6.lt
 replace hLL:=hLL.new hb6
 replace hq:=hq.new hb6
 replace hd:=hd.new hb6
 replace hr3:=hr3.new hb6
 replace hr4:=hr4.new hb6
 refine zaA 10 aa (zbB rfl rfl (zaQ 512 (bv b) hr6 (fun w904 hr6 ho904=>?_)))
 have hS903:=hS902.aq ho904
 refine⟨hS903,?_⟩
 replace h:=h.only ho904 ai
 replace hLL:=hLL.oq ho904
 replace hq:=hq.only ho904 (Nat.ne_of_lt lt_q_g6)
 replace hd:=hd.only ho904 (Nat.ne_of_lt lt_md_g6)
 replace hr3:=hr3.only ho904 (Nat.ne_of_lt lt_g3_g6)
 replace hr4:=hr4.only ho904 (Nat.ne_of_lt lt_g4_g6)
 refine zas 11 (zac) (zaI aa (zaf (zah (zaa (zad (zab) (zae (zaf (zjU rfl (rfl) (zah (zaa (zad (za7 512 hr6) (zaK rfl (zaQ 512 (bv b) hr4 (fun w905 hr4 ho905=>?_))))))))))))))
 replace h:=h.only ho905 ai
 replace hLL:=hLL.oq ho905
 replace hq:=hq.only ho905 (Nat.ne_of_lt lt_q_g4)
 replace hd:=hd.only ho905 (Nat.ne_of_lt lt_md_g4)
 replace hr3:=hr3.only ho905 (Nat.ne_of_lt lt_g3_g4)
 replace hr6:=hr6.only ho905 (Nat.ne_of_gt lt_g4_g6)
 refine dK ?_
 exact⟨rfl,⟨_,h.weak (fun b hb=>by simp[hb])⟩,hLL⟩
set_option maxRecDepth 20000 in
theorem znp(h:zbE g x q mc md cv cv Y lo L P w)(hok:zk7 P)(n:Nat)(hn:n<P.n)(hb:P.di n=none){c:Ch}(hc:P.cl[zel P.cl n]?=some c):
  Calls Tryz.prog 67 [.pointer (some ⟨q,0,none⟩), .int .i64 (n:Int)].toArray w (Ret fun v w'=>v= .tuple #[.agg (bv c.page).toArray, .int .i64 0]∧(∃ cv',zbE g x q mc md cv' cv' Y lo L {P with cl:=frameC P.fr P.cl n c.page} w')∧LoL lo L w w'):=by
 have hLL:=LoL.refl lo L w
 have hnl:=h.nle.1
 have hil:=(List.getElem?_eq_some_iff.1 hc).1
 have hcl:=hok.cl c (List.mem_of_getElem? hc)
 have hbl:(bv c.page).length=512:=by rw[zal];exact hcl
 have hmv:zdG P.di n=none:=by unfold zdG;rw[hb];rfl
 have hq:=h.row
 unfold plV at hq
 have hd:=h.mdi
 have hz:zP.length=512:=List.length_replicate
 have hz1:∀ v∈zP,Value.oneCell' v=true:=fun v hv=>by rw[(List.mem_replicate.1 hv).2];rfl
 have hix:=fun p cc w' (h:zaS w' p P.cl.length 513 (zcj P.cl)) b (hb:row w' b [.int .i64 (n:Int)] 3)=>indexA P.cl hok.cl p cc P.cl.length rfl b n w' h hb
 simp only[if_pos hil]at hix
 obtain⟨gc,oc,cc,hcv,hown0⟩:=h.zqx ae
 subst hcv
 refine zax (fn:=Tryz.f67) (rs:=[.cell 4 62, .tmp 5]) (n:=80) Tryz.func67 rfl rfl Tryz.ntmps67 aa rfl (zah (zaa (zaD rfl (za4 ([_]) rfl (fun g3 w3 hg3 hr3 hb3=>?_)))))
 replace h:=h.newc hb3 hg3 hr3.lt
 replace hLL:=hLL.new hb3
 replace hq:=hq.new hb3
 replace hd:=hd.new hb3
 refine zaD rfl (zar (List.replicate 512 (Value.int .u8 0)) aa (fun g4 w4 hg4 hr4 hb4=>?_))
 have lt_g3_g4:g3<g4:=Nat.lt_of_lt_of_le hr3.lt hg4
 replace h:=h.newc hb4 hg4 hr4.lt
 replace hLL:=hLL.new hb4
 replace hq:=hq.new hb4
 replace hd:=hd.new hb4
 replace hr3:=hr3.new hb4
 refine zad (zac) (zae (zaf (zah (zah (za3 [] aa ?_)))))
 intro w901 hb901 hS901
 replace h:=h.new hb901
 replace hLL:=hLL.new hb901
 replace hq:=hq.new hb901
 replace hd:=hd.new hb901
 replace hr3:=hr3.new hb901
 replace hr4:=hr4.new hb901
 have hq_d901:=hq
 have hd_d901:=hd
 have hr3_d901:=hr3
 refine zas 0 (zab) (zas 1 (zak rfl) (zas 2 (zaw 5) (zbo 3 (fun w' hS'=>zau (hq_d901.kq hS')) (zbo 4 (fun w' hS'=>zau (hr3_d901.kq hS')) (zbo 5 (fun w' hS'=>zc9 (k:=3) (e:=62) (.agg zP.toArray) none aa aa zlC (hd_d901.kpd hS' ah) rfl rfl n rfl hn ae hmv) (zas 6 (zab) (zas 7 (zai rfl rfl) (zas 8 (zai rfl rfl) (zaA 9 aa (zby rfl rfl (zar (List.replicate 512 (Value.int .u8 0)) aa (fun g6 w6 hg6 hr6 hb6=>?_))))))))))))
 have hS902:=hS901.add0 hb6
 refine⟨hS902,?_⟩
 have lt_q_g6:q<g6:=Nat.lt_of_lt_of_le hq.lt hg6
 have lt_g3_g6:g3<g6:=Nat.lt_of_lt_of_le hr3.lt hg6
 have lt_g4_g6:g4<g6:=Nat.lt_of_lt_of_le hr4.lt hg6
 replace h:=h.newc hb6 hg6 hr6.lt
 replace hLL:=hLL.new hb6
 replace hq:=hq.new hb6
 replace hr3:=hr3.new hb6
 replace hr4:=hr4.new hb6
 refine zaA 10 aa (zbB rfl rfl (zaQ 512 (zP) hr6 (fun w904 hr6 ho904=>?_)))
 have hS903:=hS902.aq ho904
 refine⟨hS903,?_⟩
 replace h:=h.only ho904 ai
 replace hLL:=hLL.oq ho904
 replace hq:=hq.only ho904 (Nat.ne_of_lt lt_q_g6)
 replace hr3:=hr3.only ho904 (Nat.ne_of_lt lt_g3_g6)
 replace hr4:=hr4.only ho904 (Nat.ne_of_lt lt_g4_g6)
 refine dL ?_
 rintro _ w28 ⟨rfl,hb28⟩
 replace h:=h.new hb28
 replace hLL:=hLL.new hb28
 replace hq:=hq.new hb28
 replace hr3:=hr3.new hb28
 replace hr4:=hr4.new hb28
 refine zad (zac) (zae (zaf (zah (zaa (zad (zab) (zad (zcH rfl rfl) (zae (zaf (zgP rfl (ae) (zah (zaa (zad (zab) (zad (zak rfl) (zad (zaw 6) (zad (zau hq) (zad (zab) (zad (zbe (e:=147) (sz:=513) aa rfl rfl (zel P.cl n) ae ae) (zad (zaw 1) (zad (zaG rfl (ld_pg h.own.sl hok.cl hc)) (zaK rfl (zaQ 512 (bv c.page) hr4 (fun w905 hr4 ho905=>?_))))))))))))))))))))))
 replace h:=h.only ho905 ai
 replace hLL:=hLL.oq ho905
 replace hr3:=hr3.only ho905 (Nat.ne_of_lt lt_g3_g4)
 refine zae (zaf (zah (zaa (zad (zab) (zad (zau hr3) (zad (za7 512 hr4) (zao rfl (zaj aa rfl) (frameP h hok.cl hok.cll hok.fr2 hok.frm n c.page hcl) ?_)))))))
 rintro _ w42 ⟨rfl,⟨cv2,h⟩,hb42⟩
 replace hLL:=hLL.lq hb42
 replace hr4:=hr4.kl hb42
 refine zae (zaf (zah (zaa (zad (za7 512 hr4) (zaK rfl (zaQ 512 (bv c.page) hr4 (fun w906 hr4 ho906=>?_)))))))
 replace h:=h.only ho906 ai
 replace hLL:=hLL.oq ho906
 refine dK ?_
 exact⟨rfl,⟨_,h.weak (fun b hb=>by simp[hb])⟩,hLL⟩
set_option maxRecDepth 20000 in
theorem znq(h:zbE g x q mc md cv cv Y lo L P w)(hok:zk7 P)(n:Nat)(hn:n<P.n)(hb:P.di n=none)(hc:P.cl[zel P.cl n]?=none):
   Calls Tryz.prog 67 [.pointer (some ⟨q,0,none⟩), .int .i64 (n:Int)].toArray w (Ret fun v w'=>v= .tuple #[.agg (bv (zdo P.D (1+P.G.size+n*4))).toArray, .int .i64 0]∧(∃ cv',zbE g x q mc md cv' cv' Y lo L {P with cl:=frameC P.fr P.cl n (zdo P.D (1+P.G.size+n*4))} w')∧LoL lo L w w'):=by
 have hLL:=LoL.refl lo L w
 have hnl:=h.nle
 have hml:maxLen=9223372036854775807:=by decide
 have hil:=List.getElem?_eq_none_iff.1 hc
 have hmv:zdG P.di n=none:=by unfold zdG;rw[hb];rfl
 have hq:=h.row
 unfold plV at hq
 have hd:=h.mdi
 have hz:zP.length=512:=List.length_replicate
 have hz1:∀ v∈zP,Value.oneCell' v=true:=fun v hv=>by rw[(List.mem_replicate.1 hv).2];rfl
 have hix:=fun p cc w' (h:zaS w' p P.cl.length 513 (zcj P.cl)) b (hb:row w' b [.int .i64 (n:Int)] 3)=>indexA P.cl hok.cl p cc P.cl.length rfl b n w' h hb
 simp only[if_neg (show¬zel P.cl n<P.cl.length by omega)]at hix
 obtain⟨hrm,hs4,hsm⟩:=zkG hok hn
 have hpl:=fun w'=>placeP P.G.size n w' hsm ae
 obtain⟨a,ha⟩:∃ a,1+P.G.size+n*4=a:=⟨_,rfl⟩
 rw[ha]at hpl hrm ⊢
 have hDk:=(tOk h.lg.fst).1
 obtain⟨hXl,hXs⟩:=ziC hDk hrm
 have hrd:=fun(i:Nat) (hi:i<4) L' w' (h':zbE g x q mc md cv cv Y lo L' P w')=>tRead h'.lg.fst ((a:Int)+(i:Int))
 obtain⟨pc,cc,hcv,hcs⟩:=h.cvIs
 subst hcv
 obtain⟨X,hX⟩:∃ X,zdo P.D a=X:=⟨_,rfl⟩
 rw[hX]at hXl hXs ⊢
 have hXb:(bv X).length=512:=by rw[zal];exact hXl
 refine zax (fn:=Tryz.f67) (rs:=[.cell 4 62, .tmp 5]) (n:=80) Tryz.func67 rfl rfl Tryz.ntmps67 aa rfl (zah (zaa (zaD rfl (za4 ([_]) rfl (fun g3 w3 hg3 hr3 hb3=>?_)))))
 have sz_g3:=hLL.size
 have lt_q_g3:q<g3:=Nat.lt_of_lt_of_le hq.lt hg3
 have lt_md_g3:md<g3:=Nat.lt_of_lt_of_le hd.lt hg3
 replace h:=h.newc hb3 hg3 hr3.lt
 replace hLL:=hLL.new hb3
 replace hq:=hq.new hb3
 replace hd:=hd.new hb3
 refine zaD rfl (zar (List.replicate 512 (Value.int .u8 0)) aa (fun g4 w4 hg4 hr4 hb4=>?_))
 have lt_q_g4:q<g4:=Nat.lt_of_lt_of_le hq.lt hg4
 have lt_md_g4:md<g4:=Nat.lt_of_lt_of_le hd.lt hg4
 have lt_g3_g4:g3<g4:=Nat.lt_of_lt_of_le hr3.lt hg4
 replace h:=h.newc hb4 hg4 hr4.lt
 replace hLL:=hLL.new hb4
 replace hq:=hq.new hb4
 replace hd:=hd.new hb4
 replace hr3:=hr3.new hb4
 refine zad (zac) (zae (zaf (zah (zah (za3 [] aa ?_)))))
 intro w901 hb901 hS901
 replace h:=h.new hb901
 replace hLL:=hLL.new hb901
 replace hq:=hq.new hb901
 replace hd:=hd.new hb901
 replace hr3:=hr3.new hb901
 replace hr4:=hr4.new hb901
 have hq_d901:=hq
 have hd_d901:=hd
 have hr3_d901:=hr3
 refine zas 0 (zab) (zas 1 (zak rfl) (zas 2 (zaw 5) (zbo 3 (fun w' hS'=>zau (hq_d901.kq hS')) (zbo 4 (fun w' hS'=>zau (hr3_d901.kq hS')) (zbo 5 (fun w' hS'=>zc9 (k:=3) (e:=62) (.agg zP.toArray) none aa aa zlC (hd_d901.kpd hS' ah) rfl rfl n rfl hn ae hmv) (zas 6 (zab) (zas 7 (zai rfl rfl) (zas 8 (zai rfl rfl) (zaA 9 aa (zby rfl rfl (zar (List.replicate 512 (Value.int .u8 0)) aa (fun g6 w6 hg6 hr6 hb6=>?_))))))))))))
 have hS902:=hS901.add0 hb6
 refine⟨hS902,?_⟩
 have ge_hS901_g6:=Nat.le_trans hS901.size hg6
 have lt_q_g6:q<g6:=Nat.lt_of_lt_of_le hq.lt hg6
 have lt_md_g6:md<g6:=Nat.lt_of_lt_of_le hd.lt hg6
 have lt_g3_g6:g3<g6:=Nat.lt_of_lt_of_le hr3.lt hg6
 have lt_g4_g6:g4<g6:=Nat.lt_of_lt_of_le hr4.lt hg6
 replace h:=h.newc hb6 hg6 hr6.lt
 replace hLL:=hLL.new hb6
 replace hq:=hq.new hb6
 replace hd:=hd.new hb6
 replace hr3:=hr3.new hb6
 replace hr4:=hr4.new hb6
 refine zaA 10 aa (zbB rfl rfl (zaQ 512 (zP) hr6 (fun w904 hr6 ho904=>?_)))
 have hS903:=hS902.aq ho904
 refine⟨hS903,?_⟩
 replace h:=h.only ho904 ai
 replace hLL:=hLL.oq ho904
 replace hq:=hq.only ho904 (Nat.ne_of_lt lt_q_g6)
 replace hd:=hd.only ho904 (Nat.ne_of_lt lt_md_g6)
 replace hr3:=hr3.only ho904 (Nat.ne_of_lt lt_g3_g6)
 replace hr4:=hr4.only ho904 (Nat.ne_of_lt lt_g4_g6)
 refine dL ?_
 rintro _ w28 ⟨rfl,hb28⟩
 replace h:=h.new hb28
 replace hLL:=hLL.new hb28
 replace hq:=hq.new hb28
 replace hd:=hd.new hb28
 replace hr3:=hr3.new hb28
 replace hr4:=hr4.new hb28
 refine zad (zac) (zae (zaf (zah (zaa (zad (zab) (zad (zcH rfl rfl) (zae (zaf (zcF rfl (ae) (zat (zaf (zah (zah (zaa (zad (zab) (zae (zaf (zav ?_))))))))))))))))))
 have hr4z:row w28 g4 (bv (zeM X 0)) 62:=by rw[partP_0];exact hr4
 refine zbq (α:=Nat) 0 (fun i=>[(44, .int .i64 (i:Nat)),(0, .pointer (some ⟨q,0,none⟩)),(3, .pointer (some ⟨g3,0,none⟩)),(4, .pointer (some ⟨g4,0,none⟩))])
   (fun i w'=>i≤4∧row w' g4 (bv (zeM X i)) 62∧row w' g3 [.int .i64 (n:Int)] 3∧zbE g x q mc md (.slice pc P.cl.length cc) (.slice pc P.cl.length cc) Y lo (g4::g3::L) P w'∧LoL lo L w w') (fun i=>4 - i)
   ⟨rfl,rfl,rfl,rfl,rfl⟩ ⟨Nat.zero_le _,hr4z,hr3,h.weak (fun b hb=>by simp at hb;simp[hb]),hLL⟩ ?_
 clear h hLL hq hd hr3 hr4 hr4z
 rintro i f wr ⟨hi,hr4,hr3,h,hLL⟩
 have hq:=h.row
 unfold plV at hq
 refine zah (zaa (zad (zaY rfl rfl) (zae (zaf (zah (za0 rfl (fun hlt=>?_) (fun hlt=>?_)))))))
 ·
  refine bL ?_
  have hobS:∃ S,(X.drop (128*i)).take 128=S:=⟨_,rfl⟩
  obtain⟨S,hS⟩:=hobS
  have hin:inD P.D ((a:Int)+(i:Int))=true:=decide_eq_true ae
  have hrdi:=hrd i ae
  rw[hin,if_pos rfl,if_pos rfl,show((a:Int)+(i:Int)).toNat=a+i by omega,←hXs i ae,hS]at hrdi
  have hSl:S.length=128:=by rw[←hS,List.length_take,List.length_drop];omega
  have hSb:(bv S).length=128:=by rw[zal];exact hSl
  have hst:=znn hXl ae hS
  have hpb:=zoZ hXl (i:=i) ae
  have hpb2:(bv (zeM X i)).length=512:=by rw[zal];exact hpb
  have hg3l:=hr3.lt
  have hg4l:=hr4.lt
  refine zaa (zad (zab) (zad (zac) (zae (zaf (zgQ (fun g10:Nat=>[(44, .int .i64 (i:Nat)),(9, .int .i64 (i:Nat)),(10, .pointer (some ⟨g10,0,none⟩)),(11, .int .i64 0),(0, .pointer (some ⟨q,0,none⟩)),(3, .pointer (some ⟨g3,0,none⟩)),(4, .pointer (some ⟨g4,0,none⟩))]) (fun g10 w'=>row w' g10 (bv S) 172∧row w' g4 (bv (zeM X i)) 62∧row w' g3 [.int .i64 (n:Int)] 3∧zbE g x q mc md (.slice pc P.cl.length cc) (.slice pc P.cl.length cc) Y lo (g10::g4::g3::L) P w'∧LoL lo L w w'∧g4<g10∧g3<g10) ?_ ?_)))))
  ·
   refine za3 [] aa ?_
   intro w905 hb905 hS905
   replace h:=h.new hb905
   replace hLL:=hLL.new hb905
   replace hq:=hq.new hb905
   replace hr3:=hr3.new hb905
   replace hr4:=hr4.new hb905
   have hq_d905:=hq
   have hr3_d905:=hr3
   refine zas 0 (zab) (zas 1 (zak rfl) (zas 2 (zaw 0) (zbo 3 (fun w' hS'=>zau (hq_d905.kq hS')) (zas 4 (zab) (zas 5 (zak rfl) (zas 6 (zaw 2) (zbo 7 (fun w' hS'=>zau (hq_d905.kq hS')) (zbo 8 (fun w' hS'=>zau (hr3_d905.kq hS')) (zdS 9 aa rfl (fun _=>zaj aa rfl) (fun w' hS'=>hpl w') (zas 10 (zab) (zas 11 (zaO rfl rfl (Coup.w64 ae)) (zcA 12 16 aa ?_ ?_))))))))))))
   ·
    refine zaU rfl rfl (zaj aa rfl) (hrdi _ w905 h) ?_
    rintro _ w60 ⟨rfl,hb60⟩
    have hS906:=hS905.add0 hb60
    refine⟨hS906,?_⟩
    replace h:=h.new hb60
    replace hLL:=hLL.new hb60
    replace hq:=hq.new hb60
    replace hr3:=hr3.new hb60
    replace hr4:=hr4.new hb60
    refine zas 13 (zab) (zas 14 (zai rfl rfl) (zas 15 (zai rfl rfl) (zaA 16 aa (zby rfl rfl (zar (List.replicate 128 (Value.int .u8 0)) aa (fun g10 w10 hg10 hr10 hb10=>?_))))))
    have hS907:=hS906.add0 hb10
    refine⟨hS907,?_⟩
    have ge_hS906_g10:=Nat.le_trans hS906.size hg10
    have lt_q_g10:q<g10:=Nat.lt_of_lt_of_le hq.lt hg10
    have lt_g3_g10:g3<g10:=Nat.lt_of_lt_of_le hr3.lt hg10
    have lt_g4_g10:g4<g10:=Nat.lt_of_lt_of_le hr4.lt hg10
    replace h:=h.newc hb10 hg10 hr10.lt
    replace hLL:=hLL.new hb10
    replace hr3:=hr3.new hb10
    replace hr4:=hr4.new hb10
    refine zaA 17 aa (zbB rfl rfl (zaQ 128 (bv S) hr10 (fun w909 hr10 ho909=>?_)))
    have hS908:=hS907.aq ho909
    refine⟨hS908,?_⟩
    replace h:=h.only ho909 ai
    replace hLL:=hLL.oq ho909
    replace hr3:=hr3.only ho909 (Nat.ne_of_lt lt_g3_g10)
    replace hr4:=hr4.only ho909 (Nat.ne_of_lt lt_g4_g10)
    refine zas 18 (zac) (zaI aa (za2 ⟨g10,⟨rfl,rfl,rfl,rfl,rfl,rfl,rfl,rfl⟩,hr10,hr4,hr3,h,hLL,ae,ae⟩))
   ·
    refine zby rfl rfl (zar (List.replicate 128 (Value.int .u8 0)) aa (fun g10 w10 hg10 hr10 hb10=>?_))
    have hS910:=hS905.add0 hb10
    refine⟨hS910,?_⟩
    have ge_hS905_g10:=Nat.le_trans hS905.size hg10
    have lt_q_g10:q<g10:=Nat.lt_of_lt_of_le hq.lt hg10
    have lt_g3_g10:g3<g10:=Nat.lt_of_lt_of_le hr3.lt hg10
    have lt_g4_g10:g4<g10:=Nat.lt_of_lt_of_le hr4.lt hg10
    replace h:=h.newc hb10 hg10 hr10.lt
    replace hLL:=hLL.new hb10
    replace hr3:=hr3.new hb10
    replace hr4:=hr4.new hb10
    refine zaA 12 aa (zaU rfl rfl (zaj aa rfl) (hrdi _ w10 h) ?_)
    rintro _ w60 ⟨rfl,hb60⟩
    have hS911:=hS910.add0 hb60
    refine⟨hS911,?_⟩
    replace h:=h.new hb60
    replace hLL:=hLL.new hb60
    replace hr3:=hr3.new hb60
    replace hr4:=hr4.new hb60
    replace hr10:=hr10.new hb60
    refine zas 13 (zab) (zas 14 (zai rfl rfl) (zas 15 (zai rfl rfl) (zaA 17 aa (zbB rfl rfl (zaQ 128 (bv S) hr10 (fun w913 hr10 ho913=>?_))))))
    have hS912:=hS911.aq ho913
    refine⟨hS912,?_⟩
    replace h:=h.only ho913 ai
    replace hLL:=hLL.oq ho913
    replace hr3:=hr3.only ho913 (Nat.ne_of_lt lt_g3_g10)
    replace hr4:=hr4.only ho913 (Nat.ne_of_lt lt_g4_g10)
    refine zas 18 (zac) (zaI aa (za2 ⟨g10,⟨rfl,rfl,rfl,rfl,rfl,rfl,rfl,rfl⟩,hr10,hr4,hr3,h,hLL,ae,ae⟩))
  ·
   clear h hLL hr3 hr4
   rintro g10 f2 w2 ⟨hr10,hr4,hr3,h,hLL,hl4,hl3⟩
   refine zah (zah (zaa (zad (zab) (zad (zaX rfl rfl) (zae (zaf (zcF rfl (ay) (zat (zaf (za3 [g4] aa ?_))))))))))
   intro w914 hb914 hS914
   replace h:=h.new hb914
   replace hLL:=hLL.new hb914
   replace hr3:=hr3.new hb914
   replace hr4:=hr4.new hb914
   replace hr10:=hr10.new hb914
   refine zas 0 (zab) (zas 1 (zdv rfl rfl (Coup.w64 ae)) (zas 2 (zbw (e:=5) (n:=512) (128*i) (512) (512) (512 - 128*i) aa rfl ⟨_,_,rfl,ae⟩ rfl rfl ay ae ae ae ae ae) (zas 3 (zbw (e:=5) (n:=128) (0) (128) (128) (128) aa rfl rfl rfl rfl ay ae ae ae ae ae) (zaA 4 aa (zby rfl rfl (znY (e:=5) aa aa rfl rfl g4 ((0+128*i)) hr4 (bv S) (by rw[hSb];exact(Nat.min_eq_left ae).symm) (fun _=>⟨rfl,_,rfl,fun j v hv=>by rw[Addr.add_lit];exact(hr10.slA (m:=128) (sz:=1) hSb ae).cell j hv⟩) (by rw[hSb];omega) (zbV _) (fun w73 hr4 ho73=>?_)))))))
   have hS915:=hS914.aq ho73
   refine⟨hS915,?_⟩
   replace h:=h.only ho73 ai
   replace hLL:=hLL.oq ho73
   replace hr3:=hr3.only ho73 (Nat.ne_of_lt lt_g3_g4)
   refine zaI aa (zaP (zaf (zaa (zad (zaO rfl rfl (Coup.w64 ae)) (zad (zab) (zae ?_))))))
   rw[Nat.zero_add,hst]at hr4
   refine za2 ⟨i+1,ae,⟨by go_num,rfl,rfl,rfl,rfl⟩,ae,hr4,hr3,h.weak (fun b hb=>List.mem_cons_of_mem _ hb),hLL⟩
 ·
  have hi4:i=4:=by omega
  subst hi4
  rw[partP_4 hXl]at hr4
  refine zbh (zbC (zbH (zbl (zaf (zah (zaa (zad (zab) (zad (zau hr3) (zad (za7 512 hr4) (zao rfl (zaj aa rfl) (frameP h hok.cl hok.cll hok.fr2 hok.frm n X hXl) ?_))))))))))
  rintro _ w78 ⟨rfl,⟨cv2,h⟩,hb78⟩
  replace hLL:=hLL.lq hb78
  replace hr4:=hr4.kl hb78
  refine zae (zaf (zah (zaa (zad (za7 512 hr4) (zaK rfl (zaQ 512 (bv X) hr4 (fun w916 hr4 ho916=>?_)))))))
  replace h:=h.only ho916 ai
  replace hLL:=hLL.oq ho916
  refine bT ?_
  exact⟨rfl,⟨_,h.weak (fun b hb=>by simp[hb])⟩,hLL⟩
theorem ziD(h:zbE g x q mc md cv cv Y lo L P w)(hok:zk7 P)(n:Nat)(hn:n<P.n):
  Calls Tryz.prog 67 [.pointer (some ⟨q,0,none⟩), .int .i64 (n:Int)].toArray w (Ret fun v w'=>v= .tuple #[.agg (bv (zh5 P n)).toArray, .int .i64 0]∧(∃ cv',zbE g x q mc md cv' cv' Y lo L (zgj P n) w')∧LoL lo L w w'):=by
 cases hb:P.di n with
 |some b=>
  have e1:zh5 P n=b:=by unfold zh5;rw[hb]
  have e2:zgj P n=P:=by unfold zgj;rw[hb]
  rw[e1,e2]
  exact zno h hok n hn hb
 |none=>
  have e2:zgj P n={P with cl:=frameC P.fr P.cl n (zh5 P n)}:=by unfold zgj;rw[hb]
  cases hc:P.cl[zel P.cl n]? with
  |some c=>
   have e1:zh5 P n=c.page:=by unfold zh5;rw[hb,hc]
   rw[e2,e1]
   exact znp h hok n hn hb hc
  |none=>
   have e1:zh5 P n=zdo P.D (1+P.G.size+n*4):=by unfold zh5;rw[hb,hc]
   rw[e2,e1]
   exact znq h hok n hn hb hc
end
theorem zeN(P:Pl)(n:Nat):(zgj P n).D=P.D∧(zgj P n).G=P.G∧(zgj P n).fr=P.fr∧(zgj P n).ch=P.ch∧(zgj P n).di=P.di∧(zgj P n).dead=P.dead∧(zgj P n).n=P.n:=by
 unfold zgj
 split<;>exact⟨rfl,rfl,rfl,rfl,rfl,rfl,rfl⟩
def getX(P:Pl)(n:Nat):Pg:=match P.ch n with
 |some b=>b
 |none=>zh5 P n
def zkH(P:Pl)(n:Nat):Pl:=match P.ch n with
 |some _=>P
 |none=>zgj P n
def znJ(P:Pl)(n:Nat)(X:Pg):Pl:={zgj P n with ch:=zfz P.ch n (if X=zh5 P n then none else some X)}
theorem zqz(c:PgM)(i:Nat)(a b:Option Pg):zfz (zfz c i a) i b=zfz c i b:=by
 funext j
 unfold zfz
 split<;>rfl
section
variable {Y:World→List Nat→Prop}[Thing Y]{g x q mc md lo:Nat}{rv cv:Value}{L:List Nat}{P:Pl}{w:World}
set_option maxRecDepth 20000 in
theorem getNo(h:zbE g x q mc md rv cv Y lo L P w)(hsz:P.G.size≤4000)(n:Int)(hne:zdf P n≠0):Calls Tryz.prog 100 [.pointer (some ⟨q,0,none⟩), .int .i64 n].toArray w (Ret fun v w'=>v= .tuple #[.agg zP.toArray, .int .i64 (zdf P n)]∧Below w.heap.size w w'):=by
 have hB:=Below.refl w.heap.size w
 have hrd:=fun w' (h':zbE g x q mc md rv cv Y lo L P w')=>zkF h' hsz n
 have hz:zP.length=512:=List.length_replicate
 have hz1:∀ v∈zP,Value.oneCell' v=true:=fun v hv=>by rw[(List.mem_replicate.1 hv).2];rfl
 obtain⟨e,he⟩:∃ e,zdf P n=e:=⟨_,rfl⟩
 rw[he]at hrd hne ⊢
 have hw:=fun w' (hb:Below w.heap.size w w')=>h.new hb
 refine zax (fn:=Tryz.f100) (rs:=[.cell 4 62, .tmp 5]) (n:=32) Tryz.func100 rfl rfl Tryz.ntmps100 aa rfl (zah (zaa (zaD rfl (zar (List.replicate 512 (Value.int .u8 0)) aa (fun g4 w4 hg4 hr4 hb4=>?_)))))
 have ge_hB_g4:=Nat.le_trans hB.size hg4
 replace hB:=hB.acc hb4
 refine zad (zac) (zae (zaf (zah (zah (zaa (zad (zab) (zad (zab) (zao rfl (zaj aa rfl) (hrd w4 (hw _ hB)) ?_))))))))
 rintro _ w11 ⟨rfl,hb11⟩
 replace hr4:=hr4.new hb11
 replace hB:=hB.acc hb11
 refine zad (zac) (zae (zaf (zah (zaa (zad (zab) (zad (zaX rfl rfl) (zae (zaf (zgP rfl (hne) (zah (zaa (zad (zbN (List.replicate 512 (Value.int .u8 0)) aa) (zad (zab) (zaK rfl (zaQ 512 (zP) hr4 (fun w901 hr4 ho901=>?_))))))))))))))))
 replace hB:=ho901.below hB ge_hB_g4
 refine dK ?_
 exact⟨rfl,hB⟩
set_option maxRecDepth 20000 in
theorem getYes(h:zbE g x q mc md cv cv Y lo L P w)(hok:zk7 P)(hde:P.dead=false)(n:Nat)(hn:n<P.n):Calls Tryz.prog 100 [.pointer (some ⟨q,0,none⟩), .int .i64 (n:Int)].toArray w (Ret fun v w'=>v= .tuple #[.agg (bv (getX P n)).toArray, .int .i64 0]∧(∃ cv',zbE g x q mc md cv' cv' Y lo L (zkH P n) w')∧LoL lo L w w'):=by
 have hLL:=LoL.refl lo L w
 have hnl:=h.nle.1
 have hDk:=(tOk h.lg.fst).1
 have hre:zdf P n=0:=by unfold zdf;rw[hde,if_neg ay,if_pos ae]
 have hrd:=fun L' w' (h':zbE g x q mc md cv cv Y lo L' P w')=>zkF h' hok.lg.szm n
 rw[hre]at hrd
 have hX0:=zmt hok hDk hn
 have hcm:=fun L' w' (h':zbE g x q mc md cv cv Y lo L' P w')=>ziD h' hok n hn
 obtain⟨X0,hX⟩:∃ X0,zh5 P n=X0:=⟨_,rfl⟩
 rw[hX]at hX0
 simp only[hX]at hcm
 have hX0b:(bv X0).length=512:=by rw[zal];exact hX0
 have hz:zP.length=512:=List.length_replicate
 have hz1:∀ v∈zP,Value.oneCell' v=true:=fun v hv=>by rw[(List.mem_replicate.1 hv).2];rfl
 obtain⟨o,ho⟩:∃ o,zdG P.ch n=o:=⟨_,rfl⟩
 have hq:=h.row
 unfold plV at hq
 have hm:=h.mch
 unfold getX zkH
 cases hch:P.ch n with
 |some b=>
 have hbl:(bv b).length=512:=by rw[zal];exact hok.ch n b hch
 have ho2:o=some (.agg (bv b).toArray):=by rw[←ho];unfold zdG;rw[hch];rfl
 subst ho2
 dsimp only
 refine zax (fn:=Tryz.f100) (rs:=[.cell 4 62, .tmp 5]) (n:=32) Tryz.func100 rfl rfl Tryz.ntmps100 aa rfl (zah (zaa (zaD rfl (zar (List.replicate 512 (Value.int .u8 0)) aa (fun g4 w4 hg4 hr4 hb4=>?_)))))
 have lt_q_g4:q<g4:=Nat.lt_of_lt_of_le hq.lt hg4
 have lt_mc_g4:mc<g4:=Nat.lt_of_lt_of_le hm.lt hg4
 replace h:=h.newc hb4 hg4 hr4.lt
 replace hLL:=hLL.new hb4
 replace hq:=hq.new hb4
 replace hm:=hm.new hb4
 refine dM ?_
 rintro _ w11 ⟨rfl,hb11⟩
 replace h:=h.new hb11
 replace hLL:=hLL.new hb11
 replace hq:=hq.new hb11
 replace hm:=hm.new hb11
 replace hr4:=hr4.new hb11
 refine zad (zac) (zae (zaf (zah (zaa (zad (zab) (zad (zaX rfl rfl) (zae (zaf (zcF rfl (ay) (zat (zaf (zah (zah (zaa (zad (zab) (zad (zak rfl) (zad (zaw 4) (zad (zau hq) (zad (zab) (zad (zc9 (k:=3) (e:=62) (.agg zP.toArray) (some (.agg (bv b).toArray)) aa aa zlC hm rfl rfl n rfl hn ae ho) (zad (zab) (zad (zai rfl rfl) (zad (zai rfl rfl) (zaD rfl (zar (List.replicate 512 (Value.int .u8 0)) aa (fun g7 w7 hg7 hr7 hb7=>?_))))))))))))))))))))))))))
 have lt_q_g7:q<g7:=Nat.lt_of_lt_of_le hq.lt hg7
 have lt_mc_g7:mc<g7:=Nat.lt_of_lt_of_le hm.lt hg7
 have lt_g4_g7:g4<g7:=Nat.lt_of_lt_of_le hr4.lt hg7
 replace h:=h.newc hb7 hg7 hr7.lt
 replace hLL:=hLL.new hb7
 replace hq:=hq.new hb7
 replace hm:=hm.new hb7
 replace hr4:=hr4.new hb7
 refine zaK rfl (zaQ 512 (bv b) hr7 (fun w901 hr7 ho901=>?_))
 replace h:=h.only ho901 ai
 replace hLL:=hLL.oq ho901
 replace hq:=hq.only ho901 (Nat.ne_of_lt lt_q_g7)
 replace hm:=hm.only ho901 (Nat.ne_of_lt lt_mc_g7)
 replace hr4:=hr4.only ho901 (Nat.ne_of_lt lt_g4_g7)
 refine zad (zac) (zae (zaf (zah (zaa (zad (zab) (zae (zaf (zjU rfl (rfl) (zah (zaa (zad (za7 512 hr7) (zaK rfl (zaQ 512 (bv b) hr4 (fun w902 hr4 ho902=>?_))))))))))))))
 replace h:=h.only ho902 ai
 replace hLL:=hLL.oq ho902
 replace hq:=hq.only ho902 (Nat.ne_of_lt lt_q_g4)
 replace hm:=hm.only ho902 (Nat.ne_of_lt lt_mc_g4)
 replace hr7:=hr7.only ho902 (Nat.ne_of_gt lt_g4_g7)
 refine dK ?_
 exact⟨rfl,⟨_,h.weak (fun b hb=>by simp[hb])⟩,hLL⟩
 |none=>
 have ho2:o=none:=by rw[←ho];unfold zdG;rw[hch];rfl
 subst ho2
 dsimp only
 rw[hX]
 refine zax (fn:=Tryz.f100) (rs:=[.cell 4 62, .tmp 5]) (n:=32) Tryz.func100 rfl rfl Tryz.ntmps100 aa rfl (zah (zaa (zaD rfl (zar (List.replicate 512 (Value.int .u8 0)) aa (fun g4 w4 hg4 hr4 hb4=>?_)))))
 replace h:=h.newc hb4 hg4 hr4.lt
 replace hLL:=hLL.new hb4
 replace hq:=hq.new hb4
 replace hm:=hm.new hb4
 refine dM ?_
 rintro _ w11 ⟨rfl,hb11⟩
 replace h:=h.new hb11
 replace hLL:=hLL.new hb11
 replace hq:=hq.new hb11
 replace hm:=hm.new hb11
 replace hr4:=hr4.new hb11
 refine zad (zac) (zae (zaf (zah (zaa (zad (zab) (zad (zaX rfl rfl) (zae (zaf (zcF rfl (ay) (zat (zaf (zah (zah (zaa (zad (zab) (zad (zak rfl) (zad (zaw 4) (zad (zau hq) (zad (zab) (zad (zc9 (k:=3) (e:=62) (.agg zP.toArray) none aa aa zlC hm rfl rfl n rfl hn ae ho) (zad (zab) (zad (zai rfl rfl) (zad (zai rfl rfl) (zaD rfl (zar (List.replicate 512 (Value.int .u8 0)) aa (fun g7 w7 hg7 hr7 hb7=>?_))))))))))))))))))))))))))
 have lt_g4_g7:g4<g7:=Nat.lt_of_lt_of_le hr4.lt hg7
 replace h:=h.newc hb7 hg7 hr7.lt
 replace hLL:=hLL.new hb7
 replace hr4:=hr4.new hb7
 refine zaK rfl (zaQ 512 (zP) hr7 (fun w901 hr7 ho901=>?_))
 replace h:=h.only ho901 ai
 replace hLL:=hLL.oq ho901
 replace hr4:=hr4.only ho901 (Nat.ne_of_lt lt_g4_g7)
 refine zad (zac) (zae (zaf (zah (zaa (zad (zab) (zae (zaf (zjG rfl (rfl) (zat (zaf (zah (zaa (zad (zab) (zad (zab) (zao rfl (zaj aa rfl) (hcm _ w901 h) ?_)))))))))))))))
 rintro _ w29 ⟨rfl,⟨cv2,h⟩,hb29⟩
 replace hLL:=hLL.lq hb29
 replace hr4:=hr4.kl hb29
 refine zad (zai rfl rfl) (zad (zai rfl rfl) (zaK rfl (zaQ 512 (bv X0) hr4 (fun w902 hr4 ho902=>?_))))
 replace h:=h.only ho902 ai
 replace hLL:=hLL.oq ho902
 refine bT ?_
 exact⟨rfl,⟨_,h.weak (fun b hb=>by simp[hb])⟩,hLL⟩
set_option maxRecDepth 20000 in
theorem putNo(h:zbE g x q mc md rv cv Y lo L P w)(hsz:P.G.size≤4000)(n:Int)(X:Pg)(hne:zdf P n≠0):Calls Tryz.prog 23 [.pointer (some ⟨q,0,none⟩), .int .i64 n, .agg (bv X).toArray].toArray w (Ret fun v w'=>v= .int .i64 (zdf P n)∧Below w.heap.size w w'):=by
 have hB:=Below.refl w.heap.size w
 have hrd:=fun w' (h':zbE g x q mc md rv cv Y lo L P w')=>zkF h' hsz n
 obtain⟨e,he⟩:∃ e,zdf P n=e:=⟨_,rfl⟩
 rw[he]at hrd hne ⊢
 have hw:=fun w' (hb:Below w.heap.size w w')=>h.new hb
 refine zax (fn:=Tryz.f23) (rs:=[.tmp 6]) (n:=39) Tryz.func23 rfl rfl Tryz.ntmps23 aa rfl (zah (zaa (zaD rfl (za4 (bv X) rfl (fun g5 w5 hg5 hr5 hb5=>?_)))))
 replace hB:=hB.acc hb5
 refine zad (zac) (zae (zaf (zah (zah (zaa (zad (zab) (zad (zab) (zao rfl (zaj aa rfl) (hrd w5 (hw _ hB)) ?_))))))))
 rintro _ w12 ⟨rfl,hb12⟩
 replace hB:=hB.acc hb12
 refine zad (zac) (zae (zaf (zah (zaa (zad (zab) (zad (zaX rfl rfl) (zae (zaf (zgP rfl (hne) (zah (zaa (zad (zab) (zad (zac) (zae (zaf (zaF (zaW (zan [_] ⟨rfl,trivial⟩ ?_))))))))))))))))))
 exact⟨rfl,hB⟩
set_option maxRecDepth 20000 in
theorem putYes(h:zbE g x q mc md cv cv Y lo L P w)(hok:zk7 P)(hde:P.dead=false)(n:Nat)(hn:n<P.n)(X:Pg)(hX:X.length=512):Calls Tryz.prog 23 [.pointer (some ⟨q,0,none⟩), .int .i64 (n:Int), .agg (bv X).toArray].toArray w (Ret fun v w'=>v= .int .i64 0∧(∃ cv',zbE g x q mc md cv' cv' Y lo L (znJ P n X) w')∧LoL lo L w w'):=by
 have hLL:=LoL.refl lo L w
 have hnl:=h.nle.1
 have hDk:=(tOk h.lg.fst).1
 have hre:zdf P n=0:=by unfold zdf;rw[hde,if_neg ay,if_pos ae]
 have hrd:=fun L' w' (h':zbE g x q mc md cv cv Y lo L' P w')=>zkF h' hok.lg.szm n
 rw[hre]at hrd
 have hX0:=zmt hok hDk hn
 have hcm:=fun L' w' (h':zbE g x q mc md cv cv Y lo L' P w')=>ziD h' hok n hn
 obtain⟨X0,hX0e⟩:∃ X0,zh5 P n=X0:=⟨_,rfl⟩
 rw[hX0e]at hX0
 simp only[hX0e]at hcm
 obtain⟨e1,e2,e3,e4,e5,e6,e7⟩:=zeN P n
 unfold znJ
 rw[hX0e]
 obtain⟨P2,hP2⟩:∃ P2,zgj P n=P2:=⟨_,rfl⟩
 rw[hP2]at e1 e2 e3 e4 e5 e6 e7 ⊢
 simp only[hP2]at hcm
 rw[←e4]
 rw[←e7]at hn hnl
 have hX0b:(bv X0).length=512:=by rw[zal];exact hX0
 have hXb:(bv X).length=512:=by rw[zal];exact hX
 obtain⟨hml,hmL⟩:=h.mcl
 have hqm:=h.qm
 refine zax (fn:=Tryz.f23) (rs:=[.tmp 6]) (n:=39) Tryz.func23 rfl rfl Tryz.ntmps23 aa rfl (zah (zaa (zaD rfl (za4 (bv X) rfl (fun g5 w5 hg5 hr5 hb5=>?_)))))
 replace h:=h.newc hb5 hg5 hr5.lt
 replace hLL:=hLL.new hb5
 refine zad (zac) (zae (zaf (zah (zah (zaa (zad (zab) (zad (zab) (zao rfl (zaj aa rfl) (hrd _ w5 h) ?_))))))))
 rintro _ w12 ⟨rfl,hb12⟩
 replace h:=h.new hb12
 replace hLL:=hLL.new hb12
 replace hr5:=hr5.new hb12
 refine zad (zac) (zae (zaf (zah (zaa (zad (zab) (zad (zaX rfl rfl) (zae (zaf (zcF rfl (ay) (zat (zaf (zah (zaa (zad (zab) (zad (zab) (zao rfl (zaj aa rfl) (hcm _ w12 h) ?_))))))))))))))))
 rintro _ w19 ⟨rfl,⟨cv2,h⟩,hb19⟩
 replace hLL:=hLL.lq hb19
 replace hr5:=hr5.kl hb19
 refine zad (zab) (zad (zai rfl rfl) (zad (zai rfl rfl) (zaD rfl (zar (List.replicate 512 (Value.int .u8 0)) aa (fun g8 w8 hg8 hr8 hb8=>?_)))))
 have lt_g5_g8:g5<g8:=Nat.lt_of_lt_of_le hr5.lt hg8
 replace h:=h.newc hb8 hg8 hr8.lt
 replace hLL:=hLL.new hb8
 replace hr5:=hr5.new hb8
 refine zaK rfl (zaQ 512 (bv X0) hr8 (fun w901 hr8 ho901=>?_))
 replace h:=h.only ho901 ai
 replace hLL:=hLL.oq ho901
 replace hr5:=hr5.only ho901 (Nat.ne_of_lt lt_g5_g8)
 refine zad (zac) (zae (zaf (zah (zah (zaa (zad (zab) (zad (zaX rfl rfl) (zae (zaf (zcF rfl (ay) (zat (zaf (zah ?_)))))))))))))
 have hq:=h.row
 unfold plV at hq
 refine zaa (zad (zab) (zad (zak rfl) (zad (zaw 4) (zad (zau hq) (zad (zab) ?_)))))
 have hm:=h.mch
 have hg5m:g5≠mc:=fun e=>h.mcl.2 (by rw[e];simp)
 have hg8m:g8≠mc:=fun e=>h.mcl.2 (by rw[e];simp)
 refine zaD rfl (zj8 (k:=3) (e:=62) aa aa hm rfl rfl (n) aS ae ae (fun w902 hm ho902=>?_))
 replace hLL:=hLL.oq ho902
 replace hr5:=hr5.only ho902 ae
 replace hr8:=hr8.only ho902 ae
 replace hq:=hq.only ho902 ae
 rw[zoS]at hm
 replace h:=h.zkE hm ho902
 refine zae (zaf (zah (zah (zaa (zad (za7 512 hr5) (zad (za7 512 hr8) (zad (zli (n:=512) aa rfl rfl hX hX0) (zae (zaf (W_ifn rfl (fun hne=>?_) (fun hne=>?_)))))))))))
 ·
  have hm:MapAt Tryz.prog 3 w902 mc P2.n (zdG (zfz P2.ch n none)):=h.mch
  have hh:=h
  refine za3 [mc] aa ?_
  intro w903 hb903 hS903
  replace hLL:=hLL.new hb903
  replace hr5:=hr5.new hb903
  replace hq:=hq.new hb903
  replace hm:=hm.new hb903
  replace hh:=hh.new hb903
  have hr5_d903:=hr5
  have hq_d903:=hq
  have hm_d903:=hm
  refine zas 0 (zab) (zas 1 (zak rfl) (zas 2 (zaw 4) (zbo 3 (fun w' hS'=>zaG rfl (Ld.zeC (hq_d903.kpd hS' ah) aa rfl)) (zas 4 (zab) (zbo 5 (fun w' hS'=>zaG rfl (Ld.zb9 (k:=512) (hr5_d903.kpd hS' ah) aa aa ak)) (zaA 6 aa (zbB rfl rfl (zeH (k:=3) (e:=62) (.agg (bv X).toArray) aa aa hm rfl rfl rfl (n) aS ae ae (fun w905 hm ho905=>?_)))))))))
  have hS904:=hS903.aq ho905
  refine⟨hS904,?_⟩
  replace hLL:=hLL.oq ho905
  rw[zhJ,zqz]at hm
  have h2:=hh.zkE hm ho905
  refine dh ?_
  have hXn:¬X=X0:=hne
  rw[if_neg hXn]
  exact⟨rfl,⟨_,h2.weak (fun b hb=>by simp[hb])⟩,hLL⟩
 ·
  have hXn:X=X0:=hne
  rw[if_pos hXn]
  refine zat (zaf (zah (zaa (zad (zac) (zae (zaf (zaF (zan [_] ⟨rfl,trivial⟩ ?_))))))))
  exact⟨rfl,⟨_,h.weak (fun b hb=>by simp[hb])⟩,hLL⟩
end
def zfB(c:PgM):Nat→Nat→List (Nat × Pg)
 |_,0=>[]
 |a,m+1=>match c a with
  |some b=>(a,b)::zfB c (a+1) m
  |none=>zfB c (a+1) m
theorem zmu(c:PgM):∀ (m a:Nat),keysOf (zdG c) a m=(zfB c a m).map fun p=>(p.1:Int)
 |0,a=>rfl
 |m+1,a=>by
  have ih:=zmu c m (a+1)
  rw[keysOf,zfB,ih]
  unfold zdG
  cases c a<;>rfl
theorem zfC{c:PgM}:∀ {m a:Nat} {p:Nat × Pg},p∈zfB c a m→c p.1=some p.2∧a≤p.1∧p.1<a+m
 |0,a,p,h=>nomatch h
 |m+1,a,p,h=>by
  rw[zfB]at h
  split at h
  ·rcases List.mem_cons.1 h with rfl|h
   ·exact⟨‹_›,Nat.le_refl _,ae⟩
   ·have:=zfC h;exact⟨this.1,ae,ae⟩
  ·have:=zfC h;exact⟨this.1,ae,ae⟩
theorem zo0(c:PgM):∀ (m a:Nat),(zfB c a m).length≤m
 |0,a=>Nat.le_refl _
 |m+1,a=>by
  have:=zo0 c m (a+1)
  rw[zfB]
  split
  ·rw[List.length_cons];omega
  ·omega
def zck(s:Nat):Dk→List (Nat × Pg)→Dk × Bool
 |D,[]=>(D,true)
 |D,p::l=>if(za1 D (1+s+p.1*4) (zbj p.2 4)).2 then zck s (za1 D (1+s+p.1*4) (zbj p.2 4)).1 l else((za1 D (1+s+p.1*4) (zbj p.2 4)).1,false)
theorem zhK(s:Nat):∀ (l m:List (Nat × Pg)) (D:Dk),zck s D (l++m)=if(zck s D l).2 then zck s (zck s D l).1 m else zck s D l
 |[],m,D=>rfl
 |p::l,m,D=>by
  rw[List.cons_append,zck,zck]
  by_cases h:(za1 D (1+s+p.1*4) (zbj p.2 4)).2=true
  ·rw[if_pos h,if_pos h];exact zhK s l m _
  ·rw[if_neg h,if_neg h];rfl
theorem zf8(s:Nat):∀ (l:List (Nat × Pg)) (D:Dk),(zck s D l).1.V.length=D.V.length
 |[],D=>rfl
 |p::l,D=>by
  rw[zck]
  split
  ·rw[zf8 s l,zb5]
  ·exact zb5 _ _ _
theorem zfD(s:Nat):∀ (l:List (Nat × Pg)) (D:Dk) (k:Nat),zbR D k→zbR (zck s D l).1 (k+4*l.length)
 |[],D,k,h=>h
 |p::l,D,k,h=>by
  have h1:=zek (zbj p.2 4) D (1+s+p.1*4) k h
  rw[zcz]at h1
  rw[zck,List.length_cons]
  split
  ·exact zcb (zfD s l _ _ h1) ae
  ·exact zcb h1 ae
def zc5(D:Dk)(G:Lg):Int × Dk × Lg:=
 if G.dead then(10,D,G)else if G.count=4611686018427387904 then(8,D,G)
 else if zd6 D (G.count+1) (G.count+1)then(0,zcI D (G.count+1) (G.count+1),zkt G)else(10,zcI D (G.count+1) (G.count+1),{G with dead:=true})
theorem zf9(D:Dk)(c s:Nat):(zcI D c s).V.length=D.V.length:=by
 unfold zcI
 split
 ·rw[zde,zgs]
 ·exact zgs _ _ _
theorem zfE(D:Dk)(G:Lg):(zc5 D G).2.1.V.length=D.V.length∧(zc5 D G).2.2.size=G.size:=by
 unfold zc5
 split
 ·exact⟨rfl,rfl⟩
 ·split
  ·exact⟨rfl,rfl⟩
  ·split<;>exact⟨zf9 _ _ _,rfl⟩
def zbz(P:Pl):Dk × Bool:=zck P.G.size P.D (zfB P.di 0 P.n)
def zbd(P:Pl):Int × Pl:=
 if(zbz P).2 then
  if zbg (zbz P).1 then
   ((zc5 (zbu (zbz P).1) P.G).1,{P with D:=(zc5 (zbu (zbz P).1) P.G).2.1,G:=(zc5 (zbu (zbz P).1) P.G).2.2,di:=if(zc5 (zbu (zbz P).1) P.G).1=0 then noP else P.di})
  else(10,{P with D:=zbu (zbz P).1})
 else(10,{P with D:=(zbz P).1})
section
variable {Y:World→List Nat→Prop}[Thing Y]{g x q mc md lo:Nat}{rv cv:Value}{L:List Nat}{P:Pl}{w w':World}
omit [Thing Y] in
theorem zbE.setDz{D:Dk}(h:zbE g x q mc md rv cv Y lo L P w)(h2:Two (DZ g D) Y lo (x::(cv.ownBlock.toList++q::mc::md::L)) w')(k:LoL lo (x::(cv.ownBlock.toList++q::mc::md::L)) w w')(hD:D.V.length=P.D.V.length):
  zbE g x q mc md rv cv Y lo L {P with D:=D} w'∧LoL lo (q::md::L) w w':=by
 have k2:LoL lo (cv.ownBlock.toList++q::mc::md::L) w w':=k.weak (Nat.le_refl _) fun b hb=>List.mem_cons_of_mem _ hb
 exact⟨h.setLg ⟨h2,h.lg.rowx.kpd k.kp (zam (.inr (List.mem_cons_self ..))),h.lg.ge,h.lg.ni⟩ k2 rfl hD,k.weak (Nat.le_refl _) fun b hb=>by
  simp only[List.mem_cons]at hb
  rcases hb with hb|hb|hb<;>simp[hb]⟩
theorem writePl(h:zbE g x q mc md rv cv Y lo L P w)(n:Nat)(X:Pg)(hX:X.length=512)(hs:P.G.size≤4000)(hn:1+P.G.size+n*4+4≤P.D.V.length)(hsh:zbR P.D 80000):
  Calls Tryz.prog 87 [.pointer (some ⟨g,0,none⟩), .int .i64 (P.G.size:Int), .int .i64 (n:Int), .agg (bv X).toArray].toArray w (Ret fun v w'=>v= .int .i64 (if(za1 P.D (1+P.G.size+n*4) (zbj X 4)).2 then 0 else 10)∧zbE g x q mc md rv cv Y lo L {P with D:=(za1 P.D (1+P.G.size+n*4) (zbj X 4)).1} w'∧LoL lo (q::md::L) w w'):=
 (writeP h.lg.two P.G.size n X hX hs hn hsh).to fun v w' ⟨e,h2,k⟩=>⟨e,h.setDz h2 k (zb5 _ _ _)⟩
theorem flushPl(h:zbE g x q mc md rv cv Y lo L P w):
  Calls Tryz.prog 138 [.pointer (some ⟨g,0,none⟩)].toArray w (Ret fun v w'=>v= .int .i64 (if zbg P.D then 0 else 10)∧zbE g x q mc md rv cv Y lo L {P with D:=zbu P.D} w'∧LoL lo (q::md::L) w w'):=
 (zoy h.lg.two).to fun v w' ⟨e,h2,k⟩=>⟨e,h.setDz h2 k zde⟩
theorem truncPl(h:zbE g x q mc md rv cv Y lo L P w)(hc:P.G.count≤4611686018427387904)(hsh:zbR P.D 90000):
  Calls Tryz.prog 154 [.pointer (some ⟨x,0,none⟩)].toArray w (Ret fun v w'=>v= .int .i64 (zc5 P.D P.G).1∧zbE g x q mc md rv cv Y lo L {P with D:=(zc5 P.D P.G).2.1,G:=(zc5 P.D P.G).2.2} w'∧LoL lo L w w'):=by
 refine(trunc18 h.lg hc hsh).to fun v w' ⟨e,hv,k,hh⟩=>?_
 have hr:e=(zc5 P.D P.G).1∧zew g x Y lo (cv.ownBlock.toList++q::mc::md::L) (zc5 P.D P.G).2.1 (zc5 P.D P.G).2.2 w':=by
  unfold zc5
  rcases hh with⟨h1,h2,h3⟩|⟨h1,h2,h3,h4⟩|⟨h1,h2,h3,h4,h5⟩|⟨h1,h2,h3,h4,h5⟩
  ·rw[if_pos h1];exact⟨h2,h3⟩
  ·rw[if_neg (by rw[h1];simp),if_pos h2];exact⟨h3,h4⟩
  ·rw[if_neg (by rw[h1];simp),if_neg ae,if_neg (by rw[h3];simp)];exact⟨h4,h5⟩
  ·rw[if_neg (by rw[h1];simp),if_neg ae,if_pos h3];exact⟨h4,h5⟩
 have hs:=zfE P.D P.G
 exact⟨by rw[hv,hr.1],h.setLg hr.2 k hs.2 hs.1,h.outLo k⟩
theorem zbE.sl{p:Option Addr}{m sz:Nat}{cs:List Value}(h:zbE g x q mc md rv cv Y lo L P w)(hb:Below w.heap.size w w')(hs:zaS w' p m sz cs)(hsz:0<sz)(hf:∀ b o,p=some ⟨b,o,none⟩→w.heap.size≤b):
  ∃ L2,(∀ b∈L,b∈L2)∧(0<m→∀ b o,p=some ⟨b,o,none⟩→b∈L2)∧zbE g x q mc md rv cv Y lo L2 P w':=by
 by_cases h0:0<m
 ·obtain⟨gp,op,rfl,hl⟩:=hs.some (Nat.mul_pos h0 hsz)
  exact⟨gp::L,fun b hb=>List.mem_cons_of_mem _ hb,fun _ b o e=>by cases e;exact List.mem_cons_self ..,h.newc hb (hf gp op rfl) hl⟩
 ·exact⟨L,fun b hb=>hb,fun h1=>absurd h1 h0,h.new hb⟩
set_option maxRecDepth 20000 in
set_option maxHeartbeats 1000000 in
theorem settleP(h:zbE g x q mc md cv cv Y lo L P w)(hok:zk7 P)(hsh:zbR P.D 70000):
   Calls Tryz.prog 121 [.pointer (some ⟨q,0,none⟩)].toArray w (Ret fun v w'=>v= .int .i64 (zbd P).1∧zbE g x q mc md cv cv Y lo L (zbd P).2 w'∧LoL lo L w w'):=by
 have hnl:=h.nle.1
 have hml:maxLen=9223372036854775807:=by decide
 have hsm:=hok.lg.szm
 have hrm:=fun n (hn:n<P.n)=>(zkG hok hn).1
 have hkp:zjs P.di P.n=(zfB P.di 0 P.n).map fun p=>(p.1:Int):=zmu P.di P.n 0
 have hcm:=hok.lg.cm
 have hDi:=dirtyP h
 have hmem:=fun(p:Nat × Pg) (hp:p∈zfB P.di 0 P.n)=>zfC hp
 have hll:=zo0 P.di P.n 0
 obtain⟨R,hR⟩:∃ R,zbd P=R:=⟨_,rfl⟩
 rw[hR]
 unfold zbd zbz at hR
 obtain⟨l,hl⟩:∃ l,zfB P.di 0 P.n=l:=⟨_,rfl⟩
 rw[hl]at hkp hmem hll
 simp only[hl]at hR
 have hkl:(zjs P.di P.n).length=l.length:=by rw[hkp,List.length_map]
 obtain⟨ks,hks⟩:∃ ks,zjs P.di P.n=ks:=⟨_,rfl⟩
 rw[hks]at hkp hDi hkl
 have hsl:=zfD P.G.size l P.D 70000 hsh
 have hB0:=Below.refl w.heap.size w
 refine zax (fn:=Tryz.f121) (rs:=[.tmp 2]) (n:=55) Tryz.func121 rfl rfl Tryz.ntmps121 aa rfl (zah (zaa (zad (zac) (zae (zaf (zah (zah (zaa (zad (zab) (zao rfl (zaj aa rfl) (hDi) ?_))))))))))
 rintro _ w9 ⟨⟨p,c,rfl,hks1,hpb⟩,hb9⟩
 replace hB0:=hB0.acc hb9
 refine zad (zaB (e:=3) (sz:=1) aa rfl rfl) (zad (zab) (zae (zaf (zav ?_))))
 have hN:=h.sl hB0 hks1 ae hpb
 obtain⟨L2,hL12,hpL,hP⟩:=hN
 have hLL:=LoL.refl lo L2 w9
 have hlt0:=hP.ltL
 refine zbq (α:=Nat) 0 (fun i=>[(11, .int .i64 (i:Nat)),(10, .int .i64 (ks.length:Int)),(9, .slice p ks.length c),(0, .pointer (some ⟨q,0,none⟩))])
   (fun i w'=>i≤l.length∧(zck P.G.size P.D (l.take i)).2=true∧zbE g x q mc md cv cv Y lo L2 {P with D:=(zck P.G.size P.D (l.take i)).1} w'∧zaS w' p ks.length 1 (iv ks)∧LoL lo L2 w9 w') (fun i=>l.length - i)
   ⟨rfl,rfl,rfl,rfl,rfl⟩ ⟨Nat.zero_le _,rfl,hP,hks1,hLL⟩ ?_
 clear hP hks1 hLL
 rintro i f wr ⟨hi,hwok,hP,hks1,hLL⟩
 have hwl:=zf8 P.G.size (l.take i) P.D
 have hws:=zfD P.G.size (l.take i) P.D 70000 hsh
 rw[List.length_take]at hws
 refine zah (zaa (zad (zaY rfl rfl) (zae (zaf (zah (za0 rfl (fun hlt=>?_) (fun hlt=>?_)))))))
 ·
  refine bL ?_
  have hob:∃ pr,l[i]?=some pr:=⟨_,List.getElem?_eq_getElem ae⟩
  obtain⟨⟨n,X⟩,hpr⟩:=hob
  have hki:ks[i]?=some (n:Int):=by rw[hkp,List.getElem?_map,hpr];rfl
  have hm3:=hmem _ (List.mem_of_getElem? hpr)
  dsimp only at hm3
  have hXl:=hok.di n X hm3.1
  have hnN:n<P.n:=by omega
  have hrn:=hrm n hnN
  have hobg:=hks1.some ae
  obtain⟨gp,op,hgp,hgpl⟩:=hobg
  subst hgp
  have hgpL:gp∈L2:=hpL ae gp op rfl
  have htk:l.take (i+1)=l.take i++[(n,X)]:=by rw[List.take_add_one,hpr];rfl
  have hap:=zhK P.G.size (l.take i) [(n,X)] P.D
  rw[←htk,if_pos hwok]at hap
  have hvv:(zdG P.di n).getD (.agg zP.toArray)= .agg (bv X).toArray:=by unfold zdG;rw[hm3.1];rfl
  have hq:=hP.row
  unfold plV at hq
  have hd:MapAt Tryz.prog 3 wr md P.n (zdG P.di):=by
    have h1:=hP.mdi
    unfold Pl.n at h1 ⊢
    dsimp only at h1
    rw[hwl]at h1
    exact h1
  refine zaa (zad (zaN (e:=3) aa rfl rfl (i) ae ae) (zad (zaG rfl (Ld.sl1 hks1 aa (iv_some hki))) (zad (zac) (zae (zaf (zah (zct (lo) ((q::md::L2)) aa ?_)))))))
  intro w901 hb901 hn901 hS901
  replace hP:=hP.new hb901
  replace hLL:=hLL.new hb901
  replace hks1:=hks1.new hb901
  replace hq:=hq.new hb901
  replace hd:=hd.new hb901
  have hq_d901:=hq
  have hd_d901:=hd
  refine zas 0 (zab) (zas 1 (zak rfl) (zas 2 (zaw 0) (zbo 3 (fun w' hS'=>zau (hq_d901.kL hS')) (zas 4 (zab) (zas 5 (zak rfl) (zas 6 (zaw 2) (zbo 7 (fun w' hS'=>zau (hq_d901.kL hS')) (zas 8 (zab) (zas 9 (zab) (zas 10 (zak rfl) (zas 11 (zaw 5) (zbo 12 (fun w' hS'=>zau (hq_d901.kL hS')) (zas 13 (zab) (zbo 14 (fun w' hS'=>zeX (k:=3) (e:=62) ((.agg zP.toArray)) aa aa aZ (hd_d901.kpd hS' ah) rfl rfl (n) aS ae ae hvv) (zaA 15 aa ?_)))))))))))))))
  have hwp:=writePl hP n X hXl hsm (by dsimp only;omega) (zcb hws ae)
  dsimp only at hwp
  refine zaU rfl rfl (zaj aa rfl) (hwp) ?_
  rintro _ w30 ⟨rfl,hP,hb30⟩
  have hS902:=hS901.zdh hn901 hb30.wk
  refine⟨hS902,?_⟩
  replace hLL:=hLL.lq hb30
  replace hks1:=hks1.kpd hb30.kp ag
  refine zas 16 (zac) (zaI aa (zaf (zah (zaa (zad (zab) (zad (zaX rfl rfl) (zae (zaf (za0 rfl (fun hne=>?_) (fun hne=>?_))))))))))
  ·
   refine bN ?_
   have hf:(za1 (zck P.G.size P.D (l.take i)).1 (1+P.G.size+n*4) (zbj X 4)).2=false:=by cases hq:(za1 (zck P.G.size P.D (l.take i)).1 (1+P.G.size+n*4) (zbj X 4)).2 with|false=>rfl|true=>simp[hq]at hne
   have hbad:zck P.G.size P.D l=((za1 (zck P.G.size P.D (l.take i)).1 (1+P.G.size+n*4) (zbj X 4)).1,false):=by
     have h1:=zhK P.G.size (l.take (i+1)) (l.drop (i+1)) P.D
     have h2:zck P.G.size P.D (l.take (i+1))=((za1 (zck P.G.size P.D (l.take i)).1 (1+P.G.size+n*4) (zbj X 4)).1,false):=by
      rw[hap,zck,if_neg (by rw[hf];simp)]
     rw[List.take_append_drop,h2,if_neg ay]at h1
     exact h1
   rw[hbad,if_neg ay]at hR
   subst hR
   refine⟨by rw[hf];rfl,hP.weak hL12,?_⟩
   exact(LoL.of_below hB0).ll hLL hL12
  ·
   have hf:(za1 (zck P.G.size P.D (l.take i)).1 (1+P.G.size+n*4) (zbj X 4)).2=true:=by cases hq:(za1 (zck P.G.size P.D (l.take i)).1 (1+P.G.size+n*4) (zbj X 4)).2 with|true=>rfl|false=>simp[hq]at hne
   rw[zck,if_pos hf,zck]at hap
   refine zat (zaP (zaf (zaa (zad (zaO rfl rfl (Coup.w64 ae)) (zad (zab) (zae (za2 ⟨i+1,ae,⟨by go_num,rfl,rfl,rfl,rfl⟩,ae,by rw[hap],by rw[hap];exact hP,hks1,hLL⟩)))))))
 ·
  have hil:i=l.length:=by omega
  subst hil
  rw[List.take_length]at hP hwok
  rw[List.take_length]at hwl
  rw[if_pos hwok]at hR
  have hobt:∃ D1,(zck P.G.size P.D l).1=D1:=⟨_,rfl⟩
  obtain⟨D1,hD1⟩:=hobt
  rw[hD1]at hP hwl hsl hR
  have hfl:=flushPl hP
  dsimp only at hfl
  have hq:=hP.row
  unfold plV at hq
  obtain⟨hdl,hdL⟩:=hP.mdl
  refine zbh (zbC (zbH (zbl (zaf (zah (zah (zaa (zad (zab) (zad (zak rfl) (zad (zaw 0) (zad (zau hq) (zao rfl (zaj aa rfl) (hfl) ?_))))))))))))
  rintro _ w39 ⟨rfl,hP,hb39⟩
  replace hLL:=hLL.lq hb39
  refine zad (zac) (zae (zaf (zah (zaa (zad (zab) (zad (zaX rfl rfl) (zae (zaf (za0 rfl (fun hne=>?_) (fun hne=>?_))))))))))
  ·
   refine cO ?_
   have hf:zbg D1=false:=by cases hq:zbg D1 with|false=>rfl|true=>simp[hq]at hne
   rw[if_neg (by rw[hf];simp)]at hR
   subst hR
   exact⟨by rw[hf];rfl,hP.weak hL12,(LoL.of_below hB0).ll hLL hL12⟩
  ·
   have hf:zbg D1=true:=by cases hq:zbg D1 with|true=>rfl|false=>simp[hq]at hne
   rw[if_pos hf]at hR
   have htr:=truncPl hP hcm (fun v hv=>by
     rw[zbu,if_pos hf]at hv
     obtain⟨u,_,rfl⟩:=List.mem_map.1 hv
     show 1≤90000
     omega)
   dsimp only at htr
   have htl:=zfE (zbu D1) P.G
   have hobt:∃ t,zc5 (zbu D1) P.G=t:=⟨_,rfl⟩
   obtain⟨⟨te,tD,tG⟩,htR⟩:=hobt
   simp only[htR]at htr htl hR
   have hq:=hP.row
   unfold plV at hq
   refine zat (zaf (zah (zah (zaa (zad (zab) (zad (zak rfl) (zad (zaw 1) (zad (zau hq) (zao rfl (zaj aa rfl) (htr) ?_)))))))))
   rintro _ w47 ⟨rfl,hP,hb47⟩
   replace hLL:=hLL.lq hb47
   refine zad (zac) (zae (zaf (zah (zaa (zad (zab) (zad (zaX rfl rfl) (zae (zaf (za0 rfl (fun hne=>?_) (fun hne=>?_))))))))))
   ·
    refine cO ?_
    have hf2:¬te=0:=hne
    rw[if_neg hf2]at hR
    subst hR
    exact⟨rfl,hP.weak hL12,(LoL.of_below hB0).ll hLL hL12⟩
   ·
    have hf2:te=0:=by simpa using hne
    rw[if_pos hf2]at hR
    subst hR
    have hq:=hP.row
    unfold plV at hq
    refine zat (zaf (zah (zaa (zad (zab) (zad (zak rfl) (zad (zaw 5) (zad (zau hq) ?_)))))))
    have hd:=hP.mdi
    refine zaD rfl (zlA (k:=3) (e:=62) aa hd rfl (fun w903 hd ho903=>?_))
    replace hLL:=hLL.oq ho903
    have hP2:=hP.setDi (c:=noP) hd ho903
    refine zae (zaf (zah (zaa (zad (zac) (zae (zaf (zaF (zan [_] ⟨rfl,trivial⟩ ?_))))))))
    exact⟨by rw[hf2];rfl,hP2.weak hL12,(LoL.of_below hB0).ll hLL hL12⟩
end
end Go.Proofs.YtdbogkndglbffaaGreat
