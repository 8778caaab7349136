import Derived.Test.YtdbogkndglbffaaGreatM4
import Derived.Test.YtdbogkndglbffaaGreatM0
import Derived.Lib.SlBytesConst
import Derived.RecoverIn
import Derived.Test.YtdbogkndglbffaaGreatM2
import Derived.Test.YtdbogkndglbffaaGreatM1
namespace Go.Proofs.YtdbogkndglbffaaGreat
open Go Go.RowKit Coup
theorem zo1(c:PgM):∀ (m a:Nat),(kvL (zdG c) a m).length=(zfB c a m).length
 |0,a=>rfl
 |m+1,a=>by
  have ih:=zo1 c m (a+1)
  rw[kvL,zfB]
  have e:zdG c a=(c a).map pgV:=rfl
  rw[e]
  cases c a with
  |some b=>simp only[Option.map_some,List.length_cons,ih]
  |none=>simpa using ih
def keepR(e:Int)(P:Pl):Pl:={P with dead:=P.dead || decide (e=10)}
def ziE(P:Pl):Int × Pl:=if(zfB P.ch 0 P.n).length=0 then((zbd P).1,keepR (zbd P).1 (zbd P).2)else(17,P)
section
variable {Y:World→List Nat→Prop}[Thing Y]{g x q mc md lo:Nat}{rv cv:Value}{L:List Nat}{P:Pl}{w w':World}
set_option maxRecDepth 20000 in
theorem checkP(h:zbE g x q mc md cv cv Y lo L P w)(hok:zk7 P)(hde:P.dead=false)(hsh:zbR P.D 70000):Calls Tryz.prog 90 [.pointer (some ⟨q,0,none⟩)].toArray w (Ret fun v w'=>v= .int .i64 (ziE P).1∧zbE g x q mc md cv cv Y lo L (ziE P).2 w'∧LoL lo L w w'):=by
 have hLL:=LoL.refl lo L w
 have hn4:=hok.n4
 have hrd:=zkF h hok.lg.szm 0
 unfold zdf at hrd
 have hin:(0:Int)≤0∧(0:Int)<(P.n:Int):=by omega
 rw[hde,if_neg ay,if_pos hin]at hrd
 have hst:=fun w' (h':zbE g x q mc md cv cv Y lo L P w')=>settleP h' hok hsh
 obtain⟨R,hR⟩:∃ R,ziE P=R:=⟨_,rfl⟩
 rw[hR]
 unfold ziE at hR
 obtain⟨⟨e,P2⟩,hse⟩:∃ p,zbd P=p:=⟨_,rfl⟩
 simp only[hse]at hst hR
 have hkp:=fun w' (h':zbE g x q mc md cv cv Y lo L P2 w')=>keepP h' e
 have hkv:=zo1 P.ch P.n 0
 have hq:=h.row
 unfold plV at hq
 have hm:=h.mch
 refine zax (fn:=Tryz.f90) (rs:=[.tmp 2]) (n:=19) Tryz.func90 rfl rfl Tryz.ntmps90 aa rfl (zah (zaa (zad (zac) (zae (zaf (zah (zah (zaa (zad (zab) (zao rfl (zaj aa rfl) (hrd) ?_))))))))))
 rintro _ w5 ⟨rfl,hb5⟩
 replace h:=h.new hb5
 replace hq:=hq.new hb5
 replace hm:=hm.new hb5
 replace hLL:=hLL.new hb5
 refine zad (zac) (zae (zaf (zah (zaa (zad (zab) (zad (zaX rfl rfl) (zae (zaf (zcF rfl (ay) (zat (zaf (zah (zah (zaa (zad (zab) (zad (zak rfl) (zad (zaw 4) (zad (zau hq) (zad (zoU (k:=3) (e:=62) aa hm rfl) (zad (zbA rfl rfl) (zae (zaf (za0 rfl (fun hgt=>?_) (fun hgt=>?_))))))))))))))))))))))))
 ·
  refine bZ ?_
  have hne:¬(zfB P.ch 0 P.n).length=0:=by rw[←hkv];omega
  rw[if_neg hne]at hR
  subst hR
  exact⟨rfl,h,hLL⟩
 ·
  have hne:(zfB P.ch 0 P.n).length=0:=by rw[←hkv];omega
  rw[if_pos hne]at hR
  subst hR
  refine zat (zaf (zah (zaa (zad (zab) (zad (zab) (zao rfl (zaj aa rfl) (hst w5 h) ?_))))))
  rintro _ w17 ⟨rfl,h,hb17⟩
  replace hLL:=hLL.lq hb17
  refine zao rfl (zaj aa rfl) (hkp w17 h) ?_
  rintro _ w18 ⟨rfl,h,hb18⟩
  replace hLL:=hLL.lq hb18
  refine cB ?_
  exact⟨rfl,h,hLL⟩
end
def zbS(P:Pl):Rec:=(zfB P.ch 0 P.n).map fun p=>⟨p.1,p.2⟩
def zcP(P:Pl):Int × Pl:=if((P.G.size - P.G.at_:Nat):Int)<zdV ((zbS P).length:Int)then zbd P else(0,P)
def zbT(P:Pl)(R:Rec):Pl:=R.foldl (fun P c=>{P with di:=zfz P.di c.num.toNat (some c.page),cl:=without P.cl c.num}) P
def ze4(P:Pl)(R:Rec):Pl:={P with D:=(zeL P.D P.G R).2.1,G:=(zeL P.D P.G R).2.2}
def zbU(P:Pl):Int × Pl:=
 if(zbS P).length=0 then(0,P)else if 60<(zbS P).length then(3,P)else if(P.G.size:Int)<zdV ((zbS P).length:Int)then(8,P)
 else if(zcP P).1=0 then
  if(zeL (zcP P).2.D (zcP P).2.G (zbS P)).1=0 then(0,{zbT (ze4 (zcP P).2 (zbS P)) (zbS P)with ch:=noP})
  else((zeL (zcP P).2.D (zcP P).2.G (zbS P)).1,keepR (zeL (zcP P).2.D (zcP P).2.G (zbS P)).1 (ze4 (zcP P).2 (zbS P)))
 else((zcP P).1,keepR (zcP P).1 (zcP P).2)
theorem ze5:∀ (R:Rec) (P:Pl),(zbT P R).D=P.D∧(zbT P R).G=P.G∧(zbT P R).fr=P.fr∧(zbT P R).ch=P.ch∧(zbT P R).dead=P.dead∧(zbT P R).n=P.n∧(zcu P.cl→zcu (zbT P R).cl)∧(zbT P R).cl.length≤P.cl.length
 |[],P=>⟨rfl,rfl,rfl,rfl,rfl,rfl,id,Nat.le_refl _⟩
 |c::R,P=>by
  obtain⟨h1,h2,h3,h4,h5,h6,h7,h8⟩:=ze5 R {P with di:=zfz P.di c.num.toNat (some c.page),cl:=without P.cl c.num}
  exact⟨h1,h2,h3,h4,h5,h6,fun hc=>h7 (zgw hc c.num),Nat.le_trans h8 (zfA P.cl c.num)⟩
theorem ziF(P:Pl):(zbd P).2.D.V.length=P.D.V.length∧(zbd P).2.G.size=P.G.size∧(zbd P).2.ch=P.ch∧(zbd P).2.cl=P.cl∧(zbd P).2.fr=P.fr∧(zbd P).2.dead=P.dead∧(zbd P).2.n=P.n:=by
 have h1:=zf8 P.G.size (zfB P.di 0 P.n) P.D
 have h3:∀ D,(zbu D).V.length=D.V.length:=fun D=>zde
 have h2:=zfE (zbu (zbz P).1) P.G
 unfold zbd
 split
 ·split
  ·have e:(zc5 (zbu (zbz P).1) P.G).2.1.V.length=P.D.V.length:=by rw[h2.1,h3];exact h1
   refine⟨e,h2.2,rfl,rfl,rfl,rfl,?_⟩
   unfold Pl.n;dsimp only;rw[e,h2.2]
  ·have e:(zbu (zbz P).1).V.length=P.D.V.length:=by rw[h3];exact h1
   refine⟨e,rfl,rfl,rfl,rfl,rfl,?_⟩
   unfold Pl.n;dsimp only;rw[e]
 ·refine⟨h1,rfl,rfl,rfl,rfl,rfl,?_⟩
  unfold Pl.n zbz;dsimp only;rw[h1]
theorem zhL{D:Dk}(h:zbg D=true):zbR (zbu D) 1:=fun v hv=>by
 rw[zbu,if_pos h]at hv
 obtain⟨u,_,rfl⟩:=List.mem_map.1 hv
 exact Nat.le_refl 1
theorem zo2{P:Pl}(hok:zk7 P)(he:(zbd P).1=0):zk7 (zbd P).2∧zbR (zbd P).2.D 1∧(zbd P).2.di=noP∧(zbd P).2.G=zkt P.G∧P.G.dead=false∧P.G.count<4611686018427387904∧
  (zbz P).2=true∧zbg (zbz P).1=true∧zd6 (zbu (zbz P).1) (P.G.count+1) (P.G.count+1)=true∧(zbd P).2.D=zcI (zbu (zbz P).1) (P.G.count+1) (P.G.count+1):=by
 obtain⟨l1,l2,l3,l4,l5,l6,l7⟩:=ziF P
 have hlg:=hok.lg
 have hcore:(zbz P).2=true∧zbg (zbz P).1=true∧P.G.dead=false∧P.G.count<4611686018427387904∧zd6 (zbu (zbz P).1) (P.G.count+1) (P.G.count+1)=true∧
   zbd P=(0,{P with D:=zcI (zbu (zbz P).1) (P.G.count+1) (P.G.count+1),G:=zkt P.G,di:=noP}):=by
  unfold zbd at he ⊢
  by_cases h1:(zbz P).2=true
  ·rw[if_pos h1]at he ⊢
   by_cases h2:zbg (zbz P).1=true
   ·rw[if_pos h2]at he ⊢
    refine⟨h1,h2,?_⟩
    generalize zbu (zbz P).1=D1 at*
    dsimp only at he
    unfold zc5 at he ⊢
    by_cases h3:P.G.dead=true
    ·rw[if_pos h3]at he;exact absurd he ay
    ·rw[if_neg h3]at he ⊢
     by_cases h4:P.G.count=4611686018427387904
     ·rw[if_pos h4]at he;exact absurd he ay
     ·rw[if_neg h4]at he ⊢
      by_cases h5:zd6 D1 (P.G.count+1) (P.G.count+1)=true
      ·rw[if_pos h5]
       exact⟨by simpa using h3,by have:=hlg.cm;omega,h5,rfl⟩
      ·rw[if_neg h5]at he;exact absurd he ay
   ·rw[if_neg h2]at he;exact absurd he ay
  ·rw[if_neg h1]at he;exact absurd he ay
 obtain⟨c1,c2,c3,c4,c5,c6⟩:=hcore
 rw[c6]at l1 l7 ⊢
 dsimp only at l1 l7
 refine⟨⟨⟨?_,?_,?_,hlg.sz4,hlg.szm,Nat.zero_le _,Nat.le_refl _,?_⟩,?_,hok.fr2,hok.frm,hok.ch,(fun i b h=>nomatch h),hok.cl,hok.cll⟩,?_,rfl,rfl,c3,c4,c1,c2,c5,rfl⟩
 ·show 1≤P.G.count+1;omega
 ·show P.G.count+1≤P.G.count+1;omega
 ·show P.G.count+1≤_;omega
 ·show 1+P.G.size≤(zcI _ _ _).V.length
  rw[l1];exact hlg.fit
 ·rw[l7];exact hok.n4
 ·unfold zd6 at c5
  rw[Bool.and_eq_true]at c5
  show zbR (zcI _ _ _) 1
  unfold zcI
  rw[if_pos c5.1]
  exact zhL c5.2
theorem ld_chp{w:World}{g t:Nat}{c:Ch}(h:row w g (chV c) t)(hc:c.page.length=512):Ld Tryz.prog w 62 ⟨g,1,none⟩ (.agg (bv c.page).toArray):=by
 have h1:=Ld.rowN (P:=Tryz.prog) (t:=62) (k:=512) (off:=1) h aa aa (by rw[zeK hc];omega)
 have e:((chV c).drop 1).take 512=bv c.page:=by
  rw[chV,List.drop_succ_cons,List.drop_zero,List.take_of_length_le (by rw[zal,hc];exact Nat.le_refl _)]
 rw[e]at h1
 exact h1
section
variable {Y:World→List Nat→Prop}[Thing Y]{g x q mc md lo:Nat}{rv cv:Value}{L:List Nat}{P:Pl}{w w':World}
end
structure RecOk(r:Rec):Prop where
 ok:zcu r
 l1:1≤r.length
 l60:r.length≤60
 num:∀ c∈r,0≤c.num
theorem ofR_all{b:List UInt8}{r:Rec}(h:ofR b=some r):b.length=516*r.length∧RecOk r:=by
 rw[ofR]at h
 split at h
 ·rename_i ho
  rw[ofOk,Bool.and_eq_true,Bool.and_eq_true]at ho
  have h1:=of_decide_eq_true ho.1.1
  have h2:=of_decide_eq_true ho.1.2
  have h3:=List.all_eq_true.1 ho.2
  have hr:=Option.some.inj h
  have hl:r.length=b.length / 516:=by rw[←hr,zlv]
  refine⟨ae,⟨fun c hc=>?_,ae,ae,fun c hc=>?_⟩⟩
  ·rw[←hr]at hc
   obtain⟨i,hi,rfl⟩:=List.mem_map.1 hc
   have:=List.mem_range.1 hi
   exact zkq ae
  ·rw[←hr]at hc
   exact(of_decide_eq_true (h3 c hc)).1
 ·cases h
theorem zmv{s c:Nat}:∀ (f k m:Nat) {X:List UInt8},X.length=m*128→m≤f→atS (zes s c k (zcO f X m))≤m∧(zes s c k (zcO f X m)).length≤atS (zes s c k (zcO f X m))∧∀ r∈zes s c k (zcO f X m),RecOk r
 |0,k,m,X,_,_=>by
  have:zes s c k (zcO 0 X m)=[]:=rfl
  rw[this];exact⟨Nat.zero_le _,Nat.zero_le _,fun r hr=>nomatch hr⟩
 |f+1,k,m,X,hl,hf=>by
  cases hj:zcc X m with
  |false=>
   have:zcO (f+1) X m=[]:=by rw[zcO,if_neg (by rw[hj];simp)]
   rw[this];exact⟨Nat.zero_le _,Nat.zero_le _,fun r hr=>nomatch hr⟩
  |true=>
   obtain⟨h0,_,h3⟩:=ze3 hj
   obtain⟨h4,h5⟩:=h3 hl
   rw[zcO,if_pos hj]
   cases ho:zhH s c k ⟨zbx (zaH X 0),zev (zaH X 0),zbJ X⟩with
   |none=>rw[zd7 ho];exact⟨Nat.zero_le _,Nat.zero_le _,fun r hr=>nomatch hr⟩
   |some r=>
    rw[ziA ho]
    obtain⟨ih1,ih2,ih3⟩:=zmv f (k+1) (m - zci (zbJ X).length) (s:=s) (c:=c) (X:=X.drop (128*zci (zbJ X).length)) (by rw[List.length_drop,hl];omega) ae
    have hr:ofR (zbJ X)=some r:=by
     unfold zhH at ho
     split at ho
     ·exact ho
     ·cases ho
    obtain⟨hb,hrk⟩:=ofR_all hr
    have:atS (r::zes s c (k+1) (zcO f (X.drop (128*zci (zbJ X).length)) (m - zci (zbJ X).length)))=zci (516*r.length)+atS (zes s c (k+1) (zcO f (X.drop (128*zci (zbJ X).length)) (m - zci (zbJ X).length))):=by simp[atS]
    rw[this,←hb,List.length_cons]
    refine⟨ae,ae,fun x hx=>?_⟩
    rcases List.mem_cons.1 hx with rfl|hx
    ·exact hrk
    ·exact ih3 x hx
theorem zo3{D:Dk}(h:zka D){n:Nat}(hn:1+n≤D.V.length):(znl D n).length=n*128:=by
 unfold znl
 rw[zgY]
 ·simp
 ·intro s hs
  obtain⟨i,hi,rfl⟩:=List.mem_map.1 hs
  exact zf5 h (by have:=List.mem_range.1 hi;omega)
theorem ziG{D:Dk}{G:Lg}(h:zka D)(hn:1+G.size≤D.V.length):atS (zcR D G)≤G.size∧(zcR D G).length≤atS (zcR D G)∧∀ r∈zcR D G,RecOk r:=
 zmv G.size 0 G.size (zo3 h hn) (Nat.le_refl _)
def zgR(n:Nat)(c:PgM)(R:Rec):PgM:=R.foldl (fun c h=>if h.num<(n:Int)then zfz c h.num.toNat (some h.page)else c) c
def zdD(n:Nat)(S:List Rec):PgM:=S.foldl (zgR n) noP
theorem znr{R:Rec}{i:Nat}{h:Ch}(hh:R[i]?=some h)(n:Nat)(c:PgM):zgR n c (R.take (i+1))=if h.num<(n:Int)then zfz (zgR n c (R.take i)) h.num.toNat (some h.page)else zgR n c (R.take i):=by
 rw[List.take_add_one,hh,zgR,List.foldl_append]
 rfl
theorem zlD{S:List Rec}{i:Nat}{r:Rec}(hh:S[i]?=some r)(n:Nat):zdD n (S.take (i+1))=zgR n (zdD n (S.take i)) r:=by
 rw[List.take_add_one,hh,zdD,List.foldl_append]
 rfl
theorem zmw{n:Nat}:∀ (R:Rec) {c:PgM},zcu R→(∀ i b,c i=some b→b.length=512)→∀ i b,zgR n c R i=some b→b.length=512
 |[],c,_,h=>h
 |r::R,c,hR,h=>by
  refine zmw R (fun x hx=>hR x (List.mem_cons_of_mem _ hx)) ?_
  intro i b hb
  dsimp only at hb
  split at hb
  ·unfold zfz at hb
   split at hb
   ·rw[←Option.some.inj hb];exact hR r (List.mem_cons_self ..)
   ·exact h i b hb
  ·exact h i b hb
theorem zkI{n:Nat}:∀ (S:List Rec) {c:PgM},(∀ r∈S,zcu r)→(∀ i b,c i=some b→b.length=512)→∀ i b,S.foldl (zgR n) c i=some b→b.length=512
 |[],c,_,h=>h
 |r::S,c,hS,h=>zkI S (fun x hx=>hS x (List.mem_cons_of_mem _ hx)) (zmw r (hS r (List.mem_cons_self ..)) h)
def zcv(D:Dk)(n:Nat)(fr:Nat):Pl:=
 ⟨zcI D (hdC (za8 D 0)+1) (hdS (za8 D 0)),⟨hdC (za8 D 0)+1,hdS (za8 D 0),n,(zcR D (zet D n)).length,atS (zcR D (zet D n)),false⟩,fr,noP,zdD (zgJ D.V.length n) (zcR D (zet D n)),[],false⟩
def zid(D:Dk)(n:Nat)(fr:Nat):Int × Pl:=if(zcR D (zet D n)).length=0 then(0,zcv D n fr)else ziE (zcv D n fr)
theorem zmx(D:Dk)(n fr:Nat):(zcv D n fr).n=zgJ D.V.length n:=by
 unfold Pl.n zcv;dsimp only;rw[zf9]
theorem zns{D:Dk}{n:Int}(he:zf6 D n=0):zf4 D.V.length n=true∧zmm (za8 D 0)=true∧hdC (za8 D 0)<4611686018427387904∧1≤hdS (za8 D 0)∧hdS (za8 D 0)≤hdC (za8 D 0):=by
 have hfit:zf4 D.V.length n=true:=Decidable.byContradiction fun hc=>by
  unfold zf6 at he;rw[if_neg hc]at he;cases he
 have his:zmm (za8 D 0)=true:=Decidable.byContradiction fun hc=>by
  unfold zf6 at he;rw[if_pos hfit,if_neg hc]at he;cases he
 have hCn:hdC (za8 D 0)≠4611686018427387904:=fun hc=>by
  unfold zf6 at he;rw[if_pos hfit,if_pos his]at he;rw[if_pos hc]at he;cases he
 have hi2:=his
 rw[zmm,Bool.and_eq_true,Bool.and_eq_true,Bool.and_eq_true]at hi2
 have h3:=of_decide_eq_true hi2.2
 exact⟨hfit,his,ae,of_decide_eq_true hi2.1.1.2,of_decide_eq_true hi2.1.2⟩
theorem zo4{D:Dk}(h:zka D){n fr:Nat}(he:zf6 D n=0)(hc:4≤zgJ D.V.length n)(h2:2≤fr)(hm:fr≤100):zk7 (zcv D n fr):=by
 obtain⟨h3,h4,h5,h6,h7⟩:=zns he
 have hft:=of_decide_eq_true h3
 have hG:(zet D n).size=n:=by rw[zet,Int.toNat_natCast]
 obtain⟨r1,r2,r3⟩:=ziG (G:=zet D n) h (by rw[hG];omega)
 rw[hG]at r1
 refine⟨⟨h6,?_,?_,?_,?_,r1,r2,?_⟩,by rw[zmx];exact hc,h2,hm,(fun i b h=>nomatch h),?_,(fun c hc=>nomatch hc),Nat.zero_le _⟩
 ·show hdS (za8 D 0)≤hdC (za8 D 0)+1;omega
 ·show hdC (za8 D 0)+1≤_;omega
 ·show 4≤n;omega
 ·show n≤4000;omega
 ·show 1+n≤(zcI _ _ _).V.length;rw[zf9];omega
 ·exact zkI _ (fun r hr=>(r3 r hr).ok) (fun i b h=>nomatch h)
def noPool(e:Int):Value:=.tuple #[.pointer none, .int .i64 e]
def poolE(D:Dk)(n fr:Int):Int:=if zgJ D.V.length n<4 then 2 else if 2≤fr∧fr≤100 then zf6 D n else 2
theorem zqA{l:Nat}{n:Int}(h:4≤zgJ l n):4≤n∧n≤4000∧1+n.toNat+16≤l:=by
 unfold zgJ at h
 split at h
 ·omega
 ·omega
section
variable {Y:World→List Nat→Prop}[Thing Y]{g x q mc md lo:Nat}{rv cv:Value}{L:List Nat}{P:Pl}{D:Dk}{w w':World}
omit [Thing Y] in
theorem zbE.left{Z:World→List Nat→Prop}(h:zbE g x q mc md rv cv (zly Y Z) lo L P w):zbE g x q mc md rv cv Y lo L P w:=
 ⟨⟨zjo h.lg.two,h.lg.rowx,h.lg.ge,h.lg.ni⟩,h.row,h.mch,h.mdi,h.own,h.qm,h.qd,h.md',h.cq,h.ql,h.mcl,h.mdl⟩
omit [Thing Y] in
theorem two_all{X:World→List Nat→Prop}{p:Option Addr}{S:List Rec}(h:Two X (zly Y (zlx p S)) lo L w):∃ vs,zaS w p S.length 1 vs∧(0<S.length→∀ b o,p=some ⟨b,o,none⟩→b∉L)∧∀ (i:Nat) r,S[i]?=some r→∃ b off c,vs[i]?=some (.slice (some ⟨b,off,none⟩) r.length c)∧zaS w (some ⟨b,off,none⟩) r.length 513 (zcj r)∧b∉L:=by
 obtain⟨⟨B,_,h1,⟨C1,C2,rfl,h2,⟨a1,vs,a2,a3,a4⟩⟩,h3,h4⟩,h5,h6⟩:=h
 refine⟨vs,a2,fun h0 b o e=>(h4 b (List.mem_append_right _ (a3 h0 b o e))).2,fun i r hr=>?_⟩
 obtain⟨b,off,c,e1,e2,e3⟩:=a4 i r hr
 exact⟨b,off,c,e1,e2,(h4 b (List.mem_append_right _ e3)).2⟩
set_option maxRecDepth 20000 in
set_option maxHeartbeats 2000000 in
theorem openOk(h:Two (DZ g D) Y lo L w)(n fr:Nat)(hc:¬zgJ D.V.length n<4)(hf:2≤fr∧fr≤100)(he:zf6 D n=0)(hsh:zbR D 60000)(hok:zd6 D (hdC (za8 D 0)+1) (hdS (za8 D 0))=true):
   Calls Tryz.prog 33 [.pointer (some ⟨g,0,none⟩), .int .i64 (n:Int), .int .i64 (fr:Int)].toArray w (Ret fun v w'=>(((zid D n fr).1≠0∧v=noPool (zid D n fr).1∧Two (DZ g (zid D n fr).2.D) Y lo L w')∨
     ((zid D n fr).1=0∧∃ x q mc md cv,v= .tuple #[.pointer (some ⟨q,0,none⟩), .int .i64 0]∧zbE g x q mc md cv cv Y lo L (zid D n fr).2 w'))∧LoL lo L w w'):=by
 have hLL:=LoL.refl lo L w
 have hml:maxLen=9223372036854775807:=by decide
 have hfit:=zqA (Nat.not_lt.1 hc)
 have hM:=mayP h (n:Int) ⟨ae,ae⟩
 rw[if_neg hc]at hM
 have hDk:=(tOk h).1
 have hpok:=zo4 hDk he (Nat.not_lt.1 hc) hf.1 hf.2
 have hrec:=ziG (G:=zet D n) hDk (by rw[zet,Int.toNat_natCast];dsimp only;omega)
 have hshP:zbR (zcv D n fr).D 70000:=by
   show zbR (zcI _ _ _) 70000
   unfold zd6 at hok
   rw[Bool.and_eq_true]at hok
   unfold zcI
   rw[if_pos hok.1]
   exact zcb (zhL hok.2) ae
 have hPn:=zmx D n fr
 have hVl:(zcv D n fr).D.V.length=D.V.length:=zf9 _ _ _
 obtain⟨S,hS⟩:∃ S,zcR D (zet D n)=S:=⟨_,rfl⟩
 have hO:=(openYes h n he (zcb hsh ae)).to fun v w' ⟨ok,D2,C,s,S2,e1,e2,e3,e4,e5,k,hh⟩=>(show ∃ x p c,v=Value.tuple #[Value.pointer (some ⟨x,0,none⟩),Value.slice p S.length c,Value.int .i64 0]∧S.length≤c∧zew g x (zly Y (zlx p S)) lo L (zcv D n fr).D (zcv D n fr).G w'∧LoL lo L w w' from by
   subst e3 e4
   rw[hok]at e1
   subst e1
   have e6:S2=S:=by rw[←e5,hS]
   subst e6
   rcases hh with⟨h2,_⟩|⟨_,x,p,c,h2,h3,h4⟩
   · cases h2
   · refine⟨x,p,c,h2,h3,?_,k⟩
     have eD:(zcv D n fr).D=D2:=by rw[←e2];rfl
     have eG:(zcv D n fr).G=⟨hdC (za8 D 0)+1,hdS (za8 D 0),n,S2.length,atS S2,false⟩:=by unfold zcv;dsimp only;rw[hS]
     rw[eD,eG]
     exact h4)
 obtain⟨N,hN⟩:∃ N,zgJ D.V.length n=N:=⟨_,rfl⟩
 have hdi0:(zcv D n fr).di=zdD N S:=by unfold zcv;dsimp only;rw[hS,hN]
 have hRe:zid D n fr=if S.length=0 then(0,zcv D n fr)else ziE (zcv D n fr):=by unfold zid;rw[hS]
 have hP1:(zcv D n fr).fr=fr∧(zcv D n fr).ch=noP∧(zcv D n fr).cl=[]∧(zcv D n fr).dead=false∧(zcv D n fr).G.size=n:=⟨rfl,rfl,rfl,rfl,rfl⟩
 rw[hN]at hPn
 rw[hS]at hrec
 have hSl:S.length≤4000:=by
   have h1:=hrec.1
   have h2:=hrec.2.1
   rw[show(zet D n).size=n by rw[zet,Int.toNat_natCast]]at h1
   omega
 obtain⟨Z,hZ⟩:∃ Z,zid D n fr=Z:=⟨_,rfl⟩
 rw[hZ]at hRe ⊢
 generalize zcv D n fr=P0 at*
 obtain⟨p1,p2,p3,p4,p5⟩:=hP1
 have hNl:N≤2048:=by
   have h1:=hDk.n
   have h2:=zoW D.V.length n
   omega
 have hcnt:∀ c x q mc md p L' w',zbE g x q mc md (.slice none 0 0) (.slice none 0 0) (zly Y (zlx p S)) lo L' {P0 with di:=c} w'→Calls Tryz.prog 86 [.pointer (some ⟨g,0,none⟩), .int .i64 (n:Int)].toArray w' (Ret fun v w''=>v= .int .i64 (N:Int)∧w'=w''):=fun c x q mc md p L' w' h'=>by
   have h1:=countP h'.lg.fst (n:Int) ⟨ae,ae⟩
   dsimp only at h1
   rw[hVl,hN]at h1
   exact h1
 have hlo:=h.lo
 have hLt:=h.lt
 refine zax (fn:=Tryz.f33) (rs:=[.tmp 6, .tmp 7]) (n:=85) Tryz.func33 rfl rfl Tryz.ntmps33 aa rfl (zah (zaa (zad (zac) (zad (zac) (zae (zaf (zah (zah (zaa (zad (zab) (zad (zab) (zao rfl (zaj aa rfl) (hM) ?_))))))))))))
 rintro _ _ ⟨rfl,rfl⟩
 refine zad (zac) (zae (zaf (zah (zaa (zad (zab) (zad (zaX rfl rfl) (zae (zaf (zcF rfl (ay) (zat (zaf (zah (zah (zaa (zad (zab) (zad (zaY rfl rfl) (zad (zab) (zfl 26 rfl (ae) (zaq rfl (zad (zab) (zaq rfl (zad (zbA rfl rfl) (zad (zaE rfl) (zae (zaf (zcF rfl (ae) (zat (zaf (zah (zaa (zad (zab) (zad (zab) (zao rfl (zaj aa rfl) (hO) ?_)))))))))))))))))))))))))))))))))
 rintro _ w33 ⟨x,p,cp,rfl,hcp,hG,hb33⟩
 replace hLL:=hLL.lq hb33
 refine zad (zab) (zad (zai rfl rfl) (zad (zai rfl rfl) (zad (zai rfl rfl) (zad (zac) (zad (zac) (zad (zac) (zae (zaf (zah (zah (zaa (zad (zab) (zad (zaX rfl rfl) (zae (zaf (zcF rfl (ay) (zat (zaf (zah (zaa (zad (zab) (zad (zab) (zad (zab) (zad (zab) ?_))))))))))))))))))))))))
 have hs33:=hLL.size
 refine zaD rfl (zeY (k:=3) N (fun m44 w44 hgm44 hm44 hb44=>?_))
 replace hG:=hG.newc hb44 hgm44 hm44.lt
 have l44:=hm44.lt
 replace hLL:=hLL.new hb44
 refine zaD rfl (zeY (k:=3) N (fun m45 w45 hgm45 hm45 hb45=>?_))
 replace hG:=hG.newc hb45 hgm45 hm45.lt
 have l45:=hm45.lt
 have b45:=hb45.size
 replace hLL:=hLL.new hb45
 replace hm44:=hm44.new hb45
 refine zad (zoV (.pointer (some ⟨g,0,none⟩)) (.pointer (some ⟨x,0,none⟩)) (.int .i64 (n:Int)) (.int .i64 (fr:Int)) (.map (some m44)) (.map (some m45)) [.pointer (some ⟨g,0,none⟩), .pointer (some ⟨x,0,none⟩), .int .i64 (n:Int), .int .i64 (fr:Int), .map (some m44), .map (some m45), .slice none 0 0, .bool false] rfl rfl rfl rfl rfl rfl aa) (zaD rfl (za4 ([.pointer (some ⟨g,0,none⟩), .pointer (some ⟨x,0,none⟩), .int .i64 (n:Int), .int .i64 (fr:Int), .map (some m44), .map (some m45), .slice none 0 0, .bool false]) rfl (fun g47 w47 hg47 hr47 hb47=>?_)))
 replace hLL:=hLL.new hb47
 replace hm44:=hm44.new hb47
 replace hG:=hG.newc hb47 hg47 hr47.lt
 replace hm45:=hm45.new hb47
 refine zad (zac) (zae (zaf (zah (zah (zaa (zad (zab) (zad (zaB (e:=114) (sz:=1) aa rfl rfl) (zad (zab) (zae (zaf (zav ?_)))))))))))
 have hN0:∀ c,({P0 with di:=c}:Pl).n=N:=fun _=>hPn
 have a1:row w47 g47 (plV g x P0.G.size P0.fr m44 m45 (.slice none 0 0) P0.dead) 116:=by rw[plV,p1,p4,p5];exact hr47
 have a2:MapAt Tryz.prog 3 w47 m44 ({P0 with di:=zdD N (S.take 0)}:Pl).n (zdG P0.ch):=by rw[hN0,p2];exact hm44
 have a3:MapAt Tryz.prog 3 w47 m45 ({P0 with di:=zdD N (S.take 0)}:Pl).n (zdG (zdD N (S.take 0))):=by rw[hN0];exact hm45
 have a4:zaz w47 0 147 513 (.slice none 0 0) P0.cl.length (zcj P0.cl):=by rw[p3];exact zbp _ _ _ _
 have hP:zbE g x g47 m44 m45 (.slice none 0 0) (.slice none 0 0) (zly Y (zlx p S)) lo L {P0 with di:=zdD N (S.take 0)} w47:=
   ⟨hG.weak (fun b hb=>by
     simp only[Value.ownBlock,Option.toList_none,List.nil_append,List.mem_cons]at hb ⊢
     rcases hb with hb|hb|hb|hb
     · exact .inl hb
     · exact .inr (.inr (.inl hb))
     · exact .inr (.inl hb)
     · exact .inr (.inr (.inr hb))),a1,a2,a3,a4,ae,ae,ae,(fun b hb=>nomatch hb),⟨ae,fun hm=>by have:=hLt _ hm;omega⟩,⟨ae,fun hm=>by have:=hLt _ hm;omega⟩,⟨ae,fun hm=>by have:=hLt _ hm;omega⟩⟩
 have hTA:=two_all hP.lg.two
 obtain⟨vs,hvs,hpL,hall⟩:=hTA
 have hK:=KpB.refl [m45] w47
 clear hG
 refine zbq (α:=Nat) 0 (fun i=>[(50, .int .i64 (i:Nat)),(49, .int .i64 (S.length:Int)),(48, .slice p S.length cp),(10, .slice p S.length cp),(12, .pointer (some ⟨g47,0,none⟩)),(0, .pointer (some ⟨g,0,none⟩)),(1, .int .i64 (n:Int))])
   (fun i w'=>i≤S.length∧zbE g x g47 m44 m45 (.slice none 0 0) (.slice none 0 0) (zly Y (zlx p S)) lo L {P0 with di:=zdD N (S.take i)} w'∧KpB [m45] w47 w'∧LoL lo L w w') (fun i=>S.length - i)
   ⟨rfl,rfl,rfl,rfl,rfl,rfl,rfl,rfl⟩ ⟨Nat.zero_le _,hP,hK,hLL⟩ ?_
 clear hP hK hLL
 rintro i f wr ⟨hi,hP,hK,hLL⟩
 refine zah (zaa (zad (zaY rfl rfl) (zae (zaf (zah (za0 rfl (fun hlt=>?_) (fun hlt=>?_)))))))
 ·
  refine bL ?_
  have hob:∃ r,S[i]?=some r:=⟨_,List.getElem?_eq_getElem ae⟩
  obtain⟨r,hr⟩:=hob
  have hrk:=hrec.2.2 r (List.mem_of_getElem? hr)
  have hal:=hall i r hr
  obtain⟨gb,ob,cb,hvi,hrs,hgbL⟩:=hal
  have hobg:=hvs.some ae
  obtain⟨gp,op,hgp,hgpl⟩:=hobg
  subst hgp
  have hgpm:gp∉[m45]:=fun hm=>hpL ae gp op rfl (by rw[List.mem_singleton.1 hm];simp)
  have hgbm:gb∉[m45]:=fun hm=>hgbL (by rw[List.mem_singleton.1 hm];simp)
  have hvsw:=hvs.kpd hK.k (fun b o e=>by cases e;exact hgpm)
  have haa:=zlD hr N
  have hr60:=hrk.l60
  refine zaa (zad (zaN (e:=114) aa rfl rfl (i) ae ae) (zad (zaG rfl (Ld.sl1 hvsw aa hvi)) (zad (zac) (zae (zaf (zah (zaa (zad (zab) (zad (zaB (e:=147) (sz:=513) aa rfl rfl) (zad (zab) (zae (zaf (zav ?_)))))))))))))
  refine zbq (α:=Nat) 0 (fun k=>[(56, .int .i64 (k:Nat)),(55, .int .i64 (r.length:Int)),(54, .slice (some ⟨gb,ob,none⟩) r.length cb),(50, .int .i64 (i:Nat)),(49, .int .i64 (S.length:Int)),(48, .slice (some ⟨gp,op,none⟩) S.length cp),(10, .slice (some ⟨gp,op,none⟩) S.length cp),(12, .pointer (some ⟨g47,0,none⟩)),(0, .pointer (some ⟨g,0,none⟩)),(1, .int .i64 (n:Int))])
    (fun k w'=>k≤r.length∧zbE g x g47 m44 m45 (.slice none 0 0) (.slice none 0 0) (zly Y (zlx (some ⟨gp,op,none⟩) S)) lo L {P0 with di:=zgR N (zdD N (S.take i)) (r.take k)} w'∧KpB [m45] w47 w'∧LoL lo L w w') (fun k=>r.length - k)
    ⟨rfl,rfl,rfl,rfl,rfl,rfl,rfl,rfl,rfl,rfl,rfl⟩ ⟨Nat.zero_le _,hP,hK,hLL⟩ ?_
  clear hP hK hLL hvsw
  rintro k f2 w2 ⟨hk,hP,hK,hLL⟩
  refine zah (zaa (zad (zaY rfl rfl) (zae (zaf (zah (za0 rfl (fun hlt2=>?_) (fun hlt2=>?_)))))))
  ·
   refine bL ?_
   have hob:∃ ch,r[k]?=some ch:=⟨_,List.getElem?_eq_getElem ae⟩
   obtain⟨ch,hch⟩:=hob
   have hcm:=List.mem_of_getElem? hch
   have hXl:=hrk.ok ch hcm
   have hnum:=hrk.num ch hcm
   have hchl:(chV ch).length=513:=zeK hXl
   have hch1:=zfx ch
   have hrsw:=hrs.kpd hK.k (fun b o e=>by cases e;exact hgbm)
   have had:=znr hch N (zdD N (S.take i))
   have hKs:=hK.k.size
   have hLs:=hLL.size
   refine zaa (zad (zbe (e:=147) (sz:=513) aa rfl rfl (k) ae ae) (zad (zaG rfl (zqm hrsw hrk.ok hch)) (zaD rfl (zar (([Value.int .i64 0])++(List.replicate 512 (Value.int .u8 0))) aa (fun g16 w16 hg16 hr16 hb16=>?_)))))
   replace hLL:=hLL.new hb16
   replace hP:=hP.newc hb16 hg16 hr16.lt
   replace hK:=hK.new hb16
   refine zaK rfl (zaQ 513 (chV ch) hr16 (fun w901 hr16 ho901=>?_))
   replace hLL:=hLL.oq ho901
   replace hP:=hP.only ho901 ai
   replace hK:=hK.only ho901 aB
   refine zae (zaf (zah (za3 [] aa ?_)))
   intro w902 hb902 hS902
   replace hLL:=hLL.new hb902
   replace hP:=hP.new hb902
   replace hK:=hK.new hb902
   replace hr16:=hr16.new hb902
   have hP_d902:=hP
   have hr16_d902:=hr16
   refine zas 0 (zaw 0) (zbo 1 (fun w' hS'=>zau (hr16_d902.kq hS')) (zas 2 (zab) (zas 3 (zab) (zdS 4 aa rfl (fun _=>zaj aa rfl) (fun w' hS'=>hcnt _ _ _ _ _ _ _ w' (hP_d902.kpd hS' ah)) (zas 5 (zaY rfl rfl) (zaI aa (zaf (za0 rfl (fun hin=>?_) (fun hin=>?_)))))))))
   ·
    have hin2:ch.num<(N:Int):=hin
    rw[if_pos hin2]at had
    have hobn:∃ j:Nat,ch.num=j∧j<N:=⟨ch.num.toNat,ae,ae⟩
    obtain⟨j,hj,hjN⟩:=hobn
    have hjt:ch.num.toNat=j:=by omega
    rw[hjt]at had
    have hq:=hP.row
    unfold plV at hq
    have hd:MapAt Tryz.prog 3 w902 m45 N (zdG (zgR N (zdD N (S.take i)) (r.take k))):=by
      have h1:=hP.mdi
      have e:({P0 with di:=zgR N (zdD N (S.take i)) (r.take k)}:Pl).n=N:=hPn
      rw[e]at h1
      exact h1
    have hg16:g16≠m45:=fun e=>hP.mdl.2 (by rw[e];simp)
    have hqd:=hP.qd
    have hobm:=hP.mdl
    obtain⟨hmdl,hmdL⟩:=hobm
    have hmdL2:m45∉L:=fun hm=>hmdL (List.mem_cons_of_mem _ hm)
    refine za3 [m45] aa ?_
    intro w903 hb903 hS903
    replace hLL:=hLL.new hb903
    replace hP:=hP.new hb903
    replace hK:=hK.new hb903
    replace hr16:=hr16.new hb903
    replace hq:=hq.new hb903
    replace hd:=hd.new hb903
    have hr16_d903:=hr16
    have hq_d903:=hq
    refine zas 0 (zab) (zas 1 (zak rfl) (zas 2 (zaw 5) (zbo 3 (fun w' hS'=>zau (hq_d903.kq hS')) (zas 4 (zaw 0) (zbo 5 (fun w' hS'=>zau (hr16_d903.kq hS')) (zas 6 (zaw 1) (zbo 7 (fun w' hS'=>zaG rfl (ld_chp (hr16_d903.kq hS') hXl)) (zaA 8 aa (zbB rfl rfl (zeH (k:=3) (e:=62) (.agg (bv ch.page).toArray) aa aa hd rfl rfl rfl (j) aS ae ae (fun w905 hd ho905=>?_)))))))))))
    have hS904:=hS903.aq ho905
    refine⟨hS904,?_⟩
    replace hLL:=hLL.oq ho905
    replace hK:=hK.only ho905 aB
    rw[zhJ,←had]at hd
    have hPe:MapAt Tryz.prog 3 w905 m45 P0.n (zdG (zgR N (zdD N (S.take i)) (r.take (k+1)))):=by rw[hPn];exact hd
    have hP9:=hP.setDi hPe ho905
    refine zaI aa (zaP (zaf (zaa (zad (zaO rfl rfl (Coup.w64 ae)) (zad (zab) (zae (za2 ⟨k+1,ae,⟨by go_num,rfl,rfl,rfl,rfl,rfl,rfl,rfl,rfl,rfl,rfl⟩,ae,hP9.weak (fun b hb=>List.mem_cons_of_mem _ hb),hK,hLL⟩)))))))
   ·
    have hin2:¬ch.num<(N:Int):=hin
    rw[if_neg hin2]at had
    refine zat (zaP (zaf (zaa (zad (zaO rfl rfl (Coup.w64 ae)) (zad (zab) (zae (za2 ⟨k+1,ae,⟨by go_num,rfl,rfl,rfl,rfl,rfl,rfl,rfl,rfl,rfl,rfl⟩,ae,by rw[had];exact hP.weak (fun b hb=>List.mem_cons_of_mem _ hb),hK,hLL⟩)))))))
  ·
   have hkr:k=r.length:=by omega
   subst hkr
   rw[List.take_length]at hP
   rw[←haa]at hP
   refine zbh (zbC (zbH (zbl (zaP (zaf (zaa (zad (zaO rfl rfl (Coup.w64 ae)) (zad (zab) (zae (za2 ⟨i+1,ae,⟨by go_num,rfl,rfl,rfl,rfl,rfl,rfl,rfl⟩,ae,hP,hK,hLL⟩))))))))))
 ·
  have hiS:i=S.length:=by omega
  subst hiS
  rw[List.take_length,←hdi0]at hP
  replace hP:zbE g x g47 m44 m45 (.slice none 0 0) (.slice none 0 0) (zly Y (zlx p S)) lo L P0 wr:=hP
  have hck:=checkP hP hpok p4 hshP
  refine zbh (zbC (zbH (zbl (zaf (zah (zah (zaa (zad (zab) (zad (zaB (e:=114) (sz:=1) aa rfl rfl) (zad (zbA rfl rfl) (zae (zaf (za0 rfl (fun hgt=>?_) (fun hgt=>?_))))))))))))))
  ·
   refine zah ?_
   rw[if_neg ae]at hRe
   rw[←hRe]at hck
   refine zaa (zad (zab) (zao rfl (zaj aa rfl) (hck) ?_))
   rintro _ w80 ⟨rfl,hP,hb80⟩
   replace hLL:=hLL.lq hb80
   refine zad (zac) (zae (zaf (zah (zaa (zad (zab) (zad (zaX rfl rfl) (zae (zaf (za0 rfl (fun hne=>?_) (fun hne=>?_))))))))))
   ·
    refine zah (zaa (zad (zab) (zad (zac) (zad (zac) (zae (zaf (zaF (zaW (zan [_,_] ⟨rfl,rfl,trivial⟩ ?_)))))))))
    have hne2:Z.1≠0:=hne
    refine⟨.inl ⟨hne2,rfl,?_⟩,hLL⟩
    exact(zjo hP.lg.fst).weak fun b hb=>by simp[hb]
   ·
    have hne2:Z.1=0:=by simpa using hne
    refine dN ?_
    exact⟨.inr ⟨hne2,_,_,_,_,_,rfl,hP.left⟩,hLL⟩
  ·
   rw[if_pos ae]at hRe
   subst hRe
   refine dN ?_
   exact⟨.inr ⟨rfl,_,_,_,_,_,rfl,hP.left⟩,hLL⟩
end
end Go.Proofs.YtdbogkndglbffaaGreat
namespace Coup
open Go Go.RowKit
section
variable {P:Program}{ρ:Env}{w:World}{d:Option Nat}{ty:TypeId}{pos:String}{af:Array Edge}{gd:Option (Nat × Bool)}
def numBytesT (P : Program) (t : Nat) (k : IntKind) (n : Nat) : Bool :=
  (match P.underlying t with
   | some (.struct fs) => (match fs.toList with
     | [f0, f1] => (f0.name != "_") && (f1.name != "_") && Nat.beq f0.offset 0 && Nat.beq f1.offset 1 && intT P f0.type k && zfr P f1.type n && (match P.info? f1.type with | some i => Nat.beq i.size n | none => false) && (match P.underlying f1.type with | some (.array _ _) => true | _ => false)
     | _ => false)
   | _ => false) && !P.eqGuardType P.depth t && !P.stoodInHeld t
end
end Coup
namespace Go.Proofs.YtdbogkndglbffaaGreat
open Go Go.RowKit Coup
def AllR(w:World)(p:Option Addr)(S:List Rec):Prop:=∃ vs,zaS w p S.length 1 vs∧∀ (i:Nat) (r:Rec),S[i]?=some r→∃ q c,vs[i]?=some (.slice q r.length c)∧zaS w q r.length 513 (zcj r)
theorem zlx.r{w:World}{p:Option Addr}{S:List Rec}{C:List Nat}(h:zlx p S w C):AllR w p S:=by
 obtain⟨_,vs,h2,_,h4⟩:=h
 exact⟨vs,h2,fun i r hr=>let ⟨b,off,c,h5,h6,_⟩:=h4 i r hr;⟨_,c,h5,h6⟩⟩
theorem AllR.new{w w':World}{p:Option Addr}{S:List Rec}(h:AllR w p S)(hb:Below w.heap.size w w'):AllR w' p S:=by
 obtain⟨vs,h2,h4⟩:=h
 exact⟨vs,h2.new hb,fun i r hr=>let ⟨q,c,h5,h6⟩:=h4 i r hr;⟨q,c,h5,h6.new hb⟩⟩
def allOk(S:List Rec):Prop:=∀ r∈S,zcu r∧r.length≤1000000
end Go.Proofs.YtdbogkndglbffaaGreat
namespace Coup
open Go Go.RowKit
section
variable {P:Program}{ρ:Env}{w:World}{d:Option Nat}{ty:TypeId}{pos:String}{af:Array Edge}{gd:Option (Nat × Bool)}{K:Value→World→Prop}
theorem znt{g tt k:Nat}{cs:List Value}(hr:row w g cs tt):(w.freeze ⟨g,k,none⟩ 1).heap[g]?=some (.cells cs.toArray tt (k,k+1))∧Only g w (w.freeze ⟨g,k,none⟩ 1):=by
 have hr':w.heap[g]?=some (.cells cs.toArray tt):=hr
 refine⟨?_,?_⟩
 ·unfold World.freeze
  rw[if_neg aD]
  simp[Array.getElem?_modify,hr']
 ·unfold World.freeze
  rw[if_neg aD]
  refine⟨rfl,rfl,rfl,ay,fun j hj=>?_⟩
  simp[Array.getElem?_modify,Ne.symm hj]
theorem mk_mark {t e g n c tt:Nat} {x:Operand} {cs:List Value} (ht:P.underlying t=some (.slice e)) (he:P.underlying e=some (.int .u8)) (hx:ev ρ x= .slice (some ⟨g,0,none⟩) n c) (hr:row w g cs tt) (hn:cs.length=n) (hm:n≤maxLen)
  (h:∀ w',zaS w' (some ⟨g,0,none⟩) n 1 cs→Only g w w'→K (.slice (some ⟨g,0,none⟩) n c) w'):Mk P ρ w ⟨d, .convert t t x,ty,pos,af,gd⟩ K:=by
 have hr':w.heap[g]?=some (.cells cs.toArray tt):=hr
 have hsh:w.shape? g=some (tt,cs.length):=by unfold World.shape?;rw[hr'];simp
 obtain⟨h1,h2⟩:=znt (k:=cs.length) hr
 have hrun:(convert t t (.slice (some ⟨g,0,none⟩) n c)).run P w= .ok (.slice (some ⟨g,0,none⟩) n c) (w.freeze ⟨g,cs.length,none⟩ 1):=by
  simp[convert,run_underlying ht,run_underlying he,markStringish,hsh]
 refine⟨_,_,?_,h _ ⟨by rw[hn,Nat.mul_one],hm,fun h0=>⟨g,0,rfl,?_,fun j hj=>?_⟩⟩ h2⟩
 ·simp only[execOp,hx,Sem.run_bind,hrun,Result.andThen_ok];rfl
 ·exact(Array.getElem?_eq_some_iff.1 h1).1
 ·unfold World.cell?
  rw[h1]
  simp
theorem znu {t t' e sz bytes:Nat} {s x:Operand} {m k c cap g0 o0:Nat} {xs news:List Value} {sp:Option Addr} {z:Value} (ht:P.underlying t=some (.slice e)) (ht':t'=t)
  (hi:(P.info? e).map (fun i=>(i.zero,i.size,i.bytes))=some (some z,sz,bytes)) (hzs:z.cells.size=sz) (hsz:0<sz) (hs:ev ρ s= .slice (some ⟨g0,o0,none⟩) m cap) (hold:zaS w (some ⟨g0,o0,none⟩) m sz xs)
  (hx:ev ρ x= .slice sp k c) (hsrc:zaS w sp k sz news) (hcap:cap<m+k) (hk:0<k) (h63:m+k≤maxLen) (hbytes:(m+k)*bytes≤140737488355328)
  (h:∀ v' w',zaz w' w.heap.size e sz v' (m+k) (xs++news)→Below w.heap.size w w'→K v' w'):Mk P ρ w ⟨d, .call ⟨.builtin .append,#[s,x],#[t,t']⟩,ty,pos,af,gd⟩ K:=by
 subst ht'
 obtain⟨i,hq,hzz⟩:=Option.map_eq_some_iff.1 hi
 simp only[Prod.mk.injEq]at hzz
 obtain⟨hz,hsize,hby⟩:=hzz
 obtain⟨g1,o1,rfl,_⟩:=hsrc.some (Nat.mul_pos hk hsz)
 obtain⟨v',w',hr,h2,h3⟩:=run_append_arg_grows (P:=P) (w:=w) t' ty e i z sz bytes ht hq hz hsize hby hzs hsz ⟨g0,o0,none⟩ m cap xs hold.len (fun j u hu=>by rw[Addr.add_lit];exact hold.cell j hu) ⟨g1,o1,none⟩ k c news hsrc.len
  (fun j u hu=>by rw[Addr.add_lit];exact hsrc.cell j hu) hcap h63 hbytes
 refine⟨_,w',?_,h v' w' (zdm h2) ⟨h3.os,h3.tape,h3.output,h3.size,fun k hk=>h3.block k hk ay⟩⟩
 simp[execOp,resolve,invoke,builtin,hs,hx,hr,Result.andThen]
end
end Coup
namespace Go.Proofs.YtdbogkndglbffaaGreat
open Go Go.RowKit Coup
def fillB(b:List UInt8)(i:Nat):List UInt8:=(List.range 512).map fun j=>if j<i then b.getD (j % b.length) 0 else 0
def pageB(b:List UInt8):List UInt8:=if 0<b.length then fillB b 512 else fillB b 0
structure LeafT where
 num:Int
 b:List UInt8
def recOf(L:List LeafT):Rec:=L.map fun x=>⟨x.num,pageB x.b⟩
structure LvAt(w:World)(p:Option Addr)(n:Nat)(L:List LeafT):Prop where
 len:L.length=n
 ex:∃ vs,zaS w p n 2 vs∧∀ (i:Nat) (x:LeafT),L[i]?=some x→vs[i*2]?=some (.int .i64 x.num)∧∃ q c,vs[i*2+1]?=some (.slice q x.b.length c)∧zaS w q x.b.length 1 (bv x.b)
theorem readA{D:Dk}{k:Nat}(h:zch D k)(a:Nat)(s:Sec){j:Nat}(hj:j<D.V.length):za8 (zbO D (a:Int) s) j=if a=j then s else za8 D j:=by
 have h1:=(h.zbO (a:Int) s).2.2 j hj
 unfold za8
 rw[h1]
 by_cases e:a=j
 ·rw[if_pos ae,if_pos e];simp[zfw]
 ·rw[if_neg ae,if_neg e]
theorem zc3:∀ (R:List Sec) {D:Dk} {k:Nat} (a:Nat),zch D k→(za1 D a R).2=true∧zch (za1 D a R).1 (k+R.length)∧
  ∀ j,j<D.V.length→za8 (za1 D a R).1 j=if a≤j∧j<a+R.length then R.getD (j - a) zbW else za8 D j
 |[],D,k,a,h=>⟨rfl,h,fun j hj=>by rw[if_neg (by rw[List.length_nil];omega)];rfl⟩
 |s::R,D,k,a,h=>by
  obtain⟨h1,h2⟩:=zcx h.left h.dead
  obtain⟨e1,e2,_⟩:=h.zbO (a:Int) s
  obtain⟨f1,f2,f3⟩:=zc3 R (a+1) e1
  rw[za1,if_pos h1]
  refine⟨f1,by rw[List.length_cons,show k+(R.length+1)=k+1+R.length by omega];exact f2,fun j hj=>?_⟩
  rw[f3 j (by rw[e2];exact hj),readA h a s hj,List.length_cons]
  by_cases c1:a+1≤j∧j<a+1+R.length
  ·rw[if_pos c1,if_pos ae,show j - a=(j - (a+1))+1 by omega,List.getD_cons_succ]
  ·rw[if_neg c1]
   by_cases c2:a=j
   ·rw[if_pos c2,if_pos ae,show j - a=0 by omega,List.getD_cons_zero]
   ·rw[if_neg c2,if_neg ae]
theorem zqB{D:Dk}(h:zbg D=true){j:Nat}(hj:j<D.V.length):za8 (zbu D) j=za8 D j:=by
 have h1:=zoz h hj
 show zfw (ver (zbu D) j)=_
 rw[h1];rfl
theorem ziH(R:List Sec){D:Dk}{k:Nat}(a:Nat)(h:zch D k):(znI D a R).2=true∧zch (znI D a R).1 1∧(znI D a R).1.V.length=D.V.length∧
  ∀ j,j<D.V.length→za8 (znI D a R).1 j=if a≤j∧j<a+R.length then R.getD (j - a) zbW else za8 D j:=by
 obtain⟨h1,h2,h3⟩:=zc3 R a h
 have hl:=zb5 R D a
 obtain⟨h4,h5⟩:=zdB h2
 rw[znI,if_pos h1]
 exact⟨h4,h5,by rw[zde,hl],fun j hj=>by rw[zqB h4 (by rw[hl];exact hj),h3 j hj]⟩
theorem ze6{D:Dk}{k:Nat}(h:zch D k)(c s:Nat):zd6 D c s=true∧zch (zcI D c s) 1∧(zcI D c s).V.length=D.V.length∧
  ∀ j,j<D.V.length→za8 (zcI D c s) j=if j=0 then zcN c s else za8 D j:=by
 obtain⟨h1,_⟩:=zcx h.left h.dead
 obtain⟨e1,e2,_⟩:=h.zbO 0 (zcN c s)
 obtain⟨h4,h5⟩:=zdB e1
 unfold zd6 zcI
 rw[h1,if_pos rfl,Bool.true_and]
 refine⟨h4,h5,by rw[zde,e2],fun j hj=>?_⟩
 rw[zqB h4 (by rw[e2];exact hj)]
 have:=readA h 0 (zcN c s) hj
 rw[show((0:Nat):Int)=0 from rfl]at this
 rw[this]
 by_cases e:j=0
 ·rw[if_pos e,if_pos e.symm]
 ·rw[if_neg e,if_neg fun h=>e h.symm]
theorem ziI{D:Dk}{k:Nat}(h:zch D k):∀ m j,j<D.V.length→za8 (zeq D m) j=if j<m then zbW else za8 D j
 |0,j,hj=>by rw[if_neg ae];rfl
 |m+1,j,hj=>by
  obtain⟨h1,h2⟩:=zej h m
  rw[zfy,readA h1 m zbW (by rw[h2];exact hj),ziI h m j hj]
  by_cases e:m=j
  ·rw[if_pos e,if_pos ae]
  ·rw[if_neg e]
   by_cases c:j<m
   ·rw[if_pos c,if_pos ae]
   ·rw[if_neg c,if_neg ae]
theorem zo5{D:Dk}{k:Nat}(h:zch D k)(n:Nat):zch (fmtD D n) 1∧(fmtD D n).V.length=D.V.length∧
  ∀ j,j<D.V.length→za8 (fmtD D n) j=if j=0 then zcN 1 1 else if j<1+n then zbW else za8 D j:=by
 obtain⟨h1,h2⟩:=zej h (1+n)
 obtain⟨h4,h5⟩:=zdB h1
 have hfl:(zbu (zeq D (1+n))).V.length=D.V.length:=by rw[zde,h2]
 obtain⟨a1,a2,a3,a4⟩:=ze6 h5 1 1
 have hst:=(zcx h5.left h5.dead).1
 have he:zcI (zbu (zeq D (1+n))) 1 1=fmtD D n:=by
  unfold zd6 at a1
  rw[hst,Bool.true_and]at a1
  rw[zcI,hst,if_pos rfl];rfl
 rw[he]at a2 a3 a4
 refine⟨a2,by rw[a3,hfl],fun j hj=>?_⟩
 rw[a4 j (by rw[hfl];exact hj),zqB h4 (by rw[h2];exact hj),ziI h (1+n) j hj]
theorem znv{f n:Nat}{l:List UInt8}(h:zcc l n=false):zcO f l n=[]:=by
 cases f with
 |zero=>rfl
 |succ f=>rw[zcO,h];rfl
def rowsT:Nat→List (Nat × Rec)→List UInt8
 |_,[]=>[]
 |k,x::T=>rowB x.1 k (recB x.2)++rowsT (k+1) T
def atT(T:List (Nat × Rec)):Nat:=atS (T.map (·.2))
def okT(s c:Nat)(T:List (Nat × Rec)):Prop:=∀ x∈T,s≤x.1∧x.1≤c∧zcu x.2∧mayR x.2=true
def secL(D:Dk)(n:Nat):List Sec:=(List.range n).map fun i=>za8 D (1+i)
theorem zlE{l:List UInt8}{n:Nat}(h:zbx (zaH l 0)=0):zcc l n=false:=by
 cases hj:zcc l n with
 |false=>rfl
 |true=>
  have:=(znf (ze3 hj).2.1).1
  omega
theorem zgx(a k:Nat):(zbi a).take k=zbi (min k a):=by simp[zbi]
theorem ziJ(a k:Nat):(zbi a).drop k=zbi (a - k):=by simp[zbi]
theorem znw:∀ k,zdl (zbi k)=0:=fun k=>by
 induction k with
 |zero=>rfl
 |succ k ih=>
  have h:zbi (k+1)=zbi k++[0]:=by simp[zbi,List.replicate_succ']
  rw[h]
  simp only[zdl]at ih ⊢
  rw[List.foldl_append,ih];rfl
theorem znx(a n:Nat):zcc (zbi a) n=false:=zlE (by rw[zbx,zaH,ziJ,zgx,zgx,znw])
theorem zny(s c k f a n:Nat):zes s c k (zcO f (zbi a) n)=[]:=by rw[znv (znx a n)];rfl
theorem ziK{D:Dk}:∀ {n:Nat},(∀ j,j<n→za8 D (1+j)=zbW)→znl D n=zbi (128*n)
 |0,_=>rfl
 |n+1,h=>by
  rw[zkw,ziK fun j hj=>h j ae,h n ae,show 128*(n+1)=128*n+128 by omega]
  have e:zbW=zbi 128:=rfl
  rw[e]
  unfold zbi
  exact List.replicate_append_replicate
theorem zkJ{c s:Nat}(hc:c<18446744073709551616)(hs:s<18446744073709551616):hdC (zcN c s)=c∧hdS (zcN c s)=s:=by
 have hm:magic.length=4:=rfl
 have e8:(256:Nat) ^ 8=18446744073709551616:=by decide
 refine⟨?_,?_⟩
 ·rw[hdC,zcN,List.drop_left' hm,List.take_left' (zaV _ _),zg1,e8,Nat.mod_eq_of_lt hc]
 ·have h1:(magic++(beB 8 c++(beB 8 s++zbi 108))).drop 12=beB 8 s++zbi 108:=by
   rw[←List.append_assoc,List.drop_left' (by rw[List.length_append,zaV,hm])]
  rw[hdS,zcN,h1,List.take_left' (zaV _ _),zg1,e8,Nat.mod_eq_of_lt hs]
theorem zo6(c s:Nat):zf1 (zcN c s) zbW=zcN c s:=by
 have hz:zbW=zbi 128:=rfl
 have hl:(magic++(beB 8 c++beB 8 s)).length=20:=by simp[magic,zaV]
 have he:zcN c s=(magic++(beB 8 c++beB 8 s))++zbi 108:=by simp[zcN,List.append_assoc]
 rw[zf1,hz,he,List.take_append,List.take_of_length_le (by rw[hl];omega),hl,zgx,ziJ,List.append_assoc]
 congr 1
theorem head_is{c s:Nat}(h1:1≤s)(h2:s≤c)(h3:c≤4611686018427387904):zmm (zcN c s)=true:=by
 obtain⟨e1,e2⟩:=zkJ (c:=c) (s:=s) ae ae
 rw[zmm,e1,e2,zo6,decide_eq_true rfl,decide_eq_true h1,decide_eq_true h2,decide_eq_true h3];rfl
theorem zo7{D:Dk}{c s:Nat}{n:Int}(hf:zf4 D.V.length n=true)(hr:za8 D 0=zcN c s)(h1:1≤s)(h2:s≤c)(h3:c<4611686018427387904):zf6 D n=0∧hdC (za8 D 0)=c∧hdS (za8 D 0)=s:=by
 obtain⟨e1,e2⟩:=zkJ (c:=c) (s:=s) ae ae
 rw[zf6,if_pos hf,hr,if_pos (head_is h1 h2 ae),e1,if_neg ae]
 exact⟨rfl,rfl,e2⟩
theorem zew.own{Y:World→List Nat→Prop}[hY:Thing Y]{g x lo:Nat}{L:List Nat}{D:Dk}{G:Lg}{w w':World}{v:Value}(h:zew g x Y lo L D G w)(hg:w.grownBy w' v.ownBlock)(hv:∀ b,v.ownBlock=some b→b∈L):zew g x Y lo L D G w':=
 h.kpd (Kp.za6 hg) fun b hb=>.inr (hv b (Option.mem_toList.1 hb))
def kR:Rec:=recOf [⟨5,[7]⟩]
theorem zkK{D:Dk}{G:Lg}{R:Rec}{k:Nat}(h:zch D k)(hd:G.dead=false)(hm:mayR R=true)(hfit:G.at_+(ziz G R).length≤G.size)(hn:1+G.size≤D.V.length):
  zeL D G R=(0,(znI D (1+G.at_) (ziz G R)).1,{G with at_:=G.at_+(ziz G R).length,num:=G.num+1}):=by
 obtain⟨h1,_⟩:=ziH (ziz G R) (1+G.at_) h
 rw[zeL,hd,if_neg ay,if_neg (by rw[hm];simp),if_neg ae,h1,if_pos rfl]
theorem zo8{n j:Nat}(h:j<n):za8 (zh4 n) j=zbW:=by
 show zfw (ver (zh4 n) j)=zbW
 have hv:ver (zh4 n) j=[zbW]:=by
  unfold ver zh4
  rw[List.getD_eq_getElem?_getD,List.getElem?_replicate,if_pos h];rfl
 rw[hv];rfl
theorem zo9(j:Nat):(zbj zb8 4).getD j zbW=zbW:=by
 rw[List.getD_eq_getElem?_getD]
 by_cases hj:j<4
 ·rw[zgt zb8 hj,Option.getD_some,zb8,List.drop_replicate,List.take_replicate,zbW]
  congr 1
  omega
 ·rw[List.getElem?_eq_none (by rw[zcz];omega)];rfl
theorem zpa{D:Dk}{k s:Nat}(h:zch D k)(hz:∀ j,j<D.V.length→za8 D j=zbW):∀ m j,j<D.V.length→za8 (zpD D s m) j=zbW
 |0,j,hj=>hz j hj
 |m+1,j,hj=>by
  obtain⟨h1,h2⟩:=zf7 (s:=s) h m
  have h3:=(zc3 (zbj zb8 4) (1+s+m*4) h1).2.2 j (by rw[h2];exact hj)
  rw[zpD,h3,zpa h hz m j hj,zo9]
  split<;>rfl
def frD(pages s:Nat):Dk:=fmtD (zpD (zh4 (1+s+4*pages)) s pages) s
theorem cnt_fr{pages s:Nat}(h4:4≤s)(hs:s≤4000):zgJ (1+s+4*pages) s=pages:=by
 unfold zgJ
 rw[if_neg ae,Int.toNat_natCast];omega
theorem zjt{pages s:Nat}(h4:4≤s)(hs:s≤4000)(hp:pages≤500):zch (frD pages s) 1∧(frD pages s).V.length=1+s+4*pages∧∀ j,j<1+s+4*pages→za8 (frD pages s) j=if j=0 then zcN 1 1 else zbW:=by
 have ha:=zkg (n:=1+s+4*pages) ae
 obtain⟨h1,h2⟩:=zf7 (s:=s) ha pages
 rw[ze1]at h2
 obtain⟨f1,f2,f3⟩:=zo5 h1 s
 rw[h2]at f2 f3
 refine⟨f1,f2,fun j hj=>?_⟩
 have hz:=zpa (s:=s) ha (fun j hj=>zo8 (by rw[ze1]at hj;exact hj)) pages j (by rw[ze1];exact hj)
 rw[frD,f3 j hj,hz]
 split
 ·rfl
 ·split<;>rfl
theorem zmy{pages s:Nat}(h4:4≤s)(hs:s≤4000)(hp:pages≤500):zf6 (frD pages s) s=0∧hdC (za8 (frD pages s) 0)=1∧hdS (za8 (frD pages s) 0)=1∧zcR (frD pages s) (zet (frD pages s) s)=[]:=by
 obtain⟨h1,h2,h3⟩:=zjt h4 hs hp
 obtain⟨e1,e2,e3⟩:=zo7 (D:=frD pages s) (c:=1) (s:=1) (n:=s) (by rw[h2];exact decide_eq_true ae) (by rw[h3 0 ae,if_pos rfl]) ae ae ae
 refine⟨e1,e2,e3,?_⟩
 rw[zcR,show(zet (frD pages s) s).size=s from Int.toNat_natCast s,ziK fun j hj=>by rw[h3 (1+j) ae,if_neg ae],zny]
def frP(pages s fr:Nat):Pl:=⟨zcI (frD pages s) 2 1,⟨2,1,s,0,0,false⟩,fr,noP,noP,[],false⟩
theorem zqC{pages s:Nat}(fr:Nat)(h4:4≤s)(hs:s≤4000)(hp:pages≤500):zd6 (frD pages s) (hdC (za8 (frD pages s) 0)+1) (hdS (za8 (frD pages s) 0))=true∧zid (frD pages s) s fr=(0,frP pages s fr):=by
 obtain⟨h1,h2,h3⟩:=zjt h4 hs hp
 obtain⟨e1,e2,e3,e4⟩:=zmy h4 hs hp
 have hsv:=ze6 h1 2 1
 rw[e2,e3]
 refine⟨hsv.1,?_⟩
 unfold zid zcv
 rw[e4,e2,e3,if_pos List.length_nil]
 rfl
theorem zlF{pages s:Nat}(fr:Nat)(h4:4≤s)(hs:s≤4000)(hp:pages≤500):zch (frP pages s fr).D 1∧(frP pages s fr).D.V.length=1+s+4*pages∧(frP pages s fr).n=pages∧∀ j,j<1+s+4*pages→za8 (frP pages s fr).D j=if j=0 then zcN 2 1 else zbW:=by
 obtain⟨h1,h2,h3⟩:=zjt h4 hs hp
 obtain⟨_,s2,s3,s4⟩:=ze6 h1 2 1
 rw[h2]at s3 s4
 refine⟨s2,s3,?_,fun j hj=>?_⟩
 ·show zgJ (zcI _ _ _).V.length s=pages
  rw[s3,cnt_fr h4 hs]
 ·show za8 (zcI _ _ _) j=_
  rw[s4 j hj,h3 j hj]
  split<;>rfl
theorem frP_ok{pages s fr:Nat}(h4:4≤s)(hs:s≤4000)(hp:pages≤500)(hp4:4≤pages)(h2:2≤fr)(hm:fr≤100):zk7 (frP pages s fr):=by
 obtain⟨a1,a2,a3,a4⟩:=zlF fr h4 hs hp
 exact⟨⟨Nat.le_refl _,(by show 1≤2;omega),(by show 2≤_;omega),h4,hs,Nat.zero_le _,Nat.le_refl _,(by rw[a2];show 1+s≤_;omega)⟩,by rw[a3];exact hp4,h2,hm,(fun i b h=>nomatch h),(fun i b h=>nomatch h),(fun c hc=>nomatch hc),Nat.zero_le _⟩
structure PlI(P:Pl)(V:Nat→Pg)(k:Nat):Prop where
 ok:zk7 P
 al:zch P.D 1
 gd:P.G.dead=false
 de:P.dead=false
 ct:P.G.count≤k
 dn:∀ n b,P.di n=some b→V n=b
 cl:∀ c∈P.cl,∃ n:Nat,c.num=(n:Int)∧P.di n=none∧c.page=V n
 pg:∀ n,n<P.n→P.di n=none→zdo P.D (1+P.G.size+n*4)=V n
 ln:∀ n,n<P.n→(V n).length=512
theorem zqD{R:Rec}{n:Int}{c:Ch}(h:R[zel R n]?=some c):c.num=n:=by
 have hl:=(List.getElem?_eq_some_iff.1 h).1
 have hp:decide ((R[zel R n]).num=n)=true:=List.findIdx_getElem (p:=fun c:Ch=>decide (c.num=n)) (xs:=R) (w:=hl)
 have he:=(List.getElem?_eq_some_iff.1 h).2
 rw[he]at hp
 exact of_decide_eq_true hp
namespace PlI
variable {P:Pl}{V:Nat→Pg}{k n:Nat}
theorem ask(h:PlI P V k)(hn:n<P.n):zh5 P n=V n:=by
 unfold zh5
 split
 ·exact(h.dn _ _ ‹_›).symm
 ·rename_i hd
  split
  ·rename_i c hc
   obtain⟨m,h1,h2,h3⟩:=h.cl c (List.mem_of_getElem? hc)
   have h4:=zqD hc
   have:m=n:=by omega
   rw[h3,this]
  ·exact h.pg n hn hd
theorem up(h:PlI P V k){k2:Nat}(hk:k≤k2):PlI P V k2:=⟨h.ok,h.al,h.gd,h.de,Nat.le_trans h.ct hk,h.dn,h.cl,h.pg,h.ln⟩
theorem zgj(h:PlI P V k)(hn:n<P.n):PlI (zgj P n) V k:=by
 have hX:=h.ask hn
 have hok:zk7 (Go.Proofs.YtdbogkndglbffaaGreat.zgj P n):=by
  have hXl:(zh5 P n).length=512:=by rw[hX];exact h.ln n hn
  unfold Go.Proofs.YtdbogkndglbffaaGreat.zgj
  split
  ·exact h.ok
  ·have h2:=zoY h.ok.cl h.ok.cll n hXl
   exact⟨h.ok.lg,h.ok.n4,h.ok.fr2,h.ok.frm,h.ok.ch,h.ok.di,h2.1,h2.2⟩
 revert hok
 unfold Go.Proofs.YtdbogkndglbffaaGreat.zgj
 split
 ·exact fun _=>h
 ·rename_i hd
  intro hok
  refine⟨hok,h.al,h.gd,h.de,h.ct,h.dn,fun c hc=>?_,h.pg,h.ln⟩
  have hm:c∈without P.cl n∨c=⟨n,zh5 P n⟩:=by
   have h1:c∈frameC P.fr P.cl n (zh5 P n):=hc
   unfold frameC at h1
   split at h1
   ·have:=List.mem_of_mem_drop h1
    rcases List.mem_append.1 this with h2|h2
    ·exact .inl h2
    ·exact .inr (List.mem_singleton.1 h2)
   ·rcases List.mem_append.1 h1 with h2|h2
    ·exact .inl h2
    ·exact .inr (List.mem_singleton.1 h2)
  rcases hm with h2|rfl
  ·exact h.cl c (List.mem_filter.1 h2).1
  ·exact⟨n,rfl,hd,hX⟩
theorem zkE(h:PlI P V k)(c:PgM)(hc:∀ i b,c i=some b→b.length=512):PlI {P with ch:=c} V k:=
 ⟨⟨h.ok.lg,h.ok.n4,h.ok.fr2,h.ok.frm,hc,h.ok.di,h.ok.cl,h.ok.cll⟩,h.al,h.gd,h.de,h.ct,h.dn,h.cl,h.pg,h.ln⟩
theorem znJ(h:PlI P V k)(hn:n<P.n){X:Pg}(hX:X.length=512):PlI (znJ P n X) V k:=by
 refine(h.zgj hn).zkE _ fun i b hb=>?_
 unfold zfz at hb
 split at hb
 ·split at hb
  ·cases hb
  ·rw[←Option.some.inj hb];exact hX
 ·exact h.ok.ch i b hb
theorem zkH(h:PlI P V k)(hn:n<P.n):PlI (zkH P n) V k:=by
 unfold Go.Proofs.YtdbogkndglbffaaGreat.zkH
 split
 ·exact h
 ·exact h.zgj hn
theorem getX(h:PlI P V k)(hn:n<P.n):getX P n=(P.ch n).getD (V n):=by
 unfold Go.Proofs.YtdbogkndglbffaaGreat.getX
 split
 ·rename_i b hb;rw[hb];rfl
 ·rename_i hb;rw[hb];exact h.ask hn
end PlI
theorem zhM{D D':Dk}{a:Nat}(h:∀ i,i<4→za8 D' (a+i)=za8 D (a+i)):zdo D' a=zdo D a:=by
 unfold zdo
 congr 1
 exact List.map_congr_left fun i hi=>h i (List.mem_range.1 hi)
theorem zkL{D:Dk}{a:Nat}{X:Pg}(hX:X.length=512)(h:∀ i,i<4→za8 D (a+i)=(zbj X 4).getD i zbW):zdo D a=X:=by
 have e:((List.range 4).map fun i=>za8 D (a+i))=zbj X 4:=by
  refine List.ext_getElem? fun i=>?_
  by_cases hi:i<4
  ·rw[List.getElem?_map,List.getElem?_range hi,Option.map_some,h i hi,zgt X hi,List.getD_eq_getElem?_getD,zgt X hi];rfl
  ·rw[List.getElem?_eq_none aK,List.getElem?_eq_none (by rw[zcz];omega)]
 unfold zdo
 rw[e,zhF,List.take_of_length_le ae]
theorem zfF(s:Nat):∀ (l:List (Nat × Pg)) {D:Dk} {k:Nat},zch D k→(zck s D l).2=true∧zch (zck s D l).1 (k+4*l.length)∧(∀ j,j<D.V.length→j<1+s→za8 (zck s D l).1 j=za8 D j)∧
  (∀ n,1+s+n*4+4≤D.V.length→(∀ p∈l,p.1≠n)→zdo (zck s D l).1 (1+s+n*4)=zdo D (1+s+n*4))
 |[],D,k,h=>⟨rfl,h,fun _ _ _=>rfl,fun _ _ _=>rfl⟩
 |p::l,D,k,h=>by
  obtain⟨h1,h2,h3⟩:=zc3 (zbj p.2 4) (1+s+p.1*4) h
  rw[zcz]at h2 h3
  obtain⟨i1,i2,i3,i4⟩:=zfF s l h2
  have hl:=zb5 (zbj p.2 4) D (1+s+p.1*4)
  rw[zck,if_pos h1]
  refine⟨i1,i2.weak (by rw[List.length_cons];omega),fun j hj hjs=>?_,fun n hn hm=>?_⟩
  ·rw[i3 j (by rw[hl];exact hj) hjs,h3 j hj,if_neg ae]
  ·rw[i4 n (by rw[hl];exact hn) (fun q hq=>hm q (List.mem_cons_of_mem _ hq))]
   have hpn:=hm p (List.mem_cons_self ..)
   refine zhM fun i hi=>?_
   rw[h3 _ ae,if_neg ae]
theorem zkM(s:Nat):∀ (l:List (Nat × Pg)) {D:Dk} {k:Nat},zch D k→(l.map (·.1)).Nodup→(∀ p∈l,p.2.length=512)→∀ p∈l,1+s+p.1*4+4≤D.V.length→zdo (zck s D l).1 (1+s+p.1*4)=p.2
 |[],D,k,h,_,_=>fun p hp=>nomatch hp
 |r::l,D,k,h,hnd,hl512=>fun p hp hn=>by
  obtain⟨h1,h2,h3⟩:=zc3 (zbj r.2 4) (1+s+r.1*4) h
  rw[zcz]at h2 h3
  have hl:=zb5 (zbj r.2 4) D (1+s+r.1*4)
  rw[List.map_cons,List.nodup_cons]at hnd
  rw[zck,if_pos h1]
  rcases List.mem_cons.1 hp with rfl|hp
  ·rw[(zfF s l h2).2.2.2 p.1 (by rw[hl];exact hn) fun q hq e=>hnd.1 (by rw[←e];exact List.mem_map_of_mem (f:=(·.1)) hq)]
   refine zkL (hl512 p (List.mem_cons_self ..)) fun i hi=>?_
   rw[h3 _ ae,if_pos ae,show 1+s+p.1*4+i - (1+s+p.1*4)=i by omega]
  ·exact zkM s l h2 hnd.2 (fun q hq=>hl512 q (List.mem_cons_of_mem _ hq)) p hp (by rw[hl];exact hn)
theorem zkN(c:PgM):∀ (m a:Nat),((zfB c a m).map (·.1)).Nodup
 |0,a=>List.nodup_nil
 |m+1,a=>by
  have ih:=zkN c m (a+1)
  rw[zfB]
  split
  ·rw[List.map_cons,List.nodup_cons]
   refine⟨fun hm=>?_,ih⟩
   obtain⟨p,hp,e⟩:=List.mem_map.1 hm
   have:=zfC hp
   have e2:p.1=a:=e
   omega
  ·exact ih
theorem zmz{c:PgM}:∀ {m a i:Nat} {b:Pg},c i=some b→a≤i→i<a+m→(i,b)∈zfB c a m
 |0,a,i,b,_,h1,h2=>by omega
 |m+1,a,i,b,h,h1,h2=>by
  rw[zfB]
  by_cases e:a=i
  ·subst e;rw[h];exact List.mem_cons_self ..
  ·have:=zmz (m:=m) (a:=a+1) h ae ae
   split
   ·exact List.mem_cons_of_mem _ this
   ·exact this
theorem PlI.settle{P:Pl}{V:Nat→Pg}{k:Nat}(h:PlI P V k)(hk:k≤1000000):(zbd P).1=0∧PlI (zbd P).2 V (k+1)∧(zbd P).2.di=noP∧(zbd P).2.G=zkt P.G∧(zbd P).2.ch=P.ch∧(zbd P).2.n=P.n∧(zbd P).2.fr=P.fr∧(zbd P).2.D.V.length=P.D.V.length:=by
 have hct:=h.ct
 have hfit:=h.ok.lg.fit
 obtain⟨w1,w2,w3,w4⟩:=zfF P.G.size (zfB P.di 0 P.n) h.al
 have wl:=zf8 P.G.size (zfB P.di 0 P.n) P.D
 obtain⟨f1,f2⟩:=zdB w2
 obtain⟨s1,s2,s3,s4⟩:=ze6 f2 (P.G.count+1) (P.G.count+1)
 have he:(zbd P).1=0:=by
  unfold zbd zbz
  rw[if_pos w1,if_pos f1]
  dsimp only
  unfold zc5
  rw[if_neg (by rw[h.gd];simp),if_neg ae,if_pos s1]
 obtain⟨k1,k2,k3,k4,k5,k6,k7,k8,k9,k10⟩:=zo2 h.ok he
 obtain⟨l1,l2,l3,l4,l5,l6,l7⟩:=ziF P
 have hD:(zbd P).2.D=zcI (zbu (zck P.G.size P.D (zfB P.di 0 P.n)).1) (P.G.count+1) (P.G.count+1):=k10
 have hrd:∀ n,n<P.n→zdo (zbd P).2.D (1+P.G.size+n*4)=V n:=fun n hn=>by
  have hr:=(zkG h.ok hn).1
  have e1:zdo (zbd P).2.D (1+P.G.size+n*4)=zdo (zck P.G.size P.D (zfB P.di 0 P.n)).1 (1+P.G.size+n*4):=by
   rw[hD]
   refine zhM fun i hi=>?_
   rw[s4 _ (by rw[zde,wl];omega),if_neg ae,zqB f1 (by rw[wl];omega)]
  rw[e1]
  cases hd:P.di n with
  |some b=>
   have hm:=zmz (m:=P.n) (a:=0) hd (Nat.zero_le _) ae
   have:=zkM P.G.size _ h.al (zkN P.di P.n 0) (fun p hp=>h.ok.di _ _ (zfC hp).1) _ hm (by dsimp only;omega)
   rw[this]
   exact(h.dn n b hd).symm
  |none=>
   rw[w4 n hr fun p hp e=>by have:=(zfC hp).1;rw[e,hd]at this;cases this]
   exact h.pg n hn hd
 refine⟨he,⟨k1,by rw[hD];exact s2,by rw[k4];exact k5,by rw[l6];exact h.de,by rw[k4];show P.G.count+1≤_;omega,?_,?_,?_,fun n hn=>h.ln n (by rw[←l7];exact hn)⟩,k3,k4,l3,l7,l5,l1⟩
 ·intro n b hb;rw[k3]at hb;cases hb
 ·intro c hc
  rw[l4]at hc
  obtain⟨n,c1,c2,c3⟩:=h.cl c hc
  exact⟨n,c1,by rw[k3];rfl,c3⟩
 ·intro n hn _
  rw[l2]
  exact hrd n (by rw[←l7];exact hn)
theorem zlG(c:PgM):∀ (m a:Nat) (P:Pl) (n:Nat),(zbT P ((zfB c a m).map fun p=>⟨p.1,p.2⟩)).di n=if a≤n∧n<a+m then(c n).or (P.di n)else P.di n
 |0,a,P,n=>by rw[if_neg ae];rfl
 |m+1,a,P,n=>by
  rw[zfB]
  cases hc:c a with
  |some b=>
   have ih:=zlG c m (a+1) {P with di:=zfz P.di a (some b),cl:=without P.cl (a:Int)} n
   have e:zbT P (((a,b)::zfB c (a+1) m).map fun p=>(⟨p.1,p.2⟩:Ch))=zbT {P with di:=zfz P.di a (some b),cl:=without P.cl (a:Int)} ((zfB c (a+1) m).map fun p=>⟨p.1,p.2⟩):=rfl
   dsimp only
   rw[e,ih]
   dsimp only[zfz]
   by_cases h1:a+1≤n∧n<a+1+m
   ·rw[if_pos h1,if_neg (show¬n=a by omega),if_pos (show a≤n∧n<a+(m+1) by omega)]
   ·rw[if_neg h1]
    by_cases h2:n=a
    ·subst h2;rw[if_pos rfl,if_pos ae,hc];rfl
    ·rw[if_neg h2,if_neg ae]
  |none=>
   dsimp only
   rw[zlG c m (a+1) P n]
   by_cases h1:a+1≤n∧n<a+1+m
   ·rw[if_pos h1,if_pos ae]
   ·rw[if_neg h1]
    by_cases h2:n=a
    ·subst h2;rw[if_pos ae,hc];rfl
    ·rw[if_neg ae]
theorem zpb:∀ (R:Rec) (P:Pl) (c:Ch),c∈(zbT P R).cl→c∈P.cl∧∀ r∈R,c.num≠r.num
 |[],P,c,h=>⟨h,fun r hr=>nomatch hr⟩
 |r::R,P,c,h=>by
  obtain⟨h1,h2⟩:=zpb R {P with di:=zfz P.di r.num.toNat (some r.page),cl:=without P.cl r.num} c h
  have h3:=List.mem_filter.1 h1
  refine⟨h3.1,fun q hq=>?_⟩
  rcases List.mem_cons.1 hq with rfl|hq
  ·have:=h3.2
   simpa using this
  ·exact h2 q hq
def zgy(P:Pl)(V:Nat→Pg):Nat→Pg:=fun n=>if n<P.n then(P.ch n).getD (V n)else V n
theorem zkO(G:Lg){R:Rec}(h1:1≤R.length)(h2:R.length≤60):zdV (R.length:Int)=((ziz G R).length:Int):=by
 rw[zmn]
 unfold zdV
 rw[if_pos ae,Int.toNat_natCast,Nat.mul_comm]
theorem may_rec{P:Pl}(h1:1≤(zbS P).length)(h2:(zbS P).length≤60)(hn:P.n≤2048):mayR (zbS P)=true:=by
 rw[mayR,Bool.and_eq_true]
 refine⟨decide_eq_true ⟨h1,h2⟩,List.all_eq_true.2 fun c hc=>?_⟩
 obtain⟨p,hp,rfl⟩:=List.mem_map.1 hc
 have:=zfC hp
 exact decide_eq_true (by show(0:Int)≤(p.1:Int)∧(p.1:Int)<2147483648;omega)
theorem zhN {P : Pl} {V : Nat → Pg} {k : Nat} (h : PlI P V k) (hk : k ≤ 1000000) (hn : P.n ≤ 2048) (hR1 : ¬ (zbS P).length = 0) (hR2 : ¬ 60 < (zbS P).length) (hfit : zdV ((zbS P).length : Int) ≤ ((P.G.size - P.G.at_ : Nat) : Int)) :
  (zeL P.D P.G (zbS P)).1 = 0 ∧ PlI { zbT (ze4 P (zbS P)) (zbS P) with ch := noP } (zgy P V) k ∧ (ze4 P (zbS P)).G = { P.G with at_ := P.G.at_ + (ziz P.G (zbS P)).length, num := P.G.num + 1 } ∧ (ze4 P (zbS P)).D.V.length = P.D.V.length ∧
   (ze4 P (zbS P)).D = (znI P.D (1 + P.G.at_) (ziz P.G (zbS P))).1 ∧ (ze4 P (zbS P)).n = P.n := by
 have hlg := h.ok.lg
 have hat := hlg.at_
 have hrw := zkO P.G (R := zbS P) (by omega) (by omega)
 have hfit2 : P.G.at_ + (ziz P.G (zbS P)).length ≤ P.G.size := by omega
 have hnum := hlg.num
 have hrl1 : 1 ≤ (ziz P.G (zbS P)).length := by
  rw [zmn]; unfold zci zc4; omega
 have hca := zkK h.al h.gd (may_rec (P := P) (by omega) (by omega) hn) hfit2 hlg.fit
 obtain ⟨p1, p2, p3, p4⟩ := ziH (ziz P.G (zbS P)) (1 + P.G.at_) h.al
 obtain ⟨d1, d2, d3, d4, d5, d6, d7, d8⟩ := ze5 (zbS P) (ze4 P (zbS P))
 have eD : (ze4 P (zbS P)).D = (znI P.D (1 + P.G.at_) (ziz P.G (zbS P))).1 := by unfold ze4; rw [hca]
 have eG : (ze4 P (zbS P)).G = { P.G with at_ := P.G.at_ + (ziz P.G (zbS P)).length, num := P.G.num + 1 } := by unfold ze4; rw [hca]
 have en : (ze4 P (zbS P)).n = P.n := by unfold Pl.n; rw [eD, eG, p3]
 have edi : ∀ n, (zbT (ze4 P (zbS P)) (zbS P)).di n = if n < P.n then (P.ch n).or (P.di n) else P.di n := fun n => by
  have := zlG P.ch P.n 0 (ze4 P (zbS P)) n
  unfold zbS at this ⊢
  rw [this]
  by_cases hnn : n < P.n
  ·rw [if_pos (by omega), if_pos hnn]; rfl
  ·rw [if_neg (by omega), if_neg hnn]; rfl
 refine ⟨by rw [hca], ⟨⟨?_, ?_, ?_, ?_, (fun i b hb => nomatch hb), ?_, ?_, ?_⟩, ?_, ?_, ?_, ?_, ?_, ?_, ?_, fun n hnn => ?_⟩, eG, by rw [eD, p3], eD, en⟩
 ·show LgOk (zbT _ _).D (zbT _ _).G
  rw [d1, d2, eD, eG]
  exact ⟨hlg.s1, hlg.sc, hlg.cm, hlg.sz4, hlg.szm, hfit2, by show P.G.num + 1 ≤ P.G.at_ + _; omega, by rw [p3]; exact hlg.fit⟩
 ·show 4 ≤ (zbT _ _).n
  rw [d6, en]; exact h.ok.n4
 ·show 2 ≤ (zbT _ _).fr
  rw [d3]; exact h.ok.fr2
 ·show (zbT _ _).fr ≤ 100
  rw [d3]; exact h.ok.frm
 ·intro i b hb
  have hb2 : (zbT (ze4 P (zbS P)) (zbS P)).di i = some b := hb
  rw [edi] at hb2
  split at hb2
  ·cases hc : P.ch i with
   | some x => rw [hc] at hb2; rw [← Option.some.inj hb2]; exact h.ok.ch i x hc
   | none => rw [hc] at hb2; exact h.ok.di i b hb2
  ·exact h.ok.di i b hb2
 ·exact d7 h.ok.cl
 ·show (zbT _ _).cl.length ≤ (zbT _ _).fr
  rw [d3]; exact Nat.le_trans d8 h.ok.cll
 ·show zch (zbT _ _).D 1
  rw [d1, eD]; exact p2
 ·show (zbT _ _).G.dead = false
  rw [d2, eG]; exact h.gd
 ·show (zbT _ _).dead = false
  rw [d5]; exact h.de
 ·show (zbT _ _).G.count ≤ k
  rw [d2, eG]; exact h.ct
 ·intro n b hb
  have hb2 : (zbT (ze4 P (zbS P)) (zbS P)).di n = some b := hb
  rw [edi] at hb2
  unfold zgy
  split
  ·rename_i hnn
   rw [if_pos hnn] at hb2
   cases hc : P.ch n with
   | some x => rw [hc] at hb2; exact Option.some.inj hb2
   | none => rw [hc] at hb2; exact h.dn n b hb2
  ·rename_i hnn
   rw [if_neg hnn] at hb2
   exact h.dn n b hb2
 ·intro c hc
  obtain ⟨c1, c2⟩ := zpb (zbS P) (ze4 P (zbS P)) c hc
  obtain ⟨n, n1, n2, n3⟩ := h.cl c c1
  have hnc : n < P.n → P.ch n = none := fun hnn => by
   cases hcn : P.ch n with
   | none => rfl
   | some x =>
    have hm : (⟨(n : Int), x⟩ : Ch) ∈ zbS P := List.mem_map.2 ⟨(n, x), zmz hcn (Nat.zero_le _) (by omega), rfl⟩
    exact absurd n1 (c2 _ hm)
  refine ⟨n, n1, ?_, ?_⟩
  ·show (zbT (ze4 P (zbS P)) (zbS P)).di n = none
   rw [edi]
   split
   ·rw [hnc ‹_›]; exact n2
   ·exact n2
  ·unfold zgy
   split
   ·rw [hnc ‹_›]; exact n3
   ·exact n3
 ·intro n hnn hdn
  have hnn2 : n < P.n := by
   have : (zbT (ze4 P (zbS P)) (zbS P)).n = P.n := by rw [d6, en]
   rw [← this]; exact hnn
  have hb2 : (zbT (ze4 P (zbS P)) (zbS P)).di n = none := hdn
  rw [edi, if_pos hnn2] at hb2
  have hr := (zkG h.ok hnn2).1
  show zdo (zbT _ _).D (1 + (zbT _ _).G.size + n * 4) = _
  rw [d1, d2, eD, eG]
  have e1 : zdo (znI P.D (1 + P.G.at_) (ziz P.G (zbS P))).1 (1 + P.G.size + n * 4) = zdo P.D (1 + P.G.size + n * 4) := zhM fun i hi => by
   rw [p4 _ (by omega), if_neg (by omega)]
  unfold zgy
  rw [if_pos hnn2]
  cases hc : P.ch n with
  | some x => rw [hc] at hb2; cases hb2
  | none =>
   rw [hc] at hb2
   show zdo _ _ = V n
   dsimp only
   rw [e1]
   exact h.pg n hnn2 hb2
 ·have hnn2 : n < P.n := by
   have : (zbT (ze4 P (zbS P)) (zbS P)).n = P.n := by rw [d6, en]
   rw [← this]; exact hnn
  unfold zgy
  rw [if_pos hnn2]
  cases hc : P.ch n with
  | some x => exact h.ok.ch n x hc
  | none => exact h.ln n hnn2
theorem zkP:zb8.length=512:=List.length_replicate ..
theorem frP_inv{pages s fr:Nat}(h4:4≤s)(hs:s≤4000)(hp:pages≤500)(hp4:4≤pages)(h2:2≤fr)(hm:fr≤100):PlI (frP pages s fr) (fun _=>zb8) 2:=by
 obtain⟨a1,a2,a3,a4⟩:=zlF fr h4 hs hp
 refine⟨frP_ok h4 hs hp hp4 h2 hm,a1,rfl,rfl,Nat.le_refl _,(fun n b h=>nomatch h),(fun c hc=>nomatch hc),fun n hn _=>?_,fun _ _=>zkP⟩
 rw[a3]at hn
 refine zkL zkP fun i hi=>?_
 show za8 (frP pages s fr).D (1+s+n*4+i)=_
 rw[a4 _ ae,if_neg ae,zo9]
section
variable {Y:World→List Nat→Prop}[Thing Y]{lo:Nat}{L:List Nat}{w:World}
end
def k1(K:Pl)(X:Pg):Pl:=znJ K 1 X
def k2(K:Pl)(X:Pg):Pl:={k1 K X with ch:=noP}
def k3(K:Pl)(X:Pg):Pl:=zkH (k2 K X) 1
def k4(K:Pl)(X:Pg):Pl:=znJ (k3 K X) 1 X
def k5(K:Pl)(X:Pg):Pl:={zbT (ze4 (k4 K X) (zbS (k4 K X))) (zbS (k4 K X))with ch:=noP}
def k6(K:Pl)(X:Pg):Pl:=zkH (k5 K X) 1
theorem zda{P:Pl}{n:Nat}:(zgj P n).n=P.n∧(zgj P n).ch=P.ch∧(zgj P n).di=P.di∧(zgj P n).G=P.G:=by
 obtain⟨h1,h2,h3,h4,h5,h6,h7⟩:=zeN P n
 exact⟨h7,h4,h5,h2⟩
theorem zd8{P:Pl}{n:Nat}:(zkH P n).n=P.n∧(zkH P n).ch=P.ch∧(zkH P n).di=P.di∧(zkH P n).G=P.G:=by
 unfold zkH
 split
 ·exact⟨rfl,rfl,rfl,rfl⟩
 ·exact zda
section
variable {K:Pl}{X Z:Pg}
structure KOk(K:Pl)(X Z:Pg):Prop where
 i:PlI K (fun _=>Z) 2
 n:K.n=5
 g:K.G=⟨2,1,12,0,0,false⟩
 di:K.di=noP
 xl:X.length=512
 xz:X≠Z
namespace KOk
theorem i0(h:KOk K X Z):1<K.n:=by rw[h.n];omega
theorem n1(h:KOk K X Z):(k1 K X).n=5:=(zda (P:=K) (n:=1)).1.trans h.n
theorem i1(h:KOk K X Z):PlI (k1 K X) (fun _=>Z) 2:=h.i.znJ h.i0 h.xl
theorem i2(h:KOk K X Z):PlI (k2 K X) (fun _=>Z) 2:=h.i1.zkE noP (fun i b h=>nomatch h)
theorem n2(h:KOk K X Z):(k2 K X).n=5:=h.n1
theorem l2(h:KOk K X Z):1<(k2 K X).n:=by rw[h.n2];omega
theorem i3(h:KOk K X Z):PlI (k3 K X) (fun _=>Z) 2:=h.i2.zkH h.l2
theorem n3(h:KOk K X Z):(k3 K X).n=5:=(zd8 (P:=k2 K X) (n:=1)).1.trans h.n2
theorem l3(h:KOk K X Z):1<(k3 K X).n:=by rw[h.n3];omega
theorem i4(h:KOk K X Z):PlI (k4 K X) (fun _=>Z) 2:=h.i3.znJ h.l3 h.xl
theorem n4(h:KOk K X Z):(k4 K X).n=5:=(zda (P:=k3 K X) (n:=1)).1.trans h.n3
theorem g4(h:KOk K X Z):(k4 K X).G=⟨2,1,12,0,0,false⟩:=by
 have h1:=(zda (P:=k3 K X) (n:=1)).2.2.2
 have h2:=(zd8 (P:=k2 K X) (n:=1)).2.2.2
 have h3:=(zda (P:=K) (n:=1)).2.2.2
 exact h1.trans (h2.trans (h3.trans h.g))
theorem d4(h:KOk K X Z):(k4 K X).di=noP:=by
 have h1:=(zda (P:=k3 K X) (n:=1)).2.2.1
 have h2:=(zd8 (P:=k2 K X) (n:=1)).2.2.1
 have h3:=(zda (P:=K) (n:=1)).2.2.1
 exact h1.trans (h2.trans (h3.trans h.di))
theorem c4(h:KOk K X Z):(k4 K X).ch=zfz noP 1 (some X):=by
 have h2:(k3 K X).ch=noP:=(zd8 (P:=k2 K X) (n:=1)).2.1
 have h3:=h.i3.ask h.l3
 show zfz (k3 K X).ch 1 (if X=zh5 (k3 K X) 1 then none else some X)=_
 rw[h2,h3,if_neg h.xz]
theorem r4(h:KOk K X Z):zbS (k4 K X)=[⟨1,X⟩]:=by
 unfold zbS
 rw[h.n4,h.c4]
 rfl
theorem com(h:KOk K X Z):zbU (k4 K X)=(0,k5 K X)∧PlI (k5 K X) (zgy (k4 K X) fun _=>Z) 2∧(k5 K X).n=5∧(k5 K X).G.size - (k5 K X).G.at_=6∧zjs (k5 K X).di 5=[1]:=by
 have hr4:=h.r4
 have hn60:zdV (((zbS (k4 K X)).length:Nat):Int)=6:=by
  rw[hr4]
  show zdV ((1:Nat):Int)=6
  unfold zdV
  rw[if_pos aD]
  rfl
 have hg:=h.g4
 have hd:=h.d4
 have hi:=h.i4
 have hn4:=h.n4
 unfold k5
 generalize k4 K X=K4 at*
 have hfit:zdV ((zbS K4).length:Int)≤((K4.G.size - K4.G.at_:Nat):Int):=by rw[hn60,hg];decide
 obtain⟨c1,c2,c3,c4,c5,c6⟩:=zhN hi ae (by rw[hn4];omega) bC bC hfit
 have hrl:=zkO K4.G (R:=zbS K4) bC bC
 rw[hn60]at hrl
 obtain⟨d1,d2,d3,d4,d5,d6,d7,d8⟩:=ze5 (zbS K4) (ze4 K4 (zbS K4))
 refine⟨?_,c2,?_,?_,?_⟩
 ·have hroom:zcP K4=(0,K4):=by unfold zcP;rw[if_neg ae]
  unfold zbU
  rw[hroom,if_neg bC,if_neg bC,if_neg (by rw[hn60,hg];decide),if_pos rfl,if_pos c1]
 ·show(zbT _ _).n=5
  rw[d6,c6,hn4]
 ·show(zbT _ _).G.size - (zbT _ _).G.at_=6
  rw[d2,c3,hg]
  show 12 - (0+(ziz _ _).length)=6
  rw[hg]at hrl
  omega
 ·show zjs (zbT (ze4 K4 (zbS K4)) (zbS K4)).di 5=[1]
  have e:(zbT (ze4 K4 (zbS K4)) (zbS K4)).di=zfz noP 1 (some X):=by
   rw[hr4,←hd]
   rfl
  rw[e]
  rfl
theorem n6(h:KOk K X Z):(k6 K X).n=5∧(k6 K X).di=(k5 K X).di∧(k6 K X).G=(k5 K X).G:=by
 obtain⟨h1,h2,h3,h4⟩:=zd8 (P:=k5 K X) (n:=1)
 exact⟨h1.trans h.com.2.2.1,h3,h4⟩
theorem l5(h:KOk K X Z):1<(k5 K X).n:=by rw[h.com.2.2.1];omega
end KOk
end
def zeroPl:List Value:=[.pointer none, .pointer none, .int .i64 0, .int .i64 0, .map none, .map none, .slice none 0 0, .bool false]
def NilP(p:Value)(w:World):Prop:=p= .pointer none∨∃ z,p= .pointer (some ⟨z,0,none⟩)∧row w z [.pointer none, .pointer none, .int .i64 0, .int .i64 0, .map none, .map none, .slice none 0 0, .bool false] 116
theorem NilP.new{p:Value}{w w':World}(h:NilP p w)(hb:Below w.heap.size w w'):NilP p w':=h.imp id fun⟨z,e,hr⟩=>⟨z,e,hr.new hb⟩
def inP(P:Pl)(n:Int):Prop:=0≤n∧n<(P.n:Int)
instance(P:Pl)(n:Int):Decidable (inP P n):=by unfold inP;exact inferInstance
def rdE(P:Pl)(n:Int):Int:=if inP P n then 0 else 2
def gX(P:Pl)(V:Nat→Pg)(n:Int):Pg:=if inP P n then(P.ch n.toNat).getD (V n.toNat)else zb8
def gP(P:Pl)(n:Int):Pl:=if inP P n then zkH P n.toNat else P
def pP(P:Pl)(n:Int)(X:Pg):Pl:=if inP P n then znJ P n.toNat X else P
theorem zqE:bv zb8=zP:=by rw[zb8,bv,List.map_replicate];rfl
theorem rd_is{P:Pl}(h:P.dead=false)(n:Int):zdf P n=rdE P n:=by
 unfold zdf rdE inP
 rw[h,if_neg ay]
namespace PlI
variable {P:Pl}{V:Nat→Pg}{k:Nat}
theorem gP(h:PlI P V k)(n:Int):PlI (gP P n) V k:=by
 unfold Go.Proofs.YtdbogkndglbffaaGreat.gP
 split
 ·rename_i hn;exact h.zkH (by unfold inP at hn;omega)
 ·exact h
theorem pP(h:PlI P V k)(n:Int){X:Pg}(hX:X.length=512):PlI (pP P n X) V k:=by
 unfold Go.Proofs.YtdbogkndglbffaaGreat.pP
 split
 ·rename_i hn;exact h.znJ (by unfold inP at hn;omega) hX
 ·exact h
end PlI
section
variable {Y:World→List Nat→Prop}[Thing Y]{q lo:Nat}{L:List Nat}{P:Pl}{V:Nat→Pg}{k:Nat}{w:World}
omit [Thing Y] in
theorem z_n(h:Two (PZ q P) Y lo L w):P.n≤2048:=by
 obtain⟨g,x,mc,md,cv,hP⟩:=zgv h
 exact hP.nle.1
theorem zGet(h:Two (PZ q P) Y lo L w)(hi:PlI P V k)(n:Int):Calls Tryz.prog 100 [.pointer (some ⟨q,0,none⟩), .int .i64 n].toArray w (Ret fun v w'=>v= .tuple #[.agg (bv (gX P V n)).toArray, .int .i64 (rdE P n)]∧Two (PZ q (gP P n)) Y lo L w'∧LoL lo L w w'):=by
 by_cases hn:inP P n
 ·have hn2:=hn
  unfold inP at hn2
  obtain⟨m,rfl⟩:∃ m:Nat,n=m:=⟨n.toNat,ae⟩
  unfold gX rdE gP
  rw[if_pos hn,if_pos hn,if_pos hn,Int.toNat_natCast,←hi.getX ae]
  exact zoT h fun g x mc md cv hP=>getYes hP hi.ok hi.de m ae
 ·unfold gX gP
  rw[if_neg hn,if_neg hn,zqE]
  obtain⟨g,x,mc,md,cv,hP⟩:=zgv h
  have hr:=rd_is hi.de n
  have hne:zdf P n≠0:=by rw[hr];unfold rdE;rw[if_neg hn];omega
  have hg:=getNo hP hi.ok.lg.szm n hne
  rw[hr]at hg
  exact hg.to fun v w' ⟨h1,h2⟩=>⟨h1,h.new h2,LoL.of_below h2⟩
theorem zPut(h:Two (PZ q P) Y lo L w)(hi:PlI P V k)(n:Int){X:Pg}(hX:X.length=512):Calls Tryz.prog 23 [.pointer (some ⟨q,0,none⟩), .int .i64 n, .agg (bv X).toArray].toArray w (Ret fun v w'=>v= .int .i64 (rdE P n)∧Two (PZ q (pP P n X)) Y lo L w'∧LoL lo L w w'):=by
 by_cases hn:inP P n
 ·have hn2:=hn
  unfold inP at hn2
  obtain⟨m,rfl⟩:∃ m:Nat,n=m:=⟨n.toNat,ae⟩
  unfold rdE pP
  rw[if_pos hn,if_pos hn,Int.toNat_natCast]
  exact zoT h fun g x mc md cv hP=>putYes hP hi.ok hi.de m ae X hX
 ·unfold pP
  rw[if_neg hn]
  obtain⟨g,x,mc,md,cv,hP⟩:=zgv h
  have hr:=rd_is hi.de n
  have hne:zdf P n≠0:=by rw[hr];unfold rdE;rw[if_neg hn];omega
  have hg:=putNo hP hi.ok.lg.szm n X hne
  rw[hr]at hg
  exact hg.to fun v w' ⟨h1,h2⟩=>⟨h1,h.new h2,LoL.of_below h2⟩
end
def zgz(P:Pl)(V:Nat→Pg):Nat→Pg:=if(zbU P).1=0 then zgy P V else V
theorem zpc{P:Pl}{V:Nat→Pg}(h:(zbS P).length=0):zgy P V=V:=by
 funext n
 unfold zgy
 split
 ·rename_i hn
  cases hc:P.ch n with
  |none=>rfl
  |some x=>
   have hm:(⟨(n:Int),x⟩:Ch)∈zbS P:=List.mem_map.2 ⟨(n,x),zmz hc (Nat.zero_le _) ae,rfl⟩
   rw[List.eq_nil_of_length_eq_zero h]at hm
   cases hm
 ·rfl
theorem PlI.commit{P:Pl}{V:Nat→Pg}{k:Nat}(h:PlI P V k)(hk:k≤900000)(hn:P.n≤2048):PlI (zbU P).2 (zgz P V) (k+1)∧(zbU P).2.n=P.n∧(zbU P).2.fr=P.fr∧
  ((zbS P).length≤60→zdV ((zbS P).length:Int)≤(P.G.size:Int)→(zbU P).1=0)∧((zbU P).1=0→0<(zbS P).length→(zbU P).2.ch=noP):=by
 unfold zgz
 by_cases h0:(zbS P).length=0
 ·have e:zbU P=(0,P):=by unfold zbU;rw[if_pos h0]
  rw[e,if_pos rfl,zpc h0]
  exact⟨h.up ae,rfl,rfl,fun _ _=>rfl,fun _ h1=>ae⟩
 by_cases h60:60<(zbS P).length
 ·have e:zbU P=(3,P):=by unfold zbU;rw[if_neg h0,if_pos h60]
  rw[e,if_neg ay]
  exact⟨h.up ae,rfl,rfl,fun h1 _=>ae,fun h1=>by simp at h1⟩
 by_cases hsz:(P.G.size:Int)<zdV ((zbS P).length:Int)
 ·have e:zbU P=(8,P):=by unfold zbU;rw[if_neg h0,if_neg h60,if_pos hsz]
  rw[e,if_neg ay]
  exact⟨h.up ae,rfl,rfl,fun _ h1=>ae,fun h1=>by simp at h1⟩
 have hroom:(zcP P).1=0∧PlI (zcP P).2 V (k+1)∧zbS (zcP P).2=zbS P∧zdV ((zbS P).length:Int)≤(((zcP P).2.G.size - (zcP P).2.G.at_:Nat):Int)∧(zcP P).2.ch=P.ch∧(zcP P).2.n=P.n∧(zcP P).2.fr=P.fr:=by
  unfold zcP
  split
  ·obtain⟨s1,s2,s3,s4,s5,s6,s7,s8⟩:=h.settle ae
   refine⟨s1,s2,by unfold zbS;rw[s5,s6],?_,s5,s6,s7⟩
   rw[s4]
   show _≤((P.G.size - 0:Nat):Int)
   omega
  ·rename_i hr
   exact⟨rfl,h.up ae,rfl,Int.not_lt.1 hr,rfl,rfl,rfl⟩
 obtain⟨r1,r2,r3,r4,r5,r6,r7⟩:=hroom
 have hck:=zhN r2 ae (by rw[r6];exact hn) (by rw[r3];exact h0) (by rw[r3];exact h60) (by rw[r3];exact r4)
 rw[r3]at hck
 obtain⟨c1,c2,c3,c4,c5,c6⟩:=hck
 have e:zbU P=(0,{zbT (ze4 (zcP P).2 (zbS P)) (zbS P)with ch:=noP}):=by
  unfold zbU
  rw[if_neg h0,if_neg h60,if_neg hsz,if_pos r1,if_pos c1]
 have ev:zgy (zcP P).2 V=zgy P V:=by unfold zgy;rw[r5,r6]
 rw[e,if_pos rfl,←ev]
 obtain⟨d1,d2,d3,d4,d5,d6,d7,d8⟩:=ze5 (zbS P) (ze4 (zcP P).2 (zbS P))
 refine⟨c2,?_,?_,fun _ _=>rfl,fun _ _=>rfl⟩
 ·show(zbT _ _).n=P.n
  rw[d6,c6,r6]
 ·show(zbT _ _).fr=P.fr
  rw[d3];exact r7
structure zcD(P Q:Pl):Prop where
 D:Q.D=P.D
 G:Q.G=P.G
 ch:Q.ch=P.ch
 di:Q.di=P.di
 de:Q.dead=P.dead
namespace zcD
variable {P Q:Pl}
theorem eq(h:zcD P Q):Q={P with fr:=Q.fr,cl:=Q.cl}:=by
 obtain⟨D,G,fr,ch,di,cl,de⟩:=Q
 obtain⟨h1,h2,h3,h4,h5⟩:=h
 dsimp only at h1 h2 h3 h4 h5
 subst h1 h2 h3 h4 h5
 rfl
theorem n(h:zcD P Q):Q.n=P.n:=by unfold Pl.n;rw[h.D,h.G]
theorem inP(h:zcD P Q)(m:Int):inP Q m↔inP P m:=by unfold Go.Proofs.YtdbogkndglbffaaGreat.inP;rw[h.n]
theorem rdE(h:zcD P Q)(m:Int):rdE Q m=rdE P m:=by
 unfold Go.Proofs.YtdbogkndglbffaaGreat.rdE
 by_cases hm:Go.Proofs.YtdbogkndglbffaaGreat.inP P m
 ·rw[if_pos hm,if_pos ((h.inP m).2 hm)]
 ·rw[if_neg hm,if_neg fun hc=>hm ((h.inP m).1 hc)]
theorem gX(h:zcD P Q)(V:Nat→Pg)(m:Int):gX Q V m=gX P V m:=by
 unfold Go.Proofs.YtdbogkndglbffaaGreat.gX
 by_cases hm:Go.Proofs.YtdbogkndglbffaaGreat.inP P m
 ·rw[if_pos hm,if_pos ((h.inP m).2 hm),h.ch]
 ·rw[if_neg hm,if_neg fun hc=>hm ((h.inP m).1 hc)]
theorem ask(P:Pl)(m:Nat):zcD P (zgj P m):=by
 obtain⟨h1,h2,h3,h4,h5,h6,h7⟩:=zeN P m
 exact⟨h1,h2,h4,h5,h6⟩
theorem symm(h:zcD P Q):zcD Q P:=⟨h.D.symm,h.G.symm,h.ch.symm,h.di.symm,h.de.symm⟩
theorem trans{R:Pl}(h:zcD P Q)(h2:zcD Q R):zcD P R:=⟨h2.D.trans h.D,h2.G.trans h.G,h2.ch.trans h.ch,h2.di.trans h.di,h2.de.trans h.de⟩
theorem get(P:Pl)(m:Int):zcD P (gP P m):=by
 unfold Go.Proofs.YtdbogkndglbffaaGreat.gP zkH
 split
 ·split
  ·exact⟨rfl,rfl,rfl,rfl,rfl⟩
  ·exact ask P _
 ·exact⟨rfl,rfl,rfl,rfl,rfl⟩
theorem gP(h:zcD P Q)(m:Int):zcD (gP P m) (gP Q m):=(get P m).symm.trans (h.trans (get Q m))
theorem zkE(h:zcD P Q)(c:PgM):zcD {P with ch:=c} {Q with ch:=c}:=⟨h.D,h.G,rfl,h.di,h.de⟩
theorem pP(h:zcD P Q){V:Nat→Pg}{k:Nat}(hP:PlI P V k)(hQ:PlI Q V k)(m:Int)(X:Pg):zcD (pP P m X) (pP Q m X):=by
 unfold Go.Proofs.YtdbogkndglbffaaGreat.pP
 by_cases hm:Go.Proofs.YtdbogkndglbffaaGreat.inP P m
 ·rw[if_pos hm,if_pos ((h.inP m).2 hm)]
  unfold Go.Proofs.YtdbogkndglbffaaGreat.inP at hm
  have hn:=h.n
  unfold znJ
  rw[hP.ask ae,hQ.ask ae,h.ch]
  exact((ask P _).symm.trans (h.trans (ask Q _))).zkE _
 ·rw[if_neg hm,if_neg fun hc=>hm ((h.inP m).1 hc)];exact h
theorem settle(h:zcD P Q):(zbd Q).1=(zbd P).1∧zcD (zbd P).2 (zbd Q).2:=by
 have hs:zbz Q=zbz P:=by unfold zbz;rw[h.G,h.D,h.di,h.n]
 unfold zbd
 rw[hs,h.G]
 split
 ·split
  ·exact⟨rfl,rfl,rfl,h.ch,by dsimp only;rw[h.di],h.de⟩
  ·exact⟨rfl,rfl,rfl,h.ch,h.di,h.de⟩
 ·exact⟨rfl,rfl,rfl,h.ch,h.di,h.de⟩
theorem keep(h:zcD P Q)(e:Int):zcD (keepR e P) (keepR e Q):=⟨h.D,h.G,h.ch,h.di,by unfold keepR;dsimp only;rw[h.de]⟩
theorem done:∀ (R:Rec) {P Q:Pl},zcD P Q→zcD (zbT P R) (zbT Q R)
 |[],P,Q,h=>h
 |c::R,P,Q,h=>done R (P:={P with di:=zfz P.di c.num.toNat (some c.page),cl:=without P.cl c.num}) (Q:={Q with di:=zfz Q.di c.num.toNat (some c.page),cl:=without Q.cl c.num}) ⟨h.D,h.G,h.ch,by dsimp only;rw[h.di],h.de⟩
theorem rec_(h:zcD P Q):zbS Q=zbS P:=by unfold zbS;rw[h.ch,h.n]
theorem ze4(h:zcD P Q)(R:Rec):zcD (ze4 P R) (ze4 Q R):=by
 unfold Go.Proofs.YtdbogkndglbffaaGreat.ze4
 rw[h.D,h.G]
 exact⟨rfl,rfl,h.ch,h.di,h.de⟩
theorem commit(h:zcD P Q):(zbU Q).1=(zbU P).1∧zcD (zbU P).2 (zbU Q).2:=by
 have hr:(zcP Q).1=(zcP P).1∧zcD (zcP P).2 (zcP Q).2:=by
  unfold zcP
  rw[h.rec_,h.G]
  split
  ·exact h.settle
  ·exact⟨rfl,h⟩
 unfold zbU
 rw[h.rec_,h.G,hr.1,hr.2.D,hr.2.G]
 split
 ·exact⟨rfl,h⟩
 ·split
  ·exact⟨rfl,h⟩
  ·split
   ·exact⟨rfl,h⟩
   ·split
    ·split
     ·exact⟨rfl,(done (zbS P) (hr.2.ze4 (zbS P))).zkE noP⟩
     ·exact⟨rfl,(hr.2.ze4 (zbS P)).keep _⟩
    ·exact⟨rfl,hr.2.keep _⟩
theorem zgz(h:zcD P Q)(V:Nat→Pg):zgz Q V=zgz P V:=by
 unfold Go.Proofs.YtdbogkndglbffaaGreat.zgz zgy
 rw[h.commit.1,h.n,h.ch]
end zcD
end Go.Proofs.YtdbogkndglbffaaGreat
namespace Coup
open Go Go.RowKit
def zg2(A:Value→World→Prop)(B:List PanicEntry→World→Prop):Ending→World→Prop
 | .returned v,w=>A v w
 | .panicked c,w=>B c w
 | .outgrown,_=>False
theorem _root_.Go.Calls.toP{P:Program}{f:FuncId}{args:Array Value}{w:World}{R A:Value→World→Prop}{B:List PanicEntry→World→Prop}(h:Calls P f args w (Ret R))(hr:∀ v w',R v w'→A v w'):Calls P f args w (zg2 A B):=
 h.mono fun e w' ⟨v,h1,h2⟩=>by subst h1;exact hr v w' h2
theorem _root_.Go.Calls.zkQ{P:Program}{f:FuncId}{args:Array Value}{w:World}{A A':Value→World→Prop}{B B':List PanicEntry→World→Prop}(h:Calls P f args w (zg2 A B))(hr:∀ v w',A v w'→A' v w')(hb:∀ c w',B c w'→B' c w'):Calls P f args w (zg2 A' B'):=
 h.mono fun e w' h=>by
  cases e with
  |returned v=>exact hr v w' h
  |panicked c=>exact hb c w' h
  |outgrown=>exact h
section
variable {md:Option Nat→Prop}{P:Program}{n:Nat}{Q:Post}{ρ:Env}{w:World}
def scopeQ(Q:Post):Post
 | .goto _,_,_=>False
 |e,ρ,w=>Q e ρ w
theorem scopeR(h:Q .ret ρ w):scopeQ Q .ret ρ w:=h
theorem W_label{l:Nat}(h:Q .normal ρ w):W md P n (.label l) Q ρ w:=fun _ _ _ _ ha=>wpIn_label ⟨_,ha,h⟩
theorem zcS{b:Frame}{a:Act}{k:List Item}{cs:List Frame}{c:Code}:step P (lone (b.atR a (.code (.scope c)::k)) cs w)= .next (lone (b.atR a (.code c:: .inScope c::k)) cs w):=
 step_lone_go (by simp[stepG,stepG.exec,Frame.atR])
theorem zie{b:Frame}{a:Act}{k:List Item}{cs:List Frame}{c:Code}:step P (lone (b.atR a (.inScope c::k)) cs w)= .next (lone (b.atR a k) cs w):=
 step_lone_go (by simp[stepG,stepG.exec,Frame.atR])
theorem W_scope{c:Code}(h:W md P n c (scopeQ Q) ρ w):W md P n (.scope c) Q ρ w:=by
 intro hc rd a hmd ha b k cs hro hb hr
 have h0:(lone (b.atR a (.code (.scope c)::k)) cs w).fenced P (fr rd):=fenced_calm hb hr rfl
 obtain⟨e,a₁,w₁,⟨ρ',h1,h2⟩,harr⟩:=h hc rd a hmd ha b (.inScope c::k) cs hro hb hr
 cases e with
 |normal=>exact⟨.normal,a₁,w₁,⟨ρ',h1,h2⟩, .head h0 zcS (StepsIn.trans harr (.one (fenced_calm hb hr rfl) zie))⟩
 |exit id=>
  have hx:exitTo id (.inScope c::k)=exitTo id k:=by simp[exitTo]
  exact⟨.exit id,a₁,w₁,⟨ρ',h1,h2⟩,fun k' hk=>.head h0 zcS (harr.1 k' (by rw[hx];exact hk)),
   fun hr' hk=>let ⟨k₁,h3,h4⟩:=harr.2 hr' (by rw[hx];exact hk);⟨k₁,h3, .head h0 zcS h4⟩⟩
 |goto l=>exact h2.elim
 |ret=>exact⟨_,a₁,w₁,⟨ρ',h1,h2⟩, .of_steps (.one h0 zcS) harr⟩
 |panic ch=>exact⟨_,a₁,w₁,⟨ρ',h1,h2⟩, .of_steps (.one h0 zcS) harr⟩
 |outgrown=>exact⟨_,a₁,w₁,⟨ρ',h1,h2⟩, .of_steps (.one h0 zcS) harr⟩
def SlM(ms:List Dm)(ρ:Env):List (Nat × Value)→Prop
 |[]=>ρ.ms=ms
 |p::l=>ρ.f p.1=p.2∧SlM ms ρ l
theorem SlM.env{ms:List Dm}{ρ:Env}:∀ {l:List (Nat × Value)},SlM ms ρ l→ρ=ups ⟨ρ.f,ms⟩ l
 |[],h=>Env.ext' (fun _=>rfl) h
 |p::l,h=>by
  have:=SlM.env h.2
  show ρ=up (ups ⟨ρ.f,ms⟩ l) p.1 p.2
  rw[←this,←h.1,zdu]
theorem W_cutM {c y:Code} {α:Type} (ms:List Dm) (L:α→List (Nat × Value)) (I:α→World→Prop)
  (h1:W md P n c (zmU (fun ρ' w'=>∃ k,SlM ms ρ' (L k)∧I k w') Q) ρ w) (h2:∀ k (f:Nat→Value) w',I k w'→W md P n y Q (ups ⟨f,ms⟩ (L k)) w'):W md P n (.seq c y) Q ρ w:=by
 refine zah (znM h1 ?_)
 rintro e ρ' w' h
 cases e with
 |normal=>
  obtain⟨k,hs,hI⟩:=h
  have:=h2 k ρ'.f w' hI
  rw[←SlM.env hs]at this
  exact this
 |_=>exact h
theorem zpd{o:Oper}{r:Next}{w':World}(hr:(execOp (ev ρ) o).run P w= .ok r w')(hd:∀ d,r≠ .defer d):∀ c,o.op≠ .defer c:=by
 intro c hc
 have hx:(execOp (ev ρ) o).run P w=((do pure (.defer (←resolve (ev ρ) c o.type))):Sem Next).run P w:=by simp only[execOp,hc]
 rw[hx]at hr
 simp only[Sem.run_bind]at hr
 cases hq:(resolve (ev ρ) c o.type).run P w with
 |ok d w'=>rw[hq]at hr;cases hr;exact hd _ rfl
 |halt x w'=>rw[hq]at hr;cases hr
theorem zpe {o:Oper} {K:Env→World→Prop} {Kp:List PanicEntry→World→Prop} {f:FuncId} {vl:List Value} {A:Value→World→Prop} {B:List PanicEntry→World→Prop} (hr:(execOp (ev ρ) o).run P w= .ok (.enter f vl.toArray) w)
  (hc:Calls P f vl.toArray w (zg2 A B)) (hp:∀ c w',B c w'→Kp c w') (h:∀ v w',A v w'→K (upo ρ o.dst v) w'):OpX P o K Kp ρ w:=by
 refine⟨zpd hr ay,?_⟩
 rw[hr]
 refine hc.mono fun e w' h'=>?_
 cases e with
 |returned v=>exact h v w' h'
 |panicked c=>exact hp c w' h'
 |outgrown=>exact h'
theorem zcQ {ops:Array Oper} {rest:List Oper} {o:Oper} (hg:o.guard=none) {f:FuncId} {vl:List Value} {A:Value→World→Prop} {B:List PanicEntry→World→Prop} (hr:(execOp (ev ρ) o).run P w= .ok (.enter f vl.toArray) w)
 (hc:Calls P f vl.toArray w (zg2 A B)) (hp:∀ c w',B c w'→Q (.panic c) ρ w') (h:∀ v w',A v w'→WR md P n ops rest Q (upo ρ o.dst v) w'):WR md P n ops (o::rest) Q ρ w:=WR_opX hg (zpe hr hc hp h)
theorem zlH {l:List Oper} {S:World→Prop} {done:List Nat} {i:Nat} (hi:Nat.blt i l.length=true) (hw:Region.wanted (zb4 l i) (yl l.toArray ρ)=true) {f:FuncId} {vl:List Value} {A:Value→World→Prop} {B:List PanicEntry→World→Prop} (hr:(execOp (ev ρ) (zb4 l i)).run P w= .ok (.enter f vl.toArray) w)
 (hc:Calls P f vl.toArray w (zg2 A B)) (hp:∀ c w',B c w'→pnQ Q ρ.ms c w') (h:∀ v w',A v w'→S w'∧WA md P n l S Q (i::done) (upo ρ (zb4 l i).dst v) w'):WO md P n l S Q done i ρ w:=WO_opX hi hw (zpe hr hc hp h)
def pe(v:Value):List PanicEntry:=[{v,recovered:=false}]
theorem zqF{ops:Array Oper}{rest:List Oper}{d:Option Nat}{x:Operand}{ty:TypeId}{pos:String}{af:Array Edge}{t:TypeId}{v:Value}(hx:ev ρ x= .iface t v)(h:Q (.panic (pe (.iface t v))) ρ w):WR md P n ops (⟨d, .panic x,ty,pos,af,none⟩::rest) Q ρ w:=by
 refine WR_opX rfl ⟨ay,?_⟩
 have hr:(execOp (ev ρ) ⟨d, .panic x,ty,pos,af,none⟩).run P w= .halt (.panic (.iface t v)) w:=by
  simp only[execOp,hx]
  rfl
 rw[hr]
 exact h
def zdP(P:Program)(rs:List ResultVar)(A:Value→World→Prop)(B:List PanicEntry→World→Prop)(ρ:Env):List Dm→FrameMode→World→Prop
 |[], .returning,w=>∃ vs,zh8 P w ρ rs vs∧A (pack vs) w
 |[], .panicking c,w=>B c w
 |[], .run,_=>False
 | .m D::ms,u,w=>u≠ .run∧w.heap[D]?=some (.deferred (some []))∧zdP P rs A B ρ ms u (w.putObj D (.deferred none))
 | .fn g cap args::ms,u,w=>u≠ .run∧zcC P g=true∧CallsDIn Fence.wide 8 P g (args++cap).toArray u w fun
  | .returned _,u',w'=>zdP P rs A B ρ ms (settle u') w'
  | .panicked c,u',w'=>zdP P rs A B ρ ms (raised u' c) w'
  | .outgrown,_,_=>False
def zkR(P:Program)(rs:List ResultVar)(A:Value→World→Prop)(B:List PanicEntry→World→Prop):Post
 | .normal,ρ,w=>zdP P rs A B ρ ρ.ms .returning w
 | .ret,ρ,w=>zdP P rs A B ρ ρ.ms .returning w
 | .panic c,ρ,w=>zdP P rs A B ρ ρ.ms (.panicking c) w
 |_,_,_=>False
theorem enterC{g:Nat}{vl:List Value}(h:zcC P g=true):(callFunc g vl.toArray).run P w= .ok (.enter g vl.toArray) w:=by
 unfold zcC at h
 cases hfn:P.funcs[g]? with
 |none=>simp[hfn]at h
 |some f=>
  rw[hfn]at h
  simp only[Bool.and_eq_true,Bool.not_eq_true']at h
  cases hb:f.body with
  |none=>simp[hb]at h
  |some c=>
   have hn:¬f.name= "runtime.NumGoroutine" :=by simpa using h.1
   simp[callFunc,program,Sem.run,hfn,hn,hb,Result.andThen]
theorem zb6 {f:FuncId} {fn:Func} {c:Code} {rs:List ResultVar} {args:List Value} {A:Value→World→Prop} {B:List PanicEntry→World→Prop}
  (hf:P.funcs[f]?=some fn) (hb:fn.body=some c) (hr:fn.results=rs.toArray) (hn:fn.ntmps=n) (hok:codeOk n c=true) (hl:Nat.ble args.length n=true)
  (h:W (fun rd=>rd=none) P n c (zkR P rs A B) (env0 args) w):Calls P f args.toArray w (zg2 A B):=by
 have hl':args.length≤n:=Nat.le_of_ble_eq_true hl
 refine(callsIn_wide (n:=9)).1 (callsIn_of_wp_marks hf hb trivial ?_ rfl)
 have ha:=ziX (n:=n) args fn.ntmps hn hl'
 refine wpIn_mono (h hok none _ rfl ha) ?_
 rintro e a' w' ⟨ρ',h1,h2⟩
 have key:∀ (ms:List Dm) (u:FrameMode) (w:World),zdP P rs A B ρ' ms u w→LeavesInM Fence.wide 9 P fn a'.tmps (zg2 A B) (ms.map Dm.d) u w:=by
  intro ms
  induction ms with
  |nil=>
   intro u w hh
   cases u with
   |run=>exact hh.elim
   |returning=>
    obtain⟨vs,h3,h4⟩:=hh
    exact⟨_,zdK hr h1.t h3,h4⟩
   |panicking ch=>exact hh
  |cons D ms ih=>
   intro u w hh
   cases D with
   |m D=>
    obtain⟨h2,h3,h4⟩:=hh
    exact⟨h2, .inl ⟨D,_,rfl,run_takeDeferred h3,ih _ _ h4⟩⟩
   |fn g cap args=>
    obtain⟨h2,h3,h4⟩:=hh
    refine⟨h2, .inr ⟨(fun hd=>nomatch hd),_,_,g,(args++cap).toArray,rfl,?_,fun _ _=>trivial,h4.mono ?_⟩⟩
    ·have e:args.toArray++cap.toArray=(args++cap).toArray:=by simp
     simp only[Dm.d,invoke,e]
     exact enterC h3
    ·intro e u' w' hx
     cases e with
     |returned v=>exact ih _ _ hx
     |panicked c=>exact ih _ _ hx
     |outgrown=>exact hx.elim
 cases e with
 |normal=>show LeavesInM _ _ _ _ _ _ a'.defers _ _;rw[h1.d];exact key _ _ _ h2
 |ret=>show LeavesInM _ _ _ _ _ _ a'.defers _ _;rw[h1.d];exact key _ _ _ h2
 |exit i=>exact h2.elim
 |goto l=>exact h2.elim
 |panic c=>show LeavesInM _ _ _ _ _ _ a'.defers _ _;rw[h1.d];exact key _ _ _ h2
 |outgrown=>exact h2.elim
theorem zem{rs:List ResultVar}{A:Value→World→Prop}{B:List PanicEntry→World→Prop}(vs:List Value)(h:zh8 P w ρ rs vs)(hR:A (pack vs) w)(hm:ρ.ms=[]:=by rfl):zkR P rs A B .normal ρ w:=by
 show zdP P rs A B ρ ρ.ms _ w
 rw[hm];exact⟨vs,h,hR⟩
theorem zmA{rs:List ResultVar}{A:Value→World→Prop}{B:List PanicEntry→World→Prop}(vs:List Value)(h:zh8 P w ρ rs vs)(hR:A (pack vs) w)(hm:ρ.ms=[]:=by rfl):zkR P rs A B .ret ρ w:=by
 show zdP P rs A B ρ ρ.ms _ w
 rw[hm];exact⟨vs,h,hR⟩
theorem zkS{rs:List ResultVar}{A:Value→World→Prop}{B:List PanicEntry→World→Prop}(vs:List Value)(D:Nat)(hD:w.heap[D]?=some (.deferred (some [])))(h:zh8 P (w.putObj D (.deferred none)) ρ rs vs)(hR:A (pack vs) (w.putObj D (.deferred none)))(hm:ρ.ms=[.m D]:=by rfl):zkR P rs A B .ret ρ w:=by
 show zdP P rs A B ρ ρ.ms _ w
 rw[hm];exact⟨ay,hD,vs,h,hR⟩
theorem zbs{rs:List ResultVar}{A:Value→World→Prop}{B:List PanicEntry→World→Prop}{c:List PanicEntry}(hR:B c w)(hm:ρ.ms=[]:=by rfl):zkR P rs A B (.panic c) ρ w:=by
 show zdP P rs A B ρ ρ.ms _ w
 rw[hm];exact hR
theorem zlI{rs:List ResultVar}{A:Value→World→Prop}{B:List PanicEntry→World→Prop}{c:List PanicEntry}(D:Nat)(hD:w.heap[D]?=some (.deferred (some [])))(hR:B c (w.putObj D (.deferred none)))(hm:ρ.ms=[.m D]:=by rfl):zkR P rs A B (.panic c) ρ w:=by
 show zdP P rs A B ρ ρ.ms _ w
 rw[hm];exact⟨ay,hD,hR⟩
theorem zqG {ops:Array Oper} {rest:List Oper} {x:Operand} {al:List Operand} {vl cl:List Value} {ats:Array Nat} {ty:TypeId} {pos:String} {af:Array Edge} {g:Nat} (hmd:∀ rd,md rd→rd=none)
  (hx:ev ρ x= .func (.func g) #[] cl.toArray) (hv:al.map (ev ρ)=vl) (h:WR md P n ops rest Q ⟨ρ.f, .fn g cl vl::ρ.ms⟩ w):WR md P n ops (⟨none, .defer ⟨.value x,al.toArray,ats⟩,ty,pos,af,none⟩::rest) Q ρ w:=by
 intro hl rd a hrd ha
 obtain rfl:=hmd rd hrd
 simp only[List.all_cons,Bool.and_eq_true]at hl
 refine wpListIn_plain rfl fun K' hK'=>?_
 refine⟨fun f _=>zjQ none f,?_⟩
 have hm:al.toArray.map (ev ρ)=vl.toArray:=by rw[←hv];simp
 have hr:(execOp (ev ρ) ⟨none, .defer ⟨.value x,al.toArray,ats⟩,ty,pos,af,none⟩).run P w= .ok (.defer (Dm.d (.fn g cl vl))) w:=by
  simp only[execOp,resolve,hm,hx,Deferred.ofValue,Dm.d]
  simp[Result.andThen,Sem.run_bind,Sem.run_pure]
 show Oper.uponIn _ _ _ _ _ _ _ ((Oper.semAt (fr none).round a.eval _).run P w)
 rw[zlY,Oper.semAt_none,ha.ev,hr,Oper.uponIn_defer]
 exact hK' _ _ (h hl.2 none _ hrd ⟨by simp[Act.put,ha.d],ha.s,ha.t⟩)
def retD(P:Program)(rs:List ResultVar)(A:Value→World→Prop):Post
 | .normal,ρ,w=>ρ.ms=[]∧∃ vs,zh8 P w ρ rs vs∧A (pack vs) w
 | .ret,ρ,w=>ρ.ms=[]∧∃ vs,zh8 P w ρ rs vs∧A (pack vs) w
 |_,_,_=>False
theorem zhO{rs:List ResultVar}{A:Value→World→Prop}(vs:List Value)(h:zh8 P w ρ rs vs)(hR:A (pack vs) w)(hm:ρ.ms=[]:=by rfl):retD P rs A .normal ρ w:=⟨hm,vs,h,hR⟩
theorem ziL {f : FuncId} {fn : Func} {id d e : Nat} {ats : Array Nat} {ty1 ty2 : TypeId} {pos1 pos2 : String} {af1 af2 : Array Edge} {rest : Code} {rs : List ResultVar} {args : List Value} {A : Value → World → Prop} {u u2 : FrameMode} {x : Value}
  (hf : P.funcs[f]? = some fn) (hb : fn.body = some (.seq (.region id #[⟨some d, .call ⟨.builtin .recover, #[], ats⟩, ty1, pos1, af1, none⟩, ⟨some e, .assign (.tmp d), ty2, pos2, af2, none⟩] false) rest)) (hr : fn.results = rs.toArray) (hn : fn.ntmps = n)
  (hok : codeOk n rest = true) (hd : Nat.blt d n = true) (he : Nat.blt e n = true) (hl : Nat.ble args.length n = true)
  (hu : ∀ (c₀ : Frame) (cs : List Frame), c₀.mode = u → recoverD (c₀ :: cs) = some (x, { c₀ with mode := u2 } :: cs) ∨ (recoverD (c₀ :: cs) = none ∧ u2 = u ∧ x = .nilIface))
  (h : W (fun rd => rd = none) P n rest (retD P rs A) (up (up (env0 args) d x) e x) w) : CallsDIn Fence.wide 8 P f args.toArray u w (fun en u' w' => u' = u2 ∧ Ret A en w') := by
 have hl' : args.length ≤ n := Nat.le_of_ble_eq_true hl
 have ha := ziX (n := n) args fn.ntmps hn hl'
 refine callsDIn_of_wpSIn hf hb trivial fun c₀ cs hc => wpSIn_seq (wpSIn_region ?_)
 have hup : ∀ (cs' : List Frame), cs' = { c₀ with mode := u2 } :: cs → ∀ a', Ag n a' (up (up (env0 args) d x) e x) → rest.wpSIn Fence.wide 8 P (bodyPostS P fn c₀ cs fun en u' w' => u' = u2 ∧ Ret A en w') a' cs' w := by
  rintro cs' rfl a' ha'
  refine wpSIn_of_wpIn rfl ?_
  have hW := h hok none a' rfl ha'
  have hW' : rest.wpIn Fence.wide 8 P (lift n (retD P rs A)) a' w := fun b k cs hro hb hr => hW b k cs hro hb (room_wide _)
  refine wpIn_mono hW' ?_
  rintro en a2 w2 ⟨ρ2, h1, h2⟩
  cases en with
  | normal =>
   obtain ⟨hm, vs, h3, h4⟩ := h2
   exact ⟨by rw [h1.d, hm]; rfl, u2, rfl, _, zdK hr h1.t h3, rfl, _, rfl, h4⟩
  | ret =>
   obtain ⟨hm, vs, h3, h4⟩ := h2
   exact ⟨by rw [h1.d, hm]; rfl, u2, rfl, _, zdK hr h1.t h3, rfl, _, rfl, h4⟩
  | exit i => exact h2.elim
  | goto l => exact h2.elim
  | panic c => exact h2.elim
  | outgrown => exact h2.elim
 have hd' : d < n := by simpa using hd
 have he' : e < n := by simpa using he
 generalize ({ tmps := args.toArray ++ Array.replicate (fn.ntmps - args.toArray.size) undef, defers := [] } : Act) = a at ha ⊢
 have hag : ∀ v, Ag n ((a.put (some d) v).put (some e) v) (up (up (env0 args) d v) e v) := fun v =>
  (ha.put (some d) (fun k hk => by cases hk; exact hd') v).put (some e) (fun k hk => by cases hk; exact he') v
 have hev : ∀ v, (a.put (some d) v).eval (.tmp d) = v := fun v => by
  have h1 := (ha.put (some d) (fun k hk => by cases hk; exact hd') v).t d
  show (a.put (some d) v).tmps.getD d undef = v
  rw [h1]; exact zez _ _ _
 have hrec : (execOp a.eval ⟨some d, .call ⟨.builtin .recover, #[], ats⟩, ty1, pos1, af1, none⟩).run P w = .ok .recover w := rfl
 have hasg : ∀ v, (execOp (a.put (some d) v).eval ⟨some e, .assign (.tmp d), ty2, pos2, af2, none⟩).run P w = .ok (.value v) w := fun v => by
  show Result.ok (Next.value ((a.put (some d) v).eval (.tmp d))) w = _
  rw [hev]
 have key : ∀ (o1 o2 : Oper), Region.wanted o1 (fun j => yielded #[o1, o2] a.tmps j) = true → (∀ v, Region.wanted o2 (fun j => yielded #[o1, o2] (a.put (some d) v).tmps j) = true) → o1.dst = some d → o2.dst = some e →
   (execOp a.eval o1).run P w = .ok .recover w → (∀ v, (execOp (a.put (some d) v).eval o2).run P w = .ok (.value v) w) →
   wpOpsSIn Fence.wide 8 P #[o1, o2] (Exit.thenS (rest.wpSIn Fence.wide 8 P (bodyPostS P fn c₀ cs fun en u' w' => u' = u2 ∧ Ret A en w')) (bodyPostS P fn c₀ cs fun en u' w' => u' = u2 ∧ Ret A en w')) [0, 1] a (c₀ :: cs) w := by
  intro o1 o2 w1 w2 d1 d2 r1 r2
  have e1 : (#[o1, o2] : Array Oper)[0]? = some o1 := rfl
  have e2 : (#[o1, o2] : Array Oper)[1]? = some o2 := rfl
  simp only [wpOpsSIn, e1, e2]
  refine ⟨fun _ _ => trivial, ?_⟩
  have w1' : Region.wanted o1 (yielded #[o1, o2] a.tmps) = true := w1
  simp only [w1', if_true, r1]
  have tail : ∀ v cs', rest.wpSIn Fence.wide 8 P (bodyPostS P fn c₀ cs fun en u' w' => u' = u2 ∧ Ret A en w') ((a.put (some d) v).put (some e) v) cs' w →
    (∀ f, o2.about P w (a.put o1.dst v).eval = some f → Fence.wide.fn f) ∧ (if Region.wanted o2 (yielded #[o1, o2] (a.put o1.dst v).tmps) = true then
     (match (execOp (a.put o1.dst v).eval o2).run P w with
     | .ok .recover w' =>
      (match recoverD cs' with
      | some (v', cs'') => Exit.thenS (rest.wpSIn Fence.wide 8 P (bodyPostS P fn c₀ cs fun en u' w' => u' = u2 ∧ Ret A en w')) (bodyPostS P fn c₀ cs fun en u' w' => u' = u2 ∧ Ret A en w') .normal ((a.put o1.dst v).put o2.dst v') cs'' w'
      | none => Exit.thenS (rest.wpSIn Fence.wide 8 P (bodyPostS P fn c₀ cs fun en u' w' => u' = u2 ∧ Ret A en w')) (bodyPostS P fn c₀ cs fun en u' w' => u' = u2 ∧ Ret A en w') .normal ((a.put o1.dst v).put o2.dst .nilIface) cs' w')
     | .ok (.value v') w' => Exit.thenS (rest.wpSIn Fence.wide 8 P (bodyPostS P fn c₀ cs fun en u' w' => u' = u2 ∧ Ret A en w')) (bodyPostS P fn c₀ cs fun en u' w' => u' = u2 ∧ Ret A en w') .normal ((a.put o1.dst v).put o2.dst v') cs' w'
     | .ok .skip w' => Exit.thenS (rest.wpSIn Fence.wide 8 P (bodyPostS P fn c₀ cs fun en u' w' => u' = u2 ∧ Ret A en w')) (bodyPostS P fn c₀ cs fun en u' w' => u' = u2 ∧ Ret A en w') .normal ((a.put o1.dst v).put o2.dst undef) cs' w'
     | .halt (.panic v') w' => Exit.thenS (rest.wpSIn Fence.wide 8 P (bodyPostS P fn c₀ cs fun en u' w' => u' = u2 ∧ Ret A en w')) (bodyPostS P fn c₀ cs fun en u' w' => u' = u2 ∧ Ret A en w') (.panic [{ v := v', recovered := false }]) (a.put o1.dst v) cs' w'
     | _ => False)
     else Exit.thenS (rest.wpSIn Fence.wide 8 P (bodyPostS P fn c₀ cs fun en u' w' => u' = u2 ∧ Ret A en w')) (bodyPostS P fn c₀ cs fun en u' w' => u' = u2 ∧ Ret A en w') .normal ((a.put o1.dst v).put o2.dst undef) cs' w) := by
   intro v cs' hh
   refine ⟨fun _ _ => trivial, ?_⟩
   have w2' : Region.wanted o2 (yielded #[o1, o2] (a.put (some d) v).tmps) = true := w2 v
   rw [d1]
   simp only [w2', if_true, r2, d2]
   exact hh
  rcases hu c₀ cs hc with hR | ⟨hR, rfl, rfl⟩
  ·simp only [hR]
   exact tail _ _ (hup _ rfl _ (hag _))
  ·simp only [hR]
   have h9 : ∀ u2, c₀.mode = u2 → c₀ :: cs = { c₀ with mode := u2 } :: cs := fun u2 h => by subst h; rfl
   have t := tail .nilIface (c₀ :: cs) (hup (c₀ :: cs) (h9 _ hc) _ (hag _))
   simp only [hR] at t
   exact t
 exact key _ _ rfl (fun _ => rfl) rfl rfl hrec hasg
theorem rec_pe(v:Value)(c₀:Frame)(cs:List Frame)(h:c₀.mode= .panicking (pe v)):recoverD (c₀::cs)=some (v,{c₀ with mode:=.panicking [{v,recovered:=true}]}::cs):=by
 simp only[recoverD,h,pe]
theorem rec_no(c₀:Frame)(cs:List Frame)(h:c₀.mode= .returning):recoverD (c₀::cs)=none:=by
 simp only[recoverD,h]
end
def SeqZ(P:Program)(gf:Nat)(lb:List Value)(xs:List (List Value))(ks:List Nat)(X:World→List Nat→Prop)(lo:Nat)(w:World):Prop:=
 ∀ {α:Type} (Y:World→List Nat→Prop) [Thing Y] (E:α→List Nat) (l:Nat) (J:Nat→α→World→Prop) (Jx:World→Prop) (W:World) (L:List Nat),
  (∀ b∈ks,b∈L∧W.heap[b]?=w.heap[b]?)→(∀ k a W W',J k a W→LoL lo (E a++L) W W'→J k a W')→(∀ W W',Jx W→Below W.heap.size W W'→Jx W')→(∀ k a W,J k a W→∀ b∈E a,b∉ks)→
  (∀ k v a W1 Lx,xs[k]?=some v→(∀ b∈Lx,b∈ks∨W.heap.size≤b)→(∀ b∈E a,b∉Lx)→Two X Y lo (Lx++(E a++L)) W1→J k a W1→zio P l v W1 fun e W'=>(e= .returned (.bool true)∧(∃ a',Two X Y lo (Lx++(E a'++L)) W'∧J (k+1) a' W')∧(∀ b∈Lx,W'.heap[b]?=W1.heap[b]?)∧W1.heap.size≤W'.heap.size)∨(e= .returned (.bool false)∧Jx W'))→
  ∀ a,Two X Y lo (E a++L) W→J 0 a W→Calls P gf (.func (.yield l) #[] #[]::lb).toArray W (Ret fun _ W'=>(∃ a',Two X Y lo (E a'++L) W'∧J xs.length a' W')∨Jx W')
def SeqV{τ:Type}(P:Program)(gf:Nat)(lb:List Value)(m:Nat)(V:τ→Nat→List Value→World→List Nat→List Nat→Prop)(T0:τ→Nat→World→Prop)(ks:List Nat)(X:World→List Nat→Prop)(lo:Nat)(w:World):Prop:=
 ∀ {α:Type} (Y:World→List Nat→Prop) [Thing Y] (E:α→List Nat) (l:Nat) (J:τ→Nat→α→World→Prop) (Jx:World→Prop) (W:World) (L:List Nat),
  (∀ b∈ks,b∈L∧W.heap[b]?=w.heap[b]?)→(∀ t k a W W',J t k a W→LoL lo (E a++L) W W'→J t k a W')→(∀ W W',Jx W→Below W.heap.size W W'→Jx W')→(∀ t k a W,J t k a W→∀ b∈E a,b∉ks)→
  (∀ t k v a W1 Lx,k<m→V t k v W1 Lx (E a)→(∀ b∈Lx,b∈ks∨W.heap.size≤b)→Two X Y lo (Lx++(E a++L)) W1→J t k a W1→zio P l v W1 fun e W'=>(e= .returned (.bool true)∧(∃ a',Two X Y lo (Lx++(E a'++L)) W'∧J t (k+1) a' W')∧(∀ b∈Lx,W'.heap[b]?=W1.heap[b]?)∧W1.heap.size≤W'.heap.size)∨(e= .returned (.bool false)∧Jx W'))→
  ∀ a,Two X Y lo (E a++L) W→(∀ t W',T0 t W.heap.size W'→LoL lo (E a++L) W W'→J t 0 a W')→Calls P gf (.func (.yield l) #[] #[]::lb).toArray W (Ret fun _ W'=>(∃ t a',Two X Y lo (E a'++L) W'∧J t m a' W')∨Jx W')
theorem SeqZ.v{P:Program}{gf:Nat}{lb:List Value}{xs:List (List Value)}{ks:List Nat}{X:World→List Nat→Prop}{lo:Nat}{w:World}(h:SeqZ P gf lb xs ks X lo w):SeqV (τ:=Unit) P gf lb xs.length (fun _ k v _ Lx Ea=>xs[k]?=some v∧∀ b∈Ea,b∉Lx) (fun _ _ _=>True) ks X lo w:=
 fun Y _ E l J Jx W L h1 h2 h3 h4 h5 a hT h0=>(h Y E l (J ()) Jx W L h1 (h2 ()) h3 (h4 ()) (fun k v a W1 Lx hv hLx hE hT hJ=>h5 () k v a W1 Lx (List.getElem?_eq_some_iff.1 hv).1 ⟨hv,hE⟩ hLx hT hJ) a hT (h0 () W trivial (LoL.refl _ _ _))).to fun _ W' h=>h.imp (fun⟨a',h⟩=>⟨(),a',h⟩) id
theorem zb2{lo n b:Nat}{L:List Nat}(h1:lo≤b)(h2:b∉L)(h3:b<n):b∈zpP lo L n:=List.mem_filter.2 ⟨List.mem_range.2 h3,decide_eq_true fun h=>h.elim (fun h=>ae) h2⟩
theorem zce{w:World}{D:Nat}(o:Obj):Only D w (w.putObj D o):=⟨rfl,rfl,rfl,ay,fun _ hk=>World.putObj_heap_other hk⟩
theorem Two.zk8{X Y:World→List Nat→Prop}[hX:Thing X][hY:Thing Y]{lo:Nat}{L M:List Nat}{w w':World}(h:Two X Y lo L w)(hb:Below w.heap.size w w')(hM:∀ b∈M,w.heap.size≤b∧b<w'.heap.size):Two X Y lo (M++L) w':=by
 obtain⟨⟨B,C,h1,h2,h3,h4⟩,h5,h6⟩:=h
 refine⟨⟨B,C,hX.kpd h1 (M:=[]) (Kp.of_below hb) ay,hY.kpd h2 (M:=[]) (Kp.of_below hb) ay,fun b hb=>⟨(h3 b hb).1,(h3 b hb).2.1,fun hm=>?_⟩,fun b hb=>⟨(h4 b hb).1,fun hm=>?_⟩⟩,Nat.le_trans h5 hb.size,fun b hm=>?_⟩
 ·rcases List.mem_append.1 hm with hm|hm
  ·have:=hX.lt h1 b hb;have:=(hM b hm).1;omega
  ·exact(h3 b hb).2.2 hm
 ·rcases List.mem_append.1 hm with hm|hm
  ·have:=hY.lt h2 b hb;have:=(hM b hm).1;omega
  ·exact(h4 b hb).2 hm
 ·rcases List.mem_append.1 hm with hm|hm
  ·exact(hM b hm).2
  ·exact Nat.lt_of_lt_of_le (h6 b hm) hb.size
theorem Two.zoc{X Y:World→List Nat→Prop}[hX:Thing X][hY:Thing Y]{lo base e sz m:Nat}{L:List Nat}{w w':World}{u v:Value}{xs:List Value}(h:Two X Y lo L w)(hu:∀ b∈u.ownBlock.toList,b∈L)(hg:w.grownBy w' u.ownBlock)(hf:∀ b,v.ownBlock=some b→u.ownBlock=some b∨w.heap.size≤b)(hv:zaz w' base e sz v m xs):Two X Y lo (v.ownBlock.toList++L) w':=by
 have hk:=Kp.za6 hg
 obtain⟨⟨B,C,h1,h2,h3,h4⟩,h5,h6⟩:=h
 refine⟨⟨B,C,hX.kpd h1 hk fun b hb hm=>(h3 b hb).2.2 (hu b hm),hY.kpd h2 hk fun b hb hm=>(h4 b hb).2 (hu b hm),fun b hb=>⟨(h3 b hb).1,(h3 b hb).2.1,fun hm=>?_⟩,fun b hb=>⟨(h4 b hb).1,fun hm=>?_⟩⟩,Nat.le_trans h5 hk.size,fun b hm=>?_⟩
 ·rcases List.mem_append.1 hm with hm|hm
  ·rcases hf b (Option.mem_toList.1 hm)with e|e
   ·exact(h3 b hb).2.2 (hu b (Option.mem_toList.2 e))
   ·have:=hX.lt h1 b hb;omega
  ·exact(h3 b hb).2.2 hm
 ·rcases List.mem_append.1 hm with hm|hm
  ·rcases hf b (Option.mem_toList.1 hm)with e|e
   ·exact(h4 b hb).2 (hu b (Option.mem_toList.2 e))
   ·have:=hY.lt h2 b hb;omega
  ·exact(h4 b hb).2 hm
 ·rcases List.mem_append.1 hm with hm|hm
  ·exact(hv.lt b (Option.mem_toList.1 hm)).2
  ·exact Nat.lt_of_lt_of_le (h6 b hm) hk.size
structure zju(w:World)(D:Nat):Prop where
 d:w.heap[D]?=some (.deferred (some []))
namespace zju
variable {w w':World}{D:Nat}
theorem lt(h:zju w D):D<w.heap.size:=(Array.getElem?_eq_some_iff.1 h.d).1
theorem kpd{M:List Nat}(h:zju w D)(k:Kp M w w')(hM:D∉M):zju w' D:=⟨(k.block D h.lt hM).trans h.d⟩
theorem new(h:zju w D)(hb:Below w.heap.size w w'):zju w' D:=⟨(hb.block D h.lt).trans h.d⟩
theorem only{g:Nat}(h:zju w D)(ho:Only g w w')(hg:D≠g):zju w' D:=⟨(ho.block D hg).trans h.d⟩
end zju
theorem zaS.klp{w w':World}{lo g o m sz:Nat}{L:List Nat}{cs:List Value}(h:zaS w (Option.some ⟨g,o,none⟩) m sz cs)(k:LoL lo L w w')(hg:g<lo∨g∈L):zaS w' (Option.some ⟨g,o,none⟩) m sz cs:=h.kpd k.kp fun b _ e=>by cases e;exact zam hg
def roundV{α:Type}(lw:Nat)(ds:List Nat)(lo:Nat)(L Lx:List Nat)(X Y:World→List Nat→Prop)(E:α→List Nat)(I:Nat→α→World→Prop)(Ix:Code→World→Prop)(k:Nat)(W2:World):Post
 | .normal,_,W'=>LoL lo (lw::(ds++Lx)) W2 W'∧∃ a,Two X Y lo (Lx++(E a++lw::(ds++L))) W'∧I (k+1) a W'
 | .ret,_,W'=>LoL lo (lw::(ds++Lx)) W2 W'∧Ix .ret W'
 | .exit id,_,W'=>LoL lo (lw::(ds++Lx)) W2 W'∧Ix (.exit id) W'
 |_,_,_=>False
def zlJ(P:Program)(w:World)(lw:Nat)(ds:List Nat)(rd:Option Nat):Prop:=∃ dfr,∀ (fn:FuncId) (tmps:Array Value) (ps:Array Tmp) (assign body:Code),∃ W1,
 (Instr.enterLoop fn tmps ps assign body rd).run P w= .ok (lw,ds.map mkD) W1∧W1.heap[lw]?=some (.loop {state:=.ready,pending:=none,fn,tmps,params:=ps,assign,body,defers:=dfr})∧
 (∀ D∈ds,W1.heap[D]?=some (.deferred (some [])))∧Below w.heap.size w W1∧W1.heap.size=lw+1∧(∀ b∈lw::ds,w.heap.size≤b∧b<lw+1)∧lw∉ds
theorem zen(P:Program)(w:World):zlJ P w (w.heap.size+1) [w.heap.size] none:=by
 refine⟨w.heap.size,fun fn tmps ps assign body=>⟨_,run_enterLoop_outer _ _ _ _ _,?_,fun D hD=>?_,?_,ay,(fun b hb=>by simp only[List.mem_cons,List.not_mem_nil,or_false]at hb;omega),ay⟩⟩
 ·have:=World.alloc_heap_new (w.alloc (.deferred (some []))) (.loop {state:=.ready,pending:=none,fn,tmps,params:=ps,assign,body,defers:=w.heap.size});rwa [World.size_alloc]at this
 ·rw[List.mem_singleton.1 hD]
  exact(Below.heap_alloc _ _ _ ay).trans (World.alloc_heap_new w _)
 ·exact((Below.refl _ w).alloc (Nat.le_refl _) _).alloc ay _
theorem zhP(P:Program){w:World}{l:Nat}{r:Loop}(h:w.heap[l]?=some (.loop r)):zlJ P w w.heap.size [] (some l):=
 ⟨r.defers,fun fn tmps ps assign body=>⟨_,run_enterLoop_inner h _ _ _ _ _,World.alloc_heap_new w _,(fun _ h=>nomatch h),(Below.refl _ w).alloc (Nat.le_refl _) _,ay,ay,ay⟩⟩
theorem zqH{A L:List Nat}{a:Nat}:∀ i∈A++L,i∈A++a::L:=fun i hi=>by
 simp only[List.mem_append,List.mem_cons]at hi ⊢
 exact hi.imp id .inr
section
variable {md:Option Nat→Prop}{P:Program}{n:Nat}{Q:Post}{ρ:Env}{w:World}
theorem zcT {g : Operand} {ps : List Nat} {assign body : Code} {gf : Nat} {lb : List Value} {m : Nat} {τ : Type} {V : τ → Nat → List Value → World → List Nat → List Nat → Prop} {T0 : τ → Nat → World → Prop} {ks L : List Nat} {X : World → List Nat → Prop} {lo : Nat} {α : Type} {Y : World → List Nat → Prop} [hX : Thing X] [hYT : Thing Y] (E : α → List Nat) (lw : Nat) (ds : List Nat)
  (hmd : ∀ rd, md rd → zlJ P w lw ds rd) (hg : ev ρ g = .func (.func gf) #[] lb.toArray) (hcan : zcC P gf = true) (hseq : SeqV P gf lb m V T0 ks X lo w) (hps : ∀ t k v W Lx Ea, V t k v W Lx Ea → v.length = ps.length) (hpn : ps.all (Nat.blt · n) = true) (hnd : ps.Nodup)
  (hks : ∀ b ∈ ks, b ∈ L) (I : τ → Nat → α → World → Prop) (Ix : Code → World → Prop)
  (hI : ∀ t k a W W', I t k a W → LoL lo (E a ++ lw :: (ds ++ L)) W W' → I t k a W') (hIo : ∀ t k a W W', I t k a W → Only lw W W' → I t k a W')
  (hIx : ∀ c W W', Ix c W → Below W.heap.size W W' → Ix c W') (hIxo : ∀ c W W', Ix c W → Only lw W W' → Ix c W') (hE : ∀ t k a W, I t k a W → ∀ b ∈ E a, b ∉ ks) (a0 : α) (hT0 : Two X Y lo (E a0 ++ L) w) (h0 : ∀ t W', T0 t (lw + 1) W' → LoL lo (E a0 ++ lw :: (ds ++ L)) w W' → I t 0 a0 W')
  (round : ∀ t k v a W1 Lx, k < m → V t k v W1 Lx (E a) → (∀ b ∈ Lx, b ∈ ks ∨ lw < b) → Two X Y lo (Lx ++ (E a ++ lw :: (ds ++ L))) W1 → I t k a W1 → lw < W1.heap.size → W (fun rd => rd = some lw) P n assign
   (fun e ρ' W' => e = .normal ∧ Below W1.heap.size W1 W' ∧ ∀ W2, Only lw W' W2 → (∃ r, W2.heap[lw]? = some (.loop r)) → W (fun rd => rd = some lw) P n body (roundV lw ds lo L Lx X Y E (I t) Ix k W2) ρ' W2) (zjH ρ.f ps v) W1)
  (hdone : ∀ t a W, Two X Y lo (E a ++ (ds ++ L)) W → I t m a W → (∀ D ∈ ds, W.heap[D]? = some (.deferred (some []))) → Q .normal ⟨ρ.f, ds.map Dm.m ++ ρ.ms⟩ W)
  (hstop : ∀ c W', Ix c W' → (∀ D ∈ ds, W'.heap[D]? = some (.deferred (some []))) → codeOk n c = true ∧ W md P n c Q ⟨ρ.f, ds.map Dm.m ++ ρ.ms⟩ W') :
  W md P n (.rangeFunc g ps.toArray assign body) Q ρ w := by
 intro hc rd a hrd ha
 obtain ⟨dfr, hent⟩ := hmd rd hrd
 simp only [codeOk, Bool.and_eq_true] at hc
 have hpn' : ∀ p, p ∈ ps → p < n := fun p hp => by have := List.all_eq_true.1 hpn p hp; simpa using this
 refine wpIn_rangeFunc ?_
 intro fn hfn
 obtain ⟨W1, hen, hL1, hK1, hbw, hs1, hnew, hlwd⟩ := hent fn a.tmps ps.toArray assign body
 obtain ⟨rec, hrec⟩ : ∃ rec : LoopState → Option Code → Loop, rec = fun st pe => { state := st, pending := pe, fn, tmps := a.tmps, params := ps.toArray, assign, body, defers := dfr } := ⟨_, rfl⟩
 replace hL1 : W1.heap[lw]? = some (.loop (rec .ready none)) := by rw [hrec]; exact hL1
 have hnw : ∀ b ∈ lw :: ds, w.heap.size ≤ b ∧ b < W1.heap.size := fun b hb => by rw [hs1]; exact hnew b hb
 have hTw : Two X Y lo (E a0 ++ lw :: (ds ++ L)) W1 := (hT0.zk8 hbw hnw).weak fun b hb => by
  simp only [List.mem_append, List.mem_cons] at hb ⊢
  rcases hb with h | h | h | h
  ·exact .inr (.inl h)
  ·exact .inl (.inl h)
  ·exact .inl (.inr h)
  ·exact .inr (.inr h)
 have hlol : LoL lo (E a0 ++ lw :: (ds ++ L)) w W1 := LoL.of_below hbw
 have hLt : ∀ b ∈ L, b < w.heap.size := fun b hb => hT0.lt b (by simp [hb])
 have hae : a.eval g = .func (.func gf) #[] lb.toArray := by rw [ha.ev]; exact hg
 have hned : ∀ D ∈ ds, D ≠ lw := fun D hD e => hlwd (e ▸ hD)
 refine ⟨lw, ds.map mkD, W1, { target := .fn (.func gf) lb.toArray, args := #[.func (.yield lw) #[] #[]] }, W1, gf, (.func (.yield lw) #[] #[] :: lb).toArray, W1, ?_, ?_, fun f' _ => zjQ rd f', ?_, fun hdp => by (rw [zeR] at hdp; cases hdp), ?_⟩
 ·rw [zlY]; exact hen
 ·simp only [resolve, rangeCall, hae]
  simp [Deferred.ofValue, Act.eval]
 ·have e : #[Value.func (.yield lw) #[] #[]] ++ lb.toArray = (.func (.yield lw) #[] #[] :: lb).toArray := by simp
  simp only [invoke, e]
  exact enterC hcan
 ·refine zgU ((hseq Y E lw (fun t k a W => I t k a W ∧ W.heap[lw]? = some (.loop (rec .ready none)) ∧ (∀ D ∈ ds, W.heap[D]? = some (.deferred (some []))))
   (fun W => ∃ c, Ix c W ∧ W.heap[lw]? = some (.loop (rec .done (some c))) ∧ (∀ D ∈ ds, W.heap[D]? = some (.deferred (some [])))) W1 (lw :: (ds ++ L)) ?_ ?_ ?_ ?_ ?_ a0 hTw (fun t W' ht hl => ⟨h0 t W' (by rw [← hs1]; exact ht) (hlol.ll hl fun _ h => h), by rw [hl.block _ (Array.getElem?_eq_some_iff.1 hL1).1 (.inr (by simp))]; exact hL1, fun D hD => by rw [hl.block _ (Array.getElem?_eq_some_iff.1 (hK1 D hD)).1 (.inr (by simp [hD]))]; exact hK1 D hD⟩)).mono ?_)
  ·intro b hb
   exact ⟨by simp [hks b hb], hbw.block b (hLt b (hks b hb))⟩
  ·rintro t k a A B ⟨h1, h2, h3⟩ hAB
   exact ⟨hI t k a A B h1 hAB, by rw [hAB.block _ (Array.getElem?_eq_some_iff.1 h2).1 (.inr (by simp))]; exact h2, fun D hD => by rw [hAB.block _ (Array.getElem?_eq_some_iff.1 (h3 D hD)).1 (.inr (by simp [hD]))]; exact h3 D hD⟩
  ·rintro A B ⟨c, h1, h2, h3⟩ hAB
   exact ⟨c, hIx c A B h1 hAB, by rw [hAB.block _ (Array.getElem?_eq_some_iff.1 h2).1]; exact h2, fun D hD => by rw [hAB.block _ (Array.getElem?_eq_some_iff.1 (h3 D hD)).1]; exact h3 D hD⟩
  ·rintro t k a A ⟨h1, _⟩; exact hE t k a A h1
  ·rintro t k v a1 W Lx hkm hv hLx hT ⟨hi, hl, hk⟩
   have hlt : lw < W.heap.size := (Array.getElem?_eq_some_iff.1 hl).1
   have hvl := hps t k v W Lx _ hv
   have hy := run_yield (P := P) (args := v.toArray) hl (by rw [hrec]; simpa using hvl)
   rw [hrec] at hy
   refine ⟨fn, _, assign, body, hy, ?_⟩
   clear hy
   refine roundIn_of_wpIn (F := Fence.wide) (n := 0) trivial ?_
   have hag : Ag n { tmps := (ps.toArray.zip v.toArray).foldl (fun t (p, u) => t.setIfInBounds p u) a.tmps, defers := [] } (zjH ρ.f ps v) := by
    have := znZ ha ps v a.tmps ha.s ha.t hpn' hnd
    rw [← Array.foldl_toList, Array.toList_zip]
    exact this
   have hA := round t k v a1 W Lx hkm hv (fun b hb => (hLx b hb).imp id fun h => by omega) hT hi hlt hc.1 (some lw) _ rfl hag
   have hA' : assign.wpIn (Fence.wide.inRound lw) 0 P _ _ W := fun b k' cs h1 h2 h3 => hA b k' cs h1 h2 (room_wide _)
   refine wpIn_mono hA' ?_
   rintro e a' Wa ⟨ρ', h1, rfl, hbel, hbody⟩
   show ∃ w2, _
   have hl2 : Wa.heap[lw]? = some (.loop (rec .ready none)) := by rw [hbel.block _ hlt]; exact hl
   have hk2 : ∀ D ∈ ds, Wa.heap[D]? = some (.deferred (some [])) := fun D hD => by rw [hbel.block _ (Array.getElem?_eq_some_iff.1 (hk D hD)).1]; exact hk D hD
   have hlt2 := (Array.getElem?_eq_some_iff.1 hl2).1
   refine ⟨_, run_beginRound hl2 (by rw [hrec]), ?_⟩
   obtain ⟨W2, hW2⟩ : ∃ W2, W2 = Wa.putObj lw (.loop { rec .ready none with state := .busy }) := ⟨_, rfl⟩
   have hl3 : W2.heap[lw]? = some (.loop { rec .ready none with state := .busy }) := by rw [hW2]; exact World.putObj_heap_same hlt2
   have hk3 : ∀ D ∈ ds, W2.heap[D]? = some (.deferred (some [])) := fun D hD => by rw [hW2]; exact (World.putObj_heap_other (hned D hD)).trans (hk2 D hD)
   have hso : Only lw Wa W2 := by rw [hW2]; exact zce _
   rw [← hW2]
   have hB := hbody W2 hso ⟨_, hl3⟩ hc.2 (some lw) a' rfl h1
   have hB' : body.wpIn (Fence.wide.inRound lw) 0 P _ a' W2 := fun b k' cs h1 h2 h3 => hB b k' cs h1 h2 (room_wide _)
   refine wpIn_mono hB' ?_
   have fin : ∀ (jump : Option Code) (W3 : World), LoL lo (lw :: (ds ++ Lx)) W2 W3 →
     (Instr.endRound lw jump).run P W3 = .ok (.bool jump.isNone) (W3.putObj lw (.loop (rec (if jump.isNone then .ready else .done) jump))) ∧
     Only lw W3 (W3.putObj lw (.loop (rec (if jump.isNone then .ready else .done) jump))) ∧
     (W3.putObj lw (.loop (rec (if jump.isNone then .ready else .done) jump))).heap[lw]? = some (.loop (rec (if jump.isNone then .ready else .done) jump)) ∧
     (∀ D ∈ ds, (W3.putObj lw (.loop (rec (if jump.isNone then .ready else .done) jump))).heap[D]? = some (.deferred (some []))) := fun jump W3 hk3' => by
    have hl4 : W3.heap[lw]? = some (.loop { rec .ready none with state := .busy }) := by rw [hk3'.block _ (Array.getElem?_eq_some_iff.1 hl3).1 (.inr (by simp))]; exact hl3
    have hk4 : ∀ D ∈ ds, W3.heap[D]? = some (.deferred (some [])) := fun D hD => by rw [hk3'.block _ (Array.getElem?_eq_some_iff.1 (hk3 D hD)).1 (.inr (by simp [hD]))]; exact hk3 D hD
    have := run_endRound (P := P) jump hl4
    rw [hrec] at this ⊢
    exact ⟨this, zce _, World.putObj_heap_same (Array.getElem?_eq_some_iff.1 hl4).1, fun D hD => (World.putObj_heap_other (hned D hD)).trans (hk4 D hD)⟩
   rintro e a3 W3 ⟨ρ3, _, hp⟩
   cases e with
   | normal =>
    obtain ⟨hp1, a2, hp2, hp3⟩ := hp
    obtain ⟨hr, hs, hl5, hk5⟩ := fin none W3 hp1
    have hz1 := hbel.size
    have hz2 := hp1.size
    have hz3 := hso.size
    have hz4 := hs.size
    refine ⟨_, _, hr, .inl ⟨rfl, ⟨a2, hp2.only hs (.inr (by simp)), hIo _ _ _ _ _ hp3 hs, hl5, hk5⟩, fun b hb => ?_, by omega⟩⟩
    have hbl := hT.lt b (by simp [hb])
    have hne : b ≠ lw := by
     have h1 := hnw lw (by simp)
     rcases hLx b hb with h | h
     ·have := hLt b (hks b h); omega
     ·omega
    rw [hs.block b hne, hp1.block b (by omega) (.inr (by simp [hb])), hso.block b hne, hbel.block b hbl]
   | ret =>
    obtain ⟨hp1, hp2⟩ := hp
    obtain ⟨hr, hs, hl5, hk5⟩ := fin (some .ret) W3 hp1
    exact ⟨_, _, hr, .inr ⟨rfl, .ret, hIxo _ _ _ hp2 hs, hl5, hk5⟩⟩
   | exit id =>
    obtain ⟨hp1, hp2⟩ := hp
    obtain ⟨hr, hs, hl5, hk5⟩ := fin (some (.exit id)) W3 hp1
    exact ⟨_, _, hr, .inr ⟨rfl, .exit id, hIxo _ _ _ hp2 hs, hl5, hk5⟩⟩
   | goto t => exact hp.elim
   | panic ch => exact hp.elim
   | outgrown => exact hp.elim
  ·rintro e W2 ⟨v, rfl, (⟨t, a2, hT, hi, hl, hk⟩ | ⟨c, hi, hl, hk⟩)⟩
   ·refine ⟨none, _, by have := run_endLoop (P := P) hl (by rw [hrec]; simp); rw [hrec] at this; exact this, ?_⟩
    refine ⟨⟨ρ.f, ds.map Dm.m ++ ρ.ms⟩, ⟨by simp [ha.d, Dm.d, Function.comp_def], ha.s, ha.t⟩, hdone t a2 _ ((hT.only (zce _) (.inr (by simp))).weak zqH) (hIo _ _ _ _ _ hi (zce _)) (fun D hD => (World.putObj_heap_other (hned D hD)).trans (hk D hD))⟩
   ·refine ⟨some c, _, by have := run_endLoop (P := P) hl (by rw [hrec]; simp); rw [hrec] at this; exact this, ?_⟩
    obtain ⟨h1, h2⟩ := hstop c _ (hIxo _ _ _ hi (zce _)) (fun D hD => (World.putObj_heap_other (hned D hD)).trans (hk D hD))
    exact h2 h1 rd _ hrd ⟨by simp [ha.d, Dm.d, Function.comp_def], ha.s, ha.t⟩
def roundZ{α:Type}(D lo:Nat)(L Lx:List Nat)(X Y:World→List Nat→Prop)(E:α→List Nat)(I:Nat→α→World→Prop)(Ix:Code→World→Prop)(k:Nat)(W2:World):Post
 | .normal,_,W'=>LoL lo ((D+1)::D::Lx) W2 W'∧∃ a,Two X Y lo (Lx++(E a++(D+1)::D::L)) W'∧I (k+1) a W'
 | .ret,_,W'=>LoL lo ((D+1)::D::Lx) W2 W'∧Ix .ret W'
 | .exit id,_,W'=>LoL lo ((D+1)::D::Lx) W2 W'∧Ix (.exit id) W'
 |_,_,_=>False
theorem zdQ {g : Operand} {ps : List Nat} {assign body : Code} {gf : Nat} {lb : List Value} {xs : List (List Value)} {ks L : List Nat} {X : World → List Nat → Prop} {lo : Nat} {α : Type} {Y : World → List Nat → Prop} [hX : Thing X] [hYT : Thing Y] (E : α → List Nat) (D : Nat) (hD : w.heap.size = D)
  (hmd : ∀ rd, md rd → rd = none) (hg : ev ρ g = .func (.func gf) #[] lb.toArray) (hcan : zcC P gf = true) (hseq : SeqZ P gf lb xs ks X lo w) (hps : ∀ v, v ∈ xs → v.length = ps.length) (hpn : ps.all (Nat.blt · n) = true) (hnd : ps.Nodup)
  (hks : ∀ b ∈ ks, b ∈ L) (I : Nat → α → World → Prop) (Ix : Code → World → Prop)
  (hI : ∀ k a W W', I k a W → LoL lo (E a ++ (D + 1) :: D :: L) W W' → I k a W') (hIo : ∀ k a W W', I k a W → Only (D + 1) W W' → I k a W')
  (hIx : ∀ c W W', Ix c W → Below W.heap.size W W' → Ix c W') (hIxo : ∀ c W W', Ix c W → Only (D + 1) W W' → Ix c W') (hE : ∀ k a W, I k a W → ∀ b ∈ E a, b ∉ ks) (a0 : α) (hT0 : Two X Y lo (E a0 ++ L) w) (h0 : I 0 a0 w)
  (round : ∀ l k v a W1 Lx, xs[k]? = some v → (∀ b ∈ Lx, b ∈ ks ∨ D + 2 ≤ b) → (∀ b ∈ E a, b ∉ Lx) → Two X Y lo (Lx ++ (E a ++ (D + 1) :: D :: L)) W1 → I k a W1 → D + 2 ≤ W1.heap.size → W (fun rd => rd = some l) P n assign
   (fun e ρ' W' => e = .normal ∧ Below W1.heap.size W1 W' ∧ ∀ W2, Only (D + 1) W' W2 → W (fun rd => rd = some l) P n body (roundZ D lo L Lx X Y E I Ix k W2) ρ' W2) (zjH ρ.f ps v) W1)
  (hdone : ∀ a W, Two X Y lo (E a ++ D :: L) W → I xs.length a W → W.heap[D]? = some (.deferred (some [])) → Q .normal ⟨ρ.f, .m D :: ρ.ms⟩ W)
  (hstop : ∀ c W', Ix c W' → W'.heap[D]? = some (.deferred (some [])) → codeOk n c = true ∧ W md P n c Q ⟨ρ.f, .m D :: ρ.ms⟩ W') :
  W md P n (.rangeFunc g ps.toArray assign body) Q ρ w := by
 subst hD
 refine zcT (τ := Unit) (V := fun _ k v _ Lx Ea => xs[k]? = some v ∧ ∀ b ∈ Ea, b ∉ Lx) (T0 := fun _ _ _ => True) E (w.heap.size + 1) [w.heap.size] (fun rd h => by rw [hmd rd h]; exact zen P w) hg hcan (SeqZ.v hseq) (fun _ k v _ _ _ h => hps v (List.mem_of_getElem? h.1)) hpn hnd hks (fun _ => I) Ix (fun _ => hI) (fun _ => hIo) hIx hIxo (fun _ => hE) a0 hT0 (fun _ W' _ hl => hI 0 a0 w W' h0 hl)
  (fun _ k v a W1 Lx _ hv hLx hT hi hs => ?_) (fun _ a W h1 h2 h3 => hdone a W h1 h2 (h3 _ (by simp))) (fun c W' h1 h2 => hstop c W' h1 (h2 _ (by simp)))
 exact znM (round (w.heap.size + 1) k v a W1 Lx hv.1 hLx hv.2 hT hi hs) fun _ _ _ ⟨h1, h2, h3⟩ => ⟨h1, h2, fun W2 h4 _ => h3 W2 h4⟩
end
end Coup
namespace Go.Proofs.YtdbogkndglbffaaGreat
open Go Go.RowKit Coup
set_option maxRecDepth 20000 in
theorem zmB(n:Nat)(w:World):Calls Tryz.prog 95 [.int .i64 (n:Int)].toArray w (Ret fun v w'=>∃ g,v= .slice (some ⟨g,0,none⟩) 4 4∧row w' g (bv (beB 4 n)) 5∧w.heap.size≤g∧Below w.heap.size w w'):=by
 obtain⟨l4,h41,h42,h43⟩:=zni (n:Int)
 have h44:=h42 ae
 rw[Int.toNat_natCast]at h44
 have hB:=Below.refl w.heap.size w
 refine zax (fn:=Tryz.f95) (rs:=[.tmp 2]) (n:=15) Tryz.func95 rfl rfl Tryz.ntmps95 aa rfl (zah (zaa (zad (zac) (zae (zaf (zah (zaa (zad (zab) (zad (zfb rfl rfl ae rfl) (zad (zbM (k:=.u8) aa aa rfl rfl) (zad (zab) (zad (zfb rfl rfl ae rfl) (zad (zbM (k:=.u8) aa aa rfl rfl) (zad (zab) (zad (zfb rfl rfl ae rfl) (zad (zbM (k:=.u8) aa aa rfl rfl) (zad (zab) (zad (zbM (k:=.u8) aa aa rfl rfl) (zaD rfl (zef (e:=5) [(0, .int .u8 (IntKind.u8.wrap ((n:Int).fdiv (2 ^ (min (24:Int).toNat IntKind.i64.bits))))),(1, .int .u8 (IntKind.u8.wrap ((n:Int).fdiv (2 ^ (min (16:Int).toNat IntKind.i64.bits))))),(2, .int .u8 (IntKind.u8.wrap ((n:Int).fdiv (2 ^ (min (8:Int).toNat IntKind.i64.bits))))),(3, .int .u8 (IntKind.u8.wrap (n:Int)))] [.int .u8 0] 1 aa aa rfl ae ae aY (by simp[Value.cells]) (fun g14 w14 hg14 hr14 hb14=>?_)))))))))))))))))))))
 replace hB:=hB.acc hb14
 replace hr14:row w14 g14 (bv l4) 5:=by rw[←h43];exact hr14
 refine cB ?_
 have hsz:=hg14
 exact⟨_,rfl,by rw[←h44];exact hr14,ae,hB⟩
set_option maxRecDepth 20000 in
theorem num15(p:Option Addr)(n c:Nat)(l:List UInt8)(w:World)(h:zaS w p n 1 (bv l))(hn:n≤7):Calls Tryz.prog 107 [.slice p n c].toArray w (Ret fun v w'=>v= .int .i64 (zdl l)∧w=w'):=by
 have hl:l.length=n:=by simpa [zal]using h.len
 refine zax (fn:=Tryz.f107) (rs:=[.tmp 2]) (n:=18) Tryz.func107 rfl rfl Tryz.ntmps107 aa rfl (zah (zaa (zad (zac) (zae (zaf (zah (zah (zaa (zad (zab) (zad (zaB (e:=5) (sz:=1) aa rfl rfl) (zad (zab) (zae (zaf (zav ?_))))))))))))))
 refine zbq (α:=Nat) 0 (fun k=>[(2, .int .i64 (zdl (l.take k):Nat)),(7, .int .i64 (k:Nat)),(6, .int .i64 (n:Int)),(5, .slice p n c)]) (fun k w'=>k≤n∧w=w') (fun k=>n - k)
   ⟨rfl,rfl,rfl,rfl,rfl⟩ ⟨Nat.zero_le _,rfl⟩ ?_
 rintro k f wr ⟨hk,rfl⟩
 refine zah (zaa (zad (zaY rfl rfl) (zae (zaf (zah (za0 rfl (fun hlt=>?_) (fun hlt=>?_)))))))
 ·
  refine bL ?_
  have hobt:∃ x,l[k]?=some x:=⟨_,List.getElem?_eq_getElem ae⟩
  obtain⟨x,hx⟩:=hobt
  have hobt:=h.some ae
  obtain⟨g,o,rfl,hg⟩:=hobt
  have hsm:zdl (l.take k)<2 ^ 48:=zca _ 6 aW
  have hb:=x.toNat_lt
  refine zaa (zad (zaN (e:=5) aa rfl rfl (k) ae ae) (zad (zaG rfl (Ld.sl1 h aa (show(bv l)[k]?=some (.int .u8 (x.toNat:Int)) by rw[zjL,hx];rfl))) (zad (zac) (zae (zaf (zaa (zad (zab) (zad (zl4 rfl rfl ae (show IntKind.i64.wrap (((zdl (l.take k):Nat):Int)*2 ^ (min (8:Int).toNat IntKind.i64.bits))=((256*zdl (l.take k):Nat):Int) by rw[show(2:Int) ^ (min (8:Int).toNat IntKind.i64.bits)=256 from rfl,w64 ae];omega)) (zad (zab) (zad (zbM (k:=.i64) aa aa rfl (Coup.w64 ae)) (zad (zpY rfl rfl ((orI 8 (zdl (l.take k):Nat) ae ae ae ae).trans (show _=((zdl (l.take (k+1)):Nat):Int) by rw[zjg l k x hx];omega))) (zad (zac) (zae (zaP (zaf (zaa (zad (zaO rfl rfl (Coup.w64 ae)) (zad (zab) (zae (za2 ⟨k+1,ae,⟨rfl,by go_num,rfl,rfl,rfl⟩,ae,rfl⟩))))))))))))))))))))
 ·
  refine zbh (zbC (zbH (zbl (zaf (zah (zaa (zad (zab) (zad (zac) (zae (zaf (zaF (zan [_] ⟨rfl,trivial⟩ (⟨?_,rfl⟩)))))))))))))
  rw[List.take_of_length_le ae]
  rfl
def zeO(n:Int):Nat:=if n<400∨20000<n then 0 else(n.toNat+399) / 400
set_option maxRecDepth 20000 in
theorem zmC(n:Int)(w:World):Calls Tryz.prog 25 [.int .i64 n].toArray w (Ret fun v w'=>v= .int .i64 (zeO n:Nat)∧w=w'):=by
 unfold zeO
 refine zax (fn:=Tryz.f25) (rs:=[.tmp 2]) (n:=13) Tryz.func25 rfl rfl Tryz.ntmps25 aa rfl (zah (zaa (zad (zac) (zae (zaf (zah (zah (zaa (zad (zab) (zad (zaY rfl rfl) (zad (zab) (zbI 5 rfl (fun h4=>?_) (fun h4=>?_)))))))))))))
 ·
  refine zaM rfl rfl (zaM rfl rfl (zad (zaC rfl) (zae (zaf (W_t rfl (zah (zaa (zad (zac) (zae (zaf (zaF (zaW (zan [_] ⟨rfl,trivial⟩ ?_)))))))))))))
  rw[if_pos (.inl h4)]
  exact⟨rfl,rfl⟩
 ·
  refine zaq rfl (zad (zab) (zaq rfl (zad (zbA rfl rfl) (zad (zaE rfl) (zae (zaf (za0 rfl (fun h5=>?_) (fun h5=>?_))))))))
  ·
   refine bZ ?_
   rw[if_pos (.inr h5)]
   exact⟨rfl,rfl⟩
  ·
   have hobt:∃ m:Nat,n=m:=⟨n.toNat,ae⟩
   obtain⟨m,rfl⟩:=hobt
   refine zat (zaf (zah (zaa (zad (zab) (zad (zaO rfl rfl (show IntKind.i64.wrap ((m:Int)+400)=((m+400:Nat):Int) by rw[w64 ae];omega)) (zad (zcX rfl rfl (show IntKind.i64.wrap (((m+400:Nat):Int) - 1)=((m+399:Nat):Int) by rw[w64 ae];omega)) (zad (zhi rfl rfl ae ae) (zad (zac) (zae (zaf (zaF (zan [_] ⟨rfl,trivial⟩ ?_))))))))))))
   rw[if_neg ae]
   refine⟨?_,rfl⟩
   rw[Int.toNat_natCast]
   rfl
def zdp(e:Int):Value:=.iface 160 (.agg #[.int .i64 e])
set_option maxRecDepth 20000 in
theorem zif(w:World):Calls Tryz.prog 47 [.int .i64 0].toArray w (Ret fun v w'=>v= .tuple #[]∧w=w'):=by
 refine zax (fn:=Tryz.f47) (rs:=[]) (n:=7) Tryz.func47 rfl rfl Tryz.ntmps47 aa rfl (zah (zaa (zad (zab) (zad (zaX rfl rfl) (zae (zaf (zcF rfl (aD) (zat (zbk [] trivial ?_)))))))))
 exact⟨rfl,rfl⟩
set_option maxRecDepth 20000 in
theorem zpf(e:Int)(he:e≠0)(w:World):Calls Tryz.prog 47 [.int .i64 e].toArray w (zg2 (fun _ _=>False) fun c w'=>c=pe (zdp e)∧w=w'):=by
 refine zb6 (fn:=Tryz.f47) (rs:=[]) (n:=7) Tryz.func47 rfl rfl Tryz.ntmps47 aa rfl (zah (zaa (zad (zab) (zad (zaX rfl rfl) (zae (zaf (zgP rfl (he) (zaa (zad (zab) (zad (zfT (.int .i64 e) [.int .i64 e] rfl aa) (zad (zpZ aa) (zqF rfl ?_))))))))))))
 exact zbs ⟨rfl,rfl⟩
set_option maxRecDepth 20000 in
theorem sound1(w:World):Calls Tryz.prog 93 [.bool true].toArray w (Ret fun v w'=>v= .tuple #[]∧w=w'):=by
 refine zax (fn:=Tryz.f93) (rs:=[]) (n:=6) Tryz.func93 rfl rfl Tryz.ntmps93 aa rfl (zah (zaa (zad (zab) (zad (zbK rfl) (zae (zaf (zgl rfl (aD) (zat (zbk [] trivial ?_)))))))))
 exact⟨rfl,rfl⟩
theorem zgL{p:Prop}[Decidable p](hp:p)(w:World):Calls Tryz.prog 93 [.bool (decide p)].toArray w (Ret fun v w'=>v= .tuple #[]∧w=w'):=by
 rw[decide_eq_true hp]
 exact sound1 w
set_option maxRecDepth 20000 in
theorem short0(p:Option Addr)(n c:Nat)(hn:n≤20000)(w:World):Calls Tryz.prog 38 [.slice p n c].toArray w (Ret fun v w'=>v= .tuple #[]∧w=w'):=by
 refine zax (fn:=Tryz.f38) (rs:=[]) (n:=6) Tryz.func38 rfl rfl Tryz.ntmps38 aa rfl (zah (zaa (zad (zab) (zad (zaB (e:=5) (sz:=1) aa rfl rfl) (zad (zbA rfl rfl) (zae (zaf (zcF rfl (ae) (zat (zbk [] trivial ?_))))))))))
 exact⟨rfl,rfl⟩
set_option maxRecDepth 20000 in
theorem shortP(p:Option Addr)(n c:Nat)(hn:20000<n)(w:World):Calls Tryz.prog 38 [.slice p n c].toArray w (zg2 (fun _ _=>False) fun c w'=>c=pe (zdp 3)∧w=w'):=by
 refine zb6 (fn:=Tryz.f38) (rs:=[]) (n:=6) Tryz.func38 rfl rfl Tryz.ntmps38 aa rfl (zah (zaa (zad (zab) (zad (zaB (e:=5) (sz:=1) aa rfl rfl) (zad (zbA rfl rfl) (zae (zaf (zgP rfl (ae) (zaa (zcQ rfl (zaj aa rfl) (zpf 3 aD w) ((fun c w' h=>zbs h)) ?_))))))))))
 rintro _ _ hF
 exact hF.elim
def ze9(G:Nat→Pg)(n:Nat)(X:Pg):Nat→Pg:=fun i=>if i=n then X else G i
structure PG(P:Pl)(N:Nat)(G V:Nat→Pg)(k:Nat):Prop where
 i:PlI P V k
 n:P.n=N
 g:∀ n,n<N→(P.ch n).getD (V n)=G n
 s:P.G.size=400
def GZ(q N:Nat)(G V:Nat→Pg)(k:Nat):World→List Nat→Prop:=fun w B=>∃ P,PG P N G V k∧PZ q P w B
instance(q N:Nat)(G V:Nat→Pg)(k:Nat):Thing (GZ q N G V k):=
 ⟨fun⟨P,h1,h2⟩ hk hM=>⟨P,h1,Thing.kpd h2 hk hM⟩,fun⟨P,_,h2⟩ b hb=>Thing.lt h2 b hb⟩
namespace PG
variable {P:Pl}{N:Nat}{G V:Nat→Pg}{k n:Nat}
theorem len(h:PG P N G V k)(hn:n<N):(G n).length=512:=by
 rw[←h.g n hn]
 cases hc:P.ch n with
 |some b=>exact h.i.ok.ch n b hc
 |none=>exact h.i.ln n (by rw[h.n];exact hn)
theorem getX(h:PG P N G V k)(hn:n<N):gX P V n=G n:=by
 have:=h.n
 unfold gX
 rw[if_pos (by unfold inP;omega),Int.toNat_natCast]
 exact h.g n hn
theorem getS(h:PG P N G V k)(n:Int):PG (gP P n) N G V k:=by
 refine⟨h.i.gP n,?_,?_,?_⟩
 all_goals
  unfold gP
  split
  ·unfold zkH
   have e:=fun n=>zeN P n
   split
   ·first |exact h.n|exact h.g|exact h.s
   ·first |exact(e _).2.2.2.2.2.2.trans h.n|(intro i hi;rw[(e _).2.2.2.1];exact h.g i hi)|(rw[(e _).2.1];exact h.s)
  ·first |exact h.n|exact h.g|exact h.s
theorem putS(h:PG P N G V k)(hn:n<N){X:Pg}(hX:X.length=512):PG (pP P n X) N (ze9 G n X) V k:=by
 have hN:=h.n
 have e:=zeN P n
 have hp:pP P n X=znJ P n X:=by unfold pP;rw[if_pos (by unfold inP;omega),Int.toNat_natCast]
 refine⟨h.i.pP n hX,?_,fun i hi=>?_,?_⟩
 ·rw[hp];exact e.2.2.2.2.2.2.trans hN
 ·rw[hp]
  show(zfz P.ch n (if X=zh5 P n then none else some X) i).getD (V i)=ze9 G n X i
  unfold zfz ze9
  by_cases hin:i=n
  ·subst hin
   rw[if_pos rfl,if_pos rfl]
   split
   ·rename_i hx;rw[hx];exact(h.i.ask ae).symm
   ·rfl
  ·rw[if_neg hin,if_neg hin];exact h.g i hi
 ·rw[hp];exact(congrArg Lg.size e.2.1).trans h.s
end PG
section
variable {Y:World→List Nat→Prop}[Thing Y]{q N lo:Nat}{L:List Nat}{G V:Nat→Pg}{k:Nat}{w:World}
omit [Thing Y] in
theorem zkT(h:Two (GZ q N G V k) Y lo L w):∃ P,PG P N G V k∧Two (PZ q P) Y lo L w:=by
 obtain⟨⟨B,C,⟨P,h1,h2⟩,h3,h4,h5⟩,h6,h7⟩:=h
 exact⟨P,h1,⟨B,C,h2,h3,h4,h5⟩,h6,h7⟩
omit [Thing Y] in
theorem zlK{P:Pl}(h1:PG P N G V k)(h:Two (PZ q P) Y lo L w):Two (GZ q N G V k) Y lo L w:=by
 obtain⟨⟨B,C,h2,h3,h4,h5⟩,h6,h7⟩:=h
 exact⟨⟨B,C,⟨P,h1,h2⟩,h3,h4,h5⟩,h6,h7⟩
omit [Thing Y] in
theorem zjv(h:Two (GZ q N G V k) Y lo L w):N≤2048∧4≤N∧∀ n,n<N→(G n).length=512:=by
 obtain⟨P,h1,h2⟩:=zkT h
 have:=z_n h2
 have h3:=h1.i.ok.n4
 have h4:=h1.n
 exact⟨ae,ae,fun n hn=>h1.len hn⟩
theorem gGet(h:Two (GZ q N G V k) Y lo L w)(n:Nat)(hn:n<N):Calls Tryz.prog 100 [.pointer (some ⟨q,0,none⟩), .int .i64 (n:Int)].toArray w (Ret fun v w'=>v= .tuple #[.agg (bv (G n)).toArray, .int .i64 0]∧Two (GZ q N G V k) Y lo L w'∧LoL lo L w w'):=by
 obtain⟨P,h1,h2⟩:=zkT h
 refine(zGet h2 h1.i n).to fun v w' ⟨e,h3,h4⟩=>⟨?_,zlK (h1.getS n) h3,h4⟩
 rw[e,h1.getX hn]
 have:rdE P n=0:=by unfold rdE;rw[if_pos (by have:=h1.n;unfold inP;omega)]
 rw[this]
theorem gPut(h:Two (GZ q N G V k) Y lo L w)(n:Nat)(hn:n<N){X:Pg}(hX:X.length=512):Calls Tryz.prog 23 [.pointer (some ⟨q,0,none⟩), .int .i64 (n:Int), .agg (bv X).toArray].toArray w (Ret fun v w'=>v= .int .i64 0∧Two (GZ q N (ze9 G n X) V k) Y lo L w'∧LoL lo L w w'):=by
 obtain⟨P,h1,h2⟩:=zkT h
 refine(zPut h2 h1.i n hX).to fun v w' ⟨e,h3,h4⟩=>⟨?_,zlK (h1.putS hn hX) h3,h4⟩
 rw[e]
 have:rdE P n=0:=by unfold rdE;rw[if_pos (by have:=h1.n;unfold inP;omega)]
 rw[this]
theorem zkU(h:Two (GZ q N G V k) Y lo L w):Calls Tryz.prog 36 [.pointer (some ⟨q,0,none⟩)].toArray w (Ret fun v w'=>v= .int .i64 (N:Int)∧Below w.heap.size w w'):=by
 obtain⟨P,h1,h2⟩:=zkT h
 obtain⟨g,x,mc,md,cv,hP⟩:=zgv h2
 rw[←h1.n]
 exact pagesP hP (by have:=h1.s;omega)
omit [Thing Y] in
theorem gDead(h:Two (GZ q N G V k) Y lo L w):Calls Tryz.prog 91 [.pointer (some ⟨q,0,none⟩)].toArray w (Ret fun v w'=>v= .bool false∧w=w'):=by
 obtain⟨P,h1,h2⟩:=zkT h
 obtain⟨g,x,mc,md,cv,hP⟩:=zgv h2
 rw[←h1.i.de]
 exact deadP hP
end
structure Fst where
 fresh:Nat
 free:Nat
 many:Nat
 records:Nat
 root:Nat
def zh6(F:Fst):List Value:=[.int .i64 (F.fresh:Int), .int .i64 (F.free:Int), .int .i64 (F.many:Int), .int .i64 (F.records:Int), .int .i64 (F.root:Int)]
def jV(F:Fst)(q mw:Nat):List Value:=[.int .i64 (F.fresh:Int), .int .i64 (F.free:Int), .int .i64 (F.many:Int), .int .i64 (F.records:Int), .int .i64 (F.root:Int), .pointer (some ⟨q,0,none⟩), .map (some mw)]
structure zjw(N:Nat)(G0 G:Nat→Pg)(c:PgM):Prop where
 yes:∀ n x,c n=some x→n<N∧x=G0 n
 no:∀ n,n<N→c n=none→G n=G0 n
 len:∀ n x,c n=some x→x.length=512
structure JAt(q jb mw N:Nat)(G0 G V:Nat→Pg)(k:Nat)(F:Fst)(c:PgM)(Y:World→List Nat→Prop)(lo:Nat)(L:List Nat)(w:World):Prop where
 p:Two (GZ q N G V k) Y lo (jb::mw::L) w
 row:row w jb (jV F q mw) 86
 map:MapAt Tryz.prog 3 w mw N (zdG c)
 was:zjw N G0 G c
 ne:jb≠mw
 jl:lo≤jb∧jb∉L
 ml:lo≤mw∧mw∉L
def JZ(q jb mw N:Nat)(G0 G V:Nat→Pg)(k:Nat)(F:Fst):World→List Nat→Prop:=fun w B=>∃ B1 c,B=B1++[jb,mw]∧GZ q N G V k w B1∧Coup.row w jb (jV F q mw) 86∧MapAt Tryz.prog 3 w mw N (zdG c)∧zjw N G0 G c∧jb∉B1∧mw∉B1∧jb≠mw
instance(q jb mw N:Nat)(G0 G V:Nat→Pg)(k:Nat)(F:Fst):Thing (JZ q jb mw N G0 G V k F):=
 ⟨fun {w w' B M} ⟨B1,c,e,h1,h2,h3,h4,h5⟩ hk hM=>by
   subst e
   exact⟨B1,c,rfl,Thing.kpd h1 hk fun b hb=>hM b aH,h2.kpd hk (hM jb ay),h3.kpd hk (hM mw ay),h4,h5⟩,
  fun {w B} ⟨B1,c,e,h1,h2,h3,h4,h5⟩ b hb=>by
   subst e
   simp only[List.mem_append,List.mem_cons,List.not_mem_nil,or_false]at hb
   rcases hb with hb|rfl|rfl
   ·exact Thing.lt h1 b hb
   ·exact h2.lt
   ·exact h3.lt⟩
section
variable {Y:World→List Nat→Prop}{q jb mw N lo:Nat}{L:List Nat}{G0 G V:Nat→Pg}{k:Nat}{F:Fst}{c:PgM}{w:World}
theorem zbL(h:Two (JZ q jb mw N G0 G V k F) Y lo L w):∃ c,JAt q jb mw N G0 G V k F c Y lo L w:=by
 obtain⟨⟨B,C,⟨B1,c,e,h1,h2,h3,h4,h5,h6,h7⟩,hC,hB,hC2⟩,hl,hL⟩:=h
 subst e
 have hj:=hB jb ay
 have hm:=hB mw ay
 refine⟨c,⟨⟨B1,C,h1,hC,fun b hb=>⟨(hB b aH).1,(hB b aH).2.1,fun hx=>?_⟩,fun b hb=>⟨(hC2 b hb).1,fun hx=>?_⟩⟩,hl,fun b hx=>?_⟩,h2,h3,h4,h7,⟨hj.1,hj.2.2⟩,⟨hm.1,hm.2.2⟩⟩
 ·rcases List.mem_cons.1 hx with rfl|hx
  ·exact h5 hb
  ·rcases List.mem_cons.1 hx with rfl|hx
   ·exact h6 hb
   ·exact(hB b aH).2.2 hx
 ·rcases List.mem_cons.1 hx with rfl|hx
  ·exact hj.2.1 hb
  ·rcases List.mem_cons.1 hx with rfl|hx
   ·exact hm.2.1 hb
   ·exact(hC2 b hb).2 hx
 ·rcases List.mem_cons.1 hx with rfl|hx
  ·exact h2.lt
  ·rcases List.mem_cons.1 hx with rfl|hx
   ·exact h3.lt
   ·exact hL b hx
theorem zjx(hp:Two (GZ q N G V k) Y lo (jb::mw::L) w)(hr:Coup.row w jb (jV F q mw) 86)(hm:MapAt Tryz.prog 3 w mw N (zdG c))(hw:zjw N G0 G c)(hne:jb≠mw)(hj:lo≤jb∧jb∉L)(hml:lo≤mw∧mw∉L):Two (JZ q jb mw N G0 G V k F) Y lo L w:=by
 obtain⟨⟨B,C,h1,hC,hB,hC2⟩,hl,hL⟩:=hp
 have hBn:=fun b hb=>(hB b hb).2.2
 have hCn:=fun b hb=>(hC2 b hb).2
 refine⟨⟨B++[jb,mw],C,⟨B,c,rfl,h1,hr,hm,hw,fun hx=>hBn jb hx ay,fun hx=>hBn mw hx ay,hne⟩,hC,fun b hb=>?_,fun b hb=>⟨(hC2 b hb).1,fun hx=>hCn b hb (by simp[hx])⟩⟩,hl,fun b hb=>hL b aH⟩
 simp only[List.mem_append,List.mem_cons,List.not_mem_nil,or_false]at hb
 rcases hb with hb|rfl|rfl
 ·exact⟨(hB b hb).1,(hB b hb).2.1,fun hx=>hBn b hb (by simp[hx])⟩
 ·exact⟨hj.1,fun hx=>hCn b hx ay,hj.2⟩
 ·exact⟨hml.1,fun hx=>hCn b hx ay,hml.2⟩
theorem JAt.close(h:JAt q jb mw N G0 G V k F c Y lo L w):Two (JZ q jb mw N G0 G V k F) Y lo L w:=zjx h.p h.row h.map h.was h.ne h.jl h.ml
theorem zgS(h:Two (JZ q jb mw N G0 G V k F) Y lo L w):N≤2048∧4≤N∧∀ n,n<N→(G n).length=512:=by
 obtain⟨c,h⟩:=zbL h
 exact zjv h.p
theorem zjw.put(h:zjw N G0 G c){n:Nat}(hn:n<N)(hl:(G n).length=512)(X:Pg):zjw N G0 (ze9 G n X) (if(c n).isSome then c else zfz c n (some (G n))):=by
 cases hc:c n with
 |some x=>
  rw[if_pos ay]
  refine⟨h.yes,fun i hi he=>?_,h.len⟩
  have:i≠n:=fun e=>by rw[e,hc]at he;cases he
  unfold ze9
  rw[if_neg this]
  exact h.no i hi he
 |none=>
  rw[if_neg ay]
  refine⟨fun i x hx=>?_,fun i hi he=>?_,fun i x hx=>?_⟩
  ·unfold zfz at hx
   split at hx
   ·rename_i e;subst e;cases hx;exact⟨hn,h.no i hn hc⟩
   ·exact h.yes i x hx
  ·unfold zfz at he
   split at he
   ·cases he
   ·rename_i e;unfold ze9;rw[if_neg e];exact h.no i hi he
  ·unfold zfz at hx
   split at hx
   ·cases hx;exact hl
   ·exact h.len i x hx
end
end Go.Proofs.YtdbogkndglbffaaGreat
