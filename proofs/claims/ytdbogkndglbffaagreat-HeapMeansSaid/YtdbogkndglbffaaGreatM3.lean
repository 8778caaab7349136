import Derived.Test.YtdbogkndglbffaaGreatM2
import Derived.Test.YtdbogkndglbffaaGreatM0
import Derived.Test.YtdbogkndglbffaaGreatM1
import Derived.Lib.BufferWrite
namespace Go.Proofs.YtdbogkndglbffaaGreat
open Go Go.RowKit Coup
theorem zjj(p:Option Addr)(n c:Nat)(l:List UInt8)(i:Nat)(w:World)(h:zaS w p n 128 (bv l))(hi:i / 2<n)(hn:n≤1000000):
 Calls Tryz.prog 197 [.slice p n c, .int .i64 i].toArray w (Ret fun v w'=>v= .agg (bv (zaH l i)).toArray∧Below w.heap.size w w'):=zdw (half32 p n c l i w h hi hn)
theorem zlt(hb:List UInt8)(hl:hb.length=64)(b:Bool)(hm:zg0 (zbx hb) (zev hb)=b)(w:World):
  Calls Tryz.prog 196 [.agg (bv hb).toArray].toArray w (Ret fun v w'=>v= .tuple #[.agg (zbP (zbx hb) (zev hb) (zfg hb) (zc2 hb) (zdC hb)).toArray, .bool b]∧Below w.heap.size w w'):=by
 have:=zdw (read31 hb hl w)
 rwa [hm]at this
theorem zdi(w:World):Calls Tryz.prog 195 [].toArray w (Ret fun v w'=>v=zqh∧Below w.heap.size w w'):=zdw (none30 w)
theorem zoF(p:Option Addr)(n c:Nat)(l:List UInt8)(w:World)(h:zaS w p n 1 (bv l))(hn:n≤8):Calls Tryz.prog 198 [.slice p n c].toArray w (Ret fun v w'=>v= .int .u64 (zdl l)∧w=w'):=zdw (zf0 p n c l w h hn)
def zng(h:List UInt8)(c nn i m:Nat):Bool:=zg0 (zbx h) (zev h) && decide (zbx h=c∧zev h=nn) && decide (zfg h=i) && decide (zc2 h=m)
def bodies(l:List UInt8)(m:Nat):List UInt8:=(List.range m).flatMap fun i=>zdC (zaH l i)
theorem zhB(l:List UInt8)(m:Nat):bodies l (m+1)=bodies l m++zdC (zaH l m):=by simp[bodies,List.range_succ]
theorem zf2(l:List UInt8):∀ m,64*m≤l.length→(bodies l m).length=48*m
 |0,_=>rfl
 |m+1,h=>by rw[zhB,List.length_append,zf2 l m ae,zdC,List.length_drop,zc1 _ _ ae];omega
def zgr(l:List UInt8)(m:Nat):Nat:=zdl ((bodies l m).take 4)
def zgH(l:List UInt8)(c nn m:Nat):Bool:=
 (List.range m).all (fun i=>zng (zaH l i) c nn i m) && decide (zgr l m≤32768) && decide (zc4 (zgr l m)=m) && ((bodies l m).drop (4+zgr l m)).all (· == 0)
def zlu(l:List UInt8)(n c nn m:Nat):Bool:=zg0 c nn && decide (1≤m) && decide (m≤683) && decide ((m+1) / 2≤n)
def zcc(l:List UInt8)(n:Nat):Bool:=
 decide (0<n) && zlu l n (zbx (zaH l 0)) (zev (zaH l 0)) (zc2 (zaH l 0)) && zgH l (zbx (zaH l 0)) (zev (zaH l 0)) (zc2 (zaH l 0))
def zbJ(l:List UInt8):List UInt8:=((bodies l (zc2 (zaH l 0))).drop 4).take (zgr l (zc2 (zaH l 0)))
def JR(l:List UInt8)(n:Nat)(w:World)(v:Value)(w':World):Prop:=
 Below w.heap.size w w'∧((zcc l n=false∧v=zqh)∨(zcc l n=true∧∃ sp,v= .tuple #[.agg #[.int .u64 (zbx (zaH l 0)), .int .i64 (zev (zaH l 0))], .slice sp (zbJ l).length (zbJ l).length, .int .i64 (zci (zbJ l).length:Nat), .int .i64 0]∧
  zaS w' sp (zbJ l).length 1 (bv (zbJ l))))
theorem zqj(l:List UInt8)(m:Nat):zgr l m<4294967296:=zca _ 4 aK
set_option maxRecDepth 20000 in
theorem join0(p:Option Addr)(cp:Nat)(l:List UInt8)(w:World):Calls Tryz.prog 188 [.slice p 0 cp].toArray w (Ret fun v w'=>JR l 0 w v w'):=by
 have hB:=Below.refl w.heap.size w
 have hJ:zcc l 0=false:=by simp[zcc]
 refine zax (fn:=Tryz.f188) (rs:=[.cell 2 212, .tmp 3, .tmp 4, .tmp 5]) (n:=152) Tryz.func188 rfl rfl Tryz.ntmps188 aa rfl (zah (zaa (zaD rfl (zar ([.int .u64 0, .int .i64 0]) aa (fun g2 w2 hg2 hr2 hb2=>?_)))))
 have ge_hB_g2:=Nat.le_trans hB.size hg2
 replace hB:=hB.acc hb2
 refine zad (zac) (zad (zac) (zad (zac) (zae (zaf (zah (zaa (zad (zac) (zae (zaf (zah (zah (zaa (zad (zab) (zad (zaB (e:=172) (sz:=128) aa rfl rfl) (zad (za5 rfl rfl) (zae (zaf (zgP rfl (rfl) (zah (zaa (zad (zab) (zao rfl (zbZ aa rfl rfl) (zdi w2) ?_))))))))))))))))))))))
 rintro _ w20 ⟨rfl,hb20⟩
 replace hr2:=hr2.new hb20
 replace hB:=hB.acc hb20
 refine zad (zai rfl rfl) (zad (zai rfl rfl) (zad (zai rfl rfl) (zad (zai rfl rfl) (zaK rfl (zaQ 2 ([.int .u64 0, .int .i64 0]) hr2 (fun w901 hr2 ho901=>?_))))))
 replace hB:=ho901.below hB ge_hB_g2
 refine dm ?_
 exact⟨hB, .inl ⟨hJ,rfl⟩⟩
set_option maxRecDepth 20000 in
theorem joinF(p:Option Addr)(n cp:Nat)(l:List UInt8)(w:World)(h:zaS w p n 128 (bv l))(hn:n≤1000000)(h0:0<n)(hm:zg0 (zbx (zaH l 0)) (zev (zaH l 0))=false):
  Calls Tryz.prog 188 [.slice p n cp].toArray w (Ret fun v w'=>JR l n w v w'):=by
 have hB:=Below.refl w.heap.size w
 have hl:l.length=n*128:=by simpa [zal]using h.len
 have hJ:zcc l n=false:=by simp[zcc,zlu,hm]
 have hd:(zaH l 0).length=64:=zc1 _ _ ae
 obtain⟨L,hL⟩:∃ L,L=zbP (zbx (zaH l 0)) (zev (zaH l 0)) (zfg (zaH l 0)) (zc2 (zaH l 0)) (zdC (zaH l 0)):=⟨_,rfl⟩
 have hLl:L.length=52:=by rw[hL,zcy,zdC,List.length_drop,hd]
 have hone:∀ v∈L,v.oneCell'=true:=by rw[hL];exact ze2 _ _ _ _ _
 have hC:=fun w'=>zlt (zaH l 0) hd false hm w'
 rw[←hL]at hC
 clear hL
 refine zax (fn:=Tryz.f188) (rs:=[.cell 2 212, .tmp 3, .tmp 4, .tmp 5]) (n:=152) Tryz.func188 rfl rfl Tryz.ntmps188 aa rfl (zah (zaa (zaD rfl (zar ([.int .u64 0, .int .i64 0]) aa (fun g2 w2 hg2 hr2 hb2=>?_)))))
 have ge_hB_g2:=Nat.le_trans hB.size hg2
 replace hB:=hB.acc hb2
 refine dw ?_
 rintro _ w27 ⟨rfl,hb27⟩
 replace hr2:=hr2.new hb27
 replace hB:=hB.acc hb27
 refine zao rfl (zaj aa rfl) (hC w27) ?_
 rintro _ w28 ⟨rfl,hb28⟩
 replace hr2:=hr2.new hb28
 replace hB:=hB.acc hb28
 refine zad (zab) (zad (zai rfl rfl) (zad (zai rfl rfl) (zaD rfl (zar (zbP 0 0 0 0 (zbi 48)) aa (fun g7 w7 hg7 hr7 hb7=>?_)))))
 have ge_hB_g7:=Nat.le_trans hB.size hg7
 have lt_g2_g7:g2<g7:=Nat.lt_of_lt_of_le hr2.lt hg7
 replace hr2:=hr2.new hb7
 replace hB:=hB.acc hb7
 refine zaK rfl (zaQ 52 (L) hr7 (fun w901 hr7 ho901=>?_))
 replace hr2:=hr2.only ho901 (Nat.ne_of_lt lt_g2_g7)
 replace hB:=ho901.below hB ge_hB_g7
 refine zad (zac) (zae (zaf (zah (zah (zaa (zad (zab) (zad (zbK rfl) (zad (zab) (WR_tnb 33 rfl (rfl) (zaM rfl rfl (zaM rfl rfl (zaM rfl rfl (zad (zaC rfl) (zad (zab) (zaM rfl rfl (zaM rfl rfl (zaM rfl rfl (zad (zaC rfl) (zad (zab) (zaM rfl rfl (zaM rfl rfl (zaM rfl rfl (zaM rfl rfl (zaM rfl rfl (zaM rfl rfl (zaM rfl rfl (zad (zaC rfl) (zae (zaf (W_t rfl (zah (zaa (zad (zab) (zao rfl (zbZ aa rfl rfl) (zdi w901) ?_))))))))))))))))))))))))))))))))))
 rintro _ w53 ⟨rfl,hb53⟩
 replace hr2:=hr2.new hb53
 replace hB:=hB.acc hb53
 refine zad (zai rfl rfl) (zad (zai rfl rfl) (zad (zai rfl rfl) (zad (zai rfl rfl) (zaK rfl (zaQ 2 ([.int .u64 0, .int .i64 0]) hr2 (fun w902 hr2 ho902=>?_))))))
 replace hB:=ho902.below hB ge_hB_g2
 refine dm ?_
 exact⟨hB, .inl ⟨hJ,rfl⟩⟩
theorem znh{l:List UInt8}{c nn m i:Nat}(hi:i<m)(h:zng (zaH l i) c nn i m=false):zgH l c nn m=false:=by
 have:(List.range m).all (fun i=>zng (zaH l i) c nn i m)=false:=List.all_eq_false.2 ⟨i,List.mem_range.2 hi,by simp[h]⟩
 simp[zgH,this]
set_option maxRecDepth 20000 in
set_option maxHeartbeats 2000000 in
theorem joinT(p:Option Addr)(n cp:Nat)(l:List UInt8)(w:World)(h:zaS w p n 128 (bv l))(hn:n≤1000000)(h0:0<n)(hm:zg0 (zbx (zaH l 0)) (zev (zaH l 0))=true):
   Calls Tryz.prog 188 [.slice p n cp].toArray w (Ret fun v w'=>JR l n w v w'):=by
 have hB:=Below.refl w.heap.size w
 have hl:l.length=n*128:=by simpa [zal]using h.len
 have hd:(zaH l 0).length=64:=zc1 _ _ ae
 obtain⟨L,hL⟩:∃ L,L=zbP (zbx (zaH l 0)) (zev (zaH l 0)) (zfg (zaH l 0)) (zc2 (zaH l 0)) (zdC (zaH l 0)):=⟨_,rfl⟩
 have hLl:L.length=52:=by rw[hL,zcy,zdC,List.length_drop,hd]
 have hone:∀ v∈L,v.oneCell'=true:=by rw[hL];exact ze2 _ _ _ _ _
 have hC:=fun w'=>zlt (zaH l 0) hd true hm w'
 have e0:L[0]?=some (.int .u64 (zbx (zaH l 0))):=by rw[hL];rfl
 have e1:L[1]?=some (.int .i64 (zev (zaH l 0))):=by rw[hL];rfl
 have e3:L[3]?=some (.int .i64 (zc2 (zaH l 0))):=by rw[hL];rfl
 have hJR:∀ v w',JR l n w v w'=(Below w.heap.size w w'∧((zcc l n=false∧v=zqh)∨(zcc l n=true∧∃ sp,v= .tuple #[.agg #[.int .u64 (zbx (zaH l 0)), .int .i64 (zev (zaH l 0))], .slice sp (zbJ l).length (zbJ l).length, .int .i64 (zci (zbJ l).length:Nat), .int .i64 0]∧
   zaS w' sp (zbJ l).length 1 (bv (zbJ l))))):=fun _ _=>rfl
 have hJI:zcc l n=(decide (0<n) && (zg0 (zbx (zaH l 0)) (zev (zaH l 0)) && decide (1≤zc2 (zaH l 0)) && decide (zc2 (zaH l 0)≤683) && decide ((zc2 (zaH l 0)+1) / 2≤n)) && zgH l (zbx (zaH l 0)) (zev (zaH l 0)) (zc2 (zaH l 0))):=rfl
 have hJB:zbJ l=((bodies l (zc2 (zaH l 0))).drop 4).take (zgr l (zc2 (zaH l 0))):=rfl
 have hmb:zc2 (zaH l 0)<65536:=zca _ 2 aK
 simp only[hJR]
 clear hJR
 rw[←hL]at hC
 clear hL
 generalize zbx (zaH l 0)=c at*
 generalize zev (zaH l 0)=nn at*
 generalize zc2 (zaH l 0)=m at*
 generalize zcc l n=J at*
 generalize zbJ l=JB at*
 have hJF:zgH l c nn m=false→J=false:=by intro q;rw[hJI,q,Bool.and_false]
 refine zax (fn:=Tryz.f188) (rs:=[.cell 2 212, .tmp 3, .tmp 4, .tmp 5]) (n:=152) Tryz.func188 rfl rfl Tryz.ntmps188 aa rfl (zah (zaa (zaD rfl (zar ([.int .u64 0, .int .i64 0]) aa (fun g2 w2 hg2 hr2 hb2=>?_)))))
 have ge_hB_g2:=Nat.le_trans hB.size hg2
 replace hB:=hB.acc hb2
 refine dw ?_
 rintro _ w27 ⟨rfl,hb27⟩
 replace hr2:=hr2.new hb27
 replace hB:=hB.acc hb27
 refine zao rfl (zaj aa rfl) (hC w27) ?_
 rintro _ w28 ⟨rfl,hb28⟩
 replace hr2:=hr2.new hb28
 replace hB:=hB.acc hb28
 refine zad (zab) (zad (zai rfl rfl) (zad (zai rfl rfl) (zaD rfl (zar (zbP 0 0 0 0 (zbi 48)) aa (fun g7 w7 hg7 hr7 hb7=>?_)))))
 have ge_hB_g7:=Nat.le_trans hB.size hg7
 have lt_g2_g7:g2<g7:=Nat.lt_of_lt_of_le hr2.lt hg7
 replace hr2:=hr2.new hb7
 replace hB:=hB.acc hb7
 refine zaK rfl (zaQ 52 (L) hr7 (fun w901 hr7 ho901=>?_))
 replace hr2:=hr2.only ho901 (Nat.ne_of_lt lt_g2_g7)
 replace hB:=ho901.below hB ge_hB_g7
 refine zad (zac) (zae (zaf (zah (zah (zaa (zad (zab) (zad (zbK rfl) (zad (zab) (znO 33 rfl (rfl) (zaq rfl (zad (zaw 3) (zaq rfl (zad (zaG rfl (Ld.zeC hr7 aa e3)) (zaq rfl (zad (zaY rfl rfl) (zad (zaE rfl) (zad (zab) (zbI 38 rfl (fun hc1=>?_) (fun hc1=>?_)))))))))))))))))))
 ·
  refine zaM rfl rfl (zaM rfl rfl (zaM rfl rfl (zad (zaC rfl) (zad (zab) (zaM rfl rfl (zaM rfl rfl (zaM rfl rfl (zaM rfl rfl (zaM rfl rfl (zaM rfl rfl (zaM rfl rfl (zad (zaC rfl) (zae (zaf (W_t rfl (zah (zaa (zad (zab) (zao rfl (zbZ aa rfl rfl) (zdi w901) ?_)))))))))))))))))))
  rintro _ w53 ⟨rfl,hb53⟩
  replace hr2:=hr2.new hb53
  replace hB:=hB.acc hb53
  refine zad (zai rfl rfl) (zad (zai rfl rfl) (zad (zai rfl rfl) (zad (zai rfl rfl) (zaK rfl (zaQ 2 ([.int .u64 0, .int .i64 0]) hr2 (fun w902 hr2 ho902=>?_))))))
  replace hB:=ho902.below hB ge_hB_g2
  refine dm ?_
  · refine⟨hB, .inl ⟨?_,rfl⟩⟩
    rw[hJI,show decide (1≤m)=false from decide_eq_false ae]
    simp
 ·
  refine zaq rfl (zad (zaw 3) (zaq rfl (zad (zaG rfl (Ld.zeC hr7 aa e3)) (zaq rfl (zad (zbA rfl rfl) (zad (zaE rfl) (zad (zab) (zbI 43 rfl (fun hc2=>?_) (fun hc2=>?_)))))))))
  ·
   refine zaM rfl rfl (zaM rfl rfl (zaM rfl rfl (zaM rfl rfl (zaM rfl rfl (zaM rfl rfl (zaM rfl rfl (zad (zaC rfl) (zae (zaf (W_t rfl (zah (zaa (zad (zab) (zao rfl (zbZ aa rfl rfl) (zdi w901) ?_))))))))))))))
   rintro _ w53 ⟨rfl,hb53⟩
   replace hr2:=hr2.new hb53
   replace hB:=hB.acc hb53
   refine zad (zai rfl rfl) (zad (zai rfl rfl) (zad (zai rfl rfl) (zad (zai rfl rfl) (zaK rfl (zaQ 2 ([.int .u64 0, .int .i64 0]) hr2 (fun w903 hr2 ho903=>?_))))))
   replace hB:=ho903.below hB ge_hB_g2
   refine dm ?_
   · refine⟨hB, .inl ⟨?_,rfl⟩⟩
     rw[hJI,show decide (m≤683)=false from decide_eq_false ae]
     simp
  ·
   refine zaq rfl (zad (zaw 3) (zaq rfl (zad (zaG rfl (Ld.zeC hr7 aa e3)) (zaq rfl (zad (zaO rfl rfl (w64 ae)) (zaq rfl (zad (zhi rfl rfl ae ae) (zaq rfl (zad (zab) (zaq rfl (zad (zaB (e:=172) (sz:=128) aa rfl rfl) (zaq rfl (zad (zbA rfl rfl) (zad (zaE rfl) (zae (zaf (za0 rfl (fun hc3=>?_) (fun hc3=>?_))))))))))))))))))
   ·
    refine zah (zaa (zad (zab) (zao rfl (zbZ aa rfl rfl) (zdi w901) ?_)))
    rintro _ w53 ⟨rfl,hb53⟩
    replace hr2:=hr2.new hb53
    replace hB:=hB.acc hb53
    refine zad (zai rfl rfl) (zad (zai rfl rfl) (zad (zai rfl rfl) (zad (zai rfl rfl) (zaK rfl (zaQ 2 ([.int .u64 0, .int .i64 0]) hr2 (fun w904 hr2 ho904=>?_))))))
    replace hB:=ho904.below hB ge_hB_g2
    refine dm ?_
    · refine⟨hB, .inl ⟨?_,rfl⟩⟩
      rw[hJI,show decide ((m+1) / 2≤n)=false from decide_eq_false ae]
      simp
   ·
    refine zat (zaf (zah (zaa (zad (zac) (zae (zaf (zah (zah (zaa (zad (zaw 3) (zad (zaG rfl (Ld.zeC hr7 aa e3)) (zad (zab) (zae (zaf (zav ?_)))))))))))))))
    have q7:=hr7.lt
    have q2:=hr2.lt
    refine zbq (α:=Nat × Value) (0, .slice none 0 0) (fun k=>[(60, .int .i64 (k.1:Nat)),(9,k.2),(59, .int .i64 m),(0, .slice p n cp),(6, .func (.func 195) #[] #[]),(7, .pointer (some ⟨g7,0,none⟩)),(2, .pointer (some ⟨g2,0,none⟩))])
      (fun k w'=>k.1≤m∧(∀ j,j<k.1→zng (zaH l j) c nn j m=true)∧zaz w' w901.heap.size 5 1 k.2 (48*k.1) (bv (bodies l k.1))∧row w' g7 L 240∧row w' g2 [.int .u64 0, .int .i64 0] 212∧Below w.heap.size w w'∧w901.heap.size≤w'.heap.size) (fun k=>m - k.1)
      ⟨rfl,rfl,rfl,rfl,rfl,rfl,rfl,rfl⟩ ⟨Nat.zero_le _,bq,zbp _ _ _ _,hr7,hr2,hB,Nat.le_refl _⟩ ?_
    rintro⟨k,v9⟩ f wr ⟨hk,hgood,hv9,hr7,hr2,hBr,hsr⟩
    simp only at hk hgood hv9
    have hBi:=Below.refl wr.heap.size wr
    have hszr:=hBr.size
    by_cases hlt:k<m
    · have hdk:(zaH l k).length=64:=zc1 _ _ ae
      have hobt:∃ L,L=zbP (zbx (zaH l k)) (zev (zaH l k)) (zfg (zaH l k)) (zc2 (zaH l k)) (zdC (zaH l k)):=⟨_,rfl⟩
      obtain⟨LK,hLK⟩:=hobt
      have hLKl:LK.length=52:=by rw[hLK,zcy,zdC,List.length_drop,hdk]
      have honek:∀ v∈LK,v.oneCell'=true:=by rw[hLK];exact ze2 _ _ _ _ _
      have hCK:=fun b (hb:zg0 (zbx (zaH l k)) (zev (zaH l k))=b) w'=>zlt (zaH l k) hdk b hb w'
      have k0:LK[0]?=some (.int .u64 (zbx (zaH l k))):=by rw[hLK];rfl
      have k1:LK[1]?=some (.int .i64 (zev (zaH l k))):=by rw[hLK];rfl
      have k2:LK[2]?=some (.int .i64 (zfg (zaH l k))):=by rw[hLK];rfl
      have k3:LK[3]?=some (.int .i64 (zc2 (zaH l k))):=by rw[hLK];rfl
      have hkb:(LK.drop 4).take (48*1)=bv (zdC (zaH l k)):=by
        rw[hLK]
        exact List.take_of_length_le (by show(bv (zdC (zaH l k))).length≤_;rw[zal,zdC,List.length_drop,hdk];omega)
      have hGB:zng (zaH l k) c nn k m=(zg0 (zbx (zaH l k)) (zev (zaH l k)) && decide (zbx (zaH l k)=c∧zev (zaH l k)=nn) && decide (zfg (zaH l k)=k) && decide (zc2 (zaH l k)=m)):=rfl
      have hbs:=zhB l k
      have hbl:(zdC (zaH l k)).length=48:=by rw[zdC,List.length_drop,hdk]
      rw[←hLK]at hCK
      clear hLK
      generalize zbx (zaH l k)=c' at*
      generalize zev (zaH l k)=n' at*
      generalize zfg (zaH l k)=p' at*
      generalize zc2 (zaH l k)=m' at*
      have hbad:zng (zaH l k) c nn k m=false→J=false:=fun q=>hJF (znh hlt q)
      rcases hmk:zg0 (c':Int) n' with _|_
      · skip
        refine dx ?_
        rintro _ w66 ⟨rfl,hb66⟩
        replace hBr:=hBr.acc hb66
        replace hBi:=hBi.acc hb66
        refine zao rfl (zaj aa rfl) (hCK _ hmk w66) ?_
        rintro _ w67 ⟨rfl,hb67⟩
        replace hBr:=hBr.acc hb67
        replace hBi:=hBi.acc hb67
        refine zad (zab) (zad (zai rfl rfl) (zad (zai rfl rfl) (zaD rfl (zar (zbP 0 0 0 0 (zbi 48)) aa (fun g11 w11 hg11 hr11 hb11=>?_)))))
        have ge_hBr_g11:=Nat.le_trans hBr.size hg11
        have ge_hBi_g11:=Nat.le_trans hBi.size hg11
        replace hBr:=hBr.acc hb11
        replace hBi:=hBi.acc hb11
        refine zaK rfl (zaQ 52 (LK) hr11 (fun w905 hr11 ho905=>?_))
        replace hBr:=ho905.below hBr ge_hBr_g11
        replace hBi:=ho905.below hBi ge_hBi_g11
        refine zad (zac) (zae (zaf (zah (zah (zaa (zad (zab) (zad (zbK rfl) (zad (zab) (WR_tnb 72 rfl (rfl) (zaM rfl rfl (zaM rfl rfl (zaM rfl rfl (zaM rfl rfl (zaM rfl rfl (zad (zaC rfl) (zad (zab) (zaM rfl rfl (zaM rfl rfl (zaM rfl rfl (zaM rfl rfl (zad (zaC rfl) (zad (zab) (zaM rfl rfl (zaM rfl rfl (zaM rfl rfl (zaM rfl rfl (zaM rfl rfl (zad (zaC rfl) (zae (zaf (W_t rfl (zah (zaa (zad (zab) (zao rfl (zbZ aa rfl rfl) (zdi w905) ?_)))))))))))))))))))))))))))))))))))
        rintro _ w93 ⟨rfl,hb93⟩
        replace hBr:=hBr.acc hb93
        replace hBi:=hBi.acc hb93
        refine dz ?_
        have hr2:=hr2.new hBi
        have hBs:=hBi.size
        refine zaK rfl (zaQ 2 ([.int .u64 0, .int .i64 0]) hr2 (fun w906 hr2 ho906=>?_))
        replace hBr:=ho906.below hBr ae
        refine dC ?_
        exact⟨hBr, .inl ⟨hbad (by rw[hGB,hmk];rfl),rfl⟩⟩
      · skip
        refine dx ?_
        rintro _ w66 ⟨rfl,hb66⟩
        replace hBr:=hBr.acc hb66
        replace hBi:=hBi.acc hb66
        refine zao rfl (zaj aa rfl) (hCK _ hmk w66) ?_
        rintro _ w67 ⟨rfl,hb67⟩
        replace hBr:=hBr.acc hb67
        replace hBi:=hBi.acc hb67
        refine zad (zab) (zad (zai rfl rfl) (zad (zai rfl rfl) (zaD rfl (zar (zbP 0 0 0 0 (zbi 48)) aa (fun g11 w11 hg11 hr11 hb11=>?_)))))
        have ge_hBr_g11:=Nat.le_trans hBr.size hg11
        have ge_hBi_g11:=Nat.le_trans hBi.size hg11
        replace hBr:=hBr.acc hb11
        replace hBi:=hBi.acc hb11
        refine zaK rfl (zaQ 52 (LK) hr11 (fun w907 hr11 ho907=>?_))
        replace hBr:=ho907.below hBr ge_hBr_g11
        replace hBi:=ho907.below hBi ge_hBi_g11
        refine zad (zac) (zae (zaf (zah (zah (zaa (zad (zab) (zad (zbK rfl) (zad (zab) (znO 72 rfl (rfl) (zaq rfl (zad (zaw 0) (zaq rfl (zad (zaG rfl (Ld.rng (hr11.range 0 [.int .u64 c', .int .i64 n'] (zhA k0 k1)) aa aa)) (zaq rfl (zad (zaw 0) (zaq rfl (zad (zaG rfl (Ld.rng ((hr7.new hBi).range 0 [.int .u64 c, .int .i64 nn] (zhA e0 e1)) aa aa)) (zaq rfl (zad (rn_neqP (k0:=.u64) (k1:=.i64) aa rfl rfl) (zad (zaE rfl) (zad (zab) (zec 79 rfl (fun hq1=>?_) (fun hq1=>?_)))))))))))))))))))))))
        ·
         refine zaM rfl rfl (zaM rfl rfl (zaM rfl rfl (zaM rfl rfl (zad (zaC rfl) (zad (zab) (zaM rfl rfl (zaM rfl rfl (zaM rfl rfl (zaM rfl rfl (zaM rfl rfl (zad (zaC rfl) (zae (zaf (W_t rfl (zah (zaa (zad (zab) (zao rfl (zbZ aa rfl rfl) (zdi w907) ?_))))))))))))))))))
         rintro _ w93 ⟨rfl,hb93⟩
         replace hBr:=hBr.acc hb93
         replace hBi:=hBi.acc hb93
         refine dz ?_
         have hr2:=hr2.new hBi
         have hBs:=hBi.size
         refine zaK rfl (zaQ 2 ([.int .u64 0, .int .i64 0]) hr2 (fun w908 hr2 ho908=>?_))
         replace hBr:=ho908.below hBr ae
         refine dC ?_
         · simp only[Bool.not_eq_true',decide_eq_false_iff_not]at hq1
           exact⟨hBr, .inl ⟨hbad (by rw[hGB,hmk,show decide (c'=c∧n'=nn)=false from decide_eq_false ae];rfl),rfl⟩⟩
        ·
         simp only[Bool.not_eq_false',decide_eq_true_eq]at hq1
         refine zaq rfl (zad (zaw 2) (zaq rfl (zad (zaG rfl (Ld.zeC hr11 aa k2)) (zaq rfl (zad (zab) (zaq rfl (zad (zaX rfl rfl) (zad (zaE rfl) (zad (zab) (zbI 85 rfl (fun hq2=>?_) (fun hq2=>?_)))))))))))
         ·
          refine zaM rfl rfl (zaM rfl rfl (zaM rfl rfl (zaM rfl rfl (zaM rfl rfl (zad (zaC rfl) (zae (zaf (W_t rfl (zah (zaa (zad (zab) (zao rfl (zbZ aa rfl rfl) (zdi w907) ?_))))))))))))
          rintro _ w93 ⟨rfl,hb93⟩
          replace hBr:=hBr.acc hb93
          replace hBi:=hBi.acc hb93
          refine dz ?_
          have hr2:=hr2.new hBi
          have hBs:=hBi.size
          refine zaK rfl (zaQ 2 ([.int .u64 0, .int .i64 0]) hr2 (fun w909 hr2 ho909=>?_))
          replace hBr:=ho909.below hBr ae
          refine dC ?_
          · exact⟨hBr, .inl ⟨hbad (by rw[hGB,show decide (p'=k)=false from decide_eq_false ae,Bool.and_false];rfl),rfl⟩⟩
         ·
          refine zaq rfl (zad (zaw 3) (zaq rfl (zad (zaG rfl (Ld.zeC hr11 aa k3)) (zaq rfl (zad (zaw 3) (zaq rfl (zad (zaG rfl (Ld.zeC (hr7.new hBi) aa e3)) (zaq rfl (zad (zaX rfl rfl) (zad (zaE rfl) (zae (zaf (za0 rfl (fun hq3=>?_) (fun hq3=>?_))))))))))))))
          ·
           refine zah (zaa (zad (zab) (zao rfl (zbZ aa rfl rfl) (zdi w907) ?_)))
           rintro _ w93 ⟨rfl,hb93⟩
           replace hBr:=hBr.acc hb93
           replace hBi:=hBi.acc hb93
           refine dz ?_
           have hr2:=hr2.new hBi
           have hBs:=hBi.size
           refine zaK rfl (zaQ 2 ([.int .u64 0, .int .i64 0]) hr2 (fun w910 hr2 ho910=>?_))
           replace hBr:=ho910.below hBr ae
           refine dC ?_
           · exact⟨hBr, .inl ⟨hbad (by rw[hGB,show decide (m'=m)=false from decide_eq_false ae,Bool.and_false]),rfl⟩⟩
          ·
           refine zat (zaf (zaa (zad (zab) (zad (zaw 4) (zad (zbw (e:=5) (n:=48) (0) (48) (48) (48) aa rfl rfl rfl rfl ay ae ae ae ae ae) ?_)))))
           have hs100:=hr11.sl (m:=48) (sz:=1) 4 ae aC
           rw[hkb]at hs100
           have hv9:=hv9.new hBi
           have hr7:=hr7.new hBi
           have hr2:=hr2.new hBi
           have hBs:=hBi.size
           refine zaD rfl (zbf (e:=5) (sz:=1) (bytes:=1) (z:=Value.int .u8 0) aa rfl aa rfl aD rfl hv9 rfl hs100 (zbV _) aC ae (fun hm0=>ae) (fun v101 w101 hv101 hgr101 hfr101=>?_))
           replace hr7:=hr7.own hv9 hgr101 ae
           replace hr2:=hr2.own hv9 hgr101 ae
           replace hBr:=hBr.own hv9 hgr101 ae
           refine zad (zac) (zae (zaP (zaf (zaa (zad (zaO rfl rfl (Coup.w64 ae)) (zad (zab) (zae (za2 ⟨(k+1,v101),by simp only;omega,⟨rfl,by go_num,rfl,rfl,rfl,rfl,rfl,rfl⟩,by simp only;omega,?_,?_,hr7,hr2,hBr,by have:=hgr101.size;omega⟩))))))))
           · intro j hj
             rcases Nat.lt_or_ge j k with hj'|hj'
             · exact hgood j hj'
             · obtain rfl:j=k:=by simp only at hj;omega
               rw[hGB,hmk,decide_eq_true (by omega:c'=c∧n'=nn),decide_eq_true (by omega:p'=j),decide_eq_true (by omega:m'=m)];rfl
           · simp only
             rw[hbs,zcG,show 48*(k+1)=48*k+48 by omega]
             exact hv101
    · obtain rfl:k=m:=by omega
      have hobt:=hv9.form' ae
      obtain⟨g9,o9,c9,rfl,b9,l9,hc9⟩:=hobt
      have hx9:=hv9.sl
      have hbl:=zf2 l k ae
      have hobt:∃ Z,Z=(bodies l k).drop (4+zgr l k):=⟨_,rfl⟩
      obtain⟨Z,hZ⟩:=hobt
      have hK:=zqj l k
      have hJ2:J=(decide (zgr l k≤32768) && decide (zc4 (zgr l k)=k) && Z.all (· == 0)):=by
        rw[hJI,hm,decide_eq_true h0,decide_eq_true (by omega:1≤k),decide_eq_true (by omega:k≤683),decide_eq_true (by omega:(k+1) / 2≤n),zgH,←hZ,List.all_eq_true.2 (fun j hj=>hgood j (List.mem_range.1 hj))]
        simp only[Bool.true_and]
      have hx4:zaS wr (some ⟨g9,o9+0,none⟩) 4 1 (bv ((bodies l k).take 4)):=by
        have:=hx9.subB 0 4 ae
        rwa [List.drop_zero]at this
      have hN:∀ q c w',zaS w' q 4 1 (bv ((bodies l k).take 4))→Calls Tryz.prog 198 [.slice q 4 c].toArray w' (Ret fun v w2=>v= .int .u64 (zgr l k)∧w'=w2):=fun q c w' hs=>zoF q 4 c _ w' hs ae
      clear hJI hJF
      generalize zgr l k=K at*
      refine zah (zaa (zad (zaY rfl rfl) (zae (zaf (zah (zcF rfl (ae) (zbh (zbC (zbH (zbl (zaf (zah (zaa (zad (zab) (zad (zcq (e:=5) (0) (4) (4) (4) aa rfl rfl ⟨_,_,rfl,rfl⟩ ⟨_,_,rfl,rfl⟩ ay ae ae ae ae ae) (zao rfl (zaj aa rfl) (hN _ _ wr hx4) ?_))))))))))))))))
      rintro _ _ ⟨rfl,rfl⟩
      refine zad (zbM (k:=.i64) aa aa rfl (w64 ae)) (zad (zac) (zae (zaf (zah (zah (za3 [] aa ?_))))))
      intro w911 hb911 hS911
      replace hr2:=hr2.new hb911
      replace hr7:=hr7.new hb911
      replace hx9:=hx9.new hb911
      replace hBr:=hBr.acc hb911
      have hr7_d911:=hr7
      refine zas 0 (zab) (zas 1 (zbA rfl rfl) (zas 2 (zab) (zeB 109 rfl (fun hk1=>?_) (fun hk1=>?_))))
      ·
       refine zaL 3 aa rfl (zaL 5 aa rfl (zaL 6 aa rfl (zaL 4 aa rfl (zaL 7 aa rfl (zas 8 (zaC rfl) (zaI aa (zaf (W_t rfl (zah (zaa (zad (zab) (zao rfl (zbZ aa rfl rfl) (zdi w911) ?_))))))))))))
       rintro _ w117 ⟨rfl,hb117⟩
       replace hr2:=hr2.new hb117
       replace hBr:=hBr.acc hb117
       refine zad (zai rfl rfl) (zad (zai rfl rfl) (zad (zai rfl rfl) (zad (zai rfl rfl) (zaK rfl (zaQ 2 ([.int .u64 0, .int .i64 0]) hr2 (fun w912 hr2 ho912=>?_))))))
       replace hBr:=ho912.below hBr ae
       refine dm ?_
       · exact⟨hBr, .inl ⟨by rw[hJ2,decide_eq_false ae];rfl,rfl⟩⟩
      ·
       refine zas 3 (zab) (zdS 4 aa rfl (fun _=>zaj aa rfl) (fun w' hS'=>zoE K ae w') (zas 5 (zaw 3) (zbo 6 (fun w' hS'=>zaG rfl (Ld.zeC (hr7_d911.kq hS') aa e3)) (zas 7 (zaX rfl rfl) (zas 8 (zaE rfl) (zaI aa (zaf (za0 rfl (fun hk2=>?_) (fun hk2=>?_)))))))))
       ·
        refine zah (zaa (zad (zab) (zao rfl (zbZ aa rfl rfl) (zdi w911) ?_)))
        rintro _ w117 ⟨rfl,hb117⟩
        replace hr2:=hr2.new hb117
        replace hBr:=hBr.acc hb117
        refine zad (zai rfl rfl) (zad (zai rfl rfl) (zad (zai rfl rfl) (zad (zai rfl rfl) (zaK rfl (zaQ 2 ([.int .u64 0, .int .i64 0]) hr2 (fun w913 hr2 ho913=>?_))))))
        replace hBr:=ho913.below hBr ae
        refine dm ?_
        · exact⟨hBr, .inl ⟨by rw[hJ2,decide_eq_false (by omega:¬zc4 K=k),Bool.and_false];rfl,rfl⟩⟩
       ·
        have hmk:zc4 K=k:=by omega
        have hmle:=zqi K
        rw[hmk]at hmle
        refine zat (zaf (zah (zah (zaa (zad (zab) (zad (zab) (zad (zaO rfl rfl (w64 ae)) (zad (zc8 (e:=5) (sz:=1) (4+K) (_) (_) aa rfl ⟨_,_,rfl,ae⟩ rfl rfl ay ae ae ae) (zad (zaB (e:=5) (sz:=1) aa rfl rfl) (zad (zab) (zae (zaf (zav ?_)))))))))))))
        have hZl:Z.length=48*k - (4+K):=by rw[hZ,List.length_drop,hbl]
        obtain⟨oA,hA,hz9⟩:∃ oA,(if c9=4+K then some (⟨g9,o9,none⟩:Addr)else Option.map (fun x:Addr=>x.add ((4+K)*1)) (some (⟨g9,o9,none⟩:Addr)))=some ⟨g9,oA,none⟩∧zaS w911 (some ⟨g9,oA,none⟩) (48*k - (4+K)) 1 (bv Z):=by
          by_cases hq:c9=4+K
          · refine⟨o9,if_pos hq,by rw[zal,hZl,Nat.mul_one],by unfold maxLen;omega,fun q=>ae⟩
          · refine⟨o9+(4+K)*1,by rw[if_neg hq,Option.map_some,Addr.add_lit],?_⟩
            have:=hx9.subB (4+K) (48*k - (4+K)) ae
            rw[←hZ,List.take_of_length_le ae]at this
            rw[Nat.mul_one];exact this
        refine zbq (α:=Nat) 0 (fun i=>[(127, .int .i64 (i:Nat)),(126, .int .i64 ((48*k - (4+K):Nat):Int)),(125, .slice (some ⟨g9,oA,none⟩) (48*k - (4+K)) (c9 - (4+K))),(9, .slice (some ⟨g9,o9,none⟩) (48*k) c9),(13, .int .i64 K),(6, .func (.func 195) #[] #[]),(7, .pointer (some ⟨g7,0,none⟩)),(2, .pointer (some ⟨g2,0,none⟩))])
          (fun i w'=>i≤48*k - (4+K)∧(∀ j,j<i→Z[j]?=some 0)∧w'=w911) (fun i=>48*k - (4+K) - i)
          ⟨rfl,rfl,by rw[←hA];rfl,rfl,rfl,rfl,rfl,rfl,rfl⟩ ⟨Nat.zero_le _,bq,rfl⟩ ?_
        rintro i f2 wz ⟨hi,hzero,rfl⟩
        refine zah (zaa (zad (zaY rfl rfl) (zae (zaf (zah (za0 rfl (fun hlt2=>?_) (fun hlt2=>?_)))))))
        ·
         refine zat (zaf (zah (zav (zah (zaa ?_)))))
         have hobt:∃ z,Z[i]?=some z:=⟨_,List.getElem?_eq_getElem ae⟩
         obtain⟨z,hz⟩:=hobt
         refine zad (zaN (e:=5) aa rfl rfl (i) ae ae) (zad (zaG rfl (Ld.sl1 hz9 aa (v:=zcK z) (by rw[zjL,hz];rfl))) (zad (zac) (zae (zaf (zah (zaa (zad (zab) (zad (zaX rfl rfl) (zae (zaf (za0 rfl (fun hnz=>?_) (fun hnz=>?_))))))))))))
         ·
          refine zah (zaa (zad (zab) (zao rfl (zbZ aa rfl rfl) (zdi wz) ?_)))
          rintro _ w134 ⟨rfl,hb134⟩
          replace hr2:=hr2.new hb134
          replace hBr:=hBr.acc hb134
          refine zad (zai rfl rfl) (zad (zai rfl rfl) (zad (zai rfl rfl) (zad (zai rfl rfl) (zaK rfl (zaQ 2 ([.int .u64 0, .int .i64 0]) hr2 (fun w914 hr2 ho914=>?_))))))
          replace hBr:=ho914.below hBr ae
          refine zad (zac) (zad (zac) (zad (zac) (zae (zaf (zaF (zbc (zaW (zeb (zbc (zaW (zan [_,_,_,_] ⟨⟨_,rfl,Ld.zb9 (k:=2) hr2 aa aa ak⟩,rfl,rfl,rfl,trivial⟩ ?_)))))))))))
          · refine⟨hBr, .inl ⟨?_,rfl⟩⟩
            have:Z.all (· == 0)=false:=List.all_eq_false.2 ⟨z,List.mem_of_getElem? hz,by
              intro q
              have q':z=0:=by simpa using q
              exact hnz (by rw[q'];rfl)⟩
            rw[hJ2,this,Bool.and_false]
         ·
          refine zat (zaP (zaf (zaa (zad (zaO rfl rfl (Coup.w64 ae)) (zad (zab) (zae ?_))))))
          have hz0:z=0:=by
            exact UInt8.toNat_inj.1 (by show z.toNat=0;omega)
          refine za2 ⟨i+1,ae,⟨rfl,rfl,rfl,rfl,rfl,rfl,rfl,rfl,rfl⟩,ae,?_,rfl⟩
          intro j hj
          rcases Nat.lt_or_ge j i with hj'|hj'
          · exact hzero j hj'
          · obtain rfl:j=i:=by omega
            rw[hz,hz0]
        ·
         have hJt:J=true:=by
           have:Z.all (· == 0)=true:=List.all_eq_true.2 fun x hx=>by
             have hobt:=List.mem_iff_getElem?.1 hx
             obtain⟨j,hj⟩:=hobt
             have:=hzero j (by have:=(List.getElem?_eq_some_iff.1 hj).1;omega)
             rw[hj]at this
             simpa using this
           rw[hJ2,this,decide_eq_true hmk,decide_eq_true ae];rfl
         have hJl:JB.length=K:=by rw[hJB,List.length_take,List.length_drop,hbl];omega
         obtain⟨oC,hC,hzc⟩:∃ oC,(if 4+K=4 then some (⟨g9,o9,none⟩:Addr)else Option.map (fun x:Addr=>x.add (4*1)) (some (⟨g9,o9,none⟩:Addr)))=some ⟨g9,oC,none⟩∧∀ w',zaS w' (some ⟨g9,o9,none⟩) (48*k) 1 (bv (bodies l k))→zaS w' (some ⟨g9,oC,none⟩) K 1 (bv JB):=by
           by_cases hq:4+K=4
           · refine⟨o9,if_pos hq,fun w' _=>⟨by rw[zal,hJl,Nat.mul_one],by unfold maxLen;omega,fun q=>ae⟩⟩
           · refine⟨o9+4*1,by rw[if_neg hq,Option.map_some,Addr.add_lit],fun w' hw=>?_⟩
             have:=hw.subB 4 K ae
             rwa [←hJB]at this
         refine zbh (zbC (zbH (zbl (zaf (zah (za3 [g2] aa ?_))))))
         intro w915 hb915 hS915
         replace hr2:=hr2.new hb915
         replace hr7:=hr7.new hb915
         replace hx9:=hx9.new hb915
         replace hBr:=hBr.acc hb915
         have hr7_d915:=hr7
         refine zas 0 (zaw 0) (zbo 1 (fun w' hS'=>zaG rfl (Ld.rng ((hr7_d915.kq hS').range 0 [.int .u64 c, .int .i64 nn] (zhA e0 e1)) aa aa)) (zas 2 (zab) (zas 3 (zab) (zas 4 (zaO rfl rfl (w64 ae)) (zas 5 (zab) (zas 6 (zaO rfl rfl (w64 ae)) (zas 7 (zc8 (e:=5) (sz:=1) (4) (4+K) (4+K) aa rfl ⟨_,_,rfl,rfl⟩ ⟨_,_,rfl,ae⟩ ⟨_,_,rfl,ae⟩ ay ae ae ae) (zas 8 (zaw 3) (zbo 9 (fun w' hS'=>zaG rfl (Ld.zeC (hr7_d915.kq hS') aa e3)) (zas 10 (zaO rfl rfl (w64 ae)) (zas 11 (zhi rfl rfl ae ae) (zaA 12 aa (zbB rfl rfl (zaQ 2 ([.int .u64 c, .int .i64 nn]) hr2 (fun w917 hr2 ho917=>?_)))))))))))))))
         have hS916:=hS915.aq ho917
         refine⟨hS916,?_⟩
         replace hx9:=hx9.only ho917 ae
         replace hBr:=ho917.below hBr ae
         refine zas 13 (zac) (zas 14 (zac) (zas 15 (zac) (zaI aa (zaf (zaF (zan [_,_,_,_] ⟨⟨_,rfl,Ld.zb9 (k:=2) hr2 aa aa ak⟩,rfl,rfl,rfl,trivial⟩ (⟨hBr, .inr ⟨hJt,some ⟨g9,oC,none⟩,?_,by rw[hJl];exact hzc _ hx9⟩⟩)))))))
         have e:Value.tuple #[.agg #[.int .u64 c, .int .i64 nn], .slice (if 4+K=4 then some (⟨g9,o9,none⟩:Addr)else Option.map (fun x:Addr=>x.add (4*1)) (some (⟨g9,o9,none⟩:Addr))) (4+K - 4) (4+K - 4), .int .i64 (((k:Int)+1) / 2), .int .i64 0]=
             .tuple #[.agg #[.int .u64 c, .int .i64 nn], .slice (some ⟨g9,oC,none⟩) JB.length JB.length, .int .i64 (zci JB.length:Nat), .int .i64 0]:=by
           rw[hC,hJl,zci,hmk,Nat.add_sub_cancel_left];rfl
         exact e
def refOk(l:List UInt8)(m:Nat):Bool:=(List.range m).all fun i=>decide ((zls (tagC (zaH l 0)) (tagN (zaH l 0)) (zbJ l))[i]?=some (zaH l i))
def refK(l:List UInt8):Nat:=zdl (((zaH l 0).drop 16).take 4)
def refIs(l:List UInt8)(n:Nat):Bool:=
 decide (0<n) && zg0 (tagC (zaH l 0)) (tagN (zaH l 0)) && decide (1≤zc2 (zaH l 0)∧zc2 (zaH l 0)≤2*n) && decide (refK l≤32768∧zc4 (refK l)=zc2 (zaH l 0)) && refOk l (zc2 (zaH l 0))
def noneR:Value:=.tuple #[.agg #[.int .u64 0, .int .i64 0], .slice none 0 0, .int .i64 0, .bool false]
def RR(l:List UInt8)(n:Nat)(w:World)(v:Value)(w':World):Prop:=
 Below w.heap.size w w'∧((refIs l n=false∧v=noneR)∨(refIs l n=true∧∃ sp c,v= .tuple #[.agg #[.int .u64 (tagC (zaH l 0)), .int .i64 (tagN (zaH l 0))], .slice sp (zbJ l).length c, .int .i64 (zci (zbJ l).length:Nat), .bool true]∧
  zaS w' sp (zbJ l).length 1 (bv (zbJ l))∧(zbJ l).length≤c))
structure Told(l:List UInt8)(n c nn:Nat)(b:List UInt8):Prop where
 is:zcc l n=true
 c:zbx (zaH l 0)=c
 n:zev (zaH l 0)=nn
 b:zbJ l=b
end Go.Proofs.YtdbogkndglbffaaGreat
namespace Coup
open Go Go.RowKit Go.ChangeShapes Go.WideShapes Go.Deep
section
variable {H:Type}{enc:TypeId × Value→H}{P:Program}{W:World}{base:Nat}{spare:Nat→Bool}{held:Bool}
def Opn(enc:TypeId × Value→H)(P:Program)(W:World)(base:Nat)(spare:Nat→Bool)(held:Bool)(e:TypeId){α:Type}(Q:α→List Value→Prop):Prop:=
 ∀ fuel cs x,DataW.trod enc P W base spare held fuel e cs=some x→∃ r,Q r cs
theorem zjk{e:TypeId}{k:IntKind}(he:P.underlying e=some (.int k)):Opn enc P W base spare held e (fun(i:Int) cs=>cs=[.int k i]∧(Lit.int k i).wf=true):=fun fuel cs x h=>by
 obtain⟨n,rfl,_,hw⟩:=DataW.trod_int he h
 exact⟨n,rfl,hw⟩
def zeJ{α:Type}(Q:α→List Value→Prop)(W:World)(n:Nat)(p:Option Addr)(len:Nat)(R:List α):Prop:=
 R.length=len∧∃ cs,zaS W p len n cs∧∀ (i:Nat) (r:α),R[i]?=some r→Q r ((cs.drop (i*n)).take n)
theorem zoG{t e:TypeId}{n:Nat}{α:Type}{Q:α→List Value→Prop}(ht:P.underlying t=some (.slice e))(hC:P.cellsOf e=n)(hq:Opn enc P W base spare held e Q):
  Opn enc P W base spare held t (fun(R:List α) cs=>∃ p cp,cs=[.slice p R.length cp]∧R.length≤cp∧zeJ Q W n p R.length R):=fun fuel cs x h=>by
 have hform:∃ q m cp,cs=[.slice q m cp]:=by
  rcases open_slice ht h with⟨hcs,_⟩|⟨a',len',cap',m2,n',D,Pl,hcs,_⟩
  ·exact⟨_,_,_,hcs⟩
  ·exact⟨_,_,_,hcs⟩
 obtain⟨q,m,cp,rfl⟩:=hform
 obtain⟨⟨R,cs,h1,h2,h3⟩,h4⟩:=ziq (enc:=enc) (d:=x.1) (p:=x.2) (n:=n) Q ht hC hq ⟨fuel,h⟩
 exact⟨R,q,cp,by rw[h1],by rw[h1];exact h4,by rw[h1];exact⟨h1,cs,h2,h3⟩⟩
theorem zqk{e:TypeId}{fs:Array Field}(hs:P.underlying e=some (.struct fs)){fuel:Nat}{cs:List Value}{x:DataW H × List MemPlace}(h:DataW.trod enc P W base spare held fuel e cs=some x):
  cs.length=P.cellsOf e∧∃ m,∀ (i:Nat) (f:Field),fs[i]?=some f→∃ y,DataW.trod enc P W base spare held m f.type ((cs.drop f.offset).take (P.cellsOf f.type))=some y:=by
 obtain⟨xs,m,rfl,_,hl,hx,hel⟩:=DataW.trod_struct hs h
 refine⟨hl,m,fun i f hi=>?_⟩
 have h0:=hel i f hi
 have hlt:i<xs.length:=by
  rw[hx]
  exact(Array.getElem?_eq_some_iff.1 hi).1
 rw[List.getElem?_eq_getElem hlt]at h0
 exact⟨_,h0⟩
theorem fld{fs:Array Field}{m:Nat}{cs:List Value}(hf:∀ (i:Nat) (f:Field),fs[i]?=some f→∃ y,DataW.trod enc P W base spare held m f.type ((cs.drop f.offset).take (P.cellsOf f.type))=some y)(i o k:Nat){f:Field}(hi:fs[i]?=some f)(ho:f.offset=o)(hc:P.cellsOf f.type=k):
  ∃ y,DataW.trod enc P W base spare held m f.type ((cs.drop o).take k)=some y:=by
 subst ho;subst hc;exact hf i f hi
theorem opn_arg {t e:TypeId} {n:Nat} {α:Type} {Q:α→List Value→Prop} {a:Option Addr} {len cap:Nat} {d:DataW H} {p:List MemPlace} (ht:P.underlying t=some (.slice e)) (hC:P.cellsOf e=n) (hq:Opn enc P W base spare held e Q)
  (h:DataW.Trod enc P W base spare held t (.slice a len cap) d p):(∃ R,zeJ Q W n a len R)∧len≤cap:=by
 obtain⟨⟨R,cs,h1,h2,h3⟩,h4⟩:=ziq (n:=n) Q ht hC hq h
 exact⟨⟨R,h1,cs,h2,h3⟩,h4⟩
end
namespace zeJ
variable {α:Type}{Q Q':α→List Value→Prop}{w w':World}{n:Nat}{p:Option Addr}{len:Nat}{R:List α}
theorem some(h:zeJ Q w n p len R)(h0:0<len*n):∃ g o,p=Option.some ⟨g,o,none⟩∧g<w.heap.size:=by
 obtain⟨_,cs,h2,_⟩:=h
 exact h2.some h0
theorem max(h:zeJ Q w n p len R):len≤maxLen:=h.2.choose_spec.1.max
theorem get{i:Nat}(h:zeJ Q w n p len R)(hi:i<len):∃ a,R[i]?=Option.some a:=⟨_,List.getElem?_eq_getElem (by have:=h.1;omega)⟩
theorem to(h:zeJ Q w n p len R)(hb:Below w.heap.size w w')(hq:∀ r cs,Q r cs→Q' r cs):zeJ Q' w' n p len R:=by
 obtain⟨h1,cs,h2,h3⟩:=h
 exact⟨h1,cs,h2.below hb (Nat.le_refl _),fun i r hi=>hq r _ (h3 i r hi)⟩
theorem kpd{M:List Nat}(h:zeJ Q w n p len R)(k:Kp M w w')(hM:∀ b o,p=Option.some ⟨b,o,none⟩→b∉M):zeJ Q w' n p len R:=by
 obtain⟨h1,cs,h2,h3⟩:=h
 exact⟨h1,cs,h2.kpd k hM,h3⟩
theorem el{g o i:Nat}{a:α}(h:zeJ Q w n (Option.some ⟨g,o,none⟩) len R)(hi:R[i]?=Option.some a):∃ cs,Q a cs∧cs.length=n∧∀ j v,cs[j]?=Option.some v→w.cell? ⟨g,o+i*n+j,none⟩=Option.some v:=by
 obtain⟨h1,cs,h2,h3⟩:=h
 have hn:=(List.getElem?_eq_some_iff.1 hi).1
 have hl:=h2.len
 have hle:i*n+n≤len*n:=by rw[←Nat.succ_mul];exact Nat.mul_le_mul_right _ ae
 refine⟨_,h3 i a hi,by rw[List.length_take,List.length_drop];omega,fun j v hv=>?_⟩
 rw[List.getElem?_take]at hv
 split at hv
 ·rw[List.getElem?_drop]at hv
  have:=h2.cell _ hv
  rw[Nat.add_assoc];exact this
 ·cases hv
theorem ldB{P:Program}{t g o i:Nat}{a:α}(h:zeJ Q w n (Option.some ⟨g,o,none⟩) len R)(ht:zhg P t=true)(hs:zco P t n=true)(hi:R[i]?=Option.some a):∃ cs,Q a cs∧cs.length=n∧∀ w',Below w.heap.size w w'→Ld P w' t ⟨g,o+i*n,none⟩ (.agg cs.toArray)∧∀ j v,cs[j]?=Option.some v→w'.cell? ⟨g,o+i*n+j,none⟩=Option.some v:=by
 obtain⟨cs,h1,h2,h3⟩:=h.el hi
 have hlt:0<n→g<w.heap.size:=fun h0=>by
  have hn:=(List.getElem?_eq_some_iff.1 hi).1
  obtain⟨g',o',e,hl⟩:=h.some (Nat.mul_pos (by have:=h.1;omega) h0)
  cases e;exact hl
 refine⟨cs,h1,h2,fun w' hb=>?_⟩
 have hc:∀ j v,cs[j]?=Option.some v→w'.cell? ⟨g,o+i*n+j,none⟩=Option.some v:=fun j v hv=>by
  have hj:=(List.getElem?_eq_some_iff.1 hv).1
  rw[←h3 j v hv]
  simp only[World.cell?,hb.block g (hlt ae)]
 exact⟨Ld.rng hc ht (by rw[h2];exact hs),hc⟩
end zeJ
theorem zmk(cs:List Value)(o k:Nat):cs.drop o=(cs.drop o).take k++cs.drop (o+k):=by
 rw[←List.drop_drop,List.take_append_drop]
theorem zoH{W:World}{p:Option Addr}{len:Nat}{R:List Int}(h:zeJ (fun(i:Int) cs=>cs=[.int .u8 i]∧(Lit.int .u8 i).wf=true) W 1 p len R):∃ l:List UInt8,l.length=len∧zaS W p len 1 (bv l):=by
 obtain⟨h1,cs,h2,h3⟩:=h
 have hl:=h2.len
 obtain⟨l,rfl⟩:=zfe cs fun i hi=>by
  obtain⟨h4,h5⟩:=h3 i _ (List.getElem?_eq_getElem (by omega:i<R.length))
  obtain⟨b,hb⟩:=byte_of_wf h5
  refine⟨b,?_⟩
  have:=congrArg (fun z=>z[0]?) h4
  rw[hb]at this
  show cs[i]?=some (Value.int .u8 (b.toNat:Int))
  simpa [List.getElem?_take,List.getElem?_drop]using this
 exact⟨l,by simpa [zal]using hl,h2⟩
end Coup
namespace Go.Proofs.YtdbogkndglbffaaGreat
open Go Go.RowKit Coup
structure Ch where
 num:Int
 page:List UInt8
def chV(c:Ch):List Value:=.int .i64 c.num::bv c.page
abbrev Rec:=List Ch
def zcu(R:Rec):Prop:=∀ c∈R,c.page.length=512
def zcj(R:Rec):List Value:=R.flatMap chV
theorem zeK{c:Ch}(h:c.page.length=512):(chV c).length=513:=by rw[chV,List.length_cons,zal,h]
theorem zcd{R:Rec}(h:zcu R):(zcj R).length=R.length*513:=by
 induction R with
 |nil=>rfl
 |cons c R ih=>
  rw[zcj,List.flatMap_cons,List.length_append,zeK (h c (List.mem_cons_self ..)),List.length_cons]
  have:=ih fun x hx=>h x (List.mem_cons_of_mem _ hx)
  rw[zcj]at this
  omega
theorem zoI{R:Rec}(h:zcu R){i:Nat}{c:Ch}(hc:R[i]?=some c):((zcj R).drop (i*513)).take 513=chV c:=by
 induction R generalizing i with
 |nil=>simp at hc
 |cons d R ih=>
  have hd:=zeK (h d (List.mem_cons_self ..))
  cases i with
  |zero=>
   obtain rfl:d=c:=by simpa using hc
   rw[Nat.zero_mul,List.drop_zero,zcj,List.flatMap_cons,List.take_left' hd]
  |succ i=>
   have hc':R[i]?=some c:=by simpa using hc
   rw[zcj,List.flatMap_cons,show(i+1)*513=(chV d).length+i*513 by omega,List.drop_append,List.drop_of_length_le ae,List.nil_append,show(chV d).length+i*513 - (chV d).length=i*513 by omega]
   exact ih (fun x hx=>h x (List.mem_cons_of_mem _ hx)) hc'
theorem zhC(R:Rec)(c:Ch):zcj (R++[c])=zcj R++chV c:=by rw[zcj,List.flatMap_append];simp[zcj]
theorem zfx(c:Ch):∀ v∈chV c,v.oneCell'=true:=fun v hv=>by
 rcases List.mem_cons.1 hv with rfl|hv
 ·rfl
 ·exact zbV _ v hv
theorem zql(R:Rec):∀ v∈zcj R,v.oneCell'=true:=fun v hv=>by
 obtain⟨c,_,h⟩:=List.mem_flatMap.1 hv
 exact zfx c v h
theorem zqm{w:World}{g o n:Nat}{R:Rec}(h:zaS w (some ⟨g,o,none⟩) n 513 (zcj R))(hR:zcu R){i:Nat}{c:Ch}(hc:R[i]?=some c):Ld Tryz.prog w 147 ⟨g,o+i*513,none⟩ (.agg (chV c).toArray):=by
 have hi:=(List.getElem?_eq_some_iff.1 hc).1
 have hl:=zcd hR
 have:=Ld.slN (P:=Tryz.prog) (t:=147) (j:=i*513) (k:=513) h aa aa ae
 rw[zoI hR hc]at this
 exact this
def zdV(n:Int):Int:=if 1≤n∧n≤60 then(zci (n.toNat*516):Nat)else 0
set_option maxRecDepth 20000 in
theorem need10(n:Int)(w:World):Calls Tryz.prog 119 [.int .i64 n].toArray w (Ret fun v w'=>v= .int .i64 (zdV n)∧w=w'):=by
 refine zax (fn:=Tryz.f119) (rs:=[.tmp 2]) (n:=12) Tryz.func119 rfl rfl Tryz.ntmps119 aa rfl (zah (zaa (zad (zac) (zae (zaf (zah (zah (zaa (zad (zab) (zad (zaY rfl rfl) (zad (zab) (zbI 5 rfl (fun h1=>?_) (fun h1=>?_)))))))))))))
 ·
  refine dD ?_
  exact⟨by rw[zdV,if_neg ae];rfl,rfl⟩
 ·
  refine zaq rfl (zad (zab) (zaq rfl (zad (zbA rfl rfl) (zad (zaE rfl) (zae (zaf (za0 rfl (fun h2=>?_) (fun h2=>?_))))))))
  ·
   refine bZ ?_
   exact⟨by rw[zdV,if_neg ae];rfl,rfl⟩
  ·
   refine zat (zaf (zah (zaa (zad (zab) (zad (zdv rfl rfl (Coup.w64 ae)) (zao rfl (zaj aa rfl) (need12r (n*516) w) ?_))))))
   rintro _ _ ⟨rfl,rfl⟩
   refine zad (zac) (zae (zaf (zaF (zan [_] ⟨rfl,trivial⟩ (⟨?_,rfl⟩)))))
   show Value.int .i64 _=_
   congr 1
   rw[zdV,if_pos ae,zm9,if_pos ae,show(n*516).toNat=n.toNat*516 by omega]
   rfl
set_option maxRecDepth 20000 in
theorem zjl(p:Option Addr)(n c:Nat)(l:List UInt8)(w:World)(h:zaS w p n 1 (bv l))(hn:n≤8):Calls Tryz.prog 172 [.slice p n c].toArray w (Ret fun v w'=>v= .int .u64 (zdl l)∧w=w'):=by
 have hl:l.length=n:=by simpa [zal]using h.len
 refine zax (fn:=Tryz.f172) (rs:=[.tmp 2]) (n:=18) Tryz.func172 rfl rfl Tryz.ntmps172 aa rfl (zah (zaa (zad (zac) (zae (zaf (zah (zah (zaa (zad (zab) (zad (zaB (e:=5) (sz:=1) aa rfl rfl) (zad (zab) (zae (zaf (zav ?_))))))))))))))
 refine zbq (α:=Nat) 0 (fun k=>[(2, .int .u64 (zdl (l.take k):Nat)),(7, .int .i64 (k:Nat)),(6, .int .i64 (n:Int)),(5, .slice p n c)]) (fun k w'=>k≤n∧w=w') (fun k=>n - k)
   ⟨rfl,rfl,rfl,rfl,rfl⟩ ⟨Nat.zero_le _,rfl⟩ ?_
 rintro k f wr ⟨hk,rfl⟩
 refine zah (zaa (zad (zaY rfl rfl) (zae (zaf (zah (za0 rfl (fun hlt=>?_) (fun hlt=>?_)))))))
 ·
  refine bL ?_
  have hobt:∃ x,l[k]?=some x:=⟨_,List.getElem?_eq_getElem ae⟩
  obtain⟨x,hx⟩:=hobt
  have hobt:=h.some ae
  obtain⟨g,o,rfl,hg⟩:=hobt
  have hsm:=zki l k ae
  have hb:=x.toNat_lt
  refine zaa (zad (zaN (e:=5) aa rfl rfl (k) ae ae) (zad (zaG rfl (Ld.sl1 h aa (show(bv l)[k]?=some (.int .u8 (x.toNat:Int)) by rw[zjL,hx];rfl))) (zad (zac) (zae (zaf (zaa (zad (zab) (zad (zl4 rfl rfl ae (show IntKind.u64.wrap (((zdl (l.take k):Nat):Int)*2 ^ (min (8:Int).toNat IntKind.u64.bits))=((256*zdl (l.take k):Nat):Int) by rw[show(2:Int) ^ (min (8:Int).toNat IntKind.u64.bits)=256 from rfl,wu64 ae];omega)) (zad (zab) (zad (zbM (k:=.u64) aa aa rfl (wu64 ae)) (zad (zpY rfl rfl ((orU 8 (zdl (l.take k):Nat) ae ae ae ae).trans (show _=((zdl (l.take (k+1)):Nat):Int) by rw[zjg l k x hx];omega))) (zad (zac) (zae (zaP (zaf (zaa (zad (zaO rfl rfl (Coup.w64 ae)) (zad (zab) (zae (za2 ⟨k+1,ae,⟨rfl,by go_num,rfl,rfl,rfl⟩,ae,rfl⟩))))))))))))))))))))
 ·
  refine zbh (zbC (zbH (zbl (zaf (zah (zaa (zad (zab) (zad (zac) (zae (zaf (zaF (zan [_] ⟨rfl,trivial⟩ (⟨?_,rfl⟩)))))))))))))
  rw[List.take_of_length_le ae]
  rfl
theorem zf3(x:Int):∃ b:UInt8,IntKind.u8.wrap x=(b.toNat:Int):=by
 have h:0≤IntKind.u8.wrap x∧IntKind.u8.wrap x<256:=by rw[IntKind.wrap_u8];omega
 refine⟨UInt8.ofNat (IntKind.u8.wrap x).toNat,?_⟩
 rw[UInt8.toNat_ofNat']
 omega
theorem zni(n:Int):∃ l4:List UInt8,l4.length=4∧(0≤n→l4=beB 4 n.toNat)∧[Value.int .u8 (IntKind.u8.wrap (n.fdiv (2 ^ (min (24:Int).toNat IntKind.i64.bits)))), .int .u8 (IntKind.u8.wrap (n.fdiv (2 ^ (min (16:Int).toNat IntKind.i64.bits)))), .int .u8 (IntKind.u8.wrap (n.fdiv (2 ^ (min (8:Int).toNat IntKind.i64.bits)))), .int .u8 (IntKind.u8.wrap n)]=bv l4:=by
 show ∃ l4:List UInt8,l4.length=4∧(0≤n→l4=beB 4 n.toNat)∧[Value.int .u8 (IntKind.u8.wrap (n.fdiv (2 ^ 24))), .int .u8 (IntKind.u8.wrap (n.fdiv (2 ^ 16))), .int .u8 (IntKind.u8.wrap (n.fdiv (2 ^ 8))), .int .u8 (IntKind.u8.wrap n)]=bv l4
 by_cases h:0≤n
 ·obtain⟨k,rfl⟩:∃ k:Nat,n=k:=⟨n.toNat,ae⟩
  exact⟨beB 4 k,zaV _ _,fun _=>by rw[Int.toNat_natCast],bytes4 k⟩
 ·obtain⟨a,ha⟩:=zf3 (n.fdiv (2 ^ 24))
  obtain⟨b,hb⟩:=zf3 (n.fdiv (2 ^ 16))
  obtain⟨c,hc⟩:=zf3 (n.fdiv (2 ^ 8))
  obtain⟨d,hd⟩:=zf3 n
  exact⟨[a,b,c,d],rfl,fun h'=>absurd h' h,by rw[ha,hb,hc,hd];rfl⟩
def zko(n:Int):Bool:=decide (0≤n∧n<2147483648)
def recB(R:Rec):List UInt8:=R.flatMap fun c=>beB 4 c.num.toNat++c.page
def mayR(R:Rec):Bool:=decide (1≤R.length∧R.length≤60) && R.all fun c=>zko c.num
theorem zkp{n:Nat}(h:1≤n∧n≤60):zdV n=(zci (516*n):Nat)∧0<zci (516*n):=by
 rw[zdV,if_pos ae,Int.toNat_natCast,Nat.mul_comm n 516]
 exact⟨rfl,by unfold zci zc4;omega⟩
theorem znj{n:Nat}(h:¬(1≤n∧n≤60)):zdV n=0:=by rw[zdV,if_neg ae]
def zk6(b:List UInt8)(i:Nat):Ch:=⟨(zdl ((b.drop (516*i)).take 4):Nat),(b.drop (516*i+4)).take 512⟩
def ofL(b:List UInt8)(n:Nat):Rec:=(List.range n).map (zk6 b)
def ofOk(b:List UInt8):Bool:=decide (b.length % 516=0) && decide (1≤b.length / 516∧b.length / 516≤60) && (ofL b (b.length / 516)).all fun c=>zko c.num
def ofR(b:List UInt8):Option Rec:=if ofOk b then some (ofL b (b.length / 516))else none
theorem zqn(b:List UInt8)(n:Nat):ofL b (n+1)=ofL b n++[zk6 b n]:=by simp[ofL,List.range_succ]
theorem zlv(b:List UInt8)(n:Nat):(ofL b n).length=n:=by simp[ofL]
theorem ofL_at(b:List UInt8){n i:Nat}(h:i<n):(ofL b n)[i]?=some (zk6 b i):=by rw[ofL,List.getElem?_map,List.getElem?_range h];rfl
theorem zkq{b:List UInt8}{i:Nat}(h:516*i+516≤b.length):(zk6 b i).page.length=512:=by
 show((b.drop (516*i+4)).take 512).length=512
 rw[List.length_take,List.length_drop];omega
theorem ziy {ρ : Env} {w : World} {d : Option Nat} {ty : TypeId} {pos : String} {af : Array Edge} {gd : Option (Nat × Bool)} {x y : Operand} {a : Int} {l : List UInt8} {L : List Value} (hl : l.length = 512) (hL : chV ⟨a, l⟩ = L) (hx : ev ρ x = .int .i64 a) (hy : ev ρ y = .agg (bv l).toArray) :
  (execOp (ev ρ) ⟨d, .build 147 #[(0, x), (1, y)], ty, pos, af, gd⟩).run Tryz.prog w = .ok (.value (.agg L.toArray)) w := by
 rw [← hL]
 have h := zl5 (P := Tryz.prog) (t := 147) (ρ := ρ) (w := w) (d := d) (ty := ty) (pos := pos) (af := af) (gd := gd) (k := 513) (parts := [(0, x), (1, y)]) [(0, .int .i64 a), (1, .agg (bv l).toArray)] [(0, 1), (1, 512)] (by kernel_rfl) (by kernel_rfl) (by simp [hx, hy])
  (by
   intro i hi
   rcases i with _ | _ | i
   ·simp [Value.cells]
   ·simp [Value.cells, zal, hl]
   ·exfalso; simp only [List.length_cons, List.length_nil] at hi; omega) (by simp [Value.cells, zal, hl])
 rw [h]
 simp [Value.cells, chV]
set_option maxRecDepth 20000 in
set_option maxHeartbeats 1000000 in
theorem of13(b:List UInt8)(p:Option Addr)(n cp:Nat)(w:World)(h:zaS w p n 1 (bv b))(hcp:n≤cp)(hn2:n≤1000000):
   Calls Tryz.prog 175 [.slice p n cp].toArray w (Ret fun v w'=>((∃ r g o c,ofR b=some r∧v= .tuple #[.slice (some ⟨g,o,none⟩) r.length c, .int .i64 0]∧w.heap.size≤g∧r.length≤c∧zaS w' (some ⟨g,o,none⟩) r.length 513 (zcj r))∨(ofR b=none∧v= .tuple #[.slice none 0 0, .int .i64 4]))∧Below w.heap.size w w'):=by
 have hB:=Below.refl w.heap.size w
 have hml:maxLen=9223372036854775807:=by decide
 have hl:b.length=n:=by simpa [zal]using h.len
 refine zax (fn:=Tryz.f175) (rs:=[.tmp 2, .tmp 3]) (n:=51) Tryz.func175 rfl rfl Tryz.ntmps175 aa rfl (zah (zaa (zad (zac) (zad (zac) (zae (zaf (zah (zah (zaa (zad (zab) (zad (zaB (e:=5) (sz:=1) aa rfl rfl) (zad (znV rfl rfl ae ae) (zad (zaX rfl rfl) (zad (zab) (zbI 11 rfl (fun h0=>?_) (fun h0=>?_))))))))))))))))
 ·
  refine zaM rfl rfl (zaM rfl rfl (zaM rfl rfl (zaM rfl rfl (zaM rfl rfl (zad (zaC rfl) (zae (zaf (zjU rfl (rfl) (zah (zaa (zad (zac) (zad (zac) (zae (zaf (zaF (zaW (zan [_,_] ⟨rfl,rfl,trivial⟩ ?_)))))))))))))))))
  exact⟨.inr ⟨by rw[ofR,ofOk,hl,decide_eq_false ae];rfl,rfl⟩,hB⟩
 ·
  refine zaq rfl (zad (zab) (zaq rfl (zad (zaB (e:=5) (sz:=1) aa rfl rfl) (zaq rfl (zad (zhi rfl rfl ae ae) (zaq rfl (zao rfl (zaj aa rfl) (need10 ((n:Int) / 516) w) ?_)))))))
  rintro _ _ ⟨rfl,rfl⟩
  refine zaq rfl (zad (za5 rfl rfl) (zad (zaE rfl) (zae (zaf (za0 rfl (fun h1=>?_) (fun h1=>?_))))))
  ·
   refine zah (zaa (zad (zac) (zad (zac) (zae (zaf (zaF (zaW (zan [_,_] ⟨rfl,rfl,trivial⟩ ?_))))))))
   have hno:¬(1≤n / 516∧n / 516≤60):=fun hc=>by have:=zkp hc;rw[show((n / 516:Nat):Int)=(n:Int) / 516 by omega]at this;omega
   exact⟨.inr ⟨by rw[ofR,ofOk,hl,decide_eq_false hno];simp,rfl⟩,hB⟩
  ·
   have hyes:1≤n / 516∧n / 516≤60:=by
     by_cases hc:1≤n / 516∧n / 516≤60
     · exact hc
     · have:=znj hc
       rw[show((n / 516:Nat):Int)=(n:Int) / 516 by omega]at this
       exact absurd this h1
   have hob:∃ m,n=516*m:=⟨n / 516,ae⟩
   obtain⟨m,hm⟩:=hob
   have hmm:n / 516=m:=by omega
   rw[hmm]at hyes
   refine zat (zaf (zah (zaa (zad (zac) (zae (zaf (zah (zah (zaa (zad (zac) (zae (zaf (zav ?_)))))))))))))
   refine zbq (α:=Nat × Value) (0, .slice none 0 0) (fun k=>[(5, .int .i64 ((516*k.1:Nat):Int)),(4,k.2),(0, .slice p n cp)])
     (fun k w'=>k.1≤m∧zaz w' w.heap.size 147 513 k.2 k.1 (zcj (ofL b k.1))∧(∀ j,j<k.1→zko (zk6 b j).num=true)∧Below w.heap.size w w') (fun k=>m - k.1)
     ⟨rfl,rfl,rfl,rfl⟩ ⟨Nat.zero_le _,zbp _ _ _ _,bq,hB⟩ ?_
   clear hB
   rintro⟨k,u⟩ f wr ⟨hk,hu,hall,hB⟩
   dsimp only at hk hu hall ⊢
   refine zah (zah (zaa (zad (zab) (zad (zab) (zad (zaB (e:=5) (sz:=1) aa rfl rfl) (zad (zaY rfl rfl) (zae (zaf (za0 rfl (fun hlt=>?_) (fun hlt=>?_))))))))))
   ·
    refine bL ?_
    have hs:=h.below hB (Nat.le_refl _)
    have hobt:=h.some ae
    obtain⟨gp,op,rfl,hgp⟩:=hobt
    have hs4:=hs.subB (516*k) 4 ae
    have hcp2:=zkq (b:=b) (i:=k) ae
    have hobt:∃ x,zdl ((b.drop (516*k)).take 4)=x:=⟨_,rfl⟩
    obtain⟨x,hx⟩:=hobt
    have hx4:x<4294967296:=by rw[←hx];exact zca _ 4 aK
    have hnu:=fun c=>zjl (some ⟨gp,op+516*k,none⟩) 4 c _ wr hs4 ae
    simp only[hx]at hnu
    refine zaa (zad (zab) (zad (zab) (zad (zab) (zad (zaO rfl rfl (Coup.w64 ae)) (zad (zab) (zad (zaO rfl rfl (Coup.w64 ae)) (zad (zcq (e:=5) (516*k) (516*k+4) (516*k+4) (4) aa rfl ⟨_,_,rfl,ae⟩ ⟨_,_,rfl,ae⟩ ⟨_,_,rfl,ae⟩ ay ae ae ae ae ae) (zao rfl (zaj aa rfl) (hnu _) ?_))))))))
    rintro _ _ ⟨rfl,rfl⟩
    refine zad (zac) (zae (zaf (zah (zah (zaa (zad (zab) (zad (zcH rfl rfl) (zae (zaf (za0 rfl (fun hbig=>?_) (fun hbig=>?_)))))))))))
    ·
     refine zah (zaa (zad (zac) (zad (zac) (zae (zaf (zaF (zaW (zbc (zaW (zeb (zbc (zaW (zan [_,_] ⟨rfl,rfl,trivial⟩ ?_)))))))))))))
     have hno:¬(zko (zk6 b k).num=true):=fun hc=>by
       have h1:=(of_decide_eq_true hc).2
       have h2:(zk6 b k).num=(x:Int):=by rw[←hx];rfl
       omega
     have hof:ofR b=none:=by
       have ha:(ofL b (b.length / 516)).all (fun c=>zko c.num)=false:=by
         rw[List.all_eq_false]
         exact⟨zk6 b k,List.mem_of_getElem? (ofL_at b (n:=b.length / 516) (i:=k) ae),hno⟩
       rw[ofR,ofOk,ha,Bool.and_false];rfl
     exact⟨.inr ⟨hof,rfl⟩,hB⟩
    ·
     have hnk:zko (zk6 b k).num=true:=by
       have h2:(zk6 b k).num=(x:Int):=by rw[←hx];rfl
       rw[zko,h2]
       exact decide_eq_true ae
     have hpg:((bv b).drop (516*k+4)).take 512=bv (zk6 b k).page:=by rw[←zc7,←zdg];rfl
     have hpl:(zk6 b k).page.length=512:=hcp2
     have hchc:chV ⟨(x:Int),(zk6 b k).page⟩=chV (zk6 b k):=by rw[←hx];rfl
     have hld:Ld Tryz.prog wr 62 ⟨gp,op+(516*k+4),none⟩ (.agg (bv (zk6 b k).page).toArray):=by
       have h9:=Ld.slN (P:=Tryz.prog) (t:=62) (j:=516*k+4) (k:=512) (h.below hB (Nat.le_refl _)) aa aa (by rw[zal];omega)
       rw[hpg]at h9
       exact h9
     have hofs:=zqn b k
     have hob:∃ C,zk6 b k=C:=⟨_,rfl⟩
     obtain⟨C,hC⟩:=hob
     rw[hC]at hofs hld hpl hchc hnk
     have hchl:=zeK hpl
     have hch1:=zfx C
     refine zat (zaf (zaa (zad (zab) (zad (zab) (zad (zbM (k:=.i64) aa aa rfl (show IntKind.i64.wrap (x:Int)=(x:Int) by rw[w64 ae])) (zad (zab) (zad (zab) (zad (zaO rfl rfl (Coup.w64 ae)) (zad (zab) (zad (zaO rfl rfl (Coup.w64 ae)) (zad (zab) (zad (zaO rfl rfl (Coup.w64 ae)) (zad (zcq (e:=5) (516*k+4) (516*k+516) (516*k+516) (512) aa rfl ⟨_,_,rfl,ae⟩ ⟨_,_,rfl,ae⟩ ⟨_,_,rfl,ae⟩ ay ae ae ae ae ae) (zad (zin (n:=512) (e:=5) (sz:=1) aa rfl ae) (zad (zaG rfl (hld)) (zad (ziy hpl hchc rfl rfl) (zaD rfl (zdd (e:=147) (.agg (chV C).toArray) (chV C) (([Value.int .i64 0])++(List.replicate 512 (Value.int .u8 0))) 513 aa aa rfl rfl aF ⟨aD,aD⟩ (fun g48 w48 hg48 hr48 hb48=>?_)))))))))))))))))))
     have ge_hB_g48:=Nat.le_trans hB.size hg48
     replace hu:=hu.new hb48
     replace hB:=hB.acc hb48
     have hs48:=hr48.slA (m:=1) (sz:=513) hchl ae
     have sz_hB_49:=hB.size
     refine zaD rfl (zbf (e:=147) (sz:=513) (bytes:=520) (z:=.agg (([Value.int .i64 0])++(List.replicate 512 (Value.int .u8 0))).toArray) aa rfl aa rfl aD rfl hu rfl hs48 hch1 aC ae (fun hm0=>ae) (fun v49 w49 hv49 hgr49 hfr49=>?_))
     replace hB:=hB.own hu hgr49 ae
     refine zad (zac) (zae (zaP (zaf (zaa (zad (zab) (zad (zaO rfl rfl (Coup.w64 ae)) (zad (zac) (zae ?_))))))))
     rw[←zhC,←hofs]at hv49
     refine za2 ⟨(k+1,v49),ae,⟨by go_num,rfl,rfl,rfl⟩,ae,hv49,fun j hj=>?_,hB⟩
     by_cases hjk:j<k
     · exact hall j hjk
     · obtain rfl:j=k:=by omega
       rw[hC];exact hnk
   ·
    have hkm:k=m:=by omega
    subst hkm
    have hof:ofR b=some (ofL b k):=by
      have ha:(ofL b k).all (fun c=>zko c.num)=true:=by
        rw[List.all_eq_true]
        intro c hc
        obtain⟨j,hj,rfl⟩:=List.mem_map.1 hc
        exact hall j (List.mem_range.1 hj)
      rw[ofR,ofOk,hl,hmm,ha,decide_eq_true (by omega:n % 516=0),decide_eq_true hyes];rfl
    have hlen:=zlv b k
    have hobt:=hu.form' ae
    obtain⟨g,o,c,rfl,hg1,hg2,hg3⟩:=hobt
    refine zbh (zbC (zbH (zbl (zaf (zah (zaa (zad (zab) (zad (zac) (zad (zac) (zae (zaf (zaF (zan [_,_] ⟨rfl,rfl,trivial⟩ ?_)))))))))))))
    exact⟨.inl ⟨_,g,o,c,hof,by rw[hlen];rfl,hg1,by rw[hlen];exact hg3,by rw[hlen];exact hu.sl⟩,hB⟩
end Go.Proofs.YtdbogkndglbffaaGreat
namespace Coup
open Go Go.RowKit
section
variable {P:Program}{ρ:Env}{w:World}{d:Option Nat}{ty:TypeId}{pos:String}{af:Array Edge}{gd:Option (Nat × Bool)}{K:Value→World→Prop}
theorem zqo {dT sT e:Nat} {x y:Operand} {dLen dCap:Nat} (cs:List UInt8) (hu:P.underlying dT=some (.slice e)) (hsz:zco P e 1=true) (g off:Nat) (hd:ev ρ x= .slice (some ⟨g,off,none⟩) dLen dCap) (hs:ev ρ y=strOf cs)
  {l:List Value} {t:Nat} (hr:row w g l t) (hle:cs.length≤dLen) (hfit:off+cs.length≤l.length)
  (h:∀ w',row w' g (splice l off (bv cs)) t→Only g w w'→K (goInt cs.length) w'):Mk P ρ w ⟨d, .call ⟨.builtin .copy,#[x,y],#[dT,sT]⟩,ty,pos,af,gd⟩ K:=by
 have hsize:ByteArray.size ⟨cs.toArray⟩=cs.length:=by simp[ByteArray.size]
 have hrun:=Go.Lib.run_copy_row_string (P:=P) w dT sT ty e g off dLen dCap ⟨cs.toArray⟩ l.toArray t hu (zeU hsz) hr (by rw[hsize];exact hle) (by rw[hsize];simpa using hfit)
 rw[hsize]at hrun
 have hc:(l.toArray.toList.take off++Go.Lib.byteCells (ByteArray.data ⟨cs.toArray⟩).toList++l.toArray.toList.drop (off+cs.length))=splice l off (bv cs):=by
  rw[splice,zal,List.append_assoc]
  simp[Go.Lib.byteCells,bv,zcK]
 rw[hc]at hrun
 refine⟨_,_,?_,h _ (by simpa [row]using setRow_heap w g _ _ t _ hr) (Only.setRow _)⟩
 simp only[strOf]at hs
 simp[execOp,resolve,invoke,builtin,hd,hs,hrun,Result.andThen]
end
end Coup
namespace Go.Proofs.YtdbogkndglbffaaGreat
open Go Go.RowKit Coup
def magic:List UInt8:=[67,80,76,71]
def zcN(c s:Nat):List UInt8:=magic++(beB 8 c++(beB 8 s++zbi 108))
theorem zkr(c s:Nat):(zcN c s).length=128:=by simp[zcN,magic,zaV,zbi]
def hdF(c s i j:Nat):UInt8:=if j<4 then magic.getD j 0 else if j<12 then(if j - 4<i then(beB 8 c).getD (j - 4) 0 else 0)else if j<20 then(if j - 12<i then(beB 8 s).getD (j - 12) 0 else 0)else 0
def hdL(c s i:Nat):List UInt8:=(List.range 128).map (hdF c s i)
theorem zlw(c s i j:Nat):(hdL c s i)[j]?=if j<128 then some (hdF c s i j)else none:=by
 rw[hdL,List.getElem?_map]
 by_cases h:j<128
 ·rw[List.getElem?_range h,if_pos h];rfl
 ·rw[List.getElem?_eq_none (by rw[List.length_range];omega),if_neg h];rfl
theorem zjm(c s i:Nat):(hdL c s i).length=128:=by simp[hdL]
theorem zoJ{x j:Nat}(h:j<8):(beB 8 x)[j]?=some ((beB 8 x).getD j 0):=by
 rw[List.getD_eq_getElem?_getD,List.getElem?_eq_getElem (by rw[zaV];exact h)];rfl
theorem zoK(c s:Nat):hdL c s 8=zcN c s:=by
 refine List.ext_getElem? fun j=>?_
 rw[zlw]
 unfold zcN hdF
 by_cases h1:j<4
 ·rw[if_pos ae,if_pos h1,List.getElem?_append_left (by simpa [magic]using h1)]
  match j,h1 with
  |0,_=>rfl
  |1,_=>rfl
  |2,_=>rfl
  |3,_=>rfl
 ·rw[List.getElem?_append_right (by simp[magic];omega),show magic.length=4 from rfl,if_neg h1]
  by_cases h2:j<12
  ·rw[if_pos ae,if_pos h2,if_pos ae,List.getElem?_append_left bF,zoJ ae]
  ·rw[if_neg h2,List.getElem?_append_right bF,zaV,show j - 4 - 8=j - 12 by omega]
   by_cases h3:j<20
   ·rw[if_pos ae,if_pos h3,if_pos ae,List.getElem?_append_left bF,zoJ ae]
   ·rw[if_neg h3,List.getElem?_append_right bF,zaV]
    by_cases h4:j<128
    ·rw[if_pos h4,zbi,List.getElem?_replicate,if_pos ae]
    ·rw[if_neg h4,zbi,List.getElem?_replicate,if_neg ae]
theorem zoL(c s:Nat):splice (List.replicate 128 (Value.int .u8 0)) 0 (bv magic)=bv (hdL c s 0):=by
 have e:splice (List.replicate 128 (Value.int .u8 0)) 0 (bv magic)=bv (magic++zbi 124):=by
  simp only[splice,List.take_zero,List.nil_append,Nat.zero_add,zal,zcG,zjh]
  rw[show magic.length=4 from rfl,List.drop_replicate];rfl
 rw[e]
 congr 1
theorem zqp(c s i:Nat)(h:i<8):((hdL c s i).set (4+i) ((beB 8 c).getD i 0)).set (12+i) ((beB 8 s).getD i 0)=hdL c s (i+1):=by
 refine List.ext_getElem? fun j=>?_
 rw[List.getElem?_set,List.length_set,zjm,List.getElem?_set,zjm,zlw,zlw]
 unfold hdF
 by_cases h1:12+i=j
 ·subst h1
  rw[if_pos rfl,if_pos ae,if_pos ae,if_neg ae,if_neg ae,if_pos ae,if_pos ae,Nat.add_sub_cancel_left]
 ·rw[if_neg h1]
  by_cases h2:4+i=j
  ·subst h2
   rw[if_pos rfl,if_pos ae,if_pos ae,if_neg ae,if_pos ae,if_pos ae,Nat.add_sub_cancel_left]
  ·rw[if_neg h2]
   by_cases h3:j<128
   ·rw[if_pos h3,if_pos h3]
    congr 1
    by_cases h4:j<4
    ·rw[if_pos h4,if_pos h4]
    ·rw[if_neg h4,if_neg h4]
     by_cases h5:j<12
     ·rw[if_pos h5,if_pos h5]
      by_cases h6:j - 4<i
      ·rw[if_pos h6,if_pos ae]
      ·rw[if_neg h6,if_neg ae]
     ·rw[if_neg h5,if_neg h5]
      by_cases h7:j<20
      ·rw[if_pos h7,if_pos h7]
       by_cases h6:j - 12<i
       ·rw[if_pos h6,if_pos ae]
       ·rw[if_neg h6,if_neg ae]
      ·rw[if_neg h7,if_neg h7]
   ·rw[if_neg h3,if_neg h3]
theorem zoM{x i:Nat}(h:i<8)(s:Int)(hs:s=((56 - 8*i:Nat):Int)):IntKind.u8.wrap ((x:Int) / 2 ^ (56 - 8*i))=(((beB 8 x).getD i 0).toNat:Int):=by
 have h1:=zqg x (8 - 1 - i)
 rw[List.getD_eq_getElem?_getD,beB_get 8 x i h]
 rw[show 56 - 8*i=8*(8 - 1 - i) by omega,IntKind.wrap_u8]
 injection h1
theorem set_bv(l:List UInt8)(i:Nat)(b:UInt8):(bv l).set i (.int .u8 (b.toNat:Int))=bv (l.set i b):=by simp[bv,List.map_set,zcK]
set_option maxRecDepth 20000 in
set_option maxHeartbeats 1000000 in
theorem zml(c s:Nat)(w:World)(hc:c<18446744073709551616)(hs:s<18446744073709551616):
   Calls Tryz.prog 171 [.agg #[.int .u64 c, .int .u64 s]].toArray w (Ret fun v w'=>v= .agg (bv (zcN c s)).toArray∧Below w.heap.size w w'):=by
 have hB:=Below.refl w.heap.size w
 refine zax (fn:=Tryz.f171) (rs:=[.cell 2 172]) (n:=31) Tryz.func171 rfl rfl Tryz.ntmps171 aa rfl (zah (zaa (zaD rfl (za4 ([.int .u64 c, .int .u64 s]) rfl (fun g1 w1 hg1 hr1 hb1=>?_)))))
 replace hB:=hB.acc hb1
 refine zaD rfl (zar (List.replicate 128 (Value.int .u8 0)) aa (fun g2 w2 hg2 hr2 hb2=>?_))
 have ge_hB_g2:=Nat.le_trans hB.size hg2
 have lt_g1_g2:g1<g2:=Nat.lt_of_lt_of_le hr1.lt hg2
 replace hr1:=hr1.new hb2
 replace hB:=hB.acc hb2
 refine zae (zaf (zah (zaa (zad (zbw (e:=5) (n:=128) (0) (128) (128) (128) aa rfl rfl rfl rfl ay ae ae ae ae ae) (zaD rfl (zqo (e:=5) magic aa aa g2 0 rfl rfl hr2 aD (by simp[magic]) (fun w5 hr2 ho5=>?_)))))))
 replace hr1:=hr1.only ho5 (Nat.ne_of_lt lt_g1_g2)
 replace hB:=ho5.below hB ge_hB_g2
 rw[zoL c s]at hr2
 refine zae (zaf (zah (zah (zaa (zad (zab) (zae (zaf (zav ?_))))))))
 refine zbq (α:=Nat) 0 (fun i=>[(6, .int .i64 (i:Nat)),(1, .pointer (some ⟨g1,0,none⟩)),(2, .pointer (some ⟨g2,0,none⟩))])
   (fun i w'=>i≤8∧row w' g1 [.int .u64 c, .int .u64 s] 193∧row w' g2 (bv (hdL c s i)) 172∧Below w.heap.size w w') (fun i=>8 - i)
   ⟨rfl,rfl,rfl,rfl⟩ ⟨Nat.zero_le _,hr1,hr2,hB⟩ ?_
 clear hr1 hr2 hB
 rintro i f wr ⟨hi,hr1,hr2,hB⟩
 have hne:g1≠g2:=by omega
 have hll:(bv (hdL c s i)).length=128:=by rw[zal];exact zjm _ _ _
 refine zah (zaa (zad (zaY rfl rfl) (zae (zaf (zah (za0 rfl (fun hlt=>?_) (fun hlt=>?_)))))))
 ·
  refine zat (zaf (zah (zav (zah (zaa (zad (zab) (zad (zac) (zae (zaf ?_)))))))))
  have hob:∃ L,hdL c s i=L:=⟨_,rfl⟩
  obtain⟨L,hL⟩:=hob
  have hbc:=zoM (x:=c) (i:=i) ae _ rfl
  have hbs:=zoM (x:=s) (i:=i) ae _ rfl
  have hst:=zqp c s i ae
  have hLl:L.length=128:=by rw[←hL];exact zjm _ _ _
  rw[hL]at hr2 hll hst
  refine za3 [g2] aa ?_
  intro w901 hb901 hS901
  replace hr1:=hr1.new hb901
  replace hr2:=hr2.new hb901
  replace hB:=hB.acc hb901
  have hr1_d901:=hr1
  refine zas 0 (zab) (zas 1 (zaO rfl rfl (Coup.w64 ae)) (zas 2 (zab) (zas 3 (zaO rfl rfl (Coup.w64 ae)) (zas 4 (zaw 0) (zbo 5 (fun w' hS'=>zau (hr1_d901.kq hS')) (zas 6 (zab) (zas 7 (zdv rfl rfl (Coup.w64 ae)) (zas 8 (zcX rfl rfl (Coup.w64 ae)) (zas 9 (zfb rfl rfl ae (shrN (56 - 8*i) ae ae)) (zas 10 (zbM (k:=.u8) aa aa rfl hbc) (zas 11 (zaw 1) (zbo 12 (fun w' hS'=>zau (hr1_d901.kq hS')) (zas 13 (zab) (zas 14 (zdv rfl rfl (Coup.w64 ae)) (zas 15 (zcX rfl rfl (Coup.w64 ae)) (zas 16 (zfb rfl rfl ae (shrN (56 - 8*i) ae ae)) (zas 17 (zbM (k:=.u8) aa aa rfl hbs) (zas 18 (zbD (e:=5) (m:=128) aa rfl rfl (4+i) ae ae) (zaA 19 aa (zbB rfl rfl (zbn hr2 (fun w903 hr2 ho903=>?_))))))))))))))))))))))
  have hS902:=hS901.aq ho903
  refine⟨hS902,?_⟩
  replace hr1:=hr1.only ho903 (Nat.ne_of_lt lt_g1_g2)
  replace hB:=ho903.below hB ge_hB_g2
  refine zas 20 (zbD (e:=5) (m:=128) aa rfl rfl (12+i) ae ae) (zaA 21 aa (zbB rfl rfl (zbn hr2 (fun w905 hr2 ho905=>?_))))
  have hS904:=hS902.aq ho905
  refine⟨hS904,?_⟩
  replace hr1:=hr1.only ho905 (Nat.ne_of_lt lt_g1_g2)
  replace hB:=ho905.below hB ge_hB_g2
  refine zaI aa (zaP (zaf (zaa (zad (zaO rfl rfl (Coup.w64 ae)) (zad (zab) (zae ?_))))))
  have hq:row w905 g2 (((bv L).set (0+(4+i)) (.int .u8 (((beB 8 c).getD i 0).toNat:Int))).set (0+(12+i)) (.int .u8 (((beB 8 s).getD i 0).toNat:Int))) 172:=hr2
  rw[Nat.zero_add,Nat.zero_add,set_bv,set_bv,hst]at hq
  refine za2 ⟨i+1,ae,⟨by go_num,rfl,rfl,rfl⟩,ae,hr1,hq,hB⟩
 ·
  have h8:i=8:=by omega
  subst h8
  rw[zoK]at hr2
  rw[zoK]at hll
  have hob:∃ L,zcN c s=L:=⟨_,rfl⟩
  obtain⟨L,hL⟩:=hob
  rw[hL]at hr2 hll
  rw[hL]
  refine zbh (zbC (zbH (zbl (zaf (zah (zaa (zad (za7 128 hr2) (zaK rfl (zaQ 128 (bv L) hr2 (fun w906 hr2 ho906=>?_))))))))))
  replace hB:=ho906.below hB ge_hB_g2
  refine zae (zaf (zaF (zan [_] ⟨⟨_,rfl,Ld.zb9 (k:=128) hr2 aa aa ak⟩,trivial⟩ ?_)))
  exact⟨rfl,hB⟩
def hdC(s:List UInt8):Nat:=zdl ((s.drop 4).take 8)
def hdS(s:List UInt8):Nat:=zdl ((s.drop 12).take 8)
def zmm(s:List UInt8):Bool:=decide (zf1 s zbW=zcN (hdC s) (hdS s)) && decide (1≤hdS s) && decide (hdS s≤hdC s) && decide (hdC s≤4611686018427387904)
theorem torn23w(a b:List UInt8)(ha:a.length=128)(hb:b.length=128)(w:World):Calls Tryz.prog 173 [.agg (bv a).toArray, .agg (bv b).toArray].toArray w (Ret fun v w'=>v= .agg (bv (zf1 a b)).toArray∧Below w.heap.size w w'):=zdw (torn23 a b ha hb w)
set_option maxRecDepth 20000 in
set_option maxHeartbeats 1000000 in
theorem zqq(s:List UInt8)(w:World)(hs:s.length=128):
   Calls Tryz.prog 140 [.agg (bv s).toArray].toArray w (Ret fun v w'=>v= .tuple #[.agg #[.int .u64 (hdC s), .int .u64 (hdS s)], .bool (zmm s)]∧Below w.heap.size w w'):=by
 have hB:=Below.refl w.heap.size w
 have hml:maxLen=9223372036854775807:=by decide
 have hsl:(bv s).length=128:=by rw[zal];exact hs
 have hc8:hdC s<18446744073709551616:=zca _ 8 aK
 have hs8:hdS s<18446744073709551616:=zca _ 8 aK
 obtain⟨Z,hzz,hzb,hzl⟩:=zop
 refine zax (fn:=Tryz.f140) (rs:=[.cell 2 193, .tmp 3]) (n:=36) Tryz.func140 rfl rfl Tryz.ntmps140 aa rfl (zah (zaa (zaD rfl (za4 ((bv s)) rfl (fun g1 w1 hg1 hr1 hb1=>?_)))))
 replace hB:=hB.acc hb1
 refine zaD rfl (zar ([Value.int .u64 0,Value.int .u64 0]) aa (fun g2 w2 hg2 hr2 hb2=>?_))
 have ge_hB_g2:=Nat.le_trans hB.size hg2
 replace hr1:=hr1.new hb2
 replace hB:=hB.acc hb2
 refine zad (zac) (zae (zaf (zah (za3 [] aa ?_))))
 intro w901 hb901 hS901
 replace hr1:=hr1.new hb901
 replace hr2:=hr2.new hb901
 replace hB:=hB.acc hb901
 have hr1_d901:=hr1
 refine zas 0 (zbw (e:=5) (n:=128) (4) (12) (128) (8) aa rfl ⟨_,_,rfl,rfl⟩ ⟨_,_,rfl,rfl⟩ rfl ay ae ae ae ae ae) (zdS 1 aa rfl (fun _=>zaj aa rfl) (fun w' hS'=>zjl _ 8 _ _ w' ((hr1_d901.kq hS').slB 4 8 ae ae) ae) (zas 2 (zbw (e:=5) (n:=128) (12) (20) (128) (8) aa rfl ⟨_,_,rfl,rfl⟩ ⟨_,_,rfl,rfl⟩ rfl ay ae ae ae ae ae) (zdS 3 aa rfl (fun _=>zaj aa rfl) (fun w' hS'=>zjl _ 8 _ _ w' ((hr1_d901.kq hS').slB 12 8 ae ae) ae) (zas 4 (zi4 (k0:=.u64) (k1:=.u64) aa aa rfl rfl) (zaA 5 aa (zby rfl rfl (zar ([Value.int .u64 0,Value.int .u64 0]) aa (fun g4 w4 hg4 hr4 hb4=>?_))))))))
 have hS902:=hS901.add0 hb4
 refine⟨hS902,?_⟩
 have ge_hB_g4:=Nat.le_trans hB.size hg4
 have lt_g1_g4:g1<g4:=Nat.lt_of_lt_of_le hr1.lt hg4
 have lt_g2_g4:g2<g4:=Nat.lt_of_lt_of_le hr2.lt hg4
 replace hr1:=hr1.new hb4
 replace hr2:=hr2.new hb4
 replace hB:=hB.acc hb4
 refine zaA 6 aa (zbB rfl rfl (zaQ 2 ([.int .u64 (hdC s), .int .u64 (hdS s)]) hr4 (fun w904 hr4 ho904=>?_)))
 have hS903:=hS902.aq ho904
 refine⟨hS903,?_⟩
 replace hr1:=hr1.only ho904 (Nat.ne_of_lt lt_g1_g4)
 replace hr2:=hr2.only ho904 (Nat.ne_of_lt lt_g2_g4)
 replace hB:=ho904.below hB ge_hB_g4
 refine zaI aa (zaf (zah (za3 [] aa ?_)))
 intro w905 hb905 hS905
 replace hr1:=hr1.new hb905
 replace hr2:=hr2.new hb905
 replace hr4:=hr4.new hb905
 replace hB:=hB.acc hb905
 have hr1_d905:=hr1
 have hr4_d905:=hr4
 refine zbo 0 (fun w' hS'=>za7 128 (hr1_d905.kq hS')) (zas 1 (zbN (bv Z) aU) (zbo 3 (fun w' hS'=>za7 2 (hr4_d905.kq hS')) (zaA 2 aa ?_)))
 have hZl:Z.length=128:=by rw[←zal];exact hzl
 have hT:=fun w'=>torn23w s Z hs hZl w'
 have hTl:=zgG s Z hs hZl
 have hSc:=fun w'=>zml (hdC s) (hdS s) w' hc8 hs8
 have hSl:=zkr (hdC s) (hdS s)
 have hob:∃ T,zf1 s Z=T:=⟨_,rfl⟩
 obtain⟨T,hTe⟩:=hob
 have hob:∃ H,zcN (hdC s) (hdS s)=H:=⟨_,rfl⟩
 obtain⟨H,hHe⟩:=hob
 rw[hTe]at hT hTl
 rw[hHe]at hSc hSl
 have hie:zmm s=(decide (T=H) && decide (1≤hdS s) && decide (hdS s≤hdC s) && decide (hdC s≤4611686018427387904)):=by rw[zmm,hzz,hTe,hHe]
 refine zaU rfl rfl (zaj aa rfl) (hT w905) ?_
 rintro _ w13 ⟨rfl,hb13⟩
 have hS906:=hS905.add0 hb13
 refine⟨hS906,?_⟩
 replace hr2:=hr2.new hb13
 replace hr4:=hr4.new hb13
 replace hB:=hB.acc hb13
 refine zaA 4 aa (zaU rfl rfl (zaj aa rfl) (hSc w13) ?_)
 rintro _ w15 ⟨rfl,hb15⟩
 have hS907:=hS906.add0 hb15
 refine⟨hS907,?_⟩
 replace hr2:=hr2.new hb15
 replace hr4:=hr4.new hb15
 replace hB:=hB.acc hb15
 refine zas 5 (zn0 (n:=128) aa rfl rfl hTl hSl) (zas 6 (zab) (zeB 17 rfl (fun hq1=>?_) (fun hq1=>?_)))
 ·
  refine zas 7 (zaw 1) (zbo 8 (fun w' hS'=>zau (hr4_d905.kq hS')) (zas 9 (zcH rfl rfl) (zas 10 (zaC rfl) (zas 11 (zab) (zeB 22 rfl (fun hq2=>?_) (fun hq2=>?_))))))
  ·
   refine zas 12 (zaw 1) (zbo 13 (fun w' hS'=>zau (hr4_d905.kq hS')) (zas 14 (zaw 0) (zbo 15 (fun w' hS'=>zau (hr4_d905.kq hS')) (zas 16 (zhj rfl rfl) (zas 17 (zaC rfl) (zas 18 (zab) (zeB 29 rfl (fun hq3=>?_) (fun hq3=>?_))))))))
   ·
    refine zas 19 (zaw 0) (zbo 20 (fun w' hS'=>zau (hr4_d905.kq hS')) (zas 21 (zhj rfl rfl) (zas 22 (zaC rfl) (zas 23 (zac) (zaI aa (zaf (zah (zaa (zad (za7 2 hr4) (zad (zab) (zaK rfl (zaQ 2 ([.int .u64 (hdC s), .int .u64 (hdS s)]) hr2 (fun w908 hr2 ho908=>?_)))))))))))))
    replace hB:=ho908.below hB ge_hB_g2
    refine zad (zac) (zae (zaf (zaF (zan [_,_] ⟨⟨_,rfl,Ld.zb9 (k:=2) hr2 aa aa ak⟩,rfl,trivial⟩ (⟨?_,hB⟩)))))
    rw[hie]
    rw[decide_eq_true hq1,decide_eq_true (show 1≤hdS s by omega),decide_eq_true (show hdS s≤hdC s by omega)]
    have e:decide ((hdC s:Int)≤4611686018427387904)=decide (hdC s≤4611686018427387904):=by
     by_cases hq4:hdC s≤4611686018427387904
     ·rw[decide_eq_true hq4,decide_eq_true ae]
     ·rw[decide_eq_false hq4,decide_eq_false ae]
    rw[←e]
    rfl
   ·
    have hz:zmm s=false:=by rw[hie,decide_eq_false (show¬hdS s≤hdC s by omega),Bool.and_false,Bool.false_and]
    refine zaL 19 aa rfl (zaL 20 aa rfl (zaL 21 aa rfl (zas 22 (zaE rfl) (zas 23 (zac) (zaI aa (zaf (zah (zaa (zad (za7 2 hr4) (zad (zab) (zaK rfl (zaQ 2 ([.int .u64 (hdC s), .int .u64 (hdS s)]) hr2 (fun w909 hr2 ho909=>?_)))))))))))))
    replace hB:=ho909.below hB ge_hB_g2
    refine zad (zac) (zae (zaf (zaF (zan [_,_] ⟨⟨_,rfl,Ld.zb9 (k:=2) hr2 aa aa ak⟩,rfl,trivial⟩ (⟨?_,hB⟩)))))
    rw[hz]
    rfl
  ·
   have hz:zmm s=false:=by rw[hie,decide_eq_false (show¬1≤hdS s by omega),Bool.and_false,Bool.false_and,Bool.false_and]
   refine zaL 12 aa rfl (zaL 13 aa rfl (zaL 14 aa rfl (zaL 15 aa rfl (zaL 16 aa rfl (zas 17 (zaE rfl) (zas 18 (zab) (zaL 19 aa rfl (zaL 20 aa rfl (zaL 21 aa rfl (zas 22 (zaE rfl) (zas 23 (zac) (zaI aa (zaf (zah (zaa (zad (za7 2 hr4) (zad (zab) (zaK rfl (zaQ 2 ([.int .u64 (hdC s), .int .u64 (hdS s)]) hr2 (fun w910 hr2 ho910=>?_))))))))))))))))))))
   replace hB:=ho910.below hB ge_hB_g2
   refine zad (zac) (zae (zaf (zaF (zan [_,_] ⟨⟨_,rfl,Ld.zb9 (k:=2) hr2 aa aa ak⟩,rfl,trivial⟩ (⟨?_,hB⟩)))))
   rw[hz]
   rfl
 ·
  have hz:zmm s=false:=by rw[hie,decide_eq_false hq1,Bool.false_and,Bool.false_and,Bool.false_and]
  refine zaL 7 aa rfl (zaL 8 aa rfl (zaL 9 aa rfl (zas 10 (zaE rfl) (zas 11 (zab) (zaL 12 aa rfl (zaL 13 aa rfl (zaL 14 aa rfl (zaL 15 aa rfl (zaL 16 aa rfl (zas 17 (zaE rfl) (zas 18 (zab) (zaL 19 aa rfl (zaL 20 aa rfl (zaL 21 aa rfl (zas 22 (zaE rfl) (zas 23 (zac) (zaI aa (zaf (zah (zaa (zad (za7 2 hr4) (zad (zab) (zaK rfl (zaQ 2 ([.int .u64 (hdC s), .int .u64 (hdS s)]) hr2 (fun w911 hr2 ho911=>?_)))))))))))))))))))))))))
  replace hB:=ho911.below hB ge_hB_g2
  refine zad (zac) (zae (zaf (zaF (zan [_,_] ⟨⟨_,rfl,Ld.zb9 (k:=2) hr2 aa aa ak⟩,rfl,trivial⟩ (⟨?_,hB⟩)))))
  rw[hz]
  rfl
def zqr(i:Int):Prop:=-9223372036854775808≤i∧i≤9223372036854775807
def zf4(all:Nat)(n:Int):Bool:=decide (4≤n∧n≤4000∧1+n≤all)
section
variable {Y:World→List Nat→Prop}{g lo:Nat}{L:List Nat}{D:Dk}{w:World}
set_option maxRecDepth 20000 in
theorem may49(h:Two (DZ g D) Y lo L w)(n:Int)(hn:zqr n):Calls Tryz.prog 137 [.pointer (some ⟨g,0,none⟩), .int .i64 n].toArray w (Ret fun v w'=>v= .int .i64 (if zf4 D.V.length n then 0 else 2)∧w=w'):=by
 have hS:=zjf h
 have hp:=(tOk h).2
 have hn8:=(tOk h).1.n
 have h1:=hn.1
 have h2:=hn.2
 refine zax (fn:=Tryz.f137) (rs:=[.tmp 4]) (n:=23) Tryz.func137 rfl rfl Tryz.ntmps137 aa rfl (zah (zaa (zad (zac) (zae (zaf (zah (zav (zah (zaa (zad (zab) (zao rfl (zaj aa rfl) (hS) ?_)))))))))))
 rintro _ _ ⟨rfl,rfl⟩
 refine zad (za5 rfl rfl) (zad (zac) (zae (zaf (zcF rfl (ae) (zah (zaa (zad (zab) (zad (zaY rfl rfl) (zad (zab) (zbI 12 rfl (fun h3=>?_) (fun h3=>?_)))))))))))
 ·
  refine zaM rfl rfl (zaM rfl rfl (zad (zaC rfl) (zad (zab) (zaM rfl rfl (zaM rfl rfl (zaM rfl rfl (zaM rfl rfl (zaM rfl rfl (zad (zaC rfl) (zad (zac) (zae (zaf (zjU rfl (rfl) (zah (zaa (zad (zac) (zae (zaf (zaF (zbc (zaW (zan [_] ⟨rfl,trivial⟩ ?_))))))))))))))))))))))
  have hz:zf4 D.V.length n=false:=decide_eq_false ae
  exact⟨by rw[hz];rfl,rfl⟩
 ·
  refine zaq rfl (zad (zab) (zaq rfl (zad (zbA rfl rfl) (zad (zaE rfl) (zad (zab) (zbI 16 rfl (fun h4=>?_) (fun h4=>?_)))))))
  ·
   refine zaM rfl rfl (zaM rfl rfl (zaM rfl rfl (zaM rfl rfl (zaM rfl rfl (zad (zaC rfl) (zad (zac) (zae (zaf (zjU rfl (rfl) (zah (zaa (zad (zac) (zae (zaf (zaF (zbc (zaW (zan [_] ⟨rfl,trivial⟩ ?_))))))))))))))))))
   have hz:zf4 D.V.length n=false:=decide_eq_false ae
   exact⟨by rw[hz];rfl,rfl⟩
  ·
   refine zaq rfl (zad (zab) (zaq rfl (zao rfl (zaj aa rfl) (hS) ?_)))
   rintro _ _ ⟨rfl,rfl⟩
   refine zaq rfl (zad (zab) (zaq rfl (zad (zaO rfl rfl (Coup.w64 ae)) (zaq rfl (zad (zaY rfl rfl) (zad (zaE rfl) (zad (zac) (zae (zaf (za0 rfl (fun h5=>?_) (fun h5=>?_)))))))))))
   ·
    refine bW ?_
    have hz:zf4 D.V.length n=false:=decide_eq_false ae
    exact⟨by rw[hz];rfl,rfl⟩
   ·
    refine bX ?_
    have hz:zf4 D.V.length n=true:=decide_eq_true ae
    exact⟨by rw[hz];rfl,rfl⟩
end
section
variable {Y:World→List Nat→Prop}[Thing Y]{g lo:Nat}{L:List Nat}{D:Dk}{w:World}
def zcI(D:Dk)(c s:Nat):Dk:=if zbg D then zbu (zbO D 0 (zcN c s))else zbO D 0 (zcN c s)
set_option maxRecDepth 20000 in
theorem save54(h:Two (DZ g D) Y lo L w)(c s:Nat)(hc:c<18446744073709551616)(hs:s<18446744073709551616)(hsh:zbR D 90000):
   Calls Tryz.prog 139 [.pointer (some ⟨g,0,none⟩), .agg #[.int .u64 c, .int .u64 s]].toArray w (Ret fun v w'=>v= .int .i64 (if zbg D && zbg (zbO D 0 (zcN c s))then 0 else 10)∧Two (DZ g (zcI D c s)) Y lo L w'∧LoL lo L w w'):=by
 have hD:=h
 have hLL:=LoL.refl lo L w
 have hin:inD D 0=true:=decide_eq_true ⟨ae,by have:=(tOk h).2;omega⟩
 have hS:=fun w'=>zml c s w' hc hs
 have hHl:=zkr c s
 have hob:∃ H,zcN c s=H:=⟨_,rfl⟩
 obtain⟨H,hH⟩:=hob
 rw[zcI,hH]
 rw[hH]at hS hHl
 refine zax (fn:=Tryz.f139) (rs:=[.tmp 4]) (n:=15) Tryz.func139 rfl rfl Tryz.ntmps139 aa rfl (zah (zaa (zaD rfl (za4 ([.int .u64 c, .int .u64 s]) rfl (fun g3 w3 hg3 hr3 hb3=>?_)))))
 replace hD:=hD.newc hb3 hg3 hr3.lt
 replace hLL:=hLL.new hb3
 refine zad (zac) (zae (zaf (zah (zah (zaa (zad (zab) (zad (za7 2 hr3) (zao rfl (zaj aa rfl) (hS w3) ?_))))))))
 rintro _ w8 ⟨rfl,hb8⟩
 replace hD:=hD.new hb8
 replace hLL:=hLL.new hb8
 have hw:=zox hD 0 H hHl hsh
 rw[zix,hin,if_pos rfl]at hw
 refine zao rfl (zaj aa rfl) (hw) ?_
 rintro _ w9 ⟨rfl,hD,hb9⟩
 replace hLL:=hLL.lq hb9
 refine zad (zac) (zae (zaf (zah (zaa (zad (zab) (zad (zaX rfl rfl) (zae (zaf (za0 rfl (fun hne=>?_) (fun hne=>?_))))))))))
 ·
  refine cO ?_
  have hf:zbg D=false:=by cases hx:zbg D with|false=>rfl|true=>simp[hx]at hne
  refine⟨by rw[hf];rfl,?_,hLL⟩
  rw[hf]
  exact hD.weak (fun b hb=>List.mem_cons_of_mem _ hb)
 ·
  have hf:zbg D=true:=by cases hx:zbg D with|true=>rfl|false=>simp[hx]at hne
  rw[hf,if_pos rfl,Bool.true_and]
  refine zat (zaf (zah (zaa (zad (zab) (zao rfl (zaj aa rfl) (zoy hD) ?_)))))
  rintro _ w14 ⟨rfl,hD,hb14⟩
  replace hLL:=hLL.lq hb14
  refine cB ?_
  exact⟨rfl,hD.weak (fun b hb=>List.mem_cons_of_mem _ hb),hLL⟩
def zeq(D:Dk)(m:Nat):Dk:=(List.range m).foldl (fun(D:Dk) (i:Nat)=>zbO D (i:Int) zbW) D
theorem zfy(D:Dk)(m:Nat):zeq D (m+1)=zbO (zeq D m) (m:Int) zbW:=by simp[zeq,List.range_succ]
theorem zej{D:Dk}{k:Nat}(h:zch D k):∀ m,zch (zeq D m) (m+k)∧(zeq D m).V.length=D.V.length
 |0=>⟨by rw[Nat.zero_add];exact h,rfl⟩
 |m+1=>by
  obtain⟨h1,h2⟩:=zej h m
  rw[zfy]
  obtain⟨e1,e2,_⟩:=h1.zbO (m:Int) zbW
  exact⟨e1.weak ae,e2.trans h2⟩
def fmtD(D:Dk)(n:Nat):Dk:=zbu (zbO (zbu (zeq D (1+n))) 0 (zcN 1 1))
set_option maxRecDepth 20000 in
set_option maxHeartbeats 1000000 in
theorem zqs(h:Two (DZ g D) Y lo L w)(n:Int)(hn:zqr n)(ha:zch D 80000):
   Calls Tryz.prog 88 [.pointer (some ⟨g,0,none⟩), .int .i64 n].toArray w (Ret fun v w'=>v= .int .i64 (if zf4 D.V.length n then 0 else 2)∧Two (DZ g (if zf4 D.V.length n then fmtD D n.toNat else D)) Y lo L w'∧LoL lo L w w'):=by
 have hD:=h
 have hLL:=LoL.refl lo L w
 have hM:=may49 h n hn
 obtain⟨Z,hzz,hzb,hzl⟩:=zop
 have hZl:Z.length=128:=by rw[←zal];exact hzl
 have hzs:=fun m=>zfy D m
 simp only[hzz]at hzs
 obtain⟨ft,hft⟩:∃ ft,zf4 D.V.length n=ft:=⟨_,rfl⟩
 rw[hft]at hM ⊢
 refine zax (fn:=Tryz.f88) (rs:=[.tmp 4]) (n:=36) Tryz.func88 rfl rfl Tryz.ntmps88 aa rfl (zah (zaa (zad (zac) (zae (zaf (zah (zah (zaa (zad (zab) (zad (zab) (zao rfl (zaj aa rfl) (hM) ?_)))))))))))
 rintro _ _ ⟨rfl,rfl⟩
 refine zad (zac) (zae (zaf (zah (zaa (zad (zab) (zad (zaX rfl rfl) (zae (zaf (za0 rfl (fun hne=>?_) (fun hne=>?_))))))))))
 ·
  refine cO ?_
  have hf:ft=false:=by cases ft with|false=>rfl|true=>simp at hne
  subst hf
  exact⟨rfl,hD,hLL⟩
 ·
  have hf:ft=true:=by cases ft with|true=>rfl|false=>simp at hne
  subst hf
  have hfit:=of_decide_eq_true hft
  have hobt:∃ m:Nat,n=m:=⟨n.toNat,ae⟩
  obtain⟨m,rfl⟩:=hobt
  rw[if_pos rfl,if_pos rfl,Int.toNat_natCast]
  refine zat (zaf (zah (zah (zaa (zad (zab) (zad (zaO rfl rfl (Coup.w64 ae)) (zad (zab) (zae (zaf (zav ?_))))))))))
  refine zbq (α:=Nat) 0 (fun i=>[(17, .int .i64 (i:Nat)),(16, .int .i64 (1+(m:Int))),(0, .pointer (some ⟨g,0,none⟩))])
    (fun i w'=>i≤1+m∧Two (DZ g (zeq D i)) Y lo L w'∧LoL lo L w w') (fun i=>1+m - i)
    ⟨rfl,rfl,rfl,rfl⟩ ⟨Nat.zero_le _,hD,hLL⟩ ?_
  clear hD hLL
  rintro i f wr ⟨hi,hD,hLL⟩
  have hal:=zej ha i
  have hst:=zcx hal.1.left hal.1.dead
  refine zah (zaa (zad (zaY rfl rfl) (zae (zaf (zah (za0 rfl (fun hlt=>?_) (fun hlt=>?_)))))))
  ·
   refine zat (zaf (zah (zav (zah (zaa (zad (zab) (zad (zac) (zae (zaf (zah (zaa (zad (zab) (zad (zab) (zad (zbN (bv Z) aU) ?_))))))))))))))
   have hw:=zox hD (i:Int) Z hZl (zcb hal.1.short ae)
   have hin:inD (zeq D i) (i:Int)=true:=decide_eq_true ae
   rw[zix,hin,hst.1,if_pos rfl,if_pos rfl,←hzs]at hw
   refine zao rfl (zaj aa rfl) (hw) ?_
   rintro _ w23 ⟨rfl,hD,hb23⟩
   replace hLL:=hLL.lq hb23
   refine zad (zac) (zae (zaf (zah (zaa (zad (zab) (zad (zaX rfl rfl) (zae (zaf (zcF rfl (ae) (zat (zaP (zaf (zaa (zad (zaO rfl rfl (Coup.w64 ae)) (zad (zab) (zae (za2 ⟨i+1,ae,⟨by go_num,rfl,rfl,rfl⟩,ae,hD,hLL⟩)))))))))))))))))
  ·
   have him:i=1+m:=by omega
   subst him
   have hfa:=zdB hal.1
   have hfl:=zde (D:=zeq D (1+m))
   have hw1:=hfa.2.zbO 0 (zcN 1 1)
   have hst2:=zcx hfa.2.left hfa.2.dead
   have hst3:=zcx hw1.1.left hw1.1.dead
   refine zbh (zbC (zbH (zbl (zaf (zah (zah (zaa (zad (zab) ?_))))))))
   have hf:=zoy hD
   rw[hst.1,if_pos rfl]at hf
   refine zao rfl (zaj aa rfl) (hf) ?_
   rintro _ w29 ⟨rfl,hD,hb29⟩
   replace hLL:=hLL.lq hb29
   refine zad (zac) (zae (zaf (zah (zaa (zad (zab) (zad (zaX rfl rfl) (zae (zaf (zcF rfl (ae) (zat (zaf (zah (zaa (zad (zab) (zad (zi4 (k0:=.u64) (k1:=.u64) aa aa rfl rfl) ?_)))))))))))))))
   have hsv:=save54 hD 1 1 ae ae (zcb hfa.2.short ae)
   rw[zcI,hst2.1,if_pos rfl,hst3.1]at hsv
   refine zao rfl (zaj aa rfl) (hsv) ?_
   rintro _ w35 ⟨rfl,hD,hb35⟩
   replace hLL:=hLL.lq hb35
   refine cB ?_
   exact⟨rfl,hD,hLL⟩
end
structure Lg where
 count:Nat
 since:Nat
 size:Nat
 num:Nat
 at_:Nat
 dead:Bool
def lgV(g:Nat)(G:Lg):List Value:=[.int .u64 (G.count:Int), .int .u64 (G.since:Int), .pointer (some ⟨g,0,none⟩), .int .i64 (G.size:Int), .int .i64 (G.num:Int), .int .i64 (G.at_:Int), .bool G.dead]
structure zew(g x:Nat)(Y:World→List Nat→Prop)(lo:Nat)(L:List Nat)(D:Dk)(G:Lg)(w:World):Prop where
 two:Two (DZ g D) Y lo (x::L) w
 rowx:row w x (lgV g G) 197
 ge:lo≤x
 ni:x∉L
namespace zew
variable {Y:World→List Nat→Prop}{g x lo gc:Nat}{L L2 M:List Nat}{D:Dk}{G:Lg}{w w':World}
theorem lt(h:zew g x Y lo L D G w):x<w.heap.size:=h.rowx.lt
theorem kpd [hY:Thing Y](h:zew g x Y lo L D G w)(k:Kp M w w')(hM:∀ b∈M,b<lo∨b∈L):zew g x Y lo L D G w':=
 ⟨h.two.kpd k fun b hb=>(hM b hb).imp id (List.mem_cons_of_mem _),h.rowx.kpd k fun hm=>(hM _ hm).elim (fun hl=>absurd h.ge (Nat.not_le.2 hl)) h.ni,h.ge,h.ni⟩
theorem new [hY:Thing Y](h:zew g x Y lo L D G w)(hb:Below w.heap.size w w'):zew g x Y lo L D G w':=h.kpd (M:=[]) (Kp.of_below hb) ay
theorem only[hY:Thing Y](h:zew g x Y lo L D G w)(ho:Only gc w w')(hg:gc<lo∨gc∈L):zew g x Y lo L D G w':=h.kpd (Kp.zaZ ho) fun b hb=>by rw[List.mem_singleton.1 hb];exact hg
theorem weak(h:zew g x Y lo L D G w)(h2:∀ b∈L2,b∈L):zew g x Y lo L2 D G w:=⟨h.two.weak fun b hb=>(List.mem_cons.1 hb).elim (fun e=>e▸List.mem_cons_self ..) fun hm=>List.mem_cons_of_mem _ (h2 b hm),h.rowx,h.ge,fun hm=>h.ni (h2 _ hm)⟩
theorem newc [hY : Thing Y] (h : zew g x Y lo L D G w) (hb : Below w.heap.size w w') (hg : w.heap.size ≤ gc) (hg' : gc < w'.heap.size) : zew g x Y lo (gc :: L) D G w' :=
  ⟨(h.two.newc hb hg hg').weak (L2 := x :: gc :: L) fun b hm => by
    rcases List.mem_cons.1 hm with rfl | hm
    · exact List.mem_cons_of_mem _ (List.mem_cons_self ..)
    · rcases List.mem_cons.1 hm with rfl | hm
      · exact List.mem_cons_self ..
      · exact List.mem_cons_of_mem _ (List.mem_cons_of_mem _ hm), h.rowx.new hb, h.ge, fun hm => by
    rcases List.mem_cons.1 hm with e | hm
    · have := h.lt; omega
    · exact h.ni hm⟩
theorem fst(h:zew g x Y lo L D G w):Two (DZ g D) Y lo L w:=h.two.weak fun _ hb=>List.mem_cons_of_mem _ hb
end zew
section
variable {Y:World→List Nat→Prop}[Thing Y]{g x lo:Nat}{L:List Nat}{D:Dk}{G:Lg}{w:World}
def nextG(G:Lg)(s:Nat)(ok:Bool):Lg:=if ok then {G with count:=G.count+1,since:=s}else {G with dead:=true}
def zd6(D:Dk)(c s:Nat):Bool:=zbg D && zbg (zbO D 0 (zcN c s))
set_option maxRecDepth 20000 in
theorem next48(h:zew g x Y lo L D G w)(s:Nat)(hc:G.count+1<18446744073709551616)(hs:s<18446744073709551616)(hsh:zbR D 90000):
   Calls Tryz.prog 142 [.pointer (some ⟨x,0,none⟩), .int .u64 (s:Int)].toArray w (Ret fun v w'=>v= .int .i64 (if zd6 D (G.count+1) s then 0 else 10)∧zew g x Y lo L (zcI D (G.count+1) s) (nextG G s (zd6 D (G.count+1) s)) w'∧LoL lo L w w'):=by
 obtain⟨hD,hx,hge,hni⟩:=h
 have hLL:=LoL.refl lo L w
 have hxl:=hx.lt
 have hsv0:=fun(L:List Nat) (w':World) (h:Two (DZ g D) Y lo L w')=>save54 h (G.count+1) s hc hs hsh
 obtain⟨ok,hok⟩:∃ ok,zd6 D (G.count+1) s=ok:=⟨_,rfl⟩
 obtain⟨D2,hD2⟩:∃ D2,zcI D (G.count+1) s=D2:=⟨_,rfl⟩
 rw[hok,hD2]
 unfold zd6 at hok
 rw[hok,hD2]at hsv0
 obtain⟨c,si,sz,nu,at_,de⟩:=G
 dsimp only[lgV,nextG]at*
 refine zax (fn:=Tryz.f142) (rs:=[.tmp 4]) (n:=31) Tryz.func142 rfl rfl Tryz.ntmps142 aa rfl (zah (zaa (zad (zac) (zae (zaf (zah (zaa (zad (zab) (zad (zak rfl) (zad (zaw 0) (zad (zaw 0) (zad (zau hx) (zad (zaO rfl rfl (wu64 ae)) (zad (zab) (zad (zi4 (k0:=.u64) (k1:=.u64) aa aa rfl rfl) (zaD rfl (zar ([Value.int .u64 0,Value.int .u64 0]) aa (fun g5 w5 hg5 hr5 hb5=>?_))))))))))))))))))
 have lt_x_g5:x<g5:=Nat.lt_of_lt_of_le hx.lt hg5
 replace hD:=hD.newc hb5 hg5 hr5.lt
 replace hx:=hx.new hb5
 replace hLL:=hLL.new hb5
 refine zaK rfl (zaQ 2 (_) hr5 (fun w901 hr5 ho901=>?_))
 replace hD:=hD.only ho901 ai
 replace hx:=hx.only ho901 (Nat.ne_of_lt lt_x_g5)
 replace hLL:=hLL.oq ho901
 refine zae (zaf (zah (zah (zct (lo) ((g5::x::L)) aa ?_))))
 intro w902 hb902 hn902 hS902
 replace hD:=hD.new hb902
 replace hx:=hx.new hb902
 replace hLL:=hLL.new hb902
 replace hr5:=hr5.new hb902
 have hx_d902:=hx
 have hr5_d902:=hr5
 refine zas 0 (zab) (zas 1 (zak rfl) (zas 2 (zaw 2) (zbo 3 (fun w' hS'=>zau (hx_d902.kL hS')) (zbo 4 (fun w' hS'=>za7 2 (hr5_d902.kL hS')) (zaA 5 aa (zaU rfl rfl (zaj aa rfl) (hsv0 _ w902 hD) ?_))))))
 rintro _ w20 ⟨rfl,hD,hb20⟩
 have hS903:=hS902.zdh hn902 hb20.wk
 refine⟨hS903,?_⟩
 replace hx:=hx.kl hb20
 replace hLL:=hLL.lq hb20
 replace hr5:=hr5.kl hb20
 refine zas 6 (zac) (zaI aa (zaf (zah (zaa (zad (zab) (zad (zaX rfl rfl) (zae (zaf (za0 rfl (fun hne=>?_) (fun hne=>?_))))))))))
 ·
  refine zah (zaa (zad (zab) (zad (zak rfl) (zad (zaw 6) (zaK rfl (zbn hx (fun w904 hx ho904=>?_)))))))
  replace hD:=hD.only ho904 ai
  replace hLL:=hLL.oq ho904
  refine zae (zaf (zah (zaa (zad (zab) (zad (zac) (zae (zaf (zaF (zaW (zan [_] ⟨rfl,trivial⟩ ?_))))))))))
  have hf:ok=false:=by cases ok with|false=>rfl|true=>simp at hne
  subst hf
  exact⟨rfl,⟨hD.weak (fun b hb=>List.mem_cons_of_mem _ hb),hx,hge,hni⟩,hLL⟩
 ·
  have hf:ok=true:=by cases ok with|true=>rfl|false=>simp at hne
  subst hf
  refine zat (zaf (zah (zaa (zad (zab) (zad (za7 2 hr5) (zad (zak rfl) (zad (zaw 0) (zaK rfl (zgW [.int .u64 ((c:Int)+1), .int .u64 (s:Int)] rfl rfl hx aa ay aL (fun w905 hx ho905=>?_))))))))))
  replace hD:=hD.only ho905 ai
  replace hLL:=hLL.oq ho905
  refine zae (zaf (zah (zaa (zad (zac) (zae (zaf (zaF (zan [_] ⟨rfl,trivial⟩ ?_))))))))
  exact⟨rfl,⟨hD.weak (fun b hb=>List.mem_cons_of_mem _ hb),hx,hge,hni⟩,hLL⟩
omit [Thing Y]
set_option maxRecDepth 20000 in
theorem ready45(h:zew g x Y lo L D G w):Calls Tryz.prog 155 [.pointer (some ⟨x,0,none⟩)].toArray w (Ret fun v w'=>v= .int .i64 (if G.dead then 10 else 0)∧w=w'):=by
 obtain⟨hD,hx,hge,hni⟩:=h
 obtain⟨c,si,sz,nu,at_,de⟩:=G
 dsimp only[lgV]at*
 refine zax (fn:=Tryz.f155) (rs:=[.tmp 2]) (n:=18) Tryz.func155 rfl rfl Tryz.ntmps155 aa rfl (zah (zaa (zad (zac) (zae (zaf (zah (zav (zah (zaa (zad (zab) (zad (zcY aa rfl rfl) (zad (zab) (WR_fb 6 rfl (rfl) (zaq rfl (zad (zab) (zaq rfl (zad (zak rfl) (zaq rfl (zad (zaw 2) (zaq rfl (zad (zau hx) (zaq rfl (zad (zcY aa rfl rfl) (zad (zaE rfl) (zad (zac) (zae (zaf (zjG rfl (rfl) (zah (zaa (zad (zab) (zad (zak rfl) (zad (zaw 6) (zad (zau hx) (zad (zac) (zae (zaf (zjT rfl (fun hde=>?_) (fun hde=>?_)))))))))))))))))))))))))))))))))))))))
 ·
  refine bW ?_
  subst hde
  exact⟨rfl,rfl⟩
 ·
  refine bX ?_
  have hf:de=false:=by cases de with|false=>rfl|true=>cases hde
  subst hf
  exact⟨rfl,rfl⟩
end
def za1(D:Dk)(at_:Nat):List Sec→Dk × Bool
 |[]=>(D,true)
 |s::l=>if zbg D then za1 (zbO D (at_:Int) s) (at_+1) l else(zbO D (at_:Int) s,false)
theorem zgI:∀ (l:List Sec) (D:Dk) (a:Nat) (s:Sec),(za1 D a l).2=true→za1 D a (l++[s])=(zbO (za1 D a l).1 ((a+l.length:Nat):Int) s,zbg (za1 D a l).1)
 |[],D,a,s,_=>by
  simp only[List.nil_append,za1,List.length_nil,Nat.add_zero]
  split
  ·rename_i h;rw[h]
  ·rename_i h;cases hx:zbg D with
   |true=>exact absurd hx h
   |false=>rfl
 |t::l,D,a,s,h=>by
  rw[List.cons_append,za1]
  rw[za1]at h ⊢
  by_cases hs:zbg D=true
  ·rw[if_pos hs]at h ⊢
   rw[if_pos hs,zgI l _ _ s h,List.length_cons,show a+1+l.length=a+(l.length+1) by omega]
  ·rw[if_neg hs]at h;cases h
theorem zhD:∀ (l m:List Sec) (D:Dk) (a:Nat),(za1 D a l).2=false→za1 D a (l++m)=za1 D a l
 |[],m,D,a,h=>by cases h
 |t::l,m,D,a,h=>by
  rw[List.cons_append,za1]
  rw[za1]at h ⊢
  by_cases hs:zbg D=true
  ·rw[if_pos hs]at h ⊢
   rw[if_pos hs,zhD l m _ _ h]
  ·rw[if_neg hs,if_neg hs]
theorem zgs(D:Dk)(i:Int)(s:Sec):(zbO D i s).V.length=D.V.length:=by
 unfold zbO zhu
 split
 ·split
  ·show((zcM D).V.set _ _).length=_
   rw[List.length_set,zdA]
  ·rw[zdA]
 ·rfl
theorem zks{D:Dk}{k:Nat}(h:zbR D k)(i:Int)(s:Sec):zbR (zbO D i s) (k+1):=by
 unfold zbO zhu
 split
 ·rename_i hin
  obtain⟨m,rfl,hm⟩:=zow hin
  have hsh:=h.ver hm
  split
  ·intro v hv
   rcases List.mem_or_eq_of_mem_set hv with e|e
   ·rw[zdA]at e;exact Nat.le_trans (h v e) ae
   ·rw[e,List.length_append,List.length_singleton,Int.toNat_natCast];omega
  ·intro v hv;rw[zdA]at hv;exact Nat.le_trans (h v hv) ae
 ·exact zcb h ae
theorem zb5:∀ (l:List Sec) (D:Dk) (a:Nat),(za1 D a l).1.V.length=D.V.length
 |[],D,a=>rfl
 |t::l,D,a=>by
  have h:(zbO D (a:Int) t).V.length=D.V.length:=zgs _ _ _
  rw[za1]
  split
  ·rw[zb5 l,h]
  ·exact h
theorem zek:∀ (l:List Sec) (D:Dk) (a k:Nat),zbR D k→zbR (za1 D a l).1 (k+l.length)
 |[],D,a,k,h=>h
 |t::l,D,a,k,h=>by
  have h1:zbR (zbO D (a:Int) t) (k+1):=zks h _ _
  rw[za1,List.length_cons]
  split
  ·exact zcb (zek l _ _ _ h1) ae
  ·exact zcb h1 ae
def zbj(b:List UInt8)(n:Nat):List Sec:=(List.range n).map fun i=>(b.drop (128*i)).take 128
theorem zcz(b:List UInt8)(n:Nat):(zbj b n).length=n:=by simp[zbj]
theorem zgt(b:List UInt8){n i:Nat}(h:i<n):(zbj b n)[i]?=some ((b.drop (128*i)).take 128):=by
 rw[zbj,List.getElem?_map,List.getElem?_range h];rfl
theorem zhE(b:List UInt8)(n:Nat):zbj b (n+1)=zbj b n++[(b.drop (128*n)).take 128]:=by simp[zbj,List.range_succ]
theorem zhF(b:List UInt8):∀ n,(zbj b n).flatten=b.take (128*n)
 |0=>rfl
 |n+1=>by
  rw[zhE,List.flatten_append,zhF b n,List.flatten_singleton,Nat.mul_succ,List.take_add]
section
variable {Y:World→List Nat→Prop}[Thing Y]{g x lo:Nat}{L:List Nat}{D:Dk}{G:Lg}{w:World}
def znI(D:Dk)(a:Nat)(R:List Sec):Dk × Bool:=if(za1 D a R).2 then(zbu (za1 D a R).1,zbg (za1 D a R).1)else za1 D a R
def zkt(G:Lg):Lg:={G with count:=G.count+1,since:=G.count+1,num:=0,at_:=0}
set_option maxRecDepth 20000 in
theorem trunc18 (h : zew g x Y lo L D G w) (hc : G.count ≤ 4611686018427387904) (hsh : zbR D 90000) :
    Calls Tryz.prog 154 [.pointer (some ⟨x, 0, none⟩)].toArray w (Ret fun v w' => ∃ e : Int, v = .int .i64 e ∧ LoL lo L w w' ∧
      ((G.dead = true ∧ e = 10 ∧ zew g x Y lo L D G w') ∨ (G.dead = false ∧ G.count = 4611686018427387904 ∧ e = 8 ∧ zew g x Y lo L D G w') ∨
        (G.dead = false ∧ G.count < 4611686018427387904 ∧ zd6 D (G.count + 1) (G.count + 1) = false ∧ e = 10 ∧ zew g x Y lo L (zcI D (G.count + 1) (G.count + 1)) { G with dead := true } w') ∨
        (G.dead = false ∧ G.count < 4611686018427387904 ∧ zd6 D (G.count + 1) (G.count + 1) = true ∧ e = 0 ∧ zew g x Y lo L (zcI D (G.count + 1) (G.count + 1)) (zkt G) w'))) := by
  have hLL := LoL.refl lo L w
  have hrd := ready45 h
  have hG := h
  have hxl := h.lt
  obtain ⟨dd, hdd⟩ : ∃ dd, G.dead = dd := ⟨_, rfl⟩
  rw [hdd] at hrd ⊢
  refine zax (fn := Tryz.f154) (rs := [.tmp 2]) (n := 33) Tryz.func154 rfl rfl Tryz.ntmps154 (by kernel_rfl) rfl ?_
  refine zah (zaa (zad (zac) (zae (zaf (zah (zah (zaa (zad (zab) ?_))))))))
  refine zao rfl (zaj (by kernel_rfl) rfl) (hrd) ?_
  rintro _ _ ⟨rfl, rfl⟩
  refine zad (zac) (zae (zaf (zah (zaa (zad (zab) ?_)))))
  refine zad (zaX rfl rfl) ?_
  refine zae (zaf ?_)
  refine za0 rfl (fun hne => ?_) (fun hne => ?_)
  ·
   refine zah (zaa (zad (zab) (zad (zac) (zae (zaf (zaF (zaW ?_)))))))
   refine zan [_] ⟨rfl, trivial⟩ ?_
   have hf : dd = true := by cases dd with | true => rfl | false => simp at hne
   subst hf
   exact ⟨_, rfl, hLL, .inl ⟨rfl, rfl, hG⟩⟩
  ·
   have hf : dd = false := by cases dd with | false => rfl | true => simp at hne
   subst hf
   refine zat (zaf (zah (zah (zaa (zad (zab) (zad (zak rfl) (zad (zaw 0) (zad (zaw 0) ?_))))))))
   refine zad (zaG rfl ((Ld.zeC hG.rowx (by kernel_rfl) rfl))) ?_
   refine zad (za5 rfl rfl) ?_
   refine zae (zaf ?_)
   refine za0 rfl (fun he => ?_) (fun he => ?_)
   ·
    refine zah (zaa (zad (zac) (zae (zaf (zaF (zaW ?_))))))
    refine zan [_] ⟨rfl, trivial⟩ ?_
    exact ⟨_, rfl, hLL, .inr (.inl ⟨rfl, by omega, rfl, hG⟩)⟩
   ·
    have hcl : G.count < 4611686018427387904 := by omega
    have hobt : ∃ ok, zd6 D (G.count + 1) (G.count + 1) = ok := ⟨_, rfl⟩
    obtain ⟨ok, hok⟩ := hobt
    have hnx := next48 hG (G.count + 1) (by omega) (by omega) hsh
    rw [hok] at hnx ⊢
    refine zat (zaf (zah (zah (zaa (zad (zab) (zad (zab) (zad (zak rfl) (zad (zaw 0) (zad (zaw 0) ?_)))))))))
    refine zad (zaG rfl ((Ld.zeC hG.rowx (by kernel_rfl) rfl))) ?_
    refine zad (zaO rfl rfl (wu64 (by omega))) ?_
    refine zao rfl (zaj (by kernel_rfl) rfl) (hnx) ?_
    rintro _ w23 ⟨rfl, hG, hb23⟩
    replace hLL := hLL.lq hb23
    refine zad (zac) (zae (zaf (zah (zaa (zad (zab) ?_)))))
    refine zad (zaX rfl rfl) ?_
    refine zae (zaf ?_)
    refine za0 rfl (fun hn2 => ?_) (fun hn2 => ?_)
    ·
     refine zah (zaa (zad (zab) (zad (zac) (zae (zaf (zaF (zaW ?_)))))))
     refine zan [_] ⟨rfl, trivial⟩ ?_
     have hf : ok = false := by cases ok with | false => rfl | true => simp at hn2
     subst hf
     exact ⟨_, rfl, hLL, .inr (.inr (.inl ⟨rfl, hcl, rfl, rfl, hG⟩))⟩
    ·
     have hf : ok = true := by cases ok with | true => rfl | false => simp at hn2
     subst hf
     obtain ⟨hD, hx, hge, hni⟩ := hG
     obtain ⟨c, si, sz, nu, at_, de⟩ := G
     dsimp only [lgV, nextG] at hx hdd
     subst hdd
     rw [if_pos rfl] at hx
     dsimp only at hx
     refine zat (zaf (zah (zaa (zad (zab) (zad (zab) (zad (zak rfl) (zad (zaw 4) ?_)))))))
     refine zaK rfl (zbn hx (fun w901 hx ho901 => ?_))
     replace hLL := hLL.oq ho901
     replace hD := hD.only ho901 (by first | (right; simp; done) | (left; omega) | (right; simp [*]; done))
     refine zad (zak rfl) (zad (zaw 5) ?_)
     refine zaK rfl (zbn hx (fun w902 hx ho902 => ?_))
     replace hLL := hLL.oq ho902
     replace hD := hD.only ho902 (by first | (right; simp; done) | (left; omega) | (right; simp [*]; done))
     refine zae (zaf (zah (zaa (zad (zac) (zae (zaf (zaF ?_)))))))
     refine zan [_] ⟨rfl, trivial⟩ ?_
     exact ⟨_, rfl, hLL, .inr (.inr (.inr ⟨rfl, hcl, rfl, rfl, ⟨hD, hx, hge, hni⟩⟩))⟩
end
structure LgOk(D:Dk)(G:Lg):Prop where
 s1:1≤G.since
 sc:G.since≤G.count
 cm:G.count≤4611686018427387904
 sz4:4≤G.size
 szm:G.size≤4000
 at_:G.at_≤G.size
 num:G.num≤G.at_
 fit:1+G.size≤D.V.length
def ziz(G:Lg)(R:Rec):List Sec:=zbj (rowB G.count G.num (recB R)) (zci (516*R.length))
theorem zmn(G:Lg)(R:Rec):(ziz G R).length=zci (516*R.length):=zcz _ _
def zeL(D:Dk)(G:Lg)(R:Rec):Int × Dk × Lg:=
 if G.dead then(10,D,G)else if mayR R=false then(2,D,G)else if G.size<G.at_+(ziz G R).length then(8,D,G)
 else if(znI D (1+G.at_) (ziz G R)).2 then(0,(znI D (1+G.at_) (ziz G R)).1,{G with at_:=G.at_+(ziz G R).length,num:=G.num+1})else(10,(znI D (1+G.at_) (ziz G R)).1,{G with dead:=true})
section
variable {Y:World→List Nat→Prop}[Thing Y]{g x lo:Nat}{L:List Nat}{D:Dk}{G:Lg}{w:World}
end
end Go.Proofs.YtdbogkndglbffaaGreat
namespace Coup
open Go Go.RowKit
def SeqU(P:Program)(gf:Nat)(lb:List Value)(m:Nat)(V:Nat→List Value→World→Prop)(ks:List Nat)(w:World):Prop:=
 ∀ (l:Nat) (J:Nat→World→Prop) (Jx:World→Prop) (W:World),Below w.heap.size w W→
  (∀ k W W',J k W→Below W.heap.size W W'→J k W')→(∀ W W',Jx W→Below W.heap.size W W'→Jx W')→
  (∀ k v W1,k<m→V k v W1→J k W1→zio P l v W1 fun e W'=>(e= .returned (.bool true)∧J (k+1) W'∧(∀ b,b∈ks→W'.heap[b]?=W1.heap[b]?)∧W1.heap.size≤W'.heap.size)∨(e= .returned (.bool false)∧Jx W'))→
  J 0 W→Calls P gf (.func (.yield l) #[] #[]::lb).toArray W (Ret fun _ W'=>J m W'∨Jx W')
section
variable {md:Option Nat→Prop}{P:Program}{n:Nat}{Q:Post}{ρ:Env}{w w0:World}
theorem zku {g : Operand} {ps : List Nat} {assign body : Code} {gf : Nat} {lb : List Value} {m : Nat} {V : Nat → List Value → World → Prop} {ks : List Nat} (hmd : ∀ rd, md rd → rd = none)
  (hg : ev ρ g = .func (.func gf) #[] lb.toArray) (hcan : zcC P gf = true) (hseq : SeqU P gf lb m V ks w0) (hb0 : Below w0.heap.size w0 w) (hps : ∀ k v W, V k v W → v.length = ps.length) (hpn : ps.all (Nat.blt · n) = true) (hnd : ps.Nodup)
  (hks : ∀ b, b ∈ ks → b < w.heap.size)
  (I : Nat → World → Prop) (Ix : Code → World → Prop) (hI : ∀ k W W', I k W → zfc w.heap.size W W' → I k W') (hIx : ∀ c W W', Ix c W → zfc w.heap.size W W' → Ix c W') (h0 : I 0 w)
  (round : ∀ l k v W1, k < m → V k v W1 → I k W1 → w.heap.size ≤ W1.heap.size → W (fun rd => rd = some l) P n assign
   (fun e ρ' W' => e = .normal ∧ Below W1.heap.size W1 W' ∧ ∀ W2, zfc w.heap.size W' W2 → W (fun rd => rd = some l) P n body (roundQ w.heap.size ks I Ix k W2) ρ' W2) (zjH ρ.f ps v) W1)
  (hdone : ∀ D W, w.heap.size ≤ D → I m W → W.heap[D]? = some (.deferred (some [])) → Q .normal ⟨ρ.f, D :: ρ.ms⟩ W)
  (hstop : ∀ D c W', w.heap.size ≤ D → Ix c W' → W'.heap[D]? = some (.deferred (some [])) → codeOk n c = true ∧ W md P n c Q ⟨ρ.f, D :: ρ.ms⟩ W') :
  W md P n (.rangeFunc g ps.toArray assign body) Q ρ w := by
 intro hc rd a hrd ha
 obtain rfl := hmd rd hrd
 simp only [codeOk, Bool.and_eq_true] at hc
 have hpn' : ∀ p, p ∈ ps → p < n := fun p hp => by have := List.all_eq_true.1 hpn p hp; simpa using this
 refine wpIn_rangeFunc ?_
 intro fn hfn
 obtain ⟨rec, hrec⟩ : ∃ rec : LoopState → Option Code → Loop, rec = fun st pe => { state := st, pending := pe, fn, tmps := a.tmps, params := ps.toArray, assign, body, defers := w.heap.size } := ⟨_, rfl⟩
 obtain ⟨W1, hW1⟩ : ∃ W1, (w.alloc (.deferred (some []))).alloc (.loop (rec .ready none)) = W1 := ⟨_, rfl⟩
 have hs1 : W1.heap.size = w.heap.size + 2 := by rw [← hW1]; simp
 have hL1 : W1.heap[w.heap.size + 1]? = some (.loop (rec .ready none)) := by
  rw [← hW1]; have := World.alloc_heap_new (w.alloc (.deferred (some []))) (.loop (rec .ready none)); rwa [World.size_alloc] at this
 have hK1 : W1.heap[w.heap.size]? = some (.deferred (some [])) := by
  rw [← hW1]; exact (Below.heap_alloc _ _ _ (by simp)).trans (World.alloc_heap_new w _)
 have hbw : Below w.heap.size w W1 := by rw [← hW1]; exact ((Below.refl _ w).alloc (Nat.le_refl _) _).alloc (by simp) _
 have hI1 : I 0 W1 := hI 0 w W1 h0 (zfc.of_below hbw)
 have hb1 : Below w0.heap.size w0 W1 := hb0.acc hbw
 have hro : (fr none).round = none := rfl
 obtain ⟨lw, hlw⟩ : ∃ lw, lw = w.heap.size + 1 := ⟨_, rfl⟩
 have hcall : (callFunc gf (.func (.yield lw) #[] #[] :: lb).toArray).run P W1 = .ok (.enter gf (.func (.yield lw) #[] #[] :: lb).toArray) W1 := by
  unfold zcC at hcan
  cases hfn : P.funcs[gf]? with
  | none => simp [hfn] at hcan
  | some f =>
   rw [hfn] at hcan
   simp only [Bool.and_eq_true, Bool.not_eq_true'] at hcan
   cases hb : f.body with
   | none => simp [hb] at hcan
   | some c =>
    have hn : ¬ f.name = "runtime.NumGoroutine" := by simpa using hcan.1
    simp [callFunc, program, Sem.run, hfn, hn, hb, Result.andThen]
 have hae : a.eval g = .func (.func gf) #[] lb.toArray := by rw [ha.ev]; exact hg
 refine ⟨lw, [mkD w.heap.size], W1, { target := .fn (.func gf) lb.toArray, args := #[.func (.yield lw) #[] #[]] }, W1, gf, (.func (.yield lw) #[] #[] :: lb).toArray, W1, ?_, ?_, fun f' _ => zjQ none f', ?_, fun hdp => by (rw [zeR] at hdp; cases hdp), ?_⟩
 ·rw [hro, hlw, ← hW1, hrec]; exact run_enterLoop_outer _ _ _ _ _
 ·simp only [resolve, rangeCall, hae]
  simp [Deferred.ofValue, Act.eval]
 ·have e : #[Value.func (.yield lw) #[] #[]] ++ lb.toArray = (.func (.yield lw) #[] #[] :: lb).toArray := by simp
  simp only [invoke, e]
  exact hcall
 ·refine zgU ((hseq lw (fun k W => I k W ∧ W.heap[w.heap.size + 1]? = some (.loop (rec .ready none)) ∧ W.heap[w.heap.size]? = some (.deferred (some [])))
   (fun W => ∃ c, Ix c W ∧ W.heap[w.heap.size + 1]? = some (.loop (rec .done (some c))) ∧ W.heap[w.heap.size]? = some (.deferred (some []))) W1 hb1 ?_ ?_ ?_ ⟨hI1, hL1, hK1⟩).mono ?_)
  ·rintro k A B ⟨h1, h2, h3⟩ hAB
   exact ⟨hI k A B h1 (zfc.of_below hAB), by rw [hAB.block _ (Array.getElem?_eq_some_iff.1 h2).1]; exact h2, by rw [hAB.block _ (Array.getElem?_eq_some_iff.1 h3).1]; exact h3⟩
  ·rintro A B ⟨c, h1, h2, h3⟩ hAB
   exact ⟨c, hIx c A B h1 (zfc.of_below hAB), by rw [hAB.block _ (Array.getElem?_eq_some_iff.1 h2).1]; exact h2, by rw [hAB.block _ (Array.getElem?_eq_some_iff.1 h3).1]; exact h3⟩
  ·rintro k v W hkm hv ⟨hi, hl, hk⟩
   have hlt : w.heap.size + 1 < W.heap.size := (Array.getElem?_eq_some_iff.1 hl).1
   have hvl := hps k v W hv
   have hy := run_yield (P := P) (args := v.toArray) hl (by rw [hrec]; simpa using hvl)
   rw [hrec] at hy
   refine ⟨fn, _, assign, body, by rw [hlw]; exact hy, ?_⟩
   clear hy
   refine roundIn_of_wpIn (F := Fence.wide) (n := 0) trivial ?_
   have hag : Ag n { tmps := (ps.toArray.zip v.toArray).foldl (fun t (p, u) => t.setIfInBounds p u) a.tmps, defers := [] } (zjH ρ.f ps v) := by
    have := znZ ha ps v a.tmps ha.s ha.t hpn' hnd
    rw [← Array.foldl_toList, Array.toList_zip]
    exact this
   have hA := round lw k v W hkm hv hi (by omega) hc.1 (some lw) _ rfl hag
   have hA' : assign.wpIn (Fence.wide.inRound lw) 0 P _ _ W := fun b k' cs h1 h2 h3 => hA b k' cs h1 h2 (room_wide _)
   refine wpIn_mono hA' ?_
   rintro e a' Wa ⟨ρ', h1, rfl, hbel, hbody⟩
   show ∃ w2, _
   have hl2 : Wa.heap[w.heap.size + 1]? = some (.loop (rec .ready none)) := by rw [hbel.block _ hlt]; exact hl
   have hk2 : Wa.heap[w.heap.size]? = some (.deferred (some [])) := by rw [hbel.block _ (by omega)]; exact hk
   have hlt2 := (Array.getElem?_eq_some_iff.1 hl2).1
   refine ⟨_, by rw [hlw]; exact run_beginRound hl2 (by rw [hrec]), ?_⟩
   obtain ⟨W2, hW2⟩ : ∃ W2, W2 = Wa.putObj (w.heap.size + 1) (.loop { rec .ready none with state := .busy }) := ⟨_, rfl⟩
   have hl3 : W2.heap[w.heap.size + 1]? = some (.loop { rec .ready none with state := .busy }) := by rw [hW2]; exact World.putObj_heap_same hlt2
   have hk3 : W2.heap[w.heap.size]? = some (.deferred (some [])) := by rw [hW2]; exact (World.putObj_heap_other (by omega)).trans hk2
   have hsf : zfc w.heap.size Wa W2 := by rw [hW2]; exact zfc.put _ hl2 (by omega) rfl
   rw [← hW2]
   have hB := hbody W2 hsf hc.2 (some lw) a' rfl h1
   have hB' : body.wpIn (Fence.wide.inRound lw) 0 P _ a' W2 := fun b k' cs h1 h2 h3 => hB b k' cs h1 h2 (room_wide _)
   refine wpIn_mono hB' ?_
   have fin : ∀ (jump : Option Code) (W3 : World), KeepsFrom w.heap.size W2 W3 →
     (Instr.endRound lw jump).run P W3 = .ok (.bool jump.isNone) (W3.putObj (w.heap.size + 1) (.loop (rec (if jump.isNone then .ready else .done) jump))) ∧
     zfc w.heap.size W3 (W3.putObj (w.heap.size + 1) (.loop (rec (if jump.isNone then .ready else .done) jump))) ∧
     (W3.putObj (w.heap.size + 1) (.loop (rec (if jump.isNone then .ready else .done) jump))).heap[w.heap.size + 1]? = some (.loop (rec (if jump.isNone then .ready else .done) jump)) ∧
     (W3.putObj (w.heap.size + 1) (.loop (rec (if jump.isNone then .ready else .done) jump))).heap[w.heap.size]? = some (.deferred (some [])) := fun jump W3 hk3' => by
    have hl4 := hk3'.same _ _ (by omega) hl3 rfl
    have := run_endRound (P := P) jump hl4
    rw [hrec] at this ⊢
    refine ⟨by rw [hlw]; exact this, zfc.put _ hl4 (by omega) rfl, World.putObj_heap_same (Array.getElem?_eq_some_iff.1 hl4).1, (World.putObj_heap_other (by omega)).trans (hk3'.same _ _ (Nat.le_refl _) hk3 rfl)⟩
   rintro e a3 W3 ⟨ρ3, _, hp⟩
   have hkw : ∀ b, b ∈ ks → W2.heap[b]? = W.heap[b]? := fun b hb => by
    have := hks b hb
    rw [hW2, World.putObj_heap_other (by omega), hbel.block b (by omega)]
   have hsz2 : W.heap.size ≤ W2.heap.size := by rw [hW2]; simpa using hbel.size
   cases e with
   | normal =>
    obtain ⟨hp1, hp2, hp3⟩ := hp
    obtain ⟨hr, hs, hl5, hk5⟩ := fin none W3 hp1
    refine ⟨_, _, hr, .inl ⟨rfl, ⟨hI _ _ _ hp3 hs, hl5, hk5⟩, fun b hb => ?_, ?_⟩⟩
    ·have := hks b hb
     rw [World.putObj_heap_other (by omega), hp2 b hb, hkw b hb]
    ·have := hp1.size; simp; omega
   | ret =>
    obtain ⟨hp1, hp2⟩ := hp
    obtain ⟨hr, hs, hl5, hk5⟩ := fin (some .ret) W3 hp1
    exact ⟨_, _, hr, .inr ⟨rfl, .ret, hIx _ _ _ hp2 hs, hl5, hk5⟩⟩
   | exit id =>
    obtain ⟨hp1, hp2⟩ := hp
    obtain ⟨hr, hs, hl5, hk5⟩ := fin (some (.exit id)) W3 hp1
    exact ⟨_, _, hr, .inr ⟨rfl, .exit id, hIx _ _ _ hp2 hs, hl5, hk5⟩⟩
   | goto t => exact hp.elim
   | panic ch => exact hp.elim
   | outgrown => exact hp.elim
  ·rintro e W2 ⟨v, rfl, (⟨hi, hl, hk⟩ | ⟨c, hi, hl, hk⟩)⟩
   ·refine ⟨none, _, by have := run_endLoop (P := P) hl (by rw [hrec]; simp); rw [hrec] at this; rw [hlw]; exact this, ?_⟩
    refine ⟨⟨ρ.f, w.heap.size :: ρ.ms⟩, ⟨by simp [ha.d, Dm.d], ha.s, ha.t⟩, hdone w.heap.size _ (Nat.le_refl _) (hI _ _ _ hi (zfc.put _ hl (by omega) rfl)) ((World.putObj_heap_other (by omega)).trans hk)⟩
   ·refine ⟨some c, _, by have := run_endLoop (P := P) hl (by rw [hrec]; simp); rw [hrec] at this; rw [hlw]; exact this, ?_⟩
    obtain ⟨h1, h2⟩ := hstop w.heap.size c _ (Nat.le_refl _) (hIx _ _ _ hi (zfc.put _ hl (by omega) rfl)) ((World.putObj_heap_other (by omega)).trans hk)
    exact h2 h1 none _ hrd ⟨by simp [ha.d, Dm.d], ha.s, ha.t⟩
end
end Coup
namespace Go.Proofs.YtdbogkndglbffaaGreat
open Go Go.RowKit Coup
structure zjn where
 c:Nat
 nn:Nat
 b:List UInt8
def zcO:Nat→List UInt8→Nat→List zjn
 |0,_,_=>[]
 |f+1,l,n=>if zcc l n then⟨zbx (zaH l 0),zev (zaH l 0),zbJ l⟩::zcO f (l.drop (128*zci (zbJ l).length)) (n - zci (zbJ l).length)else[]
theorem zqt(p:Option Addr)(n cp:Nat)(l:List UInt8)(w:World)(h:zaS w p n 128 (bv l))(hn:n≤1000000)(hj:zcc l n=false):Calls Tryz.prog 188 [.slice p n cp].toArray w (Ret fun v w'=>v=zqh∧Below w.heap.size w w'):=by
 have hJ:Calls Tryz.prog 188 [.slice p n cp].toArray w (Ret fun v w'=>JR l n w v w'):=by
  by_cases h0:0<n
  ·cases hm:zg0 (zbx (zaH l 0)) (zev (zaH l 0))with
   |true=>exact joinT p n cp l w h hn h0 hm
   |false=>exact joinF p n cp l w h hn h0 hm
  ·obtain rfl:n=0:=by omega
   exact join0 p cp l w
 exact hJ.to fun v w' ⟨h1,h2⟩=>by
  rcases h2 with⟨_,h2⟩|⟨h3,_⟩
  ·exact⟨h2,h1⟩
  ·rw[hj]at h3;cases h3
theorem ze3{l:List UInt8}{n:Nat}(hj:zcc l n=true):0<n∧zg0 (zbx (zaH l 0)) (zev (zaH l 0))=true∧(l.length=n*128→zci (zbJ l).length≤n∧1≤zci (zbJ l).length):=by
 rw[zcc,Bool.and_eq_true,Bool.and_eq_true]at hj
 obtain⟨⟨h1,h2⟩,h3⟩:=hj
 have h0:=of_decide_eq_true h1
 rw[zlu,Bool.and_eq_true,Bool.and_eq_true,Bool.and_eq_true]at h2
 obtain⟨⟨⟨h4,h5⟩,h6⟩,h7⟩:=h2
 have h7:=of_decide_eq_true h7
 rw[zgH,Bool.and_eq_true,Bool.and_eq_true,Bool.and_eq_true]at h3
 obtain⟨⟨⟨_,h8⟩,h9⟩,_⟩:=h3
 have h9:=of_decide_eq_true h9
 refine⟨h0,h4,fun hl=>?_⟩
 have hb:(zbJ l).length≤zgr l (zc2 (zaH l 0)):=by rw[zbJ,List.length_take];omega
 have hk:zc4 (zbJ l).length≤zc4 (zgr l (zc2 (zaH l 0))):=by unfold zc4;omega
 rw[h9]at hk
 have hp:1≤zc4 (zbJ l).length:=by unfold zc4;omega
 unfold zci
 omega
theorem zqu(p:Option Addr)(n cp:Nat)(l:List UInt8)(w:World)(h:zaS w p n 128 (bv l))(hn:n≤1000000)(hj:zcc l n=true):Calls Tryz.prog 188 [.slice p n cp].toArray w
  (Ret fun v w'=>∃ sp,v= .tuple #[.agg #[.int .u64 (zbx (zaH l 0)), .int .i64 (zev (zaH l 0))], .slice sp (zbJ l).length (zbJ l).length, .int .i64 (zci (zbJ l).length:Nat), .int .i64 0]∧zaS w' sp (zbJ l).length 1 (bv (zbJ l))∧Below w.heap.size w w'):=by
 obtain⟨h0,hm,_⟩:=ze3 hj
 exact(joinT p n cp l w h hn h0 hm).to fun v w' ⟨h1,h2⟩=>by
  rcases h2 with⟨h3,_⟩|⟨_,sp,h3,h4⟩
  ·rw[hj]at h3;cases h3
  ·exact⟨sp,h3,h4,h1⟩
theorem zmo{w:World}{q:Option Addr}{m c sz j:Nat}{cs:List Value}(h:zaS w q m sz cs)(hj:j≤m)(hc:m≤c):zaS w (if c=j then q else q.map (·.add (j*sz))) (m - j) sz (cs.drop (j*sz)):=by
 refine⟨by rw[List.length_drop,h.len,Nat.sub_mul],Nat.le_trans (Nat.sub_le _ _) h.max,fun h0=>?_⟩
 have hs:0<(m - j)*sz:=h0
 have hmj:0<m - j:=Nat.pos_of_mul_pos_right hs
 have hmul:(m - j)*sz+j*sz=m*sz:=by rw[←Nat.add_mul];congr 1;omega
 obtain⟨b,off,hp,hlt,hcell⟩:=h.at_ ae
 refine⟨b,off+j*sz,by rw[if_neg ae,hp,Option.map_some,Addr.add_lit],hlt,fun i hi=>?_⟩
 rw[List.getElem?_drop,←hcell (j*sz+i) ae]
 congr 2;omega
def RowV(R:List zjn)(k:Nat)(v:List Value)(W:World):Prop:=∃ r,R[k]?=some r∧∃ sp,v=[.agg #[.int .u64 (r.c:Int), .int .i64 (r.nn:Int)], .slice sp r.b.length r.b.length]∧zaS W sp r.b.length 1 (bv r.b)
set_option maxRecDepth 20000 in
set_option maxHeartbeats 1000000 in
theorem rowsSeq (l:List UInt8) (g1 ga oa n c:Nat) (w:World) (hn:n≤1000000) (h0n:0<n) (hcn:n≤c) (r1:row w g1 [.slice (some ⟨ga,oa,none⟩) n c] 137)
  (hs:zaS w (some ⟨ga,oa,none⟩) n 128 (bv l)):SeqU Tryz.prog 187 [.pointer (some ⟨g1,0,none⟩)] (zcO n l n).length (RowV (zcO n l n)) [g1,ga] w:=by
 intro ly J Jx W hbW hJ hJx hy h0
 have r1W:=r1.new hbW
 have hsW:=hs.new hbW
 have hgaW:=hsW.some ae
 obtain⟨_,_,heq,hgaW⟩:=hgaW
 cases heq
 have hB:=Below.refl W.heap.size W
 obtain⟨R,hR⟩:∃ R,zcO n l n=R:=⟨_,rfl⟩
 rw[hR]at hy ⊢
 refine zax (fn:=Tryz.f187) (rs:=[]) (n:=28) Tryz.func187 rfl rfl Tryz.ntmps187 aa rfl (zah (zaa (zad (zau r1W) (zad (zac) (zae (zaf (zav ?_)))))))
 refine zbq (α:=Nat × Nat × Nat × Option Addr × List UInt8) (0,n,c,some ⟨ga,oa,none⟩,l) (fun k=>[(0, .func (.yield ly) #[] #[]),(1, .pointer (some ⟨g1,0,none⟩)),(3, .slice k.2.2.2.1 k.2.1 k.2.2.1)])
  (fun k w'=>k.1≤R.length∧k.2.1≤k.2.2.1∧k.2.1≤n∧(∃ f,k.2.1≤f∧R.drop k.1=zcO f k.2.2.2.2 k.2.1)∧zaS W k.2.2.2.1 k.2.1 128 (bv k.2.2.2.2)∧(∀ b o,k.2.2.2.1=some ⟨b,o,none⟩→0<k.2.1→b=ga)∧J k.1 w'∧(∀ x,x∈[g1,ga]→w'.heap[x]?=W.heap[x]?)∧W.heap.size≤w'.heap.size) (fun k=>k.2.1) ⟨rfl,rfl,rfl,rfl⟩ ⟨Nat.zero_le _,hcn,Nat.le_refl _,⟨n,Nat.le_refl _,hR.symm⟩,hsW,(fun b o e _=>by cases e;rfl),h0,fun _ _=>rfl,Nat.le_refl _⟩ ?_
 rintro⟨k,m,cm,q,lr⟩ f wr ⟨hk,hcm,hmn,⟨fu,hfu,hdr⟩,hsm,hqa,hJk,hkp,hsz⟩
 dsimp only at*
 have hBr:=Below.refl wr.heap.size wr
 have hlr:lr.length=m*128:=by simpa [zal]using hsm.len
 have hsr:zaS wr q m 128 (bv lr):=by
  by_cases h0m:0<m
  ·obtain⟨b,o,rfl,_⟩:=hsm.some ae
   obtain rfl:=hqa b o rfl h0m
   exact hsm.blk (hkp b ay) hsz
  ·exact⟨hsm.len,hsm.max,fun h=>absurd h bJ⟩
 cases hj:zcc lr m with
 |false=>
  have hkR:k=R.length:=by
   have h1:=congrArg List.length hdr
   cases fu with
   |zero=>rw[zcO,List.length_drop,List.length_nil]at h1;omega
   |succ fu=>rw[zcO,hj,if_neg ay,List.length_drop,List.length_nil]at h1;omega
  refine zav (zah (zaa (zad (zab) (zao rfl (zaj aa rfl) (zqt q m cm lr wr (hsr.new hBr) ae hj) ?_))))
  rintro _ w11 ⟨rfl,hb11⟩
  replace hBr:=hBr.acc hb11
  refine zad (zab) (zad (zai rfl rfl) (zad (zai rfl rfl) (zad (zai rfl rfl) (zad (zai rfl rfl) (zaD rfl (zar ([Value.int .u64 0,Value.int .i64 0]) aa (fun g4 w4 hg4 hr4 hb4=>?_)))))))
  have ge_hBr_g4:=Nat.le_trans hBr.size hg4
  replace hBr:=hBr.acc hb4
  refine zaK rfl (zaQ 2 (_) hr4 (fun w901 hr4 ho901=>?_))
  replace hBr:=ho901.below hBr ge_hBr_g4
  refine zad (zac) (zad (zac) (zad (zac) (zae (zaf (zah (zah (zaa (zad (zab) (zad (zaX rfl rfl) (zad (zab) (zeA 18 rfl (aD) (zaM rfl rfl (zaM rfl rfl (zaM rfl rfl (zaM rfl rfl (zaM rfl rfl (zad (zaC rfl) (zae (zaf (W_t rfl (zaF (zaW (zbc (zeb (zbc (zan [] trivial ?_))))))))))))))))))))))))))
  exact Or.inl (hkR▸hJ _ _ _ hJk hBr)
 |true=>
  have hjf:=ze3 hj
  have hnd:=hjf.2.2 hlr
  have hobt:∃ z,fu=z+1:=⟨fu - 1,ae⟩
  obtain⟨fu,rfl⟩:=hobt
  rw[zcO,hj,if_pos rfl]at hdr
  have hkl:k<R.length:=by
   have h1:=congrArg List.length hdr
   rw[List.length_drop,List.length_cons]at h1;omega
  have hRk:R[k]?=some ⟨zbx (zaH lr 0),zev (zaH lr 0),zbJ lr⟩:=by
   have h1:=congrArg (fun z=>z[0]?) hdr
   simpa [List.getElem?_drop]using h1
  have hdr2:R.drop (k+1)=zcO fu (lr.drop (128*zci (zbJ lr).length)) (m - zci (zbJ lr).length):=by
   have h1:=congrArg (List.drop 1) hdr
   rw[List.drop_drop]at h1
   exact h1
  have hj2:=zqu q m cm lr
  generalize zbx (zaH lr 0)=C at*
  generalize zev (zaH lr 0)=NN at*
  generalize zbJ lr=JB at*
  generalize zci JB.length=ND at*
  refine zav (zah (zaa (zad (zab) (zao rfl (zaj aa rfl) (hj2 wr (hsr.new hBr) ae hj) ?_))))
  rintro _ w11 ⟨sp,rfl,hsp,hb11⟩
  replace hBr:=hBr.acc hb11
  have hBs:=Below.refl (w11).heap.size w11
  refine zad (zab) (zad (zai rfl rfl) (zad (zai rfl rfl) (zad (zai rfl rfl) (zad (zai rfl rfl) (zaD rfl (zar ([Value.int .u64 0,Value.int .i64 0]) aa (fun g4 w4 hg4 hr4 hb4=>?_)))))))
  have ge_hBr_g4:=Nat.le_trans hBr.size hg4
  have ge_hBs_g4:=Nat.le_trans hBs.size hg4
  replace hBr:=hBr.acc hb4
  replace hBs:=hBs.acc hb4
  refine zaK rfl (zaQ 2 (_) hr4 (fun w902 hr4 ho902=>?_))
  replace hBr:=ho902.below hBr ge_hBr_g4
  replace hBs:=ho902.below hBs ge_hBs_g4
  refine zad (zac) (zad (zac) (zad (zac) (zae (zaf (zah (zah (zaa (zad (zab) (zad (zaX rfl rfl) (zad (zab) (zfl 18 rfl (ay) (zaq rfl (zad (zab) (zaq rfl (zad (za7 2 hr4) (zaq rfl (zad (zab) (zaq rfl ?_))))))))))))))))))
  have hYk:=hy k _ w902 hkl ⟨_,hRk,sp,rfl,hsp.below hBs (Nat.le_refl _)⟩ (hJ _ _ _ hJk hBr)
  refine zi3 (vl:=[.agg #[.int .u64 (C:Int), .int .i64 (NN:Int)], .slice sp JB.length JB.length]) rfl rfl hYk ?_
  have hdz:=zmo hsm hnd.1 hcm
  have hdl:(lr.drop (128*ND)).length=(m - ND)*128:=by rw[List.length_drop,hlr];omega
  replace hdz:zaS W (if cm=ND then q else q.map (·.add (ND*128))) (m - ND) 128 (bv (lr.drop (128*ND))):=by rw[Nat.mul_comm 128 ND,zc7];exact hdz
  rintro e wy (⟨rfl,hJy,hky,hsy⟩|⟨rfl,hJxy⟩)
  ·refine⟨_,rfl,?_⟩
   refine zaq rfl (zad (zbK rfl) (zad (zaE rfl) (zae (zaf (W_f rfl (zat (zaf (zaa (zad (zab) (zad (zab) (zad (zc8 (e:=172) (sz:=128) ND m cm aa rfl ⟨_,_,rfl,rfl⟩ rfl rfl ay ae ae ae) (zad (zac) (zae (zaP (za2 ⟨(k+1,m - ND,cm - ND,if cm=ND then q else q.map (·.add (ND*128)),lr.drop (128*ND)),by show m - ND<m;omega,⟨rfl,rfl,rfl,rfl⟩,by show k+1≤_;omega,by show m - ND≤cm - ND;omega,by show m - ND≤n;omega,⟨fu,by show m - ND≤fu;omega,hdr2⟩,hdz,fun b o e h=>?_,hJy,fun x hx=>?_,?_⟩)))))))))))))))
   ·have hpos:0<m - ND:=h
    have e:(if cm=ND then q else q.map (·.add (ND*128)))=some ⟨b,o,none⟩:=e
    rw[if_neg ae]at e
    have hobt:=hsm.some ae
    obtain⟨b2,o2,e2,_⟩:=hobt
    rw[e2,Option.map_some,Addr.add_lit]at e
    cases e
    exact hqa _ _ e2 ae
   ·have hxx:x<wr.heap.size:=by
     simp only[List.mem_cons,List.not_mem_nil,or_false]at hx
     have h1:=r1W.lt
     rcases hx with rfl|rfl<;>omega
    rw[hky x hx,hBr.block x hxx,hkp x hx]
   ·have:=hBr.size;omega
  ·refine⟨_,rfl,?_⟩
   refine zaq rfl (zad (zbK rfl) (zad (zaE rfl) (zae (zaf (W_t rfl (zaF (zaW (zbc (zeb (zbc (zan [] trivial ?_)))))))))))
   exact Or.inr hJxy
set_option maxRecDepth 20000 in
theorem rows73(l:List UInt8)(ga oa:Nat)(n cp:Nat)(w:World)(h:zaS w (some ⟨ga,oa,none⟩) n 128 (bv l))(hn:n≤1000000)(h0n:0<n)(hcn:n≤cp):
  Calls Tryz.prog 174 [.slice (some ⟨ga,oa,none⟩) n cp].toArray w (Ret fun v w'=>∃ g1,v= .func (.func 187) #[] [.pointer (some ⟨g1,0,none⟩)].toArray∧g1<w'.heap.size∧w.heap.size≤g1∧Below w.heap.size w w'∧
   SeqU Tryz.prog 187 [.pointer (some ⟨g1,0,none⟩)] (zcO n l n).length (RowV (zcO n l n)) [g1,ga] w'):=by
 have hB:=Below.refl w.heap.size w
 refine zax (fn:=Tryz.f174) (rs:=[.tmp 2]) (n:=4) Tryz.func174 rfl rfl Tryz.ntmps174 aa rfl (zah (zaa (zaD rfl (za4 ([_]) rfl (fun g1 w1 hg1 hr1 hb1=>?_)))))
 replace hB:=hB.acc hb1
 refine dE ?_
 have hg:=hB.size
 exact⟨_,rfl,hr1.lt,ae,hB,rowsSeq l _ ga oa n cp _ hn h0n hcn hr1 (h.below hB (Nat.le_refl _))⟩
theorem znk{l:List UInt8}{n:Nat}(hj:zcc l n=true):(zbJ l).length≤32768:=by
 rw[zcc,Bool.and_eq_true,Bool.and_eq_true]at hj
 have h3:=hj.2
 rw[zgH,Bool.and_eq_true,Bool.and_eq_true,Bool.and_eq_true]at h3
 have h8:=of_decide_eq_true h3.1.1.2
 rw[zbJ,List.length_take];omega
theorem zhG:∀ (f:Nat) (l:List UInt8) (n:Nat) (r:zjn),r∈zcO f l n→r.b.length≤32768
 |0,l,n,r,h=>by cases h
 |f+1,l,n,r,h=>by
  rw[zcO]at h
  split at h
  ·rename_i hj
   rcases List.mem_cons.1 h with rfl|h
   ·exact znk hj
   ·exact zhG f _ _ r h
  ·cases h
theorem zkv:∀ (f:Nat) (l:List UInt8) (n:Nat),(zcO f l n).length≤f
 |0,l,n=>Nat.le_refl 0
 |f+1,l,n=>by
  rw[zcO]
  split
  ·rw[List.length_cons];have:=zkv f (l.drop (128*zci (zbJ l).length)) (n - zci (zbJ l).length);omega
  ·simp
structure zer(w:World)(lo:Nat)(o:Option Nat)(vs:List Value)(L:List Rec):Prop where
 len:vs.length=L.length
 at_:∀ (i:Nat) l,L[i]?=some l→∃ b off c,vs[i]?=some (.slice (some ⟨b,off,none⟩) l.length c)∧zaS w (some ⟨b,off,none⟩) l.length 513 (zcj l)∧b<w.heap.size∧some b≠o∧l.length≤c∧lo≤b
namespace zer
variable {w w':World}{lo:Nat}{o:Option Nat}{vs:List Value}{L:List Rec}
theorem nil(w:World)(lo:Nat)(o:Option Nat):zer w lo o [] []:=⟨rfl,fun i l h=>by simp at h⟩
theorem kp{M:List Nat}(h:zer w lo o vs L)(k:Kp M w w')(hM:∀ g,g∈M→w.heap.size≤g∨o=some g∨g<lo):zer w' lo o vs L:=⟨h.len,fun i l hl=>by
 obtain⟨b,off,c,h1,h2,h3,h4,h5⟩:=h.at_ i l hl
 refine⟨b,off,c,h1,h2.kpd k fun b' o' e hm=>?_,Nat.lt_of_lt_of_le h3 k.size,h4,h5⟩
 cases e
 rcases hM b hm with e|e|e
 ·omega
 ·exact h4 e.symm
 ·omega⟩
theorem new(h:zer w lo o vs L)(hb:Below w.heap.size w w'):zer w' lo o vs L:=h.kp (M:=[]) (Kp.of_below hb) ay
theorem only{g:Nat}(h:zer w lo o vs L)(ho:Only g w w')(hg:g<lo):zer w' lo o vs L:=h.kp (Kp.zaZ ho) fun b hb=>by rw[List.mem_singleton.1 hb];exact .inr (.inr hg)
theorem soft{B:Nat}(h:zer w lo o vs L)(k:zfc B w w'):zer w' lo o vs L:=⟨h.len,fun i l hl=>by
 obtain⟨b,off,c,h1,h2,h3,h4⟩:=h.at_ i l hl
 exact⟨b,off,c,h1,h2.soft k,Nat.lt_of_lt_of_le h3 k.size,h4⟩⟩
theorem grow{v v':Value}(h:zer w lo v.ownBlock vs L)(hg:w.grownBy w' v.ownBlock)(hf:∀ g,v'.ownBlock=some g→v.ownBlock=some g∨w.heap.size≤g):zer w' lo v'.ownBlock vs L:=⟨h.len,fun i l hl=>by
 obtain⟨b,off,c,h1,h2,h3,h4,h5⟩:=h.at_ i l hl
 refine⟨b,off,c,h1,h2.kpd (Kp.za6 hg) fun b' o' e hm=>?_,Nat.lt_of_lt_of_le h3 hg.size,fun e=>(hf b e.symm).elim (fun e'=>h4 e'.symm) (fun e'=>ae),h5⟩
 cases e
 simp only[Option.mem_toList]at hm
 exact h4 hm.symm⟩
theorem snoc{b off c:Nat}{l:Rec}(h:zer w lo o vs L)(h2:zaS w (some ⟨b,off,none⟩) l.length 513 (zcj l))(h3:b<w.heap.size)(h4:some b≠o)(h5:l.length≤c)(h6:lo≤b):zer w lo o (vs++[.slice (some ⟨b,off,none⟩) l.length c]) (L++[l]):=
 ⟨by simp[h.len],fun i l' hl=>by
  by_cases hi:i<L.length
  ·rw[List.getElem?_append_left hi]at hl
   obtain⟨b',off',c',e1,e2,e3,e4,e5⟩:=h.at_ i l' hl
   exact⟨b',off',c',by rw[List.getElem?_append_left (by rw[h.len];exact hi)];exact e1,e2,e3,e4,e5⟩
  ·have hi':i=L.length:=by
    have:=(List.getElem?_eq_some_iff.1 hl).1
    simp at this;omega
   subst hi'
   simp at hl
   subst hl
   exact⟨b,off,c,by rw[←h.len];simp,h2,h3,h4,h5,h6⟩⟩
end zer
def zlx(p:Option Addr)(S:List Rec):World→List Nat→Prop:=fun w C=>(∀ b∈C,b<w.heap.size)∧∃ vs,zaS w p S.length 1 vs∧(0<S.length→∀ b o,p=some ⟨b,o,none⟩→b∈C)∧
 ∀ (i:Nat) r,S[i]?=some r→∃ b off c,vs[i]?=some (.slice (some ⟨b,off,none⟩) r.length c)∧zaS w (some ⟨b,off,none⟩) r.length 513 (zcj r)∧b∈C
theorem sl_kp0{M:List Nat}{w w':World}{p:Option Addr}{m sz:Nat}{cs:List Value}(h:zaS w p m sz cs)(k:Kp M w w')(hM:0<m→∀ b o,p=some ⟨b,o,none⟩→b∉M):zaS w' p m sz cs:=by
 by_cases h0:0<m
 ·exact h.kpd k (hM h0)
 ·exact⟨h.len,h.max,fun h1=>absurd h1 bJ⟩
instance(p:Option Addr)(S:List Rec):Thing (zlx p S):=
 ⟨fun {w w' B M} ⟨h1,vs,h2,h3,h4⟩ k hM=>⟨fun b hb=>Nat.lt_of_lt_of_le (h1 b hb) k.size,vs,sl_kp0 h2 k fun h0 b o e=>hM b (h3 h0 b o e),h3,fun i r hr=>by
  obtain⟨b,off,c,e1,e2,e3⟩:=h4 i r hr
  exact⟨b,off,c,e1,e2.kpd k (fun b' o' e=>by cases e;exact hM _ e3),e3⟩⟩,fun h b hb=>h.1 b hb⟩
def zly(Y Z:World→List Nat→Prop):World→List Nat→Prop:=fun w C=>∃ C1 C2,C=C1++C2∧Y w C1∧Z w C2
instance(Y Z:World→List Nat→Prop)[hY:Thing Y][hZ:Thing Z]:Thing (zly Y Z):=
 ⟨fun {w w' B M} ⟨C1,C2,e,h1,h2⟩ k hM=>⟨C1,C2,e,hY.kpd h1 k fun b hb=>hM b (by rw[e];exact List.mem_append_left _ hb),hZ.kpd h2 k fun b hb=>hM b (by rw[e];exact List.mem_append_right _ hb)⟩,
  fun {w B} ⟨C1,C2,e,h1,h2⟩ b hb=>by
   rw[e]at hb
   exact(List.mem_append.1 hb).elim (hY.lt h1 b) (hZ.lt h2 b)⟩
theorem zoN{X Y Z:World→List Nat→Prop}[hX:Thing X][hY:Thing Y]{lo:Nat}{L M C:List Nat}{w w':World}(h:Two X Y lo L w)(k:Kp M w w')(hM:∀ b∈M,b<lo∨b∈L)(hz:Z w' C)(hC:∀ b∈C,w.heap.size≤b):Two X (zly Y Z) lo L w':=by
 obtain⟨⟨B,E,h1,h2,h3,h4⟩,h5,h6⟩:=h
 have hXl:=fun b hb=>hX.lt h1 b hb
 exact⟨⟨B,E++C,hX.kpd h1 k fun b hb hm=>(hM b hm).elim (fun hl=>absurd (h3 b hb).1 (Nat.not_le.2 hl)) (h3 b hb).2.2,
  ⟨E,C,rfl,hY.kpd h2 k fun b hb hm=>(hM b hm).elim (fun hl=>absurd (h4 b hb).1 (Nat.not_le.2 hl)) (h4 b hb).2,hz⟩,
  fun b hb=>⟨(h3 b hb).1,fun hm=>(List.mem_append.1 hm).elim (h3 b hb).2.1 fun hc=>absurd (hXl b hb) (Nat.not_lt.2 (hC b hc)),(h3 b hb).2.2⟩,
  fun b hb=>(List.mem_append.1 hb).elim (h4 b) fun hc=>⟨Nat.le_trans h5 (hC b hc),fun hm=>absurd (h6 b hm) (Nat.not_lt.2 (hC b hc))⟩⟩,Nat.le_trans h5 k.size,fun b hb=>Nat.lt_of_lt_of_le (h6 b hb) k.size⟩
def znl(D:Dk)(n:Nat):List UInt8:=((List.range n).map fun i=>za8 D (1+i)).flatten
theorem zkw(D:Dk)(n:Nat):znl D (n+1)=znl D n++za8 D (1+n):=by simp[znl,List.range_succ]
theorem zf5{D:Dk}(h:zka D){i:Nat}(hi:i<D.V.length):(za8 D i).length=128:=zgZ (zfY h hi).2.1
def zhH(s c k:Nat)(r:zjn):Option Rec:=if r.nn=k∧s≤r.c∧r.c≤c then ofR r.b else none
def zes(s c:Nat):Nat→List zjn→List Rec
 |_,[]=>[]
 |k,r::R=>match zhH s c k r with
  |some x=>x::zes s c (k+1) R
  |none=>[]
def atS(S:List Rec):Nat:=(S.map fun r=>zci (516*r.length)).sum
def zcR(D:Dk)(G:Lg):List Rec:=zes G.since G.count 0 (zcO G.size (znl D G.size) G.size)
end Go.Proofs.YtdbogkndglbffaaGreat
