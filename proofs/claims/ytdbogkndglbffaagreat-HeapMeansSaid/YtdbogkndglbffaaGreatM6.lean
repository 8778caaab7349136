import Derived.Test.YtdbogkndglbffaaGreatM0
import Derived.Test.YtdbogkndglbffaaGreatM5
namespace Go.Proofs.YtdbogkndglbffaaGreat
open Go Go.RowKit Coup
section
variable {Y:World→List Nat→Prop}[hYT:Thing Y]{q jb mw N lo:Nat}{L M:List Nat}{G0 G V:Nat→Pg}{k:Nat}{F:Fst}{c:PgM}{w w':World}
namespace JAt
theorem kpd(h:JAt q jb mw N G0 G V k F c Y lo L w)(hk:Kp M w w')(hM:∀ b∈M,b<lo∨b∈L):JAt q jb mw N G0 G V k F c Y lo L w':=by
 have hn:∀ b,lo≤b∧b∉L→b∉M:=fun b hb hm=>(hM b hm).elim (fun hl=>absurd hb.1 (Nat.not_le.2 hl)) hb.2
 exact⟨h.p.kpd hk fun b hb=>(hM b hb).imp id fun hm=>by simp[hm],h.row.kpd hk (hn jb h.jl),h.map.kpd hk (hn mw h.ml),h.was,h.ne,h.jl,h.ml⟩
theorem new(h:JAt q jb mw N G0 G V k F c Y lo L w)(hb:Below w.heap.size w w'):JAt q jb mw N G0 G V k F c Y lo L w':=h.kpd (M:=[]) (Kp.of_below hb) ay
theorem only{gc:Nat}(h:JAt q jb mw N G0 G V k F c Y lo L w)(ho:Only gc w w')(hg:gc<lo∨gc∈L):JAt q jb mw N G0 G V k F c Y lo L w':=h.kpd (Kp.zaZ ho) fun b hb=>by rw[List.mem_singleton.1 hb];exact hg
omit hYT in
theorem weak{L2:List Nat}(h:JAt q jb mw N G0 G V k F c Y lo L w)(h2:∀ b∈L2,b∈L):JAt q jb mw N G0 G V k F c Y lo L2 w:=
 ⟨h.p.weak fun b hb=>by
  rcases List.mem_cons.1 hb with rfl|hb
  ·simp
  ·rcases List.mem_cons.1 hb with rfl|hb
   ·simp
   ·simp[h2 b hb],h.row,h.map,h.was,h.ne,⟨h.jl.1,fun hm=>h.jl.2 (h2 _ hm)⟩,⟨h.ml.1,fun hm=>h.ml.2 (h2 _ hm)⟩⟩
theorem newc{gc:Nat}(h:JAt q jb mw N G0 G V k F c Y lo L w)(hb:Below w.heap.size w w')(hg:w.heap.size≤gc)(hg':gc<w'.heap.size):JAt q jb mw N G0 G V k F c Y lo (gc::L) w':=by
 have h2:=h.new hb
 have h3:=h.row.lt
 have h4:=h.map.lt
 refine⟨(h.p.newc hb hg hg').weak fun b hm=>?_,h2.row,h2.map,h.was,h.ne,⟨h.jl.1,fun hm=>?_⟩,⟨h.ml.1,fun hm=>?_⟩⟩
 ·simp only[List.mem_cons]at hm ⊢
  rcases hm with hm|hm|hm|hm
  ·exact .inr (.inl hm)
  ·exact .inr (.inr (.inl hm))
  ·exact .inl hm
  ·exact .inr (.inr (.inr hm))
 ·rcases List.mem_cons.1 hm with rfl|hm
  ·omega
  ·exact h.jl.2 hm
 ·rcases List.mem_cons.1 hm with rfl|hm
  ·omega
  ·exact h.ml.2 hm
end JAt
set_option maxRecDepth 20000 in
theorem zpg(h:JAt q jb mw N G0 G V k F c Y lo L w)(n:Nat)(hn:n<N):Calls Tryz.prog 44 [.pointer (some ⟨jb,0,none⟩), .int .i64 (n:Int)].toArray w (Ret fun v w'=>v= .agg (bv (G n)).toArray∧JAt q jb mw N G0 G V k F c Y lo L w'∧LoL lo (jb::L) w w'):=by
 have hLL:=LoL.refl lo (jb::L) w
 have hgl:=(zjv h.p).2.2 n hn
 have hg:=fun L' w' (h':Two (GZ q N G V k) Y lo L' w')=>gGet h' n hn
 obtain⟨Gn,hGn⟩:∃ Gn,G n=Gn:=⟨_,rfl⟩
 rw[hGn]at hgl ⊢
 simp only[hGn]at hg
 have hGl:(bv Gn).length=512:=by rw[zal];exact hgl
 have hp:=h.p
 have hj:=h.row
 have hm:=h.map
 have hjn:mw≠jb:=Ne.symm h.ne
 unfold jV at hj
 refine zax (fn:=Tryz.f44) (rs:=[.cell 4 62]) (n:=19) Tryz.func44 rfl rfl Tryz.ntmps44 aa rfl (zah (zaa (zaD rfl (zar (List.replicate 512 (Value.int .u8 0)) aa (fun g4 w4 hg4 hr4 hb4=>?_)))))
 have lt_jb_g4:jb<g4:=Nat.lt_of_lt_of_le hj.lt hg4
 have lt_mw_g4:mw<g4:=Nat.lt_of_lt_of_le hm.lt hg4
 replace hp:=hp.newc hb4 hg4 hr4.lt
 replace hLL:=hLL.new hb4
 replace hj:=hj.new hb4
 replace hm:=hm.new hb4
 refine zae (zaf (zah (zaa (zad (zab) (zad (zak rfl) (zad (zaw 5) (zad (zau hj) (zad (zab) (zao rfl (zaj aa rfl) (hg _ w4 hp) ?_)))))))))
 rintro _ w13 ⟨rfl,hp,hb13⟩
 replace hLL:=hLL.lq hb13
 replace hj:=hj.kpd hb13.kp ag
 replace hm:=hm.kpd hb13.kp ag
 replace hr4:=hr4.kl hb13
 refine zad (zab) (zad (zai rfl rfl) (zad (zai rfl rfl) (zaD rfl (zar (List.replicate 512 (Value.int .u8 0)) aa (fun g5 w5 hg5 hr5 hb5=>?_)))))
 have lt_jb_g5:jb<g5:=Nat.lt_of_lt_of_le hj.lt hg5
 have lt_mw_g5:mw<g5:=Nat.lt_of_lt_of_le hm.lt hg5
 have lt_g4_g5:g4<g5:=Nat.lt_of_lt_of_le hr4.lt hg5
 replace hp:=hp.newc hb5 hg5 hr5.lt
 replace hLL:=hLL.new hb5
 replace hj:=hj.new hb5
 replace hm:=hm.new hb5
 replace hr4:=hr4.new hb5
 refine zaK rfl (zaQ 512 (bv Gn) hr5 (fun w901 hr5 ho901=>?_))
 replace hp:=hp.only ho901 ai
 replace hLL:=hLL.oq ho901
 replace hj:=hj.only ho901 (Nat.ne_of_lt lt_jb_g5)
 replace hm:=hm.only ho901 (Nat.ne_of_lt lt_mw_g5)
 replace hr4:=hr4.only ho901 (Nat.ne_of_lt lt_g4_g5)
 refine zad (zac) (zae (zaf (zah (zaa (zad (zab) (zao rfl (zaj aa rfl) (zif w901) ?_))))))
 rintro _ _ ⟨rfl,rfl⟩
 refine zae (zaf (zah (zaa (zad (za7 512 hr5) (zaK rfl (zaQ 512 (bv Gn) hr4 (fun w902 hr4 ho902=>?_)))))))
 replace hp:=hp.only ho902 ai
 replace hLL:=hLL.oq ho902
 replace hj:=hj.only ho902 (Nat.ne_of_lt lt_jb_g4)
 replace hm:=hm.only ho902 (Nat.ne_of_lt lt_mw_g4)
 refine zae (zaf (zaF (zan [_] ⟨⟨_,rfl,Ld.zb9 (k:=512) hr4 aa aa ak⟩,trivial⟩ ?_)))
 exact⟨rfl,⟨hp.weak (fun b hb=>by simp at hb ⊢;rcases hb with hb|hb|hb<;>simp[hb]),hj,hm,h.was,h.ne,h.jl,h.ml⟩,hLL⟩
theorem jget44(h:Two (JZ q jb mw N G0 G V k F) Y lo L w)(n:Nat)(hn:n<N):Calls Tryz.prog 44 [.pointer (some ⟨jb,0,none⟩), .int .i64 (n:Int)].toArray w (Ret fun v w'=>v= .agg (bv (G n)).toArray∧Two (JZ q jb mw N G0 G V k F) Y lo L w'∧LoL lo L w w'):=by
 obtain⟨c,h⟩:=zbL h
 exact(zpg h n hn).to fun v w' ⟨h1,h2,h3⟩=>⟨h1,h2.close,h3.weak (Nat.le_refl _) fun b hb=>by simp[hb]⟩
end
section
variable {Y:World→List Nat→Prop}[hYT:Thing Y]{q jb mw N lo:Nat}{L M:List Nat}{G0 G V:Nat→Pg}{k:Nat}{F:Fst}{c:PgM}{w w':World}
set_option maxRecDepth 20000 in
theorem ziM(h:Two (JZ q jb mw N G0 G V k F) Y lo L w)(n:Nat)(hn:n<N)(X:Pg)(hX:X.length=512):Calls Tryz.prog 48 [.pointer (some ⟨jb,0,none⟩), .int .i64 (n:Int), .agg (bv X).toArray].toArray w (Ret fun _ w'=>Two (JZ q jb mw N G0 (ze9 G n X) V k F) Y lo L w'∧LoL lo L w w'):=by
 obtain⟨c,h⟩:=zbL h
 have hjl0:=h.jl
 have hml0:=h.ml
 have hne0:=h.ne
 have hLL:=LoL.refl lo L w
 have hgl:=(zjv h.p).2.2 n hn
 have hnl:=(zjv h.p).1
 have hpu:=fun L' w' (h':Two (GZ q N G V k) Y lo L' w')=>gPut h' n hn hX
 have hjg:=fun L' w' (h':JAt q jb mw N G0 G V k F c Y lo L' w')=>zpg h' n hn
 have hwp:=h.was.put hn hgl X
 obtain⟨G2,hG2⟩:∃ G2,ze9 G n X=G2:=⟨_,rfl⟩
 obtain⟨Gn,hGn⟩:∃ Gn,G n=Gn:=⟨_,rfl⟩
 rw[hG2]at hwp ⊢
 simp only[hG2]at hpu
 rw[hGn]at hgl hwp
 simp only[hGn]at hjg
 have hGl:(bv Gn).length=512:=by rw[zal];exact hgl
 have hXl:(bv X).length=512:=by rw[zal];exact hX
 have hz:zP.length=512:=List.length_replicate
 have hz1:∀ v∈zP,Value.oneCell' v=true:=fun v hv=>by rw[(List.mem_replicate.1 hv).2];rfl
 have hjn:mw≠jb:=Ne.symm h.ne
 cases hcn:c n with
 |some x=>
 have hxl:(bv x).length=512:=by rw[zal];exact h.was.len n x hcn
 have ho:zdG c n=some (.agg (bv x).toArray):=by unfold zdG;rw[hcn];rfl
 rw[hcn,if_pos ay]at hwp
 have hp:=h.p
 have hj:=h.row
 have hm:=h.map
 unfold jV at hj
 refine zax (fn:=Tryz.f48) (rs:=[]) (n:=35) Tryz.func48 rfl rfl Tryz.ntmps48 aa rfl (zah (zaa (zaD rfl (za4 (bv X) rfl (fun g5 w5 hg5 hr5 hb5=>?_)))))
 have sz_g5:=hLL.size
 have lt_jb_g5:jb<g5:=Nat.lt_of_lt_of_le hj.lt hg5
 have lt_mw_g5:mw<g5:=Nat.lt_of_lt_of_le hm.lt hg5
 replace hp:=hp.newc hb5 hg5 hr5.lt
 replace hLL:=hLL.new hb5
 replace hj:=hj.new hb5
 replace hm:=hm.new hb5
 refine zae (zaf (zah (zah (zaa (zad (zab) (zad (zak rfl) (zad (zaw 6) (zad (zau hj) (zad (zab) (zad (zc9 (k:=3) (e:=62) (.agg zP.toArray) (some (.agg (bv x).toArray)) aa aa zlC hm rfl rfl n rfl hn ae ho) (zad (zab) (zad (zai rfl rfl) (zad (zai rfl rfl) (zaD rfl (zar (List.replicate 512 (Value.int .u8 0)) aa (fun g6 w6 hg6 hr6 hb6=>?_))))))))))))))))
 have lt_jb_g6:jb<g6:=Nat.lt_of_lt_of_le hj.lt hg6
 have lt_mw_g6:mw<g6:=Nat.lt_of_lt_of_le hm.lt hg6
 have lt_g5_g6:g5<g6:=Nat.lt_of_lt_of_le hr5.lt hg6
 replace hp:=hp.newc hb6 hg6 hr6.lt
 replace hLL:=hLL.new hb6
 replace hj:=hj.new hb6
 replace hm:=hm.new hb6
 replace hr5:=hr5.new hb6
 refine zaK rfl (zaQ 512 (bv x) hr6 (fun w901 hr6 ho901=>?_))
 replace hp:=hp.only ho901 ai
 replace hLL:=hLL.oq ho901
 replace hj:=hj.only ho901 (Nat.ne_of_lt lt_jb_g6)
 replace hm:=hm.only ho901 (Nat.ne_of_lt lt_mw_g6)
 replace hr5:=hr5.only ho901 (Nat.ne_of_lt lt_g5_g6)
 refine zad (zac) (zae (zaf (zah (zaa (zad (zab) (zad (zbK rfl) (zae (zaf (zgl rfl (rfl) (zat (zaf ?_)))))))))))
 have hg5j:jb≠g5:=by have:=h.row.lt;omega
 refine zct (lo) ((g6::g5::jb::mw::L)) aa ?_
 intro w902 hb902 hn902 hS902
 replace hp:=hp.new hb902
 replace hLL:=hLL.new hb902
 replace hj:=hj.new hb902
 replace hm:=hm.new hb902
 replace hr5:=hr5.new hb902
 replace hr6:=hr6.new hb902
 have hj_d902:=hj
 have hm_d902:=hm
 have hr5_d902:=hr5
 refine zas 0 (zab) (zas 1 (zak rfl) (zas 2 (zaw 5) (zbo 3 (fun w' hS'=>zaG rfl (Ld.zeC (hj_d902.kpd hS' ah) aa rfl)) (zas 4 (zab) (zbo 5 (fun w' hS'=>zaG rfl (Ld.zb9 (k:=512) (hr5_d902.kpd hS' ah) aa aa ak)) (zaA 6 aa (zaU rfl rfl (zaj aa rfl) (hpu _ w902 hp) ?_)))))))
 rintro _ w33 ⟨rfl,hp,hb33⟩
 have hS903:=hS902.zdh hn902 hb33.wk
 refine⟨hS903,?_⟩
 replace hLL:=hLL.lq hb33
 replace hj:=hj.kpd hb33.kp ag
 replace hm:=hm.kpd hb33.kp ag
 replace hr5:=hr5.kl hb33
 replace hr6:=hr6.kl hb33
 refine zdS 7 aa rfl (fun _=>zaj aa rfl) (fun w' hS'=>zif w') (zaI aa (zbk [] trivial ?_))
 exact⟨zjx (hp.weak (fun b hb=>by simp at hb ⊢;rcases hb with hb|hb|hb<;>simp[hb])) hj hm hwp hne0 hjl0 hml0,hLL⟩
 |none=>
 have ho:zdG c n=none:=by unfold zdG;rw[hcn];rfl
 rw[hcn,if_neg ay]at hwp
 have hj:=h.row
 have hm:=h.map
 unfold jV at hj
 refine zax (fn:=Tryz.f48) (rs:=[]) (n:=35) Tryz.func48 rfl rfl Tryz.ntmps48 aa rfl (zah (zaa (zaD rfl (za4 (bv X) rfl (fun g5 w5 hg5 hr5 hb5=>?_)))))
 have sz_g5:=hLL.size
 have lt_jb_g5:jb<g5:=Nat.lt_of_lt_of_le hj.lt hg5
 have lt_mw_g5:mw<g5:=Nat.lt_of_lt_of_le hm.lt hg5
 replace h:=h.newc hb5 hg5 hr5.lt
 replace hLL:=hLL.new hb5
 replace hj:=hj.new hb5
 replace hm:=hm.new hb5
 refine zae (zaf (zah (zah (zaa (zad (zab) (zad (zak rfl) (zad (zaw 6) (zad (zau hj) (zad (zab) (zad (zc9 (k:=3) (e:=62) (.agg zP.toArray) none aa aa zlC hm rfl rfl n rfl hn ae ho) (zad (zab) (zad (zai rfl rfl) (zad (zai rfl rfl) (zaD rfl (zar (List.replicate 512 (Value.int .u8 0)) aa (fun g6 w6 hg6 hr6 hb6=>?_))))))))))))))))
 have lt_jb_g6:jb<g6:=Nat.lt_of_lt_of_le hj.lt hg6
 have lt_mw_g6:mw<g6:=Nat.lt_of_lt_of_le hm.lt hg6
 have lt_g5_g6:g5<g6:=Nat.lt_of_lt_of_le hr5.lt hg6
 replace h:=h.newc hb6 hg6 hr6.lt
 replace hLL:=hLL.new hb6
 replace hj:=hj.new hb6
 replace hm:=hm.new hb6
 replace hr5:=hr5.new hb6
 refine zaK rfl (zaQ 512 (zP) hr6 (fun w901 hr6 ho901=>?_))
 replace h:=h.only ho901 ai
 replace hLL:=hLL.oq ho901
 replace hj:=hj.only ho901 (Nat.ne_of_lt lt_jb_g6)
 replace hm:=hm.only ho901 (Nat.ne_of_lt lt_mw_g6)
 replace hr5:=hr5.only ho901 (Nat.ne_of_lt lt_g5_g6)
 refine zad (zac) (zae (zaf (zah (zaa (zad (zab) (zad (zbK rfl) (zae (zaf (zpT rfl (rfl) ?_)))))))))
 have hml:=h.ml
 have hmr:=hm.lt
 refine zct (lo) ((jb::g6::g5::L)) aa ?_
 intro w902 hb902 hn902 hS902
 replace h:=h.new hb902
 replace hLL:=hLL.new hb902
 replace hj:=hj.new hb902
 replace hm:=hm.new hb902
 replace hr5:=hr5.new hb902
 have hj_d902:=hj
 have hm_d902:=hm
 refine zas 0 (zab) (zas 1 (zak rfl) (zas 2 (zaw 6) (zbo 3 (fun w' hS'=>zaG rfl (Ld.zeC (hj_d902.kpd hS' ah) aa rfl)) (zas 4 (zab) (zas 5 (zab) (zas 6 (zab) (zaA 7 aa (zaU rfl rfl (zaj aa rfl) (hjg _ w902 h) ?_))))))))
 rintro _ w26 ⟨rfl,h,hb26⟩
 have hm:=h.map
 have hj:=h.row
 have hS903:=hS902.zdh hn902 hb26.wk
 refine⟨hS903,?_⟩
 replace hLL:=hLL.lq hb26
 replace hr5:=hr5.kl hb26
 refine zaA 8 aa ?_
 have hp:=h.p
 have hmj:mw∉jb::g6::g5::L:=fun e=>by
  have hml2:=h.ml.2
  simp only[List.mem_cons,not_or]at hml2
  simp only[List.mem_cons]at e
  rcases e with e|e|e|e
  ·exact hjn e
  ·exact hml2.1 e
  ·exact hml2.2.1 e
  ·exact hml2.2.2 e
 have hlom:=h.ml.1
 have hg6m:g6≠mw:=fun e=>h.ml.2 (by rw[←e];simp)
 have hg5m:g5≠mw:=fun e=>h.ml.2 (by rw[←e];simp)
 have hmwL:mw∉L:=fun e=>h.ml.2 aV
 have hjm2:jb≠mw:=h.ne
 refine zbB rfl rfl (zeH (k:=3) (e:=62) (.agg (bv Gn).toArray) aa aa hm rfl rfl rfl (n) aS ae ae (fun w905 hm ho905=>?_))
 have hS904:=hS903.add1 ho905 aj
 refine⟨hS904,?_⟩
 replace hLL:=hLL.oq ho905
 replace hj:=hj.only ho905 ae
 replace hr5:=hr5.only ho905 (Nat.ne_of_gt lt_mw_g5)
 replace hp:=hp.only ho905 ai
 rw[zhJ]at hm
 refine zaI aa (zaf ?_)
 have hg5j:jb≠g5:=by have:=h.row.lt;omega
 refine zct (lo) ((jb::mw::g6::g5::L)) aa ?_
 intro w906 hb906 hn906 hS906
 replace hLL:=hLL.new hb906
 replace hj:=hj.new hb906
 replace hm:=hm.new hb906
 replace hr5:=hr5.new hb906
 replace hp:=hp.new hb906
 have hj_d906:=hj
 have hm_d906:=hm
 have hr5_d906:=hr5
 refine zas 0 (zab) (zas 1 (zak rfl) (zas 2 (zaw 5) (zbo 3 (fun w' hS'=>zaG rfl (Ld.zeC (hj_d906.kpd hS' ah) aa rfl)) (zas 4 (zab) (zbo 5 (fun w' hS'=>zaG rfl (Ld.zb9 (k:=512) (hr5_d906.kpd hS' ah) aa aa ak)) (zaA 6 aa (zaU rfl rfl (zaj aa rfl) (hpu _ w906 hp) ?_)))))))
 rintro _ w33 ⟨rfl,hp,hb33⟩
 have hS907:=hS906.zdh hn906 hb33.wk
 refine⟨hS907,?_⟩
 replace hLL:=hLL.lq hb33
 replace hj:=hj.kpd hb33.kp ag
 replace hm:=hm.kpd hb33.kp ag
 refine zdS 7 aa rfl (fun _=>zaj aa rfl) (fun w' hS'=>zif w') (zaI aa (zbk [] trivial ?_))
 exact⟨zjx (hp.weak (fun b hb=>by simp at hb ⊢;rcases hb with hb|hb|hb<;>simp[hb])) hj hm hwp hne0 hjl0 hml0,hLL⟩
end
def IsV(G:Nat→Pg)(n:Nat)(V:View):Prop:=Good V∧G n=zay V
def zcl(S:Nat→View):Nat→List Nat→Prop
 |n,[]=>n=0
 |n,m::l=>n=m∧n≠0∧zcl S (S m).next l
theorem zcl.drop{S:Nat→View}:∀ {l:List Nat} {n i:Nat},zcl S n l→i<l.length→∃ m,l[i]?=some m∧zcl S m (l.drop i)
 |m::l,n,0,h,_=>⟨m,rfl,by rw[List.drop_zero];exact⟨rfl,h.1▸h.2.1,h.2.2⟩⟩
 |m::l,n,i+1,h,hi=>by
  obtain⟨q,h1,h2⟩:=zcl.drop (i:=i) h.2.2 (by simpa using hi)
  exact⟨q,h1,h2⟩
structure LiOk(G:Nat→Pg)(S:Nat→View)(fresh kind n:Nat)(l:List Nat):Prop where
 ch:zcl S n l
 at_:∀ m∈l,1≤m∧m<fresh∧IsV G m (S m)∧(S m).kind=kind
 len:l.length≤fresh
section
variable {Y:World→List Nat→Prop}[hYT:Thing Y]{q jb mw N lo:Nat}{L:List Nat}{G0 G V:Nat→Pg}{k:Nat}{F:Fst}{c:PgM}{w w':World}
set_option maxRecDepth 20000 in
theorem jof105(h:Two (JZ q jb mw N G0 G V k F) Y lo L w)(n kind:Nat)(hn:1≤n)(hf:n<F.fresh)(hfN:F.fresh≤N){U:View}(hU:IsV G n U)(hk:U.kind=kind):Calls Tryz.prog 105 [.pointer (some ⟨jb,0,none⟩), .int .i64 (n:Int), .int .i64 (kind:Int)].toArray w (Ret fun v w'=>v= .agg (bv (zay U)).toArray∧Two (JZ q jb mw N G0 G V k F) Y lo L w'∧LoL lo L w w'):=by
 have hN:=(zgS h).1
 obtain⟨c,h⟩:=zbL h
 have hLL:=LoL.refl lo L w
 have hQl:=zaR hU.1
 have hjg:=fun L' w' (h':JAt q jb mw N G0 G V k F c Y lo L' w')=>zpg h' n ae
 have hmy:=fun w=>may18 U w hU.1
 have hki:=fun w=>zog U w hU.1
 rw[hk]at hki
 simp only[hU.2]at hjg
 obtain⟨Q,hQ⟩:∃ Q,zay U=Q:=⟨_,rfl⟩
 rw[hQ]at hQl ⊢
 simp only[hQ]at hjg hmy hki
 have hj:=h.row
 have hjl0:=h.jl
 unfold jV at hj
 refine zax (fn:=Tryz.f105) (rs:=[.cell 6 62]) (n:=33) Tryz.func105 rfl rfl Tryz.ntmps105 aa rfl (zah (zaa (zaD rfl (zar (List.replicate 512 (Value.int .u8 0)) aa (fun g6 w6 hg6 hr6 hb6=>?_)))))
 replace h:=h.newc hb6 hg6 hr6.lt
 replace hLL:=hLL.new hb6
 replace hj:=hj.new hb6
 refine zae (zaf (zah (zaa (zad (zab) (zad (zcH rfl rfl) (zad (zab) (zeA 10 rfl (ae) (zaq rfl (zad (zab) (zaq rfl (zad (zab) (zaq rfl (zad (zak rfl) (zaq rfl (zad (zaw 0) (zaq rfl (zad (zaw 0) (zaq rfl (zad (zau hj) (zaq rfl (zad (zaY rfl rfl) (zad (zaC rfl) (zao rfl (zaj aa rfl) (zgL ae w6) ?_)))))))))))))))))))))))
 rintro _ _ ⟨rfl,rfl⟩
 refine zae (zaf (zah (zaa (zad (zab) (zad (zab) (zao rfl (zaj aa rfl) (hjg _ w6 h) ?_))))))
 rintro _ w22 ⟨rfl,h,hb22⟩
 have hj:=h.row
 replace hLL:=hLL.lq hb22
 replace hr6:=hr6.kl hb22
 refine zaD rfl (zar (List.replicate 512 (Value.int .u8 0)) aa (fun g7 w7 hg7 hr7 hb7=>?_))
 have lt_g6_g7:g6<g7:=Nat.lt_of_lt_of_le hr6.lt hg7
 replace h:=h.newc hb7 hg7 hr7.lt
 replace hLL:=hLL.new hb7
 replace hr6:=hr6.new hb7
 refine zaK rfl (zaQ 512 (bv Q) hr7 (fun w901 hr7 ho901=>?_))
 replace h:=h.only ho901 ai
 replace hLL:=hLL.oq ho901
 replace hr6:=hr6.only ho901 (Nat.ne_of_lt lt_g6_g7)
 refine zae (zaf (zah (zaa (zad (za7 512 hr7) (zao rfl (zaj aa rfl) (hmy w901) ?_)))))
 rintro _ w24 ⟨rfl,hb24⟩
 replace h:=h.new hb24
 replace hLL:=hLL.new hb24
 replace hr6:=hr6.new hb24
 replace hr7:=hr7.new hb24
 refine zad (zab) (WR_tb 25 rfl (rfl) (zaq rfl (zad (za7 512 hr7) (zaq rfl (zao rfl (zaj aa rfl) (hki w24) ?_)))))
 rintro _ w27 ⟨rfl,hb27⟩
 replace h:=h.new hb27
 replace hLL:=hLL.new hb27
 replace hr6:=hr6.new hb27
 replace hr7:=hr7.new hb27
 refine zaq rfl (zad (zab) (zaq rfl (zad (za5 rfl rfl) (zad (zaC rfl) (zao rfl (zaj aa rfl) (zgL rfl w27) ?_)))))
 rintro _ _ ⟨rfl,rfl⟩
 refine zae (zaf (zah (zaa (zad (za7 512 hr7) (zaK rfl (zaQ 512 (bv Q) hr6 (fun w902 hr6 ho902=>?_)))))))
 replace h:=h.only ho902 ai
 replace hLL:=hLL.oq ho902
 refine zae (zaf (zaF (zan [_] ⟨⟨_,rfl,Ld.zb9 (k:=512) hr6 aa aa ak⟩,trivial⟩ ?_)))
 exact⟨rfl,(h.weak (fun b hb=>by simp[hb])).close,hLL⟩
end
def liX(S:Nat→View)(l:List Nat):List (List Value):=l.map fun(n:Nat)=>[.int .i64 (n:Int), .agg (bv (zay (S n))).toArray]
set_option maxRecDepth 20000 in
set_option maxHeartbeats 1000000 in
theorem listSeq{q jb mw N lo:Nat}{G0 G V:Nat→Pg}{k0:Nat}{F:Fst}{S:Nat→View}{kind n:Nat}{l:List Nat}(hl:LiOk G S F.fresh kind n l)(hfN:F.fresh≤N)(g1 g2 g3:Nat)(w:World)(r1:row w g1 [.int .i64 (n:Int)] 3)(r2:row w g2 [.pointer (some ⟨jb,0,none⟩)] 81)(r3:row w g3 [.int .i64 (kind:Int)] 3):
   SeqZ Tryz.prog 108 [.pointer (some ⟨g1,0,none⟩), .pointer (some ⟨g2,0,none⟩), .pointer (some ⟨g3,0,none⟩)] (liX S l) [g1,g2,g3] (JZ q jb mw N G0 G V k0 F) lo w:=by
 intro α Y hYT E ly J Jx W L hks hJ hJx hE hy a hT h0
 have hN:=(zgS hT).1
 have r1W:row W g1 [.int .i64 (n:Int)] 3:=(hks g1 ay).2.trans r1
 have r2W:row W g2 [.pointer (some ⟨jb,0,none⟩)] 81:=(hks g2 ay).2.trans r2
 have r3W:row W g3 [.int .i64 (kind:Int)] 3:=(hks g3 ay).2.trans r3
 have hm1:=(hks g1 ay).1
 have hm2:=(hks g2 ay).1
 have hm3:=(hks g3 ay).1
 obtain⟨c,h⟩:=zbL hT
 have hj:=h.row
 unfold jV at hj
 obtain⟨fr0,hfr⟩:∃ fr0,F.fresh=fr0:=⟨_,rfl⟩
 rw[hfr]at hj
 have hll:=hl.len
 rw[hfr]at hll hfN
 have hxl:(liX S l).length=l.length:=List.length_map ..
 rw[hxl]
 have hBW:=Below.refl W.heap.size W
 refine zax (fn:=Tryz.f108) (rs:=[]) (n:=32) Tryz.func108 rfl rfl Tryz.ntmps108 aa rfl (zah (zaa (zad (zau r1W) (zad (zac) (zae (zaf (zah (zah (zaa (zad (zau r2W) (zad (zak rfl) (zad (zaw 0) (zad (zaw 0) (zad (zau hj) (zad (zab) (zae (zaf (zav ?_))))))))))))))))))
 refine zbq (α:=Nat × Nat × α) (0,n,a) (fun k=>[(0, .func (.yield ly) #[] #[]),(1, .pointer (some ⟨g1,0,none⟩)),(2, .pointer (some ⟨g2,0,none⟩)),(3, .pointer (some ⟨g3,0,none⟩)),(5, .int .i64 (k.2.1:Int)),(12, .int .i64 (fr0:Int)),(13, .int .i64 (k.1:Int))])
   (fun k w'=>k.1≤l.length∧zcl S k.2.1 (l.drop k.1)∧Two (JZ q jb mw N G0 G V k0 F) Y lo (E k.2.2++L) w'∧J k.1 k.2.2 w'∧row w' g2 [.pointer (some ⟨jb,0,none⟩)] 81∧row w' g3 [.int .i64 (kind:Int)] 3∧row w' g1 [.int .i64 (n:Int)] 3∧W.heap.size≤w'.heap.size) (fun k=>fr0 - k.1)
   ⟨rfl,rfl,rfl,rfl,rfl,rfl,rfl,rfl⟩ ⟨Nat.zero_le _,hl.ch,hT,h0,r2W,r3W,r1W,Nat.le_refl _⟩ ?_
 rintro⟨i,cur,a1⟩ f wr ⟨hi,hch,hTr,hJr,hr2,hr3,hr1,hsz⟩
 dsimp only at*
 have hBr:=Below.refl wr.heap.size wr
 have hTr0:=hTr
 have hlr:=LoL.refl lo (E a1++L) wr
 refine zah (zaa (zad (zaY rfl rfl) (zae (zaf (zah (za0 rfl (fun hlt=>?_) (fun hlt=>?_)))))))
 ·
  refine zat (zaf (zah (zav (zah (zah (zaa (zad (zab) (zad (za5 rfl rfl) (zae (zaf (za0 rfl (fun hc0=>?_) (fun hc0=>?_))))))))))))
  ·
   refine zaF (zaW (zbc (zaW (zeb (zbc (zaW (zan [] trivial ?_)))))))
   have hcur:cur=0:=by omega
   have hdn:l.drop i=[]:=by
    cases hd:l.drop i with
    |nil=>rfl
    |cons m t=>rw[hd]at hch;exact absurd hcur hch.2.1
   have hil:l.length≤i:=List.drop_eq_nil_iff.1 hdn
   have hie:i=l.length:=by omega
   exact .inl ⟨a1,hTr,hie▸hJr⟩
  ·
   have hil:i<l.length:=by
    rcases Nat.lt_or_ge i l.length with h|h
    ·exact h
    ·rw[List.drop_eq_nil_iff.2 h]at hch
     have hc1:cur=0:=hch
     omega
   have hobt:=hl.ch.drop hil
   obtain⟨m,hm,hch2⟩:=hobt
   have hcm:cur=m:=by
    cases hd:l.drop i with
    |nil=>rw[hd]at hch hch2;have:=hch;have h2:m=0:=hch2;have h3:cur=0:=hch;omega
    |cons m2 t=>rw[hd]at hch hch2;rw[hch.1,hch2.1]
   subst hcm
   have hmem:cur∈l:=List.mem_of_getElem? hm
   have hobt:=hl.at_ cur hmem
   obtain⟨ha1,ha2,ha3,ha4⟩:=hobt
   have hnx:zcl S (S cur).next (l.drop (i+1)):=by
    have hd:=List.drop_eq_getElem_cons hil
    rw[hd]at hch
    have e:l[i]=cur:=by rw[List.getElem?_eq_getElem hil]at hm;exact Option.some.inj hm
    rw[e]at hch
    exact hch.2.2
   have hxk:(liX S l)[i]?=some [.int .i64 (cur:Int), .agg (bv (zay (S cur))).toArray]:=by unfold liX;rw[List.getElem?_map,hm];rfl
   have hof:=fun L' w' (h':Two (JZ q jb mw N G0 G V k0 F) Y lo L' w')=>jof105 h' cur kind ha1 ha2 ae ha3 ha4
   have hnx20:=fun w=>zoh (S cur) w ha3.1
   have hQl:=zaR ha3.1
   have hobt:∃ Q,zay (S cur)=Q:=⟨_,rfl⟩
   obtain⟨Q,hQ⟩:=hobt
   have hobt:∃ nx,(S cur).next=nx:=⟨_,rfl⟩
   obtain⟨nx,hnxe⟩:=hobt
   rw[hQ]at hQl hxk
   simp only[hQ]at hof hnx20
   simp only[hnxe]at hnx hnx20
   refine zat (zaf (zah (zaa (zad (zau hr2) (zad (zab) (zad (zau hr3) (zao rfl (zaj aa rfl) (hof _ wr hTr) ?_)))))))
   rintro _ w20 ⟨rfl,hTr,hb20⟩
   have hJ20:=hJ _ _ _ _ hJr hb20
   replace hr1:=hr1.kl hb20
   replace hr2:=hr2.kl hb20
   replace hr3:=hr3.kl hb20
   have hBs:=Below.refl (w20).heap.size w20
   refine zaD rfl (zar (List.replicate 512 (Value.int .u8 0)) aa (fun g6 w6 hg6 hr6 hb6=>?_))
   have ge_hBs_g6:=Nat.le_trans hBs.size hg6
   have lt_g1_g6:g1<g6:=Nat.lt_of_lt_of_le hr1.lt hg6
   have lt_g2_g6:g2<g6:=Nat.lt_of_lt_of_le hr2.lt hg6
   have lt_g3_g6:g3<g6:=Nat.lt_of_lt_of_le hr3.lt hg6
   replace hTr:=hTr.newc hb6 hg6 hr6.lt
   replace hr1:=hr1.new hb6
   replace hr2:=hr2.new hb6
   replace hr3:=hr3.new hb6
   replace hBs:=hBs.acc hb6
   refine zaK rfl (zaQ 512 (bv Q) hr6 (fun w901 hr6 ho901=>?_))
   replace hTr:=hTr.only ho901 ai
   replace hr1:=hr1.only ho901 (Nat.ne_of_lt lt_g1_g6)
   replace hr2:=hr2.only ho901 (Nat.ne_of_lt lt_g2_g6)
   replace hr3:=hr3.only ho901 (Nat.ne_of_lt lt_g3_g6)
   replace hBs:=ho901.below hBs ge_hBs_g6
   refine zae (zaf (zah (zah (zaa (zad (zab) (zad (zab) (zad (za7 512 hr6) ?_)))))))
   have hz1:=hb20.size
   have hEL:∀ b∈E a1,b∉[g6,g1,g2,g3]:=fun b hb hm=>by
    rcases List.mem_cons.1 hm with e|e
    ·have:=hTr0.lt b aH;omega
    ·exact hE _ _ _ hJr b hb e
   have hYk:=hy i _ a1 w901 [g6,g1,g2,g3] hxk (fun b hb=>(List.mem_cons.1 hb).elim (fun e=>.inr ae) .inl) hEL (hTr.weak fun b hb=>by simp only[List.cons_append,List.nil_append,List.mem_append,List.mem_cons]at hb ⊢;rcases hb with rfl|rfl|rfl|rfl|hb|hb<;>simp[*]) (hJ _ _ _ _ hJ20 (LoL.of_below hBs))
   refine zi3 (vl:=[.int .i64 (cur:Int), .agg (bv Q).toArray]) rfl rfl hYk ?_
   rintro e wy (⟨rfl,⟨a2,hT2,hJ2⟩,hky,hsy⟩|⟨rfl,hJxy⟩)
   ·refine⟨_,rfl,?_⟩
    have hr6y:row wy g6 (bv Q) 62:=(hky g6 ay).trans hr6
    have hr1y:row wy g1 [.int .i64 (n:Int)] 3:=(hky g1 ay).trans hr1
    have hr2y:row wy g2 [.pointer (some ⟨jb,0,none⟩)] 81:=(hky g2 ay).trans hr2
    have hr3y:row wy g3 [.int .i64 (kind:Int)] 3:=(hky g3 ay).trans hr3
    have hBy:=Below.refl wy.heap.size wy
    refine zad (zbK rfl) (zae (zaf (W_f rfl (zat (zaf (zaa (zad (za7 512 hr6y) (zao rfl (zaj aa rfl) (hnx20 wy) ?_))))))))
    rintro _ w27 ⟨rfl,hb27⟩
    replace hBy:=hBy.acc hb27
    refine zad (zac) (zae (zaP (zaf (zaa (zad (zaO rfl rfl (show IntKind.i64.wrap ((i:Int)+1)=((i+1:Nat):Int) by rw[w64 ae];omega)) (zad (zab) (zae ?_)))))))
    have hlw:LoL lo (E a2++L) wy w27:=LoL.of_below hBy
    refine za2 ⟨(i+1,nx,a2),by show fr0 - (i+1)<fr0 - i;omega,⟨rfl,rfl,rfl,rfl,rfl,rfl,rfl,rfl⟩,by show i+1≤_;omega,hnx,(hT2.new hBy).weak (fun b hb=>by simp only[List.mem_append]at hb ⊢;exact .inr hb),hJ _ _ _ _ hJ2 hlw,hr2y.new hBy,hr3y.new hBy,hr1y.new hBy,?_⟩
    have:=hBs.size
    have:=hBy.size
    omega
   ·refine⟨_,rfl,?_⟩
    refine zad (zbK rfl) (zae (zaf (W_t rfl (zaF (zaW (zbc (zaW (zeb (zbc (zaW (zan [] trivial ?_)))))))))))
    exact .inr hJxy
 ·
  have hie:i=l.length:=by omega
  have hcur:cur=0:=by rw[hie,List.drop_length]at hch;exact hch
  refine zbh (zbC (zbH (zbl (zaf (zaa (zad (zab) (zad (za5 rfl rfl) (zao rfl (zaj aa rfl) (zgL ae wr) ?_))))))))
  rintro _ _ ⟨rfl,rfl⟩
  refine cK ?_
  exact .inl ⟨a1,hTr,hie▸hJr⟩
set_option maxRecDepth 20000 in
theorem ziN{q jb mw N lo:Nat}{G0 G V:Nat→Pg}{k0:Nat}{F:Fst}{S:Nat→View}{kind n:Nat}{l:List Nat}(hl:LiOk G S F.fresh kind n l)(hfN:F.fresh≤N)(w:World):
  Calls Tryz.prog 60 [.pointer (some ⟨jb,0,none⟩), .int .i64 (n:Int), .int .i64 (kind:Int)].toArray w (Ret fun v w'=>∃ g1 g2 g3,v= .func (.func 108) #[] [.pointer (some ⟨g1,0,none⟩), .pointer (some ⟨g2,0,none⟩), .pointer (some ⟨g3,0,none⟩)].toArray∧
   (∀ b∈[g1,g2,g3],w.heap.size≤b∧b<w'.heap.size)∧Below w.heap.size w w'∧SeqZ Tryz.prog 108 [.pointer (some ⟨g1,0,none⟩), .pointer (some ⟨g2,0,none⟩), .pointer (some ⟨g3,0,none⟩)] (liX S l) [g1,g2,g3] (JZ q jb mw N G0 G V k0 F) lo w'):=by
 have hB:=Below.refl w.heap.size w
 refine zax (fn:=Tryz.f60) (rs:=[.tmp 6]) (n:=8) Tryz.func60 rfl rfl Tryz.ntmps60 aa rfl (zah (zaa (zaD rfl (za4 ([_]) rfl (fun g3 w3 hg3 hr3 hb3=>?_)))))
 have ge_hB_g3:=Nat.le_trans hB.size hg3
 replace hB:=hB.acc hb3
 refine zaD rfl (za4 ([_]) rfl (fun g4 w4 hg4 hr4 hb4=>?_))
 have ge_hB_g4:=Nat.le_trans hB.size hg4
 have lt_g3_g4:g3<g4:=Nat.lt_of_lt_of_le hr3.lt hg4
 replace hr3:=hr3.new hb4
 replace hB:=hB.acc hb4
 refine zaD rfl (za4 ([_]) rfl (fun g5 w5 hg5 hr5 hb5=>?_))
 have ge_hB_g5:=Nat.le_trans hB.size hg5
 have lt_g3_g5:g3<g5:=Nat.lt_of_lt_of_le hr3.lt hg5
 have lt_g4_g5:g4<g5:=Nat.lt_of_lt_of_le hr4.lt hg5
 replace hr3:=hr3.new hb5
 replace hr4:=hr4.new hb5
 replace hB:=hB.acc hb5
 refine dE ?_
 have hgs:=hB.size
 exact⟨g4,g3,g5,rfl,fun b hb=>by
  have h3:=hr3.lt
  have h4:=hr4.lt
  have h5:=hr5.lt
  simp only[List.mem_cons,List.not_mem_nil,or_false]at hb
  rcases hb with rfl|rfl|rfl<;>omega,hB,listSeq hl hfN g4 g3 g5 _ hr4 hr3 hr5⟩
section
variable {Y:World→List Nat→Prop}[hYT:Thing Y]{q jb mw N lo:Nat}{L M:List Nat}{G0 G V:Nat→Pg}{k:Nat}{F F2:Fst}{c:PgM}{w w':World}
theorem JAt.setF(h:JAt q jb mw N G0 G V k F c Y lo L w)(hr:Coup.row w' jb (jV F2 q mw) 86)(ho:Only jb w w'):JAt q jb mw N G0 G V k F2 c Y lo L w':=
 ⟨h.p.only ho (.inr ay),hr,h.map.only ho (Ne.symm h.ne),h.was,h.ne,h.jl,h.ml⟩
omit hYT in
theorem JAt.zg3(h:JAt q jb mw N G0 G V k F c Y lo L w):Coup.row w jb [.int .i64 (F.fresh:Int), .int .i64 (F.free:Int), .int .i64 (F.many:Int), .int .i64 (F.records:Int), .int .i64 (F.root:Int), .pointer (some ⟨q,0,none⟩), .map (some mw)] 86:=h.row
def zdX(kind:Nat):View:=⟨kind,0,[]⟩
theorem zbQ{kind:Nat}(h:kind≤4):Good (zdX kind):=⟨h,(by show(0:Nat)<2147483648;omega),(by show 12+4*0+0≤512;omega),(fun r hr=>by cases hr),(by simp[zdX])⟩
theorem newK(kind:Nat)(hk:kind≤4)(w:World):Calls Tryz.prog 106 [.int .i64 (kind:Int)].toArray w (Ret fun v w'=>v= .tuple #[.agg (bv (zay (zdX kind))).toArray, .int .i64 0]∧Below w.heap.size w w'):=
 (new7 (kind:Int) w).to fun v w' ⟨h1,h2⟩=>⟨by rw[h1,if_pos ae,Int.toNat_natCast];rfl,h2⟩
def F1(F:Fst)(nx:Nat):Fst:=⟨F.fresh,nx,F.many - 1,F.records,F.root⟩
def F2f(F:Fst):Fst:=⟨F.fresh+1,F.free,F.many,F.records,F.root⟩
set_option maxRecDepth 20000 in
theorem giveA(h:Two (JZ q jb mw N G0 G V k F) Y lo L w)(kind:Nat)(hk:kind≤4)(hf0:1≤F.free)(hff:F.free<F.fresh)(hfN:F.fresh≤N)(hm1:1≤F.many)(hm2:F.many≤N){U:View}(hU:IsV G F.free U)(hU0:U.kind=0):
  Calls Tryz.prog 51 [.pointer (some ⟨jb,0,none⟩), .int .i64 (kind:Int)].toArray w (Ret fun v w'=>v= .int .i64 (F.free:Int)∧Two (JZ q jb mw N G0 (ze9 G F.free (zay (zdX kind))) V k (F1 F U.next)) Y lo L w'∧LoL lo L w w'):=by
 have hN:=(zgS h).1
 have hQl0:=zbv (zdX kind) (zbQ hk).size
 have hQl:=zaR (zbQ hk)
 have hUl:=zaR hU.1
 have hnk:=newK kind hk
 have hset:∀ n (hn:n<N) F L' w' (h':Two (JZ q jb mw N G0 G V k F) Y lo L' w'),Calls Tryz.prog 48 [.pointer (some ⟨jb,0,none⟩), .int .i64 (n:Int), .agg (bv (zay (zdX kind))).toArray].toArray w' (Ret fun _ w2=>Two (JZ q jb mw N G0 (ze9 G n (zay (zdX kind))) V k F) Y lo L' w2∧LoL lo L' w' w2):=fun n hn F L' w' h'=>ziM h' n hn _ hQl0
 have hof:=fun L' w' (h':Two (JZ q jb mw N G0 G V k F) Y lo L' w')=>jof105 h' F.free 0 hf0 hff hfN hU hU0
 have hnx:=fun w=>zoh U w hU.1
 obtain⟨Q,hQ⟩:∃ Q,zay (zdX kind)=Q:=⟨_,rfl⟩
 obtain⟨QU,hQU⟩:∃ QU,zay U=QU:=⟨_,rfl⟩
 simp only[hQ]at hset hnk hQl hQl0 ⊢
 simp only[hQU]at hof hnx hUl
 obtain⟨fr,fe,ma,re,ro⟩:=F
 dsimp only at hf0 hff hfN hm1 hm2 hof ⊢
 obtain⟨c,h⟩:=zbL h
 have hLL:=LoL.refl lo L w
 have hj:=h.zg3
 have hjl0:=h.jl
 obtain⟨hjl1,hjL1⟩:=hjl0
 dsimp only at hj
 refine zax (fn:=Tryz.f51) (rs:=[.tmp 4]) (n:=68) Tryz.func51 rfl rfl Tryz.ntmps51 aa rfl (zah (zaa (zad (zac) (zae (zaf (zah (zaa (zad (zab) (zad (zak rfl) (zad (zaw 0) (zad (zaw 1) (zad (zau hj) (zad (zac) (zae (zaf (zah (zah (zaa (zad (zab) (zad (zaX rfl rfl) (zae (zaf (zgP rfl (ae) (zah (zaa (zad (zab) (zad (zab) (zad (zab) (zao rfl (zaj aa rfl) (hof _ w h.close) ?_)))))))))))))))))))))))))))))
 rintro _ w18 ⟨rfl,hz,hb18⟩
 obtain⟨c2,h⟩:=zbL hz
 have hj:=h.zg3
 replace hLL:=hLL.lq hb18
 refine zao rfl (zaj aa rfl) (hnx w18) ?_
 rintro _ w19 ⟨rfl,hb19⟩
 replace h:=h.new hb19
 replace hLL:=hLL.new hb19
 replace hj:=hj.new hb19
 refine zad (zak rfl) (zad (zaw 0) (zad (zaw 1) (zaK rfl (zbn hj (fun w901 hj ho901=>?_)))))
 replace hLL:=hLL.oq ho901
 have h:=h.setF (F2:=⟨fr,U.next,ma,re,ro⟩) hj ho901
 refine zae (zaf (zaa (zad (zab) (zad (zak rfl) (zad (zaw 0) (zad (zaw 2) (zad (zau hj) (zad (zcX rfl rfl (show IntKind.i64.wrap ((ma:Int) - 1)=((ma - 1:Nat):Int) by rw[w64 ae];omega)) (zad (zak rfl) (zad (zaw 0) (zad (zaw 2) (zaK rfl (zbn hj (fun w902 hj ho902=>?_))))))))))))))
 replace hLL:=hLL.oq ho902
 have h:=h.setF (F2:=⟨fr,U.next,ma - 1,re,ro⟩) hj ho902
 refine zae (zaf (zah (zaa (zad (zab) (zao rfl (zaj aa rfl) (hnk w902) ?_)))))
 rintro _ w60 ⟨rfl,hb60⟩
 replace hLL:=hLL.new hb60
 replace hj:=hj.new hb60
 replace h:=h.new hb60
 refine zad (zab) (zad (zai rfl rfl) (zad (zai rfl rfl) (zaD rfl (zar (List.replicate 512 (Value.int .u8 0)) aa (fun g6 w6 hg6 hr6 hb6=>?_)))))
 have sz_g6:=hLL.size
 have lt_jb_g6:jb<g6:=Nat.lt_of_lt_of_le hj.lt hg6
 replace hLL:=hLL.new hb6
 replace h:=h.newc hb6 hg6 hr6.lt
 refine zaK rfl (zaQ 512 (bv Q) hr6 (fun w903 hr6 ho903=>?_))
 replace hLL:=hLL.oq ho903
 replace h:=h.only ho903 ai
 refine zad (zac) (zae (zaf (zah (zaa (zad (zab) (zad (zab) (zad (za7 512 hr6) (zao rfl (zaj aa rfl) (hset _ ae _ _ w903 h.close) ?_))))))))
 rintro _ w66 ⟨hz,hb66⟩
 replace hLL:=hLL.lq hb66
 refine dJ ?_
 exact⟨rfl,hz.weak (fun b hb=>by simp[hb]),hLL⟩
set_option maxRecDepth 20000 in
theorem giveB(h:Two (JZ q jb mw N G0 G V k F) Y lo L w)(kind:Nat)(hk:kind≤4)(hf0:F.free=0)(hfN:F.fresh<N):
  Calls Tryz.prog 51 [.pointer (some ⟨jb,0,none⟩), .int .i64 (kind:Int)].toArray w (Ret fun v w'=>v= .int .i64 (F.fresh:Int)∧Two (JZ q jb mw N G0 (ze9 G F.fresh (zay (zdX kind))) V k (F2f F)) Y lo L w'∧LoL lo L w w'):=by
 have hN:=(zgS h).1
 have hQl0:=zbv (zdX kind) (zbQ hk).size
 have hQl:=zaR (zbQ hk)
 have hnk:=newK kind hk
 have hset:∀ n (hn:n<N) F L' w' (h':Two (JZ q jb mw N G0 G V k F) Y lo L' w'),Calls Tryz.prog 48 [.pointer (some ⟨jb,0,none⟩), .int .i64 (n:Int), .agg (bv (zay (zdX kind))).toArray].toArray w' (Ret fun _ w2=>Two (JZ q jb mw N G0 (ze9 G n (zay (zdX kind))) V k F) Y lo L' w2∧LoL lo L' w' w2):=fun n hn F L' w' h'=>ziM h' n hn _ hQl0
 have hpg:=fun L' w' (h':Two (GZ q N G V k) Y lo L' w')=>zkU h'
 obtain⟨Q,hQ⟩:∃ Q,zay (zdX kind)=Q:=⟨_,rfl⟩
 simp only[hQ]at hset hnk hQl hQl0 ⊢
 obtain⟨fr,fe,ma,re,ro⟩:=F
 dsimp only at hf0 hfN ⊢
 subst hf0
 obtain⟨c,h⟩:=zbL h
 have hLt:∀ b∈L,b<w.heap.size:=fun b hb=>h.p.lt b aH
 have hlo0:=h.p.lo
 have hLL:=LoL.refl lo L w
 have hj:=h.zg3
 have hjl0:=h.jl
 obtain⟨hjl1,hjL1⟩:=hjl0
 dsimp only at hj
 refine zax (fn:=Tryz.f51) (rs:=[.tmp 4]) (n:=68) Tryz.func51 rfl rfl Tryz.ntmps51 aa rfl (zah (zaa (zad (zac) (zae (zaf (zah (zaa (zad (zab) (zad (zak rfl) (zad (zaw 0) (zad (zaw 1) (zad (zau hj) (zad (zac) (zae (zaf (zah (zah (zaa (zad (zab) (zad (zaX rfl rfl) (zae (zaf (zcF rfl (ay) (zah (zah (zct (lo) ((jb::L)) aa ?_))))))))))))))))))))))))))
 intro w901 hb901 hn901 hS901
 replace h:=h.new hb901
 replace hLL:=hLL.new hb901
 replace hj:=hj.new hb901
 have hj_d901:=hj
 refine zas 0 (zab) (zas 1 (zak rfl) (zas 2 (zaw 0) (zas 3 (zaw 0) (zbo 4 (fun w' hS'=>zau (hj_d901.kL hS')) (zas 5 (zab) (zas 6 (zak rfl) (zas 7 (zaw 5) (zbo 8 (fun w' hS'=>zau (hj_d901.kL hS')) (zaA 9 aa (zaU rfl rfl (zaj aa rfl) (hpg _ w901 h.p) ?_))))))))))
 rintro _ w41 ⟨rfl,hb41⟩
 have hS902:=hS901.add0 hb41
 refine⟨hS902,?_⟩
 replace h:=h.new hb41
 replace hLL:=hLL.new hb41
 replace hj:=hj.new hb41
 refine zas 10 (za5 rfl rfl) (zaI aa (zaf (zcF rfl (ae) (zat (zaf (zah (zaa (zad (zab) (zad (zak rfl) (zad (zaw 0) (zad (zaw 0) (zad (zau hj) (zad (zac) (zae (zaf (zaa (zad (zab) (zad (zak rfl) (zad (zaw 0) (zad (zaw 0) (zad (zau hj) (zad (zaO rfl rfl (show IntKind.i64.wrap ((fr:Int)+1)=((fr+1:Nat):Int) by rw[w64 ae];omega)) (zad (zak rfl) (zad (zaw 0) (zad (zaw 0) (zaK rfl (zbn hj (fun w903 hj ho903=>?_))))))))))))))))))))))))))))
 replace hLL:=hLL.oq ho903
 have h:=h.setF (F2:=⟨fr+1,0,ma,re,ro⟩) hj ho903
 refine zae (zaf (zah (zaa (zad (zab) (zao rfl (zaj aa rfl) (hnk w903) ?_)))))
 rintro _ w60 ⟨rfl,hb60⟩
 replace hLL:=hLL.new hb60
 replace hj:=hj.new hb60
 replace h:=h.new hb60
 refine zad (zab) (zad (zai rfl rfl) (zad (zai rfl rfl) (zaD rfl (zar (List.replicate 512 (Value.int .u8 0)) aa (fun g6 w6 hg6 hr6 hb6=>?_)))))
 have sz_g6:=hLL.size
 have lt_jb_g6:jb<g6:=Nat.lt_of_lt_of_le hj.lt hg6
 replace hLL:=hLL.new hb6
 replace h:=h.newc hb6 hg6 hr6.lt
 refine zaK rfl (zaQ 512 (bv Q) hr6 (fun w904 hr6 ho904=>?_))
 replace hLL:=hLL.oq ho904
 replace h:=h.only ho904 ai
 refine zad (zac) (zae (zaf (zah (zaa (zad (zab) (zad (zab) (zad (za7 512 hr6) (zao rfl (zaj aa rfl) (hset _ (hfN) _ _ w904 h.close) ?_))))))))
 rintro _ w66 ⟨hz,hb66⟩
 replace hLL:=hLL.lq hb66
 refine dJ ?_
 exact⟨rfl,hz.weak (fun b hb=>by simp[hb]),hLL⟩
set_option maxRecDepth 20000 in
theorem giveC(h:Two (JZ q jb mw N G0 G V k F) Y lo L w)(kind:Nat)(hk:kind≤4)(hf0:F.free=0)(hfN:F.fresh=N):
  Calls Tryz.prog 51 [.pointer (some ⟨jb,0,none⟩), .int .i64 (kind:Int)].toArray w (zg2 (fun _ _=>False) fun cn w'=>cn=pe (zdp 8)∧Two (JZ q jb mw N G0 G V k F) Y lo L w'∧LoL lo L w w'):=by
 have hN:=(zgS h).1
 have hQl0:=zbv (zdX kind) (zbQ hk).size
 have hQl:=zaR (zbQ hk)
 have hnk:=newK kind hk
 have hset:∀ n (hn:n<N) F L' w' (h':Two (JZ q jb mw N G0 G V k F) Y lo L' w'),Calls Tryz.prog 48 [.pointer (some ⟨jb,0,none⟩), .int .i64 (n:Int), .agg (bv (zay (zdX kind))).toArray].toArray w' (Ret fun _ w2=>Two (JZ q jb mw N G0 (ze9 G n (zay (zdX kind))) V k F) Y lo L' w2∧LoL lo L' w' w2):=fun n hn F L' w' h'=>ziM h' n hn _ hQl0
 have hpg:=fun L' w' (h':Two (GZ q N G V k) Y lo L' w')=>zkU h'
 obtain⟨Q,hQ⟩:∃ Q,zay (zdX kind)=Q:=⟨_,rfl⟩
 simp only[hQ]at hset hnk hQl hQl0 ⊢
 obtain⟨fr,fe,ma,re,ro⟩:=F
 dsimp only at hf0 hfN ⊢
 subst hf0
 subst hfN
 obtain⟨c,h⟩:=zbL h
 have hLt:∀ b∈L,b<w.heap.size:=fun b hb=>h.p.lt b aH
 have hlo0:=h.p.lo
 have hLL:=LoL.refl lo L w
 have hj:=h.zg3
 have hjl0:=h.jl
 obtain⟨hjl1,hjL1⟩:=hjl0
 dsimp only at hj
 refine zb6 (fn:=Tryz.f51) (rs:=[.tmp 4]) (n:=68) Tryz.func51 rfl rfl Tryz.ntmps51 aa rfl (zah (zaa (zad (zac) (zae (zaf (zah (zaa (zad (zab) (zad (zak rfl) (zad (zaw 0) (zad (zaw 1) (zad (zau hj) (zad (zac) (zae (zaf (zah (zah (zaa (zad (zab) (zad (zaX rfl rfl) (zae (zaf (zcF rfl (ay) (zah (zah (zct (lo) ((jb::L)) aa ?_))))))))))))))))))))))))))
 intro w901 hb901 hn901 hS901
 replace h:=h.new hb901
 replace hLL:=hLL.new hb901
 replace hj:=hj.new hb901
 have hj_d901:=hj
 refine zas 0 (zab) (zas 1 (zak rfl) (zas 2 (zaw 0) (zas 3 (zaw 0) (zbo 4 (fun w' hS'=>zau (hj_d901.kL hS')) (zas 5 (zab) (zas 6 (zak rfl) (zas 7 (zaw 5) (zbo 8 (fun w' hS'=>zau (hj_d901.kL hS')) (zaA 9 aa (zaU rfl rfl (zaj aa rfl) (hpg _ w901 h.p) ?_))))))))))
 rintro _ w41 ⟨rfl,hb41⟩
 have hS902:=hS901.add0 hb41
 refine⟨hS902,?_⟩
 replace h:=h.new hb41
 replace hLL:=hLL.new hb41
 refine zas 10 (za5 rfl rfl) (zaI aa (zaf (zgP rfl (rfl) (zaa (zcQ rfl (zaj aa rfl) (zpf 8 aD w41) ((fun c w' ⟨hc,hw⟩=>zbs ⟨hc,by rw[←hw];exact h.close,by rw[←hw];exact hLL⟩)) ?_)))))
 rintro _ _ hF
 exact hF.elim
def zd9(F:Fst):View:=⟨0,F.free,[]⟩
def Fb(F:Fst)(n:Nat):Fst:=⟨F.fresh,n,F.many+1,F.records,F.root⟩
set_option maxRecDepth 20000 in
theorem back54(h:Two (JZ q jb mw N G0 G V k F) Y lo L w)(n:Nat)(hn:n<N)(hfe:F.free≤N)(hma:F.many≤N):
  Calls Tryz.prog 54 [.pointer (some ⟨jb,0,none⟩), .int .i64 (n:Int)].toArray w (Ret fun _ w'=>Two (JZ q jb mw N G0 (ze9 G n (zay (zd9 F))) V k (Fb F n)) Y lo L w'∧LoL lo L w w'):=by
 have hN:=(zgS h).1
 have hg0:=zbQ (kind:=0) ae
 have hgb:Good (zd9 F):=⟨hg0.kind,(by show F.free<2147483648;omega),hg0.size,hg0.cell,hg0.last⟩
 have hQl0:=zbv (zd9 F) hgb.size
 have hQl:=zaR hgb
 have hP0:=zaR hg0
 have hnk:=newK 0 ae
 have hlk:∀ w,Calls Tryz.prog 94 [.agg (bv (zay (zdX 0))).toArray, .int .i64 (F.free:Int)].toArray w (Ret fun v w'=>v= .tuple #[.agg (bv (zay (zd9 F))).toArray, .int .i64 0]∧Below w.heap.size w w'):=fun w=>zmc (zdX 0) F.free w hg0 ae
 have hset:∀ F2 L' w' (h':Two (JZ q jb mw N G0 G V k F2) Y lo L' w'),Calls Tryz.prog 48 [.pointer (some ⟨jb,0,none⟩), .int .i64 (n:Int), .agg (bv (zay (zd9 F))).toArray].toArray w' (Ret fun _ w2=>Two (JZ q jb mw N G0 (ze9 G n (zay (zd9 F))) V k F2) Y lo L' w2∧LoL lo L' w' w2):=fun F2 L' w' h'=>ziM h' n hn _ hQl0
 obtain⟨Q,hQ⟩:∃ Q,zay (zd9 F)=Q:=⟨_,rfl⟩
 obtain⟨P0,hP⟩:∃ P0,zay (zdX 0)=P0:=⟨_,rfl⟩
 simp only[hQ]at hset hlk hQl hQl0 ⊢
 simp only[hP]at hnk hlk hP0
 obtain⟨fr,fe,ma,re,ro⟩:=F
 dsimp only at hfe hma hlk ⊢
 obtain⟨c,h⟩:=zbL h
 have hLt:∀ b∈L,b<w.heap.size:=fun b hb=>h.p.lt b aH
 have hlo0:=h.p.lo
 have hLL:=LoL.refl lo L w
 have hj:=h.zg3
 have hjl0:=h.jl
 obtain⟨hjl1,hjL1⟩:=hjl0
 dsimp only at hj
 refine zax (fn:=Tryz.f54) (rs:=[]) (n:=38) Tryz.func54 rfl rfl Tryz.ntmps54 aa rfl (zah (zaa (zao rfl (zaj aa rfl) (hnk w) ?_)))
 rintro _ w7 ⟨rfl,hb7⟩
 replace h:=h.new hb7
 replace hLL:=hLL.new hb7
 replace hj:=hj.new hb7
 refine zad (zab) (zad (zai rfl rfl) (zad (zai rfl rfl) (zaD rfl (zar (List.replicate 512 (Value.int .u8 0)) aa (fun g4 w4 hg4 hr4 hb4=>?_)))))
 have sz_g4:=hLL.size
 have lt_jb_g4:jb<g4:=Nat.lt_of_lt_of_le hj.lt hg4
 replace h:=h.newc hb4 hg4 hr4.lt
 replace hLL:=hLL.new hb4
 replace hj:=hj.new hb4
 refine zaK rfl (zaQ 512 (bv P0) hr4 (fun w901 hr4 ho901=>?_))
 replace h:=h.only ho901 ai
 replace hLL:=hLL.oq ho901
 replace hj:=hj.only ho901 (Nat.ne_of_lt lt_jb_g4)
 refine zad (zac) (zae (zaf (zah ?_)))
 have hsz0:=hLL.size
 have hr4l:=hr4.lt
 have hL4:g4∉jb::L:=fun e=>by
  rcases List.mem_cons.1 e with e|e
  ·omega
  ·have:=hLt _ e;omega
 refine zct (lo) ((jb::L)) aa ?_
 intro w902 hb902 hn902 hS902
 replace h:=h.new hb902
 replace hLL:=hLL.new hb902
 replace hj:=hj.new hb902
 replace hr4:=hr4.new hb902
 have h_d902:=h
 have hLL_d902:=hLL
 have hj_d902:=hj
 have hr4_d902:=hr4
 refine zas 1 (zab) (zas 2 (zak rfl) (zas 3 (zaw 0) (zas 4 (zaw 1) (zbo 5 (fun w' hS'=>zau (hj_d902.kL hS')) (zaA 0 aa (zfP rfl rfl (za7 512 hr4) hS902 (zaA 6 aa (zaU rfl rfl (zaj aa rfl) (hlk w902) ?_))))))))
 rintro _ w17 ⟨rfl,hb17⟩
 have hS904:=hS902.add0 hb17
 refine⟨hS904,?_⟩
 replace h:=h.new hb17
 replace hLL:=hLL.new hb17
 replace hj:=hj.new hb17
 replace hr4:=hr4.new hb17
 refine zas 7 (zab) (zas 8 (zai rfl rfl) (zas 9 (zai rfl rfl) (zaA 10 aa (zbB rfl rfl (zaQ 512 (bv Q) hr4 (fun w906 hr4 ho906=>?_))))))
 have hS905:=hS904.add1 ho906 aj
 refine⟨hS905,?_⟩
 replace h:=h.only ho906 ai
 replace hLL:=hLL.oq ho906
 replace hj:=hj.only ho906 (Nat.ne_of_lt lt_jb_g4)
 refine zaI aa (zaf (zah (zaa (zad (zab) (zad (zab) (zad (za7 512 hr4) (zao rfl (zaj aa rfl) (hset _ _ w906 h.close) ?_)))))))
 rintro _ w23 ⟨hz,hb23⟩
 obtain⟨c2,h⟩:=zbL hz
 have hj:=h.zg3
 dsimp only at hj
 replace hLL:=hLL.lq hb23
 replace hr4:=hr4.kl hb23
 refine zae (zaf (zah (zaa (zad (zab) (zad (zab) (zad (zak rfl) (zad (zaw 0) (zad (zaw 1) (zaK rfl (zbn hj (fun w907 hj ho907=>?_)))))))))))
 replace hLL:=hLL.oq ho907
 replace hr4:=hr4.only ho907 (Nat.ne_of_gt lt_jb_g4)
 have h:=h.setF (F2:=⟨fr,n,ma,re,ro⟩) hj ho907
 refine zae (zaf (zaa (zad (zab) (zad (zak rfl) (zad (zaw 0) (zad (zaw 2) (zad (zau hj) (zad (zaO rfl rfl (show IntKind.i64.wrap ((ma:Int)+1)=((ma+1:Nat):Int) by rw[w64 ae];omega)) (zad (zak rfl) (zad (zaw 0) (zad (zaw 2) (zaK rfl (zbn hj (fun w908 hj ho908=>?_))))))))))))))
 replace hLL:=hLL.oq ho908
 replace hr4:=hr4.only ho908 (Nat.ne_of_gt lt_jb_g4)
 have h:=h.setF (F2:=⟨fr,n,ma+1,re,ro⟩) hj ho908
 refine cK ?_
 exact⟨(h.weak (fun b hb=>by simp[hb])).close,hLL⟩
end
set_option maxRecDepth 20000 in
theorem partsS(jv:Value)(p:Option Addr)(cap:Nat)(b:List UInt8)(w:World)(hc:zaS w p (b.length+1) 1 (bv (0::b)))(hcap:b.length+1≤cap)(hb4:b.length≤1000000):
  Calls Tryz.prog 56 [jv, .slice p (b.length+1) cap].toArray w (Ret fun v w'=>(∃ q cq,v= .tuple #[.slice none 0 0, .slice q b.length cq]∧zaS w' q b.length 1 (bv b)∧b.length≤cq∧∀ g' o',q=some ⟨g',o',none⟩→∃ o2,p=some ⟨g',o2,none⟩)∧Below w.heap.size w w'):=by
 have hB:=Below.refl w.heap.size w
 obtain⟨g,o,rfl,hg⟩:=hc.some ae
 refine zax (fn:=Tryz.f56) (rs:=[.cell 4 32, .cell 5 33]) (n:=89) Tryz.func56 rfl rfl Tryz.ntmps56 aa rfl (zah (zaa (zaD rfl (zar ([Value.slice none 0 0]) aa (fun g4 w4 hg4 hr4 hb4=>?_)))))
 have ge_hB_g4:=Nat.le_trans hB.size hg4
 replace hB:=hB.acc hb4
 refine zaD rfl (zar ([Value.slice none 0 0]) aa (fun g5 w5 hg5 hr5 hb5=>?_))
 have ge_hB_g5:=Nat.le_trans hB.size hg5
 have lt_g4_g5:g4<g5:=Nat.lt_of_lt_of_le hr4.lt hg5
 replace hr4:=hr4.new hb5
 replace hB:=hB.acc hb5
 refine zae (zaf (zah (zaa (zad (zab) (zad (zaB (e:=5) (sz:=1) aa rfl rfl) (zad (zbA rfl rfl) (zad (zab) (zeA 14 rfl (ae) (zaq rfl (zad (zab) (zaq rfl (zad (zaN (e:=5) aa rfl rfl (0) ae ae) (zaq rfl (zad (zaG rfl (Ld.sl1 (hc.below hB (Nat.le_refl _)) aa (show(bv (0::b))[0]?=some (.int .u8 ((0:UInt8).toNat:Int))from rfl))) (zaq rfl (zad (za5 rfl rfl) (zaq rfl (zad (zab) (zeA 19 rfl (rfl) (zaM rfl rfl (zaM rfl rfl (zaM rfl rfl (zaM rfl rfl (zaM rfl rfl (zn2 rfl (zn2 rfl (zn2 rfl (zaM rfl rfl (zaq rfl (zad (zaC rfl) (zad (zaC rfl) (zao rfl (zaj aa rfl) (sound1 w5) ?_))))))))))))))))))))))))))))))))
 rintro _ _ ⟨rfl,rfl⟩
 refine zae (zaf (zah (zah (zaa (zad (zab) (zad (zaN (e:=5) aa rfl rfl (0) ae ae) (zad (zaG rfl (Ld.sl1 (hc.below hB (Nat.le_refl _)) aa (show(bv (0::b))[0]?=some (.int .u8 ((0:UInt8).toNat:Int))from rfl))) (zad (za5 rfl rfl) (zae (zaf (zgP rfl (rfl) (zah (za3 [g4,g5] aa ?_)))))))))))))
 intro w901 hb901 hS901
 replace hr4:=hr4.new hb901
 replace hr5:=hr5.new hb901
 replace hB:=hB.acc hb901
 refine zas 0 (zab) (zas 1 (zc8 (e:=5) (sz:=1) (1) (_) (_) aa rfl ⟨_,_,rfl,rfl⟩ rfl rfl ay ae ae ae) (zaA 2 aa (zbB rfl rfl (zbn hr4 (fun w903 hr4 ho903=>?_)))))
 have hS902:=hS901.aq ho903
 refine⟨hS902,?_⟩
 replace hr5:=hr5.only ho903 (Nat.ne_of_gt lt_g4_g5)
 replace hB:=ho903.below hB ge_hB_g4
 refine zaA 3 aa (zbB rfl rfl (zbn hr5 (fun w905 hr5 ho905=>?_)))
 have hS904:=hS902.aq ho905
 refine⟨hS904,?_⟩
 replace hr4:=hr4.only ho905 (Nat.ne_of_lt lt_g4_g5)
 replace hB:=ho905.below hB ge_hB_g5
 refine zaI aa (zaf (zaF (zaW (zan [_,_] ⟨⟨_,rfl,Ld.zeC hr4 aa rfl⟩,⟨_,rfl,Ld.zeC hr5 aa rfl⟩,trivial⟩ ?_))))
 exact⟨⟨_,_,rfl,zmo (hc.below hB (Nat.le_refl _)) ae hcap,ae,fun g' o' e=>by
  split at e
  ·cases e;exact⟨_,rfl⟩
  ·simp only[Option.map_some,Option.some.injEq]at e
   have e2:=congrArg Addr.block e
   exact⟨o,by rw[←show g=g' from e2]⟩⟩,hB⟩
def nv(l:List Nat):List Value:=l.map fun(n:Nat)=>.int .i64 (n:Int)
theorem nv_len(l:List Nat):(nv l).length=l.length:=List.length_map ..
def zih(pt:Nat→List UInt8)(l:List Nat):List UInt8:=(l.map pt).flatten
structure zlL(G:Nat→Pg)(S:Nat→View)(fresh n x:Nat)(l:List Nat)(pt:Nat→List UInt8):Prop where
 li:LiOk G S fresh 2 x l
 sl:∀ m∈l,(S m).slots=[some (pt m)]
 ln:∀ i m,l[i]?=some m→(pt m).length=min 400 (n - 400*i)
 n1:400≤n
 n2:n≤20000
 nl:l.length=(n+399) / 400
section
variable {Y:World→List Nat→Prop}[hYT:Thing Y]{q jb mw N lo:Nat}{L:List Nat}{G0 G V:Nat→Pg}{k:Nat}{F:Fst}{w:World}
set_option maxRecDepth 20000 in
set_option maxHeartbeats 1000000 in
theorem zmD(h:Two (JZ q jb mw N G0 G V k F) Y lo L w)(hfN:F.fresh≤N){S:Nat→View}{n x:Nat}{l:List Nat}{pt:Nat→List UInt8}(hP:zlL G S F.fresh n x l pt)(p:Option Addr)(cap:Nat)(hc:zaS w p 9 1 (bv (1::(beB 4 n++beB 4 x))))(hcap:9≤cap):
  Calls Tryz.prog 56 [.pointer (some ⟨jb,0,none⟩), .slice p 9 cap].toArray w (Ret fun v w'=>∃ up ub,v= .tuple #[up,ub]∧Two (JZ q jb mw N G0 G V k F) Y lo ((up.ownBlock.toList++ub.ownBlock.toList)++L) w'∧
   zaz w' w.heap.size 3 1 up l.length (nv l)∧zaz w' w.heap.size 5 1 ub n (bv (zih pt l))∧LoL lo L w w'):=by
 have hN:=(zgS h).1
 have hB:=Below.refl w.heap.size w
 obtain⟨gc,oc,rfl,hg⟩:=hc.some ae
 have hn1:=hP.n1
 have hn2:=hP.n2
 have hnl:=hP.nl
 have hx31:x<2048:=by
  cases hl:l with
  |nil=>rw[hl]at hnl;simp at hnl;omega
  |cons m t=>
   have hch:=hP.li.ch
   rw[hl]at hch
   have:=(hP.li.at_ m (by rw[hl];simp)).2.1
   rw[hch.1];omega
 have hc1:∀ w',Below w.heap.size w w'→zaS w' (some ⟨gc,oc+1,none⟩) 4 1 (bv (beB 4 n)):=fun w' hb=>by
  have h9:=(hc.below hb (Nat.le_refl _)).subB 1 4 ae
  rwa [show((1:UInt8)::(beB 4 n++beB 4 x)).drop 1=beB 4 n++beB 4 x from rfl,List.take_left' (zaV _ _)]at h9
 have hc5:∀ w',Below w.heap.size w w'→zaS w' (some ⟨gc,oc+5,none⟩) 4 1 (bv (beB 4 x)):=fun w' hb=>by
  have h9:=(hc.below hb (Nat.le_refl _)).subB 5 4 ae
  rwa [show((1:UInt8)::(beB 4 n++beB 4 x)).drop 5=(beB 4 n++beB 4 x).drop 4 from rfl,List.drop_left' (zaV _ _),List.take_of_length_le bF]at h9
 have hnum:∀ (m:Nat) (hm:m<4294967296) p c w',zaS w' p 4 1 (bv (beB 4 m))→Calls Tryz.prog 107 [.slice p 4 c].toArray w' (Ret fun v w2=>v= .int .i64 (m:Int)∧w'=w2):=fun m hm p c w' h'=>
  (num15 p 4 c _ w' h' ae).to fun v w2 ⟨e,h2⟩=>⟨by rw[e,zg1,Nat.mod_eq_of_lt ae],h2⟩
 have hnd:zeO (n:Int)=(n+399) / 400:=by unfold zeO;rw[if_neg ae,Int.toNat_natCast]
 have hneed:=fun w'=>zmC (n:Int) w'
 simp only[hnd]at hneed
 have hlo0:=h.lo
 have hls:=fun w'=>ziN (q:=q) (jb:=jb) (mw:=mw) (lo:=lo) (G0:=G0) (V:=V) (k0:=k) hP.li hfN w'
 refine zax (fn:=Tryz.f56) (rs:=[.cell 4 32, .cell 5 33]) (n:=89) Tryz.func56 rfl rfl Tryz.ntmps56 aa rfl (zah (zaa (zaD rfl (zar ([Value.slice none 0 0]) aa (fun g4 w4 hg4 hr4 hb4=>?_)))))
 have ge_hB_g4:=Nat.le_trans hB.size hg4
 replace h:=h.newc hb4 hg4 hr4.lt
 replace hB:=hB.acc hb4
 refine zaD rfl (zar ([Value.slice none 0 0]) aa (fun g5 w5 hg5 hr5 hb5=>?_))
 have ge_hB_g5:=Nat.le_trans hB.size hg5
 have lt_g4_g5:g4<g5:=Nat.lt_of_lt_of_le hr4.lt hg5
 replace h:=h.newc hb5 hg5 hr5.lt
 replace hr4:=hr4.new hb5
 replace hB:=hB.acc hb5
 refine zae (zaf (zah (zaa (zad (zab) (zad (zaB (e:=5) (sz:=1) aa rfl rfl) (zad (zbA rfl rfl) (zad (zab) (zeA 14 rfl (ae) (zaq rfl (zad (zab) (zaq rfl (zad (zaN (e:=5) aa rfl rfl (0) ae ae) (zaq rfl (zad (zaG rfl (Ld.sl1 (hc.below hB (Nat.le_refl _)) aa (show(bv (1::(beB 4 n++beB 4 x)))[0]?=some (.int .u8 ((1:UInt8).toNat:Int))from rfl))) (zaq rfl (zad (za5 rfl rfl) (zaq rfl (zad (zab) (zfl 19 rfl (aD) (zaq rfl (zad (zab) (zaq rfl (zad (zaN (e:=5) aa rfl rfl (0) ae ae) (zaq rfl (zad (zaG rfl (Ld.sl1 (hc.below hB (Nat.le_refl _)) aa (show(bv (1::(beB 4 n++beB 4 x)))[0]?=some (.int .u8 ((1:UInt8).toNat:Int))from rfl))) (zaq rfl (zad (za5 rfl rfl) (zaq rfl (zad (zab) (zeA 24 rfl (aD) (zaq rfl (zad (zab) (zaq rfl (zad (zaB (e:=5) (sz:=1) aa rfl rfl) (zaq rfl ?_)))))))))))))))))))))))))))))))))))
 refine zad (za5 rfl rfl) (zaq rfl (zad (zaC rfl) (zaq rfl (zad (zaE rfl) (zad (zaC rfl) (zao rfl (zaj aa rfl) (zgL rfl w5) ?_))))))
 rintro _ _ ⟨rfl,rfl⟩
 refine zae (zaf (zah (zah (zaa (zad (zab) (zad (zaN (e:=5) aa rfl rfl (0) ae ae) (zad (zaG rfl (Ld.sl1 (hc.below hB (Nat.le_refl _)) aa (show(bv (1::(beB 4 n++beB 4 x)))[0]?=some (.int .u8 ((1:UInt8).toNat:Int))from rfl))) (zad (za5 rfl rfl) (zae (zaf (zcF rfl (aD) (zat (zaf (zah (zaa (zad (zab) (zad (zcq (e:=5) (1) (5) (5) (4) aa rfl ⟨_,_,rfl,rfl⟩ ⟨_,_,rfl,rfl⟩ ⟨_,_,rfl,rfl⟩ ay ae ae ae ae ae) (zao rfl (zaj aa rfl) (hnum n ae _ _ w5 (hc1 _ hB)) ?_))))))))))))))))))
 rintro _ _ ⟨rfl,rfl⟩
 refine zaD rfl (zar ([Value.int .i64 0]) aa (fun g6 w6 hg6 hr6 hb6=>?_))
 have ge_hB_g6:=Nat.le_trans hB.size hg6
 have lt_g4_g6:g4<g6:=Nat.lt_of_lt_of_le hr4.lt hg6
 have lt_g5_g6:g5<g6:=Nat.lt_of_lt_of_le hr5.lt hg6
 replace h:=h.newc hb6 hg6 hr6.lt
 replace hr4:=hr4.new hb6
 replace hr5:=hr5.new hb6
 replace hB:=hB.acc hb6
 refine zaK rfl (zbn hr6 (fun w901 hr6 ho901=>?_))
 replace h:=h.only ho901 ai
 replace hr4:=hr4.only ho901 (Nat.ne_of_lt lt_g4_g6)
 replace hr5:=hr5.only ho901 (Nat.ne_of_lt lt_g5_g6)
 replace hB:=ho901.below hB ge_hB_g6
 refine zae (zaf (zah (zaa (zad (zau hr6) (zao rfl (zaj aa rfl) (hneed w901) ?_)))))
 rintro _ _ ⟨rfl,rfl⟩
 refine zad (zbA rfl rfl) (zao rfl (zaj aa rfl) (zgL ae w901) ?_)
 rintro _ _ ⟨rfl,rfl⟩
 refine zae (zaf (zah (zah (zaa (zad (zab) (zad (zab) (zad (zcq (e:=5) (5) (_) (_) (_) aa rfl ⟨_,_,rfl,rfl⟩ rfl rfl ay ae ae ae ae rfl) (zao rfl (zaj aa rfl) (hnum x ae _ _ w901 (hc5 _ hB)) ?_))))))))
 rintro _ _ ⟨rfl,rfl⟩
 have hl40:=hr4.lt
 have hl50:=hr5.lt
 refine zao rfl (zaj aa rfl) (hls w901) ?_
 rintro _ w49 ⟨g1,g2,g3,rfl,hgs,hb49,hseq⟩
 have h:=h.zk8 hb49 hgs
 replace hr4:=hr4.new hb49
 replace hr5:=hr5.new hb49
 replace hr6:=hr6.new hb49
 replace hB:=hB.acc hb49
 refine zae (zaf (zav ?_))
 have hl4:=hr4.lt
 have hl5:=hr5.lt
 have hl6:=hr6.lt
 have hks1:=hgs g1 ay
 have hks2:=hgs g2 ay
 have hks3:=hgs g3 ay
 have hobt:∃ D,(w49).heap.size=D:=⟨_,rfl⟩
 obtain⟨D,hD⟩:=hobt
 have hBs:=hB.size
 have hxs:(liX S l).length=l.length:=by unfold liX;rw[List.length_map]
 refine zdQ (ps:=[50,51]) (L:=[g1,g2,g3]++g6::g5::g4::L) (X:=JZ q jb mw N G0 G V k F) (Y:=Y) (α:=Value × Value) (fun a=>a.1.ownBlock.toList++a.2.ownBlock.toList) D hD (fun _ h=>h) rfl aa hseq (fun v hv=>by unfold liX at hv;obtain⟨m,_,rfl⟩:=List.mem_map.1 hv;rfl) aa ay (fun b hb=>by simp only[List.mem_append];exact .inl hb)
  (fun i a w'=>i≤l.length∧zaz w' (D+2) 3 1 a.1 i (nv (l.take i))∧zaz w' (D+2) 5 1 a.2 (min n (400*i)) (bv (zih pt (l.take i)))∧row w' g4 [a.1] 32∧row w' g5 [a.2] 33∧row w' g6 [.int .i64 (n:Int)] 3∧LoL lo L w w'∧∀ b∈a.1.ownBlock.toList,b∉a.2.ownBlock.toList) (fun _ _=>False)
  ?_ ?_ (fun _ _ _ h=>h.elim) (fun _ _ _ h=>h.elim) ?_ (.slice none 0 0, .slice none 0 0) (h.weak fun b hb=>hb) ⟨Nat.zero_le _,zbp _ _ _ _,(show zaz _ (D+2) 5 1 (.slice none 0 0) (min n (400*0)) (bv (zih pt [])) by rw[Nat.mul_zero,Nat.min_zero];exact zbp _ _ _ _),hr4,hr5,hr6,LoL.of_below hB,fun b hb=>by cases hb⟩ ?_ ?_ (fun c W' h=>h.elim)
 ·rintro i ⟨u1,u2⟩ W W' ⟨h1,h2,h3,h4,h5,h6,h7,h8⟩ hk
  exact⟨h1,h2.kpd hk.kp fun b hb e=>zam (.inr aV) hb,h3.kpd hk.kp fun b hb e=>zam (.inr aV) hb,h4.kpd hk.kp (zam (.inr ay)),h5.kpd hk.kp (zam (.inr ay)),h6.kpd hk.kp (zam (.inr ay)),h7.ll hk fun b hb=>by simp[hb],h8⟩
 ·rintro i ⟨u1,u2⟩ W W' ⟨h1,h2,h3,h4,h5,h6,h7,h8⟩ ho
  exact⟨h1,h2.kpd (Kp.zaZ ho) fun b hb e=>(by have:=(h2.lt b e).1;rw[List.mem_singleton.1 hb]at this;omega),h3.kpd (Kp.zaZ ho) fun b hb e=>(by have:=(h3.lt b e).1;rw[List.mem_singleton.1 hb]at this;omega),h4.only ho ae,h5.only ho ae,h6.only ho ae,h7.only ho aG,h8⟩
 ·rintro i ⟨u1,u2⟩ W ⟨h1,h2,h3,_⟩ b hb hm
  have:D+2≤b:=by
   rcases List.mem_append.1 hb with hb|hb
   ·exact(h2.lt b (Option.mem_toList.1 hb)).1
   ·exact(h3.lt b (Option.mem_toList.1 hb)).1
  simp only[List.mem_cons,List.not_mem_nil,or_false]at hm
  omega
 ·rintro ly i v ⟨up,ub⟩ W1 Lx hv hLx hEx hT1 ⟨hi,hup,hub,h4,h5,h6,hl1,hne⟩ hsz1
  obtain⟨m,hm,rfl⟩:∃ m,l[i]?=some m∧v=[.int .i64 (m:Int), .agg (bv (zay (S m))).toArray]:=by
   unfold liX at hv
   rw[List.getElem?_map]at hv
   have hobt:=Option.map_eq_some_iff.1 hv
   obtain⟨m,hm,e⟩:=hobt
   exact⟨m,hm,e.symm⟩
  have hil:i<l.length:=(List.getElem?_eq_some_iff.1 hm).1
  have hmem:=List.mem_of_getElem? hm
  have hobt:=hP.li.at_ m hmem
  obtain⟨ha1,ha2,ha3,ha4⟩:=hobt
  have hsl:=hP.sl m hmem
  have hln:=hP.ln i m hm
  have hget:=fun w'=>get17 (S m) 0 w' ha3.1
  have hslo:=fun w'=>zoi (S m) w' ha3.1
  have hgr:ziu (S m).slots 0=pt m:=by rw[hsl];rfl
  have hhv:zh2 (S m).slots 0=true:=by rw[hsl];rfl
  have hsle:(S m).slots.length=1:=by rw[hsl];rfl
  simp only[hgr,hhv,if_true]at hget
  simp only[hsle]at hslo
  have hQl:=zaR ha3.1
  have hobt:∃ Q,zay (S m)=Q:=⟨_,rfl⟩
  obtain⟨Q,hQ⟩:=hobt
  simp only[hQ]at hget hslo hQl ⊢
  have hobt:∃ bm,pt m=bm:=⟨_,rfl⟩
  obtain⟨bm,hbm⟩:=hobt
  rw[hbm]at hln
  simp only[hbm]at hget
  have hBa:=Below.refl W1.heap.size W1
  refine zah (zaa (zad (zac) (zae (zaf (zaa (zaD rfl (zar (List.replicate 512 (Value.int .u8 0)) aa (fun g8 w8 hg8 hr8 hb8=>?_))))))))
  have ge_hBa_g8:=Nat.le_trans hBa.size hg8
  replace hT1:=hT1.newc hb8 hg8 hr8.lt
  replace hBa:=hBa.acc hb8
  refine zaK rfl (zaQ 512 (bv Q) hr8 (fun w902 hr8 ho902=>?_))
  replace hT1:=hT1.only ho902 ai
  replace hBa:=ho902.below hBa ge_hBa_g8
  refine zae (⟨rfl,hBa,fun W2 hs=>?_⟩)
  have hsa:=hBa.size
  have hss:=hs.size
  replace hr8:=hr8.only hs ae
  replace hT1:=hT1.only hs (.inr ay)
  replace h4:=(h4.new hBa).only hs ae
  replace h5:=(h5.new hBa).only hs ae
  replace h6:=(h6.new hBa).only hs ae
  replace hl1:=(hl1.new hBa).only hs aG
  replace hup:=Coup.zaz.kpd (hup.new hBa) (Kp.zaZ hs) fun b hb e=>bG
  replace hub:=Coup.zaz.kpd (hub.new hBa) (Kp.zaZ hs) fun b hb e=>bH
  dsimp only at*
  obtain⟨pu,cu,rfl⟩:=hub.form
  have hLr:=LoL.refl lo ((D+1)::D::Lx) W2
  have hg4:(Value.ownBlock up)≠some g4:=fun e=>by have:=(hup.lt _ e).1;omega
  have hg5:(Value.ownBlock up)≠some g5:=fun e=>by have:=(hup.lt _ e).1;omega
  have hx8:g8<W2.heap.size:=hr8.lt
  have hupb:=fun b e=>hup.lt b e
  have hubb:=fun b e=>hub.lt b e
  refine zav (zah (zaa (zad (za7 512 hr8) (zao rfl (zaj aa rfl) (hget W2) ?_))))
  rintro _ w54 ⟨⟨q9,c9,rfl,hq9,hc9,hb9⟩,hb54⟩
  replace hT1:=hT1.new hb54
  replace hr8:=hr8.new hb54
  replace hLr:=hLr.new hb54
  replace hl1:=hl1.new hb54
  replace h4:=h4.new hb54
  replace h5:=h5.new hb54
  replace h6:=h6.new hb54
  replace hup:=hup.new hb54
  replace hub:=hub.new hb54
  refine zad (zab) (zad (zai rfl rfl) (zad (zai rfl rfl) (zad (zac) (zad (zac) (zae (zaf (zah (zaa (zad (zab) (zad (za5 rfl rfl) (zad (zab) (zeA 59 rfl (rfl) (zaq rfl (zad (za7 512 hr8) (zaq rfl (zao rfl (zaj aa rfl) (hslo w54) ?_))))))))))))))))
  rintro _ w61 ⟨rfl,hb61⟩
  replace hT1:=hT1.new hb61
  replace hr8:=hr8.new hb61
  replace hLr:=hLr.new hb61
  replace hl1:=hl1.new hb61
  replace h4:=h4.new hb61
  replace h5:=h5.new hb61
  replace h6:=h6.new hb61
  replace hup:=hup.new hb61
  replace hub:=hub.new hb61
  refine zaq rfl (zad (za5 rfl rfl) (zad (zaC rfl) (zad (zab) (zeA 64 rfl (rfl) (zaq rfl (zad (zab) (zaq rfl (zad (zaB (e:=5) (sz:=1) aa rfl rfl) (zaq rfl (zad (zau h6) (zaq rfl (zad (zau h5) (zaq rfl (zad (zaB (e:=5) (sz:=1) aa rfl rfl) (zaq rfl (zad (zcX rfl rfl (show IntKind.i64.wrap ((n:Int) - ((min n (400*i):Nat):Int))=((n - 400*i:Nat):Int) by rw[w64 ae];omega)) (zaq rfl (zad (zi2 rfl rfl) (zaq rfl (zad (za5 rfl rfl) (zad (zaC rfl) (zao rfl (zaj aa rfl) (zgL ae w61) ?_))))))))))))))))))))))
  rintro _ _ ⟨rfl,rfl⟩
  refine zae (zaf ?_)
  have hz54:=hb54.size
  have hq9s:=hq9.new hb61
  have hz61:=hb61.size
  have hm4:g4∉up.ownBlock.toList++(Value.slice pu (min n (400*i)) cu).ownBlock.toList:=fun hm=>(List.mem_append.1 hm).elim (fun h=>by have:=(hup.lt _ (Option.mem_toList.1 h)).1;omega) (fun h=>by have:=(hub.lt _ (Option.mem_toList.1 h)).1;omega)
  have hm5:g5∉up.ownBlock.toList++(Value.slice pu (min n (400*i)) cu).ownBlock.toList:=fun hm=>(List.mem_append.1 hm).elim (fun h=>by have:=(hup.lt _ (Option.mem_toList.1 h)).1;omega) (fun h=>by have:=(hub.lt _ (Option.mem_toList.1 h)).1;omega)
  refine za3 (up.ownBlock.toList++(Value.slice pu (min n (400*i)) cu).ownBlock.toList) aa ?_
  intro w903 hb903 hS903
  replace hT1:=hT1.new hb903
  replace hLr:=hLr.new hb903
  replace hl1:=hl1.new hb903
  replace h4:=h4.new hb903
  replace h5:=h5.new hb903
  replace h6:=h6.new hb903
  replace hup:=hup.new hb903
  replace hub:=hub.new hb903
  replace hq9s:=hq9s.new hb903
  have hT1_d903:=hT1
  have hLr_d903:=hLr
  have hl1_d903:=hl1
  have h4_d903:=h4
  have h5_d903:=h5
  have h6_d903:=h6
  have hup_d903:=hup
  have hub_d903:=hub
  have hq9s_d903:=hq9s
  refine zbo 0 (fun w' hS'=>zau (h4_d903.kq hS')) (zas 1 (zab) (zbo 4 (fun w' hS'=>zau (h5_d903.kq hS')) (zas 5 (zab) (zaA 2 aa (zby rfl rfl (zdd (e:=3) (.int .i64 (m:Int)) ([.int .i64 (m:Int)]) ([Value.int .i64 0]) 1 aa aa rfl rfl rfl ⟨aD,aD⟩ (fun g77 w77 hg77 hr77 hb77=>?_)))))))
  have hS904:=hS903.add0 hb77
  refine⟨hS904,?_⟩
  have ge_hS903_g77:=Nat.le_trans hS903.size hg77
  have sz_g77:=hLr.size
  have sz_g77:=hl1.size
  have lt_g4_g77:g4<g77:=Nat.lt_of_lt_of_le h4.lt hg77
  have lt_g5_g77:g5<g77:=Nat.lt_of_lt_of_le h5.lt hg77
  have lt_g6_g77:g6<g77:=Nat.lt_of_lt_of_le h6.lt hg77
  replace hT1:=hT1.newc hb77 hg77 hr77.lt
  replace hLr:=hLr.new hb77
  replace hl1:=hl1.new hb77
  replace h4:=h4.new hb77
  replace h5:=h5.new hb77
  replace h6:=h6.new hb77
  replace hup:=hup.new hb77
  replace hub:=hub.new hb77
  replace hq9s:=hq9s.new hb77
  refine zaA 3 aa ?_
  have hs77:=hr77.slA (m:=1) (sz:=1) rfl aC
  have hup0:=hup
  have hub0:=hub
  have hT0:=hT1
  have hz77:=hb77.size
  have hq9t:=hq9s
  have hLr0:=hLr
  have hl10:=hl1
  refine zby rfl rfl (zbf (e:=3) (sz:=1) (bytes:=8) (z:=Value.int .i64 0) aa rfl aa rfl aD rfl hup rfl hs77 aL aC ae (fun hm0=>ae) (fun v78 w78 hv78 hgr78 hfr78=>?_))
  have hS905:=hS904.ownS hup hgr78 aI
  refine⟨hS905,?_⟩
  replace h4:=h4.own hup hgr78 ae
  replace h5:=h5.own hup hgr78 ae
  replace h6:=h6.own hup hgr78 ae
  have hform78:=hv78.form
  obtain⟨p78,c78,rfl⟩:=hform78
  replace hgr78:World.grownBy _ w78 up.ownBlock:=hgr78
  replace hfr78:∀ b,(Value.slice p78 (i+1) c78).ownBlock=some b→up.ownBlock=some b∨_≤b:=hfr78
  have hk78:=Kp.za6 hgr78
  have hT2:=hT0.zoc (fun b hb=>List.mem_cons_of_mem _ <| List.mem_cons_of_mem _ (List.mem_append_right _ (List.mem_append_left _ (List.mem_append_left _ hb)))) hgr78 hfr78 hv78
  have hz78:=hgr78.size
  have hub2:=Coup.zaz.kpd hub0 hk78 (fun b hb e=>hne b hb (Option.mem_toList.2 e))
  have hq9u:=Coup.zaS.kpd hq9t hk78 (fun b o e hm=>by have:=hb9 b o e;have:=hupb b (Option.mem_toList.1 hm);omega)
  refine zld (WAL_mk (i:=6) aa rfl (zbf (e:=5) (sz:=1) (bytes:=1) (z:=Value.int .u8 0) aa rfl aa rfl aD rfl hub2 rfl hq9u (zbV _) aC ae (fun hm0=>ae) (fun v81 w81 hv81 hgr81 hfr81=>?_)))
  replace h4:=h4.own hub2 hgr81 ae
  replace h5:=h5.own hub2 hgr81 ae
  replace h6:=h6.own hub2 hgr81 ae
  have hform81:=hv81.form
  obtain⟨p81,c81,rfl⟩:=hform81
  replace hgr81:World.grownBy _ w81 (Value.slice pu (min n (400*i)) cu).ownBlock:=hgr81
  replace hfr81:∀ b,(Value.slice p81 (min n (400*i)+bm.length) c81).ownBlock=some b→(Value.slice pu (min n (400*i)) cu).ownBlock=some b∨_≤b:=hfr81
  have hk81:=Kp.za6 hgr81
  have hne2:∀ b,(Value.slice p78 (i+1) c78).ownBlock=some b→(Value.slice pu (min n (400*i)) cu).ownBlock≠some b:=fun b e e2=>by
   rcases hfr78 b e with h9|h9
   ·exact hne b (Option.mem_toList.2 h9) (Option.mem_toList.2 e2)
   ·have:=(hubb b e2).2;omega
  have hT3:=hT2.zoc (fun b hb=>List.mem_append_right _ (List.mem_cons_of_mem _ <| List.mem_cons_of_mem _ (List.mem_append_right _ (List.mem_append_left _ (List.mem_append_right _ hb))))) hgr81 hfr81 hv81
  have hv78b:=Coup.zaz.kpd hv78 hk81 (fun b hb e=>hne2 b e (Option.mem_toList.1 hb))
  replace hT3:=hT3
  have hxE:=fun b (hb:b∈up.ownBlock.toList++(Value.slice pu (min n (400*i)) cu).ownBlock.toList)=>hEx b hb
  have hbE:=fun b (hb:b∈up.ownBlock.toList++(Value.slice pu (min n (400*i)) cu).ownBlock.toList)=>(List.mem_append.1 hb).elim (fun h=>(hupb b (Option.mem_toList.1 h)).1) (fun h=>(hubb b (Option.mem_toList.1 h)).1)
  refine znX (i:=7) aa rfl (zbn h4 (fun w906 h4 ho906=>?_))
  replace h5:=h5.only ho906 (Nat.ne_of_gt lt_g4_g5)
  replace h6:=h6.only ho906 (Nat.ne_of_gt lt_g4_g6)
  replace hv81:=hv81.only ho906 ae
  replace hT3:=hT3.only ho906 ai
  replace hv78b:=hv78b.only ho906 ae
  refine znX (i:=8) aa rfl (zbn h5 (fun w907 h5 ho907=>?_))
  replace h4:=h4.only ho907 (Nat.ne_of_lt lt_g4_g5)
  replace h6:=h6.only ho907 (Nat.ne_of_gt lt_g5_g6)
  replace hv81:=hv81.only ho907 ae
  replace hT3:=hT3.only ho907 ai
  replace hv78b:=hv78b.only ho907 ae
  refine zgV aa (zaP ?_)
  have hlD:lo≤D:=by have:=h.lo;omega
  have hgL4:g4∉(D+1)::D::Lx:=fun hm=>by
   simp only[List.mem_cons]at hm
   rcases hm with e|e|e
   ·omega
   ·omega
   ·rcases hLx g4 e with e|e
    ·simp only[List.mem_cons,List.not_mem_nil,or_false]at e
     omega
    ·omega
  have hgL5:g5∉(D+1)::D::Lx:=fun hm=>by
   simp only[List.mem_cons]at hm
   rcases hm with e|e|e
   ·omega
   ·omega
   ·rcases hLx g5 e with e|e
    ·simp only[List.mem_cons,List.not_mem_nil,or_false]at e
     omega
    ·omega
  have hlw:LoL lo ((D+1)::D::Lx) W2 w907:=by
   have h1:=hLr0.kpd hk78 fun b hb=>.inl ⟨by have:=(hupb b (Option.mem_toList.1 hb)).1;omega,fun hm=>by
    have h2:=(hupb b (Option.mem_toList.1 hb)).1
    simp only[List.mem_cons]at hm
    rcases hm with e|e|e
    ·omega
    ·omega
    ·exact hxE b (List.mem_append_left _ hb) e⟩
   have h2:=h1.kpd hk81 fun b hb=>.inl ⟨by have:=(hubb b (Option.mem_toList.1 hb)).1;omega,fun hm=>by
    have h2:=(hubb b (Option.mem_toList.1 hb)).1
    simp only[List.mem_cons]at hm
    rcases hm with e|e|e
    ·omega
    ·omega
    ·exact hxE b (List.mem_append_right _ hb) e⟩
   have h0:=h.lo
   exact(h2.only ho906 (.inr ⟨ae,hgL4⟩)).only ho907 (.inr ⟨ae,hgL5⟩)
  have hlwf:LoL lo L w w907:=(((hl10.kpd hk78 (fun b hb=>.inr (by have:=(hupb b (Option.mem_toList.1 hb)).1;omega))).kpd hk81 (fun b hb=>.inr (by have:=(hubb b (Option.mem_toList.1 hb)).1;omega))).only ho906 aG).only ho907 aG
  have hnv:nv (l.take (i+1))=nv (l.take i)++[.int .i64 (m:Int)]:=by
   unfold nv
   rw[List.take_add_one,hm,List.map_append];rfl
  have hfl:bv (zih pt (l.take (i+1)))=bv (zih pt (l.take i))++bv bm:=by
   unfold zih
   rw[List.take_add_one,hm,List.map_append,List.flatten_append,zcG,←hbm]
   simp
  have hmn:min n (400*i)+bm.length=min n (400*(i+1)):=by omega
  refine⟨hlw,(.slice p78 (i+1) c78, .slice p81 (min n (400*i)+bm.length) c81),hT3.weak fun b hb=>?_,hil,by rw[hnv];exact hv78b,by rw[hfl,←hmn];exact hv81,h4,h5,h6,hlwf,fun b hb hb2=>?_⟩
  ·simp only[List.mem_append,List.mem_cons]at hb ⊢
   rcases hb with h|(h|h)|h
   ·exact .inr (.inr (.inr (.inr (.inl h))))
   ·exact .inr (.inl h)
   ·exact .inl h
   ·exact .inr (.inr (.inr (.inr (.inr (.inr h)))))
  ·rcases hfr81 b (Option.mem_toList.1 hb2)with h9|h9
   ·exact hne2 b (Option.mem_toList.1 hb) h9
   ·have:=(hv78.lt b (Option.mem_toList.1 hb)).2;omega
 ·rintro⟨up,ub⟩ W hTd ⟨hi,hup,hub,h4,h5,h6,hlw,hne⟩ hdef
  dsimp only at*
  rw[hxs]at hup hub
  rw[List.take_length]at hup hub
  rw[show min n (400*l.length)=n by omega]at hub
  obtain⟨pu,cu,rfl⟩:=hub.form
  obtain⟨pu1,cu1,rfl⟩:=hup.form
  have hdf:zju W D:=⟨hdef⟩
  have hg3D:g4<D∧g5<D:=by omega
  refine zaP (zaf (zah (zaa (zad (zau h5) (zad (zaB (e:=5) (sz:=1) aa rfl rfl) (zad (zau h6) (zad (za5 rfl rfl) (zao rfl (zaj aa rfl) (zgL rfl W) ?_))))))))
  rintro _ _ ⟨rfl,rfl⟩
  refine zae (zaf (zah (za3 [g4] aa ?_)))
  intro w908 hb908 hS908
  replace h4:=h4.new hb908
  replace h5:=h5.new hb908
  replace h6:=h6.new hb908
  replace hdf:=hdf.new hb908
  replace hTd:=hTd.new hb908
  replace hlw:=hlw.new hb908
  replace hup:=hup.new hb908
  replace hub:=hub.new hb908
  have h4_d908:=h4
  have h5_d908:=h5
  have h6_d908:=h6
  have hdf_d908:=hdf
  have hTd_d908:=hTd
  have hlw_d908:=hlw
  have hup_d908:=hup
  have hub_d908:=hub
  refine zbo 1 (fun w' hS'=>zau (h5_d908.kq hS')) (zaA 0 aa (zfP rfl rfl (zau h4) hS908 (zaA 2 aa (zbB rfl rfl (zbn h4 (fun w911 h4 ho911=>?_))))))
  have hS910:=hS908.aq ho911
  refine⟨hS910,?_⟩
  replace h5:=h5.only ho911 (Nat.ne_of_gt lt_g4_g5)
  replace h6:=h6.only ho911 (Nat.ne_of_gt lt_g4_g6)
  replace hdf:=hdf.only ho911 ae
  replace hTd:=hTd.only ho911 ai
  replace hlw:=hlw.only ho911 ax
  replace hup:=hup.only ho911 ae
  replace hub:=hub.only ho911 ae
  refine zld (znX (i:=3) aa rfl (zbn h5 (fun w912 h5 ho912=>?_)))
  replace h4:=h4.only ho912 (Nat.ne_of_lt lt_g4_g5)
  replace h6:=h6.only ho912 (Nat.ne_of_gt lt_g5_g6)
  replace hdf:=hdf.only ho912 ae
  replace hTd:=hTd.only ho912 ai
  replace hlw:=hlw.only ho912 ax
  replace hup:=hup.only ho912 ae
  replace hub:=hub.only ho912 ae
  have hxo:Only D w912 (World.putObj w912 D (.deferred none)):=zce _
  refine zgV aa (zaf (zaF (zeS [_,_] D hdf.d ⟨⟨_,rfl,Ld.zeC (h4.only hxo ae) aa rfl⟩,⟨_,rfl,Ld.zeC (h5.only hxo ae) aa rfl⟩,trivial⟩ ?_)))
  have hks4:D+2≤D+2:=Nat.le_refl _
  refine⟨_,_,rfl,(hTd.only hxo (.inr ay)).weak fun b hb=>?_,?_,?_,hlw.only hxo aG⟩
  ·simp only[List.mem_append,List.mem_cons]at hb ⊢
   rcases hb with h|h
   ·exact .inl h
   ·exact .inr (.inr (.inr (.inr (.inr (.inr h)))))
  ·exact zaz.mono (Coup.zaz.kpd hup (Kp.zaZ hxo) fun b hb e=>bG) ae
  ·exact zaz.mono (Coup.zaz.kpd hub (Kp.zaZ hxo) fun b hb e=>bH) ae
end
def oB(q:Option Addr):List Nat:=(q.map Addr.block).toList
theorem oB_some(b o:Nat):oB (some ⟨b,o,none⟩)=[b]:=rfl
theorem zmE{A L:List Nat}{a:Nat}:∀ i∈A++L,i∈A++a::L:=fun i hi=>by
 simp only[List.mem_append,List.mem_cons]at hi ⊢
 exact hi.imp id .inr
theorem oB_new{w:World}{q:Option Addr}{m n:Nat}{cs:List Value}(h:zaS w q m 1 cs)(h0:0<m)(hn:∀ b o,q=some ⟨b,o,none⟩→n≤b):∀ b∈oB q,n≤b∧b<w.heap.size:=fun b hb=>by
 obtain⟨g,o,rfl,hl⟩:=h.some ae
 rw[oB_some,List.mem_singleton]at hb
 subst hb
 exact⟨hn _ _ rfl,hl⟩
section
variable {Y:World→List Nat→Prop}[hYT:Thing Y]{q jb mw N lo:Nat}{L:List Nat}{G0 G V:Nat→Pg}{k:Nat}{F:Fst}{w:World}
set_option maxRecDepth 20000 in
theorem findC(h:Two (JZ q jb mw N G0 G V k F) Y lo L w)(n:Nat)(s:Int)(h1:1≤n)(hf:n<F.fresh)(hfN:F.fresh≤N){U:View}(hU:IsV G n U)(hh:zh2 U.slots s=true)(hk1:U.kind=1)(hpos:0<(ziu U.slots s).length):
  Calls Tryz.prog 42 [.pointer (some ⟨jb,0,none⟩), .agg #[.int .i64 (n:Int), .int .i64 s]].toArray w (Ret fun v w'=>∃ qa cc,v= .slice qa (ziu U.slots s).length cc∧zaS w' qa (ziu U.slots s).length 1 (bv (ziu U.slots s))∧(ziu U.slots s).length≤cc∧
   Two (JZ q jb mw N G0 G V k F) Y lo (oB qa++L) w'∧LoL lo L w w'):=by
 have hN:=(zgS h).1
 have hjg:=fun c L' w' (h':JAt q jb mw N G0 G V k F c Y lo L' w')=>zpg h' n ae
 have hge:=fun w'=>get17 U s w' hU.1
 have hki:=fun w'=>zog U w' hU.1
 have hQl:=zaR hU.1
 simp only[hU.2]at hjg
 obtain⟨Q,hQ⟩:∃ Q,zay U=Q:=⟨_,rfl⟩
 obtain⟨kd,hkd⟩:∃ kd,U.kind=kd:=⟨_,rfl⟩
 obtain⟨cb,hcb⟩:∃ cb,ziu U.slots s=cb:=⟨_,rfl⟩
 simp only[hQ]at hjg hge hki hQl
 simp only[hkd]at hki hk1
 simp only[hcb]at hge ⊢
 rw[hcb]at hpos
 simp only[hh]at hge
 obtain⟨c,h⟩:=zbL h
 have hLL:=LoL.refl lo L w
 have hj:=h.zg3
 have hjl0:=h.jl
 obtain⟨fr,fe,ma,re,ro⟩:=F
 dsimp only at hj hf ⊢
 refine zax (fn:=Tryz.f42) (rs:=[.tmp 4]) (n:=42) Tryz.func42 rfl rfl Tryz.ntmps42 aa rfl (zah (zaa (zaD rfl (za4 ([.int .i64 (n:Int), .int .i64 s]) rfl (fun g3 w3 hg3 hr3 hb3=>?_)))))
 replace h:=h.newc hb3 hg3 hr3.lt
 replace hLL:=hLL.new hb3
 replace hj:=hj.new hb3
 refine zad (zac) (zae (zaf (zah (zah (zct (lo) ((g3::jb::L)) aa ?_)))))
 intro w901 hb901 hn901 hS901
 replace h:=h.new hb901
 replace hLL:=hLL.new hb901
 replace hj:=hj.new hb901
 replace hr3:=hr3.new hb901
 have hj_d901:=hj
 have hr3_d901:=hr3
 refine zas 0 (zaw 0) (zbo 1 (fun w' hS'=>zau (hr3_d901.kL hS')) (zas 2 (zaY rfl rfl) (zas 3 (zab) (zi1 11 rfl (ae) (zas 4 (zaw 0) (zbo 5 (fun w' hS'=>zau (hr3_d901.kL hS')) (zas 6 (zab) (zas 7 (zak rfl) (zas 8 (zaw 0) (zas 9 (zaw 0) (zbo 10 (fun w' hS'=>zau (hj_d901.kL hS')) (zas 11 (zcH rfl rfl) (zas 12 (zaE rfl) (zaI aa (zaf (zcF rfl (ae) (zat (zaf (zah (zaa (zad (zab) (zad (zaw 0) (zad (zau hr3) (zao rfl (zaj aa rfl) (hjg _ _ w901 h) ?_))))))))))))))))))))))))
 rintro _ w25 ⟨rfl,h,hb25⟩
 have hj:=h.zg3
 replace hLL:=hLL.lq hb25
 replace hr3:=hr3.kl hb25
 refine zaD rfl (zar (List.replicate 512 (Value.int .u8 0)) aa (fun g5 w5 hg5 hr5 hb5=>?_))
 have lt_g3_g5:g3<g5:=Nat.lt_of_lt_of_le hr3.lt hg5
 replace h:=h.newc hb5 hg5 hr5.lt
 replace hLL:=hLL.new hb5
 replace hr3:=hr3.new hb5
 refine zaK rfl (zaQ 512 (bv Q) hr5 (fun w902 hr5 ho902=>?_))
 replace h:=h.only ho902 ai
 replace hLL:=hLL.oq ho902
 replace hr3:=hr3.only ho902 (Nat.ne_of_lt lt_g3_g5)
 refine zae (zaf (zah (zaa (zad (za7 512 hr5) (zad (zaw 1) (zad (zau hr3) (zao rfl (zaj aa rfl) (hge w902) ?_)))))))
 rintro _ w30 ⟨⟨q9,c9,rfl,hq9,hc9,hb9⟩,hb30⟩
 have hz:=h.close.zk8 hb30 (oB_new hq9 hpos hb9)
 replace hLL:=hLL.new hb30
 replace hr5:=hr5.new hb30
 refine zad (zab) (zad (zai rfl rfl) (zad (zai rfl rfl) (zad (zac) (zad (zac) (zae (zaf (zah (zah (zaa (zad (zab) (zad (zaX rfl rfl) (zad (zab) (zfl 35 rfl (ay) (zaq rfl (zad (za7 512 hr5) (zaq rfl (zao rfl (zaj aa rfl) (hki w30) ?_)))))))))))))))))
 rintro _ w37 ⟨rfl,hb37⟩
 replace hLL:=hLL.new hb37
 replace hz:=hz.new hb37
 replace hq9:=hq9.new hb37
 refine zaq rfl (zad (zaX rfl rfl) (zad (zaE rfl) (zae (zaf (zcF rfl (ae) (zat (zaf (zah (zaa (zad (zab) (zad (zac) (zae (zaf (zaF (zan [_] ⟨rfl,trivial⟩ ?_)))))))))))))))
 exact⟨_,_,rfl,hq9,hc9,hz.weak (fun b hb=>zmE _ (zmE _ hb)),hLL⟩
end
def backs(p:Fst × (Nat→Pg))(l:List Nat):Fst × (Nat→Pg):=l.foldl (fun p n=>(Fb p.1 n,ze9 p.2 n (zay (zd9 p.1)))) p
theorem znz(p:Fst × (Nat→Pg))(l:List Nat)(n:Nat):backs p (l++[n])=(Fb (backs p l).1 n,ze9 (backs p l).2 n (zay (zd9 (backs p l).1))):=by
 unfold backs;rw[List.foldl_append];rfl
theorem zkV{N:Nat}:∀ (l:List Nat) (p:Fst × (Nat→Pg)),p.1.free≤N→(∀ n∈l,n≤N)→(backs p l).1.free≤N∧(backs p l).1.many=p.1.many+l.length∧(backs p l).1.fresh=p.1.fresh∧(backs p l).1.records=p.1.records∧(backs p l).1.root=p.1.root
 |[],p,h,_=>⟨h,rfl,rfl,rfl,rfl⟩
 |n::l,p,h,hl=>by
  have ih:=zkV l (Fb p.1 n,ze9 p.2 n (zay (zd9 p.1))) (hl n ay) (fun m hm=>hl m aQ)
  refine⟨ih.1,?_,ih.2.2.1,ih.2.2.2.1,ih.2.2.2.2⟩
  have h2:=ih.2.1
  rw[List.length_cons]
  show(backs _ l).1.many=_
  rw[h2]
  show p.1.many+1+l.length=_
  omega
section
variable {Y:World→List Nat→Prop}[hYT:Thing Y]{q jb mw N lo:Nat}{L:List Nat}{G0 G V:Nat→Pg}{k:Nat}{F:Fst}{w:World}
set_option maxRecDepth 20000 in
theorem dropS(h:Two (JZ q jb mw N G0 G V k F) Y lo L w)(p:Option Addr)(cap:Nat)(b:List UInt8)(hc:zaS w p (b.length+1) 1 (bv (0::b)))(hcap:b.length+1≤cap)(hb4:b.length≤1000000):
  Calls Tryz.prog 46 [.pointer (some ⟨jb,0,none⟩), .slice p (b.length+1) cap].toArray w (Ret fun _ w'=>Two (JZ q jb mw N G0 G V k F) Y lo L w'∧LoL lo L w w'):=by
 have hLL:=LoL.refl lo L w
 have hB:=Below.refl w.heap.size w
 refine zax (fn:=Tryz.f46) (rs:=[]) (n:=24) Tryz.func46 rfl rfl Tryz.ntmps46 aa rfl (zah (zaa (zad (zab) (zad (zab) (zao rfl (zaj aa rfl) (partsS _ p cap b w (hc.below hB (Nat.le_refl _)) hcap hb4) ?_)))))
 rintro _ w11 ⟨⟨q9,c9,rfl,hq9,hc9,-⟩,hb11⟩
 replace h:=h.new hb11
 replace hLL:=hLL.new hb11
 refine zad (zab) (zad (zai rfl rfl) (zad (zai rfl rfl) (zad (zac) (zad (zac) (zae (zaf (zah (zaa (zad (zab) (zad (zaB (e:=3) (sz:=1) aa rfl rfl) (zad (zab) (zae (zaf (zav (zbq (α:=Unit) () (fun _=>[(14, .slice none 0 0),(15, .int .i64 0),(16, .int .i64 0)]) (fun _ w'=>Two (JZ q jb mw N G0 G V k F) Y lo L w'∧LoL lo L w w') (fun _=>0) ⟨rfl,rfl,rfl,rfl⟩ ⟨h,hLL⟩ ?_)))))))))))))))
 rintro _ f wr ⟨h,hLL⟩
 refine zah (zaa (zad (zaY rfl rfl) (zae (zaf (zah (zcF rfl (ay) (zbh (zbC (zbH (zbl (zbk [] trivial ?_)))))))))))
 exact⟨h,hLL⟩
set_option maxRecDepth 20000 in
set_option maxHeartbeats 1000000 in
theorem dropL (h:Two (JZ q jb mw N G0 G V k F) Y lo L w) (hfN:F.fresh≤N) {S:Nat→View} {n x:Nat} {l:List Nat} {pt:Nat→List UInt8} (hP:zlL G S F.fresh n x l pt) (p:Option Addr) (cap:Nat) (hc:zaS w p 9 1 (bv (1::(beB 4 n++beB 4 x)))) (hcap:9≤cap)
   (hfe:F.free≤N) (hma:F.many+l.length≤N):
   Calls Tryz.prog 46 [.pointer (some ⟨jb,0,none⟩), .slice p 9 cap].toArray w (Ret fun _ w'=>Two (JZ q jb mw N G0 (backs (F,G) l).2 V k (backs (F,G) l).1) Y lo L w'∧LoL lo L w w'):=by
 have hN:=(zgS h).1
 have hlN:∀ m∈l,m<N:=fun m hm=>by have:=(hP.li.at_ m hm).2.1;omega
 have hl1:1≤l.length:=by have:=hP.nl;have:=hP.n1;omega
 refine zax (fn:=Tryz.f46) (rs:=[]) (n:=24) Tryz.func46 rfl rfl Tryz.ntmps46 aa rfl (zah (zaa (zad (zab) (zad (zab) (zao rfl (zaj aa rfl) (zmD h hfN hP p cap hc hcap) ?_)))))
 rintro _ w11 ⟨up,ub,rfl,hT,hup,hub,hb11⟩
 have hl0:=hb11
 refine dP ?_
 have hform:=hup.form' ae
 obtain⟨gu,ou,cu,rfl,hgu,hgl,_⟩:=hform
 refine zaa (zad (zab) (zad (zaB (e:=3) (sz:=1) aa rfl rfl) (zad (zab) (zae (zaf (zav ?_))))))
 have hs0:=hup.sl
 have hlo0:=h.lo
 have hguL:gu∈(Value.slice (some ⟨gu,ou,none⟩) l.length cu).ownBlock.toList++ub.ownBlock.toList++L:=by simp[Value.ownBlock]
 have hLs:∀ b∈L,b∈(Value.slice (some ⟨gu,ou,none⟩) l.length cu).ownBlock.toList++ub.ownBlock.toList++L:=fun b hb=>by simp[hb]
 have hobt:∃ L2,(Value.slice (some ⟨gu,ou,none⟩) l.length cu).ownBlock.toList++ub.ownBlock.toList++L=L2:=⟨_,rfl⟩
 obtain⟨L2,hL2⟩:=hobt
 rw[hL2]at hT hguL hLs
 refine zbq (α:=Nat) 0 (fun i=>[(0, .pointer (some ⟨jb,0,none⟩)),(14, .slice (some ⟨gu,ou,none⟩) l.length cu),(15, .int .i64 (l.length:Int)),(16, .int .i64 (i:Int))])
   (fun i w'=>i≤l.length∧Two (JZ q jb mw N G0 (backs (F,G) (l.take i)).2 V k (backs (F,G) (l.take i)).1) Y lo L2 w'∧zaS w' (some ⟨gu,ou,none⟩) l.length 1 (nv l)∧LoL lo L w w') (fun i=>l.length - i) ⟨rfl,rfl,rfl,rfl,rfl⟩ ⟨Nat.zero_le _,hT,hs0,hl0⟩ ?_
 rintro i f wr ⟨hi,hTr,hsr,hlr⟩
 refine zah (zaa (zad (zaY rfl rfl) (zae (zaf (zah (za0 rfl (fun hlt=>?_) (fun hlt=>?_)))))))
 ·
  refine bL ?_
  have hil:i<l.length:=by omega
  have hm:=List.getElem?_eq_getElem hil
  have hobt:∃ m,l[i]=m:=⟨_,rfl⟩
  obtain⟨m,hme⟩:=hobt
  rw[hme]at hm
  have hmem:=List.mem_of_getElem? hm
  have hbf:=zkV (N:=N) (l.take i) (F,G) hfe (fun n hn=>Nat.le_of_lt (hlN n (List.mem_of_mem_take hn)))
  have hbl:(l.take i).length=i:=by rw[List.length_take];omega
  have hbk:=fun L' w' (h':Two (JZ q jb mw N G0 (backs (F,G) (l.take i)).2 V k (backs (F,G) (l.take i)).1) Y lo L' w')=>back54 h' m (hlN m hmem) hbf.1 (by rw[hbf.2.1,hbl];show F.many+i≤N;omega)
  have htk:l.take (i+1)=l.take i++[m]:=by rw[List.take_add_one,hm];rfl
  have hnm:(nv l)[i]?=some (.int .i64 (m:Int)):=by unfold nv;rw[List.getElem?_map,hm];rfl
  refine zaa (zad (zaN (e:=3) aa rfl rfl (i) ae ae) (zad (zaG rfl (Ld.sl1 hsr aa hnm)) (zad (zac) (zae (zaf (zaa (zad (zab) (zad (zab) (zao rfl (zaj aa rfl) (hbk _ wr hTr) ?_)))))))))
  rintro _ w22 ⟨hTr,hb22⟩
  replace hlr:=hlr.ll hb22 hLs
  replace hsr:=hsr.kpd hb22.kp ag
  refine zae (zaP (zaf (zaa (zad (zaO rfl rfl (show IntKind.i64.wrap ((i:Int)+1)=((i+1:Nat):Int) by rw[w64 ae];omega)) (zad (zab) (zae (za2 ⟨i+1,ae,⟨rfl,rfl,rfl,rfl,rfl⟩,hil,?_,hsr,hlr⟩)))))))
  rw[htk,znz]
  exact hTr
 ·
  have hie:i=l.length:=by omega
  subst hie
  rw[List.take_length]at hTr
  refine zbh (zbC (zbH (zbl (zbk [] trivial ?_))))
  exact⟨hTr.weak hLs,hlr⟩
end
structure HS where
 F:Fst
 S:Nat→View
def zbb(S:Nat→View)(n:Nat)(U:View):Nat→View:=fun i=>if i=n then U else S i
theorem zaT(S:Nat→View)(n:Nat)(U:View):zbb S n U n=U:=if_pos rfl
theorem za9{S:Nat→View}{n i:Nat}{U:View}(h:i≠n):zbb S n U i=S i:=if_neg h
theorem zcl.frame{S S':Nat→View}:∀ {l:List Nat} {n:Nat},zcl S n l→(∀ m∈l,S' m=S m)→zcl S' n l
 |[],_,h,_=>h
 |m::l,n,⟨h1,h2,h3⟩,he=>⟨h1,h2,by rw[he m ay];exact zcl.frame h3 fun i hi=>he i (by simp[hi])⟩
theorem zcl.set{S:Nat→View}{l:List Nat}{n m:Nat}{U:View}(h:zcl S n l)(hm:m∉l):zcl (zbb S m U) n l:=h.frame fun i hi=>za9 fun e=>hm (e▸hi)
structure HOk(N:Nat)(H:HS)(fl:List Nat):Prop where
 f1:1≤H.F.fresh
 fN:H.F.fresh≤N
 gd:∀ n,1≤n→n<H.F.fresh→Good (H.S n)
 ch:zcl H.S H.F.free fl
 fk:∀ n∈fl,1≤n∧n<H.F.fresh∧(H.S n).kind=0
 nd:fl.Nodup
 fm:fl.length=H.F.many
 rc:H.F.records<H.F.fresh
 rt:H.F.root<N
structure GS(z:Nat→Pg)(G:Nat→Pg)(H:HS):Prop where
 s:∀ n,1≤n→n<H.F.fresh→G n=zay (H.S n)
 z0:G 0=z 0
 u:∀ n,H.F.fresh≤n→G n=z n
theorem GS.fr{z:Nat→Pg}{G:Nat→Pg}{H H2:HS}(h:GS z G H)(hf:H2.F.fresh=H.F.fresh)(hS:H2.S=H.S):GS z G H2:=⟨fun n h1 h2=>by rw[hS];exact h.s n h1 ae,h.z0,fun n h1=>h.u n ae⟩
theorem HOk.isV{N:Nat}{H:HS}{fl:List Nat}{z:Nat→Pg}{G:Nat→Pg}(h:HOk N H fl)(hG:GS z G H){n:Nat}(h1:1≤n)(h2:n<H.F.fresh):IsV G n (H.S n):=⟨h.gd n h1 h2,hG.s n h1 h2⟩
theorem zea:∀ (n a:Nat) (l:List Nat),l.Nodup→(∀ x∈l,a≤x∧x<a+n)→l.length≤n
 |0,a,l,_,h=>by
  cases l with
  |nil=>exact Nat.le_refl 0
  |cons x t=>have:=h x ay;omega
 |n+1,a,l,hn,h=>by
  by_cases hm:a+n∈l
  ·have h1:=zea n a (l.erase (a+n)) (hn.erase _) fun x hx=>by
    have h2:=(hn.mem_erase_iff).1 hx
    have:=h x h2.2
    omega
   rw[List.length_erase_of_mem hm]at h1
   omega
  ·have:=zea n a l hn fun x hx=>by
    have h2:=h x hx
    have:x≠a+n:=fun e=>hm (e▸hx)
    omega
   omega
theorem HOk.many{N:Nat}{H:HS}{fl:List Nat}(h:HOk N H fl):H.F.many<H.F.fresh:=by
 have h1:=h.fm
 have h3:=h.f1
 have h2:=zea (H.F.fresh - 1) 1 fl h.nd fun n hn=>by
  have:=h.fk n hn
  omega
 omega
theorem HOk.free{N:Nat}{H:HS}{fl:List Nat}(h:HOk N H fl):(H.F.free=0∧fl=[])∨(∃ t,fl=H.F.free::t∧1≤H.F.free∧H.F.free<H.F.fresh∧(H.S H.F.free).kind=0∧1≤H.F.many∧zcl H.S (H.S H.F.free).next t):=by
 have h1:=h.ch
 cases hfl:fl with
 |nil=>rw[hfl]at h1;exact .inl ⟨h1,rfl⟩
 |cons m t=>
  rw[hfl]at h1
  obtain⟨e,h2,h3⟩:=h1
  subst e
  have h4:=h.fk H.F.free (by rw[hfl];simp)
  refine .inr ⟨t,rfl,h4.1,h4.2.1,h4.2.2,?_,h3⟩
  rw[←h.fm,hfl];simp
def zdj(N:Nat)(H:HS)(kind:Nat):Option (Nat × HS):=
 if H.F.free≠0 then some (H.F.free,⟨F1 H.F (H.S H.F.free).next,zbb H.S H.F.free (zdX kind)⟩)
 else if H.F.fresh=N then none
 else some (H.F.fresh,⟨F2f H.F,zbb H.S H.F.fresh (zdX kind)⟩)
structure zfh(N:Nat)(H:HS)(fl:List Nat)(kind n:Nat)(H':HS)(fl':List Nat):Prop where
 ok:HOk N H' fl'
 sub:∀ i∈fl',i∈fl
 ni:n∉fl'
 n1:1≤n
 nf:n<H'.F.fresh
 new:H'.S n=zdX kind
 old:∀ i,i≠n→H'.S i=H.S i
 grow:H.F.fresh≤H'.F.fresh
 was:n∈fl∨H.F.fresh=n
 cov:∀ i∈fl,i=n∨i∈fl'
 fre:H'.F.fresh=H.F.fresh∨n=H.F.fresh∧H'.F.fresh=H.F.fresh+1
 rec_:H'.F.records=H.F.records
 root:H'.F.root=H.F.root
theorem zg4{N:Nat}{H:HS}{fl:List Nat}{kind n:Nat}{H':HS}(h:HOk N H fl)(hk:kind≤4)(he:zdj N H kind=some (n,H')):∃ fl',zfh N H fl kind n H' fl':=by
 unfold zdj at he
 rcases h.free with⟨h0,hfl⟩|⟨t,hfl,h1,h2,h3,h4,h5⟩
 ·rw[if_neg ae]at he
  split at he
  ·cases he
  ·rename_i hN
   cases he
   have hf1:=h.f1
   have hfN:=h.fN
   refine⟨[],⟨?_,?_,?_,h0,fun i hi=>(by cases hi),List.nodup_nil,?_,?_,h.rt⟩,fun i hi=>(by cases hi),ay,hf1,Nat.lt_succ_self _,zaT ..,fun i hi=>za9 hi,Nat.le_succ _, .inr rfl,(fun i hi=>by rw[hfl]at hi;cases hi), .inr ⟨rfl,rfl⟩,rfl,rfl⟩
   ·show 1≤H.F.fresh+1;omega
   ·show H.F.fresh+1≤N;omega
   ·intro i hi1 hi2
    have hi3:i<H.F.fresh+1:=hi2
    show Good (zbb H.S H.F.fresh (zdX kind) i)
    by_cases e:i=H.F.fresh
    ·rw[e,zaT];exact zbQ hk
    ·rw[za9 e];exact h.gd i hi1 ae
   ·have:=h.fm;rw[hfl]at this;exact this
   ·have:=h.rc;show H.F.records<H.F.fresh+1;omega
 ·rw[if_pos ae]at he
  cases he
  have hnd:=h.nd
  rw[hfl,List.nodup_cons]at hnd
  have hfr:=h.rc
  refine⟨t,⟨h.f1,h.fN,?_,h5.set hnd.1,?_,hnd.2,?_,hfr,h.rt⟩,fun i hi=>(by rw[hfl];simp[hi]),hnd.1,h1,h2,zaT ..,fun i hi=>za9 hi,Nat.le_refl _, .inl (by rw[hfl];simp),(fun i hi=>by rw[hfl]at hi;exact List.mem_cons.1 hi), .inl rfl,rfl,rfl⟩
  ·intro i hi1 hi2
   show Good (zbb H.S H.F.free (zdX kind) i)
   by_cases e:i=H.F.free
   ·rw[e,zaT];exact zbQ hk
   ·rw[za9 e];exact h.gd i hi1 hi2
  ·intro i hi
   have hne:i≠H.F.free:=fun e=>hnd.1 (e▸hi)
   have h6:=h.fk i (by rw[hfl];simp[hi])
   refine⟨h6.1,h6.2.1,?_⟩
   show(zbb H.S H.F.free (zdX kind) i).kind=0
   rw[za9 hne];exact h6.2.2
  ·have:=h.fm
   rw[hfl,List.length_cons]at this
   show t.length=H.F.many - 1
   omega
theorem zph{N:Nat}{H:HS}{fl fl':List Nat}{kind n:Nat}{H':HS}{z:Nat→Pg}{G:Nat→Pg}(hG:GS z G H)(h:zfh N H fl kind n H' fl')(hH:HOk N H fl)(hfr:H'.F.fresh=H.F.fresh∨n=H.F.fresh∧H'.F.fresh=H.F.fresh+1):GS z (ze9 G n (zay (zdX kind))) H':=by
 refine⟨fun i h1 h2=>?_,(if_neg fun e=>by have:=h.n1;omega:ze9 G n _ 0=G 0).trans hG.z0,fun i hi=>(if_neg fun e=>by have:=h.nf;omega:ze9 G n _ i=G i).trans (hG.u i (Nat.le_trans h.grow hi))⟩
 unfold ze9
 split
 ·rename_i e;rw[e,h.new]
 ·rename_i e
  rw[h.old i e]
  exact hG.s i h1 (by rcases hfr with h3|⟨h3,h4⟩<;>omega)
theorem giveS_A{N:Nat}{H:HS}{kind:Nat}(h:1≤H.F.free):zdj N H kind=some (H.F.free,⟨F1 H.F (H.S H.F.free).next,zbb H.S H.F.free (zdX kind)⟩):=by
 unfold zdj;rw[if_pos ae]
theorem giveS_B{N:Nat}{H:HS}{kind:Nat}(h:H.F.free=0)(hN:H.F.fresh<N):zdj N H kind=some (H.F.fresh,⟨F2f H.F,zbb H.S H.F.fresh (zdX kind)⟩):=by
 unfold zdj;rw[if_neg ae,if_neg ae]
theorem giveS_C{N:Nat}{H:HS}{kind:Nat}(h:H.F.free=0)(hN:H.F.fresh=N):zdj N H kind=none:=by
 unfold zdj;rw[if_neg ae,if_pos hN]
section
variable {Y:World→List Nat→Prop}[hYT:Thing Y]{q jb mw N lo:Nat}{L:List Nat}{G0 G V:Nat→Pg}{k:Nat}{H:HS}{fl:List Nat}{w:World}
structure JH(q jb mw N:Nat)(G0 V:Nat→Pg)(k:Nat)(H:HS)(fl:List Nat)(Y:World→List Nat→Prop)(lo:Nat)(L:List Nat)(w:World):Prop where
 ok:HOk N H fl
 ex:∃ G,GS G0 G H∧Two (JZ q jb mw N G0 G V k H.F) Y lo L w
def JF(q jb mw N:Nat)(G0 V:Nat→Pg)(k:Nat)(Y:World→List Nat→Prop)(lo:Nat)(L:List Nat)(w:World):Prop:=∃ G F,Two (JZ q jb mw N G0 G V k F) Y lo L w
omit hYT in
theorem JH.fail(h:JH q jb mw N G0 V k H fl Y lo L w):JF q jb mw N G0 V k Y lo L w:=let ⟨G,_,h2⟩:=h.ex;⟨G,H.F,h2⟩
theorem giveH(h:JH q jb mw N G0 V k H fl Y lo L w)(kind:Nat)(hk:kind≤4):Calls Tryz.prog 51 [.pointer (some ⟨jb,0,none⟩), .int .i64 (kind:Int)].toArray w
  (zg2 (fun v w'=>∃ n H' fl',zdj N H kind=some (n,H')∧zfh N H fl kind n H' fl'∧v= .int .i64 (n:Int)∧JH q jb mw N G0 V k H' fl' Y lo L w'∧LoL lo L w w') (fun c w'=>zdj N H kind=none∧c=pe (zdp 8)∧JF q jb mw N G0 V k Y lo L w'∧LoL lo L w w')):=by
 obtain⟨hH,G,hG,hT⟩:=h
 have hmN:=hH.many
 have hfN:=hH.fN
 rcases hH.free with⟨h0,hfl⟩|⟨t,hfl,h1,h2,h3,h4,h5⟩
 ·by_cases hN:H.F.fresh=N
  ·exact(giveC hT kind hk h0 hN).zkQ (fun _ _ h=>h.elim) fun c w' ⟨e1,e2,e3⟩=>⟨giveS_C h0 hN,e1,⟨G,H.F,e2⟩,e3⟩
  ·have he:=giveS_B (kind:=kind) h0 (show H.F.fresh<N by omega)
   obtain⟨fl',hok⟩:=zg4 hH hk he
   exact(giveB hT kind hk h0 ae).toP fun v w' ⟨e1,e2,e3⟩=>⟨_,_,fl',he,hok,e1,⟨hok.ok,_,zph hG hok hH (.inr ⟨rfl,rfl⟩),e2⟩,e3⟩
 ·have he:=giveS_A (N:=N) (kind:=kind) h1
  obtain⟨fl',hok⟩:=zg4 hH hk he
  exact(giveA hT kind hk h1 h2 hfN h4 ae (hH.isV hG h1 h2) h3).toP fun v w' ⟨e1,e2,e3⟩=>⟨_,_,fl',he,hok,e1,⟨hok.ok,_,zph hG hok hH (.inl rfl),e2⟩,e3⟩
theorem getH(h:JH q jb mw N G0 V k H fl Y lo L w)(n:Nat)(h1:1≤n)(h2:n<H.F.fresh):Calls Tryz.prog 44 [.pointer (some ⟨jb,0,none⟩), .int .i64 (n:Int)].toArray w (Ret fun v w'=>v= .agg (bv (zay (H.S n))).toArray∧JH q jb mw N G0 V k H fl Y lo L w'∧LoL lo L w w'):=by
 obtain⟨hH,G,hG,hT⟩:=h
 have hfN:=hH.fN
 exact(jget44 hT n ae).to fun v w' ⟨e1,e2,e3⟩=>⟨by rw[e1,hG.s n h1 h2],⟨hH,G,hG,e2⟩,e3⟩
theorem HOk.set(h:HOk N H fl){n:Nat}{U:View}(hn:n∉fl)(hU:Good U):HOk N ⟨H.F,zbb H.S n U⟩ fl:=
 ⟨h.f1,h.fN,fun i h1 h2=>by
  show Good (zbb H.S n U i)
  by_cases e:i=n
  ·rw[e,zaT];exact hU
  ·rw[za9 e];exact h.gd i h1 h2,h.ch.set hn,fun i hi=>by
  have:=h.fk i hi
  have hne:i≠n:=fun e=>hn (e▸hi)
  refine⟨this.1,this.2.1,?_⟩
  show(zbb H.S n U i).kind=0
  rw[za9 hne];exact this.2.2,h.nd,h.fm,h.rc,h.rt⟩
theorem GS.set{z:Nat→Pg}(h:GS z G H){n:Nat}{U:View}(hn:1≤n)(hf:n<H.F.fresh):GS z (ze9 G n (zay U)) ⟨H.F,zbb H.S n U⟩:=⟨fun i h1 h2=>by
 show ze9 G n (zay U) i=zay (zbb H.S n U i)
 unfold ze9 zbb
 split
 ·rfl
 ·exact h.s i h1 h2,(if_neg fun e=>by omega:ze9 G n _ 0=G 0).trans h.z0,fun i hi=>(if_neg fun e=>by have h2:H.F.fresh≤i:=hi;omega:ze9 G n _ i=G i).trans (h.u i hi)⟩
theorem setH(h:JH q jb mw N G0 V k H fl Y lo L w)(n:Nat)(h1:1≤n)(h2:n<H.F.fresh){U:View}(hn:n∉fl)(hU:Good U):Calls Tryz.prog 48 [.pointer (some ⟨jb,0,none⟩), .int .i64 (n:Int), .agg (bv (zay U)).toArray].toArray w (Ret fun _ w'=>JH q jb mw N G0 V k ⟨H.F,zbb H.S n U⟩ fl Y lo L w'∧LoL lo L w w'):=by
 obtain⟨hH,G,hG,hT⟩:=h
 exact(ziM hT n (Nat.lt_of_lt_of_le h2 hH.fN) _ (zbv U hU.size)).to fun v w' ⟨e1,e2⟩=>⟨⟨hH.set hn hU,_,hG.set h1 h2,e1⟩,e2⟩
namespace JH
variable {w':World}{M L2:List Nat}{gc:Nat}
theorem kpd(h:JH q jb mw N G0 V k H fl Y lo L w)(hk:Kp M w w')(hM:∀ b∈M,b<lo∨b∈L):JH q jb mw N G0 V k H fl Y lo L w':=let ⟨G,h1,h2⟩:=h.ex;⟨h.ok,G,h1,h2.kpd hk hM⟩
theorem new(h:JH q jb mw N G0 V k H fl Y lo L w)(hb:Below w.heap.size w w'):JH q jb mw N G0 V k H fl Y lo L w':=let ⟨G,h1,h2⟩:=h.ex;⟨h.ok,G,h1,h2.new hb⟩
theorem only(h:JH q jb mw N G0 V k H fl Y lo L w)(ho:Only gc w w')(hg:gc<lo∨gc∈L):JH q jb mw N G0 V k H fl Y lo L w':=let ⟨G,h1,h2⟩:=h.ex;⟨h.ok,G,h1,h2.only ho hg⟩
theorem newc(h:JH q jb mw N G0 V k H fl Y lo L w)(hb:Below w.heap.size w w')(hg:w.heap.size≤gc)(hg':gc<w'.heap.size):JH q jb mw N G0 V k H fl Y lo (gc::L) w':=let ⟨G,h1,h2⟩:=h.ex;⟨h.ok,G,h1,h2.newc hb hg hg'⟩
omit hYT in
theorem weak(h:JH q jb mw N G0 V k H fl Y lo L w)(h2:∀ b∈L2,b∈L):JH q jb mw N G0 V k H fl Y lo L2 w:=let ⟨G,h1,h3⟩:=h.ex;⟨h.ok,G,h1,h3.weak h2⟩
theorem zk8(h:JH q jb mw N G0 V k H fl Y lo L w)(hb:Below w.heap.size w w')(hM:∀ b∈M,w.heap.size≤b∧b<w'.heap.size):JH q jb mw N G0 V k H fl Y lo (M++L) w':=let ⟨G,h1,h2⟩:=h.ex;⟨h.ok,G,h1,h2.zk8 hb hM⟩
omit hYT in
theorem lo'(h:JH q jb mw N G0 V k H fl Y lo L w):lo≤w.heap.size∧∀ b∈L,b<w.heap.size:=let ⟨_,_,h2⟩:=h.ex;⟨h2.lo,h2.lt⟩
omit hYT in
theorem n48(h:JH q jb mw N G0 V k H fl Y lo L w):N≤2048∧4≤N:=let ⟨_,_,h2⟩:=h.ex;⟨(zgS h2).1,(zgS h2).2.1⟩
end JH
omit hYT in
theorem JF.weak{L2:List Nat}(h:JF q jb mw N G0 V k Y lo L w)(h2:∀ b∈L2,b∈L):JF q jb mw N G0 V k Y lo L2 w:=let ⟨G,F,h3⟩:=h;⟨G,F,h3.weak h2⟩
end
def zdb(b:List UInt8)(i:Nat):List UInt8:=(b.drop (400*i)).take 400
def zga(b:List UInt8)(i nx:Nat):View:=⟨2,nx,[some (zdb b i)]⟩
def zcf(N:Nat)(b:List UInt8):Nat→Nat→HS→Option (Nat × HS)
 |0,nx,H=>some (nx,H)
 |i+1,nx,H=>match zdj N H 2 with
  |none=>none
  |some (n,H')=>zcf N b i n ⟨H'.F,zbb H'.S n (zga b i nx)⟩
def cellS(N:Nat)(b:List UInt8)(H:HS):Option (List UInt8 × HS):=
 if b.length<400 then some (0::b,H)
 else match zcf N b ((b.length+399) / 400) 0 H with
  |none=>none
  |some (n,H')=>some (1::(beB 4 b.length++beB 4 n),H')
section
variable {Y:World→List Nat→Prop}[hYT:Thing Y]{q jb mw N lo:Nat}{L:List Nat}{G0 V:Nat→Pg}{k:Nat}{H:HS}{fl:List Nat}{w:World}
set_option maxRecDepth 20000 in
theorem cellSh(jv:Value)(p:Option Addr)(cap:Nat)(b:List UInt8)(w:World)(hs:zaS w p b.length 1 (bv b))(hl:b.length<400):
  Calls Tryz.prog 40 [jv, .slice p b.length cap].toArray w (Ret fun v w'=>zaz w' w.heap.size 5 1 v (1+b.length) (bv (0::b))∧Below w.heap.size w w'):=by
 have hB:=Below.refl w.heap.size w
 refine zax (fn:=Tryz.f40) (rs:=[.tmp 4]) (n:=68) Tryz.func40 rfl rfl Tryz.ntmps40 aa rfl (zah (zaa (zad (zac) (zae (zaf (zah (zah (zaa (zad (zab) (zad (zaB (e:=5) (sz:=1) aa rfl rfl) (zad (zaY rfl rfl) (zae (zaf (zgP rfl (ae) (zah (zaa (zaD rfl (zdd (e:=5) (.int .u8 0) ([.int .u8 0]) ([Value.int .u8 0]) 1 aa aa rfl rfl rfl ⟨aD,aD⟩ (fun g14 w14 hg14 hr14 hb14=>?_)))))))))))))))))))
 replace hB:=hB.acc hb14
 refine zad (zab) ?_
 have hu14:=hr14.owns (base:=w.heap.size) (m:=1) (sz:=1) ae rfl aC
 have hsz:=hB.size
 have hs2:=hs.below hB (Nat.le_refl _)
 refine zaD rfl (zbf (e:=5) (sz:=1) (bytes:=1) (z:=Value.int .u8 0) aa rfl aa rfl aD rfl hu14 rfl hs2 (zbV _) aC ae (fun hm0=>ae) (fun v16 w16 hv16 hgr16 hfr16=>?_))
 replace hB:=hB.own hu14 hgr16 ae
 refine dQ ?_
 exact⟨hv16,hB⟩
theorem zdq{kd nx:Nat}{r:List UInt8}(hk:kd≤4)(hn:nx<2147483648)(hr:r.length≤400):Good ⟨kd,nx,[some r]⟩:=
 ⟨hk,hn,(by show 12+4*1+(r.length+0)≤512;omega),(fun r2 h2=>by simp at h2;subst h2;exact hr),ay⟩
theorem layNew(kd:Nat)(hk:kd≤4)(pr:Option Addr)(cr:Nat)(r:List UInt8)(w:World)(hr:zaS w pr r.length 1 (bv r))(h4:r.length≤400):Calls Tryz.prog 92 [.agg (bv (zay (zdX kd))).toArray, .slice pr r.length cr].toArray w
  (Ret fun v w'=>v= .tuple #[.agg (bv (zay ⟨kd,0,[some r]⟩)).toArray, .int .i64 0, .int .i64 0]∧Below w.heap.size w w'):=by
 have hE:zi6 (zdX kd) r=0:=by
  unfold zi6 zcg
  rw[if_neg ae,if_neg]
  show¬512<12+4*1+(r.length+0)
  omega
 have hP:zpO (zdX kd) r=zay ⟨kd,0,[some r]⟩:=by unfold zpO;rw[if_pos hE];rfl
 have h:=lay8 (zdX kd) pr cr r w (zbQ hk) hr
 rw[hP,hE]at h
 exact h
theorem zqI{b:List UInt8}{i:Nat}(h:400*i<b.length):(zdb b i).length=min (400*(i+1)) b.length - 400*i:=by
 unfold zdb;rw[List.length_take,List.length_drop];omega
set_option maxRecDepth 20000 in
set_option maxHeartbeats 1000000 in
theorem cellLg(h:JH q jb mw N G0 V k H fl Y lo L w)(p:Option Addr)(cap:Nat)(b:List UInt8)(hs:zaS w p b.length 1 (bv b))(hcap:b.length≤cap)(hl1:400≤b.length)(hl2:b.length≤20000)(hpL:∀ c o,p=some ⟨c,o,none⟩→c<lo∨c∈L):
   Calls Tryz.prog 40 [.pointer (some ⟨jb,0,none⟩), .slice p b.length cap].toArray w (zg2 (fun v w'=>∃ n H' fl',zcf N b ((b.length+399) / 400) 0 H=some (n,H')∧JH q jb mw N G0 V k H' fl' Y lo (v.ownBlock.toList++L) w'∧zaz w' w.heap.size 5 1 v 9 (bv (1::(beB 4 b.length++beB 4 n)))∧LoL lo L w w')
     (fun c w'=>zcf N b ((b.length+399) / 400) 0 H=none∧c=pe (zdp 8)∧JF q jb mw N G0 V k Y lo L w'∧LoL lo L w w')):=by
 obtain⟨gp,op,rfl,hgp⟩:=hs.some ae
 have hpL:=hpL gp op rfl
 have hnd:zeO (b.length:Int)=(b.length+399) / 400:=by unfold zeO;rw[if_neg ae,Int.toNat_natCast]
 have hneed:=fun w'=>zmC (b.length:Int) w'
 simp only[hnd]at hneed
 obtain⟨K,hK⟩:∃ K,(b.length+399) / 400=K:=⟨_,rfl⟩
 rw[hK]at hneed ⊢
 have hK1:1≤K:=by omega
 have hLL:=LoL.refl lo L w
 refine zb6 (fn:=Tryz.f40) (rs:=[.tmp 4]) (n:=68) Tryz.func40 rfl rfl Tryz.ntmps40 aa rfl (zah (zaa (zad (zac) (zae (zaf (zah (zah (zaa (zad (zab) (zad (zaB (e:=5) (sz:=1) aa rfl rfl) (zad (zaY rfl rfl) (zae (zaf (zcF rfl (ae) (zat (zaf (zah (zaa (zad (zac) (zae (zaf (zah (zah (zaa (zad (zab) (zad (zaB (e:=5) (sz:=1) aa rfl rfl) (zao rfl (zaj aa rfl) (hneed w) ?_)))))))))))))))))))))))))))
 rintro _ _ ⟨rfl,rfl⟩
 refine zad (zcX rfl rfl (show IntKind.i64.wrap ((K:Int) - 1)=(K:Int) - 1 by rw[w64 ae])) (zad (zac) (zae (zaf (zav ?_))))
 refine zbq (α:=Nat × Nat × HS × List Nat) (K,0,H,fl) (fun a=>[(0, .pointer (some ⟨jb,0,none⟩)),(1, .slice (some ⟨gp,op,none⟩) b.length cap),(5, .int .i64 (a.2.1:Int)),(6, .int .i64 ((a.1:Int) - 1))])
   (fun a w'=>a.1≤K∧a.2.1<2048∧zcf N b K 0 H=zcf N b a.1 a.2.1 a.2.2.1∧JH q jb mw N G0 V k a.2.2.1 a.2.2.2 Y lo L w'∧zaS w' (some ⟨gp,op,none⟩) b.length 1 (bv b)∧LoL lo L w w') (fun a=>a.1) ⟨rfl,rfl,rfl,rfl,rfl⟩ ⟨Nat.le_refl _,by show 0<2048;omega,rfl,h,hs,hLL⟩ ?_
 rintro⟨i,nx,H1,fl1⟩ f wr ⟨hi,hnx,hlp,hJ,hsr,hlr⟩
 dsimp only at*
 have hN:=hJ.n48
 cases i with
 |zero=>
 refine zah (zah (zaa (zad (zab) (zad (zcH rfl rfl) (zae (zaf (zcF rfl (ae) (zbh (zbC (zbH (zbl (zaf (zah ?_)))))))))))))
 have hB:=Below.refl (wr).heap.size wr
 have hJ0:=hJ
 have hlr0:=hlr
 refine zaa (zaD rfl (zdd (e:=5) (.int .u8 1) ([.int .u8 1]) ([Value.int .u8 0]) 1 aa aa rfl rfl rfl ⟨aD,aD⟩ (fun g60 w60 hg60 hr60 hb60=>?_)))
 have ge_hB_g60:=Nat.le_trans hB.size hg60
 replace hB:=hB.acc hb60
 refine zad (zab) (zad (zaB (e:=5) (sz:=1) aa rfl rfl) (zao rfl (zaj aa rfl) (zmB b.length w60) ?_))
 rintro _ w63 ⟨g63,rfl,hr63,hg63,hb63⟩
 have ge_hB_g63:=Nat.le_trans hB.size hg63
 have lt_g60_g63:g60<g63:=Nat.lt_of_lt_of_le hr60.lt hg63
 replace hr60:=hr60.new hb63
 replace hB:=hB.acc hb63
 have hu60:=hr60.owns (base:=wr.heap.size) (m:=1) (sz:=1) ae rfl aC
 have hs63:=hr63.slA (m:=4) (sz:=1) (by rw[zal,zaV]) aC
 have hsz:=hB.size
 have sz_hB_64:=hB.size
 refine zaD rfl (zbf (e:=5) (sz:=1) (bytes:=1) (z:=Value.int .u8 0) aa rfl aa rfl aD rfl hu60 rfl hs63 (zbV _) aC ae (fun hm0=>ae) (fun v64 w64 hv64 hgr64 hfr64=>?_))
 replace hB:=hB.own hu60 hgr64 ae
 refine zad (zab) (zao rfl (zaj aa rfl) (zmB nx w64) ?_)
 rintro _ w66 ⟨g66,rfl,hr66,hg66,hb66⟩
 have ge_hB_g66:=Nat.le_trans hB.size hg66
 replace hv64:=hv64.new hb66
 replace hB:=hB.acc hb66
 have hs66:=hr66.slA (m:=4) (sz:=1) (by rw[zal,zaV]) aC
 have hsz:=hB.size
 have sz_hB_67:=hB.size
 refine zaD rfl (zbf (e:=5) (sz:=1) (bytes:=1) (z:=Value.int .u8 0) aa rfl aa rfl aD rfl hv64 rfl hs66 (zbV _) aC ae (fun hm0=>ae) (fun v67 w67 hv67 hgr67 hfr67=>?_))
 replace hB:=hB.own hv64 hgr67 ae
 refine zad (zac) (zae (zaf (zaF (zmA [_] ⟨rfl,trivial⟩ ?_))))
 have hz:=hlr0.size
 have hfin:zaz w67 wr.heap.size 5 1 v67 9 (bv (1::(beB 4 b.length++beB 4 nx))):=by
   have e:[Value.int .u8 1]++bv (beB 4 b.length)++bv (beB 4 nx)=bv (1::(beB 4 b.length++beB 4 nx)):=by
     rw[show(1:UInt8)::(beB 4 b.length++beB 4 nx)=[1]++beB 4 b.length++beB 4 nx by simp,zcG,zcG];rfl
   rw[←e]
   exact hv67
 exact⟨nx,H1,fl1,hlp,hJ0.zk8 hB (fun x hx=>hfin.lt x (Option.mem_toList.1 hx)),zaz.mono hfin hz,hlr0.new hB⟩
 |succ i=>
 have h400:400*i<b.length:=by omega
 have hpl:=zqI h400
 have hge:=fun H' fl' L' w' (h':JH q jb mw N G0 V k H' fl' Y lo L' w')=>giveH h' 2 ae
 have hsub:∀ w',zaS w' (some ⟨gp,op,none⟩) b.length 1 (bv b)→zaS w' (some ⟨gp,op+400*i,none⟩) (zdb b i).length 1 (bv (zdb b i)):=fun w' h'=>by
   have h9:=h'.subB (400*i) (zdb b i).length ae
   have e:(b.drop (400*i)).take (zdb b i).length=zdb b i:=by
     conv=>rhs;rw[←List.take_length (l:=zdb b i)]
     unfold zdb
     rw[List.take_take]
     congr 1
     rw[List.length_take]
     omega
   rwa [e]at h9
 have hpr4:(zdb b i).length≤400:=by omega
 have hobt:∃ pr,zdb b i=pr:=⟨_,rfl⟩
 obtain⟨pr,hpr⟩:=hobt
 refine zah (zah (zaa (zad (zab) (zad (zcH rfl rfl) (zae (zaf (zgP rfl (ae) (zat (zaf (zah (zav (zah (zaa (zad (zab) (zcQ rfl (zaj aa rfl) (hge _ _ _ wr hJ) ((fun c w' ⟨he,hc,hf,hl⟩=>zbs ⟨by rw[hlp,zcf,he],hc,hf,hlr.lq hl⟩)) ?_)))))))))))))))
 rintro _ w26 ⟨n,H2,fl2,hg2,hok,rfl,hJ2,hb26⟩
 have hJ:=hJ2
 have hsr:=hsr.klp hb26 hpL
 replace hlr:=hlr.ll hb26 aA
 have hfN:=hJ.ok.fN
 have hn1:=hok.n1
 have hnf:=hok.nf
 have hget:=fun L' w' (h':JH q jb mw N G0 V k H2 fl2 Y lo L' w')=>getH h' n hn1 hnf
 rw[hok.new]at hget
 have hln:=fun w' h'=>layNew 2 ae (some ⟨gp,op+400*i,none⟩) (cap - 400*i) (zdb b i) w' h' hpr4
 have hlk:=fun w'=>zmc ⟨2,0,[some (zdb b i)]⟩ nx w' (zdq ae ae hpr4) ae
 have hset:=fun L' w' (h':JH q jb mw N G0 V k H2 fl2 Y lo L' w')=>setH h' n hn1 hnf (U:=zga b i nx) hok.ni (zdq ae ae hpr4)
 have hP0l:=zaR (zdq (kd:=2) (nx:=0) (r:=zdb b i) ae ae hpr4)
 have hP2l:=zaR (zdq (kd:=2) (nx:=nx) (r:=zdb b i) ae ae hpr4)
 have hN0l:=zaR (zbQ (kind:=2) ae)
 have hlk2:∀ w',Calls Tryz.prog 94 [.agg (bv (zay ⟨2,0,[some (zdb b i)]⟩)).toArray, .int .i64 (nx:Int)].toArray w' (Ret fun v w2=>v= .tuple #[.agg (bv (zay (zga b i nx))).toArray, .int .i64 0]∧Below w'.heap.size w' w2):=hlk
 clear hlk
 have hP2l2:(bv (zay (zga b i nx))).length=512:=hP2l
 clear hP2l
 have hobt:∃ P0,zay ⟨2,0,[some (zdb b i)]⟩=P0:=⟨_,rfl⟩
 obtain⟨P0,hP0⟩:=hobt
 have hobt:∃ P2,zay (zga b i nx)=P2:=⟨_,rfl⟩
 obtain⟨P2,hP2⟩:=hobt
 have hobt:∃ PN,zay (zdX 2)=PN:=⟨_,rfl⟩
 obtain⟨PN,hPN⟩:=hobt
 simp only[hP0]at hln hlk2 hP0l
 simp only[hP2]at hlk2 hset hP2l2
 simp only[hPN]at hget hln hN0l
 refine zad (zac) (zae (zaf (zgQ (α:=Nat) (fun g8=>[(0, .pointer (some ⟨jb,0,none⟩)),(1, .slice (some ⟨gp,op,none⟩) b.length cap),(5, .int .i64 (nx:Int)),(6, .int .i64 (((i+1:Nat):Int) - 1)),(7, .int .i64 (n:Int)),(8, .pointer (some ⟨g8,0,none⟩)),(10, .int .i64 0)]) (fun g8 w'=>row w' g8 (bv P0) 62∧w.heap.size≤g8∧JH q jb mw N G0 V k H2 fl2 Y lo (g8::L) w'∧zaS w' (some ⟨gp,op,none⟩) b.length 1 (bv b)∧LoL lo L w w') ?_ ?_)))
 ·
  refine zct (lo) (L) aa ?_
  intro w901 hb901 hn901 hS901
  replace hJ:=hJ.new hb901
  replace hsr:=hsr.new hb901
  replace hlr:=hlr.new hb901
  have hJ_d901:=hJ
  have hsr_d901:=hsr
  have hlr_d901:=hlr
  refine zas 0 (zab) (zas 1 (zab) (zas 3 (zab) (zas 4 (zab) (zas 5 (zdv rfl rfl (show IntKind.i64.wrap ((((i+1:Nat):Int) - 1)*400)=((400*i:Nat):Int) by rw[w64 ae];omega)) (zas 6 (zab) (zas 7 (zaO rfl rfl (show IntKind.i64.wrap ((((i+1:Nat):Int) - 1)+1)=((i+1:Nat):Int) by rw[w64 ae];omega)) (zas 8 (zdv rfl rfl (show IntKind.i64.wrap (((i+1:Nat):Int)*400)=((400*(i+1):Nat):Int) by rw[w64 ae];omega)) (zas 9 (zab) (zas 10 (zaB (e:=5) (sz:=1) aa rfl rfl) (zas 11 (zi2 rfl rfl) (zas 12 (zcq (e:=5) (400*i) (min (400*(i+1)) b.length) (cap) ((zdb b i).length) aa rfl ⟨_,_,rfl,ae⟩ ⟨_,_,rfl,ae⟩ rfl ay ae ae ae ae ae) (zcA 2 18 aa ?_ ?_))))))))))))
  ·
   refine zaU rfl rfl (zaj aa rfl) (hget _ w901 hJ) ?_
   rintro _ w30 ⟨rfl,hJ,hb30⟩
   have hsr:=hsr.klp hb30.wk hpL
   have hS902:=hS901.zdh hn901 hb30.wk
   refine⟨hS902,?_⟩
   replace hlr:=hlr.ll hb30 aA
   refine zcA 13 18 aa ?_ ?_
   ·
    refine zaU rfl rfl (zaj aa rfl) (hln w30 (hsub _ hsr)) ?_
    rintro _ w41 ⟨rfl,hb41⟩
    have hS903:=hS902.add0 hb41
    refine⟨hS903,?_⟩
    replace hJ:=hJ.new hb41
    replace hsr:=hsr.new hb41
    replace hlr:=hlr.new hb41
    refine zas 14 (zab) (zas 15 (zai rfl rfl) (zas 16 (zai rfl rfl) (zas 17 (zai rfl rfl) (zaA 18 aa (zby rfl rfl (zar (List.replicate 512 (Value.int .u8 0)) aa (fun g8 w8 hg8 hr8 hb8=>?_)))))))
    have hS904:=hS903.add0 hb8
    refine⟨hS904,?_⟩
    have ge_hS903_g8:=Nat.le_trans hS903.size hg8
    have sz_g8:=hlr.size
    replace hJ:=hJ.newc hb8 hg8 hr8.lt
    replace hsr:=hsr.new hb8
    replace hlr:=hlr.new hb8
    refine zaA 19 aa (zbB rfl rfl (zaQ 512 (bv P0) hr8 (fun w906 hr8 ho906=>?_)))
    have hS905:=hS904.add1 ho906 aj
    refine⟨hS905,?_⟩
    replace hJ:=hJ.only ho906 ai
    replace hsr:=hsr.only ho906 ae
    replace hlr:=hlr.only ho906 ax
    refine zas 20 (zac) (zas 21 (zac) (zaI aa (za2 ⟨g8,⟨rfl,rfl,rfl,rfl,rfl,rfl,rfl,rfl⟩,hr8,by have:=hlr.size;omega,hJ.weak (fun b hb=>by simp at hb ⊢;rcases hb with hb|hb<;>simp[hb]),hsr,hlr⟩)))
   ·
    refine zby rfl rfl (zar (List.replicate 512 (Value.int .u8 0)) aa (fun g8 w8 hg8 hr8 hb8=>?_))
    have hS907:=hS902.add0 hb8
    refine⟨hS907,?_⟩
    have ge_hS902_g8:=Nat.le_trans hS902.size hg8
    have sz_g8:=hlr.size
    replace hJ:=hJ.newc hb8 hg8 hr8.lt
    replace hsr:=hsr.new hb8
    replace hlr:=hlr.new hb8
    refine zaA 13 aa (zaU rfl rfl (zaj aa rfl) (hln w8 (hsub _ hsr)) ?_)
    rintro _ w41 ⟨rfl,hb41⟩
    have hS908:=hS907.add0 hb41
    refine⟨hS908,?_⟩
    replace hJ:=hJ.new hb41
    replace hsr:=hsr.new hb41
    replace hlr:=hlr.new hb41
    replace hr8:=hr8.new hb41
    refine zas 14 (zab) (zas 15 (zai rfl rfl) (zas 16 (zai rfl rfl) (zas 17 (zai rfl rfl) (zaA 19 aa (zbB rfl rfl (zaQ 512 (bv P0) hr8 (fun w910 hr8 ho910=>?_)))))))
    have hS909:=hS908.add1 ho910 aj
    refine⟨hS909,?_⟩
    replace hJ:=hJ.only ho910 ai
    replace hsr:=hsr.only ho910 ae
    replace hlr:=hlr.only ho910 ax
    refine zas 20 (zac) (zas 21 (zac) (zaI aa (za2 ⟨g8,⟨rfl,rfl,rfl,rfl,rfl,rfl,rfl,rfl⟩,hr8,by have:=hlr.size;omega,hJ.weak (fun b hb=>by simp at hb ⊢;rcases hb with hb|hb<;>simp[hb]),hsr,hlr⟩)))
  ·
   refine zby rfl rfl (zar (List.replicate 512 (Value.int .u8 0)) aa (fun g8 w8 hg8 hr8 hb8=>?_))
   have hS911:=hS901.add0 hb8
   refine⟨hS911,?_⟩
   have ge_hS901_g8:=Nat.le_trans hS901.size hg8
   have sz_g8:=hlr.size
   replace hJ:=hJ.newc hb8 hg8 hr8.lt
   replace hsr:=hsr.new hb8
   replace hlr:=hlr.new hb8
   refine zaA 2 aa (zaU rfl rfl (zaj aa rfl) (hget _ w8 hJ) ?_)
   rintro _ w30 ⟨rfl,hJ,hb30⟩
   have hsr:=hsr.klp hb30.wk hpL
   have hS912:=hS911.zdh hn901 hb30.wk
   refine⟨hS912,?_⟩
   replace hlr:=hlr.ll hb30 aA
   replace hr8:=hr8.kl hb30
   refine zaA 13 aa (zaU rfl rfl (zaj aa rfl) (hln w30 (hsub _ hsr)) ?_)
   rintro _ w41 ⟨rfl,hb41⟩
   have hS913:=hS912.add0 hb41
   refine⟨hS913,?_⟩
   replace hJ:=hJ.new hb41
   replace hsr:=hsr.new hb41
   replace hlr:=hlr.new hb41
   replace hr8:=hr8.new hb41
   refine zas 14 (zab) (zas 15 (zai rfl rfl) (zas 16 (zai rfl rfl) (zas 17 (zai rfl rfl) (zaA 19 aa (zbB rfl rfl (zaQ 512 (bv P0) hr8 (fun w915 hr8 ho915=>?_)))))))
   have hS914:=hS913.add1 ho915 aj
   refine⟨hS914,?_⟩
   replace hJ:=hJ.only ho915 ai
   replace hsr:=hsr.only ho915 ae
   replace hlr:=hlr.only ho915 ax
   refine zas 20 (zac) (zas 21 (zac) (zaI aa (za2 ⟨g8,⟨rfl,rfl,rfl,rfl,rfl,rfl,rfl,rfl⟩,hr8,by have:=hlr.size;omega,hJ.weak (fun b hb=>by simp at hb ⊢;rcases hb with hb|hb<;>simp[hb]),hsr,hlr⟩)))
 ·
  rintro g8 f8 w8 ⟨hr8,hg8,hJ,hsr,hlr⟩
  refine zah (zaa (zad (zab) (zao rfl (zaj aa rfl) (zif w8) ?_)))
  rintro _ _ ⟨rfl,rfl⟩
  refine zae (zaf (zah (zaa (zad (za7 512 hr8) (zad (zab) (zao rfl (zaj aa rfl) (hlk2 w8) ?_))))))
  rintro _ w50 ⟨rfl,hb50⟩
  replace hJ:=hJ.new hb50
  replace hsr:=hsr.new hb50
  replace hlr:=hlr.new hb50
  replace hr8:=hr8.new hb50
  refine zad (zab) (zad (zai rfl rfl) (zad (zai rfl rfl) (zaK rfl (zaQ 512 (bv P2) hr8 (fun w916 hr8 ho916=>?_)))))
  replace hJ:=hJ.only ho916 ai
  replace hsr:=hsr.only ho916 ae
  replace hlr:=hlr.only ho916 ax
  refine zad (zac) (zae (zaf (zah (zaa (zad (zab) (zao rfl (zaj aa rfl) (zif w916) ?_))))))
  rintro _ _ ⟨rfl,rfl⟩
  refine zae (zaf (zah (zaa (zad (zab) (zad (zab) (zad (za7 512 hr8) (zao rfl (zaj aa rfl) (hset _ w916 hJ) ?_)))))))
  rintro _ w58 ⟨hJ,hb58⟩
  have hsr:=hsr.klp hb58 (hpL.imp id fun h=>List.mem_cons_of_mem _ h)
  replace hlr:=hlr.ll hb58 aA
  replace hr8:=hr8.kl hb58
  refine zae (zaf (zaa (zad (zab) (zad (zac) (zae (zaP (zaf (zaa (zad (zab) (zad (zcX rfl rfl (show IntKind.i64.wrap ((((i+1:Nat):Int) - 1) - 1)=(i:Int) - 1 by rw[w64 ae];omega)) (zad (zac) (zae (za2 ⟨(i,n,⟨H2.F,zbb H2.S n (zga b i nx)⟩,fl2),by show i<i+1;omega,⟨rfl,rfl,rfl,rfl,rfl⟩,by show i≤K;omega,by show n<2048;omega,by rw[hlp,zcf,hg2],hJ.weak (fun b hb=>by simp[hb]),hsr,hlr⟩)))))))))))))
end
def zmF(N:Nat)(c:List UInt8)(H:HS)(rl:List Nat):Option (Nat × Nat × HS):=
 match rl.find? (fun m=>decide (zi6 (H.S m) c=0))with
 |some m=>some (m,zbY (H.S m).slots,⟨H.F,zbb H.S m (zbX (H.S m) (zbY (H.S m).slots) c)⟩)
 |none=>match zdj N H 1 with
  |none=>none
  |some (n,H')=>some (n,0,⟨⟨H'.F.fresh,H'.F.free,H'.F.many,n,H'.F.root⟩,zbb H'.S n ⟨1,H'.F.records,[some c]⟩⟩)
structure znK(H:HS)(rl:List Nat):Prop where
 ch:zcl H.S H.F.records rl
 at_:∀ m∈rl,1≤m∧m<H.F.fresh∧(H.S m).kind=1
 nd:rl.Nodup
theorem znK.li{N:Nat}{H:HS}{fl rl:List Nat}{z:Nat→Pg}{G:Nat→Pg}(h:znK H rl)(hH:HOk N H fl)(hG:GS z G H):LiOk G H.S H.F.fresh 1 H.F.records rl:=
 ⟨h.ch,fun m hm=>have h1:=h.at_ m hm;⟨h1.1,h1.2.1,hH.isV hG h1.1 h1.2.1,h1.2.2⟩,by
  have h2:=zea (H.F.fresh - 1) 1 rl h.nd fun x hx=>by have:=h.at_ x hx;have:=hH.f1;omega
  omega⟩
theorem znK.ni{N:Nat}{H:HS}{fl rl:List Nat}(h:znK H rl)(hH:HOk N H fl){m:Nat}(hm:m∈rl):m∉fl:=fun hf=>by
 have h1:=(h.at_ m hm).2.2
 have h2:=(hH.fk m hf).2.2
 omega
theorem zhQ{V:View}(hV:Good V){i:Nat}{r:List UInt8}(hi:i≤V.slots.length)(hr:r.length≤400)(hz:zb3 (zbX V i r)≤512):Good (zbX V i r):=by
 refine⟨hV.kind,hV.next,hz,fun r2 h2=>?_,?_⟩
 ·have h3:some r2∈zjI V.slots i r:=h2
  unfold zjI at h3
  split at h3
  ·rcases List.mem_append.1 h3 with h4|h4
   ·exact hV.cell r2 h4
   ·simp at h4;subst h4;exact hr
  ·rcases List.mem_or_eq_of_mem_set h3 with h4|h4
   ·exact hV.cell r2 h4
   ·cases h4;exact hr
 ·show(zjI V.slots i r).getLast?≠some none
  unfold zjI
  split
  ·simp
  ·rename_i hne
   intro hl
   rw[List.getLast?_eq_getElem?,List.length_set,List.getElem?_set]at hl
   split at hl
   ·split at hl<;>cases hl
   ·exact hV.last (by rw[List.getLast?_eq_getElem?];exact hl)
theorem zmG{V:View}(hV:Good V){c:List UInt8}(h:zi6 V c=0):Good (zbX V (zbY V.slots) c):=by
 unfold zi6 zcg at h
 split at h
 ·cases h
 ·split at h
  ·cases h
  ·exact zhQ hV (zi5 _) ae ae
theorem lay_e8{V:View}{c:List UInt8}(hc:c.length≤400)(h:zi6 V c≠0):zi6 V c=8:=by
 unfold zi6 zcg at h ⊢
 rw[if_neg ae]at h ⊢
 split
 ·rfl
 ·rename_i hx;rw[if_neg hx]at h;exact absurd rfl h
theorem zpi{p:Nat→Bool}:∀ {l:List Nat} {i m:Nat},(∀ x∈l.take i,p x=false)→l[i]?=some m→p m=true→l.find? p=some m
 |x::l,0,m,_,h,hp=>by simp at h;subst h;simp[hp]
 |x::l,i+1,m,h1,h,hp=>by
  have h2:=h1 x ay
  rw[List.find?_cons,h2]
  exact zpi (i:=i) (fun y hy=>h1 y (by rw[List.take_succ_cons];simp[hy])) aX hp
theorem zpj{p:Nat→Bool}{l:List Nat}(h:∀ x∈l,p x=false):l.find? p=none:=List.find?_eq_none.2 fun x hx=>by rw[h x hx];simp
theorem zjy{kd nx:Nat}(hk:kd≤4)(hn:nx<2147483648):Good ⟨kd,nx,[]⟩:=⟨hk,hn,(by show 12+4*0+0≤512;omega),(fun r hr=>by cases hr),ay⟩
theorem layNx(kd nx:Nat)(hk:kd≤4)(hn:nx<2147483648)(pr:Option Addr)(cr:Nat)(r:List UInt8)(w:World)(hr:zaS w pr r.length 1 (bv r))(h4:r.length≤400):Calls Tryz.prog 92 [.agg (bv (zay ⟨kd,nx,[]⟩)).toArray, .slice pr r.length cr].toArray w
  (Ret fun v w'=>v= .tuple #[.agg (bv (zay ⟨kd,nx,[some r]⟩)).toArray, .int .i64 0, .int .i64 0]∧Below w.heap.size w w'):=by
 have hE:zi6 ⟨kd,nx,[]⟩ r=0:=by
  unfold zi6 zcg
  rw[if_neg ae,if_neg]
  show¬512<12+4*1+(r.length+0)
  omega
 have hP:zpO ⟨kd,nx,[]⟩ r=zay ⟨kd,nx,[some r]⟩:=by unfold zpO;rw[if_pos hE];rfl
 have h:=lay8 ⟨kd,nx,[]⟩ pr cr r w (zjy hk hn) hr
 rw[hP,hE]at h
 exact h
section
variable {Y:World→List Nat→Prop}[hYT:Thing Y]{q jb mw N lo:Nat}{L:List Nat}{G0 V:Nat→Pg}{k:Nat}{H:HS}{fl:List Nat}{w:World}
set_option maxRecDepth 20000 in
set_option maxHeartbeats 1000000 in
theorem layH(h:JH q jb mw N G0 V k H fl Y lo L w){rl:List Nat}(hR:znK H rl)(p:Option Addr)(cap:Nat)(cb:List UInt8)(hs:zaS w p cb.length 1 (bv cb))(hc1:1≤cb.length)(hc4:cb.length≤400)(hpL:∀ c o,p=some ⟨c,o,none⟩→c<lo∨c∈L):
  Calls Tryz.prog 39 [.pointer (some ⟨jb,0,none⟩), .slice p cb.length cap].toArray w (zg2 (fun v w'=>∃ m s H' fl',zmF N cb H rl=some (m,s,H')∧v= .agg #[.int .i64 (m:Int), .int .i64 (s:Int)]∧JH q jb mw N G0 V k H' fl' Y lo L w'∧LoL lo L w w')
    (fun c w'=>zmF N cb H rl=none∧c=pe (zdp 8)∧JF q jb mw N G0 V k Y lo L w'∧LoL lo L w w')):=by
 obtain⟨gp,op,rfl,hgp⟩:=hs.some ae
 have hpL:=hpL gp op rfl
 have hN:=h.n48
 have hH:=h.ok
 have hfN:=hH.fN
 have hlo0:=h.lo'
 obtain⟨G,hG,hT⟩:=h.ex
 have hli:=hR.li hH hG
 have hls:=fun w'=>ziN (q:=q) (jb:=jb) (mw:=mw) (lo:=lo) (G0:=G0) (V:=V) (k0:=k) hli hfN w'
 obtain⟨c,hJ⟩:=zbL hT
 obtain⟨hjl9,hjL9⟩:=hJ.jl
 have hLL:=LoL.refl lo L w
 have hB:=Below.refl w.heap.size w
 have hj:=hJ.zg3
 refine zb6 (fn:=Tryz.f39) (rs:=[.cell 4 38]) (n:=80) Tryz.func39 rfl rfl Tryz.ntmps39 aa rfl (zah (zaa (zaD rfl (za4 ([_]) rfl (fun g2 w2 hg2 hr2 hb2=>?_)))))
 have ge_hB_g2:=Nat.le_trans hB.size hg2
 have lt_jb_g2:jb<g2:=Nat.lt_of_lt_of_le hj.lt hg2
 replace hT:=hT.newc hb2 hg2 hr2.lt
 replace hj:=hj.new hb2
 replace hB:=hB.acc hb2
 refine zaD rfl (za4 ([_]) rfl (fun g3 w3 hg3 hr3 hb3=>?_))
 have ge_hB_g3:=Nat.le_trans hB.size hg3
 have lt_jb_g3:jb<g3:=Nat.lt_of_lt_of_le hj.lt hg3
 have lt_g2_g3:g2<g3:=Nat.lt_of_lt_of_le hr2.lt hg3
 replace hT:=hT.newc hb3 hg3 hr3.lt
 replace hj:=hj.new hb3
 replace hr2:=hr2.new hb3
 replace hB:=hB.acc hb3
 refine zaD rfl (zar ([Value.int .i64 0,Value.int .i64 0]) aa (fun g4 w4 hg4 hr4 hb4=>?_))
 have ge_hB_g4:=Nat.le_trans hB.size hg4
 have lt_jb_g4:jb<g4:=Nat.lt_of_lt_of_le hj.lt hg4
 have lt_g2_g4:g2<g4:=Nat.lt_of_lt_of_le hr2.lt hg4
 have lt_g3_g4:g3<g4:=Nat.lt_of_lt_of_le hr3.lt hg4
 replace hT:=hT.newc hb4 hg4 hr4.lt
 replace hj:=hj.new hb4
 replace hr2:=hr2.new hb4
 replace hr3:=hr3.new hb4
 replace hB:=hB.acc hb4
 refine zae (zaf (zah (zah (za3 [] aa ?_))))
 intro w901 hb901 hS901
 replace hT:=hT.new hb901
 replace hj:=hj.new hb901
 replace hr2:=hr2.new hb901
 replace hr3:=hr3.new hb901
 replace hr4:=hr4.new hb901
 replace hB:=hB.acc hb901
 have hT_d901:=hT
 have hj_d901:=hj
 have hr2_d901:=hr2
 have hr3_d901:=hr3
 have hr4_d901:=hr4
 have hB_d901:=hB
 refine zbo 0 (fun w' hS'=>zau (hr2_d901.kq hS')) (zbo 1 (fun w' hS'=>zau (hr2_d901.kq hS')) (zas 2 (zak rfl) (zas 3 (zaw 0) (zas 4 (zaw 3) (zbo 5 (fun w' hS'=>zau (hj_d901.kq hS')) (zaA 6 aa ?_))))))
 have hl2:=hr2.lt
 have hl3:=hr3.lt
 have hl4:=hr4.lt
 refine zaU rfl rfl (zaj aa rfl) (hls w901) ?_
 rintro _ w21 ⟨gx1,gx2,gx3,rfl,hgs,hb21,hseq⟩
 have hT:=hT.zk8 hb21 hgs
 have hS902:=hS901.add0 hb21
 refine⟨hS902,?_⟩
 replace hj:=hj.new hb21
 replace hr2:=hr2.new hb21
 replace hr3:=hr3.new hb21
 replace hr4:=hr4.new hb21
 replace hB:=hB.acc hb21
 refine zaI aa (zaf (zav ?_))
 have hks1:=hgs gx1 ay
 have hks2:=hgs gx2 ay
 have hks3:=hgs gx3 ay
 have hobt:∃ D,(w21).heap.size=D:=⟨_,rfl⟩
 obtain⟨D,hD⟩:=hobt
 have hBs:=hB.size
 have hxs:(liX H.S rl).length=rl.length:=by unfold liX;rw[List.length_map]
 have hsW:=hs.below hB (Nat.le_refl _)
 have hgpD:gp<D:=by have:=hsW.some ae;obtain⟨_,_,e,h9⟩:=this;cases e;omega
 have hobt:∃ L0,[gx1,gx2,gx3]++g4::g3::g2::L=L0:=⟨_,rfl⟩
 obtain⟨L0,hL0⟩:=hobt
 have hT9:Two (JZ q jb mw N G0 G V k H.F) Y lo L0 w21:=by rw[←hL0];exact hT
 have hL0s:∀ b∈L,b∈L0:=fun b hb=>by rw[←hL0];simp[hb]
 have hL02:g2∈L0∧g3∈L0∧g4∈L0:=by rw[←hL0];simp
 have hpL0:gp<lo∨gp∈L0:=hpL.imp id (hL0s _)
 refine zdQ (ps:=[22,23]) (L:=L0) (X:=JZ q jb mw N G0 G V k H.F) (Y:=Y) (α:=Unit) (fun _=>[]) D hD (fun _ h=>h) rfl aa hseq (fun v hv=>by unfold liX at hv;obtain⟨m,_,rfl⟩:=List.mem_map.1 hv;rfl) aa ay (fun b hb=>by rw[←hL0];exact List.mem_append_left _ hb)
  (fun i _ w'=>i≤rl.length∧(∀ m∈rl.take i,zi6 (H.S m) cb≠0)∧row w' g2 [.pointer (some ⟨jb,0,none⟩)] 81∧row w' g3 [.slice (some ⟨gp,op,none⟩) cb.length cap] 33∧row w' g4 [.int .i64 0, .int .i64 0] 38∧zaS w' (some ⟨gp,op,none⟩) cb.length 1 (bv cb)∧LoL lo L w w')
  (fun c w'=>c= .ret∧∃ m s H',zmF N cb H rl=some (m,s,H')∧JH q jb mw N G0 V k H' fl Y lo ((D+1)::D::L) w'∧row w' g4 [.int .i64 (m:Int), .int .i64 (s:Int)] 38∧LoL lo L w w')
  ?_ ?_ ?_ ?_ (fun _ _ _ _ b hb=>by cases hb) () hT9 ⟨Nat.zero_le _,(fun m hm=>by cases hm),hr2,hr3,hr4,hsW,LoL.of_below hB⟩ ?_ ?_ ?_
 ·rintro i _ W W' ⟨h1,h2,h3,h4,h5,h6,h7⟩ hk
  have hm:∀ b∈L0,b∈[]++(D+1)::D::L0:=fun b hb=>by simp[hb]
  exact⟨h1,h2,h3.kpd hk.kp (zam (.inr (hm _ hL02.1))),h4.kpd hk.kp (zam (.inr (hm _ hL02.2.1))),h5.kpd hk.kp (zam (.inr (hm _ hL02.2.2))),h6.klp hk (hpL0.imp id (hm _)),h7.ll hk fun b hb=>hm _ (hL0s b hb)⟩
 ·rintro i _ W W' ⟨h1,h2,h3,h4,h5,h6,h7⟩ ho
  exact⟨h1,h2,h3.only ho ae,h4.only ho ae,h5.only ho ae,h6.only ho ae,h7.only ho aG⟩
 ·rintro c W W' ⟨h1,m,s,H',h2,h3,h4,h5⟩ hb
  exact⟨h1,m,s,H',h2,h3.new hb,h4.new hb,h5.new hb⟩
 ·rintro c W W' ⟨h1,m,s,H',h2,h3,h4,h5⟩ ho
  exact⟨h1,m,s,H',h2,h3.only ho (.inr ay),h4.only ho ae,h5.only ho aG⟩
 ·rintro ly i v _ W1 Lx hv hLx _ hT1 ⟨hi,hno,hr2,hr3,hr4,hsr,hl1⟩ hsz1
  obtain⟨m,hm,rfl⟩:∃ m,rl[i]?=some m∧v=[.int .i64 (m:Int), .agg (bv (zay (H.S m))).toArray]:=by
    unfold liX at hv
    rw[List.getElem?_map]at hv
    have hobt:=Option.map_eq_some_iff.1 hv
    obtain⟨m,hm,e⟩:=hobt
    exact⟨m,hm,e.symm⟩
  have hil:i<rl.length:=(List.getElem?_eq_some_iff.1 hm).1
  have hmem:=List.mem_of_getElem? hm
  have hobt:=hli.at_ m hmem
  obtain⟨ha1,ha2,ha3,ha4⟩:=hobt
  have hlay:=fun w' h'=>lay8 (H.S m) (some ⟨gp,op,none⟩) cap cb w' ha3.1 h'
  have hQl:=zaR ha3.1
  have hJ1:JH q jb mw N G0 V k H fl Y lo (Lx++((D+1)::D::L0)) W1:=⟨hH,G,hG,hT1⟩
  have hset:=fun L' w' (hg:Good (zbX (H.S m) (zbY (H.S m).slots) cb)) (h':JH q jb mw N G0 V k H fl Y lo L' w')=>setH h' m ha1 ha2 (hR.ni hH hmem) hg
  have hobt:∃ Q,zay (H.S m)=Q:=⟨_,rfl⟩
  obtain⟨Q,hQ⟩:=hobt
  simp only[hQ]at hlay hQl ⊢
  have hBa:=Below.refl W1.heap.size W1
  refine zah (zaa (zad (zac) (zae (zaf (zaa (zaD rfl (zar (List.replicate 512 (Value.int .u8 0)) aa (fun g6 w6 hg6 hr6 hb6=>?_))))))))
  have ge_hBa_g6:=Nat.le_trans hBa.size hg6
  replace hJ1:=hJ1.newc hb6 hg6 hr6.lt
  replace hT1:=hT1.newc hb6 hg6 hr6.lt
  replace hBa:=hBa.acc hb6
  refine zaK rfl (zaQ 512 (bv Q) hr6 (fun w903 hr6 ho903=>?_))
  replace hJ1:=hJ1.only ho903 ai
  replace hT1:=hT1.only ho903 ai
  replace hBa:=ho903.below hBa ge_hBa_g6
  refine zae (⟨rfl,hBa,fun W2 hs=>?_⟩)
  have hsa:=hBa.size
  have hss:=hs.size
  replace hr6:=hr6.only hs ae
  replace hJ1:=hJ1.only hs (.inr ay)
  replace hT1:=hT1.only hs (.inr ay)
  replace hr2:=(hr2.new hBa).only hs ae
  replace hr3:=(hr3.new hBa).only hs ae
  replace hr4:=(hr4.new hBa).only hs ae
  replace hsr:=(hsr.new hBa).only hs ae
  replace hl1:=(hl1.new hBa).only hs aG
  have hLr:=LoL.refl lo ((D+1)::D::Lx) W2
  obtain⟨hg2L,hg3L,hg4L⟩:=hL02
  have hLin2:∀ (a b:Nat),∀ x∈(D+1)::D::Lx,x∈a::b::(Lx++((D+1)::D::L0)):=fun a b x hx=>by
    simp only[List.mem_cons,List.mem_append]at hx ⊢
    rcases hx with h|h|h<;>simp[h]
  have hfix:∀ g,g<D→gx1≠g→gx2≠g→gx3≠g→g∉(D+1)::D::Lx:=fun g hg e1 e2 e3 hm=>by
    simp only[List.mem_cons]at hm
    rcases hm with e|e|e
    · omega
    · omega
    · rcases hLx g e with e|e
      ·simp only[List.mem_cons,List.not_mem_nil,or_false]at e
       rcases e with e|e|e
       ·exact e1 e.symm
       ·exact e2 e.symm
       ·exact e3 e.symm
      ·omega
  have hgL4:=hfix g4 ae ae ae ae
  have hLin:∀ (a b:Nat),∀ x∈L,x∈a::b::(Lx++((D+1)::D::L0)):=fun a b x hx=>by have:=hL0s x hx;simp[this]
  have hLin0:∀ (a b:Nat),∀ x∈L0,x∈a::b::(Lx++((D+1)::D::L0)):=fun a b x hx=>by simp[hx]
  have hlo4:lo≤g4:=by have:=hlo0.1;omega
  have hobt:∃ E,zi6 (H.S m) cb=E:=⟨_,rfl⟩
  obtain⟨E,hE⟩:=hobt
  by_cases hE0:E=0
  · subst hE0
    have hgd:=zmG ha3.1 hE
    have hPl:=zaR hgd
    have hlP:zpO (H.S m) cb=zay (zbX (H.S m) (zbY (H.S m).slots) cb):=by unfold zpO;rw[if_pos hE]
    have hsetg:=fun L' w' h'=>hset L' w' hgd h'
    simp only[hE,hlP,if_true]at hlay
    have hobt:∃ P1,zay (zbX (H.S m) (zbY (H.S m).slots) cb)=P1:=⟨_,rfl⟩
    obtain⟨P1,hP1⟩:=hobt
    simp only[hP1]at hlay hsetg hPl
    refine zav (zah (zaa (zad (za7 512 hr6) (zad (zau hr3) (zao rfl (zaj aa rfl) (hlay W2 hsr) ?_)))))
    rintro _ w27 ⟨rfl,hb27⟩
    replace hJ1:=hJ1.new hb27
    replace hr6:=hr6.new hb27
    replace hLr:=hLr.new hb27
    replace hl1:=hl1.new hb27
    replace hr2:=hr2.new hb27
    replace hr3:=hr3.new hb27
    replace hr4:=hr4.new hb27
    replace hsr:=hsr.new hb27
    have hz27:=hb27.size
    refine zad (zab) (zad (zai rfl rfl) (zad (zai rfl rfl) (zad (zai rfl rfl) (zaD rfl (zar (List.replicate 512 (Value.int .u8 0)) aa (fun g7 w7 hg7 hr7 hb7=>?_))))))
    have lt_g6_g7:g6<g7:=Nat.lt_of_lt_of_le hr6.lt hg7
    have lt_g2_g7:g2<g7:=Nat.lt_of_lt_of_le hr2.lt hg7
    have lt_g3_g7:g3<g7:=Nat.lt_of_lt_of_le hr3.lt hg7
    have lt_g4_g7:g4<g7:=Nat.lt_of_lt_of_le hr4.lt hg7
    replace hJ1:=hJ1.newc hb7 hg7 hr7.lt
    replace hr6:=hr6.new hb7
    replace hLr:=hLr.new hb7
    replace hl1:=hl1.new hb7
    replace hr2:=hr2.new hb7
    replace hr3:=hr3.new hb7
    replace hr4:=hr4.new hb7
    replace hsr:=hsr.new hb7
    refine zaK rfl (zaQ 512 (bv P1) hr7 (fun w904 hr7 ho904=>?_))
    replace hJ1:=hJ1.only ho904 ai
    replace hr6:=hr6.only ho904 (Nat.ne_of_lt lt_g6_g7)
    replace hLr:=hLr.only ho904 ax
    replace hl1:=hl1.only ho904 ax
    replace hr2:=hr2.only ho904 (Nat.ne_of_lt lt_g2_g7)
    replace hr3:=hr3.only ho904 (Nat.ne_of_lt lt_g3_g7)
    replace hr4:=hr4.only ho904 (Nat.ne_of_lt lt_g4_g7)
    replace hsr:=hsr.only ho904 ae
    refine zad (zac) (zad (zac) (zae (zaf (zah (zah (zaa (zad (zab) (zad (za5 rfl rfl) (zae (zaf (zgP rfl (rfl) (zah (zaa (zad (zau hr2) (zad (zab) (zad (za7 512 hr7) (zao rfl (zaj aa rfl) (hsetg _ w904 hJ1) ?_)))))))))))))))))
    rintro _ w36 ⟨hJ1,hb36⟩
    have hsr:=hsr.klp hb36 (hpL0.imp id (hLin0 _ _ _))
    have hl1:=hl1.ll hb36 (hLin _ _)
    have hLr:=hLr.ll hb36 (hLin2 _ _)
    replace hr6:=hr6.kl hb36
    replace hr2:=hr2.kl hb36
    replace hr3:=hr3.kl hb36
    replace hr4:=hr4.kl hb36
    replace hr7:=hr7.kl hb36
    refine zae (zaf (zah (zaa (zad (zab) (zad (zab) (zad (zfU (.int .i64 (m:Int)) (.int .i64 ((zbY (H.S m).slots:Nat):Int)) [.int .i64 (m:Int), .int .i64 ((zbY (H.S m).slots:Nat):Int)] rfl rfl aa) (zaK rfl (zdY 2 ([.int .i64 (m:Int), .int .i64 ((zbY (H.S m).slots:Nat):Int)]) rfl rfl hr4 aa aR aP aO (fun w905 hr4 ho905=>?_)))))))))
    replace hJ1:=hJ1.only ho905 ai
    replace hr6:=hr6.only ho905 ae
    replace hLr:=hLr.only ho905 ax
    replace hl1:=hl1.only ho905 ax
    replace hr2:=hr2.only ho905 (Nat.ne_of_lt lt_g2_g4)
    replace hr3:=hr3.only ho905 (Nat.ne_of_lt lt_g3_g4)
    replace hsr:=hsr.only ho905 ae
    replace hr7:=hr7.only ho905 (Nat.ne_of_gt lt_g4_g7)
    refine zae (zaf (zaF (zaW (zbc ?_))))
    have hlS:zmF N cb H rl=some (m,zbY (H.S m).slots,⟨H.F,zbb H.S m (zbX (H.S m) (zbY (H.S m).slots) cb)⟩):=by
      unfold zmF
      rw[zpi (i:=i) (fun x hx=>decide_eq_false (hno x hx)) hm (decide_eq_true hE)]
    exact⟨hLr,rfl,m,_,_,hlS,hJ1.weak (fun b hb=>by
      simp only[List.mem_cons,List.mem_append]at hb ⊢
      rcases hb with h|h|h
      ·exact .inr (.inr (.inr (.inl h)))
      ·exact .inr (.inr (.inr (.inr (.inl h))))
      ·exact .inr (.inr (.inr (.inr (.inr (hL0s _ h)))))),hr4,hl1⟩
  · have hE8:=lay_e8 hc4 (by rw[hE];exact hE0)
    rw[hE]at hE8
    subst hE8
    have hlP:zpO (H.S m) cb=zcZ:=by unfold zpO;rw[if_neg (by rw[hE];decide)]
    have hPl:(bv zcZ).length=512:=zd2
    simp only[hE,hlP]at hlay
    have hobt:∃ P1,zcZ=P1:=⟨_,rfl⟩
    obtain⟨P1,hP1⟩:=hobt
    simp only[hP1]at hlay hPl
    refine zav (zah (zaa (zad (za7 512 hr6) (zad (zau hr3) (zao rfl (zaj aa rfl) (hlay W2 hsr) ?_)))))
    rintro _ w27 ⟨rfl,hb27⟩
    replace hT1:=hT1.new hb27
    replace hr6:=hr6.new hb27
    replace hLr:=hLr.new hb27
    replace hl1:=hl1.new hb27
    replace hr2:=hr2.new hb27
    replace hr3:=hr3.new hb27
    replace hr4:=hr4.new hb27
    replace hsr:=hsr.new hb27
    have hz27:=hb27.size
    refine zad (zab) (zad (zai rfl rfl) (zad (zai rfl rfl) (zad (zai rfl rfl) (zaD rfl (zar (List.replicate 512 (Value.int .u8 0)) aa (fun g7 w7 hg7 hr7 hb7=>?_))))))
    have lt_g6_g7:g6<g7:=Nat.lt_of_lt_of_le hr6.lt hg7
    have lt_g2_g7:g2<g7:=Nat.lt_of_lt_of_le hr2.lt hg7
    have lt_g3_g7:g3<g7:=Nat.lt_of_lt_of_le hr3.lt hg7
    have lt_g4_g7:g4<g7:=Nat.lt_of_lt_of_le hr4.lt hg7
    replace hT1:=hT1.newc hb7 hg7 hr7.lt
    replace hr6:=hr6.new hb7
    replace hLr:=hLr.new hb7
    replace hl1:=hl1.new hb7
    replace hr2:=hr2.new hb7
    replace hr3:=hr3.new hb7
    replace hr4:=hr4.new hb7
    replace hsr:=hsr.new hb7
    refine zaK rfl (zaQ 512 (bv P1) hr7 (fun w906 hr7 ho906=>?_))
    replace hT1:=hT1.only ho906 ai
    replace hr6:=hr6.only ho906 (Nat.ne_of_lt lt_g6_g7)
    replace hLr:=hLr.only ho906 ax
    replace hl1:=hl1.only ho906 ax
    replace hr2:=hr2.only ho906 (Nat.ne_of_lt lt_g2_g7)
    replace hr3:=hr3.only ho906 (Nat.ne_of_lt lt_g3_g7)
    replace hr4:=hr4.only ho906 (Nat.ne_of_lt lt_g4_g7)
    replace hsr:=hsr.only ho906 ae
    refine zad (zac) (zad (zac) (zae (zaf (zah (zah (zaa (zad (zab) (zad (za5 rfl rfl) (zae (zaf (zcF rfl (aD) (zat (zaf (zaa (zad (zab) (zad (za5 rfl rfl) (zao rfl (zaj aa rfl) (zgL rfl w906) ?_)))))))))))))))))
    rintro _ _ ⟨rfl,rfl⟩
    refine zae (zaP ?_)
    have htk:rl.take (i+1)=rl.take i++[m]:=by rw[List.take_add_one,hm];rfl
    refine⟨hLr,(),hT1.weak (fun b hb=>by simp only[List.mem_cons,List.mem_append]at hb ⊢;exact .inr (.inr hb)),hil,fun x hx=>?_,hr2,hr3,hr4,hsr,hl1⟩
    rw[htk]at hx
    rcases List.mem_append.1 hx with h|h
    · exact hno x h
    · rw[List.mem_singleton.1 h,hE];decide
 ·rintro _ W hTd ⟨_,hno,hr2,hr3,hr4,hsr,hlw⟩ hdef
  rw[hxs,List.take_length]at hno
  have hfn:rl.find? (fun m=>decide (zi6 (H.S m) cb=0))=none:=zpj fun x hx=>decide_eq_false (hno x hx)
  have hdf:zju W D:=⟨hdef⟩
  have hJd:JH q jb mw N G0 V k H fl Y lo (D::L0) W:=⟨hH,G,hG,hTd⟩
  have hge:=fun H' fl' L' w' (h':JH q jb mw N G0 V k H' fl' Y lo L' w')=>giveH h' 1 ae
  obtain⟨hg2L,hg3L,hg4L⟩:=hL02
  have hpan:=fun(c:List PanicEntry) (w':World) (hh:zdj N H 1=none∧c=pe (zdp 8)∧JF q jb mw N G0 V k Y lo (D::L0) w'∧LoL lo (D::L0) W w')=>(show w'.heap[D]?=some (.deferred (some []))∧(zmF N cb H rl=none∧c=pe (zdp 8)∧JF q jb mw N G0 V k Y lo L (w'.putObj D (.deferred none))∧LoL lo L w (w'.putObj D (.deferred none)))from by
    obtain⟨he,hc,⟨G3,F3,hf⟩,hl⟩:=hh
    refine⟨(hdf.kpd hl.kp (zam (.inr ay))).d,?_,hc,⟨G3,F3,(hf.only (zce _) (.inr ay)).weak fun b hb=>List.mem_cons_of_mem _ (hL0s b hb)⟩,(hlw.ll hl fun b hb=>List.mem_cons_of_mem _ (hL0s b hb)).only (zce _) aG⟩
    unfold zmF
    rw[hfn,he])
  refine zaP (zaf (zah (zaa (zad (zau hr2) (zcQ rfl (zaj aa rfl) (hge _ _ _ W hJd) ((fun c w' h=>zlI D (hpan c w' h).1 (hpan c w' h).2)) ?_)))))
  rintro _ w44 ⟨n,H2,fl2,hg2,hok,rfl,hJ2,hb44⟩
  have hJd:=hJ2
  have hsr:=hsr.klp hb44 (hpL0.imp id (List.mem_cons_of_mem _))
  have hlw:=hlw.ll hb44 (fun b hb=>List.mem_cons_of_mem _ (hL0s b hb))
  replace hr2:=hr2.kl hb44
  replace hr3:=hr3.kl hb44
  replace hr4:=hr4.kl hb44
  replace hdf:=hdf.kpd hb44.kp ag
  have hn1:=hok.n1
  have hnf:=hok.nf
  have hfN2:=hJ2.ok.fN
  obtain⟨hH2,G2,hG2,hT2⟩:=hJd
  have hGn:G2 n=zay (zdX 1):=by rw[hG2.s n hn1 hnf,hok.new]
  have hobt:=zbL hT2
  obtain⟨c2,hA⟩:=hobt
  have hj:=hA.zg3
  have hobt:∃ rc,H2.F.records=rc:=⟨_,rfl⟩
  obtain⟨rc,hrc⟩:=hobt
  have hrcN:rc<2048:=by have:=hH2.rc;omega
  rw[hrc]at hj
  have hjg:=fun L' w' (h':JAt q jb mw N G0 G2 V k H2.F c2 Y lo L' w')=>zpg h' n ae
  rw[hGn]at hjg
  have hlk:∀ w',Calls Tryz.prog 94 [.agg (bv (zay (zdX 1))).toArray, .int .i64 (rc:Int)].toArray w' (Ret fun v w2=>v= .tuple #[.agg (bv (zay ⟨1,rc,[]⟩)).toArray, .int .i64 0]∧Below w'.heap.size w' w2):=fun w'=>zmc (zdX 1) rc w' (zbQ ae) ae
  have hln:=fun w' h'=>layNx 1 rc ae ae (some ⟨gp,op,none⟩) cap cb w' h' hc4
  have hP0l:=zaR (zjy (kd:=1) (nx:=rc) ae ae)
  have hP1l:=zaR (zdq (kd:=1) (nx:=rc) (r:=cb) ae ae hc4)
  have hPNl:=zaR (zbQ (kind:=1) ae)
  have hobt:∃ P0,zay ⟨1,rc,[]⟩=P0:=⟨_,rfl⟩
  obtain⟨P0,hP0⟩:=hobt
  have hobt:∃ P1,zay ⟨1,rc,[some cb]⟩=P1:=⟨_,rfl⟩
  obtain⟨P1,hP1⟩:=hobt
  have hobt:∃ PN,zay (zdX 1)=PN:=⟨_,rfl⟩
  obtain⟨PN,hPN⟩:=hobt
  simp only[hP0]at hlk hln hP0l
  simp only[hP1]at hln hP1l
  simp only[hPN]at hjg hlk hPNl
  refine zad (zac) (zae (zaf (W_cutM (α:=Nat) [.m D] (fun g11=>[(2, .pointer (some ⟨g2,0,none⟩)),(3, .pointer (some ⟨g3,0,none⟩)),(4, .pointer (some ⟨g4,0,none⟩)),(10, .int .i64 (n:Int)),(11, .pointer (some ⟨g11,0,none⟩)),(12, .int .i64 0)]) (fun g11 w'=>row w' g11 (bv P0) 62∧D≤g11∧JAt q jb mw N G0 G2 V k H2.F c2 Y lo (D::L0) w'∧zju w' D∧row w' g2 [.pointer (some ⟨jb,0,none⟩)] 81∧row w' g3 [.slice (some ⟨gp,op,none⟩) cb.length cap] 33∧row w' g4 [.int .i64 0, .int .i64 0] 38∧zaS w' (some ⟨gp,op,none⟩) cb.length 1 (bv cb)∧LoL lo L w w') ?_ ?_)))
  ·
   refine zct (lo) ((jb::D::L0)) aa ?_
   intro w907 hb907 hn907 hS907
   replace hr2:=hr2.new hb907
   replace hr3:=hr3.new hb907
   replace hr4:=hr4.new hb907
   replace hdf:=hdf.new hb907
   replace hlw:=hlw.new hb907
   replace hsr:=hsr.new hb907
   replace hA:=hA.new hb907
   replace hj:=hj.new hb907
   have hr2_d907:=hr2
   have hr3_d907:=hr3
   have hr4_d907:=hr4
   have hdf_d907:=hdf
   have hlw_d907:=hlw
   have hsr_d907:=hsr
   have hA_d907:=hA
   have hj_d907:=hj
   refine zbo 0 (fun w' hS'=>zau (hr2_d907.kL hS')) (zas 1 (zab) (zbo 3 (fun w' hS'=>zau (hr2_d907.kL hS')) (zas 4 (zak rfl) (zas 5 (zaw 0) (zas 6 (zaw 3) (zbo 7 (fun w' hS'=>zau (hj_d907.kL hS')) (zcA 2 12 aa ?_ ?_)))))))
   ·
    refine zaU rfl rfl (zaj aa rfl) (hjg _ w907 hA) ?_
    rintro _ w48 ⟨rfl,hA,hb48⟩
    have hsr:=hsr.klp (LoL.wk (L:=D::L0) hb48) (hpL0.imp id (List.mem_cons_of_mem _))
    have hlw:=hlw.ll (LoL.wk (L:=D::L0) hb48) (fun b hb=>List.mem_cons_of_mem _ (hL0s b hb))
    have hS908:=hS907.zdh hn907 hb48.wk
    refine⟨hS908,?_⟩
    replace hr2:=hr2.kl hb48
    replace hr3:=hr3.kl hb48
    replace hr4:=hr4.kl hb48
    replace hdf:=hdf.kpd hb48.kp ag
    replace hj:=hj.kpd hb48.kp ag
    refine zcA 8 12 aa ?_ ?_
    ·
     refine zaU rfl rfl (zaj aa rfl) (hlk w48) ?_
     rintro _ w54 ⟨rfl,hb54⟩
     have hS909:=hS908.add0 hb54
     refine⟨hS909,?_⟩
     replace hr2:=hr2.new hb54
     replace hr3:=hr3.new hb54
     replace hr4:=hr4.new hb54
     replace hdf:=hdf.new hb54
     replace hlw:=hlw.new hb54
     replace hsr:=hsr.new hb54
     replace hA:=hA.new hb54
     replace hj:=hj.new hb54
     refine zas 9 (zab) (zas 10 (zai rfl rfl) (zas 11 (zai rfl rfl) (zaA 12 aa (zby rfl rfl (zar (List.replicate 512 (Value.int .u8 0)) aa (fun g11 w11 hg11 hr11 hb11=>?_))))))
     have hS910:=hS909.add0 hb11
     refine⟨hS910,?_⟩
     have ge_hS909_g11:=Nat.le_trans hS909.size hg11
     have lt_g2_g11:g2<g11:=Nat.lt_of_lt_of_le hr2.lt hg11
     have lt_g3_g11:g3<g11:=Nat.lt_of_lt_of_le hr3.lt hg11
     have lt_g4_g11:g4<g11:=Nat.lt_of_lt_of_le hr4.lt hg11
     have lt_D_g11:D<g11:=Nat.lt_of_lt_of_le hdf.lt hg11
     have lt_jb_g11:jb<g11:=Nat.lt_of_lt_of_le hj.lt hg11
     replace hr2:=hr2.new hb11
     replace hr3:=hr3.new hb11
     replace hr4:=hr4.new hb11
     replace hdf:=hdf.new hb11
     replace hlw:=hlw.new hb11
     replace hsr:=hsr.new hb11
     replace hA:=hA.newc hb11 hg11 hr11.lt
     replace hj:=hj.new hb11
     refine zaA 13 aa (zbB rfl rfl (zaQ 512 (bv P0) hr11 (fun w912 hr11 ho912=>?_)))
     have hS911:=hS910.add1 ho912 aj
     refine⟨hS911,?_⟩
     replace hr2:=hr2.only ho912 (Nat.ne_of_lt lt_g2_g11)
     replace hr3:=hr3.only ho912 (Nat.ne_of_lt lt_g3_g11)
     replace hr4:=hr4.only ho912 (Nat.ne_of_lt lt_g4_g11)
     replace hdf:=hdf.only ho912 (Nat.ne_of_lt lt_D_g11)
     replace hlw:=hlw.only ho912 ax
     replace hsr:=hsr.only ho912 ae
     replace hA:=hA.only ho912 ai
     replace hj:=hj.only ho912 (Nat.ne_of_lt lt_jb_g11)
     refine zas 14 (zac) (zaI aa (za2 ⟨g11,⟨rfl,rfl,rfl,rfl,rfl,rfl,rfl⟩,hr11,by have:=hdf.lt;omega,hA.weak (fun b hb=>by simp at hb ⊢;rcases hb with hb|hb<;>simp[hb]),hdf,hr2,hr3,hr4,hsr,hlw⟩))
    ·
     refine zby rfl rfl (zar (List.replicate 512 (Value.int .u8 0)) aa (fun g11 w11 hg11 hr11 hb11=>?_))
     have hS913:=hS908.add0 hb11
     refine⟨hS913,?_⟩
     have ge_hS908_g11:=Nat.le_trans hS908.size hg11
     have lt_g2_g11:g2<g11:=Nat.lt_of_lt_of_le hr2.lt hg11
     have lt_g3_g11:g3<g11:=Nat.lt_of_lt_of_le hr3.lt hg11
     have lt_g4_g11:g4<g11:=Nat.lt_of_lt_of_le hr4.lt hg11
     have lt_D_g11:D<g11:=Nat.lt_of_lt_of_le hdf.lt hg11
     have lt_jb_g11:jb<g11:=Nat.lt_of_lt_of_le hj.lt hg11
     replace hr2:=hr2.new hb11
     replace hr3:=hr3.new hb11
     replace hr4:=hr4.new hb11
     replace hdf:=hdf.new hb11
     replace hlw:=hlw.new hb11
     replace hsr:=hsr.new hb11
     replace hA:=hA.newc hb11 hg11 hr11.lt
     replace hj:=hj.new hb11
     refine zaA 8 aa (zaU rfl rfl (zaj aa rfl) (hlk w11) ?_)
     rintro _ w54 ⟨rfl,hb54⟩
     have hS914:=hS913.add0 hb54
     refine⟨hS914,?_⟩
     replace hr2:=hr2.new hb54
     replace hr3:=hr3.new hb54
     replace hr4:=hr4.new hb54
     replace hdf:=hdf.new hb54
     replace hlw:=hlw.new hb54
     replace hsr:=hsr.new hb54
     replace hA:=hA.new hb54
     replace hj:=hj.new hb54
     replace hr11:=hr11.new hb54
     refine zas 9 (zab) (zas 10 (zai rfl rfl) (zas 11 (zai rfl rfl) (zaA 13 aa (zbB rfl rfl (zaQ 512 (bv P0) hr11 (fun w916 hr11 ho916=>?_))))))
     have hS915:=hS914.add1 ho916 aj
     refine⟨hS915,?_⟩
     replace hr2:=hr2.only ho916 (Nat.ne_of_lt lt_g2_g11)
     replace hr3:=hr3.only ho916 (Nat.ne_of_lt lt_g3_g11)
     replace hr4:=hr4.only ho916 (Nat.ne_of_lt lt_g4_g11)
     replace hdf:=hdf.only ho916 (Nat.ne_of_lt lt_D_g11)
     replace hlw:=hlw.only ho916 ax
     replace hsr:=hsr.only ho916 ae
     replace hA:=hA.only ho916 ai
     replace hj:=hj.only ho916 (Nat.ne_of_lt lt_jb_g11)
     refine zas 14 (zac) (zaI aa (za2 ⟨g11,⟨rfl,rfl,rfl,rfl,rfl,rfl,rfl⟩,hr11,by have:=hdf.lt;omega,hA.weak (fun b hb=>by simp at hb ⊢;rcases hb with hb|hb<;>simp[hb]),hdf,hr2,hr3,hr4,hsr,hlw⟩))
   ·
    refine zby rfl rfl (zar (List.replicate 512 (Value.int .u8 0)) aa (fun g11 w11 hg11 hr11 hb11=>?_))
    have hS917:=hS907.add0 hb11
    refine⟨hS917,?_⟩
    have ge_hS907_g11:=Nat.le_trans hS907.size hg11
    have lt_g2_g11:g2<g11:=Nat.lt_of_lt_of_le hr2.lt hg11
    have lt_g3_g11:g3<g11:=Nat.lt_of_lt_of_le hr3.lt hg11
    have lt_g4_g11:g4<g11:=Nat.lt_of_lt_of_le hr4.lt hg11
    have lt_D_g11:D<g11:=Nat.lt_of_lt_of_le hdf.lt hg11
    have lt_jb_g11:jb<g11:=Nat.lt_of_lt_of_le hj.lt hg11
    replace hr2:=hr2.new hb11
    replace hr3:=hr3.new hb11
    replace hr4:=hr4.new hb11
    replace hdf:=hdf.new hb11
    replace hlw:=hlw.new hb11
    replace hsr:=hsr.new hb11
    replace hA:=hA.newc hb11 hg11 hr11.lt
    replace hj:=hj.new hb11
    refine zaA 2 aa (zaU rfl rfl (zaj aa rfl) (hjg _ w11 hA) ?_)
    rintro _ w48 ⟨rfl,hA,hb48⟩
    have hsr:=hsr.klp (LoL.wk (L:=D::L0) hb48) (hpL0.imp id (List.mem_cons_of_mem _))
    have hlw:=hlw.ll (LoL.wk (L:=D::L0) hb48) (fun b hb=>List.mem_cons_of_mem _ (hL0s b hb))
    have hS918:=hS917.zdh hn907 hb48.wk
    refine⟨hS918,?_⟩
    replace hr2:=hr2.kl hb48
    replace hr3:=hr3.kl hb48
    replace hr4:=hr4.kl hb48
    replace hdf:=hdf.kpd hb48.kp ag
    replace hj:=hj.kpd hb48.kp ag
    replace hr11:=hr11.kl hb48
    refine zaA 8 aa (zaU rfl rfl (zaj aa rfl) (hlk w48) ?_)
    rintro _ w54 ⟨rfl,hb54⟩
    have hS919:=hS918.add0 hb54
    refine⟨hS919,?_⟩
    replace hr2:=hr2.new hb54
    replace hr3:=hr3.new hb54
    replace hr4:=hr4.new hb54
    replace hdf:=hdf.new hb54
    replace hlw:=hlw.new hb54
    replace hsr:=hsr.new hb54
    replace hA:=hA.new hb54
    replace hj:=hj.new hb54
    replace hr11:=hr11.new hb54
    refine zas 9 (zab) (zas 10 (zai rfl rfl) (zas 11 (zai rfl rfl) (zaA 13 aa (zbB rfl rfl (zaQ 512 (bv P0) hr11 (fun w921 hr11 ho921=>?_))))))
    have hS920:=hS919.add1 ho921 aj
    refine⟨hS920,?_⟩
    replace hr2:=hr2.only ho921 (Nat.ne_of_lt lt_g2_g11)
    replace hr3:=hr3.only ho921 (Nat.ne_of_lt lt_g3_g11)
    replace hr4:=hr4.only ho921 (Nat.ne_of_lt lt_g4_g11)
    replace hdf:=hdf.only ho921 (Nat.ne_of_lt lt_D_g11)
    replace hlw:=hlw.only ho921 ax
    replace hsr:=hsr.only ho921 ae
    replace hA:=hA.only ho921 ai
    replace hj:=hj.only ho921 (Nat.ne_of_lt lt_jb_g11)
    refine zas 14 (zac) (zaI aa (za2 ⟨g11,⟨rfl,rfl,rfl,rfl,rfl,rfl,rfl⟩,hr11,by have:=hdf.lt;omega,hA.weak (fun b hb=>by simp at hb ⊢;rcases hb with hb|hb<;>simp[hb]),hdf,hr2,hr3,hr4,hsr,hlw⟩))
  ·
   rintro g11 f11 w11 ⟨hr11,hg11,hA,hdf,hr2,hr3,hr4,hsr,hlw⟩
   refine zah (zaa (zad (zab) (zao rfl (zaj aa rfl) (zif w11) ?_)))
   rintro _ _ ⟨rfl,rfl⟩
   refine zae (zaf (zah (zaa (zad (za7 512 hr11) (zad (zau hr3) (zao rfl (zaj aa rfl) (hln w11 hsr) ?_))))))
   rintro _ w62 ⟨rfl,hb62⟩
   replace hr2:=hr2.new hb62
   replace hr3:=hr3.new hb62
   replace hr4:=hr4.new hb62
   replace hdf:=hdf.new hb62
   replace hlw:=hlw.new hb62
   replace hsr:=hsr.new hb62
   replace hA:=hA.new hb62
   replace hr11:=hr11.new hb62
   refine zad (zab) (zad (zai rfl rfl) (zad (zai rfl rfl) (zad (zai rfl rfl) (zaD rfl (zar (List.replicate 512 (Value.int .u8 0)) aa (fun g13 w13 hg13 hr13 hb13=>?_))))))
   have lt_g2_g13:g2<g13:=Nat.lt_of_lt_of_le hr2.lt hg13
   have lt_g3_g13:g3<g13:=Nat.lt_of_lt_of_le hr3.lt hg13
   have lt_g4_g13:g4<g13:=Nat.lt_of_lt_of_le hr4.lt hg13
   have lt_D_g13:D<g13:=Nat.lt_of_lt_of_le hdf.lt hg13
   have lt_g11_g13:g11<g13:=Nat.lt_of_lt_of_le hr11.lt hg13
   replace hr2:=hr2.new hb13
   replace hr3:=hr3.new hb13
   replace hr4:=hr4.new hb13
   replace hdf:=hdf.new hb13
   replace hlw:=hlw.new hb13
   replace hsr:=hsr.new hb13
   replace hA:=hA.newc hb13 hg13 hr13.lt
   replace hr11:=hr11.new hb13
   refine zaK rfl (zaQ 512 (bv P1) hr13 (fun w922 hr13 ho922=>?_))
   replace hr2:=hr2.only ho922 (Nat.ne_of_lt lt_g2_g13)
   replace hr3:=hr3.only ho922 (Nat.ne_of_lt lt_g3_g13)
   replace hr4:=hr4.only ho922 (Nat.ne_of_lt lt_g4_g13)
   replace hdf:=hdf.only ho922 (Nat.ne_of_lt lt_D_g13)
   replace hlw:=hlw.only ho922 ax
   replace hsr:=hsr.only ho922 ae
   replace hA:=hA.only ho922 ai
   replace hr11:=hr11.only ho922 (Nat.ne_of_lt lt_g11_g13)
   refine zad (zac) (zad (zac) (zae (zaf (zah (zaa (zad (zab) (zao rfl (zaj aa rfl) (zif w922) ?_)))))))
   rintro _ _ ⟨rfl,rfl⟩
   refine zae (zaf (zah (zaa (zad (zau hr2) (zad (zab) (zad (za7 512 hr13) ?_))))))
   have hJ9:JH q jb mw N G0 V k H2 fl2 Y lo (g13::D::L0) w922:=⟨hH2,G2,hG2,hA.close⟩
   have hset:∀ L' w' (h':JH q jb mw N G0 V k H2 fl2 Y lo L' w'),Calls Tryz.prog 48 [.pointer (some ⟨jb,0,none⟩), .int .i64 (n:Int), .agg (bv P1).toArray].toArray w' (Ret fun _ w2=>JH q jb mw N G0 V k ⟨H2.F,zbb H2.S n ⟨1,rc,[some cb]⟩⟩ fl2 Y lo L' w2∧LoL lo L' w' w2):=fun L' w' h'=>by
     rw[←hP1]
     exact setH h' n hn1 hnf (U:=⟨1,rc,[some cb]⟩) hok.ni (zdq ae ae hc4)
   have hl13:∀ x∈L,x∈g13::D::L0:=fun x hx=>by simp[hL0s x hx]
   refine zao rfl (zaj aa rfl) (hset _ w922 hJ9) ?_
   rintro _ w71 ⟨hJ9,hb71⟩
   have hlw:=hlw.ll hb71 hl13
   replace hr2:=hr2.kl hb71
   replace hr3:=hr3.kl hb71
   replace hr4:=hr4.kl hb71
   replace hdf:=hdf.kpd hb71.kp ag
   replace hr13:=hr13.kl hb71
   refine zae (zaf (zah (zaa (zad (zau hr2) (zad (zab) (zad (zak rfl) (zad (zaw 0) (zad (zaw 3) ?_))))))))
   obtain⟨hH9,G9,hG9,hT9⟩:=hJ9
   have hobt:=zbL hT9
   obtain⟨c9,hA9⟩:=hobt
   have hj9:=hA9.zg3
   refine zaK rfl (zbn hj9 (fun w923 hj9 ho923=>?_))
   replace hr2:=hr2.only ho923 (Nat.ne_of_gt lt_jb_g2)
   replace hr3:=hr3.only ho923 (Nat.ne_of_gt lt_jb_g3)
   replace hr4:=hr4.only ho923 (Nat.ne_of_gt lt_jb_g4)
   replace hdf:=hdf.only ho923 ae
   replace hlw:=hlw.only ho923 ax
   replace hr13:=hr13.only ho923 ae
   have hA8:=hA9.setF (F2:=⟨H2.F.fresh,H2.F.free,H2.F.many,n,H2.F.root⟩) hj9 ho923
   refine zae (zaf (zah (zaa (zad (zab) (zad (zab) (zad (zfU (.int .i64 (n:Int)) (.int .i64 0) [.int .i64 (n:Int), .int .i64 0] rfl rfl aa) (zaK rfl (zaQ 2 ([.int .i64 (n:Int), .int .i64 0]) hr4 (fun w924 hr4 ho924=>?_)))))))))
   replace hr2:=hr2.only ho924 (Nat.ne_of_lt lt_g2_g4)
   replace hr3:=hr3.only ho924 (Nat.ne_of_lt lt_g3_g4)
   replace hdf:=hdf.only ho924 ae
   replace hlw:=hlw.only ho924 ax
   replace hr13:=hr13.only ho924 (Nat.ne_of_gt lt_g4_g13)
   replace hA8:=hA8.only ho924 ai
   have hxo:Only D w924 (World.putObj w924 D (.deferred none)):=zce _
   refine zae (zaf (zaF (zkS [_] D hdf.d ⟨⟨_,rfl,Ld.zb9 (k:=2) (hr4.only hxo ae) aa aa rfl⟩,trivial⟩ ?_)))
   have hlS:zmF N cb H rl=some (n,0,⟨⟨H2.F.fresh,H2.F.free,H2.F.many,n,H2.F.root⟩,zbb H2.S n ⟨1,rc,[some cb]⟩⟩):=by
     unfold zmF
     rw[hfn]
     simp only[hg2,hrc]
   refine⟨n,0,_,fl2,hlS,rfl,⟨⟨hH9.f1,hH9.fN,hH9.gd,hH9.ch,hH9.fk,hH9.nd,hH9.fm,hnf,hH9.rt⟩,G9,⟨hG9.s,hG9.z0,hG9.u⟩,(hA8.close.only hxo (.inr ay)).weak fun b hb=>by simp[hL0s b hb]⟩,hlw.only hxo aG⟩
 ·rintro c W' ⟨rfl,m,s,H',hlS,hJr,hr4,hlw⟩ hdef
  have hdf:zju W' D:=⟨hdef⟩
  have hxo:Only D W' (World.putObj W' D (.deferred none)):=zce _
  refine⟨rfl,?_⟩
  refine zaF (zbc (zaW (zkS [_] D hdf.d ⟨⟨_,rfl,Ld.zb9 (k:=2) (hr4.only hxo ae) aa aa rfl⟩,trivial⟩ ?_)))
  exact⟨m,s,H',fl,hlS,rfl,(hJr.only hxo (.inr ay)).weak fun b hb=>by simp[hb],hlw.only hxo aG⟩
end
def zcE(H:HS)(n:Nat):HS:=⟨Fb H.F n,zbb H.S n (zd9 H.F)⟩
theorem HOk.zqJ{N:Nat}{H:HS}{fl:List Nat}(h:HOk N H fl):H.F.free<H.F.fresh:=by
 have:=h.f1
 rcases h.free with⟨h0,_⟩|⟨t,_,_,h2,_⟩<;>omega
theorem HOk.back{N:Nat}{H:HS}{fl:List Nat}(h:HOk N H fl)(hN:N≤2048){n:Nat}(h1:1≤n)(h2:n<H.F.fresh)(hn:n∉fl):HOk N (zcE H n) (n::fl):=by
 have hfr:=h.zqJ
 have hfN:=h.fN
 refine⟨h.f1,h.fN,fun i hi1 hi2=>?_,⟨rfl,?_,?_⟩,fun i hi=>?_,List.nodup_cons.2 ⟨hn,h.nd⟩,?_,h.rc,h.rt⟩
 ·show Good (zbb H.S n (zd9 H.F) i)
  by_cases e:i=n
  ·rw[e,zaT];exact zjy ae ae
  ·rw[za9 e];exact h.gd i hi1 hi2
 ·show n≠0;omega
 ·show zcl (zbb H.S n (zd9 H.F)) (zbb H.S n (zd9 H.F) n).next fl
  rw[zaT]
  exact h.ch.set hn
 ·rcases List.mem_cons.1 hi with e|hi
  ·rw[e]
   refine⟨h1,h2,?_⟩
   show(zbb H.S n (zd9 H.F) n).kind=0
   rw[zaT];rfl
  ·have h3:=h.fk i hi
   have hne:i≠n:=fun e=>hn (e▸hi)
   refine⟨h3.1,h3.2.1,?_⟩
   show(zbb H.S n (zd9 H.F) i).kind=0
   rw[za9 hne];exact h3.2.2
 ·have:=h.fm
  rw[List.length_cons,this];rfl
section
variable {Y:World→List Nat→Prop}[hYT:Thing Y]{q jb mw N lo:Nat}{L:List Nat}{G0 V:Nat→Pg}{k:Nat}{H:HS}{fl:List Nat}{w:World}
theorem backH(h:JH q jb mw N G0 V k H fl Y lo L w)(n:Nat)(h1:1≤n)(h2:n<H.F.fresh)(hn:n∉fl):Calls Tryz.prog 54 [.pointer (some ⟨jb,0,none⟩), .int .i64 (n:Int)].toArray w (Ret fun _ w'=>JH q jb mw N G0 V k (zcE H n) (n::fl) Y lo L w'∧LoL lo L w w'):=by
 have hN:=h.n48.1
 obtain⟨hH,G,hG,hT⟩:=h
 have hfN:=hH.fN
 have hfr:=hH.zqJ
 have hmN:=hH.many
 exact(back54 hT n ae ae ae).to fun v w' ⟨e1,e2⟩=>⟨⟨hH.back hN h1 h2 hn,_,(hG.set h1 h2).fr rfl rfl,e1⟩,e2⟩
end
def zbt(H:HS)(l:List Nat):HS:=l.foldl zcE H
theorem backs_S{z:Nat→Pg}{l:List Nat}:∀ {H:HS} {G:Nat→Pg},GS z G H→(∀ n∈l,1≤n∧n<H.F.fresh)→(backs (H.F,G) l).1=(zbt H l).F∧GS z (backs (H.F,G) l).2 (zbt H l):=by
 induction l with
 |nil=>intro H G hG _;exact⟨rfl,hG⟩
 |cons n l ih=>
  intro H G hG hl
  exact ih (H:=zcE H n) (G:=ze9 G n (zay (zd9 H.F))) ((hG.set (hl n ay).1 (hl n ay).2).fr rfl rfl) fun m hm=>hl m aQ
theorem HOk.backs{N:Nat}(hN:N≤2048):∀ {l fl:List Nat} {H:HS},HOk N H fl→l.Nodup→(∀ n∈l,1≤n∧n<H.F.fresh∧n∉fl)→HOk N (zbt H l) (l.reverse++fl)
 |[],fl,H,h,_,_=>h
 |n::l,fl,H,h,hnd,hl=>by
  have h1:=hl n ay
  have hnd2:=List.nodup_cons.1 hnd
  have h2:=HOk.backs hN (h.back hN h1.1 h1.2.1 h1.2.2) hnd2.2 fun m hm=>by
   have h3:=hl m aQ
   have hne:m≠n:=fun e=>hnd2.1 (e▸hm)
   exact⟨h3.1,h3.2.1,by simp[hne,h3.2.2]⟩
  rw[List.reverse_cons,List.append_assoc]
  exact h2
theorem zbG{l:List Nat}:∀ {H:HS} {m:Nat},m∉l→(zbt H l).S m=H.S m:=by
 induction l with
 |nil=>intro H m _;rfl
 |cons n l ih=>
  intro H m hm
  rw[List.mem_cons,not_or]at hm
  show(zbt (zcE H n) l).S m=_
  rw[ih hm.2]
  exact za9 hm.1
theorem zdc{l:List Nat}:∀ {H:HS},(zbt H l).F.fresh=H.F.fresh∧(zbt H l).F.records=H.F.records∧(zbt H l).F.root=H.F.root∧(zbt H l).F.many=H.F.many+l.length:=by
 induction l with
 |nil=>intro H;exact⟨rfl,rfl,rfl,rfl⟩
 |cons n l ih=>
  intro H
  have h:=ih (H:=zcE H n)
  refine⟨h.1,h.2.1,h.2.2.1,?_⟩
  show(zbt (zcE H n) l).F.many=_
  rw[h.2.2.2,List.length_cons]
  show H.F.many+1+l.length=_
  omega
structure zfi(H:HS)(x:Nat)(l:List Nat)(b:List UInt8):Prop where
 ch:zcl H.S x l
 at_:∀ m∈l,1≤m∧m<H.F.fresh∧(H.S m).kind=2
 sl:∀ i m,l[i]?=some m→(H.S m).slots=[some (zdb b i)]
 nd:l.Nodup
 b1:400≤b.length
 b2:b.length≤20000
 nl:l.length=(b.length+399) / 400
def zqK(U:View):List UInt8:=ziu U.slots 0
theorem zfi.ok{N:Nat}{H:HS}{fl l:List Nat}{x:Nat}{b:List UInt8}{z:Nat→Pg}{G:Nat→Pg}(h:zfi H x l b)(hH:HOk N H fl)(hG:GS z G H):zlL G H.S H.F.fresh b.length x l (fun m=>zqK (H.S m)):=by
 have hs:∀ m∈l,(H.S m).slots=[some (zqK (H.S m))]:=fun m hm=>by
  obtain⟨i,hi⟩:=List.getElem?_of_mem hm
  have h2:=h.sl i m hi
  unfold zqK
  rw[h2];rfl
 refine⟨⟨h.ch,fun m hm=>have h1:=h.at_ m hm;⟨h1.1,h1.2.1,hH.isV hG h1.1 h1.2.1,h1.2.2⟩,?_⟩,hs,fun i m hm=>?_,h.b1,h.b2,h.nl⟩
 ·have h2:=zea (H.F.fresh - 1) 1 l h.nd fun y hy=>by have:=h.at_ y hy;have:=hH.f1;omega
  omega
 ·have h2:=h.sl i m hm
  have h3:zqK (H.S m)=zdb b i:=by unfold zqK;rw[h2];rfl
  rw[h3]
  unfold zdb
  rw[List.length_take,List.length_drop]
theorem ziO{b:List UInt8}{pt:Nat→List UInt8}{l:List Nat}(h:∀ i m,l[i]?=some m→pt m=zdb b i):∀ i,i≤l.length→zih pt (l.take i)=b.take (400*i)
 |0,_=>by simp[zih]
 |i+1,hi=>by
  have ih:=ziO h i ae
  have hl:=List.getElem?_eq_getElem (show i<l.length by omega)
  have h2:=h i _ hl
  unfold zih at ih ⊢
  rw[List.take_add_one,hl,List.map_append,List.flatten_append,ih]
  simp only[Option.toList_some,List.map_cons,List.map_nil,List.flatten_cons,List.flatten_nil,List.append_nil,h2]
  unfold zdb
  rw[show 400*(i+1)=400*i+400 by omega,List.take_add]
theorem zfi.flat{H:HS}{l:List Nat}{x:Nat}{b:List UInt8}(h:zfi H x l b):zih (fun m=>zqK (H.S m)) l=b:=by
 have h2:=ziO (b:=b) (pt:=fun m=>zqK (H.S m)) (l:=l) (fun i m hm=>by
  show zqK (H.S m)=_
  unfold zqK;rw[h.sl i m hm];rfl) l.length (Nat.le_refl _)
 rw[List.take_length]at h2
 rw[h2]
 exact List.take_of_length_le (by have:=h.nl;omega)
structure zpk(H:HS)(x:Nat)(l:List Nat)(b:List UInt8)(i:Nat):Prop where
 ch:zcl H.S x l
 at_:∀ m∈l,1≤m∧m<H.F.fresh∧(H.S m).kind=2
 sl:∀ j m,l[j]?=some m→(H.S m).slots=[some (zdb b (i+j))]
 nd:l.Nodup
theorem zhR{N:Nat}(hN:N≤2048){b:List UInt8}:∀ {i nx x:Nat} {H H':HS} {fl l:List Nat},HOk N H fl→zpk H nx l b i→nx<2048→(∀ m∈l,m∉fl)→zcf N b i nx H=some (x,H')→
  ∃ l' fl',HOk N H' fl'∧zpk H' x l' b 0∧(∀ m∈l',m∉fl')∧l'.length=i+l.length∧(∀ m∈fl',m∈fl)∧(∀ m,m∉fl→m<H.F.fresh→H'.S m=H.S m)∧H.F.fresh≤H'.F.fresh∧H'.F.records=H.F.records∧H'.F.root=H.F.root∧(∀ m∈l',m∈l∨m∈fl∨H.F.fresh≤m)∧(∀ m,m<H'.F.fresh→m∈l'∨m∈fl'∨m∉fl∧m<H.F.fresh)∧(∀ m∈l,m∈l')
 |0,nx,x,H,H',fl,l,hH,hP,_,hd,he=>by
  rw[zcf]at he
  cases he
  exact⟨l,fl,hH,hP,hd,ae,fun m hm=>hm,fun _ _ _=>rfl,Nat.le_refl _,rfl,rfl,fun m hm=>.inl hm,fun m hm=>(by by_cases h:m∈fl;exact .inr (.inl h);exact .inr (.inr ⟨h,hm⟩)),fun m hm=>hm⟩
 |i+1,nx,x,H,H',fl,l,hH,hP,hnx,hd,he=>by
  rw[zcf]at he
  cases hg:zdj N H 2 with
  |none=>rw[hg]at he;cases he
  |some p=>
   obtain⟨n,H1⟩:=p
   rw[hg]at he
   dsimp only at he
   obtain⟨fl1,hok⟩:=zg4 hH ae hg
   have hlen:(zdb b i).length≤400:=by unfold zdb;rw[List.length_take];omega
   have hH2:HOk N ⟨H1.F,zbb H1.S n (zga b i nx)⟩ fl1:=hok.ok.set hok.ni (zdq ae ae hlen)
   have hnl:n∉l:=fun hm=>by
    rcases hok.was with h|h
    ·exact hd n hm h
    ·have:=(hP.at_ n hm).2.1;omega
   have hgr:=hok.grow
   have hS:∀ m,m≠n→zbb H1.S n (zga b i nx) m=H.S m:=fun m hm=>by rw[za9 hm];exact hok.old m hm
   have hP2:zpk ⟨H1.F,zbb H1.S n (zga b i nx)⟩ n (n::l) b i:=by
    refine⟨⟨rfl,by have:=hok.n1;omega,?_⟩,fun m hm=>?_,fun j m hj=>?_,List.nodup_cons.2 ⟨hnl,hP.nd⟩⟩
    ·show zcl (zbb H1.S n (zga b i nx)) (zbb H1.S n (zga b i nx) n).next l
     rw[zaT]
     exact hP.ch.frame fun m hm=>hS m fun e=>hnl (e▸hm)
    ·show 1≤m∧m<H1.F.fresh∧(zbb H1.S n (zga b i nx) m).kind=2
     rcases List.mem_cons.1 hm with e|hm
     ·rw[e,zaT];exact⟨hok.n1,hok.nf,rfl⟩
     ·have hne:m≠n:=fun e=>hnl (e▸hm)
      have:=hP.at_ m hm
      rw[hS m hne];exact⟨this.1,ae,this.2.2⟩
    ·show(zbb H1.S n (zga b i nx) m).slots=_
     cases j with
     |zero=>
      have:m=n:=by simpa using hj.symm
      rw[this,zaT];rfl
     |succ j=>
      have hj2:l[j]?=some m:=by simpa using hj
      have hne:m≠n:=fun e=>hnl (e▸List.mem_of_getElem? hj2)
      rw[hS m hne,hP.sl j m hj2]
      congr 3
      omega
   have hn48:n<2048:=by have:=hok.nf;have:=hok.ok.fN;omega
   obtain⟨l',fl',r1,r2,r3,r4,r5,r6,r7,r8,r9,r10,r11,r12⟩:=zhR hN hH2 hP2 hn48 (fun m hm=>by
    rcases List.mem_cons.1 hm with e|hm
    ·rw[e];exact hok.ni
    ·exact fun hf=>hd m hm (hok.sub m hf)) he
   refine⟨l',fl',r1,r2,r3,by rw[r4,List.length_cons];omega,fun m hm=>hok.sub m (r5 m hm),fun m hm hmf=>?_,Nat.le_trans hgr r7,r8.trans hok.rec_,r9.trans hok.root,fun m hm=>?_,fun m hm=>?_,fun m hm=>r12 m aQ⟩
   ·have hne:m≠n:=fun e=>by
     rcases hok.was with h|h
     ·exact hm (e▸h)
     ·omega
    rw[r6 m (fun h=>hm (hok.sub m h)) (by show m<H1.F.fresh;omega)]
    exact hS m hne
   ·rcases r10 m hm with h|h|h
    ·rcases List.mem_cons.1 h with e|h
     ·rcases hok.was with h2|h2
      ·exact .inr (.inl (e▸h2))
      ·exact .inr (.inr ae)
     ·exact .inl h
    ·exact .inr (.inl (hok.sub m h))
    ·exact .inr (.inr (Nat.le_trans hgr h))
   ·rcases r11 m hm with h|h|⟨h,h2⟩
    ·exact .inl h
    ·exact .inr (.inl h)
    ·by_cases hmn:m=n
     ·exact .inl (r12 m (by simp[hmn]))
     ·refine .inr (.inr ⟨fun h3=>?_,?_⟩)
      ·rcases hok.cov m h3 with e|e
       ·exact hmn e
       ·exact h e
      ·have h4:m<H1.F.fresh:=h2
       rcases hok.fre with e|⟨e,e2⟩<;>omega
def zdI(S:Nat→View)(rl:List Nat)(i out:Nat):Nat→View:=if i=0 then S else zbb S (rl.getD (i - 1) 0) {S (rl.getD (i - 1) 0)with next:=(S out).next}
theorem zgb(S:Nat→View)(rl:List Nat)(i out m:Nat):(zdI S rl i out m).kind=(S m).kind∧(zdI S rl i out m).slots=(S m).slots:=by
 unfold zdI
 split
 ·exact⟨rfl,rfl⟩
 ·unfold zbb
  split
  ·rename_i e;rw[e];exact⟨rfl,rfl⟩
  ·exact⟨rfl,rfl⟩
theorem zcl.skip{S:Nat→View}:∀ {rl:List Nat} {x i out:Nat},zcl S x rl→rl.Nodup→rl[i]?=some out→zcl (zdI S rl i out) (if i=0 then(S out).next else x) (rl.eraseIdx i)
 |a::t,x,0,out,h,_,ho=>by
  have:a=out:=by simpa using ho
  subst this
  exact h.2.2
 |a::t,x,1,out,h,hnd,ho=>by
  have hnd2:=List.nodup_cons.1 hnd
  cases t with
  |nil=>simp at ho
  |cons b t=>
   have:b=out:=by simpa using ho
   subst this
   have h2:=h.2.2
   have hab:b≠a:=fun e=>hnd2.1 aV
   show zcl (zbb S a {S a with next:=(S b).next}) x (a::t)
   refine⟨h.1,h.2.1,?_⟩
   rw[zaT]
   exact h2.2.2.set fun hm=>hnd2.1 aQ
 |a::t,x,i+2,out,h,hnd,ho=>by
  have hnd2:=List.nodup_cons.1 hnd
  have ho2:t[i+1]?=some out:=by simpa using ho
  have ih:=zcl.skip h.2.2 hnd2.2 ho2
  have hil:i<t.length:=by have:=(List.getElem?_eq_some_iff.1 ho2).1;omega
  have hp:t.getD i 0∈t:=by rw[List.getD_eq_getElem?_getD,List.getElem?_eq_getElem hil];exact List.getElem_mem hil
  have hne:a≠t.getD i 0:=fun e=>hnd2.1 (e▸hp)
  have e1:zdI S (a::t) (i+2) out=zdI S t (i+1) out:=rfl
  have e2:zdI S t (i+1) out a=S a:=za9 hne
  rw[e1]
  show zcl (zdI S t (i+1) out) x (a::t.eraseIdx (i+1))
  refine⟨h.1,h.2.1,?_⟩
  rw[e2]
  exact ih
end Go.Proofs.YtdbogkndglbffaaGreat
