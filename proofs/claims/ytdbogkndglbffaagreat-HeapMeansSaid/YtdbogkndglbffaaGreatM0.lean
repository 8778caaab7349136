import Derived.WalkKit
import Derived.Lib.Hide
import Derived.Maps.AppendAt
import Derived.Deep.RegionLaw
import Derived.MapKept
import Derived.Deep.QuietTactic
import Derived.BigQuiet
import Derived.Laws.CopyOwn
import Derived.Laws.Rows
import Derived.Deep.MidRow
import Derived.Laws.MakeOwn
import Derived.OrdersIn
import Derived.TacticsIn
import Derived.RangeFuncNested
import Derived.RangeFuncLeaves
import Derived.RangeFuncCalls
import Derived.RangeFuncBound
import Derived.DeepKeys
import Derived.Laws.BytesArg
import Derived.ArgAppend
theorem aa{p:Prop}(h:p:=by kernel_rfl):p:=h
theorem ae{p:Prop}(h:p:=by omega):p:=h
theorem ag{p:Prop}(h:p:=by first |(refine zam ?_;left;omega)|(refine zam ?_;right;simp;done)|(intro b o e;cases e;first |(refine zam ?_;left;omega)|(refine zam ?_;right;simp;done)|(refine zam ?_;right;simp[*];done))|(intro b hb;refine zam ?_;left;omega)|(intro b hb e;cases e;exact zam (by right;simp[*]) hb)):p:=h
theorem ah{p:Prop}(h:p:=by first |(simp;done)|(simp;omega)|(simp[*];done)|exact zam (Or.inl ae)|exact zam (Or.inr (by simp))|exact fun g hm=>Nat.le_trans ae (zcw hm).1|(intro b o e;cases e;exact zam (Or.inl ae))|(intro b hm;have:=(hu.lt b (Option.mem_toList.1 hm)).1;omega)|(intro b o e;cases e;intro hm;have:=(hu.lt _ (Option.mem_toList.1 hm)).1;omega)|assumption):p:=h
theorem ai{p:Prop}(h:p:=by first |(right;simp;done)|(left;omega)|(right;simp[*];done)):p:=h
theorem aj{p:Prop}(h:p:=by first |(left;omega)|(right;simp;done)|(right;simp;omega)|(right;exact zb2 ae (by first |assumption|(simp;omega)|(simp[*];done)) ae)):p:=h
theorem ak{p:Prop}(h:p:=by first |(simp;done)|(simp[zal, *];done)|assumption):p:=h
theorem ax{p:Prop}(h:p:=by first |omega|(right;exact⟨ae,by assumption⟩)):p:=h
theorem ay{p:Prop}(h:p:=by simp):p:=h
theorem aA{p:Prop}(h:p:=by first |(intro b hb;exact hb)|(intro b hb;simp[hb];done)|simp):p:=h
theorem aB{p:Prop}(h:p:=by first |(simp;done)|(right;omega)):p:=h
theorem aC{p:Prop}(h:p:=by unfold maxLen;omega):p:=h
theorem aD{p:Prop}(h:p:=by decide):p:=h
theorem aF{p:Prop}(h:p:=by first |rfl|(simp;done)|(simp[zal, *];done)):p:=h
theorem aG{p:Prop}(h:p:=by left;omega):p:=h
theorem aH{p:Prop}(h:p:=by simp[hb]):p:=h
theorem aI{p:Prop}(h:p:=by first |(left;omega)|exact Or.inr (fun _ h=>h)|exact Or.inr (fun _ h=>List.mem_cons_of_mem _ h)|exact Or.inr (fun _ h=>List.mem_append_left _ h)|exact Or.inr (fun _ h=>List.mem_append_right _ h)):p:=h
theorem aJ{p:Prop}(h:p:=by simp[Value.ownBlock]):p:=h
theorem aK{p:Prop}(h:p:=by simp;omega):p:=h
theorem aL{p:Prop}(h:p:=by simp[Value.oneCell']):p:=h
theorem aM{p:Prop}(h:p:=by simp[hL'1]):p:=h
theorem aN{p:Prop}(h:p:=by first |(simp only[zeE,List.length_cons,List.length_nil];omega)|omega|(simp;omega)):p:=h
theorem aO{p:Prop}(h:p:=by first |exact zbV _|assumption|(simp[Value.oneCell'];done)):p:=h
theorem aP{p:Prop}(h:p:=by first |assumption|(simp;done)|(simp[zal, *];done)|rfl):p:=h
theorem aQ{p:Prop}(h:p:=by simp[hm]):p:=h
theorem aR{p:Prop}(h:p:=by first |assumption|(simp;done)|(simp[zal, *];done)):p:=h
theorem aS{p:Prop}(h:p:=by first |rfl|omega):p:=h
theorem aU{p:Prop}(h:p:=by rw[←hzb];kernel_rfl):p:=h
theorem aV{p:Prop}(h:p:=by simp[e]):p:=h
theorem aW{p:Prop}(h:p:=by rw[List.length_take];omega):p:=h
theorem aX{p:Prop}(h:p:=by simpa using h):p:=h
theorem aY{p:Prop}(h:p:=by intro i hi;rcases i with _|_|_|_|i<;>first |(simp[Value.cells];done)|(exfalso;simp only[List.length_cons,List.length_nil]at hi;omega)):p:=h
theorem aZ{p:Prop}(h:p:=by intro w;first |kernel_rfl|rfl):p:=h
theorem bf{p:Prop}(h:p:=by first |exact hpL|exact hpLc _):p:=h
theorem bg{p:Prop}(h:p:=by simpa using hg):p:=h
theorem bn{p:Prop}(h:p:=by simpa using hb):p:=h
theorem bq{p:Prop}(h:p:=by intro j hj;exact absurd hj (Nat.not_lt_zero _)):p:=h
theorem bu{p:Prop}(h:p:=by simp[hL02]):p:=h
theorem bz{p:Prop}(h:p:=by simp[hL12]):p:=h
theorem bA{p:Prop}(h:p:=by simp only[List.mem_append];exact .inr hm):p:=h
theorem bB{p:Prop}(h:p:=by simp only[List.mem_append];exact .inr hb):p:=h
theorem bC{p:Prop}(h:p:=by rw[hr4];simp):p:=h
theorem bD{p:Prop}(h:p:=by first |(simp;done)|(simp;omega)):p:=h
theorem bE{p:Prop}(h:p:=by rw[htl];omega):p:=h
theorem bF{p:Prop}(h:p:=by rw[zaV];omega):p:=h
theorem bG{p:Prop}(h:p:=by have:=(hup.lt b e).1;rw[List.mem_singleton.1 hb]at this;omega):p:=h
theorem bH{p:Prop}(h:p:=by have:=(hub.lt b e).1;rw[List.mem_singleton.1 hb]at this;omega):p:=h
theorem bI{p:Prop}(h:p:=by simpa using hs):p:=h
theorem bJ{p:Prop}(h:p:=by rw[show m=0 by omega,Nat.zero_mul];exact Nat.lt_irrefl 0):p:=h
theorem bL{A B:Prop}(h:B)(s:B→A:=by intro bK;exact zat (zaf (zah (zav (zah bK))))):A:=s h
theorem bM{A B:Prop}(h:B)(s:B→A:=by intro bK;exact zat (zaf (zah (zav (zah (zaa (zad (zab) (zad (zac) (zae (zaf (zah bK))))))))))):A:=s h
theorem bN{A B:Prop}(h:B)(s:B→A:=by intro bK;exact zah (zaa (zad (zab) (zad (zac) (zae (zaf (zaF (zbc (zaW (zeb (zbc (zaW (zan [_] ⟨rfl,trivial⟩ bK))))))))))))):A:=s h
theorem bO{A B:Prop}(h:B)(s:B→A:=by intro bK;exact zad (zac) (zae (zaf (zaF (zan [_,_] ⟨⟨_,rfl,Ld.zb9 (k:=3) hr2 aa aa ak⟩,rfl,trivial⟩ bK))))):A:=s h
theorem bP{A B:Prop}(h:B)(s:B→A:=by intro bK;exact zad (zac) (zae (zaf (zaF (zan [_,_] ⟨⟨_,rfl,Ld.zb9 (k:=512) hr6 aa aa ak⟩,rfl,trivial⟩ bK))))):A:=s h
theorem bQ{A B:Prop}(h:B)(s:B→A:=by intro bK;exact zad (zac) (zae (zaf (zaF (zaW (zan [_,_] ⟨⟨_,rfl,Ld.zb9 (k:=512) hr2 aa aa ak⟩,rfl,trivial⟩ bK)))))):A:=s h
theorem bR{A B:Prop}(h:B)(s:B→A:=by intro bK;exact zad (zac) (zae (zaf (zah (zaa (zad (za7 512 hr1) (zao rfl (zaj aa rfl) (zdy V w1 hV) bK))))))):A:=s h
theorem bS{A B:Prop}(h:B)(s:B→A:=by intro bK;exact zad (zab) (zad (zai rfl rfl) (zad (zai rfl rfl) bK))):A:=s h
theorem bT{A B:Prop}(h:B)(s:B→A:=by intro bK;exact zad (zac) (zae (zaf (zaF (zan [_,_] ⟨⟨_,rfl,Ld.zb9 (k:=512) hr4 aa aa ak⟩,rfl,trivial⟩ bK))))):A:=s h
theorem bU{A B:Prop}(h:B)(s:B→A:=by intro bK;exact zad (zac) (zae (zaf (zaF (zbc (zaW (zan [_,_] ⟨⟨_,rfl,Ld.zb9 (k:=512) hr6 aa aa ak⟩,rfl,trivial⟩ bK))))))):A:=s h
theorem bV{A B:Prop}(h:B)(s:B→A:=by intro bK;exact zad (zac) (zae (zaf (zah (zav (zah (zaa (zad (zab) (zad (zbK rfl) (zad (zac) (zae (zaf (zgl rfl (rfl) (zah (zaa (zad (za7 3 hr6) (zad (zab) (zao rfl (zaj aa rfl) (h26 p c vs w901 _ _ hv.own.sl hv.slts) bK)))))))))))))))))):A:=s h
theorem bW{A B:Prop}(h:B)(s:B→A:=by intro bK;exact zah (zaa (zad (zac) (zae (zaf (zaF (zbc (zaW (zan [_] ⟨rfl,trivial⟩ bK))))))))):A:=s h
theorem bX{A B:Prop}(h:B)(s:B→A:=by intro bK;exact zat (zaP (zaf (zah (zaa (zad (zac) (zae (zaf (zaF (zan [_] ⟨rfl,trivial⟩ bK)))))))))):A:=s h
theorem bZ{A B:Prop}(h:B)(s:B→A:=by intro bK;exact zah (zaa (zad (zac) (zae (zaf (zaF (zaW (zan [_] ⟨rfl,trivial⟩ bK)))))))):A:=s h
theorem cz{A B:Prop}(h:B)(s:B→A:=by intro bK;exact zad (zac) (zae (zaf (zah (zah (zaa (zad (zab) (zad (zab) (zao rfl (zaj aa rfl) (hA w4 hB) bK))))))))):A:=s h
theorem cB{A B:Prop}(h:B)(s:B→A:=by intro bK;exact zad (zac) (zae (zaf (zaF (zan [_] ⟨rfl,trivial⟩ bK))))):A:=s h
theorem cK{A B:Prop}(h:B)(s:B→A:=by intro bK;exact zae (zbk [] trivial bK)):A:=s h
theorem cO{A B:Prop}(h:B)(s:B→A:=by intro bK;exact zah (zaa (zad (zab) (zad (zac) (zae (zaf (zaF (zaW (zan [_] ⟨rfl,trivial⟩ bK))))))))):A:=s h
theorem cZ{A B:Prop}(h:B)(s:B→A:=by intro bK;exact zbh (zbC (zbH (zbl (zaf (zah (zaa (zad (zac) (zae (zaf (zaF (zan [_] ⟨rfl,trivial⟩ bK)))))))))))):A:=s h
theorem df{A B:Prop}(h:B)(s:B→A:=by intro bK;exact zad (zac) (zae (zaf (zah (zah (zaa (zad (zab) (zad (zab) (zao rfl (zaj aa rfl) (ha) bK))))))))):A:=s h
theorem dh{A B:Prop}(h:B)(s:B→A:=by intro bK;exact zaI aa (zaf (zah (zaa (zad (zac) (zae (zaf (zaF (zan [_] ⟨rfl,trivial⟩ bK))))))))):A:=s h
theorem dm{A B:Prop}(h:B)(s:B→A:=by intro bK;exact zad (zac) (zad (zac) (zad (zac) (zae (zaf (zaF (zaW (zan [_,_,_,_] ⟨⟨_,rfl,Ld.zb9 (k:=2) hr2 aa aa ak⟩,rfl,rfl,rfl,trivial⟩ bK)))))))):A:=s h
theorem dw{A B:Prop}(h:B)(s:B→A:=by intro bK;exact zad (zac) (zad (zac) (zad (zac) (zae (zaf (zah (zaa (zad (zac) (zae (zaf (zah (zah (zaa (zad (zab) (zad (zaB (e:=172) (sz:=128) aa rfl rfl) (zad (za5 rfl rfl) (zae (zaf (zcF rfl (ae) (zat (zaf (zah (zaa (zad (zab) (zao rfl (zaj aa rfl) (zjj p n cp l 0 w2 (h.below hB (Nat.le_refl _)) ae hn) bK))))))))))))))))))))))))):A:=s h
theorem dx{A B:Prop}(h:B)(s:B→A:=by intro bK;exact zah (zaa (zad (zaY rfl rfl) (zae (zaf (zah (zgP rfl (ae) (zat (zaf (zah (zav (zah (zaa (zad (zab) (zad (zac) (zae (zaf (zah (zaa (zad (zab) (zad (zab) (zao rfl (zaj aa rfl) (zjj p n cp l k wr ((h.below hBr (Nat.le_refl _)).below hBi (Nat.le_refl _)) ae hn) bK)))))))))))))))))))))):A:=s h
theorem dz{A B:Prop}(h:B)(s:B→A:=by intro bK;exact zad (zai rfl rfl) (zad (zai rfl rfl) (zad (zai rfl rfl) (zad (zai rfl rfl) bK)))):A:=s h
theorem dC{A B:Prop}(h:B)(s:B→A:=by intro bK;exact zad (zac) (zad (zac) (zad (zac) (zae (zaf (zaF (zaW (zbc (zaW (zeb (zbc (zaW (zan [_,_,_,_] ⟨⟨_,rfl,Ld.zb9 (k:=2) hr2 aa aa ak⟩,rfl,rfl,rfl,trivial⟩ bK))))))))))))):A:=s h
theorem dD{A B:Prop}(h:B)(s:B→A:=by intro bK;exact zaM rfl rfl (zaM rfl rfl (zad (zaC rfl) (zae (zaf (zjU rfl (rfl) (zah (zaa (zad (zac) (zae (zaf (zaF (zaW (zan [_] ⟨rfl,trivial⟩ bK)))))))))))))):A:=s h
theorem dE{A B:Prop}(h:B)(s:B→A:=by intro bK;exact zad (zac) (zae (zaf (zah (zaa (zad (zbm) (zad (zac) (zae (zaf (zaF (zan [_] ⟨rfl,trivial⟩ bK))))))))))):A:=s h
theorem dF{A B:Prop}(h:B)(s:B→A:=by intro bK;exact zad (zab) (zad (zai rfl rfl) (zad (zai rfl rfl) (zad (zac) (zad (zac) (zae (zaf (zah (zah (za3 [] aa bK)))))))))):A:=s h
theorem dG{A B:Prop}(h:B)(s:B→A:=by intro bK;exact zad (zac) (zae (zaf (zaF (zeS [_,_] Dd hdef ⟨⟨_,rfl,Ld.zeC hr2p aa rfl⟩,rfl,trivial⟩ bK))))):A:=s h
theorem dH{A B:Prop}(h:B)(s:B→A:=by intro bK;exact zad (zac) (zae (zaf (zah (zaa (zad (zaw 0) (zad (zau hr2) (zad (zau hb) (zad (za5 rfl rfl) (zad (zac) (zae (zaf (zaF (zan [_] ⟨rfl,trivial⟩ bK)))))))))))))):A:=s h
theorem dI{A B:Prop}(h:B)(s:B→A:=by intro bK;exact zax (fn:=Tryz.f112) (rs:=[.tmp 4]) (n:=19) Tryz.func112 rfl rfl Tryz.ntmps112 aa rfl (zah (zaa (zad (zac) (zae (zaf (zah (zah (zaa (zad (zab) (zad (zaB (e:=147) (sz:=513) aa rfl rfl) (zad (zab) (zae (zaf (zav bK))))))))))))))):A:=s h
theorem dJ{A B:Prop}(h:B)(s:B→A:=by intro bK;exact zae (zaf (zah (zaa (zad (zab) (zad (zac) (zae (zaf (zaF (zan [_] ⟨rfl,trivial⟩ bK)))))))))):A:=s h
theorem dK{A B:Prop}(h:B)(s:B→A:=by intro bK;exact zad (zac) (zae (zaf (zaF (zaW (zan [_,_] ⟨⟨_,rfl,Ld.zb9 (k:=512) hr4 aa aa ak⟩,rfl,trivial⟩ bK)))))):A:=s h
theorem dL{A B:Prop}(h:B)(s:B→A:=by intro bK;exact zas 11 (zac) (zaI aa (zaf (zah (zaa (zad (zab) (zae (zaf (zjG rfl (rfl) (zat (zaf (zah (zah (zaa (zad (zab) (zad (zak rfl) (zad (zaw 6) (zad (zau hq) (zad (zbm) (zao rfl (zaj aa rfl) (hix _ _ w904 h.own.sl _ hr3) bK)))))))))))))))))))):A:=s h
theorem dM{A B:Prop}(h:B)(s:B→A:=by intro bK;exact zad (zac) (zae (zaf (zah (zah (zaa (zad (zab) (zad (zab) (zao rfl (zaj aa rfl) (hrd _ w4 h) bK))))))))):A:=s h
theorem dN{A B:Prop}(h:B)(s:B→A:=by intro bK;exact zat (zaf (zah (zaa (zad (zab) (zad (zac) (zad (zac) (zae (zaf (zaF (zan [_,_] ⟨rfl,rfl,trivial⟩ bK))))))))))):A:=s h
theorem dP{A B:Prop}(h:B)(s:B→A:=by intro bK;exact zad (zab) (zad (zai rfl rfl) (zad (zai rfl rfl) (zad (zac) (zad (zac) (zae (zaf (zah bK)))))))):A:=s h
theorem dQ{A B:Prop}(h:B)(s:B→A:=by intro bK;exact zad (zac) (zae (zaf (zaF (zaW (zan [_] ⟨rfl,trivial⟩ bK)))))):A:=s h
theorem dR{A B:Prop}(h:B)(s:B→A:=by intro bK;exact zb6 (fn:=Tryz.f52) (rs:=[]) (n:=24) Tryz.func52 rfl rfl Tryz.ntmps52 aa rfl (zah (zah (za3 [] aa bK)))):A:=s h
theorem dS{A B:Prop}(h:B)(s:B→A:=by intro bK;exact zad (zac) (zae (zaf (zah (zaa (zad (zab) (zad (zbm) (zao rfl (zaj aa rfl) (hrun g3 w3 hr hr3 h) bK)))))))):A:=s h
theorem dU{A B:Prop}(h:B)(s:B→A:=by intro bK;exact zbh (zbC (zbH (zbl (zaf (zah (zah (zaa (zad (zac) (zae (zaf (zav bK)))))))))))):A:=s h
namespace Coup
open Go Go.RowKit
def zaz(w:World)(base:Nat)(e:TypeId)(size:Nat)(v:Value)(n:Nat)(xs:List Value):Prop:=
 xs.length=n*size∧((v= .slice none 0 0∧n=0)∨
  ∃ g off cap cur,v= .slice (some ⟨g,off,none⟩) n cap∧base≤g∧w.heap[g]?=some (.cells cur e (0,0))∧n≤cap∧cap≤maxLen∧off+cap*size≤cur.size∧(cur.toList.drop off).take (n*size)=xs)
theorem zdm{w:World}{base:Nat}{e:TypeId}{size:Nat}{v:Value}{n:Nat}{xs:List Value}(h:w.ownsRow base e size v n xs):zaz w base e size v n xs:=by
 refine⟨h.1,?_⟩
 rcases h.2 with hn|⟨g,cap,cur,rfl,h1,h2,h3,h4,h5,h6⟩
 ·exact .inl hn
 ·exact .inr ⟨g,0,cap,cur,rfl,h1,h2,h3,h4,ae,by simpa using h6⟩
section
variable {w w':World}{base:Nat}{e:TypeId}{size:Nat}{v:Value}{n:Nat}{xs:List Value}
theorem zaz.lt(h:zaz w base e size v n xs):∀ k,v.ownBlock=some k→base≤k∧k<w.heap.size:=by
 intro k hk
 rcases h.2 with⟨rfl,_⟩|⟨g,off,cap,cur,rfl,hb,hg,_⟩
 ·simp[Value.ownBlock]at hk
 ·simp[Value.ownBlock]at hk
  subst hk
  exact⟨hb,(Array.getElem?_eq_some_iff.1 hg).1⟩
theorem zaz.kept{row:Option Nat}(h:zaz w base e size v n xs)(hg:w.grownBy w' row)(hne:v.ownBlock=none∨v.ownBlock≠row):zaz w' base e size v n xs:=by
 refine⟨h.1,?_⟩
 rcases h.2 with hn|⟨g,off,cap,cur,rfl,hb,hgg,rest⟩
 ·exact .inl hn
 ·refine .inr ⟨g,off,cap,cur,rfl,hb,?_,rest⟩
  rw[hg.block g (Array.getElem?_eq_some_iff.1 hgg).1 (by simpa [Value.ownBlock]using hne)]
  exact hgg
theorem zaz.alloc(h:zaz w base e size v n xs)(o:Obj):zaz (w.alloc o) base e size v n xs:=
 h.kept (World.grownBy_alloc w o none) (by cases hv:v.ownBlock<;>simp)
theorem zaz.below{B:Nat}(h:zaz w base e size v n xs)(hb:Below B w w')(hB:∀ k,v.ownBlock=some k→k<B):zaz w' base e size v n xs:=by
 refine⟨h.1,?_⟩
 rcases h.2 with hn|⟨g,off,cap,cur,rfl,hbg,hgg,rest⟩
 ·exact .inl hn
 ·exact .inr ⟨g,off,cap,cur,rfl,hbg,by rw[hb.block g (hB g rfl)];exact hgg,rest⟩
theorem zaz.form(h:zaz w base e size v n xs):∃ p c,v= .slice p n c:=by
 rcases h.2 with⟨rfl,rfl⟩|⟨g,off,cap,cur,rfl,_⟩
 ·exact⟨_,_,rfl⟩
 ·exact⟨_,_,rfl⟩
theorem zaz.form'(h:zaz w base e size v n xs)(hn:0<n):∃ g off cap,v= .slice (some ⟨g,off,none⟩) n cap∧base≤g∧g<w.heap.size∧n≤cap:=by
 rcases h.2 with⟨_,h0⟩|⟨g,off,cap,cur,hv,hb,hg,h1,_⟩
 ·omega
 ·exact⟨g,off,cap,hv,hb,(Array.getElem?_eq_some_iff.1 hg).1,h1⟩
theorem zaz.cells{g off cap:Nat}(h:zaz w base e size (.slice (some ⟨g,off,none⟩) n cap) n xs):∀ j u,xs[j]?=some u→w.cell? ((⟨g,off,none⟩:Addr).add j)=some u:=by
 intro j u hu
 rcases h.2 with⟨hv,_⟩|⟨g',off',cap',cur,hv,_,hgg,_,_,_,htake⟩
 ·cases hv
 ·cases hv
  rw[Addr.add_lit,cell_of_row w g (off+j) cur e (0,0) hgg]
  rw[←htake,List.getElem?_take]at hu
  split at hu
  ·simpa [List.getElem?_drop]using hu
  ·cases hu
theorem zaz.tail{g off n cap:Nat}{x:Value}{xs:List Value}(h:zaz w base e 1 (.slice (some ⟨g,off,none⟩) (n+1) cap) (n+1) (x::xs)):zaz w base e 1 (.slice (some (if cap=1 then⟨g,off,none⟩else⟨g,off+1,none⟩)) n (cap - 1)) n xs:=by
 have hl:=h.1
 refine⟨by simp at hl ⊢;omega, .inr ?_⟩
 rcases h.2 with⟨hv,_⟩|⟨g',off',cap',cur,hv,hb,hgg,h1,h2,h3,htake⟩
 ·cases hv
 ·cases hv
  by_cases hc:cap=1
  ·rw[if_pos hc]
   have hn:n=0:=by omega
   subst hn
   exact⟨g,off,cap - 1,cur,rfl,hb,hgg,ae,ae,ae,by simp at hl ⊢;exact hl⟩
  ·rw[if_neg hc]
   refine⟨g,off+1,cap - 1,cur,rfl,hb,hgg,ae,ae,ae,?_⟩
   simp only[Nat.mul_one]at htake ⊢
   have:=congrArg List.tail htake
   rw[List.tail_cons]at this
   rw[←this,←List.drop_drop]
   cases hd:cur.toList.drop off with
   |nil=>simp
   |cons a r=>simp
end
section
variable {P:Program}(w:World)
theorem zdJ (t ty e : TypeId) (i : TypeInfo) (ht : P.underlying t = some (.slice e)) (hi : P.info? e = some i)
  (g off sLen sCap : Nat) (cur : Array Value) (hg : w.heap[g]? = some (.cells cur e (0, 0)))
  (a : Addr) (m c : Nat) (news : List Value) (hl : news.length = m * i.size) (hnews : ∀ j u, news[j]? = some u → w.cell? (a.add j) = some u) (h1 : ∀ u ∈ news, u.oneCell' = true)
  (hroom : sLen + m ≤ sCap) (hfit : off + sLen * i.size + news.length ≤ cur.size) :
  (Builtin.append_ #[t, t] ty #[.slice (some ⟨g, off, none⟩) sLen sCap, .slice (some a) m c]).run P w =
   .ok (.slice (some ⟨g, off, none⟩) (sLen + m) sCap) (w.setRow g (cur.toList.take (off + sLen * i.size) ++ news ++ cur.toList.drop (off + sLen * i.size + news.length)).toArray) := by
 have hf := run_firstCells_some (P := P) w i.size m a m c news hl hnews
 have hst := run_storeCells_at P g (off + sLen * i.size) e news 0 cur w hg (by simpa using hfit) h1
 simp only [Nat.add_zero] at hst
 simp [Builtin.append_, run_underlying ht, Go.sizeOf, typeInfo, hi, Builtin.lenOf, hroom, hf, Addr.add_lit, hst]
theorem ziS (base:Nat) (t ty e:TypeId) (i:TypeInfo) (z:Value) (size bytes:Nat) (ht:P.underlying t=some (.slice e)) (hi:P.info? e=some i) (hz:i.zero=some z)
  (hsize:i.size=size) (hby:i.bytes=bytes) (hzs:z.cells.size=size) (hsz:0<size)
  (v:Value) (n:Nat) (xs:List Value) (hown:zaz w base e size v n xs)
  (a:Addr) (m c:Nat) (news:List Value) (hl:news.length=m*size) (hnews:∀ j u,news[j]?=some u→w.cell? (a.add j)=some u) (h1:∀ u∈news,u.oneCell'=true)
  (hm:0<m) (h63:n+m≤maxLen) (hbytes:(n+m)*bytes≤140737488355328) (hbase:base≤w.heap.size):
  ∃ g off cap w',(Builtin.append_ #[t,t] ty #[v, .slice (some a) m c]).run P w= .ok (.slice (some ⟨g,off,none⟩) (n+m) cap) w'∧zaz w' base e size (.slice (some ⟨g,off,none⟩) (n+m) cap) (n+m) (xs++news)∧w.grownBy w' v.ownBlock∧
   (v.ownBlock=some g∨g=w.heap.size)∧g<w'.heap.size∧zaz w' base e size v n xs:=by
 subst hsize
 subst hby
 have hsmall:n+m≤9223372036854775807:=by simp only[maxLen]at h63;omega
 have hlen:(xs++news).length=(n+m)*i.size:=by rw[List.length_append,hown.1,hl,Nat.add_mul]
 have grown:∀ (old:Nat) (row:Option Nat),
   zaz (w.drew.alloc (.cells (xs.toArray++news.toArray++Builtin.zeroCells z.cells (grownCap w (n+m) old e - (n+m))) e)) base e i.size
    (.slice (some ⟨w.heap.size,0,none⟩) (n+m) (grownCap w (n+m) old e)) (n+m) (xs++news)∧
   w.grownBy (w.drew.alloc (.cells (xs.toArray++news.toArray++Builtin.zeroCells z.cells (grownCap w (n+m) old e - (n+m))) e)) row:=by
  intro old row
  have hge:=grownCap_ge w (n+m) old e
  have hcm:grownCap w (n+m) old e≤maxLen:=grownCap_le_maxLen w (n+m) old e h63
  refine⟨⟨hlen, .inr ⟨w.heap.size,0,_,_,rfl,hbase,heap_alloc_new w.drew _,hge,hcm,?_,?_⟩⟩,⟨rfl,rfl,rfl,ay,fun k hk _=>heap_alloc_old w.drew _ hk⟩⟩
  ·simp only[Array.size_append,List.size_toArray,size_zeroCells,hzs,hown.1,hl,←Nat.add_mul]
   apply Nat.le_of_eq
   rw[Nat.zero_add]
   congr 1
   omega
  ·simp only[Array.toList_append,List.append_assoc,List.drop_zero]
   rw[←List.append_assoc,←hlen]
   exact List.take_left
 rcases hown.2 with⟨rfl,rfl⟩|⟨g,off,cap,cur,rfl,hbg,hg,hnc,hcm,hcs,htake⟩
 ·have hx:xs=[]:=List.eq_nil_of_length_eq_zero (by simpa using hown.1)
  subst hx
  have hr:=run_append_nil (P:=P) w t ty e i z ht hi hz a m c news hl hnews ae ae (by have hb:=hbytes;simp only[Nat.zero_add]at hb;omega)
  have hgr:=grown 0 (Value.ownBlock (.slice none 0 0))
  simp only[Nat.zero_add,List.nil_append,Array.empty_append]at hgr ⊢
  exact⟨_,_,_,_,hr,hgr.1,hgr.2, .inr rfl,ay,⟨ay, .inl ⟨rfl,rfl⟩⟩⟩
 ·by_cases hroom:n+m≤cap
  ·have hle:n*i.size+m*i.size≤cap*i.size:=by rw[←Nat.add_mul];exact Nat.mul_le_mul_right _ hroom
   have hfit:off+n*i.size+news.length≤cur.size:=by rw[hl];omega
   have hr:=zdJ (P:=P) w t ty e i ht hi g off n cap cur hg a m c news hl hnews h1 hroom hfit
   refine⟨_,_,_,_,hr,⟨hlen, .inr ⟨g,off,cap,_,rfl,hbg,setRow_heap w g cur _ e _ hg,hroom,hcm,?_,?_⟩⟩,⟨rfl,rfl,rfl,by simp[World.setRow],fun k _ hk=>setRow_other w g k _ (fun e=>hk (by simp[Value.ownBlock,e]))⟩, .inl rfl,?_,hown.1, .inr ⟨g,off,cap,_,rfl,hbg,setRow_heap w g cur _ e _ hg,hnc,hcm,?_,?_⟩⟩
   ·simp only[List.size_toArray,List.length_append,List.length_take,List.length_drop,Array.length_toList]
    omega
   ·have h2:(cur.toList.take (off+n*i.size)).drop off=xs:=by rw[←htake,List.drop_take];congr 1;omega
    have h3:off≤(cur.toList.take (off+n*i.size)).length:=by rw[List.length_take,Array.length_toList];omega
    rw[List.append_assoc,List.drop_append_of_le_length h3,h2,←List.append_assoc,←hlen]
    exact List.take_left
   ·have:g<w.heap.size:=(Array.getElem?_eq_some_iff.1 hg).1
    simpa [World.setRow]using this
   ·simp only[List.size_toArray,List.length_append,List.length_take,List.length_drop,Array.length_toList]
    omega
   ·have h2:(cur.toList.take (off+n*i.size)).drop off=xs:=by rw[←htake,List.drop_take];congr 1;omega
    have h3:off≤(cur.toList.take (off+n*i.size)).length:=by rw[List.length_take,Array.length_toList];omega
    rw[List.append_assoc,List.drop_append_of_le_length h3,h2,←hown.1]
    exact List.take_left
  ·have holds:∀ j u,xs[j]?=some u→w.cell? ((⟨g,off,none⟩:Addr).add j)=some u:=hown.cells
   have hr:=run_append_grow (P:=P) w t ty e i z ht hi hz ⟨g,off,none⟩ n cap xs hown.1 holds a m c news hl hnews ae ae (growslice_fits ae hbytes)
   have hgr:=grown cap (Value.ownBlock (.slice (some ⟨g,off,none⟩) n cap))
   exact⟨_,_,_,_,hr,hgr.1,hgr.2, .inr rfl,ay,hown.kept (row:=none) ⟨rfl,rfl,rfl,ay,fun k hk _=>heap_alloc_old w.drew _ hk⟩ aJ⟩
end
def imapE(k:IntKind)(kvs:List (Int × Int))(from_:Nat):List MapEntry:=(kvs.zipIdx from_).map fun p=>⟨.int k p.1.1, .int k p.1.2,p.2⟩
def imap(k:IntKind)(kvs:List (Int × Int)):Obj:=.map (imapE k kvs 0).toArray kvs.length
def lookI(kvs:List (Int × Int))(x:Int):Option Int:=(kvs.find? fun p=>p.1 == x).map (·.2)
section
variable {P:Program}{w:World}{t kt et:TypeId}{k:IntKind}{b:Nat}{kvs:List (Int × Int)}
def setB(w:World)(b:Nat)(o:Obj):World:={w with heap:=w.heap.setIfInBounds b o}
end
theorem zpQ{a b:Bool}(h:a=b):Ending.returned (.bool a)= .returned (.bool b):=by rw[h]
theorem ziT{k:IntKind}{a b:Int}(h:a=b):Ending.returned (.int k a)= .returned (.int k b):=by rw[h]
def Still(w w':World):Prop:=∃ n,w'=w.drewN n
theorem Still.refl(w:World):Still w w:=⟨0,rfl⟩
theorem Still.trans{a b c:World}(h:Still a b)(k:Still b c):Still a c:=by
 obtain⟨n,rfl⟩:=h;obtain⟨m,rfl⟩:=k;exact⟨_,World.drewN_drewN _ _ _⟩
theorem Still.drewN{a b:World}(h:Still a b)(n:Nat):Still a (b.drewN n):=h.trans ⟨n,rfl⟩
theorem Still.drew{a b:World}(h:Still a b):Still a b.drew:=h.trans ⟨1,rfl⟩
theorem Still.cell{w w':World}(h:Still w w')(a:Addr):w'.cell? a=w.cell? a:=by obtain⟨n,rfl⟩:=h;rfl
theorem Still.frozen{w w':World}(h:Still w w')(a:Addr):w'.frozen? a=w.frozen? a:=by obtain⟨n,rfl⟩:=h;rfl
theorem Still.heap{w w':World}(h:Still w w'):w'.heap=w.heap:=by obtain⟨n,rfl⟩:=h;rfl
theorem Still.below{w w':World}(h:Still w w')(B:Nat):Below B w w':=by
 obtain⟨n,rfl⟩:=h;exact⟨rfl,rfl,rfl,Nat.le_refl _,fun _ _=>rfl⟩
structure zaS(w:World)(p:Option Addr)(n sz:Nat)(cs:List Value):Prop where
 len:cs.length=n*sz
 max:n≤maxLen
 at_:0<n*sz→∃ b off,p=some ⟨b,off,none⟩∧b<w.heap.size∧∀ k,k<n*sz→w.cell? ⟨b,off+k,none⟩=cs[k]?
theorem zaS.below{w w':World}{p:Option Addr}{n sz:Nat}{cs:List Value}{B:Nat}(h:zaS w p n sz cs)(hb:Below B w w')(hB:w.heap.size≤B):zaS w' p n sz cs:=by
 refine⟨h.len,h.max,fun h0=>?_⟩
 obtain⟨b,off,hp,hlt,hc⟩:=h.at_ h0
 exact⟨b,off,hp,Nat.lt_of_lt_of_le hlt hb.size,fun k hk=>(hb.cell (p:=⟨b,off+k,none⟩) (by show b<B;omega)).trans (hc k hk)⟩
theorem zaS.nil(w:World)(p:Option Addr)(sz:Nat):zaS w p 0 sz []:=⟨ay,Nat.zero_le _,fun h=>by simp at h⟩
theorem zpR{w:World}{base:Nat}{e:TypeId}{p:Option Addr}{n c sz:Nat}{cs:List Value}(h:zaz w base e sz (.slice p n c) n cs):zaS w p n sz cs:=by
 rcases h.2 with⟨hv,rfl⟩|⟨g,off,cap,cur,hv,hbg,hgg,hnc,hcm,hcs,htake⟩
 ·cases hv
  exact⟨h.1,Nat.zero_le _,fun h=>by simp at h⟩
 ·cases hv
  refine⟨h.1,Nat.le_trans hnc hcm,fun _=>⟨g,off,rfl,(Array.getElem?_eq_some_iff.1 hgg).1,fun k hk=>?_⟩⟩
  have hl:=h.1
  have hx:cs[k]?=some cs[k]:=List.getElem?_eq_getElem ae
  have:=h.cells (g:=g) k cs[k] hx
  rw[Addr.add_lit]at this
  rw[this,hx]
def zcK(b:UInt8):Value:=.int .u8 (b.toNat:Int)
def bv(l:List UInt8):List Value:=l.map zcK
theorem zal(l:List UInt8):(bv l).length=l.length:=List.length_map _
theorem zcG(l m:List UInt8):bv (l++m)=bv l++bv m:=List.map_append
theorem zdg(l:List UInt8)(k:Nat):bv (l.take k)=(bv l).take k:=List.map_take
theorem zc7(l:List UInt8)(k:Nat):bv (l.drop k)=(bv l).drop k:=List.map_drop
theorem zbV(l:List UInt8):∀ u∈bv l,u.oneCell'=true:=by
 intro u hu
 obtain⟨_,_,rfl⟩:=List.mem_map.1 hu
 rfl
theorem zjL(l:List UInt8)(k:Nat):(bv l)[k]?=(l[k]?).map zcK:=List.getElem?_map
theorem znL(l:List UInt8)(k:Nat)(h:k<l.length):(bv l)[k]?=some (zcK (l.getD k 0)):=by
 rw[zjL,List.getD_eq_getElem?_getD,List.getElem?_eq_getElem h];rfl
theorem zg9{P:Program}{o:Oper}{a:Act}{w w':World}{v:Value}{K:Act→World→Prop}{Q:Exit→Act→World→Prop}(hr:(execOp a.eval o).run P w= .ok (.value v) w')(h:K (a.put o.dst v) w'):o.wp P a w K Q:=by
 unfold Oper.wp
 rw[hr]
 exact h
def row(w:World)(g:Nat)(l:List Value)(t:TypeId):Prop:=w.heap[g]?=some (.cells l.toArray t (0,0))
structure Only(g:Nat)(w w':World):Prop where
 os:w'.os=w.os
 tape:w'.tape=w.tape
 output:w'.output=w.output
 size:w'.heap.size=w.heap.size
 block:∀ k,k≠g→w'.heap[k]?=w.heap[k]?
theorem Only.below{g B:Nat}{w0 w w':World}(h:Only g w w')(hb:Below B w0 w)(hB:B≤g):Below B w0 w':=
 hb.trans ⟨h.os,h.tape,h.output,Nat.le_of_eq h.size.symm,fun k hk=>h.block k ae⟩
theorem Only.setRow{w:World}{g:Nat}(cs:Array Value):Only g w (w.setRow g cs):=
 ⟨rfl,rfl,rfl,by simp[World.setRow],fun k hk=>setRow_other w g k cs hk⟩
namespace row
variable {w w':World}{g k:Nat}{l:List Value}{t:TypeId}
theorem lt(h:row w g l t):g<w.heap.size:=(Array.getElem?_eq_some_iff.1 h).1
theorem at_(h:row w g l t)(j:Nat):w.cell? ⟨g,j,none⟩=l[j]?:=by
 rw[cell_of_row w g j l.toArray t (0,0) h];simp
theorem cell(h:row w g l t)(j:Nat){v:Value}(hv:l[j]?=some v):w.cell? ⟨g,j,none⟩=some v:=by rw[h.at_,hv]
theorem frozen(h:row w g l t)(j:Nat):w.frozen? ⟨g,j,none⟩=false:=frozen_of_row w g j l.toArray t h
theorem below(h:row w k l t){B:Nat}(hb:Below B w w')(hk:k<B):row w' k l t:=(hb.block k hk).trans h
theorem new(h:row w k l t)(hb:Below w.heap.size w w'):row w' k l t:=h.below hb h.lt
theorem only(h:row w k l t)(ho:Only g w w')(hk:k≠g):row w' k l t:=(ho.block k hk).trans h
theorem drew(h:row w k l t):row w.drew k l t:=h
theorem range(h:row w g l t)(o:Nat)(cs:List Value)(hc:∀ j v,cs[j]?=some v→l[o+j]?=some v):w.rangeAt g o cs:=fun j v hv=>h.cell _ (hc j v hv)
theorem zij(h:row w g l t)(o n:Nat):w.rangeAt g o ((l.drop o).take n):=h.range o _ fun j v hv=>by
 rw[List.getElem?_take]at hv
 split at hv
 ·rwa [List.getElem?_drop]at hv
 ·cases hv
theorem slAt(h:row w g l t)(o n sz:Nat)(hn:o+n*sz≤l.length)(hm:n≤maxLen):zaS w (some ⟨g,o,none⟩) n sz ((l.drop o).take (n*sz)):=
 ⟨by simp;omega,hm,fun _=>⟨g,o,rfl,h.lt,fun k hk=>by rw[h.at_,List.getElem?_take,if_pos hk,List.getElem?_drop]⟩⟩
end row
theorem Only.trans{g:Nat}{a b c:World}(h:Only g a b)(k:Only g b c):Only g a c:=
 ⟨k.os.trans h.os,k.tape.trans h.tape,k.output.trans h.output,k.size.trans h.size,fun i hi=>(k.block i hi).trans (h.block i hi)⟩
theorem Only.refl(g:Nat)(w:World):Only g w w:=⟨rfl,rfl,rfl,rfl,fun _ _=>rfl⟩
theorem Only.drew{g:Nat}{a b:World}(h:Only g a b):Only g a b.drew:=⟨h.os,h.tape,h.output,h.size,h.block⟩
theorem zdt(w:World)(l:List Value)(t:TypeId):row (w.alloc (.cells l.toArray t)) w.heap.size l t:=heap_alloc_new w _
theorem zcm(w:World)(o:Obj):Below w.heap.size w (w.alloc o):=(Below.refl _ _).alloc (Nat.le_refl _) o
section
variable {P:Program}{ops:Array Oper}{rest:List Oper}{o:Oper}{a:Act}{w:World}{K:Act→World→Prop}{Q:Exit→Act→World→Prop}{E:Prop}
theorem zex(op:Op){dst:Option Tmp}{ty:TypeId}{pos:String}{af:Array Edge}{gd:Option (Nat × Bool)}(h:wpList P ops Q (⟨dst,op,ty,pos,af,gd⟩::rest) a w):
 wpList P ops Q (⟨dst,op,ty,pos,af,gd⟩::rest) a w:=h
theorem zfK(ρ:Operand→Value)(t:TypeId)(ho:o.op= .alloc t)(zl:List Value)(hz:(P.info? t).map (fun i=>i.zero.map (·.cells))=some (some zl.toArray)):
  (execOp ρ o).run P w= .ok (.value (.pointer (some ⟨w.heap.size,0,none⟩))) (w.alloc (.cells zl.toArray t)):=by
 obtain⟨i,hi,hzz⟩:=Option.map_eq_some_iff.1 hz
 obtain⟨z,hz1,hz2⟩:=Option.map_eq_some_iff.1 hzz
 simp[execOp,ho,Instr.alloc,zeroValue,typeInfo,hi,hz1,newVar,newRow,hz2]
theorem zjM (t:TypeId) (ho:o.op= .alloc t) (zl:List Value) (hz:(P.info? t).map (fun i=>i.zero.map (·.cells))=some (some zl.toArray))
  (h:∀ g w',w.heap.size≤g→row w' g zl t→Below w.heap.size w w'→K (a.put o.dst (.pointer (some ⟨g,0,none⟩))) w'):o.wp P a w K Q:=
 zg9 (zfK a.eval t ho zl hz) (h _ _ (Nat.le_refl _) (zdt w zl t) (zcm w _))
theorem zb7 (hgd:o.guard=none) (t:TypeId) (ho:o.op= .alloc t) (zl:List Value) (hz:(P.info? t).map (fun i=>i.zero.map (·.cells))=some (some zl.toArray))
  (h:∀ g w',w.heap.size≤g→row w' g zl t→Below w.heap.size w w'→wpList P ops Q rest (a.put o.dst (.pointer (some ⟨g,0,none⟩))) w'):wpList P ops Q (o::rest) a w:=
 wpList_plain hgd fun _ hK=>zjM t ho zl hz fun g w' h1 h2 h3=>hK _ _ (h g w' h1 h2 h3)
theorem zha(ρ:Operand→Value)(t:TypeId)(x:Operand)(ho:o.op= .box t x)(vl:List Value)(hv:(ρ x).cells=vl.toArray):
  (execOp ρ o).run P w= .ok (.value (.pointer (some ⟨w.heap.size,0,none⟩))) (w.alloc (.cells vl.toArray t)):=by
 simp[execOp,ho,Instr.box,newVar,newRow,hv]
theorem zmS (t:TypeId) (x:Operand) (ho:o.op= .box t x) (vl:List Value) (hv:(a.eval x).cells=vl.toArray)
  (h:∀ g w',w.heap.size≤g→row w' g vl t→Below w.heap.size w w'→K (a.put o.dst (.pointer (some ⟨g,0,none⟩))) w'):o.wp P a w K Q:=
 zg9 (zha a.eval t x ho vl hv) (h _ _ (Nat.le_refl _) (zdt w vl t) (zcm w _))
theorem zdR (hgd:o.guard=none) (t:TypeId) (x:Operand) (ho:o.op= .box t x) (vl:List Value) (hv:(a.eval x).cells=vl.toArray)
  (h:∀ g w',w.heap.size≤g→row w' g vl t→Below w.heap.size w w'→wpList P ops Q rest (a.put o.dst (.pointer (some ⟨g,0,none⟩))) w'):wpList P ops Q (o::rest) a w:=
 wpList_plain hgd fun _ hK=>zmS t x ho vl hv fun g w' h1 h2 h3=>hK _ _ (h g w' h1 h2 h3)
theorem zey (ρ:Operand→Value) (ty:TypeId) (x:Operand) (ho:o.op= .load ty x) (b off:Nat) (hx:ρ x= .pointer (some ⟨b,off,none⟩)) (cs:List Value) (hc:w.rangeAt b off cs)
  (hu:(P.underlying ty).any (·.isRow)=true) (hi:(P.info? ty).map (·.size)=some cs.length):(execOp ρ o).run P w= .ok (.value (.agg cs.toArray)) w:=by
 cases hd:P.underlying ty with
 |none=>simp[hd]at hu
 |some d=>
  have hr:d.isRow=true:=by simpa [hd]using hu
  unfold execOp
  simp only[ho,hx,Instr.loadAt,Instr.sureAddr,Sem.run_bind,Sem.run_pure,Result.andThen_ok,run_loadVar_mid w b off ty cs d hc hd hr hi]
theorem zk9 (ty:TypeId) (x:Operand) (ho:o.op= .load ty x) (b off:Nat) (hx:a.eval x= .pointer (some ⟨b,off,none⟩)) (cs:List Value) (hc:w.rangeAt b off cs)
  (hu:(P.underlying ty).any (·.isRow)=true) (hi:(P.info? ty).map (·.size)=some cs.length) (h:K (a.put o.dst (.agg cs.toArray)) w):o.wp P a w K Q:=
 zg9 (zey a.eval ty x ho b off hx cs hc hu hi) h
theorem zcW (hgd:o.guard=none) (ty:TypeId) (x:Operand) (ho:o.op= .load ty x) (b off:Nat) (hx:a.eval x= .pointer (some ⟨b,off,none⟩)) (cs:List Value) (hc:w.rangeAt b off cs)
  (hu:(P.underlying ty).any (·.isRow)=true) (hi:(P.info? ty).map (·.size)=some cs.length) (h:wpList P ops Q rest (a.put o.dst (.agg cs.toArray)) w):wpList P ops Q (o::rest) a w:=
 wpList_plain hgd fun _ hK=>zk9 ty x ho b off hx cs hc hu hi (hK _ _ h)
theorem zep {fn:Func} {p:Tmp} {ty:TypeId} (h:fn.results=#[.cell p ty]) (tmps:Array Value) (w:World) (g:Nat) (t:TypeId) (cs:List Value) (hp:tmps.getD p undef= .pointer (some ⟨g,0,none⟩))
  (hg:row w g cs t) (hu:(P.underlying ty).any (·.isRow)=true) (hi:(P.info? ty).map (·.size)=some cs.length):(results fn tmps).run P w= .ok (.agg cs.toArray) w:=by
 cases hd:P.underlying ty with
 |none=>simp[hd]at hu
 |some d=>
  have hr:d.isRow=true:=by simpa [hd]using hu
  have hp':tmps[p]?.getD undef= .pointer (some ⟨g,0,none⟩):=by simpa using hp
  have hc:w.rangeAt g 0 cs:=hg.range 0 cs fun j v hv=>by simpa using hv
  simp[results,h,hp',asAddr,run_loadVar_mid w g 0 ty cs d hc hd hr hi]
theorem run_arrayAt(t e:TypeId)(n:Nat)(hu:P.underlying t=some (.array n e))(p:Option Addr)(len cap:Nat)(h:n≤len)(w:World):(Instr.arrayAt t (.slice p len cap)).run P w= .ok (.pointer p) w:=by
 simp[Instr.arrayAt,run_underlying hu,Nat.not_lt.2 h]
theorem zhb (ty:TypeId) (x y:Operand) (ho:o.op= .store ty x y) (g off:Nat) (hx:a.eval x= .pointer (some ⟨g,off,none⟩)) (vs:List Value) (hy:(a.eval y).cells=vs.toArray)
  (l:List Value) (t:TypeId) (hr:row w g l t) (hi:(P.info? ty).map (·.size)=some vs.length) (hfit:off+vs.length≤l.length) (h1:∀ v∈vs,v.oneCell'=true)
  (h:∀ l' w',Hid (l'=splice l off vs)→row w' g l' t→Only g w w'→K (a.put o.dst undef) w'):o.wp P a w K Q:=by
 obtain⟨i,hq,hs⟩:=Option.map_eq_some_iff.1 hi
 have hst:=run_storeCells_at P g off t vs 0 l.toArray w hr (by simpa using hfit) h1
 unfold Oper.wp execOp
 simp only[ho,hx,Instr.storeAt,Instr.sureAddr,Sem.run_bind,Sem.run_pure,Result.andThen_ok]
 have hrun:(storeVar ty ⟨g,off,none⟩ (a.eval y)).run P w= .ok () (w.setRow g (splice l off vs).toArray):=by
  simp[storeVar,Go.sizeOf,typeInfo,hq,hy,hs,hst,splice]
 simp only[hrun,Result.andThen_ok]
 exact h _ _ rfl (setRow_heap w g _ _ t _ hr) (Only.setRow _)
theorem zcn (hgd:o.guard=none) (ty:TypeId) (x y:Operand) (ho:o.op= .store ty x y) (g off:Nat) (hx:a.eval x= .pointer (some ⟨g,off,none⟩)) (vs:List Value) (hy:(a.eval y).cells=vs.toArray)
  (l:List Value) (t:TypeId) (hr:row w g l t) (hi:(P.info? ty).map (·.size)=some vs.length) (hfit:off+vs.length≤l.length) (h1:∀ v∈vs,v.oneCell'=true)
  (h:∀ l' w',Hid (l'=splice l off vs)→row w' g l' t→Only g w w'→wpList P ops Q rest (a.put o.dst undef) w'):wpList P ops Q (o::rest) a w:=
 wpList_plain hgd fun _ hK=>zhb ty x y ho g off hx vs hy l t hr hi hfit h1 fun l' w' e1 e2 e3=>hK _ _ (h l' w' e1 e2 e3)
theorem ziU (hgd:o.guard=none) (ty:TypeId) (x y:Operand) (ho:o.op= .store ty x y) (g off:Nat) (hx:a.eval x= .pointer (some ⟨g,off,none⟩)) (vs:List Value) (hy:(a.eval y).cells=vs.toArray)
  (l:List Value) (t:TypeId) (hr:row w g l t) (hi:(P.info? ty).map (·.size)=some vs.length) (hfit:off+vs.length≤l.length) (h1:∀ v∈vs,v.oneCell'=true)
  (h:∀ l' w',Hid (l'=splice l off vs)→row w' g l' t→Only g w w'→K (a.put o.dst undef) w'):if Region.wanted o (yielded ops a.tmps)=true then Oper.wp P o a w K Q else E:=by
 rw[if_pos (by simp[Region.wanted,hgd])]
 exact zhb ty x y ho g off hx vs hy l t hr hi hfit h1 h
theorem zla{l:List Value}{off:Nat}{v:Value}{vs:List Value}(h:off+(vs.length+1)≤l.length):splice (l.set off v) (off+1) vs=splice l off (v::vs):=by
 simp only[splice,List.length_cons]
 rw[List.take_set,List.drop_set_of_lt ae,List.take_add_one,List.getElem?_eq_getElem ae,Option.toList_some,List.set_append_right _ _ aK]
 simp[Nat.min_eq_left (by omega:off≤l.length)]
 congr 1
 omega
theorem row.setCells{g:Nat}{t:TypeId}:∀ (vs:List Value) (off:Nat) (l:List Value) (w:World),row w g l t→off+vs.length≤l.length→row (w.setCells g off vs) g (splice l off vs) t
 |[],off,l,w,h,_=>by simpa [World.setCells,splice]using h
 |v::vs,off,l,w,h,hl=>by
  simp only[List.length_cons]at hl
  have h2:row (w.setCell ⟨g,off,none⟩ v) g (l.set off v) t:=by
   have:=heap_setCell_same w g off l.toArray t v h
   simpa [row]using this
  have:=row.setCells vs (off+1) (l.set off v) _ h2 aK
  rwa [zla hl]at this
theorem Only.setCell(w:World)(g i:Nat)(v:Value):Only g w (w.setCell ⟨g,i,none⟩ v):=
 ⟨rfl,rfl,rfl,by simp[World.setCell],fun k hk=>heap_setCell_other w ⟨g,i,none⟩ k v hk⟩
theorem row.setc{w:World}{g:Nat}{l:List Value}{t:TypeId}(h:row w g l t)(i:Nat)(v:Value):row (w.setCell ⟨g,i,none⟩ v) g (l.set i v) t:=by
 have:=heap_setCell_same w g i l.toArray t v h
 simpa [row]using this
theorem Only.setCells(g:Nat):∀ (vs:List Value) (off:Nat) (w:World),Only g w (w.setCells g off vs)
 |[],_,w=>Only.refl g w
 |v::vs,off,w=>(Only.setCell w g off v).trans (Only.setCells g vs (off+1) _)
theorem row.zjN{w:World}{g:Nat}{l:List Value}{t:TypeId}(h:row w g l t):w.rangeAt g 0 l:=h.range 0 l fun j v hv=>by simpa using hv
theorem row.there{w:World}{g:Nat}{l:List Value}{t:TypeId}(h:row w g l t):w.there g 0 l.length:=fun j hj=>by
 rw[Nat.zero_add]
 exact⟨by rw[h.at_,List.getElem?_eq_getElem hj];rfl,h.frozen j⟩
def HS(g1:Nat)(l1:List Value)(t1:TypeId)(g2 n2:Nat)(w:World):Prop:=row w g1 l1 t1∧w.there g2 0 n2
theorem HS.drew{g1:Nat}{l1:List Value}{t1:TypeId}{g2 n2:Nat}{w:World}(h:HS g1 l1 t1 g2 n2 w):HS g1 l1 t1 g2 n2 w.drew:=h
theorem HS.set{g1:Nat}{l1:List Value}{t1:TypeId}{g2 n2:Nat}{w:World}(h:HS g1 l1 t1 g2 n2 w)(hne:g1≠g2)(off:Nat)(vs:List Value):HS g1 l1 t1 g2 n2 (w.setCells g2 off vs):=
 ⟨h.1.only (Only.setCells g2 vs off w) hne,World.there_setCells h.2 g2 off vs⟩
theorem HS.setc{g1:Nat}{l1:List Value}{t1:TypeId}{g2 n2:Nat}{w:World}(h:HS g1 l1 t1 g2 n2 w)(hne:g1≠g2)(off:Nat)(v:Value):HS g1 l1 t1 g2 n2 (w.setCell ⟨g2,off,none⟩ v):=h.set hne off [v]
theorem HS.out1{g1:Nat}{l1:List Value}{t1:TypeId}{g2 n2:Nat}{w:World}(h:HS g1 l1 t1 g2 n2 w):row w g1 l1 t1:=h.1
def cellOf(w:World)(a:Addr):Value:=(w.cell? a).getD undef
theorem HS.cell{g1:Nat}{l1:List Value}{t1:TypeId}{g2 n2:Nat}(j:Nat)(hj:j<n2)(w:World)(h:HS g1 l1 t1 g2 n2 w):w.cell? ⟨g2,j,none⟩=some (cellOf w ⟨g2,j,none⟩):=by
 have:=(h.2 j hj).1
 rw[Nat.zero_add]at this
 obtain⟨v,hv⟩:=Option.isSome_iff_exists.1 this
 rw[cellOf,hv];rfl
theorem HS.frozen{g1:Nat}{l1:List Value}{t1:TypeId}{g2 n2:Nat}(j:Nat)(hj:j<n2)(w:World)(h:HS g1 l1 t1 g2 n2 w):w.frozen? ⟨g2,j,none⟩=false:=by
 have:=(h.2 j hj).2
 rwa [Nat.zero_add]at this
theorem zjO (hgd:o.guard=none) (f:FuncId) (xs:Array Operand) (ats:Array TypeId) (ho:o.op= .call {callee:=.value (.func f),args:=xs,argTypes:=ats})
  (vs:List Value) (hv:xs.toList.map a.eval=vs) (hf:(callFunc f (#[]++vs.toArray++#[])).run P w= .ok (.enter f vs.toArray) w)
  (hc:Calls P f vs.toArray w fun e w'=>∃ v,e= .returned v∧K (a.put o.dst v) w'):if Region.wanted o (yielded ops a.tmps)=true then Oper.wp P o a w K Q else E:=by
 rw[if_pos (by simp[Region.wanted,hgd])]
 obtain⟨dst,op,ty,pos,af,gd⟩:=o
 simp only at ho
 subst ho
 have hrun:(execOp a.eval ⟨dst, .call {callee:=.value (.func f),args:=xs,argTypes:=ats},ty,pos,af,gd⟩).run P w= .ok (.enter f vs.toArray) w:=by
  have hm:xs.map a.eval=vs.toArray:=by rw[←hv,←Array.toList_map]
  rw[execOp_call_go,hm]
  exact hf
 unfold Oper.wp
 rw[hrun,Oper.upon_enter]
 refine hc.mono ?_
 rintro e w' ⟨v,rfl,h⟩
 exact h
theorem zmT (d s:Operand) (dT sT:TypeId) (ho:o.op= .call {callee:=.builtin .copy,args:=#[d,s],argTypes:=#[dT,sT]}) (elem:TypeId) (hu:P.underlying dT=some (.slice elem)) (hsz:(P.info? elem).map (·.size)=some 1)
  (dp sp:Option Addr) (dLen dCap sLen sCap:Nat) (hd:a.eval d= .slice dp dLen dCap) (hs:a.eval s= .slice sp sLen sCap)
  (g off:Nat) (l:List Value) (t:TypeId) (hr:row w g l t) (cs:List Value) (hn:cs.length=Nat.min sLen dLen)
  (hpos:0<cs.length→dp=some ⟨g,off,none⟩∧∃ ad,sp=some ad∧∀ j v,cs[j]?=some v→w.cell? (ad.add j)=some v)
  (hfit:off+cs.length≤l.length) (h1:∀ v∈cs,v.oneCell'=true)
  (h:∀ l' w',Hid (l'=splice l off cs)→row w' g l' t→Only g w w'→K (a.put o.dst (goInt cs.length)) w'):o.wp P a w K Q:=by
 by_cases h0:cs.length=0
 ·obtain rfl:cs=[]:=List.eq_nil_of_length_eq_zero h0
  have hrun:=run_copy_none (P:=P) w dT sT o.type elem dp sp dLen dCap sLen sCap hu hsz (by simpa using hn.symm)
  unfold Oper.wp
  simp[execOp,ho,resolve,invoke,builtin,hd,hs,hrun,Result.andThen]
  exact h _ w (show _=_ by simp[splice]) hr (Only.refl _ _)
 ·obtain⟨rfl,ad,rfl,hsrc⟩:=hpos ae
  have hrun:=run_copy_row (P:=P) w dT sT o.type elem g off dLen dCap ad sLen sCap l.toArray t cs hu hsz hr hn hsrc (by simpa using hfit) h1
  unfold Oper.wp
  simp[execOp,ho,resolve,invoke,builtin,hd,hs,hrun,Result.andThen]
  exact h _ _ (show _=_ from rfl) (by simpa [row,splice]using setRow_heap w g _ _ t _ hr) (Only.setRow _)
theorem zjP (hgd:o.guard=none) (d s:Operand) (dT sT:TypeId) (ho:o.op= .call {callee:=.builtin .copy,args:=#[d,s],argTypes:=#[dT,sT]}) (elem:TypeId) (hu:P.underlying dT=some (.slice elem)) (hsz:(P.info? elem).map (·.size)=some 1)
  (dp sp:Option Addr) (dLen dCap sLen sCap:Nat) (hd:a.eval d= .slice dp dLen dCap) (hs:a.eval s= .slice sp sLen sCap)
  (g off:Nat) (l:List Value) (t:TypeId) (hr:row w g l t) (cs:List Value) (hn:cs.length=Nat.min sLen dLen)
  (hpos:0<cs.length→dp=some ⟨g,off,none⟩∧∃ ad,sp=some ad∧∀ j v,cs[j]?=some v→w.cell? (ad.add j)=some v)
  (hfit:off+cs.length≤l.length) (h1:∀ v∈cs,v.oneCell'=true)
  (h:∀ l' w',Hid (l'=splice l off cs)→row w' g l' t→Only g w w'→K (a.put o.dst (goInt cs.length)) w'):if Region.wanted o (yielded ops a.tmps)=true then Oper.wp P o a w K Q else E:=by
 rw[if_pos (by simp[Region.wanted,hgd])]
 exact zmT d s dT sT ho elem hu hsz dp sp dLen dCap sLen sCap hd hs g off l t hr cs hn hpos hfit h1 h
theorem zlX(n:Nat):∀ (vs:List Value) (k:Nat) (A:List Value),n+k+vs.length≤A.length→
  (vs.zipIdx k).foldl (fun(cs:Array Value) (p:Value × Nat)=>cs.setIfInBounds (n+p.2) p.1) A.toArray=(A.take (n+k)++(vs++A.drop (n+k+vs.length))).toArray
 |[],k,A,_=>by simp
 |v::vs,k,A,hl=>by
  simp only[List.length_cons]at hl
  have ih:=zlX n vs (k+1) (A.set (n+k) v) aK
  have he:A.toArray.setIfInBounds (n+k) v=(A.set (n+k) v).toArray:=by simp
  rw[List.zipIdx_cons,List.foldl_cons,he,ih]
  congr 1
  have h1:n+(k+1)=n+k+1:=by omega
  rw[h1,List.take_set,List.drop_set_of_lt ae,List.take_add_one,List.getElem?_eq_getElem ae,Option.toList_some,List.set_append_right _ _ aK]
  simp[Nat.min_eq_left (by omega:n+k≤A.length)]
  congr 1
  omega
theorem ziV (place : Nat → Option (Nat × Nat)) : ∀ (parts : List (Nat × Value)) (pre post : List Value),
  (∀ i (hi : i < parts.length), place parts[i].1 = some (pre.length + ((parts.take i).map fun q => q.2.cells.size).sum, parts[i].2.cells.size)) →
  post.length = ((parts.map fun q => q.2.cells.size).sum) →
  Instr.fill place (pre ++ post).toArray parts = some (pre ++ (parts.map fun q => q.2.cells.toList).flatten).toArray
 | [], pre, post, _, hl => by
  have : post = [] := List.eq_nil_of_length_eq_zero (by simpa using hl)
  subst this; simp [Instr.fill]
 | (i, v) :: rest, pre, post, hp, hl => by
  have h0 := hp 0 (by simp)
  simp only [List.getElem_cons_zero, List.take_zero, List.map_nil, List.sum_nil, Nat.add_zero] at h0
  simp only [Instr.fill, h0]
  have hlen : post.length = v.cells.size + (rest.map fun q => q.2.cells.size).sum := by simpa using hl
  rw [if_neg (by simp; omega)]
  have hset : (v.cells.zipIdx.foldl (fun cs (c, j) => cs.setIfInBounds (pre.length + j) c) (pre ++ post).toArray) = ((pre ++ v.cells.toList) ++ post.drop v.cells.size).toArray := by
   have := zlX pre.length v.cells.toList 0 (pre ++ post) (by simp; omega)
   rw [← Array.foldl_toList, Array.toList_zipIdx]
   refine this.trans ?_
   simp [List.drop_append]
  rw [hset, ziV place rest (pre ++ v.cells.toList) (post.drop v.cells.size)
   (fun j hj => by
    have := hp (j + 1) (by simpa using hj)
    simp only [List.getElem_cons_succ, List.take_succ_cons, List.map_cons, List.sum_cons] at this
    rw [this]; simp; omega)
   (by simp; omega)]
  simp
def placesOf(P:Program)(t:TypeId):Option (List (Nat × Nat)):=
 match P.underlying t with
 |some (.struct fields)=>fields.toList.mapM (fun f=>(P.info? f.type).map fun i=>(f.offset,i.size))
 |_=>none
theorem zgO (t:TypeId) (parts:Array (Nat × Value)) (places:List (Nat × Nat)) (hpl:placesOf P t=some places) (n:Nat) (hn:(P.info? t).map (fun i=>i.zero.map (·.cells.size))=some (some n))
  (hp:∀ i (hi:i<parts.toList.length),places[parts.toList[i].1]?=some (((parts.toList.take i).map fun q=>q.2.cells.size).sum,parts.toList[i].2.cells.size))
  (hs:n=((parts.toList.map fun q=>q.2.cells.size).sum)):
  (Instr.build t parts).run P w= .ok (.agg ((parts.toList.map fun q=>q.2.cells.toList).flatten).toArray) w:=by
 refine run_build w t parts _ ?_
 obtain⟨it,hi,hzz⟩:=Option.map_eq_some_iff.1 hn
 obtain⟨z,hz1,hz2⟩:=Option.map_eq_some_iff.1 hzz
 unfold placesOf at hpl
 unfold Program.built
 cases hu:P.underlying t with
 |none=>simp[hu]at hpl
 |some d=>
  cases d<;>try (simp[hu]at hpl;done)
  case struct fields=>
   simp only[hu]at hpl
   simp only[hi,hz1,hpl]
   have:=ziV (fun i=>places.toArray[i]?) parts.toList [] z.cells.toList (by simpa using hp) (by simpa [hz2]using hs)
   simpa using this
theorem zfL (t e:TypeId) (len:Nat) (parts:Array (Nat × Value)) (ht:P.underlying t=some (.slice e)) (sz:Nat) (zs:Array Value) (hi:(P.info? e).map (fun i=>(i.zero.map (·.cells),i.size))=some (some zs,sz))
  (hlim:len*sz≤16777216) (hpos:0<len*sz)
  (hp:∀ i (hi:i<parts.toList.length),parts.toList[i].1*sz=(((parts.toList.take i).map fun q=>q.2.cells.size).sum)∧parts.toList[i].2.cells.size=sz) (hs:len*sz=((parts.toList.map fun q=>q.2.cells.size).sum)):
  (Instr.buildSlice t len parts).run P w= .ok (.slice (some ⟨w.heap.size,0,none⟩) len len) (w.alloc (.cells ((parts.toList.map fun q=>q.2.cells.toList).flatten).toArray e)):=by
 obtain⟨i,hq,hzz⟩:=Option.map_eq_some_iff.1 hi
 simp only[Prod.mk.injEq]at hzz
 obtain⟨hz,hsz⟩:=hzz
 obtain⟨z,hz1,hz2⟩:=Option.map_eq_some_iff.1 hz
 have hfill:=ziV (fun i=>some (i*sz,sz)) parts.toList [] ((Array.range (len*sz)).map (zs[· % zs.size]!)).toList
  (fun j hj=>by obtain⟨h1,h2⟩:=hp j hj;rw[h1,h2];simp) bI
 simp only[List.nil_append,Array.toArray_toList]at hfill
 have hne:¬(len*sz=0):=by omega
 simp[Instr.buildSlice,run_underlying ht,Go.sizeOf,typeInfo,hq,hsz,zeroValue,hz1,hz2,hfill,newRow,Nat.not_lt.2 hlim,hne]
theorem ziW (t e : TypeId) (zl : List Value) (sz bytes : Nat) (ht : P.underlying t = some (.slice e)) (hinfo : (P.info? e).map (fun i => (i.zero.map (·.cells), i.size, i.bytes)) = some (some zl.toArray, sz, bytes))
    (n : Nat) (hb : bytes * n ≤ 281474976710656) (h63 : n ≤ 9223372036854775807) :
    (Instr.makeSlice t (.int .i64 n) (.int .i64 n)).run P w = .ok (.slice (some ⟨w.heap.size, 0, none⟩) n n) (w.alloc (.cells (madeCells zl.toArray (n * sz)) e)) := by
  obtain ⟨i, hi, hzz⟩ := Option.map_eq_some_iff.1 hinfo
  simp only [Prod.mk.injEq] at hzz
  obtain ⟨hz, hs, hbb⟩ := hzz
  obtain ⟨z, hz1, hz2⟩ := Option.map_eq_some_iff.1 hz
  have := run_make (P := P) (w := w) t e i z ht hi hz1 .i64 .i64 n n (by omega) (by omega) (by rw [hbb]; have : ((bytes * n : Nat) : Int) ≤ 281474976710656 := by omega
                                                                                               rwa [Int.natCast_mul] at this) (by omega)
  rw [this]
  simp [hz2, hs]
theorem zhc(z:List Value)(v:Value)(hz:∀ u∈z,u=v)(h0:0<z.length)(n:Nat):madeCells z.toArray n=(List.replicate n v).toArray:=by
 apply Array.ext
 ·simp[madeCells]
 ·intro i h1 h2
  simp only[madeCells,List.size_toArray,Array.getElem_map,Array.getElem_range,List.getElem_toArray,List.getElem_replicate]
  have hlt:i % z.length<z.length:=Nat.mod_lt _ h0
  rw[getElem!_pos z.toArray _ (by simpa using hlt)]
  exact hz _ ay
end
inductive Dm where
 |m (D:Nat)
 |fn (f:Nat) (cap args:List Value)
instance:Coe Nat Dm:=⟨Dm.m⟩
structure Env where
 f:Nat→Value
 ms:List Dm
instance:CoeFun Env (fun _=>Nat→Value):=⟨Env.f⟩
theorem Env.ext'{ρ ρ':Env}(h:∀ i,ρ i=ρ' i)(hm:ρ.ms=ρ'.ms):ρ=ρ':=by
 cases ρ;cases ρ'
 have:=funext h
 simp only at this hm
 rw[this,hm]
def up(ρ:Env)(d:Nat)(v:Value):Env:=⟨fun i=>bif Nat.beq i d then v else ρ.f i,ρ.ms⟩
def upo(ρ:Env):Option Nat→Value→Env
 |none,_=>ρ
 |some d,v=>up ρ d v
def ev(ρ:Env):Operand→Value
 | .tmp t=>ρ.f t
 | .const v=>v
 | .global g=>.pointer (some ⟨g,0,none⟩)
 | .func f=>.func (.func f) #[] #[]
def nth:List Value→Nat→Value
 |[],_=>undef
 |v::_,0=>v
 |_::l,n+1=>nth l n
def env0(l:List Value):Env:=⟨nth l,[]⟩
def mkD(D:Nat):Deferred:={target:=.collected D,args:=#[]}
def Dm.d:Dm→Deferred
 | .m D=>mkD D
 | .fn f cap args=>{target:=.fn (.func f) cap.toArray,args:=args.toArray}
structure Ag(n:Nat)(a:Act)(ρ:Env):Prop where
 d:a.defers=ρ.ms.map Dm.d
 s:a.tmps.size=n
 t:∀ i,a.tmps.getD i undef=ρ.f i
theorem Ag.ev{n:Nat}{a:Act}{ρ:Env}(h:Ag n a ρ):a.eval=ev ρ:=by
 funext x
 cases x with
 |tmp t=>exact h.t t
 |_=>rfl
theorem zez(ρ:Env)(d:Nat)(v:Value):(up ρ d v).f d=v:=by
 have:Nat.beq d d=true:=Nat.beq_refl d
 simp[up,this]
theorem zh7(ρ:Env){d i:Nat}(v:Value)(h:i≠d):(up ρ d v).f i=ρ.f i:=by
 have:Nat.beq i d=false:=by rw[Bool.eq_false_iff];intro e;exact h (Nat.eq_of_beq_eq_true e)
 simp[up,this]
theorem upo_ms(ρ:Env)(d:Option Nat)(v:Value):(upo ρ d v).ms=ρ.ms:=by cases d<;>rfl
theorem Ag.put{n:Nat}{a:Act}{ρ:Env}(h:Ag n a ρ)(d:Option Nat)(hd:∀ k,d=some k→k<n)(v:Value):Ag n (a.put d v) (upo ρ d v):=by
 cases d with
 |none=>exact h
 |some k=>
  refine⟨h.d,by simp[Act.put,h.s],fun i=>?_⟩
  have hk:=hd k rfl
  by_cases e:i=k
  ·subst e;simp[Act.put,upo,zez,h.s,hk]
  ·have:=h.t i
   simp only[upo,zh7 ρ v e,←this]
   simp[Act.put,Array.getElem?_setIfInBounds_ne (Ne.symm e)]
def zh1(n:Nat)(o:Oper):Bool:=match o.dst with|some d=>Nat.blt d n|none=>true
def codeOk(n:Nat):Code→Bool
 | .region _ ops _=>ops.all (zh1 n)
 | .seq a b=>codeOk n a && codeOk n b
 | .cond _ a b=>codeOk n a && codeOk n b
 | .block _ a=>codeOk n a
 | .loop a=>codeOk n a
 | .scope a=>codeOk n a
 | .rangeFunc _ _ a b=>codeOk n a && codeOk n b
 |_=>true
theorem zh1.lt{n:Nat}{o:Oper}(h:zh1 n o=true):∀ k,o.dst=some k→k<n:=by
 intro k hk
 simp only[zh1,hk]at h
 simpa [Nat.blt_eq]using h
def fr:Option Nat→Fence
 |none=>Fence.wide
 |some l=>Fence.wide.inRound l
theorem zlY(rd:Option Nat):(fr rd).round=rd:=by cases rd<;>rfl
theorem zjQ(rd:Option Nat)(f:FuncId):(fr rd).fn f:=by cases rd<;>exact trivial
theorem zeR(rd:Option Nat):(fr rd).depth=none:=by cases rd<;>rfl
theorem zgU{rd:Option Nat}{m:Nat}{P:Program}{f:FuncId}{args:Array Value}{w:World}{R:Ending→World→Prop}(h:Calls P f args w R):CallsIn (fr rd) m P f args w R:=by
 have:=(callsIn_wide (n:=m)).2 h
 cases rd with
 |none=>exact this
 |some l=>exact this.inRound l
theorem zik{rd:Option Nat}{m:Nat}{P:Program}{l:Nat}{f:FuncId}{tmps:Array Value}{x y:Code}{w:World}{R:Ending→World→Prop}(h:RoundIn Fence.wide 0 P l f tmps x y w R):RoundIn (fr rd) m P l f tmps x y w R:=by
 cases rd with
 |none=>exact⟨trivial,fun c cs _=>h.2 c cs (room_wide _)⟩
 |some l'=>exact⟨trivial,fun c cs _=>h.2 c cs (room_wide _)⟩
def Post:=Exit→Env→World→Prop
def lift(n:Nat)(Q:Post):Exit→Act→World→Prop:=fun e a w=>∃ ρ,Ag n a ρ∧Q e ρ w
def W(md:Option Nat→Prop)(P:Program)(n:Nat)(c:Code)(Q:Post)(ρ:Env)(w:World):Prop:=
 codeOk n c=true→∀ (rd:Option Nat) (a:Act),md rd→Ag n a ρ→c.wpIn (fr rd) 9 P (lift n Q) a w
def WR(md:Option Nat→Prop)(P:Program)(n:Nat)(ops:Array Oper)(l:List Oper)(Q:Post)(ρ:Env)(w:World):Prop:=
 l.all (zh1 n)=true→∀ (rd:Option Nat) (a:Act),md rd→Ag n a ρ→wpListIn (fr rd) 9 P ops (lift n Q) l a w
def OpX(P:Program)(o:Oper)(K:Env→World→Prop)(Kp:List PanicEntry→World→Prop)(ρ:Env)(w:World):Prop:=
 (∀ c,o.op≠ .defer c)∧match (execOp (ev ρ) o).run P w with
 | .ok (.value v) w'=>K (upo ρ o.dst v) w'
 | .ok .skip w'=>K (upo ρ o.dst undef) w'
 | .ok (.enter f args) w'=>Calls P f args w' fun
  | .returned v,w''=>K (upo ρ o.dst v) w''
  | .panicked c,w''=>Kp c w''
  | .outgrown,_=>False
 | .ok (.round l f tmps x y) w'=>RoundIn Fence.wide 0 P l f tmps x y w' fun
  | .returned v,w''=>K (upo ρ o.dst v) w''
  | .panicked c,w''=>Kp c w''
  | .outgrown,_=>False
 | .halt (.panic v) w'=>Kp [{v,recovered:=false}] w'
 |_=>False
def OpR(P:Program)(o:Oper)(K:Env→World→Prop)(ρ:Env)(w:World):Prop:=
 match (execOp (ev ρ) o).run P w with
 | .ok (.value v) w'=>K (upo ρ o.dst v) w'
 | .ok .skip w'=>K (upo ρ o.dst undef) w'
 | .ok (.enter f args) w'=>Calls P f args w' fun e w''=>∃ v,e= .returned v∧K (upo ρ o.dst v) w''
 | .ok (.round l f tmps x y) w'=>RoundIn Fence.wide 0 P l f tmps x y w' fun e w''=>∃ v,e= .returned v∧K (upo ρ o.dst v) w''
 |_=>False
def zpS(md:Option Nat→Prop)(P:Program)(n:Nat)(y:Code)(Q:Post):Post
 | .normal,ρ,w=>W md P n y Q ρ w
 |e,ρ,w=>Q e ρ w
def zfM(id:Nat)(Q:Post):Post
 | .exit i,ρ,w=>if i=id then Q .normal ρ w else Q (.exit i) ρ w
 |e,ρ,w=>Q e ρ w
def zmU(I:Env→World→Prop)(Q:Post):Post
 | .normal,ρ,w=>I ρ w
 |e,ρ,w=>Q e ρ w
def Sl(ρ:Env):List (Nat × Value)→Prop
 |[]=>ρ.ms=[]
 |p::l=>ρ.f p.1=p.2∧Sl ρ l
def ups(ρ:Env):List (Nat × Value)→Env
 |[]=>ρ
 |p::l=>up (ups ρ l) p.1 p.2
theorem zdu(ρ:Env)(d:Nat):up ρ d (ρ.f d)=ρ:=by
 refine Env.ext' (fun i=>?_) rfl
 by_cases h:i=d
 ·subst h;rw[zez]
 ·rw[zh7 _ _ h]
theorem Sl.env{ρ:Env}:∀ {l:List (Nat × Value)},Sl ρ l→ρ=ups ⟨ρ.f,[]⟩ l
 |[],h=>Env.ext' (fun _=>rfl) h
 |p::l,h=>by
  have:=Sl.env h.2
  show ρ=up (ups ⟨ρ.f,[]⟩ l) p.1 p.2
  rw[←this,←h.1,zdu]
theorem zjR {F:Fence} {n:Nat} {P:Program} {Q:Exit→Act→World→Prop} {c:Code} {α:Type} (I:α→Act→World→Prop) (m:α→Nat) {a:Act} {w:World} (k0:α) (h₀:I k0 a w)
  (round:∀ k a w,I k a w→c.wpIn F n P (Exit.then (fun a' w'=>∃ k',m k'<m k∧I k' a' w') Q) a w):(Code.loop c).wpIn F n P Q a w:=by
 have ex:∀ a w,(∃ k,I k a w)→∃ v,(∃ k,I k a w∧m k=v)∧∀ k,I k a w→v≤m k:=by
  intro a w ⟨k,hk⟩
  have key:∀ N k,I k a w→m k=N→∃ v,(∃ k,I k a w∧m k=v)∧∀ k,I k a w→v≤m k:=by
   intro N
   induction N using Nat.strongRecOn with
   |_ N ih=>
    intro k hk hm
    by_cases hx:∃ k',I k' a w∧m k'<N
    ·obtain⟨k',h1,h2⟩:=hx
     exact ih (m k') h2 k' h1 rfl
    ·exact⟨N,⟨k,hk,hm⟩,fun k' hk'=>Nat.not_lt.1 fun hlt=>hx ⟨k',hk',hlt⟩⟩
  exact key _ k hk rfl
 let μ:Act→World→Nat:=fun a w=>by
  classical
  exact if h:∃ k,I k a w then Classical.choose (ex a w h)else 0
 have hle:∀ a w k,I k a w→μ a w≤m k:=by
  intro a w k h
  classical
  have hx:∃ k,I k a w:=⟨k,h⟩
  show(if h:∃ k,I k a w then Classical.choose (ex a w h)else 0)≤m k
  rw[dif_pos hx]
  exact(Classical.choose_spec (ex a w hx)).2 k h
 have hmin:∀ a w,(∃ k,I k a w)→∃ k,I k a w∧m k=μ a w:=by
  intro a w h
  classical
  show ∃ k,I k a w∧m k=(if h:∃ k,I k a w then Classical.choose (ex a w h)else 0)
  rw[dif_pos h]
  exact(Classical.choose_spec (ex a w h)).1
 refine wpIn_loop (fun a w=>∃ k,I k a w) μ ⟨k0,h₀⟩ fun a w hI=>?_
 obtain⟨k,hk,hm⟩:=hmin a w hI
 refine Code.wpIn_mono ?_ (round k a w hk)
 intro e a' w' h
 cases e with
 |normal=>
  obtain⟨k',hlt,hk'⟩:=h
  exact⟨⟨k',hk'⟩,Nat.lt_of_le_of_lt (hle a' w' k' hk') (hm▸hlt)⟩
 |_=>exact h
section
variable {md:Option Nat→Prop}{P:Program}{n:Nat}{Q:Post}{ρ:Env}{w:World}
theorem znM{c:Code}{Q':Post}(h:W md P n c Q ρ w)(hq:∀ e ρ w,Q e ρ w→Q' e ρ w):W md P n c Q' ρ w:=
 fun hc rd a hmd ha=>wpIn_mono (h hc rd a hmd ha) fun _ _ _ ⟨ρ',h1,h2⟩=>⟨ρ',h1,hq _ _ _ h2⟩
theorem zah{x y:Code}(h:W md P n x (zpS md P n y Q) ρ w):W md P n (.seq x y) Q ρ w:=by
 intro hc rd a hmd ha
 simp only[codeOk,Bool.and_eq_true]at hc
 refine wpIn_seq (wpIn_mono (h hc.1 rd a hmd ha) ?_)
 rintro e a' w' ⟨ρ',h1,h2⟩
 cases e with
 |normal=>exact h2 hc.2 rd a' hmd h1
 |_=>exact⟨ρ',h1,h2⟩
theorem zat(h:Q .normal ρ w):W md P n .skip Q ρ w:=fun _ _ _ _ ha=>wpIn_skip ⟨_,ha,h⟩
theorem zaF(h:Q .ret ρ w):W md P n .ret Q ρ w:=fun _ _ _ _ ha=>wpIn_ret ⟨_,ha,h⟩
theorem zbh{id:Nat}(h:Q (.exit id) ρ w):W md P n (.exit id) Q ρ w:=fun _ _ _ _ ha=>wpIn_exit ⟨_,ha,h⟩
theorem zaf{y:Code}(h:W md P n y Q ρ w):zpS md P n y Q .normal ρ w:=h
theorem zbC{y:Code}{i:Nat}(h:Q (.exit i) ρ w):zpS md P n y Q (.exit i) ρ w:=h
theorem zaW{y:Code}(h:Q .ret ρ w):zpS md P n y Q .ret ρ w:=h
theorem zaP{id:Nat}(h:Q .normal ρ w):zfM id Q .normal ρ w:=h
theorem zbc{id:Nat}(h:Q .ret ρ w):zfM id Q .ret ρ w:=h
theorem zbl{id:Nat}(h:Q .normal ρ w):zfM id Q (.exit id) ρ w:=by simpa [zfM]using h
theorem zjS{id i:Nat}(hne:Nat.beq i id=false)(h:Q (.exit i) ρ w):zfM id Q (.exit i) ρ w:=by
 have:i≠id:=fun e=>by subst e;simp at hne
 simpa [zfM,this]using h
theorem za2{I:Env→World→Prop}(h:I ρ w):zmU I Q .normal ρ w:=h
theorem zbH{I:Env→World→Prop}{i:Nat}(h:Q (.exit i) ρ w):zmU I Q (.exit i) ρ w:=h
theorem zeb{I:Env→World→Prop}(h:Q .ret ρ w):zmU I Q .ret ρ w:=h
theorem zav{id:Nat}{c:Code}(h:W md P n c (zfM id Q) ρ w):W md P n (.block id c) Q ρ w:=by
 intro hc rd a hmd ha
 refine wpIn_block (wpIn_mono (h hc rd a hmd ha) ?_)
 rintro e a' w' ⟨ρ',h1,h2⟩
 cases e with
 |exit i=>
  by_cases hi:i=id
  ·simp only[zfM,hi,if_true]at h2
   simp only[Exit.inBlock,hi,if_true]
   exact⟨ρ',h1,h2⟩
  ·simp only[zfM,hi,if_false]at h2
   simp only[Exit.inBlock,hi,if_false]
   exact⟨ρ',h1,h2⟩
 |_=>exact⟨ρ',h1,h2⟩
theorem zbq {c:Code} {α:Type} (k0:α) (L:α→List (Nat × Value)) (I:α→World→Prop) (m:α→Nat) (hs:Sl ρ (L k0)) (hI:I k0 w)
  (round:∀ k (f:Nat→Value) w',I k w'→W md P n c (zmU (fun ρ'' w''=>∃ k',m k'<m k∧Sl ρ'' (L k')∧I k' w'') Q) (ups ⟨f,[]⟩ (L k)) w'):W md P n (.loop c) Q ρ w:=by
 intro hc rd a hmd ha
 refine zjR (fun k a2 w2=>∃ ρ2,Ag n a2 ρ2∧Sl ρ2 (L k)∧I k w2) m k0 ⟨ρ,ha,hs,hI⟩ ?_
 rintro k a2 w2 ⟨ρ2,h2,hs2,hI2⟩
 have he:=Sl.env hs2
 have:=round k ρ2.f w2 hI2 hc rd a2 hmd (by rw[←he];exact h2)
 refine wpIn_mono this ?_
 rintro e a3 w3 ⟨ρ3,h3,hq⟩
 cases e with
 |normal=>
  obtain⟨k',hlt,hs3,hI3⟩:=hq
  exact⟨k',hlt,ρ3,h3,hs3,hI3⟩
 |_=>exact⟨ρ3,h3,hq⟩
def zh8(P:Program)(w:World)(ρ:Env):List ResultVar→List Value→Prop
 |[],[]=>True
 | .tmp t::rs,v::vs=>ρ.f t=v∧zh8 P w ρ rs vs
 | .cell a t::rs,v::vs=>(∃ ad,ρ.f a= .pointer (some ad)∧(loadVar t ad).run P w= .ok v w)∧zh8 P w ρ rs vs
 |_,_=>False
def pack:List Value→Value
 |[v]=>v
 |vs=>.tuple vs.toArray
def Ret(R:Value→World→Prop):Ending→World→Prop:=fun e w=>∃ v,e= .returned v∧R v w
def zfN(P:Program)(rs:List ResultVar)(R:Value→World→Prop)(ρ:Env):List Dm→World→Prop
 |[],w=>∃ vs,zh8 P w ρ rs vs∧R (pack vs) w
 | .fn _ _ _::_,_=>False
 | .m D::ms,w=>w.heap[D]?=some (.deferred (some []))∧zfN P rs R ρ ms (w.putObj D (.deferred none))
def retQ(P:Program)(rs:List ResultVar)(R:Value→World→Prop):Post
 | .normal,ρ,w=>zfN P rs R ρ ρ.ms w
 | .ret,ρ,w=>zfN P rs R ρ ρ.ms w
 |_,_,_=>False
def rstep(tmps:Array Value):ResultVar→Sem Value
 | .tmp t=>pure (tmps.getD t undef)
 | .cell a t=>do loadVar t (←asAddr (tmps.getD a undef))
theorem znN{tmps:Array Value}(ht:∀ i,tmps.getD i undef=ρ.f i){r:ResultVar}{rs:List ResultVar}{v:Value}{vs:List Value}(h:zh8 P w ρ (r::rs) (v::vs)):
  (rstep tmps r).run P w= .ok v w∧zh8 P w ρ rs vs:=by
 cases r with
 |tmp t=>exact⟨by simp only[rstep,ht,h.1];rfl,h.2⟩
 |cell a t=>
  obtain⟨⟨ad,h1,h2⟩,h3⟩:=h
  refine⟨?_,h3⟩
  simp only[rstep,ht,h1,asAddr,Sem.run_bind,Sem.run_pure,Result.andThen_ok,h2]
theorem zlZ{tmps:Array Value}(ht:∀ i,tmps.getD i undef=ρ.f i):∀ (rs:List ResultVar) (vs:List Value),zh8 P w ρ rs vs→(rs.mapM (rstep tmps)).run P w= .ok vs w
 |[],[],_=>rfl
 |[],_::_,h=>h.elim
 | .tmp t::rs,[],h=>h.elim
 | .cell a t::rs,[],h=>h.elim
 |r::rs,v::vs,h=>by
  obtain⟨h1,h2⟩:=znN ht h
  have ih:=zlZ ht rs vs h2
  rw[List.mapM_cons]
  simp only[Sem.run_bind,h1,Result.andThen_ok,ih,Sem.run_pure]
theorem zmV(fn:Func)(tmps:Array Value):results fn tmps=(do let vs←fn.results.mapM (rstep tmps);pure (if h:vs.size=1 then vs[0]else .tuple vs)):=by
 have:(fun r=>(match r with| .tmp t=>pure (tmps.getD t undef)| .cell a t=>(do loadVar t (←asAddr (tmps.getD a undef))):Sem Value))=rstep tmps:=by
  funext r;cases r<;>rfl
 unfold results
 rw[←this]
 rfl
theorem zdK{fn:Func}{rs:List ResultVar}(hr:fn.results=rs.toArray){tmps:Array Value}(ht:∀ i,tmps.getD i undef=ρ.f i){vs:List Value}(h:zh8 P w ρ rs vs):
  (results fn tmps).run P w= .ok (pack vs) w:=by
 have h1:=zlZ (P:=P) (w:=w) ht rs vs h
 have h2:(fn.results.mapM (rstep tmps)).run P w= .ok vs.toArray w:=by
  rw[hr,List.mapM_toArray]
  simp only[map_eq_pure_bind,Sem.run_bind,h1,Result.andThen_ok,Sem.run_pure]
 rw[zmV,Sem.run_bind,h2]
 simp only[Result.andThen_ok,Sem.run_pure]
 congr 1
 match vs with
 |[]=>rfl
 |[v]=>rfl
 |_::_::_=>rfl
theorem ziX(args:List Value)(m:Nat)(hn:m=n)(hl':args.length≤n):Ag n {tmps:=args.toArray++Array.replicate (m - args.toArray.size) undef,defers:=[]} (env0 args):=by
 refine⟨rfl,by simp[hn];omega,fun i=>?_⟩
 have key:∀ (l:List Value) (i:Nat),nth l i=l.getD i undef:=by
  intro l
  induction l with
  |nil=>intro i;rfl
  |cons v l ih=>intro i;cases i with
   |zero=>rfl
   |succ i=>simpa [nth]using ih i
 show _=nth args i
 rw[key]
 simp only[Array.getD_eq_getD_getElem?,List.getD_eq_getElem?_getD]
 by_cases hi:i<args.length
 ·simp[Array.getElem?_append,hi]
 ·simp only[Array.getElem?_append,List.size_toArray,hi,if_false,List.getElem?_eq_none (Nat.not_lt.1 hi),Option.getD_none,Array.getElem?_replicate]
  split<;>rfl
theorem zax {f:FuncId} {fn:Func} {c:Code} {rs:List ResultVar} {args:List Value} {R:Value→World→Prop}
  (hf:P.funcs[f]?=some fn) (hb:fn.body=some c) (hr:fn.results=rs.toArray) (hn:fn.ntmps=n) (hok:codeOk n c=true) (hl:Nat.ble args.length n=true)
  (h:W (fun rd=>rd=none) P n c (retQ P rs R) (env0 args) w):Calls P f args.toArray w (Ret R):=by
 have hl':args.length≤n:=Nat.le_of_ble_eq_true hl
 refine(callsIn_wide (n:=9)).1 (callsIn_of_wp_marks hf hb trivial ?_ rfl)
 have ha:=ziX (n:=n) args fn.ntmps hn hl'
 refine wpIn_mono (h hok none _ rfl ha) ?_
 rintro e a' w' ⟨ρ',h1,h2⟩
 have key:∀ (ms:List Dm) (w:World),zfN P rs R ρ' ms w→LeavesInM Fence.wide 9 P fn a'.tmps (Ret R) (ms.map Dm.d) .returning w:=by
  intro ms
  induction ms with
  |nil=>
   intro w ⟨vs,h3,h4⟩
   exact⟨_,zdK hr h1.t h3,_,rfl,h4⟩
  |cons D ms ih=>
   cases D with
   |fn f cap args=>intro w h;exact h.elim
   |m D=>
    intro w ⟨h3,h4⟩
    exact⟨ay, .inl ⟨D,_,rfl,run_takeDeferred h3,ih _ h4⟩⟩
 cases e with
 |normal=>show LeavesInM _ _ _ _ _ _ a'.defers _ _;rw[h1.d];exact key _ _ h2
 |ret=>show LeavesInM _ _ _ _ _ _ a'.defers _ _;rw[h1.d];exact key _ _ h2
 |exit i=>exact h2.elim
 |goto l=>exact h2.elim
 |panic c=>exact h2.elim
 |outgrown=>exact h2.elim
theorem zbk{rs:List ResultVar}{R:Value→World→Prop}(vs:List Value)(h:zh8 P w ρ rs vs)(hR:R (pack vs) w)(hm:ρ.ms=[]:=by rfl):retQ P rs R .normal ρ w:=by
 show zfN P rs R ρ ρ.ms w
 rw[hm];exact⟨vs,h,hR⟩
theorem zan{rs:List ResultVar}{R:Value→World→Prop}(vs:List Value)(h:zh8 P w ρ rs vs)(hR:R (pack vs) w)(hm:ρ.ms=[]:=by rfl):retQ P rs R .ret ρ w:=by
 show zfN P rs R ρ ρ.ms w
 rw[hm];exact⟨vs,h,hR⟩
theorem zeS{rs:List ResultVar}{R:Value→World→Prop}(vs:List Value)(D:Nat)(hD:w.heap[D]?=some (.deferred (some [])))(h:zh8 P (w.putObj D (.deferred none)) ρ rs vs)(hR:R (pack vs) (w.putObj D (.deferred none)))(hm:ρ.ms=[.m D]:=by rfl):retQ P rs R .ret ρ w:=by
 show zfN P rs R ρ ρ.ms w
 rw[hm];exact⟨hD,vs,h,hR⟩
theorem zjT{c:Operand}{x y:Code}{b:Bool}(hc:ev ρ c= .bool b)(h1:b=true→W md P n x Q ρ w)(h2:b=false→W md P n y Q ρ w):W md P n (.cond c x y) Q ρ w:=by
 intro hk rd a hmd ha
 simp only[codeOk,Bool.and_eq_true]at hk
 have hc':a.eval c= .bool b:=by rw[ha.ev];exact hc
 cases b with
 |true=>exact wpIn_cond_true hc' (h1 rfl hk.1 rd a hmd ha)
 |false=>exact wpIn_cond_false hc' (h2 rfl hk.2 rd a hmd ha)
theorem za0{c:Operand}{x y:Code}{p:Prop}[Decidable p](hc:ev ρ c= .bool (decide p))(h1:p→W md P n x Q ρ w)(h2:¬p→W md P n y Q ρ w):W md P n (.cond c x y) Q ρ w:=
 zjT hc (fun h=>h1 (of_decide_eq_true h)) (fun h=>h2 (of_decide_eq_false h))
theorem W_ifn{c:Operand}{x y:Code}{p:Prop}[Decidable p](hc:ev ρ c= .bool (!decide p))(h1:¬p→W md P n x Q ρ w)(h2:p→W md P n y Q ρ w):W md P n (.cond c x y) Q ρ w:=
 zjT hc (fun h=>h1 aX) (fun h=>h2 aX)
theorem W_t{c:Operand}{x y:Code}(hc:ev ρ c= .bool true)(h:W md P n x Q ρ w):W md P n (.cond c x y) Q ρ w:=zjT hc (fun _=>h) (fun h=>by cases h)
theorem W_f{c:Operand}{x y:Code}(hc:ev ρ c= .bool false)(h:W md P n y Q ρ w):W md P n (.cond c x y) Q ρ w:=zjT hc (fun h=>by cases h) (fun _=>h)
theorem zgP{c:Operand}{x y:Code}{p:Prop}[Decidable p](hc:ev ρ c= .bool (decide p))(hp:p)(h:W md P n x Q ρ w):W md P n (.cond c x y) Q ρ w:=za0 hc (fun _=>h) (fun h'=>absurd hp h')
theorem zcF{c:Operand}{x y:Code}{p:Prop}[Decidable p](hc:ev ρ c= .bool (decide p))(hp:¬p)(h:W md P n y Q ρ w):W md P n (.cond c x y) Q ρ w:=za0 hc (fun h'=>absurd h' hp) (fun _=>h)
theorem W_fn{c:Operand}{x y:Code}{p:Prop}[Decidable p](hc:ev ρ c= .bool (!decide p))(hp:p)(h:W md P n y Q ρ w):W md P n (.cond c x y) Q ρ w:=W_ifn hc (fun h'=>absurd hp h') (fun _=>h)
theorem zjU{c:Operand}{x y:Code}{b:Bool}(hc:ev ρ c= .bool b)(hp:b=true)(h:W md P n x Q ρ w):W md P n (.cond c x y) Q ρ w:=zjT hc (fun _=>h) (fun h'=>by rw[hp]at h';cases h')
theorem zjG{c:Operand}{x y:Code}{b:Bool}(hc:ev ρ c= .bool b)(hp:b=false)(h:W md P n y Q ρ w):W md P n (.cond c x y) Q ρ w:=zjT hc (fun h'=>by rw[hp]at h';cases h') (fun _=>h)
theorem zpT{c:Operand}{x y:Code}{b:Bool}(hc:ev ρ c= .bool (!b))(hp:b=false)(h:W md P n x Q ρ w):W md P n (.cond c x y) Q ρ w:=zjU hc (by rw[hp];rfl) h
theorem zgl{c:Operand}{x y:Code}{b:Bool}(hc:ev ρ c= .bool (!b))(hp:b=true)(h:W md P n y Q ρ w):W md P n (.cond c x y) Q ρ w:=zjG hc (by rw[hp];rfl) h
theorem zl0{c:Operand}{x y:Code}{b:Bool}(hc:ev ρ c= .bool (!b))(h1:b=false→W md P n x Q ρ w)(h2:b=true→W md P n y Q ρ w):W md P n (.cond c x y) Q ρ w:=zjT hc (fun h=>h1 aX) (fun h=>h2 aX)
theorem zgQ {c y:Code} {α:Type} (L:α→List (Nat × Value)) (I:α→World→Prop)
  (h1:W md P n c (zmU (fun ρ' w'=>∃ k,Sl ρ' (L k)∧I k w') Q) ρ w) (h2:∀ k (f:Nat→Value) w',I k w'→W md P n y Q (ups ⟨f,[]⟩ (L k)) w'):W md P n (.seq c y) Q ρ w:=by
 refine zah (znM h1 ?_)
 rintro e ρ' w' h
 cases e with
 |normal=>
  obtain⟨k,hs,hI⟩:=h
  have:=h2 k ρ'.f w' hI
  rw[←Sl.env hs]at this
  exact this
 |_=>exact h
theorem OpR.wpIn{o:Oper}{K:Env→World→Prop}(h:OpR P o K ρ w){rd:Option Nat}{a:Act}(ha:Ag n a ρ)(hd:∀ k,o.dst=some k→k<n)(Q':Exit→Act→World→Prop):
  o.wpIn (fr rd) 9 P a w (fun a' w'=>∃ ρ',Ag n a' ρ'∧K ρ' w') Q':=by
 refine⟨fun f _=>zjQ rd f,?_⟩
 have hnd:∀ c,o.op≠ .defer c:=by
  intro c hc
  unfold OpR at h
  have hx:(execOp (Coup.ev ρ) o).run P w=((do pure (.defer (←resolve (Coup.ev ρ) c o.type))):Sem Next).run P w:=by simp only[execOp,hc]
  rw[hx]at h
  simp only[Sem.run_bind]at h
  cases hr:(resolve (Coup.ev ρ) c o.type).run P w with
  |ok d w'=>rw[hr]at h;exact h
  |halt x w'=>rw[hr]at h;exact h
 rw[Oper.semAt_eq _ _ _ hnd,ha.ev]
 unfold OpR at h
 split at h
 ·rename_i v w' hr
  rw[hr];exact⟨_,ha.put o.dst hd v,h⟩
 ·rename_i w' hr
  rw[hr];exact⟨_,ha.put o.dst hd undef,h⟩
 ·rename_i f args w' hr
  rw[hr,Oper.uponIn_enter]
  refine⟨(fun hdp=>by rw[zeR]at hdp;cases hdp),zgU (h.mono ?_)⟩
  rintro e w'' ⟨v,rfl,hk⟩
  exact⟨_,ha.put o.dst hd v,hk⟩
 ·rename_i l f tmps x y w' hr
  rw[hr,Oper.uponIn_round]
  refine⟨(fun hdp=>by rw[zeR]at hdp;cases hdp),zik (h.mono ?_)⟩
  rintro e w'' ⟨v,rfl,hk⟩
  exact⟨_,ha.put o.dst hd v,hk⟩
 ·exact h.elim
theorem OpX.wpIn{o:Oper}{K:Env→World→Prop}{Kp:List PanicEntry→World→Prop}(h:OpX P o K Kp ρ w){rd:Option Nat}{a:Act}(ha:Ag n a ρ)(hd:∀ k,o.dst=some k→k<n)(Q':Exit→Act→World→Prop)(hp:∀ c w',Kp c w'→Q' (.panic c) a w'):
  o.wpIn (fr rd) 9 P a w (fun a' w'=>∃ ρ',Ag n a' ρ'∧K ρ' w') Q':=by
 refine⟨fun f _=>zjQ rd f,?_⟩
 rw[Oper.semAt_eq _ _ _ h.1,ha.ev]
 have h:=h.2
 split at h
 ·rename_i v w' hr
  rw[hr];exact⟨_,ha.put o.dst hd v,h⟩
 ·rename_i w' hr
  rw[hr];exact⟨_,ha.put o.dst hd undef,h⟩
 ·rename_i f args w' hr
  rw[hr,Oper.uponIn_enter]
  refine⟨(fun hdp=>by rw[zeR]at hdp;cases hdp),zgU (h.mono ?_)⟩
  intro e w'' hk
  cases e with
  |returned v=>exact⟨_,ha.put o.dst hd v,hk⟩
  |panicked c=>exact hp _ _ hk
  |outgrown=>exact hk.elim
 ·rename_i l f tmps x y w' hr
  rw[hr,Oper.uponIn_round]
  refine⟨(fun hdp=>by rw[zeR]at hdp;cases hdp),zik (h.mono ?_)⟩
  intro e w'' hk
  cases e with
  |returned v=>exact⟨_,ha.put o.dst hd v,hk⟩
  |panicked c=>exact hp _ _ hk
  |outgrown=>exact hk.elim
 ·rename_i v w' hr
  rw[hr,Oper.uponIn_panic]
  exact hp _ _ h
 ·exact h.elim
theorem OpR.x{o:Oper}{K:Env→World→Prop}{Kp:List PanicEntry→World→Prop}(h:OpR P o K ρ w):OpX P o K Kp ρ w:=by
 unfold OpR at h
 refine⟨fun c hc=>?_,?_⟩
 ·have hx:(execOp (Coup.ev ρ) o).run P w=((do pure (.defer (←resolve (Coup.ev ρ) c o.type))):Sem Next).run P w:=by simp only[execOp,hc]
  rw[hx]at h
  simp only[Sem.run_bind]at h
  cases hr:(resolve (Coup.ev ρ) c o.type).run P w with
  |ok d w'=>rw[hr]at h;exact h
  |halt x w'=>rw[hr]at h;exact h
 ·generalize (execOp (Coup.ev ρ) o).run P w=r at*
  cases r with
  |ok x w'=>
   cases x with
   |value v=>exact h
   |skip=>exact h
   |enter f args=>exact Calls.mono h fun e w'' ⟨v,h1,h2⟩=>by subst h1;exact h2
   |round l f tmps x y=>exact RoundIn.mono h fun e w'' ⟨v,h1,h2⟩=>by subst h1;exact h2
   |_=>exact h.elim
  |halt x w'=>exact h.elim
theorem OpX.mono{o:Oper}{K K':Env→World→Prop}{Kp Kp':List PanicEntry→World→Prop}(h:OpX P o K Kp ρ w)(hk:∀ ρ w,K ρ w→K' ρ w)(hp:∀ c w,Kp c w→Kp' c w):OpX P o K' Kp' ρ w:=by
 refine⟨h.1,?_⟩
 have h:=h.2
 generalize (execOp (Coup.ev ρ) o).run P w=r at*
 cases r with
 |ok x w'=>
  cases x with
  |value v=>exact hk _ _ h
  |skip=>exact hk _ _ h
  |enter f args=>
   refine Calls.mono h fun e w'' h=>?_
   cases e with
   |returned v=>exact hk _ _ h
   |panicked c=>exact hp _ _ h
   |outgrown=>exact h
  |round l f tmps x y=>
   refine RoundIn.mono h fun e w'' h=>?_
   cases e with
   |returned v=>exact hk _ _ h
   |panicked c=>exact hp _ _ h
   |outgrown=>exact h
  |_=>exact h.elim
 |halt x w'=>
  cases x with
  |panic v=>exact hp _ _ h
  |_=>exact h.elim
theorem OpR.mono{o:Oper}{K K':Env→World→Prop}(h:OpR P o K ρ w)(hk:∀ ρ w,K ρ w→K' ρ w):OpR P o K' ρ w:=by
 unfold OpR at*
 generalize (execOp (Coup.ev ρ) o).run P w=r at*
 cases r with
 |ok x w'=>
  cases x with
  |value v=>exact hk _ _ h
  |skip=>exact hk _ _ h
  |enter f args=>exact Calls.mono h fun e w'' ⟨v,h1,h2⟩=>⟨v,h1,hk _ _ h2⟩
  |round l f tmps x y=>exact RoundIn.mono h fun e w'' ⟨v,h1,h2⟩=>⟨v,h1,hk _ _ h2⟩
  |_=>exact h.elim
 |halt x w'=>exact h.elim
theorem ziY{o:Oper}{K:Env→World→Prop}{v:Value}{w':World}(hr:(execOp (ev ρ) o).run P w= .ok (.value v) w')(h:K (upo ρ o.dst v) w'):OpR P o K ρ w:=by unfold OpR;rw[hr];exact h
theorem zlb{o:Oper}{K:Env→World→Prop}{w':World}(hr:(execOp (ev ρ) o).run P w= .ok .skip w')(h:K (upo ρ o.dst undef) w'):OpR P o K ρ w:=by unfold OpR;rw[hr];exact h
theorem zlc {o:Oper} {K:Env→World→Prop} {f:FuncId} {vl:List Value} {R:Value→World→Prop} (hr:(execOp (ev ρ) o).run P w= .ok (.enter f vl.toArray) w)
  (hc:Calls P f vl.toArray w (Ret R)) (h:∀ v w',R v w'→K (upo ρ o.dst v) w'):OpR P o K ρ w:=by
 unfold OpR;rw[hr]
 exact hc.mono fun e w' ⟨v,h1,h2⟩=>⟨v,h1,h v w' h2⟩
theorem zaa{id:Nat}{l:List Oper}(h:WR md P n l.toArray l Q ρ w):W md P n (.region id l.toArray false) Q ρ w:=by
 intro hc rd a hmd ha
 have:l.all (zh1 n)=true:=by simpa [codeOk]using hc
 exact wpIn_region_lit (h this rd a hmd ha)
theorem zae{ops:Array Oper}(h:Q .normal ρ w):WR md P n ops [] Q ρ w:=fun _ _ _ _ ha=>⟨_,ha,h⟩
theorem zpU{ops:Array Oper}{rest:List Oper}{o:Oper}(hg:o.guard=none)(h:OpR P o (WR md P n ops rest Q) ρ w):WR md P n ops (o::rest) Q ρ w:=by
 intro hl rd a hmd ha
 simp only[List.all_cons,Bool.and_eq_true]at hl
 refine wpListIn_plain hg fun K' hK'=>?_
 refine Oper.wpIn_mono ?_ (h.wpIn ha (zh1.lt hl.1) _)
 rintro a' w' ⟨ρ',h1,h2⟩
 exact hK' a' w' (h2 hl.2 rd a' hmd h1)
theorem WR_opX{ops:Array Oper}{rest:List Oper}{o:Oper}(hg:o.guard=none)(h:OpX P o (WR md P n ops rest Q) (fun c w'=>Q (.panic c) ρ w') ρ w):WR md P n ops (o::rest) Q ρ w:=by
 intro hl rd a hmd ha
 simp only[List.all_cons,Bool.and_eq_true]at hl
 refine wpListIn_plain hg fun K' hK'=>?_
 refine Oper.wpIn_mono ?_ (h.wpIn ha (zh1.lt hl.1) _ fun c w' hq=>⟨_,ha,hq⟩)
 rintro a' w' ⟨ρ',h1,h2⟩
 exact hK' a' w' (h2 hl.2 rd a' hmd h1)
theorem WR_val{ops:Array Oper}{rest:List Oper}{o:Oper}(hg:o.guard=none){v:Value}{w':World}(hr:(execOp (ev ρ) o).run P w= .ok (.value v) w')(h:WR md P n ops rest Q (upo ρ o.dst v) w'):WR md P n ops (o::rest) Q ρ w:=zpU hg (ziY hr h)
theorem WR_skp{ops:Array Oper}{rest:List Oper}{o:Oper}(hg:o.guard=none){w':World}(hr:(execOp (ev ρ) o).run P w= .ok .skip w')(h:WR md P n ops rest Q (upo ρ o.dst undef) w'):WR md P n ops (o::rest) Q ρ w:=zpU hg (zlb hr h)
theorem zao {ops:Array Oper} {rest:List Oper} {o:Oper} (hg:o.guard=none) {f:FuncId} {vl:List Value} {R:Value→World→Prop} (hr:(execOp (ev ρ) o).run P w= .ok (.enter f vl.toArray) w)
 (hc:Calls P f vl.toArray w (Ret R)) (h:∀ v w',R v w'→WR md P n ops rest Q (upo ρ o.dst v) w'):WR md P n ops (o::rest) Q ρ w:=zpU hg (zlc hr hc h)
def yl(ops:Array Oper)(ρ:Env)(j:Nat):Option Bool:=((ops[j]?).bind (·.dst)).bind fun t=>match ρ.f t with| .bool b=>some b|_=>none
theorem Ag.yl{a:Act}(h:Ag n a ρ)(ops:Array Oper)(j:Nat):yielded ops a.tmps j=Coup.yl ops ρ j:=by
 unfold yielded Coup.yl
 cases ht:(ops[j]?).bind (·.dst)with
 |none=>rfl
 |some t=>
  have:=h.t t
  rw[Array.getD_eq_getD_getElem?]at this
  simp only[Option.bind_some]
  rw[←this]
  cases hx:a.tmps[t]? with
  |none=>rfl
  |some v=>cases v<;>rfl
theorem zaM{ops:Array Oper}{rest:List Oper}{d:Option Nat}{op:Op}{ty:TypeId}{pos:String}{af:Array Edge}{j:Nat}{b b':Bool}(hy:yl ops ρ j=some b')(hb:(b' == b)=false)(h:WR md P n ops rest Q (upo ρ d undef) w):
  WR md P n ops (⟨d,op,ty,pos,af,some (j,b)⟩::rest) Q ρ w:=by
 intro hl rd a hmd ha
 simp only[List.all_cons,Bool.and_eq_true]at hl
 have hw:Region.wanted ⟨d,op,ty,pos,af,some (j,b)⟩ (yielded ops a.tmps)=false:=by
  simp only[Region.wanted,ha.yl,hy]
  simpa using hb
 unfold wpListIn
 rw[if_neg (by simp[hw])]
 exact⟨fun f _=>zjQ rd f,h hl.2 rd _ hmd (ha.put d (zh1.lt hl.1) undef)⟩
theorem zaq{ops:Array Oper}{rest:List Oper}{d:Option Nat}{op:Op}{ty:TypeId}{pos:String}{af:Array Edge}{j:Nat}{b:Bool}(hy:yl ops ρ j=some b)(h:WR md P n ops (⟨d,op,ty,pos,af,none⟩::rest) Q ρ w):
  WR md P n ops (⟨d,op,ty,pos,af,some (j,b)⟩::rest) Q ρ w:=by
 intro hl rd a hmd ha
 have hl':(⟨d,op,ty,pos,af,none⟩::rest:List Oper).all (zh1 n)=true:=hl
 have:=h hl' rd a hmd ha
 unfold wpListIn at this ⊢
 have hw:Region.wanted ⟨d,op,ty,pos,af,some (j,b)⟩ (yielded ops a.tmps)=true:=by
  simp only[Region.wanted,ha.yl,hy]
  simp
 rw[if_pos hw]
 rw[if_pos (by simp[Region.wanted])]at this
 exact this
theorem zbI{ops:Array Oper}{l:List Oper}(t:Nat){p:Prop}[Decidable p](ht:ρ.f t= .bool (decide p))(h1:p→WR md P n ops l Q (up ρ t (.bool true)) w)(h2:¬p→WR md P n ops l Q (up ρ t (.bool false)) w):WR md P n ops l Q ρ w:=by
 by_cases hp:p
 ·have:=h1 hp
  rwa [show Value.bool true=ρ.f t by rw[ht];simp[hp],zdu]at this
 ·have:=h2 hp
  rwa [show Value.bool false=ρ.f t by rw[ht];simp[hp],zdu]at this
theorem zec{ops:Array Oper}{l:List Oper}(t:Nat){b:Bool}(ht:ρ.f t= .bool b)(h1:b=true→WR md P n ops l Q (up ρ t (.bool true)) w)(h2:b=false→WR md P n ops l Q (up ρ t (.bool false)) w):WR md P n ops l Q ρ w:=by
 cases b with
 |true=>have:=h1 rfl;rwa [←ht,zdu]at this
 |false=>have:=h2 rfl;rwa [←ht,zdu]at this
theorem WR_is{ops:Array Oper}{l:List Oper}(t:Nat)(v:Value)(ht:ρ.f t=v)(h:WR md P n ops l Q (up ρ t v) w):WR md P n ops l Q ρ w:=by
 rwa [←ht,zdu]at h
theorem zjV{ops:Array Oper}{l:List Oper}(t:Nat){b:Bool}(ht:ρ.f t= .bool (!b))(h1:b=false→WR md P n ops l Q (up ρ t (.bool true)) w)(h2:b=true→WR md P n ops l Q (up ρ t (.bool false)) w):WR md P n ops l Q ρ w:=
 zec t ht (fun h=>h1 aX) (fun h=>h2 aX)
theorem zeA{ops:Array Oper}{l:List Oper}(t:Nat){p:Prop}[Decidable p](ht:ρ.f t= .bool (decide p))(hp:p)(h:WR md P n ops l Q (up ρ t (.bool true)) w):WR md P n ops l Q ρ w:=zbI t ht (fun _=>h) (fun h'=>absurd hp h')
theorem zfl{ops:Array Oper}{l:List Oper}(t:Nat){p:Prop}[Decidable p](ht:ρ.f t= .bool (decide p))(hp:¬p)(h:WR md P n ops l Q (up ρ t (.bool false)) w):WR md P n ops l Q ρ w:=zbI t ht (fun h'=>absurd h' hp) (fun _=>h)
theorem WR_tb{ops:Array Oper}{l:List Oper}(t:Nat){b:Bool}(ht:ρ.f t= .bool b)(hp:b=true)(h:WR md P n ops l Q (up ρ t (.bool true)) w):WR md P n ops l Q ρ w:=zec t ht (fun _=>h) (fun h'=>by rw[hp]at h';cases h')
theorem WR_fb{ops:Array Oper}{l:List Oper}(t:Nat){b:Bool}(ht:ρ.f t= .bool b)(hp:b=false)(h:WR md P n ops l Q (up ρ t (.bool false)) w):WR md P n ops l Q ρ w:=zec t ht (fun h'=>by rw[hp]at h';cases h') (fun _=>h)
theorem WR_tnb{ops:Array Oper}{l:List Oper}(t:Nat){b:Bool}(ht:ρ.f t= .bool (!b))(hp:b=false)(h:WR md P n ops l Q (up ρ t (.bool true)) w):WR md P n ops l Q ρ w:=zjV t ht (fun _=>h) (fun h'=>by rw[hp]at h';cases h')
theorem znO{ops:Array Oper}{l:List Oper}(t:Nat){b:Bool}(ht:ρ.f t= .bool (!b))(hp:b=true)(h:WR md P n ops l Q (up ρ t (.bool false)) w):WR md P n ops l Q ρ w:=zjV t ht (fun h'=>by rw[hp]at h';cases h') (fun _=>h)
end
structure Kp(M:List Nat)(w w':World):Prop where
 os:w'.os=w.os
 tape:w'.tape=w.tape
 output:w'.output=w.output
 size:w.heap.size≤w'.heap.size
 block:∀ k,k<w.heap.size→k∉M→w'.heap[k]?=w.heap[k]?
namespace Kp
variable {M N:List Nat}{w w1 w2:World}
theorem refl(M:List Nat)(w:World):Kp M w w:=⟨rfl,rfl,rfl,Nat.le_refl _,fun _ _ _=>rfl⟩
theorem trans(h:Kp M w w1)(k:Kp M w1 w2):Kp M w w2:=
 ⟨k.os.trans h.os,k.tape.trans h.tape,k.output.trans h.output,Nat.le_trans h.size k.size,fun i hi hm=>(k.block i (Nat.lt_of_lt_of_le hi h.size) hm).trans (h.block i hi hm)⟩
theorem of_below(h:Below w.heap.size w w1):Kp M w w1:=⟨h.os,h.tape,h.output,h.size,fun k hk _=>h.block k hk⟩
theorem below(h:Kp [] w w1):Below w.heap.size w w1:=⟨h.os,h.tape,h.output,h.size,fun k hk=>h.block k hk ay⟩
theorem weak(h:Kp M w w1)(hs:∀ k,k<w.heap.size→k∈M→k∈N):Kp N w w1:=⟨h.os,h.tape,h.output,h.size,fun k hk hn=>h.block k hk fun hm=>hn (hs k hk hm)⟩
theorem zaZ{g:Nat}(h:Only g w w1):Kp [g] w w1:=⟨h.os,h.tape,h.output,Nat.le_of_eq h.size.symm,fun k _ hm=>h.block k (by simpa using hm)⟩
theorem add(h:Kp M w w1)(k:Kp N w1 w2)(hn:∀ g,g∈N→w.heap.size≤g∨g∈M):Kp M w w2:=
 ⟨k.os.trans h.os,k.tape.trans h.tape,k.output.trans h.output,Nat.le_trans h.size k.size,fun i hi hm=>
  (k.block i (Nat.lt_of_lt_of_le hi h.size) fun hi2=>(hn i hi2).elim (fun h'=>absurd hi (Nat.not_lt.2 h')) hm).trans (h.block i hi hm)⟩
theorem add0(h:Kp M w w1)(k:Below w1.heap.size w1 w2):Kp M w w2:=h.add (N:=[]) (of_below k) ay
theorem add1{g:Nat}(h:Kp M w w1)(k:Only g w1 w2)(hg:w.heap.size≤g∨g∈M):Kp M w w2:=h.add (zaZ k) bg
theorem drew(h:Kp M w w1):Kp M w w1.drew:=⟨h.os,h.tape,h.output,h.size,h.block⟩
end Kp
theorem row.kp{w w':World}{g:Nat}{l:List Value}{t:TypeId}{M:List Nat}(h:row w g l t)(k:Kp M w w')(hg:g∉M):row w' g l t:=(k.block g h.lt hg).trans h
theorem _root_.Go.RowKit.Below.acc{w0 w w':World}(h:Below w0.heap.size w0 w)(k:Below w.heap.size w w'):Below w0.heap.size w0 w':=h.trans (k.mono h.size)
def zb4:List Oper→Nat→Oper
 |[],_=>default
 |o::_,0=>o
 |_::l,i+1=>zb4 l i
theorem zdL{l:List Oper}:∀ {i:Nat},i<l.length→l.toArray[i]?=some (zb4 l i):=by
 induction l with
 |nil=>intro i h;simp at h
 |cons o l ih=>
  intro i h
  cases i with
  |zero=>simp[zb4]
  |succ i=>have:=ih (i:=i) aX;simpa [zb4]using this
def lst(n:Nat):List Nat→Array Bool
 |[]=>Array.replicate n false
 |i::d=>(lst n d).setIfInBounds i true
def zl1(l:List Oper)(done:List Nat)(i:Nat):Bool:=
 Nat.blt i l.length && Nat.blt done.length l.length && Region.noSelect l.toArray && Region.free .any l.toArray (lst l.length done) i && (Region.ready .any l.toArray (lst l.length done)).contains i
def zfm(l:List Oper)(done:List Nat)(is:List Nat):Bool:=
 Nat.blt done.length l.length && (Region.ready .any l.toArray (lst l.length done) == is) && is.all fun i=>Nat.blt i l.length
def ziZ(l:List Oper)(done:List Nat):Bool:=Region.ready .any l.toArray (lst l.length done) == []
def OpG(P:Program)(l:List Oper)(i:Nat)(K:Env→World→Prop)(Kp:List PanicEntry→World→Prop)(ρ:Env)(w:World):Prop:=
 if Region.wanted (zb4 l i) (yl l.toArray ρ)=true then OpX P (zb4 l i) K Kp ρ w else K (upo ρ (zb4 l i).dst undef) w
def pnQ(Q:Post)(ms:List Dm)(c:List PanicEntry)(w:World):Prop:=∀ f,Q (.panic c) ⟨f,ms⟩ w
def znP(l:List Oper):Nat→Nat→Nat→Bool
 |0,_,_=>false
 |f+1,k,i=>(zb4 l k).after.any fun e=>Region.binds .any e && (Nat.beq e.on i || znP l f e.on i)
def waits(l:List Oper)(k i:Nat):Bool:=znP l 6 k i
def late(l:List Oper)(j:Nat):Bool:=(List.range l.length).all fun k=>Nat.blt k j || (List.range k).all fun i=>waits l k i
def znQ(l:List Oper)(done:List Nat):Bool:=(List.range l.length).all fun j=>!((lst l.length done).getD j false) || (zb4 l j).after.all fun e=>!(Region.binds .any e) || (lst l.length done).getD e.on false
def zfn(l:List Oper)(done:List Nat):Prop:=∀ j,(lst l.length done).getD j false=true→∀ e∈(zb4 l j).after,Region.binds .any e=true→(lst l.length done).getD e.on false=true
theorem zl2(n:Nat):∀ d,(lst n d).size=n
 |[]=>by simp[lst]
 |i::d=>by rw[lst,Array.size_setIfInBounds];exact zl2 n d
theorem zjW{l:List Oper}{done:List Nat}(h:znQ l done=true):zfn l done:=by
 intro j hj e he hb
 have hjl:j<l.length:=by
  rcases Nat.lt_or_ge j l.length with h'|h'
  ·exact h'
  ·have hs:=zl2 l.length done
   rw[Array.getD_eq_getD_getElem?,Array.getElem?_eq_none ae]at hj
   cases hj
 have h1:=List.all_eq_true.1 h j (List.mem_range.2 hjl)
 rw[hj,Bool.not_true,Bool.false_or]at h1
 have h2:=Array.all_eq_true'.1 h1 e he
 rw[hb,Bool.not_true,Bool.false_or]at h2
 exact h2
def zfo(l:List Oper)(done:List Nat)(i:Nat):Bool:=zl1 l done i && znQ l done
def AnyS(P:Program)(l:List Oper)(S:World→Prop)(Q:Post):Nat→List Nat→Env→World→Prop
 |0,done,ρ,w=>Region.ready .any l.toArray (lst l.length done)=[]∧Q .normal ρ w
 |f+1,done,ρ,w=>(Region.ready .any l.toArray (lst l.length done)=[]→Q .normal ρ w)∧
  ∀ i∈Region.ready .any l.toArray (lst l.length done),OpG P l i (fun ρ' w'=>(late l i=false→S w')∧AnyS P l S Q f (i::done) ρ' w') (pnQ Q ρ.ms) ρ w
def WA(_md:Option Nat→Prop)(P:Program)(n:Nat)(l:List Oper)(S:World→Prop)(Q:Post)(done:List Nat)(ρ:Env)(w:World):Prop:=
 l.all (zh1 n)=true→S w→AnyS P l S Q (l.length - done.length) done ρ w
def WO(_md:Option Nat→Prop)(P:Program)(n:Nat)(l:List Oper)(S:World→Prop)(Q:Post)(done:List Nat)(i:Nat)(ρ:Env)(w:World):Prop:=
 l.all (zh1 n)=true→S w→OpG P l i (fun ρ' w'=>(late l i=false→S w')∧AnyS P l S Q (l.length - (i::done).length) (i::done) ρ' w') (pnQ Q ρ.ms) ρ w
section
variable {md:Option Nat→Prop}{P:Program}{n:Nat}{Q:Post}{ρ:Env}{w:World}{l:List Oper}{S:World→Prop}{done:List Nat}
theorem OpG.mono{i:Nat}{K K':Env→World→Prop}{Kp:List PanicEntry→World→Prop}(h:OpG P l i K Kp ρ w)(hk:∀ ρ w,K ρ w→K' ρ w):OpG P l i K' Kp ρ w:=by
 unfold OpG at*
 split
 ·rename_i hw;rw[if_pos hw]at h;exact h.mono hk fun _ _ h=>h
 ·rename_i hw;rw[if_neg hw]at h;exact hk _ _ h
theorem znR{a:Act}(ha:Ag n a ρ)(o:Oper)(ops:Array Oper):Region.wanted o (yielded ops a.tmps)=Region.wanted o (yl ops ρ):=by
 have:=ha.yl ops
 simp only[Region.wanted]
 cases o.guard with
 |none=>rfl
 |some p=>simp only;rw[this]
theorem zpV(hl:l.all (zh1 n)=true){i:Nat}(hi:i<l.length):zh1 n (zb4 l i)=true:=by
 have h1:=zdL hi
 have h2:zb4 l i∈l:=by
  have:l[i]?=some (zb4 l i):=by simpa using h1
  exact List.mem_of_getElem? this
 exact List.all_eq_true.1 hl _ h2
theorem OpG.wpOpIn{i:Nat}{K:Env→World→Prop}{Kp:List PanicEntry→World→Prop}(hl:l.all (zh1 n)=true)(hi:i<l.length)(h:OpG P l i K Kp ρ w){rd:Option Nat}{a:Act}(ha:Ag n a ρ)(Q':Exit→Act→World→Prop)(hp:∀ c w',Kp c w'→Q' (.panic c) a w')(hdk:zh1 n (zb4 l i)=true):
  wpOpIn (fr rd) 9 P l.toArray Q' i (fun a' w'=>∃ ρ',Ag n a' ρ'∧K ρ' w') a w:=by
 refine wpOpIn_step (zdL hi) fun K' hK'=>?_
 unfold OpG at h
 rw[znR ha]
 split
 ·rename_i hw
  rw[if_pos hw]at h
  exact Oper.wpIn_mono hK' (h.wpIn ha (zh1.lt hdk) _ hp)
 ·rename_i hw
  rw[if_neg hw]at h
  exact⟨fun f _=>zjQ rd f,hK' _ _ ⟨_,ha.put _ (zh1.lt hdk) undef,h⟩⟩
theorem zfp(i:Nat)(d:List Nat):lst l.length (i::d)=(lst l.length d).setIfInBounds i true:=rfl
theorem zfO{i:Nat}{listed:Array Bool}(h:i∈Region.ready .any l.toArray listed):i<l.length:=by
 have:=(mem_ready.1 h).2
 obtain⟨o,ho,_⟩:=this
 have:=(Array.getElem?_eq_some_iff.1 ho).1
 simpa using this
theorem AnyS.wpAnyIn(hl:l.all (zh1 n)=true){rd:Option Nat}:∀ (f:Nat) (done:List Nat) (ρ:Env) (w:World) (a:Act),Ag n a ρ→AnyS P l S Q f done ρ w→wpAnyIn (fr rd) 9 P .any l.toArray (lift n Q) f (lst l.length done) a w
 |0,done,ρ,w,a,ha,h=>⟨h.1,ρ,ha,h.2⟩
 |f+1,done,ρ,w,a,ha,h=>by
  refine⟨fun h0=>⟨ρ,ha,h.1 h0⟩,fun i hi=>?_⟩
  have hlt:=zfO hi
  refine wpOpIn_mono ?_ (OpG.wpOpIn hl hlt (h.2 i hi) ha _ (fun c w' hq=>⟨ρ,ha,hq ρ.f⟩) (zpV hl hlt))
  rintro a' w' ⟨ρ',h1,_,h2⟩
  exact AnyS.wpAnyIn hl f (i::done) ρ' w' a' h1 h2
theorem W_draw{id:Nat}(S:World→Prop)(hm:P.follows .mixedOrders=true)(hS:S w.drew)(h:WA md P n l S Q [] ρ w.drew):W md P n (.region id l.toArray true) Q ρ w:=by
 intro hc rd a _ ha
 have hl:l.all (zh1 n)=true:=by simpa [codeOk]using hc
 refine wpIn_region_any hm ?_
 have:=AnyS.wpAnyIn hl (rd:=rd) _ [] ρ w.drew a ha (h hl hS)
 simpa [lst]using this
theorem zaI(hc:ziZ l done=true)(h:Q .normal ρ w):WA md P n l S Q done ρ w:=by
 intro _ _
 simp only[ziZ,beq_iff_eq]at hc
 cases hf:l.length - done.length with
 |zero=>exact⟨hc,h⟩
 |succ f=>exact⟨fun _=>h,by rw[hc];simp⟩
def YS(P:Program)(l:List Oper)(S:World→Prop)(i:Nat)(v:Value)(ρ:Env):Prop:=
 if Region.wanted (zb4 l i) (yl l.toArray ρ)=true then ∀ w',S w'→(execOp (ev ρ) (zb4 l i)).run P w'= .ok (.value v) w'∨∃ (f:FuncId) (vl:List Value),(execOp (ev ρ) (zb4 l i)).run P w'= .ok (.enter f vl.toArray) w'∧Calls P f vl.toArray w' (Ret fun v' w''=>v'=v∧w'=w'')else v=undef
theorem YS.op{i:Nat}{v:Value}{K:Env→World→Prop}{Kp:List PanicEntry→World→Prop}(h:YS P l S i v ρ)(hS:S w)(hk:K (upo ρ (zb4 l i).dst v) w):OpG P l i K Kp ρ w:=by
 unfold OpG
 unfold YS at h
 split
 ·rename_i hw;rw[if_pos hw]at h;exact OpR.x ((h w hS).elim (fun h=>ziY h hk) fun⟨f,vl,h1,h2⟩=>zlc h1 h2 fun v' w' ⟨e1,e2⟩=>by subst e1;subst e2;exact hk)
 ·rename_i hw;rw[if_neg hw]at h;subst h;exact hk
theorem zeT(ρ:Env){d e:Option Nat}(u v:Value)(h:∀ k,d=some k→e≠some k):upo (upo ρ d u) e v=upo (upo ρ e v) d u:=by
 cases d with
 |none=>rfl
 |some d=>
  cases e with
  |none=>rfl
  |some e=>
   have hne:d≠e:=fun x=>h d rfl (x▸rfl)
   refine Env.ext' (fun i=>?_) rfl
   simp only[upo]
   by_cases h1:i=d
   ·subst h1;rw[zh7 _ _ hne,zez,zez]
   ·by_cases h2:i=e
    ·subst h2;rw[zez,zh7 _ _ h1,zez]
    ·rw[zh7 _ _ h2,zh7 _ _ h1,zh7 _ _ h1,zh7 _ _ h2]
theorem ev_upo{d:Option Nat}{v:Value}{x:Operand}(h:∀ k,d=some k→x≠ .tmp k):ev (upo ρ d v) x=ev ρ x:=by
 cases d with
 |none=>rfl
 |some d=>
  cases x with
  |tmp t=>
   have:t≠d:=fun e=>h d rfl (e▸rfl)
   exact zh7 _ _ this
  |_=>rfl
theorem zl3{ops:Array Oper}(o:Oper)(hs:∀ cs b,o.op≠ .select cs b)(d:Option Nat)(v:Value)(h:∀ k,d=some k→k∉o.looksAt ops):execOp (ev (upo ρ d v)) o=execOp (ev ρ) o:=
 execOp_congr o hs fun x hx=>ev_upo fun k hk hxk=>h k hk (by
  subst hxk
  exact List.mem_append_left _ (List.mem_filterMap.2 ⟨.tmp k,by simpa using hx,rfl⟩))
theorem zil{ops:Array Oper}(o:Oper)(d:Option Nat)(v:Value)(h:∀ k,d=some k→k∉o.looksAt ops):Region.wanted o (yl ops (upo ρ d v))=Region.wanted o (yl ops ρ):=by
 cases d with
 |none=>rfl
 |some d=>
  unfold Region.wanted
  cases hg:o.guard with
  |none=>rfl
  |some gw=>
   obtain⟨g,want⟩:=gw
   have hy:yl ops (upo ρ (some d) v) g=yl ops ρ g:=by
    unfold yl
    cases ht:(ops[g]?).bind (·.dst)with
    |none=>rfl
    |some t=>
     have hne:t≠d:=fun e=>h d rfl (by subst e;simp[Oper.looksAt,hg,ht])
     simp only[Option.bind_some,upo,zh7 _ _ hne]
   simp only[hy]
theorem OpX.put {ops:Array Oper} {o:Oper} {K:Env→World→Prop} {Kp:List PanicEntry→World→Prop} (hs:∀ cs b,o.op≠ .select cs b) {d:Option Nat} {v:Value} (h1:∀ k,d=some k→k∉o.looksAt ops) (h2:∀ k,d=some k→o.dst≠some k)
  (h:OpX P o K Kp (upo ρ d v) w):OpX P o (fun ρ' w'=>ρ'=upo ρ o.dst (ρ'.f (o.dst.getD 0))∧K (upo ρ' d v) w') Kp ρ w:=by
 have key:∀ u,upo ρ o.dst u=upo ρ o.dst ((upo ρ o.dst u).f (o.dst.getD 0)):=by
  intro u
  cases hd:o.dst with
  |none=>rfl
  |some k=>simp[upo,zez]
 refine⟨h.1,?_⟩
 have h:=h.2
 rw[zl3 (ops:=ops) o hs d v h1]at h
 generalize (execOp (Coup.ev ρ) o).run P w=r at*
 cases r with
 |ok x w'=>
  cases x with
  |value u=>exact⟨key u,by rw[zeT ρ u v (fun k hk e=>h2 k e hk)];exact h⟩
  |skip=>exact⟨key undef,by rw[zeT ρ undef v (fun k hk e=>h2 k e hk)];exact h⟩
  |enter f args=>
   refine Calls.mono h fun e w'' h=>?_
   cases e with
   |returned u=>exact⟨key u,by rw[zeT ρ u v (fun k hk e=>h2 k e hk)];exact h⟩
   |panicked c=>exact h
   |outgrown=>exact h
  |round l f tmps x y=>
   refine RoundIn.mono h fun e w'' h=>?_
   cases e with
   |returned u=>exact⟨key u,by rw[zeT ρ u v (fun k hk e=>h2 k e hk)];exact h⟩
   |panicked c=>exact h
   |outgrown=>exact h
  |_=>exact h.elim
 |halt x w'=>
  cases x with
  |panic v=>exact h
  |_=>exact h.elim
theorem OpG.put {i j:Nat} {K:Env→World→Prop} {Kp:List PanicEntry→World→Prop} {v:Value} (hj:j<l.length) (hi:i<l.length) (hap:(zb4 l i).apart l.toArray (zb4 l j)=true) (hsel:Region.noSelect l.toArray=true)
  (hy:YS P l S i v ρ) (h:OpG P l j K Kp (upo ρ (zb4 l i).dst v) w):OpG P l j (fun ρ' w'=>YS P l S i v ρ'∧K (upo ρ' (zb4 l i).dst v) w') Kp ρ w:=by
 obtain⟨h1,h2,h3⟩:=Oper.apart_spec hap
 have hsj:=fun cs b=>Region.noSelect_spec hsel j (zb4 l j) cs b (zdL hj)
 have hsi:=fun cs b=>Region.noSelect_spec hsel i (zb4 l i) cs b (zdL hi)
 have keep:∀ u,YS P l S i v (upo ρ (zb4 l j).dst u):=by
  intro u
  unfold YS at*
  rw[zil _ _ _ h3,zl3 (ops:=l.toArray) _ hsi _ _ h3]
  exact hy
 unfold OpG at*
 rw[zil _ _ _ h1]at h
 split
 ·rename_i hw
  rw[if_pos hw]at h
  refine(OpX.put (ops:=l.toArray) hsj h1 h2 h).mono ?_ fun _ _ h=>h
  rintro ρ' w' ⟨he,hk⟩
  exact⟨by rw[he];exact keep _,hk⟩
 ·rename_i hw
  rw[if_neg hw]at h
  exact⟨keep _,by rw[zeT ρ undef v (fun k hk e=>h2 k e hk)];exact h⟩
theorem zmW{i j:Nat}(done:List Nat):lst l.length (i::j::done)=lst l.length (j::i::done):=by
 by_cases h:i=j
 ·subst h;rfl
 ·simp only[lst];exact Array.setIfInBounds_comm _ _ (Ne.symm h)
theorem AnyS.swap:∀ (f:Nat) (d d':List Nat) (ρ:Env) (w:World),lst l.length d=lst l.length d'→AnyS P l S Q f d ρ w→AnyS P l S Q f d' ρ w
 |0,d,d',ρ,w,e,h=>by rw[AnyS]at h ⊢;rwa [←e]
 |f+1,d,d',ρ,w,e,h=>by
  rw[AnyS]at h ⊢
  rw[←e]
  refine⟨h.1,fun i hi=>(h.2 i hi).mono fun ρ' w' ⟨h1,h2⟩=>⟨h1,AnyS.swap f (i::d) (i::d') ρ' w' (by rw[zfp,zfp,e]) h2⟩⟩
theorem zfn.cons{j:Nat}{done:List Nat}(h:zfn l done)(hj:j∈Region.ready .any l.toArray (lst l.length done)):zfn l (j::done):=by
 intro k hk e he hb
 rw[zfp]at hk ⊢
 by_cases hkj:j=k
 ·subst hkj
  obtain⟨_,o,ho,hall⟩:=mem_ready.1 hj
  have:o=zb4 l j:=by have:=zdL (zfO hj);rw[this]at ho;exact(Option.some.inj ho).symm
  subst this
  exact getD_set_true (hall e he hb)
 ·rw[getD_set_ne false hkj]at hk
  exact getD_set_true (h k hk e he hb)
theorem zhd{done:List Nat}(hcl:zfn l done):∀ {f k i:Nat},znP l f k i=true→(∀ e∈(zb4 l k).after,Region.binds .any e=true→(lst l.length done).getD e.on false=true)→(lst l.length done).getD i false=true
 |f+1,k,i,h,hk=>by
  obtain⟨e,he,h3⟩:=Array.any_eq_true'.1 h
  rw[Bool.and_eq_true]at h3
  have h4:=hk e he h3.1
  rcases Bool.or_eq_true _ _▸h3.2 with h6|h6
  ·rw[Nat.eq_of_beq_eq_true h6]at h4;exact h4
  ·exact zhd hcl h6 (hcl e.on h4)
theorem zmX{i j:Nat}{done:List Nat}(hcl:zfn l done)(hj:j∈Region.ready .any l.toArray (lst l.length done))(hi:i∈Region.ready .any l.toArray (lst l.length done))(hne:j≠i):late l j=false:=by
 have hjl:=zfO hj
 have hil:=zfO hi
 rw[Bool.eq_false_iff]
 intro hl
 have key:∀ a b,a<b→b<l.length→(Nat.blt b j)=false→a∈Region.ready .any l.toArray (lst l.length done)→b∈Region.ready .any l.toArray (lst l.length done)→False:=by
  intro a b hab hb hbj ha hb2
  unfold late at hl
  have h1:=List.all_eq_true.1 hl b (List.mem_range.2 hb)
  rw[hbj,Bool.false_or]at h1
  have h2:=List.all_eq_true.1 h1 a (List.mem_range.2 hab)
  obtain⟨_,ob,hob,hall⟩:=mem_ready.1 hb2
  have:ob=zb4 l b:=by have:=zdL hb;rw[this]at hob;exact(Option.some.inj hob).symm
  subst this
  have h5:=(mem_ready.1 ha).1
  have h6:=zhd hcl h2 hall
  rcases Nat.lt_or_ge a (lst l.length done).size with h'|h'
  ·simp[h']at h5 h6;rw[h5]at h6;cases h6
  ·simp[Array.getElem?_eq_none h']at h6
 rcases Nat.lt_or_ge i j with h|h
 ·exact key i j h hjl (by simp[Nat.blt_eq,Bool.eq_false_iff]) hi hj
 ·exact key j i ae hil (by rw[Bool.eq_false_iff,Ne,Nat.blt_eq];omega) hj hi
theorem AnyS.first{i:Nat}{v:Value}(hi:i<l.length)(hsel:Region.noSelect l.toArray=true):∀ (f:Nat) (done:List Nat) (ρ:Env) (w:World),
  (∀ j oj,l.toArray[j]?=some oj→j≠i→(lst l.length done).getD j true=false→(∀ e∈oj.after,Region.binds .any e=true→e.on≠i)→(zb4 l i).apart l.toArray oj=true)→
  zfn l done→i∈Region.ready .any l.toArray (lst l.length done)→YS P l S i v ρ→S w→AnyS P l S Q f (i::done) (upo ρ (zb4 l i).dst v) w→AnyS P l S Q (f+1) done ρ w:=by
 intro f
 induction f with
 |zero=>
  intro done ρ w _ _ hr hy hS H
  refine⟨fun h=>(by rw[h]at hr;cases hr),fun j hj=>?_⟩
  by_cases hji:j=i
  ·subst hji;exact hy.op hS ⟨fun _=>hS,H⟩
  ·have:=ready_mono hj hji
   rw[←zfp,H.1]at this
   cases this
 |succ f ih=>
  intro done ρ w hfree hcl hr hy hS H
  refine⟨fun h=>(by rw[h]at hr;cases hr),fun j hj=>?_⟩
  by_cases hji:j=i
  ·subst hji;exact hy.op hS ⟨fun _=>hS,H⟩
  ·have hjl:=zfO hj
   have hrm:=ready_mono hj hji
   rw[←zfp]at hrm
   have h1:=H.2 j hrm
   obtain⟨hjun,oj,hoj,hall⟩:=mem_ready.1 hj
   have hoe:oj=zb4 l j:=by have:=zdL hjl;rw[this]at hoj;exact(Option.some.inj hoj).symm
   have hnot:∀ e∈oj.after,Region.binds .any e=true→e.on≠i:=fun e he hb heq=>by
    have h1:=hall e he hb
    have h0:=(mem_ready.1 hr).1
    rw[heq]at h1
    rcases Nat.lt_or_ge i (lst l.length done).size with h'|h'
    ·simp[h']at h0 h1;rw[h0]at h1;cases h1
    ·simp[Array.getElem?_eq_none h']at h1
   have hap:=hfree j oj hoj hji hjun hnot
   rw[hoe]at hap
   rw[upo_ms]at h1
   refine(OpG.put hjl hi hap hsel hy h1).mono ?_
   rintro ρ' w' ⟨h3,h4,h5⟩
   have h4':=h4 (zmX hcl hj hr hji)
   refine⟨h4,ih (j::done) ρ' w' ?_ (hcl.cons hj) ?_ h3 h4' (AnyS.swap _ _ _ _ _ (zmW done) h5)⟩
   ·intro k ok hk hki hun hno
    refine hfree k ok hk hki ?_ hno
    rw[zfp]at hun
    by_cases hjk:j=k
    ·subst hjk;exact hjun
    ·rw[getD_set_ne true hjk]at hun;exact hun
   ·rw[zfp];exact ready_mono hr (Ne.symm hji)
theorem zi0(i:Nat)(hc:zfo l done i=true){v:Value}(hy:YS P l S i v ρ)(h:WA md P n l S Q (i::done) (upo ρ (zb4 l i).dst v) w):WA md P n l S Q done ρ w:=by
 intro hl hS
 simp only[zfo,zl1,Bool.and_eq_true]at hc
 obtain⟨⟨⟨⟨⟨h1,h2⟩,h3⟩,h4⟩,h5⟩,h6⟩:=hc
 have hi:i<l.length:=by simpa using h1
 have hd:done.length<l.length:=by simpa using h2
 obtain⟨f,hf⟩:∃ f,l.length - done.length=f+1:=⟨l.length - done.length - 1,ae⟩
 have hr:=h hl hS
 rw[show l.length - (i::done).length=f by simp;omega]at hr
 rw[hf]
 exact AnyS.first hi h3 f done ρ w (Region.free_spec (zdL hi) h4) (zjW h6) (by simpa using h5) hy hS hr
theorem znS (i:Nat) (hc:zfo l done i=true) {v:Value} (hw:Region.wanted (zb4 l i) (yl l.toArray ρ)=true) (hv:∀ w',S w'→(execOp (ev ρ) (zb4 l i)).run P w'= .ok (.value v) w')
 (h:WA md P n l S Q (i::done) (upo ρ (zb4 l i).dst v) w):WA md P n l S Q done ρ w:=zi0 i hc (by unfold YS;rw[if_pos hw];exact fun w' hS=>.inl (hv w' hS)) h
theorem zdS (i:Nat) (hc:zfo l done i=true) {v:Value} {f:FuncId} {vl:List Value} (hw:Region.wanted (zb4 l i) (yl l.toArray ρ)=true) (hr:∀ w',(execOp (ev ρ) (zb4 l i)).run P w'= .ok (.enter f vl.toArray) w')
  (hv:∀ w',S w'→Calls P f vl.toArray w' (Ret fun v' w''=>v'=v∧w'=w'')) (h:WA md P n l S Q (i::done) (upo ρ (zb4 l i).dst v) w):WA md P n l S Q done ρ w:=
 zi0 i hc (by unfold YS;rw[if_pos hw];exact fun w' hS=>.inr ⟨f,vl,hr w',hv w' hS⟩) h
theorem zaL (i:Nat) (hc:zfo l done i=true) (hw:Region.wanted (zb4 l i) (yl l.toArray ρ)=false)
 (h:WA md P n l S Q (i::done) (upo ρ (zb4 l i).dst undef) w):WA md P n l S Q done ρ w:=zi0 i hc (by unfold YS;rw[if_neg (by simp[hw])]) h
theorem zhe{is:List Nat}(hc:zfm l done is=true)(hne:is≠[])(h:∀ i∈is,WO md P n l S Q done i ρ w):WA md P n l S Q done ρ w:=by
 intro hl hS
 simp only[zfm,Bool.and_eq_true,beq_iff_eq]at hc
 obtain⟨⟨h1,h2⟩,h3⟩:=hc
 have hd:done.length<l.length:=by simpa using h1
 obtain⟨f,hf⟩:∃ f,l.length - done.length=f+1:=⟨l.length - done.length - 1,ae⟩
 rw[hf]
 refine⟨fun h0=>absurd (h2▸h0) hne,fun i hi=>?_⟩
 rw[h2]at hi
 have:=h i hi hl hS
 rw[show l.length - (i::done).length=f by simp;omega]at this
 exact this
theorem zaA(i:Nat)(hc:zfm l done [i]=true)(h:WO md P n l S Q done i ρ w):WA md P n l S Q done ρ w:=
 zhe hc ay aX
theorem zcA(i j:Nat)(hc:zfm l done [i,j]=true)(h1:WO md P n l S Q done i ρ w)(h2:WO md P n l S Q done j ρ w):WA md P n l S Q done ρ w:=
 zhe hc ay (by intro x hk;simp at hk;exact hk.elim (fun e=>e▸h1) (fun e=>e▸h2))
theorem zpW(i j k:Nat)(hc:zfm l done [i,j,k]=true)(h1:WO md P n l S Q done i ρ w)(h2:WO md P n l S Q done j ρ w)(h3:WO md P n l S Q done k ρ w):WA md P n l S Q done ρ w:=
 zhe hc ay (by intro x hk;simp at hk;exact hk.elim (fun e=>e▸h1) (fun e=>e.elim (fun e=>e▸h2) (fun e=>e▸h3)))
theorem WO_op{i:Nat}(hi:Nat.blt i l.length=true)(hw:Region.wanted (zb4 l i) (yl l.toArray ρ)=true)(h:OpR P (zb4 l i) (fun ρ' w'=>S w'∧WA md P n l S Q (i::done) ρ' w') ρ w):WO md P n l S Q done i ρ w:=by
 intro hl hS
 unfold OpG
 rw[if_pos hw]
 exact(h.mono fun ρ' w' ⟨h1,h2⟩=>⟨fun _=>h1,h2 hl h1⟩).x
theorem WO_opX{i:Nat}(hi:Nat.blt i l.length=true)(hw:Region.wanted (zb4 l i) (yl l.toArray ρ)=true)(h:OpX P (zb4 l i) (fun ρ' w'=>S w'∧WA md P n l S Q (i::done) ρ' w') (pnQ Q ρ.ms) ρ w):WO md P n l S Q done i ρ w:=by
 intro hl hS
 unfold OpG
 rw[if_pos hw]
 exact h.mono (fun ρ' w' ⟨h1,h2⟩=>⟨fun _=>h1,h2 hl h1⟩) fun _ _ h=>h
def WAL(_md:Option Nat→Prop)(P:Program)(n:Nat)(l:List Oper)(S:World→Prop)(Q:Post)(done:List Nat)(ρ:Env)(w:World):Prop:=
 l.all (zh1 n)=true→AnyS P l S Q (l.length - done.length) done ρ w
def zhf(l:List Oper)(done:List Nat)(i:Nat):Bool:=zfm l done [i] && late l i
theorem znT{i:Nat}(hc:zhf l done i=true)(hw:Region.wanted (zb4 l i) (yl l.toArray ρ)=true)(h:OpR P (zb4 l i) (fun ρ' w'=>WAL md P n l S Q (i::done) ρ' w') ρ w):WAL md P n l S Q done ρ w:=by
 intro hl
 simp only[zhf,zfm,Bool.and_eq_true,beq_iff_eq]at hc
 obtain⟨⟨⟨h1,h2⟩,_⟩,h4⟩:=hc
 have hd:done.length<l.length:=by simpa using h1
 obtain⟨f,hf⟩:∃ f,l.length - done.length=f+1:=⟨l.length - done.length - 1,ae⟩
 rw[hf]
 refine⟨fun h0=>(by rw[h2]at h0;cases h0),fun k hk=>?_⟩
 rw[h2,List.mem_singleton]at hk
 subst hk
 unfold OpG
 rw[if_pos hw]
 refine(h.mono fun ρ' w' h3=>⟨fun hx=>(by rw[h4]at hx;cases hx),?_⟩).x
 have:=h3 hl
 rwa [show l.length - (k::done).length=f by simp;omega]at this
theorem zld(h:WAL md P n l S Q done ρ w):WA md P n l S Q done ρ w:=fun hl _=>h hl
theorem zgV(hc:ziZ l done=true)(h:Q .normal ρ w):WAL md P n l S Q done ρ w:=by
 intro _
 simp only[ziZ,beq_iff_eq]at hc
 cases hf:l.length - done.length with
 |zero=>exact⟨hc,h⟩
 |succ f=>exact⟨fun _=>h,by rw[hc];simp⟩
theorem zfP {i:Nat} (hi:Nat.blt i l.length=true) (hw:Region.wanted (zb4 l i) (yl l.toArray ρ)=true) {v:Value} {w':World} (hr:(execOp (ev ρ) (zb4 l i)).run P w= .ok (.value v) w')
 (hS:S w') (h:WA md P n l S Q (i::done) (upo ρ (zb4 l i).dst v) w'):WO md P n l S Q done i ρ w:=WO_op hi hw (ziY hr ⟨hS,h⟩)
theorem WO_skp {i:Nat} (hi:Nat.blt i l.length=true) (hw:Region.wanted (zb4 l i) (yl l.toArray ρ)=true) {w':World} (hr:(execOp (ev ρ) (zb4 l i)).run P w= .ok .skip w')
 (hS:S w') (h:WA md P n l S Q (i::done) (upo ρ (zb4 l i).dst undef) w'):WO md P n l S Q done i ρ w:=WO_op hi hw (zlb hr ⟨hS,h⟩)
theorem zaU {i:Nat} (hi:Nat.blt i l.length=true) (hw:Region.wanted (zb4 l i) (yl l.toArray ρ)=true) {f:FuncId} {vl:List Value} {R:Value→World→Prop} (hr:(execOp (ev ρ) (zb4 l i)).run P w= .ok (.enter f vl.toArray) w)
 (hc:Calls P f vl.toArray w (Ret R)) (h:∀ v w',R v w'→S w'∧WA md P n l S Q (i::done) (upo ρ (zb4 l i).dst v) w'):WO md P n l S Q done i ρ w:=WO_op hi hw (zlc hr hc h)
theorem zeB(t:Nat){p:Prop}[Decidable p](ht:ρ.f t= .bool (decide p))(h1:p→WA md P n l S Q done (up ρ t (.bool true)) w)(h2:¬p→WA md P n l S Q done (up ρ t (.bool false)) w):WA md P n l S Q done ρ w:=by
 by_cases hp:p
 ·have:=h1 hp
  rwa [show Value.bool true=ρ.f t by rw[ht];simp[hp],zdu]at this
 ·have:=h2 hp
  rwa [show Value.bool false=ρ.f t by rw[ht];simp[hp],zdu]at this
theorem zpX(t:Nat){b:Bool}(ht:ρ.f t= .bool b)(h1:b=true→WA md P n l S Q done (up ρ t (.bool true)) w)(h2:b=false→WA md P n l S Q done (up ρ t (.bool false)) w):WA md P n l S Q done ρ w:=by
 cases b with
 |true=>have:=h1 rfl;rwa [←ht,zdu]at this
 |false=>have:=h2 rfl;rwa [←ht,zdu]at this
theorem zle(t:Nat){p:Prop}[Decidable p](ht:ρ.f t= .bool (decide p))(hp:p)(h:WA md P n l S Q done (up ρ t (.bool true)) w):WA md P n l S Q done ρ w:=zeB t ht (fun _=>h) (fun h'=>absurd hp h')
theorem zi1(t:Nat){p:Prop}[Decidable p](ht:ρ.f t= .bool (decide p))(hp:¬p)(h:WA md P n l S Q done (up ρ t (.bool false)) w):WA md P n l S Q done ρ w:=zeB t ht (fun h'=>absurd h' hp) (fun _=>h)
theorem WA_fb(t:Nat){b:Bool}(ht:ρ.f t= .bool b)(hp:b=false)(h:WA md P n l S Q done (up ρ t (.bool false)) w):WA md P n l S Q done ρ w:=zpX t ht (fun h'=>by rw[hp]at h';cases h') (fun _=>h)
end
def zcC(P:Program)(f:FuncId):Bool:=match P.funcs[f]? with|some fn=>!(fn.name == "runtime.NumGoroutine") && fn.body.isSome|none=>false
def zco(P:Program)(t:TypeId)(k:Nat):Bool:=match P.info? t with|some i=>Nat.beq i.size k|none=>false
def zdT(P:Program)(t e k:Nat):Bool:=(match P.underlying t with|some (.slice e')=>Nat.beq e' e|_=>false) && zco P e k
def arrayOf(P:Program)(t m e k:Nat):Bool:=(match P.underlying t with|some (.array m' e')=>Nat.beq e' e && Nat.beq m' m|_=>false) && zco P e k
def zhg(P:Program)(t:TypeId):Bool:=(P.underlying t).any (·.isRow)
def zhh(P:Program)(t:TypeId):Bool:=match P.underlying t with|some d=>!d.isRow|none=>false
def intT(P:Program)(t:TypeId)(k:IntKind):Bool:=match P.underlying t with|some (.int k')=>decide (k'=k)|_=>false
def zlf(P:Program)(t i off:Nat):Bool:=match P.underlying t with|some (.struct fs)=>(match fs[i]? with|some f=>Nat.beq f.offset off && (match P.info? f.type with|some ii=>Nat.blt 0 ii.size|none=>false)|none=>false)|_=>false
def fieldT(P:Program)(t i off ft:Nat):Bool:=match P.underlying t with|some (.struct fs)=>(match fs[i]? with|some f=>Nat.beq f.offset off && Nat.beq f.type ft|none=>false)|_=>false
section
variable {P:Program}{ρ:Env}{w:World}{d:Option Nat}{ty:TypeId}{pos:String}{af:Array Edge}{gd:Option (Nat × Bool)}
theorem zcp{t k:Nat}(h:zco P t k=true):∃ i,P.info? t=some i∧i.size=k:=by
 unfold zco at h
 cases hi:P.info? t with
 |none=>simp[hi]at h
 |some i=>rw[hi]at h;exact⟨i,rfl,Nat.eq_of_beq_eq_true h⟩
theorem zeU{t k:Nat}(h:zco P t k=true):(P.info? t).map (·.size)=some k:=by
 obtain⟨i,h1,h2⟩:=zcp h;simp[h1,h2]
theorem zed{t e k:Nat}(h:zdT P t e k=true):P.underlying t=some (.slice e)∧zco P e k=true:=by
 unfold zdT at h
 simp only[Bool.and_eq_true]at h
 refine⟨?_,h.2⟩
 have:=h.1
 split at this
 ·rename_i e' hu;rw[hu,Nat.eq_of_beq_eq_true this]
 ·cases this
theorem zee{t m e k:Nat}(h:arrayOf P t m e k=true):P.underlying t=some (.array m e)∧zco P e k=true:=by
 unfold arrayOf at h
 simp only[Bool.and_eq_true]at h
 refine⟨?_,h.2⟩
 have:=h.1
 split at this
 ·rename_i m' e' hu
  simp only[Bool.and_eq_true]at this
  rw[hu,Nat.eq_of_beq_eq_true this.1,Nat.eq_of_beq_eq_true this.2]
 ·cases this
theorem zmY{t:Nat}(h:zhh P t=true)(w:World):(isAgg t).run P w= .ok false w:=by
 unfold zhh at h
 cases hu:P.underlying t with
 |none=>simp[hu]at h
 |some dd=>
  rw[hu]at h
  simp only[isAgg,Sem.run_bind,run_underlying hu,Result.andThen_ok]
  cases dd<;>first |rfl|(simp[TypeDesc.isRow]at h)
theorem zab{x:Operand}:(execOp (ev ρ) ⟨d, .move x,ty,pos,af,gd⟩).run P w= .ok (.value (ev ρ x)) w:=rfl
theorem zac{x:Operand}:(execOp (ev ρ) ⟨d, .assign x,ty,pos,af,gd⟩).run P w= .ok (.value (ev ρ x)) w:=rfl
theorem znU{c a b:Operand}{t:Bool}(h:ev ρ c= .bool t):(execOp (ev ρ) ⟨d, .pick c a b,ty,pos,af,gd⟩).run P w= .ok (.value (if t then ev ρ a else ev ρ b)) w:=by
 simp[execOp,h,asBool,Result.andThen]
theorem zaC{c a b:Operand}(h:ev ρ c= .bool true):(execOp (ev ρ) ⟨d, .pick c a b,ty,pos,af,gd⟩).run P w= .ok (.value (ev ρ a)) w:=by rw[znU h];rfl
theorem zaE{c a b:Operand}(h:ev ρ c= .bool false):(execOp (ev ρ) ⟨d, .pick c a b,ty,pos,af,gd⟩).run P w= .ok (.value (ev ρ b)) w:=by rw[znU h];rfl
theorem w64{c:Int}(h:-9223372036854775808≤c∧c≤9223372036854775807):IntKind.i64.wrap c=c:=by rw[IntKind.wrap_i64];omega
theorem wu64{c:Int}(h:0≤c∧c≤18446744073709551615):IntKind.u64.wrap c=c:=by rw[IntKind.wrap_u64];omega
theorem zaO{k:IntKind}{t t':TypeId}{x y:Operand}{a b c:Int}(hx:ev ρ x= .int k a)(hy:ev ρ y= .int k b)(hc:k.wrap (a+b)=c):
  (execOp (ev ρ) ⟨d, .binOp .add t x y t',ty,pos,af,gd⟩).run P w= .ok (.value (.int k c)) w:=by
 subst hc;simp[execOp,hx,hy,eqGuard,binOp,Op.intArith,Result.andThen]
theorem zcX{k:IntKind}{t t':TypeId}{x y:Operand}{a b c:Int}(hx:ev ρ x= .int k a)(hy:ev ρ y= .int k b)(hc:k.wrap (a - b)=c):
  (execOp (ev ρ) ⟨d, .binOp .sub t x y t',ty,pos,af,gd⟩).run P w= .ok (.value (.int k c)) w:=by
 subst hc;simp[execOp,hx,hy,eqGuard,binOp,Op.intArith,Result.andThen]
theorem zdv{k:IntKind}{t t':TypeId}{x y:Operand}{a b c:Int}(hx:ev ρ x= .int k a)(hy:ev ρ y= .int k b)(hc:k.wrap (a*b)=c):
  (execOp (ev ρ) ⟨d, .binOp .mul t x y t',ty,pos,af,gd⟩).run P w= .ok (.value (.int k c)) w:=by
 subst hc;simp[execOp,hx,hy,eqGuard,binOp,Op.intArith,Result.andThen]
theorem rn_quo{k:IntKind}{t t':TypeId}{x y:Operand}{a b c:Int}(hx:ev ρ x= .int k a)(hy:ev ρ y= .int k b)(hb:b≠0)(hc:k.wrap (a.tdiv b)=c):
  (execOp (ev ρ) ⟨d, .binOp .quo t x y t',ty,pos,af,gd⟩).run P w= .ok (.value (.int k c)) w:=by
 subst hc;simp[execOp,hx,hy,eqGuard,binOp,Op.intDiv,Result.andThen,hb]
theorem rn_rem{k:IntKind}{t t':TypeId}{x y:Operand}{a b c:Int}(hx:ev ρ x= .int k a)(hy:ev ρ y= .int k b)(hb:b≠0)(hc:a.tmod b=c):
  (execOp (ev ρ) ⟨d, .binOp .rem t x y t',ty,pos,af,gd⟩).run P w= .ok (.value (.int k c)) w:=by
 subst hc;simp[execOp,hx,hy,eqGuard,binOp,Op.intDiv,Result.andThen,hb]
theorem qd{a b:Int}(ha:0≤a):a.tdiv b=a / b:=Int.tdiv_eq_ediv_of_nonneg ha
theorem rm{a b:Int}(ha:0≤a):a.tmod b=a % b:=Int.tmod_eq_emod_of_nonneg ha
theorem zhi{t t':TypeId}{x y:Operand}{a b:Int}(hx:ev ρ x= .int .i64 a)(hy:ev ρ y= .int .i64 b)(ha:0≤a∧a≤9223372036854775807)(hb:0<b):
  (execOp (ev ρ) ⟨d, .binOp .quo t x y t',ty,pos,af,gd⟩).run P w= .ok (.value (.int .i64 (a / b))) w:=by
 refine rn_quo hx hy ae ?_
 rw[qd ha.1,w64]
 have h1:0≤a / b:=Int.ediv_nonneg ha.1 ae
 have h2:a / b≤a:=Int.ediv_le_self _ ha.1
 omega
theorem znV{t t':TypeId}{x y:Operand}{a b:Int}{k:IntKind}(hx:ev ρ x= .int k a)(hy:ev ρ y= .int k b)(ha:0≤a)(hb:0<b):
 (execOp (ev ρ) ⟨d, .binOp .rem t x y t',ty,pos,af,gd⟩).run P w= .ok (.value (.int k (a % b))) w:=rn_rem hx hy ae (rm ha)
theorem zl4{k k':IntKind}{t t':TypeId}{x y:Operand}{a b c:Int}(hx:ev ρ x= .int k a)(hy:ev ρ y= .int k' b)(hb:0≤b)(hc:k.wrap (a*2 ^ (min b.toNat k.bits))=c):
  (execOp (ev ρ) ⟨d, .binOp .shl t x y t',ty,pos,af,gd⟩).run P w= .ok (.value (.int k c)) w:=by
 subst hc;simp[execOp,hx,hy,eqGuard,binOp,Op.shift,Result.andThen,Int.not_lt.2 hb]
theorem zfb{k k':IntKind}{t t':TypeId}{x y:Operand}{a b c:Int}(hx:ev ρ x= .int k a)(hy:ev ρ y= .int k' b)(hb:0≤b)(hc:a.fdiv (2 ^ (min b.toNat k.bits))=c):
  (execOp (ev ρ) ⟨d, .binOp .shr t x y t',ty,pos,af,gd⟩).run P w= .ok (.value (.int k c)) w:=by
 subst hc;simp[execOp,hx,hy,eqGuard,binOp,Op.shift,Result.andThen,Int.not_lt.2 hb]
theorem zpY{k:IntKind}{t t':TypeId}{x y:Operand}{a b c:Int}(hx:ev ρ x= .int k a)(hy:ev ρ y= .int k b)(hc:k.wrap ((BitVec.ofInt k.bits a |||BitVec.ofInt k.bits b).toNat:Int)=c):
  (execOp (ev ρ) ⟨d, .binOp .or t x y t',ty,pos,af,gd⟩).run P w= .ok (.value (.int k c)) w:=by
 subst hc;simp[execOp,hx,hy,eqGuard,binOp,Op.intBits,Result.andThen]
theorem zaY{k:IntKind}{t t':TypeId}{x y:Operand}{a b:Int}(hx:ev ρ x= .int k a)(hy:ev ρ y= .int k b):
  (execOp (ev ρ) ⟨d, .binOp .lss t x y t',ty,pos,af,gd⟩).run P w= .ok (.value (.bool (decide (a<b)))) w:=by
 simp[execOp,hx,hy,eqGuard,binOp,Op.intCmp,Result.andThen]
theorem zhj{k:IntKind}{t t':TypeId}{x y:Operand}{a b:Int}(hx:ev ρ x= .int k a)(hy:ev ρ y= .int k b):
  (execOp (ev ρ) ⟨d, .binOp .leq t x y t',ty,pos,af,gd⟩).run P w= .ok (.value (.bool (decide (a≤b)))) w:=by
 simp[execOp,hx,hy,eqGuard,binOp,Op.intCmp,Result.andThen]
theorem zbA{k:IntKind}{t t':TypeId}{x y:Operand}{a b:Int}(hx:ev ρ x= .int k a)(hy:ev ρ y= .int k b):
  (execOp (ev ρ) ⟨d, .binOp .gtr t x y t',ty,pos,af,gd⟩).run P w= .ok (.value (.bool (decide (b<a)))) w:=by
 simp[execOp,hx,hy,eqGuard,binOp,Op.intCmp,Result.andThen]
theorem zcH{k:IntKind}{t t':TypeId}{x y:Operand}{a b:Int}(hx:ev ρ x= .int k a)(hy:ev ρ y= .int k b):
  (execOp (ev ρ) ⟨d, .binOp .geq t x y t',ty,pos,af,gd⟩).run P w= .ok (.value (.bool (decide (b≤a)))) w:=by
 simp[execOp,hx,hy,eqGuard,binOp,Op.intCmp,Result.andThen]
theorem za5{k:IntKind}{t t':TypeId}{x y:Operand}{a b:Int}(hx:ev ρ x= .int k a)(hy:ev ρ y= .int k b):
  (execOp (ev ρ) ⟨d, .binOp .eql t x y t',ty,pos,af,gd⟩).run P w= .ok (.value (.bool (decide (a=b)))) w:=by
 have:(a == b)=decide (a=b):=rfl
 simp[execOp,hx,hy,eqGuard,binOp,Op.intCmp,Result.andThen,this]
theorem zaX{k:IntKind}{t t':TypeId}{x y:Operand}{a b:Int}(hx:ev ρ x= .int k a)(hy:ev ρ y= .int k b):
  (execOp (ev ρ) ⟨d, .binOp .neq t x y t',ty,pos,af,gd⟩).run P w= .ok (.value (.bool (decide (a≠b)))) w:=by
 have:(a != b)=decide (a≠b):=by by_cases h:a=b<;>simp[bne,h]
 simp only[execOp,hx,hy,eqGuard,binOp,Op.intCmp,this]
 simp[Result.andThen]
theorem zbK{t:TypeId}{x:Operand}{b:Bool}(hx:ev ρ x= .bool b):(execOp (ev ρ) ⟨d, .unOp .not t x,ty,pos,af,gd⟩).run P w= .ok (.value (.bool (!b))) w:=by
 simp[execOp,hx,Op.unary,Result.andThen]
theorem zbM{s t:TypeId}{x:Operand}{k0 k:IntKind}{a c:Int}(hs:(P.underlying s).isSome=true)(hk:intT P t k=true)(hx:ev ρ x= .int k0 a)(hc:k.wrap a=c):
  (execOp (ev ρ) ⟨d, .convert s t x,ty,pos,af,gd⟩).run P w= .ok (.value (.int k c)) w:=by
 subst hc
 unfold intT at hk
 cases hu:P.underlying t with
 |none=>simp[hu]at hk
 |some dd=>
  rw[hu]at hk
  cases dd<;>simp at hk
  subst hk
  obtain⟨ds,hds⟩:=Option.isSome_iff_exists.1 hs
  simp only[execOp,hx,convert,Sem.run_bind,run_underlying hds,run_underlying hu,Result.andThen_ok]
  cases ds<;>simp[Conv.intToInt,Result.andThen]
theorem zai{x:Operand}{i:Nat}{vs:List Value}(hx:ev ρ x= .tuple vs.toArray){v:Value}(hv:vs[i]?=some v):(execOp (ev ρ) ⟨d, .extract x i,ty,pos,af,gd⟩).run P w= .ok (.value v) w:=by
 simp[execOp,hx,Instr.extract,hv,Result.andThen]
theorem zbm{fn:Fn}{fs cs:List Operand}:(execOp (ev ρ) ⟨d, .makeFunc fn fs.toArray cs.toArray,ty,pos,af,gd⟩).run P w= .ok (.value (.func fn (fs.map (ev ρ)).toArray (cs.map (ev ρ)).toArray)) w:=by
 simp[execOp,Instr.makeFunc,Result.andThen]
theorem zbe{t e sz:Nat}{x i:Operand}{g off len cap:Nat}{k:IntKind}{a:Int}(ht:zdT P t e sz=true)(hx:ev ρ x= .slice (some ⟨g,off,none⟩) len cap)(hi:ev ρ i= .int k a)(j:Nat)(hj:a=(j:Int))(hlt:j<len):
  (execOp (ev ρ) ⟨d, .indexAddr t x i,ty,pos,af,gd⟩).run P w= .ok (.value (.pointer (some ⟨g,off+j*sz,none⟩))) w:=by
 obtain⟨hu,hs⟩:=zed ht
 obtain⟨ie,h1,h2⟩:=zcp hs
 subst hj
 have:¬((len:Int)≤1∧False):=by simp
 simp[execOp,hx,hi,Instr.indexAt,asIntOf,run_underlying hu,Go.sizeOf,typeInfo,h1,h2,hlt,Addr.add_lit,Result.andThen]
theorem zmZ{t m e sz:Nat}{x i:Operand}{g off:Nat}{k:IntKind}{a:Int}(ht:arrayOf P t m e sz=true)(hx:ev ρ x= .pointer (some ⟨g,off,none⟩))(hi:ev ρ i= .int k a)(j:Nat)(hj:a=(j:Int))(hlt:j<m):
  (execOp (ev ρ) ⟨d, .indexAddr t x i,ty,pos,af,gd⟩).run P w= .ok (.value (.pointer (some ⟨g,off+j*sz,none⟩))) w:=by
 obtain⟨hu,hs⟩:=zee ht
 obtain⟨ie,h1,h2⟩:=zcp hs
 subst hj
 simp[execOp,hx,hi,Instr.indexAt,Instr.sureAddr,asIntOf,run_underlying hu,Go.sizeOf,typeInfo,h1,h2,hlt,Addr.add_lit,Result.andThen]
theorem zjX{t i off:Nat}{x:Operand}{g o:Nat}(ht:zlf P t i off=true)(hx:ev ρ x= .pointer (some ⟨g,o,none⟩)):
  (execOp (ev ρ) ⟨d, .fieldAddr t x i,ty,pos,af,gd⟩).run P w= .ok (.value (.pointer (some ⟨g,o+off,none⟩))) w:=by
 unfold zlf at ht
 cases hu:P.underlying t with
 |none=>simp[hu]at ht
 |some dd=>
  rw[hu]at ht
  cases dd<;>try (simp at ht;done)
  rename_i fs
  simp only at ht
  cases hf:fs[i]? with
  |none=>simp[hf]at ht
  |some f=>
   rw[hf]at ht
   simp only[Bool.and_eq_true]at ht
   have ho:=Nat.eq_of_beq_eq_true ht.1
   have hs:=ht.2
   cases hi:P.info? f.type with
   |none=>simp[hi]at hs
   |some ii=>
    rw[hi]at hs
    have hz:ii.size≠0:=by intro e;simp[e]at hs
    subst ho
    simp[execOp,hx,Instr.fieldAt,Instr.sureAddr,fieldPlace,run_underlying hu,hf,Go.sizeOf,typeInfo,hi,hz,Addr.add_lit,Result.andThen]
def ob(ρ:Env)(o:Option Operand)(dflt v:Nat):Prop:=match o with|none=>v=dflt|some x=>∃ k a,ev ρ x= .int k a∧a=(v:Int)
theorem zc8 {t e sz:Nat} {x:Operand} {lo hi mx:Option Operand} {p:Option Addr} {len cap:Nat} (l h m:Nat) (ht:zdT P t e sz=true) (hx:ev ρ x= .slice p len cap)
  (hl:ob ρ lo 0 l) (hh:ob ρ hi len h) (hm:ob ρ mx cap m) (hmh:mx.isSome=true→hi.isSome=true) (h1:l≤h) (h2:h≤m) (h3:m≤cap):
  (execOp (ev ρ) ⟨d, .slice t x lo hi mx,ty,pos,af,gd⟩).run P w= .ok (.value (.slice (if m=l then p else p.map (·.add (l*sz))) (h - l) (m - l))) w:=by
 obtain⟨hu,hs⟩:=zed ht
 obtain⟨ie,h4,h5⟩:=zcp hs
 have e1:(h:Int)≤m:=by omega
 have e2:(l:Int)≤h:=by omega
 have e3:(m:Int)≤cap:=by omega
 cases mx with
 |none=>
  simp only[ob]at hm
  subst hm
  cases hi with
  |none=>
   simp only[ob]at hh
   subst hh
   cases lo with
   |none=>simp only[ob]at hl;subst hl;simp[execOp,hx,Instr.sliceAt,Instr.slice,Instr.sliceBounds,run_underlying hu,Go.sizeOf,typeInfo,h4,h5,Result.andThen]
   |some y=>obtain⟨k,a,hy,rfl⟩:=hl;simp[execOp,hx,hy,Instr.sliceAt,Instr.slice,Instr.sliceBounds,Instr.sliceBound,asIntOf,run_underlying hu,Go.sizeOf,typeInfo,h4,h5,h1,Result.andThen]
  |some z=>
   obtain⟨kz,az,hz,rfl⟩:=hh
   cases lo with
   |none=>simp only[ob]at hl;subst hl;simp[execOp,hx,hz,Instr.sliceAt,Instr.slice,Instr.sliceBounds,Instr.sliceBound,asIntOf,run_underlying hu,Go.sizeOf,typeInfo,h4,h5,h2,Result.andThen]
   |some y=>obtain⟨k,a,hy,rfl⟩:=hl;simp[execOp,hx,hy,hz,Instr.sliceAt,Instr.slice,Instr.sliceBounds,Instr.sliceBound,asIntOf,run_underlying hu,Go.sizeOf,typeInfo,h4,h5,h1,h2,Result.andThen]
 |some u=>
  obtain⟨ku,au,hu',rfl⟩:=hm
  cases hi with
  |none=>simp at hmh
  |some z=>
   obtain⟨kz,az,hz,rfl⟩:=hh
   cases lo with
   |none=>simp only[ob]at hl;subst hl;simp[execOp,hx,hz,hu',Instr.sliceAt,Instr.slice,Instr.sliceBounds,Instr.sliceBound,asIntOf,run_underlying hu,Go.sizeOf,typeInfo,h4,h5,h2,h3,Result.andThen]
   |some y=>obtain⟨k,a,hy,rfl⟩:=hl;simp[execOp,hx,hy,hz,hu',Instr.sliceAt,Instr.slice,Instr.sliceBounds,Instr.sliceBound,asIntOf,run_underlying hu,Go.sizeOf,typeInfo,h4,h5,h1,h2,h3,Result.andThen]
theorem zcL {t e sz:Nat} {x:Operand} {lo hi mx:Option Operand} {g off:Nat} {len cap:Nat} (l h m k:Nat) (ht:zdT P t e sz=true) (hx:ev ρ x= .slice (some ⟨g,off,none⟩) len cap)
  (hl:ob ρ lo 0 l) (hh:ob ρ hi len h) (hm:ob ρ mx cap m) (hmh:mx.isSome=true→hi.isSome=true) (h1:l≤h) (h2:h≤m) (h3:m≤cap) (h4:l<m) (hk:h - l=k):
  (execOp (ev ρ) ⟨d, .slice t x lo hi mx,ty,pos,af,gd⟩).run P w= .ok (.value (.slice (some ⟨g,off+l*sz,none⟩) k (m - l))) w:=by
 subst hk
 rw[zc8 l h m ht hx hl hh hm hmh h1 h2 h3,if_neg ae]
 simp[Addr.add_lit]
theorem zcq {t e:Nat} {x:Operand} {lo hi mx:Option Operand} {g off:Nat} {len cap:Nat} (l h m k:Nat) (ht:zdT P t e 1=true) (hx:ev ρ x= .slice (some ⟨g,off,none⟩) len cap)
  (hl:ob ρ lo 0 l) (hh:ob ρ hi len h) (hm:ob ρ mx cap m) (hmh:mx.isSome=true→hi.isSome=true) (h1:l≤h) (h2:h≤m) (h3:m≤cap) (h4:l<m) (hk:h - l=k):
  (execOp (ev ρ) ⟨d, .slice t x lo hi mx,ty,pos,af,gd⟩).run P w= .ok (.value (.slice (some ⟨g,off+l,none⟩) k (m - l))) w:=by
 rw[zcL l h m k ht hx hl hh hm hmh h1 h2 h3 h4 hk,Nat.mul_one]
theorem zim {t e sz n:Nat} {x:Operand} {lo hi mx:Option Operand} {g off:Nat} (l h m:Nat) (ht:arrayOf P t n e sz=true) (hx:ev ρ x= .pointer (some ⟨g,off,none⟩))
  (hl:ob ρ lo 0 l) (hh:ob ρ hi n h) (hm:ob ρ mx n m) (hmh:mx.isSome=true→hi.isSome=true) (h1:l≤h) (h2:h≤m) (h3:m≤n):
  (execOp (ev ρ) ⟨d, .slice t x lo hi mx,ty,pos,af,gd⟩).run P w= .ok (.value (.slice (some (if m=l then⟨g,off,none⟩else⟨g,off+l*sz,none⟩)) (h - l) (m - l))) w:=by
 obtain⟨hu,hs⟩:=zee ht
 obtain⟨ie,h4,h5⟩:=zcp hs
 have e1:(h:Int)≤m:=by omega
 have e2:(l:Int)≤h:=by omega
 have e3:(m:Int)≤n:=by omega
 cases mx with
 |none=>
  simp only[ob]at hm
  subst hm
  cases hi with
  |none=>
   simp only[ob]at hh
   subst hh
   cases lo with
   |none=>simp only[ob]at hl;subst hl;simp[execOp,hx,Instr.sliceAt,Instr.sureAddr,Instr.sliceBounds,run_underlying hu,Go.sizeOf,typeInfo,h4,h5,Addr.add_lit,Result.andThen]
   |some y=>obtain⟨k,a,hy,rfl⟩:=hl;simp[execOp,hx,hy,Instr.sliceAt,Instr.sureAddr,Instr.sliceBounds,Instr.sliceBound,asIntOf,run_underlying hu,Go.sizeOf,typeInfo,h4,h5,h1,Addr.add_lit,Result.andThen]
  |some z=>
   obtain⟨kz,az,hz,rfl⟩:=hh
   cases lo with
   |none=>simp only[ob]at hl;subst hl;simp[execOp,hx,hz,Instr.sliceAt,Instr.sureAddr,Instr.sliceBounds,Instr.sliceBound,asIntOf,run_underlying hu,Go.sizeOf,typeInfo,h4,h5,h2,Addr.add_lit,Result.andThen]
   |some y=>obtain⟨k,a,hy,rfl⟩:=hl;simp[execOp,hx,hy,hz,Instr.sliceAt,Instr.sureAddr,Instr.sliceBounds,Instr.sliceBound,asIntOf,run_underlying hu,Go.sizeOf,typeInfo,h4,h5,h1,h2,Addr.add_lit,Result.andThen]
 |some u=>
  obtain⟨ku,au,hu',rfl⟩:=hm
  cases hi with
  |none=>simp at hmh
  |some z=>
   obtain⟨kz,az,hz,rfl⟩:=hh
   cases lo with
   |none=>simp only[ob]at hl;subst hl;simp[execOp,hx,hz,hu',Instr.sliceAt,Instr.sureAddr,Instr.sliceBounds,Instr.sliceBound,asIntOf,run_underlying hu,Go.sizeOf,typeInfo,h4,h5,h2,h3,Addr.add_lit,Result.andThen]
   |some y=>obtain⟨k,a,hy,rfl⟩:=hl;simp[execOp,hx,hy,hz,hu',Instr.sliceAt,Instr.sureAddr,Instr.sliceBounds,Instr.sliceBound,asIntOf,run_underlying hu,Go.sizeOf,typeInfo,h4,h5,h1,h2,h3,Addr.add_lit,Result.andThen]
theorem zlg {t e sz n:Nat} {x:Operand} {lo hi mx:Option Operand} {g off:Nat} (l h m k:Nat) (ht:arrayOf P t n e sz=true) (hx:ev ρ x= .pointer (some ⟨g,off,none⟩))
  (hl:ob ρ lo 0 l) (hh:ob ρ hi n h) (hm:ob ρ mx n m) (hmh:mx.isSome=true→hi.isSome=true) (h1:l≤h) (h2:h≤m) (h3:m≤n) (h4:l<m) (hk:h - l=k):
  (execOp (ev ρ) ⟨d, .slice t x lo hi mx,ty,pos,af,gd⟩).run P w= .ok (.value (.slice (some ⟨g,off+l*sz,none⟩) k (m - l))) w:=by
 subst hk
 rw[zim l h m ht hx hl hh hm hmh h1 h2 h3,if_neg ae]
theorem zbw {t e n:Nat} {x:Operand} {lo hi mx:Option Operand} {g off:Nat} (l h m k:Nat) (ht:arrayOf P t n e 1=true) (hx:ev ρ x= .pointer (some ⟨g,off,none⟩))
  (hl:ob ρ lo 0 l) (hh:ob ρ hi n h) (hm:ob ρ mx n m) (hmh:mx.isSome=true→hi.isSome=true) (h1:l≤h) (h2:h≤m) (h3:m≤n) (h4:l<m) (hk:h - l=k):
  (execOp (ev ρ) ⟨d, .slice t x lo hi mx,ty,pos,af,gd⟩).run P w= .ok (.value (.slice (some ⟨g,off+l,none⟩) k (m - l))) w:=by
 rw[zlg l h m k ht hx hl hh hm hmh h1 h2 h3 h4 hk,Nat.mul_one]
theorem zaN{t e:Nat}{x i:Operand}{g off len cap:Nat}{k:IntKind}{a:Int}(ht:zdT P t e 1=true)(hx:ev ρ x= .slice (some ⟨g,off,none⟩) len cap)(hi:ev ρ i= .int k a)(j:Nat)(hj:a=(j:Int))(hlt:j<len):
  (execOp (ev ρ) ⟨d, .indexAddr t x i,ty,pos,af,gd⟩).run P w= .ok (.value (.pointer (some ⟨g,off+j,none⟩))) w:=by
 have:=zbe (P:=P) (w:=w) (d:=d) (ty:=ty) (pos:=pos) (af:=af) (gd:=gd) ht hx hi j hj hlt
 rwa [Nat.mul_one]at this
theorem zbD{t m e:Nat}{x i:Operand}{g off:Nat}{k:IntKind}{a:Int}(ht:arrayOf P t m e 1=true)(hx:ev ρ x= .pointer (some ⟨g,off,none⟩))(hi:ev ρ i= .int k a)(j:Nat)(hj:a=(j:Int))(hlt:j<m):
  (execOp (ev ρ) ⟨d, .indexAddr t x i,ty,pos,af,gd⟩).run P w= .ok (.value (.pointer (some ⟨g,off+j,none⟩))) w:=by
 have:=zmZ (P:=P) (w:=w) (d:=d) (ty:=ty) (pos:=pos) (af:=af) (gd:=gd) ht hx hi j hj hlt
 rwa [Nat.mul_one]at this
theorem zin{t n e sz:Nat}{x:Operand}{p:Option Addr}{len cap:Nat}(ht:arrayOf P t n e sz=true)(hx:ev ρ x= .slice p len cap)(h:n≤len):
  (execOp (ev ρ) ⟨d, .sliceToArrayPointer t x,ty,pos,af,gd⟩).run P w= .ok (.value (.pointer p)) w:=by
 have:=run_arrayAt (P:=P) t e n (zee ht).1 p len cap h w
 simp[execOp,hx,this,Result.andThen]
theorem zak{x:Operand}{a:Addr}(hx:ev ρ x= .pointer (some a)):(execOp (ev ρ) ⟨d, .nilCheck x,ty,pos,af,gd⟩).run P w= .ok (.value (.pointer (some a))) w:=by
 simp[execOp,hx]
theorem zaB{t e sz:Nat}{x:Operand}{p:Option Addr}{len cap:Nat}{ats:List Nat}(ht:zdT P t e sz=true)(hx:ev ρ x= .slice p len cap)(ha:ats[0]?=some t):
  (execOp (ev ρ) ⟨d, .call ⟨.builtin .len,#[x],ats.toArray⟩,ty,pos,af,gd⟩).run P w= .ok (.value (.int .i64 len)) w:=by
 obtain⟨hu,_⟩:=zed ht
 simp[execOp,resolve,invoke,builtin,Builtin.len_,hx,ha,run_underlying hu,goInt,Result.andThen]
theorem zi2{x y:Operand}{k:IntKind}{a b:Int}{ats:Array Nat}(hx:ev ρ x= .int k a)(hy:ev ρ y= .int k b):
  (execOp (ev ρ) ⟨d, .call ⟨.builtin .min,#[x,y],ats⟩,ty,pos,af,gd⟩).run P w= .ok (.value (.int k (min a b))) w:=by
 have:(if b<a then b else a)=min a b:=by omega
 simp[execOp,resolve,invoke,builtin,Builtin.min_,Builtin.min2,hx,hy,this,Result.andThen]
theorem zfq{x y:Operand}{k:IntKind}{a b:Int}{ats:Array Nat}(hx:ev ρ x= .int k a)(hy:ev ρ y= .int k b):
  (execOp (ev ρ) ⟨d, .call ⟨.builtin .max,#[x,y],ats⟩,ty,pos,af,gd⟩).run P w= .ok (.value (.int k (max a b))) w:=by
 have:(if a<b then b else a)=max a b:=by omega
 simp[execOp,resolve,invoke,builtin,Builtin.max_,Builtin.max2,hx,hy,this,Result.andThen]
def Ld(P:Program)(w:World)(t:Nat)(a:Addr)(v:Value):Prop:=(loadVar t a).run P w= .ok v w
theorem Ld.one{t:Nat}{a:Addr}{v:Value}(ht:zhh P t=true)(hc:w.cell? a=some v):Ld P w t a v:=by
 unfold Ld loadVar
 simp[zmY ht,load,hc,Sem.run,Result.andThen]
theorem Ld.zeC{t g off tt:Nat}{l:List Value}{v:Value}(hr:row w g l tt)(ht:zhh P t=true)(hv:l[off]?=some v):Ld P w t ⟨g,off,none⟩ v:=Ld.one ht (hr.cell off hv)
theorem Ld.rng{t g off:Nat}{cs:List Value}(hc:w.rangeAt g off cs)(ht:zhg P t=true)(hs:zco P t cs.length=true):Ld P w t ⟨g,off,none⟩ (.agg cs.toArray):=by
 unfold zhg at ht
 cases hu:P.underlying t with
 |none=>simp[hu]at ht
 |some dd=>
  have hr:dd.isRow=true:=by simpa [hu]using ht
  exact run_loadVar_mid w g off t cs dd hc hu hr (zeU hs)
theorem Ld.rowN{t g off tt k:Nat}{l:List Value}(hr:row w g l tt)(ht:zhg P t=true)(hs:zco P t k=true)(hk:off+k≤l.length):Ld P w t ⟨g,off,none⟩ (.agg ((l.drop off).take k).toArray):=by
 refine Ld.rng (hr.zij off k) ht ?_
 rw[List.length_take,List.length_drop,Nat.min_eq_left ae]
 exact hs
theorem Ld.zb9{t g tt k:Nat}{l:List Value}(hr:row w g l tt)(ht:zhg P t=true)(hs:zco P t k=true)(hk:l.length=k):Ld P w t ⟨g,0,none⟩ (.agg l.toArray):=by
 have:=Ld.rowN (off:=0) hr ht hs ae
 rwa [List.drop_zero,List.take_of_length_le ae]at this
theorem zaG{t:Nat}{x:Operand}{a:Addr}{v:Value}(hx:ev ρ x= .pointer (some a))(hl:Ld P w t a v):(execOp (ev ρ) ⟨d, .load t x,ty,pos,af,gd⟩).run P w= .ok (.value v) w:=by
 unfold Ld at hl
 simp[execOp,hx,Instr.loadAt,Instr.sureAddr,hl,Result.andThen]
def Mk(P:Program)(ρ:Env)(w:World)(o:Oper)(K:Value→World→Prop):Prop:=∃ v w',(execOp (ev ρ) o).run P w= .ok (.value v) w'∧K v w'
def Sk(P:Program)(ρ:Env)(w:World)(o:Oper)(K:World→Prop):Prop:=∃ w',(execOp (ev ρ) o).run P w= .ok .skip w'∧K w'
variable {K:Value→World→Prop}{Kw:World→Prop}
abbrev zeroIs(P:Program)(t:TypeId)(zl:List Value):Prop:=(P.info? t).map (fun i=>i.zero.map (·.cells))=some (some zl.toArray)
theorem zar{t:Nat}(zl:List Value)(hz:(P.info? t).map (fun i=>i.zero.map (·.cells))=some (some zl.toArray))(h:∀ g w',w.heap.size≤g→row w' g zl t→Below w.heap.size w w'→K (.pointer (some ⟨g,0,none⟩)) w'):Mk P ρ w ⟨d, .alloc t,ty,pos,af,gd⟩ K:=
 ⟨_,_,zfK (ev ρ) t rfl zl hz,h _ _ (Nat.le_refl _) (zdt w zl t) (zcm w _)⟩
theorem za4{t:Nat}{x:Operand}(vl:List Value)(hv:(ev ρ x).cells=vl.toArray)(h:∀ g w',w.heap.size≤g→row w' g vl t→Below w.heap.size w w'→K (.pointer (some ⟨g,0,none⟩)) w'):Mk P ρ w ⟨d, .box t x,ty,pos,af,gd⟩ K:=
 ⟨_,_,zha (ev ρ) t x rfl vl hv,h _ _ (Nat.le_refl _) (zdt w vl t) (zcm w _)⟩
theorem zgW {t:Nat} {x y:Operand} {g off:Nat} (vs:List Value) {l:List Value} {tt:Nat} (hx:ev ρ x= .pointer (some ⟨g,off,none⟩)) (hy:(ev ρ y).cells=vs.toArray) (hr:row w g l tt) (hs:zco P t vs.length=true)
  (hfit:off+vs.length≤l.length) (h1:∀ v∈vs,v.oneCell'=true) (h:∀ w',row w' g (splice l off vs) tt→Only g w w'→Kw w'):Sk P ρ w ⟨d, .store t x y,ty,pos,af,gd⟩ Kw:=by
 obtain⟨i,hq,hsz⟩:=zcp hs
 have hst:=run_storeCells_at P g off tt vs 0 l.toArray w hr (by simpa using hfit) h1
 have hrun:(storeVar t ⟨g,off,none⟩ (ev ρ y)).run P w= .ok () (w.setRow g (splice l off vs).toArray):=by
  simp[storeVar,Go.sizeOf,typeInfo,hq,hy,hsz,hst,splice]
 refine⟨_,?_,h _ (setRow_heap w g _ _ tt _ hr) (Only.setRow _)⟩
 unfold execOp
 simp only[hx,Instr.storeAt,Instr.sureAddr,Sem.run_bind,Sem.run_pure,Result.andThen_ok,hrun]
theorem spliceA(vs l:List Value)(h:vs.length=l.length):splice l 0 vs=vs:=by simp[splice,h]
theorem zgm{l:List Value}{off:Nat}{v:Value}(h:off<l.length):splice l off [v]=l.set off v:=by
 simp[splice,List.set_eq_take_append_cons_drop,h]
theorem znW {t:Nat} {x y:Operand} {g off:Nat} {v:Value} {l:List Value} {tt:Nat} (hx:ev ρ x= .pointer (some ⟨g,off,none⟩)) (hy:ev ρ y=v) (hv:v.cells=#[v]) (h1:v.oneCell'=true) (hr:row w g l tt) (hs:zco P t 1=true)
  (hfit:off<l.length) (h:∀ w',row w' g (l.set off v) tt→Only g w w'→Kw w'):Sk P ρ w ⟨d, .store t x y,ty,pos,af,gd⟩ Kw:=by
 refine zgW [v] hx (by rw[hy,hv]) hr hs aK (by simpa using h1) ?_
 rw[zgm hfit]
 exact h
theorem zdY {t:Nat} {x y:Operand} {g:Nat} (k:Nat) (vs:List Value) {l:List Value} {tt:Nat} (hx:ev ρ x= .pointer (some ⟨g,0,none⟩)) (hy:(ev ρ y).cells=vs.toArray) (hr:row w g l tt) (hs:zco P t k=true) (hk:vs.length=k)
  (hfit:l.length=k) (h1:∀ v∈vs,v.oneCell'=true) (h:∀ w',row w' g vs tt→Only g w w'→Kw w'):Sk P ρ w ⟨d, .store t x y,ty,pos,af,gd⟩ Kw:=by
 subst hk
 refine zgW vs hx hy hr hs ae h1 ?_
 rw[spliceA _ _ hfit.symm]
 exact h
theorem zaj{f:FuncId}{al:List Operand}{vl:List Value}{ats:Array Nat}(hc:zcC P f=true)(hv:al.map (ev ρ)=vl):
  (execOp (ev ρ) ⟨d, .call ⟨.value (.func f),al.toArray,ats⟩,ty,pos,af,gd⟩).run P w= .ok (.enter f vl.toArray) w:=by
 have hm:al.toArray.map (ev ρ)=vl.toArray:=by rw[←hv];simp
 have hf:(callFunc f vl.toArray).run P w= .ok (.enter f vl.toArray) w:=by
  unfold zcC at hc
  cases hfn:P.funcs[f]? with
  |none=>simp[hfn]at hc
  |some fn=>
   rw[hfn]at hc
   simp only[Bool.and_eq_true,Bool.not_eq_true']at hc
   cases hb:fn.body with
   |none=>simp[hb]at hc
   |some c=>
    have hn:¬fn.name= "runtime.NumGoroutine" :=by simpa using hc.1
    simp[callFunc,program,Sem.run,hfn,hn,hb,Result.andThen]
 simp[execOp,resolve,hm,ev,Deferred.ofValue,invoke,hf,Result.andThen]
theorem zbZ{f:FuncId}{x:Operand}{al:List Operand}{vl cl:List Value}{ats:Array Nat}(hc:zcC P f=true)(hx:ev ρ x= .func (.func f) #[] cl.toArray)(hv:al.map (ev ρ)=vl):
  (execOp (ev ρ) ⟨d, .call ⟨.value x,al.toArray,ats⟩,ty,pos,af,gd⟩).run P w= .ok (.enter f (vl++cl).toArray) w:=by
 have hm:al.toArray.map (ev ρ)=vl.toArray:=by rw[←hv];simp
 have hf:(callFunc f (vl++cl).toArray).run P w= .ok (.enter f (vl++cl).toArray) w:=by
  unfold zcC at hc
  cases hfn:P.funcs[f]? with
  |none=>simp[hfn]at hc
  |some fn=>
   rw[hfn]at hc
   simp only[Bool.and_eq_true,Bool.not_eq_true']at hc
   cases hb:fn.body with
   |none=>simp[hb]at hc
   |some c=>
    have hn:¬fn.name= "runtime.NumGoroutine" :=by simpa using hc.1
    simp[callFunc,program,Sem.run,hfn,hn,hb,Result.andThen]
 have e:vl.toArray++cl.toArray=(vl++cl).toArray:=by simp
 simp only[execOp,resolve,hm,hx,Deferred.ofValue]
 simp[invoke,hf,Result.andThen]
end
section
variable {md:Option Nat→Prop}{P:Program}{n:Nat}{Q:Post}{ρ:Env}{w:World}{l:List Oper}{S:World→Prop}{done:List Nat}
theorem zaD{ops:Array Oper}{rest:List Oper}{o:Oper}(hg:o.guard=none)(h:Mk P ρ w o fun v w'=>WR md P n ops rest Q (upo ρ o.dst v) w'):WR md P n ops (o::rest) Q ρ w:=
 let ⟨_,_,hr,hK⟩:=h;WR_val hg hr hK
theorem zaK{ops:Array Oper}{rest:List Oper}{o:Oper}(hg:o.guard=none)(h:Sk P ρ w o fun w'=>WR md P n ops rest Q (upo ρ o.dst undef) w'):WR md P n ops (o::rest) Q ρ w:=
 let ⟨_,hr,hK⟩:=h;WR_skp hg hr hK
theorem zlh{i:Nat}(hc:zhf l done i=true)(hw:Region.wanted (zb4 l i) (yl l.toArray ρ)=true){v:Value}{w':World}(hr:(execOp (ev ρ) (zb4 l i)).run P w= .ok (.value v) w')(h:WAL md P n l S Q (i::done) (upo ρ (zb4 l i).dst v) w'):WAL md P n l S Q done ρ w:=znT hc hw (ziY hr h)
theorem WAL_mk{i:Nat}(hc:zhf l done i=true)(hw:Region.wanted (zb4 l i) (yl l.toArray ρ)=true)(h:Mk P ρ w (zb4 l i) fun v w'=>WAL md P n l S Q (i::done) (upo ρ (zb4 l i).dst v) w'):WAL md P n l S Q done ρ w:=
 let ⟨_,_,hr,hK⟩:=h;zlh hc hw hr hK
theorem znX{i:Nat}(hc:zhf l done i=true)(hw:Region.wanted (zb4 l i) (yl l.toArray ρ)=true)(h:Sk P ρ w (zb4 l i) fun w'=>WAL md P n l S Q (i::done) (upo ρ (zb4 l i).dst undef) w'):WAL md P n l S Q done ρ w:=
 let ⟨_,hr,hK⟩:=h;znT hc hw (zlb hr hK)
theorem zby{i:Nat}(hi:Nat.blt i l.length=true)(hw:Region.wanted (zb4 l i) (yl l.toArray ρ)=true)(h:Mk P ρ w (zb4 l i) fun v w'=>S w'∧WA md P n l S Q (i::done) (upo ρ (zb4 l i).dst v) w'):WO md P n l S Q done i ρ w:=
 let ⟨_,_,hr,hS,hK⟩:=h;zfP hi hw hr hS hK
theorem zbB{i:Nat}(hi:Nat.blt i l.length=true)(hw:Region.wanted (zb4 l i) (yl l.toArray ρ)=true)(h:Sk P ρ w (zb4 l i) fun w'=>S w'∧WA md P n l S Q (i::done) (upo ρ (zb4 l i).dst undef) w'):WO md P n l S Q done i ρ w:=
 let ⟨_,hr,hS,hK⟩:=h;WO_skp hi hw hr hS hK
end
section
variable {md:Option Nat→Prop}{P:Program}{n:Nat}{Q:Post}{ρ:Env}{w w0 w1 w':World}{l:List Oper}
theorem za3{id:Nat}(M:List Nat)(hm:P.follows .mixedOrders=true)(h:∀ w1,Below w.heap.size w w1→Kp M w1 w1→WA md P n l (Kp M w1) Q [] ρ w1):W md P n (.region id l.toArray true) Q ρ w:=
 W_draw (Kp M w.drew) hm (Kp.refl _ _) (h w.drew (Below.refl _ _).drew (Kp.refl _ _))
theorem zdw{f:FuncId}{args:Array Value}{v:Value}{p:World→Prop}(h:Calls P f args w fun e w'=>e= .returned v∧p w'):Calls P f args w (Ret fun v' w'=>v'=v∧p w'):=
 h.mono fun _ _ ⟨h1,h2⟩=>⟨_,h1,rfl,h2⟩
theorem Ret.mono{R R':Value→World→Prop}(h:∀ v w,R v w→R' v w):∀ e w,Ret R e w→Ret R' e w:=fun _ _ ⟨v,h1,h2⟩=>⟨v,h1,h _ _ h2⟩
theorem _root_.Go.Calls.to{f:FuncId}{args:Array Value}{R R':Value→World→Prop}(h:Calls P f args w (Ret R))(hr:∀ v w',R v w'→R' v w'):Calls P f args w (Ret R'):=h.mono (Ret.mono hr)
theorem _root_.Go.RowKit.Below.kpd{M:List Nat}(h:Below w0.heap.size w0 w)(k:Kp M w w')(hM:∀ g,g∈M→w0.heap.size≤g):Below w0.heap.size w0 w':=
 ⟨k.os.trans h.os,k.tape.trans h.tape,k.output.trans h.output,Nat.le_trans h.size k.size,fun i hi=>
  (k.block i (Nat.lt_of_lt_of_le hi h.size) fun hm=>absurd hi (Nat.not_lt.2 (hM i hm))).trans (h.block i hi)⟩
theorem Kp.za6{r:Option Nat}(h:w.grownBy w' r):Kp r.toList w w':=⟨h.os,h.tape,h.output,h.size,fun k hk hm=>h.block k hk fun e=>hm (by simp[←e])⟩
theorem row.kpd{M:List Nat}{g t:Nat}{cs:List Value}(h:row w g cs t)(k:Kp M w w')(hg:g∉M):row w' g cs t:=h.kp k hg
theorem row.kq{M:List Nat}{g t:Nat}{cs:List Value}(h:row w g cs t)(k:Kp M w w')(hg:g∉M:=by first |(simp;done)|(simp;omega)|(simp[*];done)|assumption):row w' g cs t:=h.kp k hg
theorem Kp.aq{M:List Nat}{w1 w2:World}{g:Nat}(h:Kp M w w1)(k:Only g w1 w2)(hg:w.heap.size≤g∨g∈M:=by first |(left;omega)|(right;simp;done)|(right;simp;omega)):Kp M w w2:=h.add1 k hg
theorem row.own{base e sz m:Nat}{v:Value}{xs:List Value}{g t:Nat}{cs:List Value}(h:row w g cs t)(ho:zaz w base e sz v m xs)(hg:w.grownBy w' v.ownBlock)(hk:g<base):row w' g cs t:=
 h.kp (Kp.za6 hg) fun hm=>by
  simp only[Option.mem_toList]at hm
  have:=(ho.lt g hm).1
  omega
theorem _root_.Go.RowKit.Below.own{base e sz m:Nat}{v:Value}{xs:List Value}(h:Below w0.heap.size w0 w)(ho:zaz w base e sz v m xs)(hg:w.grownBy w' v.ownBlock)(hk:w0.heap.size≤base):Below w0.heap.size w0 w':=
 h.kpd (Kp.za6 hg) fun g hm=>by
  simp only[Option.mem_toList]at hm
  have:=(ho.lt g hm).1
  omega
theorem Kp.own{M:List Nat}{base e sz m:Nat}{v:Value}{xs:List Value}(h:Kp M w0 w)(ho:zaz w base e sz v m xs)(hg:w.grownBy w' v.ownBlock)(hk:w0.heap.size≤base):Kp M w0 w':=
 h.add (Kp.za6 hg) fun g hm=>by
  simp only[Option.mem_toList]at hm
  have:=(ho.lt g hm).1
  left;omega
theorem zaS.new{p:Option Addr}{m sz:Nat}{cs:List Value}(h:zaS w p m sz cs)(hb:Below w.heap.size w w'):zaS w' p m sz cs:=h.below hb (Nat.le_refl _)
theorem zaS.kpd{M:List Nat}{p:Option Addr}{m sz:Nat}{cs:List Value}(h:zaS w p m sz cs)(k:Kp M w w')(hM:∀ b o,p=some ⟨b,o,none⟩→b∉M):zaS w' p m sz cs:=by
 refine⟨h.len,h.max,fun h0=>?_⟩
 obtain⟨b,off,hp,hlt,hc⟩:=h.at_ h0
 refine⟨b,off,hp,Nat.lt_of_lt_of_le hlt k.size,fun j hj=>?_⟩
 rw[←hc j hj]
 have:=k.block b hlt (hM b off hp)
 simp only[World.cell?,this]
theorem zaS.onlyP{g:Nat}{p:Option Addr}{m sz:Nat}{cs:List Value}(h:zaS w p m sz cs)(ho:Only g w w')(hg:∀ b o,p=some ⟨b,o,none⟩→b≠g):zaS w' p m sz cs:=h.kpd (Kp.zaZ ho) (fun b o e=>by simpa using hg b o e)
theorem zaS.blk{g off:Nat}{m sz:Nat}{cs:List Value}(h:zaS w (Option.some ⟨g,off,none⟩) m sz cs)(he:w'.heap[g]?=w.heap[g]?)(hs:w.heap.size≤w'.heap.size):zaS w' (Option.some ⟨g,off,none⟩) m sz cs:=by
 refine⟨h.len,h.max,fun h0=>?_⟩
 obtain⟨b,o,hp,hlt,hc⟩:=h.at_ h0
 cases hp
 exact⟨g,off,rfl,Nat.lt_of_lt_of_le hlt hs,fun j hj=>by rw[←hc j hj];simp only[World.cell?,he]⟩
theorem zaS.only{g g0 off:Nat}{m sz:Nat}{cs:List Value}(h:zaS w (Option.some ⟨g0,off,none⟩) m sz cs)(ho:Only g w w')(hg:g0≠g):zaS w' (Option.some ⟨g0,off,none⟩) m sz cs:=h.onlyP ho (by rintro b o e;cases e;exact hg)
theorem zaS.own{g0 off base e sz' k:Nat}{v:Value}{xs:List Value}{m sz:Nat}{cs:List Value}(h:zaS w (Option.some ⟨g0,off,none⟩) m sz cs)(ho:zaz w base e sz' v k xs)(hg:w.grownBy w' v.ownBlock)(hk:g0<base):zaS w' (Option.some ⟨g0,off,none⟩) m sz cs:=h.kpd (Kp.za6 hg) (by rintro b o e hm;cases e;simp only[Option.mem_toList]at hm;have:=(ho.lt g0 hm).1;omega)
theorem zaS.cell{g off:Nat}{m sz:Nat}{cs:List Value}(h:zaS w (some ⟨g,off,none⟩) m sz cs)(j:Nat){v:Value}(hv:cs[j]?=some v):w.cell? ⟨g,off+j,none⟩=some v:=by
 have hj:j<m*sz:=by rw[←h.len];exact(List.getElem?_eq_some_iff.1 hv).1
 obtain⟨b,o,he,_,hc⟩:=h.at_ ae
 cases he
 rw[hc j hj,hv]
theorem zaS.src{g off m:Nat}{l:List UInt8}(h:zaS w (Option.some ⟨g,off,none⟩) m 1 (bv l))(o k:Nat):∀ j v,(bv ((l.drop o).take k))[j]?=Option.some v→w.cell? ((⟨g,off+o,none⟩:Addr).add j)=Option.some v:=by
 intro j v hv
 rw[zdg,List.getElem?_take]at hv
 split at hv
 ·rw[zc7,List.getElem?_drop]at hv
  rw[Addr.add_lit,Nat.add_assoc];exact h.cell _ hv
 ·cases hv
theorem row.src{g t:Nat}{l:List UInt8}(h:row w g (bv l) t)(o k:Nat):∀ j v,(bv ((l.drop o).take k))[j]?=Option.some v→w.cell? ((⟨g,o,none⟩:Addr).add j)=Option.some v:=by
 intro j v hv
 rw[zdg,List.getElem?_take]at hv
 split at hv
 ·rw[zc7,List.getElem?_drop]at hv
  rw[Addr.add_lit];exact h.cell _ hv
 ·cases hv
theorem zaS.rng{g off:Nat}{m sz:Nat}{cs:List Value}(h:zaS w (some ⟨g,off,none⟩) m sz cs)(o k:Nat):w.rangeAt g (off+o) ((cs.drop o).take k):=fun j v hv=>by
 rw[List.getElem?_take]at hv
 split at hv
 ·rw[List.getElem?_drop]at hv
  rw[Nat.add_assoc];exact h.cell _ hv
 ·cases hv
theorem zaS.some{p:Option Addr}{m sz:Nat}{cs:List Value}(h:zaS w p m sz cs)(h0:0<m*sz):∃ g off,p= .some ⟨g,off,none⟩∧g<w.heap.size:=by
 obtain⟨b,o,he,hb,_⟩:=h.at_ h0
 exact⟨b,o,he,hb⟩
theorem zaS.sub{g off m sz:Nat}{cs:List Value}(h:zaS w (Option.some ⟨g,off,none⟩) m sz cs)(i k:Nat)(hk:i+k≤m):zaS w (Option.some ⟨g,off+i*sz,none⟩) k sz ((cs.drop (i*sz)).take (k*sz)):=by
 have hl:=h.len
 have hle:i*sz+k*sz≤m*sz:=by rw[←Nat.add_mul];exact Nat.mul_le_mul_right _ hk
 refine⟨by rw[List.length_take,List.length_drop];omega,Nat.le_trans ae h.max,fun h0=>?_⟩
 obtain⟨b,o,he,hb,hc⟩:=h.at_ ae
 cases he
 refine⟨g,off+i*sz,rfl,hb,fun j hj=>?_⟩
 rw[Nat.add_assoc,hc _ ae,List.getElem?_take,if_pos hj,List.getElem?_drop]
theorem zaS.bytes{p:Option Addr}{m sz:Nat}{cs:List Value}(h:zaS w p m sz cs)(hm:m*sz≤maxLen):zaS w p (m*sz) 1 cs:=
 ⟨by rw[Nat.mul_one];exact h.len,hm,fun h0=>by rw[Nat.mul_one]at h0 ⊢;exact h.at_ h0⟩
theorem Kp.ownS{M:List Nat}{base e sz m:Nat}{v:Value}{xs:List Value}(h:Kp M w0 w)(ho:zaz w base e sz v m xs)(hg:w.grownBy w' v.ownBlock)(hk:w0.heap.size≤base∨∀ g,g∈v.ownBlock.toList→g∈M):Kp M w0 w':=
 hk.elim (fun hk=>h.own ho hg hk) (fun hk=>h.add (Kp.za6 hg) fun g hm=>Or.inr (hk g hm))
theorem zaS.subB{g off m:Nat}{cs:List UInt8}(h:zaS w (Option.some ⟨g,off,none⟩) m 1 (bv cs))(i k:Nat)(hk:i+k≤m):zaS w (Option.some ⟨g,off+i,none⟩) k 1 (bv ((cs.drop i).take k)):=by
 have:=h.sub i k hk
 rwa [Nat.mul_one,Nat.mul_one,←zc7,←zdg]at this
theorem row.sl{g t m sz:Nat}{cs:List Value}(h:row w g cs t)(o:Nat)(ho:o+m*sz≤cs.length)(hm:m≤maxLen):zaS w (Option.some ⟨g,o,none⟩) m sz ((cs.drop o).take (m*sz)):=h.slAt o m sz ho hm
theorem row.slB{g t:Nat}{cs:List UInt8}(h:row w g (bv cs) t)(o m:Nat)(ho:o+m≤cs.length)(hm:m≤maxLen):zaS w (Option.some ⟨g,o,none⟩) m 1 (bv ((cs.drop o).take m)):=by
 have:=h.sl (m:=m) (sz:=1) o (by rw[zal];omega) hm
 rwa [Nat.mul_one,←zc7,←zdg]at this
theorem row.slA{g t m sz:Nat}{cs:List Value}(h:row w g cs t)(hl:cs.length=m*sz)(hm:m≤maxLen):zaS w (Option.some ⟨g,0,none⟩) m sz cs:=by
 have:=h.sl (m:=m) (sz:=sz) 0 ae hm
 rwa [List.drop_zero,List.take_of_length_le ae]at this
theorem Ld.sl1{t g off m sz j:Nat}{cs:List Value}{v:Value}(h:zaS w (Option.some ⟨g,off,none⟩) m sz cs)(ht:zhh P t=true)(hv:cs[j]?=Option.some v):Ld P w t ⟨g,off+j,none⟩ v:=Ld.one ht (h.cell j hv)
theorem Ld.slN{t g off m sz j k:Nat}{cs:List Value}(h:zaS w (Option.some ⟨g,off,none⟩) m sz cs)(ht:zhg P t=true)(hs:zco P t k=true)(hk:j+k≤cs.length):Ld P w t ⟨g,off+j,none⟩ (.agg ((cs.drop j).take k).toArray):=by
 refine Ld.rng (h.rng j k) ht ?_
 rw[List.length_take,List.length_drop,Nat.min_eq_left ae]
 exact hs
section
variable {base e sz m:Nat}{v:Value}{xs:List Value}
theorem zaz.new(h:zaz w base e sz v m xs)(hb:Below w.heap.size w w'):zaz w' base e sz v m xs:=h.below hb fun k hk=>(h.lt k hk).2
theorem zaz.kpd{M:List Nat}(h:zaz w base e sz v m xs)(k:Kp M w w')(hM:∀ g,g∈M→v.ownBlock≠some g):zaz w' base e sz v m xs:=by
 refine⟨h.1,?_⟩
 rcases h.2 with hn|⟨g,off,cap,cur,rfl,hb,hgg,rest⟩
 ·exact .inl hn
 ·refine .inr ⟨g,off,cap,cur,rfl,hb,?_,rest⟩
  rw[k.block g (Array.getElem?_eq_some_iff.1 hgg).1 fun hm=>hM g hm rfl]
  exact hgg
theorem zaz.only{g:Nat}(h:zaz w base e sz v m xs)(ho:Only g w w')(hg:g<base):zaz w' base e sz v m xs:=
 h.kpd (Kp.zaZ ho) fun g' hm e=>by
  have:=(h.lt g' e).1
  simp at hm
  omega
theorem zaz.mono(h:zaz w base e sz v m xs){b':Nat}(hb:b'≤base):zaz w b' e sz v m xs:=by
 refine⟨h.1,?_⟩
 rcases h.2 with hn|⟨g,off,cap,cur,rfl,hb',rest⟩
 ·exact .inl hn
 ·exact .inr ⟨g,off,cap,cur,rfl,ae,rest⟩
theorem zaz.sl{p:Option Addr}{c:Nat}(h:zaz w base e sz (.slice p m c) m xs):zaS w p m sz xs:=zpR h
theorem row.owns{g t:Nat}{cs:List Value}(h:row w g cs t)(hb:base≤g)(hl:cs.length=m*sz)(hm:m≤maxLen):zaz w base t sz (.slice (Option.some ⟨g,0,none⟩) m m) m cs:=
 ⟨hl, .inr ⟨g,0,m,cs.toArray,rfl,hb,h,Nat.le_refl _,hm,by simp;omega,by simp[←hl]⟩⟩
theorem zbp(w:World)(base e sz:Nat):zaz w base e sz (.slice none 0 0) 0 []:=⟨ay, .inl ⟨rfl,rfl⟩⟩
end
section
variable {d:Option Nat}{ty:TypeId}{pos:String}{af:Array Edge}{gd:Option (Nat × Bool)}{K:Value→World→Prop}
abbrev infoIs(P:Program)(e:TypeId)(zl:List Value)(sz bytes:Nat):Prop:=(P.info? e).map (fun i=>(i.zero.map (·.cells),i.size,i.bytes))=some (some zl.toArray,sz,bytes)
theorem zeD {t e:Nat} {x y:Operand} (m:Nat) (zl:List Value) (sz bytes:Nat) (v:Value) (ht:P.underlying t=some (.slice e)) (hi:(P.info? e).map (fun i=>(i.zero.map (·.cells),i.size,i.bytes))=some (some zl.toArray,sz,bytes)) (hx:∃ a,ev ρ x= .int .i64 a∧a=(m:Int)) (hy:∃ a,ev ρ y= .int .i64 a∧a=(m:Int))
  (hz:∀ u∈zl,u=v) (h0:0<zl.length) (hb:bytes*m≤281474976710656) (h63:m≤9223372036854775807)
  (h:∀ g w',w.heap.size≤g→row w' g (List.replicate (m*sz) v) e→Below w.heap.size w w'→K (.slice (some ⟨g,0,none⟩) m m) w'):Mk P ρ w ⟨d, .makeSlice t x y,ty,pos,af,gd⟩ K:=by
 obtain⟨a,hx1,rfl⟩:=hx
 obtain⟨b,hy1,rfl⟩:=hy
 have hr:=ziW (P:=P) (w:=w) t e zl sz bytes ht hi m hb h63
 rw[zhc zl v hz h0]at hr
 refine⟨_,_,?_,h w.heap.size (w.alloc (.cells (List.replicate (m*sz) v).toArray e)) (Nat.le_refl _) (zdt w _ e) (zcm w _)⟩
 simp only[execOp,hx1,hy1,Sem.run_bind,hr,Result.andThen_ok]
 rfl
theorem zef {t e len:Nat} {parts:List (Nat × Operand)} (vs:List (Nat × Value)) (zs:List Value) (sz:Nat) (ht:P.underlying t=some (.slice e)) (hi:(P.info? e).map (fun i=>(i.zero.map (·.cells),i.size))=some (some zs.toArray,sz))
  (hv:(parts.map fun p=>(p.1,ev ρ p.2))=vs) (hlim:len*sz≤16777216) (hpos:0<len*sz)
  (hp:∀ i (hi:i<vs.length),vs[i].1*sz=(((vs.take i).map fun q=>q.2.cells.size).sum)∧vs[i].2.cells.size=sz) (hs:len*sz=((vs.map fun q=>q.2.cells.size).sum))
  (h:∀ g w',w.heap.size≤g→row w' g ((vs.map fun q=>q.2.cells.toList).flatten) e→Below w.heap.size w w'→K (.slice (some ⟨g,0,none⟩) len len) w'):Mk P ρ w ⟨d, .buildSlice t len parts.toArray,ty,pos,af,gd⟩ K:=by
 have hr:=zfL (P:=P) (w:=w) t e len vs.toArray ht sz zs.toArray hi hlim hpos (by simpa using hp) bI
 refine⟨_,_,?_,h w.heap.size (w.alloc (.cells ((vs.map fun q=>q.2.cells.toList).flatten).toArray e)) (Nat.le_refl _) (zdt w _ e) (zcm w _)⟩
 have hm:(parts.toArray.map fun(i,x)=>(i,ev ρ x))=vs.toArray:=by rw[←hv];simp
 simp only[execOp,hm,Sem.run_bind,hr,Result.andThen_ok]
 rfl
theorem zdd {t e:Nat} {x:Operand} (v:Value) (cl:List Value) (zs:List Value) (sz:Nat) (ht:P.underlying t=some (.slice e)) (hi:(P.info? e).map (fun i=>(i.zero.map (·.cells),i.size))=some (some zs.toArray,sz))
  (hx:ev ρ x=v) (hcl:v.cells=cl.toArray) (hsz:cl.length=sz) (hlim:0<sz∧sz≤16777216)
  (h:∀ g w',w.heap.size≤g→row w' g cl e→Below w.heap.size w w'→K (.slice (some ⟨g,0,none⟩) 1 1) w'):Mk P ρ w ⟨d, .buildSlice t 1 #[(0,x)],ty,pos,af,gd⟩ K:=by
 have hs2:v.cells.size=sz:=by rw[hcl];simpa using hsz
 refine zef (parts:=[(0,x)]) [(0,v)] zs sz ht hi (by simp[hx]) ae ae ?_ (by simp[hs2]) (by simpa [hcl]using h)
 intro i hi
 obtain rfl:i=0:=by simpa using hi
 simp[hs2]
theorem zdM(h:w.grownBy w' (Value.ownBlock (.slice none 0 0))):Below w.heap.size w w':=⟨h.os,h.tape,h.output,h.size,fun k hk=>h.block k hk aJ⟩
theorem zbf {t t' e sz bytes:Nat} {s x:Operand} {base m k c:Nat} {v:Value} {xs news:List Value} {sp:Option Addr} {z:Value} (ht:P.underlying t=some (.slice e)) (ht':t'=t)
  (hi:(P.info? e).map (fun i=>(i.zero,i.size,i.bytes))=some (some z,sz,bytes)) (hzs:z.cells.size=sz) (hsz:0<sz) (hs:ev ρ s=v) (hown:zaz w base e sz v m xs)
  (hx:ev ρ x= .slice sp k c) (hsrc:zaS w sp k sz news) (h1:∀ u∈news,u.oneCell'=true) (h63:m+k≤maxLen) (hbytes:(m+k)*bytes≤140737488355328) (hbase0:m=0→base≤w.heap.size)
  (h:∀ v' w',zaz w' base e sz v' (m+k) (xs++news)→w.grownBy w' v.ownBlock→(∀ g,v'.ownBlock=some g→v.ownBlock=some g∨w.heap.size≤g)→K v' w'):Mk P ρ w ⟨d, .call ⟨.builtin .append,#[s,x],#[t,t']⟩,ty,pos,af,gd⟩ K:=by
 subst ht'
 obtain⟨i,hq,hzz⟩:=Option.map_eq_some_iff.1 hi
 simp only[Prod.mk.injEq]at hzz
 obtain⟨hz,hsize,hby⟩:=hzz
 have hbase:base≤w.heap.size:=by
  rcases hown.2 with⟨_,h0⟩|⟨g,off,cap,cur,_,hb,hg,_⟩
  ·exact hbase0 h0
  ·have:=(Array.getElem?_eq_some_iff.1 hg).1;omega
 by_cases hk:k=0
 ·subst hk
  obtain rfl:news=[]:=List.eq_nil_of_length_eq_zero (by simpa using hsrc.len)
  obtain⟨p,c0,hv⟩:=hown.form
  have hcap:m≤c0:=by
   rcases hown.2 with⟨hv',h0⟩|⟨g,off,cap,cur,hv',_,_,h2,_⟩
   ·omega
   ·rw[hv]at hv';cases hv';exact h2
  have hrun:(Builtin.append_ #[t',t'] ty #[v, .slice sp 0 c]).run P w= .ok v w:=by
   subst hv
   cases sp with
   |none=>cases p<;>simp[Builtin.append_,run_underlying ht,Go.sizeOf,typeInfo,hq,Builtin.lenOf,hcap,Builtin.firstCells,storeCells,Result.andThen]
   |some a=>cases p<;>simp[Builtin.append_,run_underlying ht,Go.sizeOf,typeInfo,hq,Builtin.lenOf,hcap,Builtin.firstCells,loadCells,loadCellsFrom,storeCells,Result.andThen]
  refine⟨v,w,?_,h v w (by simpa using hown) ⟨rfl,rfl,rfl,Nat.le_refl _,fun _ _ _=>rfl⟩ fun g hg=>.inl hg⟩
  simp[execOp,resolve,invoke,builtin,hs,hx,hrun,Result.andThen]
 ·obtain⟨g0,o0,rfl,_⟩:=hsrc.some (Nat.mul_pos (Nat.pos_of_ne_zero hk) hsz)
  obtain⟨g,off,cap,w',hr,h2,h3,h4,h5,h6⟩:=ziS (P:=P) w base t' ty e i z sz bytes ht hq hz hsize hby hzs hsz v m xs hown ⟨g0,o0,none⟩ k c news hsrc.len
   (fun j u hu=>by rw[Addr.add_lit];exact hsrc.cell j hu) h1 (Nat.pos_of_ne_zero hk) h63 hbytes hbase
  refine⟨_,w',?_,h _ w' h2 h3 fun g' hg'=>?_⟩
  ·simp[execOp,resolve,invoke,builtin,hs,hx,hr,Result.andThen]
  ·simp[Value.ownBlock]at hg'
   subst hg'
   exact h4.imp id (fun e=>ae)
theorem znY {dT sT e:Nat} {x y:Operand} {dp sp:Option Addr} {dLen dCap sLen sCap:Nat} (hu:P.underlying dT=some (.slice e)) (hsz:zco P e 1=true) (hd:ev ρ x= .slice dp dLen dCap) (hs:ev ρ y= .slice sp sLen sCap)
  (g off:Nat) {l:List Value} {t:Nat} (hr:row w g l t) (cs:List Value) (hn:cs.length=Nat.min sLen dLen)
  (hpos:0<cs.length→dp=some ⟨g,off,none⟩∧∃ ad,sp=some ad∧∀ j v,cs[j]?=some v→w.cell? (ad.add j)=some v) (hfit:off+cs.length≤l.length) (h1:∀ v∈cs,v.oneCell'=true)
  (h:∀ w',row w' g (splice l off cs) t→Only g w w'→K (goInt cs.length) w'):Mk P ρ w ⟨d, .call ⟨.builtin .copy,#[x,y],#[dT,sT]⟩,ty,pos,af,gd⟩ K:=by
 by_cases h0:cs.length=0
 ·obtain rfl:cs=[]:=List.eq_nil_of_length_eq_zero h0
  have hrun:=run_copy_none (P:=P) w dT sT ty e dp sp dLen dCap sLen sCap hu (zeU hsz) (by simpa using hn.symm)
  refine⟨_,w,?_,h w (by simpa [splice]using hr) (Only.refl _ _)⟩
  simp[execOp,resolve,invoke,builtin,hd,hs,hrun,Result.andThen]
 ·obtain⟨rfl,ad,rfl,hsrc⟩:=hpos ae
  have hrun:=run_copy_row (P:=P) w dT sT ty e g off dLen dCap ad sLen sCap l.toArray t cs hu (zeU hsz) hr hn hsrc (by simpa using hfit) h1
  refine⟨_,_,?_,h _ (by simpa [row,splice]using setRow_heap w g _ _ t _ hr) (Only.setRow _)⟩
  simp[execOp,resolve,invoke,builtin,hd,hs,hrun,Result.andThen]
theorem zl5 {t k:Nat} {parts:List (Nat × Operand)} (vs:List (Nat × Value)) (places:List (Nat × Nat)) (hpl:placesOf P t=some places) (hk:(P.info? t).map (fun i=>i.zero.map (·.cells.size))=some (some k)) (hv:(parts.map fun p=>(p.1,ev ρ p.2))=vs)
  (hp:∀ i (hi:i<vs.length),places[vs[i].1]?=some (((vs.take i).map fun q=>q.2.cells.size).sum,vs[i].2.cells.size)) (hs:k=((vs.map fun q=>q.2.cells.size).sum)):
  (execOp (ev ρ) ⟨d, .build t parts.toArray,ty,pos,af,gd⟩).run P w= .ok (.value (.agg ((vs.map fun q=>q.2.cells.toList).flatten).toArray)) w:=by
 have:=zgO (P:=P) (w:=w) t vs.toArray places hpl k hk (by simpa using hp) bI
 have hm:(parts.toArray.map fun(i,x)=>(i,ev ρ x))=vs.toArray:=by rw[←hv];simp
 simp only[execOp,hm,Sem.run_bind,this,Result.andThen_ok]
 rfl
end
end
def iv(l:List Int):List Value:=l.map (.int .i64)
theorem zeE(l:List Int):(iv l).length=l.length:=by simp[iv]
section
variable {md:Option Nat→Prop}{P:Program}{n:Nat}{Q:Post}{ρ:Env}{w:World}{d:Option Nat}{ty:TypeId}{pos:String}{af:Array Edge}{gd:Option (Nat × Bool)}{Kw:World→Prop}
theorem zad{ops:Array Oper}{rest:List Oper}{o:Oper}{v:Value}{w':World}(hr:(execOp (ev ρ) o).run P w= .ok (.value v) w')(h:WR md P n ops rest Q (upo ρ o.dst v) w')(hg:o.guard=none:=by rfl):WR md P n ops (o::rest) Q ρ w:=WR_val hg hr h
theorem zau{t:Nat}{x:Operand}{g off tt:Nat}{l:List Value}{v:Value}(hr:row w g l tt)(hx:ev ρ x= .pointer (some ⟨g,off,none⟩):=by rfl)(ht:zhh P t=true:=by kernel_rfl)(hv:l[off]?=some v:=by rfl):(execOp (ev ρ) ⟨d, .load t x,ty,pos,af,gd⟩).run P w= .ok (.value v) w:=zaG hx (Ld.zeC hr ht hv)
theorem za7{t:Nat}{x:Operand}{g tt:Nat}(k:Nat){l:List Value}(hr:row w g l tt)(hx:ev ρ x= .pointer (some ⟨g,0,none⟩):=by rfl)(ht:zhg P t=true:=by kernel_rfl)(hs:zco P t k=true:=by kernel_rfl)(hk:l.length=k:=by first |(simp;done)|(simp[zal, *];done)|assumption):(execOp (ev ρ) ⟨d, .load t x,ty,pos,af,gd⟩).run P w= .ok (.value (.agg l.toArray)) w:=zaG hx (Ld.zb9 hr ht hs hk)
theorem zaw{t i:Nat}{x:Operand}{g o:Nat}(off:Nat)(ht:zlf P t i off=true:=by kernel_rfl)(hx:ev ρ x= .pointer (some ⟨g,o,none⟩):=by rfl):(execOp (ev ρ) ⟨d, .fieldAddr t x i,ty,pos,af,gd⟩).run P w= .ok (.value (.pointer (some ⟨g,o+off,none⟩))) w:=zjX ht hx
theorem zbn {t:Nat} {x y:Operand} {g off:Nat} {v:Value} {l:List Value} {tt:Nat} (hr:row w g l tt) (h:∀ w',row w' g (l.set off v) tt→Only g w w'→Kw w') (hx:ev ρ x= .pointer (some ⟨g,off,none⟩):=by rfl) (hy:ev ρ y=v:=by rfl) (hv:v.cells=#[v]:=by rfl) (h1:v.oneCell'=true:=by rfl) (hs:zco P t 1=true:=by kernel_rfl)
 (hfit:off<l.length:=by first |omega|(simp only[List.length_replicate];omega)|(simp only[zeE];omega)|(simp only[zal,List.length_set];omega)|simp):Sk P ρ w ⟨d, .store t x y,ty,pos,af,gd⟩ Kw:=znW hx hy hv h1 hr hs hfit h
theorem zaQ {t:Nat} {x y:Operand} {g:Nat} (k:Nat) (vs:List Value) {l:List Value} {tt:Nat} (hr:row w g l tt) (h:∀ w',row w' g vs tt→Only g w w'→Kw w') (hx:ev ρ x= .pointer (some ⟨g,0,none⟩):=by rfl) (hy:(ev ρ y).cells=vs.toArray:=by rfl) (hs:zco P t k=true:=by kernel_rfl) (hk:vs.length=k:=by first |assumption|(simp;done)|(simp[zal, *];done))
 (hfit:l.length=k:=by first |assumption|(simp;done)|(simp[zal, *];done)|rfl) (h1:∀ v∈vs,v.oneCell'=true:=by first |exact zbV _|assumption|(simp[Value.oneCell'];done)):Sk P ρ w ⟨d, .store t x y,ty,pos,af,gd⟩ Kw:=zdY k vs hx hy hr hs hk hfit h1 h
end
section
variable {md:Option Nat→Prop}{P:Program}{n:Nat}{l:List Oper}{S:World→Prop}{Q:Post}{done:List Nat}{ρ:Env}{w:World}
theorem zbo(i:Nat){v:Value}(hv:∀ w',S w'→(execOp (ev ρ) (zb4 l i)).run P w'= .ok (.value v) w')(h:WA md P n l S Q (i::done) (upo ρ (zb4 l i).dst v) w)(hc:zfo l done i=true:=by kernel_rfl)(hw:Region.wanted (zb4 l i) (yl l.toArray ρ)=true:=by rfl):WA md P n l S Q done ρ w:=znS i hc hw hv h
theorem zas(i:Nat){v:Value}(hv:∀ {w'},(execOp (ev ρ) (zb4 l i)).run P w'= .ok (.value v) w')(h:WA md P n l S Q (i::done) (upo ρ (zb4 l i).dst v) w)(hc:zfo l done i=true:=by kernel_rfl)(hw:Region.wanted (zb4 l i) (yl l.toArray ρ)=true:=by rfl):WA md P n l S Q done ρ w:=znS i hc hw (fun _ _=>hv) h
end
structure zdZ(w:World)(lo:Nat)(o:Option Nat)(vs:List Value)(L:List (List UInt8)):Prop where
 len:vs.length=L.length
 at_:∀ (i:Nat) l,L[i]?=some l→∃ b off c,vs[i]?=some (.slice (some ⟨b,off,none⟩) l.length c)∧zaS w (some ⟨b,off,none⟩) l.length 1 (bv l)∧b<w.heap.size∧some b≠o∧l.length≤c∧lo≤b
namespace zdZ
variable {w w':World}{lo:Nat}{o:Option Nat}{vs:List Value}{L:List (List UInt8)}
theorem nil(w:World)(lo:Nat)(o:Option Nat):zdZ w lo o [] []:=⟨rfl,fun i l h=>by simp at h⟩
theorem kp{M:List Nat}(h:zdZ w lo o vs L)(k:Kp M w w')(hM:∀ g,g∈M→w.heap.size≤g∨o=some g):zdZ w' lo o vs L:=⟨h.len,fun i l hl=>by
 obtain⟨b,off,c,h1,h2,h3,h4,h5⟩:=h.at_ i l hl
 refine⟨b,off,c,h1,h2.kpd k fun b' o' e hm=>?_,Nat.lt_of_lt_of_le h3 k.size,h4,h5⟩
 cases e
 exact(hM b hm).elim (fun e=>ae) fun e=>h4 e.symm⟩
theorem new(h:zdZ w lo o vs L)(hb:Below w.heap.size w w'):zdZ w' lo o vs L:=h.kp (M:=[]) (Kp.of_below hb) ay
theorem to{o':Option Nat}(h:zdZ w lo o vs L)(ho:∀ g,o'=some g→o=some g∨w.heap.size≤g):zdZ w lo o' vs L:=⟨h.len,fun i l hl=>by
 obtain⟨b,off,c,h1,h2,h3,h4,h5⟩:=h.at_ i l hl
 exact⟨b,off,c,h1,h2,h3,fun e=>(ho b e.symm).elim (fun e'=>h4 e'.symm) (fun e'=>ae),h5⟩⟩
theorem grow{v v':Value}(h:zdZ w lo v.ownBlock vs L)(hg:w.grownBy w' v.ownBlock)(hf:∀ g,v'.ownBlock=some g→v.ownBlock=some g∨w.heap.size≤g):zdZ w' lo v'.ownBlock vs L:=⟨h.len,fun i l hl=>by
 obtain⟨b,off,c,h1,h2,h3,h4,h5⟩:=h.at_ i l hl
 refine⟨b,off,c,h1,h2.kpd (Kp.za6 hg) fun b' o' e hm=>?_,Nat.lt_of_lt_of_le h3 hg.size,fun e=>(hf b e.symm).elim (fun e'=>h4 e'.symm) (fun e'=>ae),h5⟩
 cases e
 simp only[Option.mem_toList]at hm
 exact h4 hm.symm⟩
theorem snoc{b off c:Nat}{l:List UInt8}(h:zdZ w lo o vs L)(h2:zaS w (some ⟨b,off,none⟩) l.length 1 (bv l))(h3:b<w.heap.size)(h4:some b≠o)(h5:l.length≤c)(h6:lo≤b):zdZ w lo o (vs++[.slice (some ⟨b,off,none⟩) l.length c]) (L++[l]):=
 ⟨by simp[h.len],fun i l' hl=>by
  by_cases hi:i<L.length
  ·rw[List.getElem?_append_left hi]at hl
   obtain⟨b',off',c',e1,e2,e3,e4,e5⟩:=h.at_ i l' hl
   exact⟨b',off',c',by rw[List.getElem?_append_left (by rw[h.len];exact hi)];exact e1,e2,e3,e4,e5⟩
  ·have hi':i=L.length:=by
    have:=(List.getElem?_eq_some_iff.1 hl).1
    simp at this;omega
   subst hi'
   simp at hl
   subst hl
   exact⟨b,off,c,by rw[←h.len];simp,h2,h3,h4,h5,h6⟩⟩
theorem mono{lo':Nat}(h:zdZ w lo o vs L)(hl:lo'≤lo):zdZ w lo' o vs L:=⟨h.len,fun i l hl'=>by
 obtain⟨b,off,c,h1,h2,h3,h4,h5,h6⟩:=h.at_ i l hl'
 exact⟨b,off,c,h1,h2,h3,h4,h5,Nat.le_trans hl h6⟩⟩
end zdZ
structure zfc(B:Nat)(w w':World):Prop where
 os:w'.os=w.os
 tape:w'.tape=w.tape
 output:w'.output=w.output
 size:w.heap.size≤w'.heap.size
 block:∀ k,k<w.heap.size→w'.heap[k]?=w.heap[k]?∨(B≤k∧∃ o:Obj,w.heap[k]?=some o∧o.isCells=false)
namespace zfc
variable {B:Nat}{w w' w2:World}
theorem refl(B:Nat)(w:World):zfc B w w:=⟨rfl,rfl,rfl,Nat.le_refl _,fun _ _=>.inl rfl⟩
theorem of_below(h:Below w.heap.size w w'):zfc B w w':=⟨h.os,h.tape,h.output,h.size,fun k hk=>.inl (h.block k hk)⟩
theorem trans(h:zfc B w w')(k:zfc B w' w2):zfc B w w2:=
 ⟨k.os.trans h.os,k.tape.trans h.tape,k.output.trans h.output,Nat.le_trans h.size k.size,fun i hi=>by
  rcases h.block i hi with e|e
  ·rcases k.block i (Nat.lt_of_lt_of_le hi h.size)with e2|⟨e2,o,e3,e4⟩
   ·exact .inl (e2.trans e)
   ·exact .inr ⟨e2,o,by rw[←e];exact e3,e4⟩
  ·exact .inr e⟩
theorem put{l:Nat}{o:Obj}(o':Obj)(hl:w.heap[l]?=some o)(hB:B≤l)(ho:o.isCells=false):zfc B w (w.putObj l o'):=
 ⟨rfl,rfl,rfl,ay,fun k _=>by
  by_cases e:k=l
  ·subst e;exact .inr ⟨hB,o,hl,ho⟩
  ·exact .inl (World.putObj_heap_other e)⟩
theorem cells(h:zfc B w w'){g:Nat}{o:Obj}(hg:w.heap[g]?=some o)(ho:o.isCells=true):w'.heap[g]?=some o:=by
 rcases h.block g (Array.getElem?_eq_some_iff.1 hg).1 with e|⟨_,o',e,e2⟩
 ·rw[e];exact hg
 ·rw[hg]at e;cases e;simp[ho]at e2
end zfc
section
variable {B:Nat}{w w0 w':World}
theorem row.soft{g t:Nat}{cs:List Value}(h:row w g cs t)(k:zfc B w w'):row w' g cs t:=k.cells h rfl
theorem _root_.Go.RowKit.Below.soft(h:Below w0.heap.size w0 w)(k:zfc B w w')(hB:w0.heap.size≤B):Below w0.heap.size w0 w':=
 ⟨k.os.trans h.os,k.tape.trans h.tape,k.output.trans h.output,Nat.le_trans h.size k.size,fun i hi=>by
  rcases k.block i (Nat.lt_of_lt_of_le hi h.size)with e|⟨e,_⟩
  ·exact e.trans (h.block i hi)
  ·omega⟩
theorem Kp.soft{M:List Nat}(h:Kp M w0 w)(k:zfc B w w')(hB:w0.heap.size≤B):Kp M w0 w':=
 ⟨k.os.trans h.os,k.tape.trans h.tape,k.output.trans h.output,Nat.le_trans h.size k.size,fun i hi hm=>by
  rcases k.block i (Nat.lt_of_lt_of_le hi h.size)with e|⟨e,_⟩
  ·exact e.trans (h.block i hi hm)
  ·omega⟩
theorem zaS.soft{p:Option Addr}{m sz:Nat}{cs:List Value}(h:zaS w p m sz cs)(k:zfc B w w'):zaS w' p m sz cs:=by
 refine⟨h.len,h.max,fun h0=>?_⟩
 obtain⟨b,off,hp,hlt,hc⟩:=h.at_ h0
 refine⟨b,off,hp,Nat.lt_of_lt_of_le hlt k.size,fun j hj=>?_⟩
 rw[←hc j hj]
 have hb:w'.heap[b]?=w.heap[b]?:=by
  rcases k.block b hlt with e|⟨_,o,e,e2⟩
  ·exact e
  ·have h1:=hc 0 h0
   have h2:∃ u,cs[0]?=Option.some u:=⟨_,List.getElem?_eq_getElem (by rw[h.len];exact h0)⟩
   obtain⟨u,h2⟩:=h2
   rw[h2]at h1
   simp only[World.cell?,e]at h1
   cases o<;>simp[Obj.isCells]at e2 h1
 simp only[World.cell?,hb]
theorem zaz.soft{base e sz m:Nat}{v:Value}{xs:List Value}(h:zaz w base e sz v m xs)(k:zfc B w w'):zaz w' base e sz v m xs:=by
 refine⟨h.1,?_⟩
 rcases h.2 with hn|⟨g,off,cap,cur,rfl,hb,hgg,rest⟩
 ·exact .inl hn
 ·exact .inr ⟨g,off,cap,cur,rfl,hb,k.cells hgg rfl,rest⟩
theorem zdZ.soft{lo:Nat}{o:Option Nat}{vs:List Value}{L:List (List UInt8)}(h:zdZ w lo o vs L)(k:zfc B w w'):zdZ w' lo o vs L:=⟨h.len,fun i l hl=>by
 obtain⟨b,off,c,h1,h2,h3,h4⟩:=h.at_ i l hl
 exact⟨b,off,c,h1,h2.soft k,Nat.lt_of_lt_of_le h3 k.size,h4⟩⟩
theorem zcr{M:List Nat}(h:Kp M w w')(hM:∀ g,g∈M→g<B∨∃ o:Obj,w.heap[g]?=some o∧o.isCells=true):KeepsFrom B w w':=
 ⟨h.size,fun k o hB hk ho=>by
  rw[h.block k (Array.getElem?_eq_some_iff.1 hk).1 fun hm=>by
   rcases hM k hm with e|⟨o',e,e2⟩
   ·omega
   ·rw[hk]at e;cases e;simp[ho]at e2]
  exact hk⟩
end
def zio(P:Program)(l:Nat)(v:List Value)(W:World)(R:Ending→World→Prop):Prop:=
 ∃ fn tmps x y,(Instr.yield l v.toArray).run P W= .ok (.round l fn tmps x y) W∧RoundIn Fence.wide 0 P l fn tmps x y W R
def SeqT(P:Program)(gf:Nat)(lb:List Value)(xs:List (List Value))(ks:List Nat)(w:World):Prop:=
 ∀ (l:Nat) (J:Nat→World→Prop) (Jx:World→Prop) (W:World),Below w.heap.size w W→
  (∀ k W W',J k W→Below W.heap.size W W'→J k W')→(∀ W W',Jx W→Below W.heap.size W W'→Jx W')→
  (∀ k v W1,xs[k]?=some v→J k W1→zio P l v W1 fun e W'=>(e= .returned (.bool true)∧J (k+1) W'∧(∀ b,b∈ks→W'.heap[b]?=W1.heap[b]?)∧W1.heap.size≤W'.heap.size)∨(e= .returned (.bool false)∧Jx W'))→
  J 0 W→Calls P gf (.func (.yield l) #[] #[]::lb).toArray W (Ret fun _ W'=>J xs.length W'∨Jx W')
section
variable {md:Option Nat→Prop}{P:Program}{n:Nat}{Q:Post}{ρ:Env}{w w0:World}
theorem zjY {d:Option Nat} {ty:TypeId} {pos:String} {af:Array Edge} {gd:Option (Nat × Bool)} {K:Env→World→Prop} {x:Operand} {al:List Operand} {vl:List Value} {ats:Array Nat} {l:Nat} {R:Ending→World→Prop}
  (hx:ev ρ x= .func (.yield l) #[] #[]) (hv:al.map (ev ρ)=vl) (hy:zio P l vl w R) (h:∀ e w',R e w'→∃ v,e= .returned v∧K (upo ρ d v) w'):
  OpR P ⟨d, .call ⟨.value x,al.toArray,ats⟩,ty,pos,af,gd⟩ K ρ w:=by
 obtain⟨fn,tmps,a,b,hr,hround⟩:=hy
 have hm:al.toArray.map (ev ρ)=vl.toArray:=by rw[←hv];simp
 have hrun:(execOp (ev ρ) ⟨d, .call ⟨.value x,al.toArray,ats⟩,ty,pos,af,gd⟩).run P w= .ok (.round l fn tmps a b) w:=by
  simp only[execOp,resolve,hm,hx,Deferred.ofValue]
  simp[invoke,hr,Result.andThen]
 unfold OpR
 rw[hrun]
 exact hround.mono h
theorem zi3 {ops:Array Oper} {rest:List Oper} {d:Option Nat} {ty:TypeId} {pos:String} {af:Array Edge} {x:Operand} {al:List Operand} {vl:List Value} {ats:Array Nat} {l:Nat} {R:Ending→World→Prop}
 (hx:ev ρ x= .func (.yield l) #[] #[]) (hv:al.map (ev ρ)=vl) (hy:zio P l vl w R) (h:∀ e w',R e w'→∃ v,e= .returned v∧WR md P n ops rest Q (upo ρ d v) w'):
 WR md P n ops (⟨d, .call ⟨.value x,al.toArray,ats⟩,ty,pos,af,none⟩::rest) Q ρ w:=zpU rfl (zjY hx hv hy h)
def zjH(f:Nat→Value):List Nat→List Value→Env
 |p::ps,v::vs=>up (zjH f ps vs) p v
 |_,_=>⟨f,[]⟩
theorem znZ{a:Act}(ha:Ag n a ρ):∀ (ps:List Nat) (v:List Value) (t:Array Value),t.size=n→(∀ i,t.getD i undef=ρ.f i)→(∀ p,p∈ps→p<n)→ps.Nodup→
  Ag n {tmps:=(ps.zip v).foldl (fun t (p,u)=>t.setIfInBounds p u) t,defers:=[]} (zjH ρ.f ps v):=by
 have gen:∀ (ps:List Nat) (v:List Value) (t:Array Value) (f:Nat→Value),t.size=n→(∀ i,t.getD i undef=f i)→(∀ p,p∈ps→p<n)→ps.Nodup→
   Ag n {tmps:=(ps.zip v).foldl (fun t (p,u)=>t.setIfInBounds p u) t,defers:=[]} (zjH f ps v):=by
  intro ps
  induction ps with
  |nil=>intro v t f h1 h2 _ _;exact⟨rfl,h1,h2⟩
  |cons p ps ih=>
   intro v t f h1 h2 h3 h4
   cases v with
   |nil=>exact⟨rfl,h1,h2⟩
   |cons u v=>
    have hp:=h3 p ay
    have h5:=List.nodup_cons.1 h4
    have:=ih v (t.setIfInBounds p u) (fun i=>bif Nat.beq i p then u else f i) (by simp[h1]) (fun i=>by
     by_cases e:i=p
     ·subst e;have hb:Nat.beq i i=true:=Nat.beq_refl i;simp[h1,hp,hb]
     ·have hb:Nat.beq i p=false:=by rw[Bool.eq_false_iff];intro e';exact e (Nat.eq_of_beq_eq_true e')
      have:=h2 i
      simp only[hb,cond_false,←this]
      simp[Array.getElem?_setIfInBounds_ne (Ne.symm e)]) (fun q hq=>h3 q (by simp[hq])) h5.2
    have he:zjH (fun i=>bif Nat.beq i p then u else f i) ps v=zjH f (p::ps) (u::v):=by
     clear this ih
     have key:∀ (ps:List Nat) (v:List Value),p∉ps→zjH (fun i=>bif Nat.beq i p then u else f i) ps v=up (zjH f ps v) p u:=by
      intro ps
      induction ps with
      |nil=>intro v _;rfl
      |cons q ps ih=>
       intro v hn
       cases v with
       |nil=>rfl
       |cons x v=>
        simp only[zjH]
        rw[ih v (by intro h;exact hn (by simp[h]))]
        exact zeT (zjH f ps v) (d:=some p) (e:=some q) u x (fun k hk e=>by cases hk;cases e;exact hn ay)
     exact key ps v h5.1
    rw[←he]
    exact this
 exact fun ps v t=>gen ps v t ρ.f
def roundQ(B:Nat)(ks:List Nat)(I:Nat→World→Prop)(Ix:Code→World→Prop)(k:Nat)(W2:World):Post
 | .normal,_,W'=>KeepsFrom B W2 W'∧(∀ b,b∈ks→W'.heap[b]?=W2.heap[b]?)∧I (k+1) W'
 | .ret,_,W'=>KeepsFrom B W2 W'∧Ix .ret W'
 | .exit id,_,W'=>KeepsFrom B W2 W'∧Ix (.exit id) W'
 |_,_,_=>False
end
section
variable {P:Program}{ρ:Env}{w:World}{d:Option Nat}{ty:TypeId}{pos:String}{af:Array Edge}{gd:Option (Nat × Bool)}
def zfr(P:Program)(t n:Nat):Bool:=
 (match P.underlying t with|some (.array m e)=>Nat.beq m n && (match P.underlying e with|some (.int .u8)=>true|_=>false) && Nat.beq (P.cellsOf e) 1 && (P.info? e).isSome|_=>false) && !P.eqGuardType P.depth t
theorem zfQ{e:TypeId}(dd:Nat)(he:P.underlying e=some (.int .u8)):∀ (is:List Nat) (a b:List UInt8) (w:World),(∀ i,i∈is→i<a.length)→a.length=b.length→
  (Op.eqItems (dd+1) e 1 (bv a).toArray (bv b).toArray is).run P w= .ok (is.all fun i=>a[i]? == b[i]?) w
 |[],_,_,w,_,_=>rfl
 |i::is,a,b,w,h,hl=>by
  have hi:=h i ay
  have hib:i<b.length:=by omega
  have pa:∀ (l:List UInt8) (w:World),i<l.length→(part e (bv l).toArray (i*1)).run P w= .ok (zcK (l.getD i 0)) w:=by
   intro l w hli
   have hag:(isAgg e).run P w= .ok false w:=by simp[isAgg,run_underlying he]
   have hg:(bv l)[i]?=some (zcK (l.getD i 0)):=znL l i hli
   simp[part,hag,hg,Result.andThen]
  simp only[Op.eqItems,Sem.run_bind,pa a w hi,pa b w hib,Result.andThen_ok,zcK,run_equalIn_int w dd e .u8 .u8 _ _ he]
  have e1:(a[i]? == b[i]?)=(((a.getD i 0).toNat:Int) == ((b.getD i 0).toNat:Int)):=by
   rw[List.getD_eq_getElem?_getD,List.getD_eq_getElem?_getD,List.getElem?_eq_getElem hi,List.getElem?_eq_getElem hib]
   simp only[Option.getD_some]
   rw[Bool.eq_iff_iff]
   simp only[beq_iff_eq,Option.some.injEq]
   exact⟨fun h=>by rw[h],fun h=>UInt8.toNat_inj.1 ae⟩
  rw[List.all_cons,e1]
  cases hc:((((a.getD i 0).toNat:Int) == ((b.getD i 0).toNat:Int)):Bool)
  ·simp
  ·simp only[Bool.not_true,Bool.false_eq_true,if_false,Bool.true_and]
   exact zfQ dd he is a b w (fun j hj=>h j (by simp[hj])) hl
theorem all_range_eq(a b:List UInt8)(hl:a.length=b.length):((List.range a.length).all fun i=>a[i]? == b[i]?)=decide (a=b):=by
 rw[Bool.eq_iff_iff,List.all_eq_true,decide_eq_true_iff]
 constructor
 ·intro h
  apply List.ext_getElem?
  intro i
  by_cases hi:i<a.length
  ·have:=h i (List.mem_range.2 hi);simpa using this
  ·rw[List.getElem?_eq_none ae,List.getElem?_eq_none ae]
 ·rintro rfl i _;simp
theorem zeF{t n:Nat}(ht:zfr P t n=true)(a b:List UInt8)(ha:a.length=n)(hb:b.length=n)(w:World):(Op.equalIn 10000 t (.agg (bv a).toArray) (.agg (bv b).toArray)).run P w= .ok (decide (a=b)) w:=by
 unfold zfr at ht
 simp only[Bool.and_eq_true]at ht
 have h1:=ht.1
 split at h1
 ·rename_i m e hu
  simp only[Bool.and_eq_true]at h1
  obtain⟨⟨⟨h2,h3⟩,h4⟩,h5⟩:=h1
  have he:P.underlying e=some (.int .u8):=by
   split at h3
   ·assumption
   ·cases h3
  obtain⟨i,hi⟩:=Option.isSome_iff_exists.1 h5
  rw[show 10000=9999+1 from rfl,run_equalIn_array w 9999 _ _ hu hi,Nat.eq_of_beq_eq_true h4,Nat.eq_of_beq_eq_true h2,show 9999=9998+1 from rfl,zfQ 9998 he _ a b w (by intro i hi;simp at hi;omega) ae,
   ←ha,all_range_eq a b ae]
 ·cases h1
theorem zfR{t n:Nat}(ht:zfr P t n=true):P.eqGuardType P.depth t=false:=by
 unfold zfr at ht
 simp only[Bool.and_eq_true,Bool.not_eq_true']at ht
 exact ht.2
theorem zn0{t t' n:Nat}{x y:Operand}{a b:List UInt8}(ht:zfr P t n=true)(hx:ev ρ x= .agg (bv a).toArray)(hy:ev ρ y= .agg (bv b).toArray)(ha:a.length=n)(hb:b.length=n):
  (execOp (ev ρ) ⟨d, .binOp .eql t x y t',ty,pos,af,gd⟩).run P w= .ok (.value (.bool (decide (a=b)))) w:=by
 have h1:=run_eqGuard_agg (P:=P) w .eql t x y (bv a).toArray (bv b).toArray (zfR ht)
 simp only[execOp,hx,hy,Sem.run_bind,h1,Result.andThen_ok,run_eql_struct,zeF ht a b ha hb w]
 rfl
theorem zli{t t' n:Nat}{x y:Operand}{a b:List UInt8}(ht:zfr P t n=true)(hx:ev ρ x= .agg (bv a).toArray)(hy:ev ρ y= .agg (bv b).toArray)(ha:a.length=n)(hb:b.length=n):
  (execOp (ev ρ) ⟨d, .binOp .neq t x y t',ty,pos,af,gd⟩).run P w= .ok (.value (.bool (!decide (a=b)))) w:=by
 have h1:=run_eqGuard_agg (P:=P) w .neq t x y (bv a).toArray (bv b).toArray (zfR ht)
 simp only[execOp,hx,hy,Sem.run_bind,h1,Result.andThen_ok,run_neq_struct,zeF ht a b ha hb w]
 rfl
def pairT (P : Program) (t : Nat) (k0 k1 : IntKind) : Bool :=
  (match P.underlying t with
   | some (.struct fs) => (match fs.toList with
     | [f0, f1] => (f0.name != "_") && (f1.name != "_") && Nat.beq f0.offset 0 && Nat.beq f1.offset 1 && intT P f0.type k0 && intT P f1.type k1
     | _ => false)
   | _ => false) && !P.eqGuardType P.depth t && !P.stoodInHeld t
theorem zgn{t:Nat}{k:IntKind}(h:intT P t k=true):P.underlying t=some (.int k):=by
 unfold intT at h
 split at h
 ·rename_i k' hu;rw[hu];simp at h;rw[h]
 ·cases h
theorem zfd{t:Nat}{k0 k1:IntKind}(ht:pairT P t k0 k1=true)(a b a' b':Int)(w:World):(Op.equalIn 10000 t (.agg #[.int k0 a, .int k1 b]) (.agg #[.int k0 a', .int k1 b'])).run P w= .ok (decide (a=a'∧b=b')) w:=by
 unfold pairT at ht
 simp only[Bool.and_eq_true,Bool.not_eq_true']at ht
 obtain⟨⟨h1,_⟩,h3⟩:=ht
 split at h1
 ·rename_i fs hu
  split at h1
  ·rename_i f0 f1 hfs
   simp only[Bool.and_eq_true,bne_iff_ne,ne_eq]at h1
   obtain⟨⟨⟨⟨⟨n0,n1⟩,o0⟩,o1⟩,i0⟩,i1⟩:=h1
   have u0:=zgn i0
   have u1:=zgn i1
   have hf:P.fieldsOf t=fs:=by simp[Program.fieldsOf,hu]
   rw[show 10000=9999+1 from rfl,run_equalIn_struct w 9999 t _ _ (by rw[hf];exact hu) h3,hf,hfs]
   have g0:(isAgg f0.type).run P w= .ok false w:=by simp[isAgg,run_underlying u0]
   have g1:(isAgg f1.type).run P w= .ok false w:=by simp[isAgg,run_underlying u1]
   have e0:=Nat.eq_of_beq_eq_true o0
   have e1:=Nat.eq_of_beq_eq_true o1
   have p0:∀ (x y:Int),(part f0.type #[.int k0 x, .int k1 y] f0.offset).run P w= .ok (.int k0 x) w:=fun x y=>by simp[part,g0,e0,Result.andThen]
   have p1:∀ (x y:Int),(part f1.type #[.int k0 x, .int k1 y] f1.offset).run P w= .ok (.int k1 y) w:=fun x y=>by simp[part,g1,e1,Result.andThen]
   have s0:=run_equalIn_int w 9998 f0.type k0 k0 a a' u0
   have s1:=run_equalIn_int w 9998 f1.type k1 k1 b b' u1
   simp only[Op.eqFields,n0,n1,ne_eq,not_false_eq_true,if_true,Sem.run_bind,p0,p1,Result.andThen_ok,show 9999=9998+1 from rfl,s0]
   by_cases h:a=a'
   ·subst h
    simp only[beq_self_eq_true,Bool.not_true,Bool.false_eq_true,if_false,Sem.run_bind,p1,Result.andThen_ok,s1]
    by_cases h':b=b'<;>simp[h']
   ·have:(a == a')=false:=by simpa using h
    simp[this,h]
  ·cases h1
 ·cases h1
theorem zhk{t:Nat}{k0 k1:IntKind}(ht:pairT P t k0 k1=true):P.eqGuardType P.depth t=false:=by
 unfold pairT at ht
 simp only[Bool.and_eq_true,Bool.not_eq_true']at ht
 exact ht.1.2
theorem rn_eqlP{t t':Nat}{k0 k1:IntKind}{x y:Operand}{a b a' b':Int}(ht:pairT P t k0 k1=true)(hx:ev ρ x= .agg #[.int k0 a, .int k1 b])(hy:ev ρ y= .agg #[.int k0 a', .int k1 b']):
  (execOp (ev ρ) ⟨d, .binOp .eql t x y t',ty,pos,af,gd⟩).run P w= .ok (.value (.bool (decide (a=a'∧b=b')))) w:=by
 have h1:=run_eqGuard_agg (P:=P) w .eql t x y #[.int k0 a, .int k1 b] #[.int k0 a', .int k1 b'] (zhk ht)
 simp only[execOp,hx,hy,Sem.run_bind,h1,Result.andThen_ok,run_eql_struct,zfd ht a b a' b' w]
 rfl
theorem rn_neqP{t t':Nat}{k0 k1:IntKind}{x y:Operand}{a b a' b':Int}(ht:pairT P t k0 k1=true)(hx:ev ρ x= .agg #[.int k0 a, .int k1 b])(hy:ev ρ y= .agg #[.int k0 a', .int k1 b']):
  (execOp (ev ρ) ⟨d, .binOp .neq t x y t',ty,pos,af,gd⟩).run P w= .ok (.value (.bool (!decide (a=a'∧b=b')))) w:=by
 have h1:=run_eqGuard_agg (P:=P) w .neq t x y #[.int k0 a, .int k1 b] #[.int k0 a', .int k1 b'] (zhk ht)
 simp only[execOp,hx,hy,Sem.run_bind,h1,Result.andThen_ok,run_neq_struct,zfd ht a b a' b' w]
 rfl
def strOf(l:List UInt8):Value:=.string ⟨l.toArray⟩
theorem zl6{s t e:Nat}{x:Operand}{p:Option Addr}{m c:Nat}{l:List UInt8}(hs:P.underlying s=some (.slice e))(he:P.underlying e=some (.int .u8))(hd:P.underlying t=some .string)(hx:ev ρ x= .slice p m c)(hl:zaS w p m 1 (bv l)):
  (execOp (ev ρ) ⟨d, .convert s t x,ty,pos,af,gd⟩).run P w= .ok (.value (strOf l)) w:=by
 have hlen:l.length=m:=by simpa [zal]using hl.len
 have hrun:(convert s t (.slice p m c)).run P w= .ok (strOf l) w:=by
  by_cases h0:m=0
  ·subst h0
   obtain rfl:l=[]:=List.eq_nil_of_length_eq_zero hlen
   cases p with
   |none=>simp[convert,run_underlying hs,run_underlying he,run_underlying hd,Conv.bytesToString,strOf,Result.andThen];rfl
   |some a=>
    have:=run_convert_bytes_string (P:=P) w s t e a 0 c hs he hd
    rw[this]
    simp[Conv.bytesToString,loadCells,loadCellsFrom,strOf,Result.andThen]
    rfl
  ·obtain⟨g,off,rfl,_⟩:=hl.some ae
   have:=run_convert_bytes_arg (P:=P) w s e hs he g off m c (l.map fun b=>(b.toNat:Int)) (by simpa using hlen) (fun i hi=>by
    rw[hl.cell i (v:=zcK (l.getD i 0)) (znL l i ae)]
    have:i<l.length:=by omega
    simp[zcK,List.getD,List.getElem?_eq_getElem this]) t hd
   rw[this]
   have hm:(l.map fun b=>(b.toNat:Int)).map (fun n=>UInt8.ofNat n.toNat)=l:=by
    rw[List.map_map]
    have:(fun(n:Int)=>UInt8.ofNat n.toNat) ∘ (fun(b:UInt8)=>(b.toNat:Int))=id:=by funext b;simp
    rw[this,List.map_id]
   rw[strOfNums,hm]
   rfl
 simp[execOp,hx,hrun,Result.andThen]
theorem rn_eqlS{t t':Nat}{x y:Operand}{a b:List UInt8}(hx:ev ρ x=strOf a)(hy:ev ρ y=strOf b):
  (execOp (ev ρ) ⟨d, .binOp .eql t x y t',ty,pos,af,gd⟩).run P w= .ok (.value (.bool (decide (a=b)))) w:=by
 have:((⟨a.toArray⟩:ByteArray).toList == (⟨b.toArray⟩:ByteArray).toList)=decide (a=b):=by
  rw[ByteArray.toList_eq,ByteArray.toList_eq];simp only[List.toList_toArray];rw[Bool.eq_iff_iff];simp
 simp only[execOp,hx,hy,strOf,eqGuard,binOp,Op.stringOp,this]
 simp[Result.andThen]
theorem rn_neqS{t t':Nat}{x y:Operand}{a b:List UInt8}(hx:ev ρ x=strOf a)(hy:ev ρ y=strOf b):
  (execOp (ev ρ) ⟨d, .binOp .neq t x y t',ty,pos,af,gd⟩).run P w= .ok (.value (.bool (!decide (a=b)))) w:=by
 have:((⟨a.toArray⟩:ByteArray).toList == (⟨b.toArray⟩:ByteArray).toList)=decide (a=b):=by
  rw[ByteArray.toList_eq,ByteArray.toList_eq];simp only[List.toList_toArray];rw[Bool.eq_iff_iff];simp
 simp only[execOp,hx,hy,strOf,eqGuard,binOp,Op.stringOp,this]
 simp[Result.andThen]
end
section
variable {P:Program}{ρ:Env}{w:World}{d:Option Nat}{ty:TypeId}{pos:String}{af:Array Edge}{gd:Option (Nat × Bool)}
theorem zbN{t:Nat}(cs:List Value)(hb:P.built t []=some cs.toArray):(execOp (ev ρ) ⟨d, .build t #[],ty,pos,af,gd⟩).run P w= .ok (.value (.agg cs.toArray)) w:=by
 have:=run_build (P:=P) w t #[] cs.toArray bn
 simp only[execOp,List.map_toArray,List.map_nil,Sem.run_bind,this,Result.andThen_ok]
 rfl
theorem zi4{t:Nat}{k0 k1:IntKind}{x y:Operand}{a b:Int}(hp:placesOf P t=some [(0,1),(1,1)])(hk:(P.info? t).map (fun i=>i.zero.map (·.cells.size))=some (some 2))(hx:ev ρ x= .int k0 a)(hy:ev ρ y= .int k1 b):
  (execOp (ev ρ) ⟨d, .build t #[(0,x),(1,y)],ty,pos,af,gd⟩).run P w= .ok (.value (.agg #[.int k0 a, .int k1 b])) w:=
 zl5 (parts:=[(0,x),(1,y)]) [(0, .int k0 a),(1, .int k1 b)] [(0,1),(1,1)] hp hk (by simp[hx,hy])
  (by intro i hi;rcases i with _|_|i<;>first |rfl|(exfalso;simp only[List.length_cons,List.length_nil]at hi;omega)) rfl
end
end Coup
