import Derived.WalkKit
import Derived.Lib.Hide
import Derived.Maps.AppendAt
import Derived.Deep.RegionLaw
import Derived.MapKept
import Derived.Deep.QuietTactic
import Derived.BigQuiet
import Derived.Laws.CopyOwn
import Derived.Laws.Rows
import Derived.Deep.MidRow
import Derived.Laws.MakeOwn
import Derived.OrdersIn
import Derived.TacticsIn
import Derived.RangeFuncNested
import Derived.RangeFuncLeaves
import Derived.RangeFuncCalls
import Derived.RangeFuncBound
import Derived.DeepKeys
import Derived.Laws.BytesArg
abbrev VA(g:Nat):Go.Value:=.pointer (some ⟨g,0,none⟩)
abbrev VB(i:Int):Go.Value:=.int .i64 i
abbrev VC:Go.Value:=.slice none 0 0
abbrev VD(w v:Go.World):Prop:=Go.RowKit.Below w.heap.size w v
abbrev VE:=Go.World->List Nat->Prop
theorem VF{p:Prop}(h:p:=by and_intros<;>rfl):p:=h
theorem dA{p:Prop}(h:p:=by kernel_rfl):p:=h
theorem dB{p:Prop}(h:p:=by omega):p:=h
theorem eu{p:Prop}(h:p:=by first |(refine pG ?_;left;omega)|(refine pG ?_;right;simp;done)|(intro b o e;cases e;first |(refine pG ?_;left;omega)|(refine pG ?_;right;simp;done)|(refine pG ?_;right;simp[*];done))|(intro b hb;refine pG ?_;left;omega)|(intro b hb e;cases e;exact pG (by right;simp[*]) hb)):p:=h
theorem eD{p:Prop}(h:p:=by first |(simp;done)|(simp;omega)|(simp[*];done)|exact pG (Or.inl dB)|exact pG (Or.inr (by simp))|exact λg a=>ag dB (wh a).1|(intro b o e;cases e;exact pG (Or.inl dB))|(intro b a;have:=(hu.lt b (ah.1 a)).1;omega)|(intro b o e;cases e;intro a;have:=(hu.lt _ (ah.1 a)).1;omega)|assumption):p:=h
theorem eG{p:Prop}(h:p:=by first |(right;simp;done)|(left;omega)|(right;simp[*];done)):p:=h
theorem gp{p:Prop}(h:p:=by first |(simp;done)|(simp[oL, *];done)|assumption):p:=h
theorem ig{p:Prop}(h:p:=by simp):p:=h
theorem iw{p:Prop}(h:p:=by first |rfl|(simp;done)|(simp[oL, *];done)):p:=h
theorem iB{p:Prop}(h:p:=by first |(simp;done)|(right;omega)):p:=h
theorem iD{p:Prop}(h:p:=by first |(left;omega)|(right;simp;done)|(right;simp;omega)|(right;exact zhA dB (by first |assumption|(simp;omega)|(simp[*];done)) dB)):p:=h
theorem iT{p:Prop}(h:p:=by decide):p:=h
theorem jo{p:Prop}(h:p:=by first |omega|(right;exact⟨dB,by assumption⟩)):p:=h
theorem jB{p:Prop}(h:p:=by unfold maxLen;omega):p:=h
theorem jU{p:Prop}(h:p:=by first |(intro b hb;exact hb)|(intro b hb;simp[hb];done)|simp):p:=h
theorem jW{p:Prop}(h:p:=by first |(simp;done)|(simp;omega)|(simp[*];done)|exact pG (Or.inl dB)|exact pG (Or.inr ig)|exact λg (m.nD f eD)=>ag dB (wh (m.nD f eD)).1|(intro b o e;cases e;exact pG (Or.inl dB))|(intro b (m.nD f eD);have:=(hu.lt b (ah.1 (m.nD f eD))).1;omega)|(intro b o e;cases e;intro(m.nD f eD);have:=(hu.lt _ (ah.1 (m.nD f eD))).1;omega)|assumption):p:=h
theorem jX{p:Prop}(h:p:=by simp[hb]):p:=h
theorem jY{p:Prop}(h:p:=by simp;omega):p:=h
theorem jZ{p:Prop}(h:p:=by first |(simp;done)|(simp;omega)|(simp[*];done)|exact pG (Or.inl dB)|exact pG (Or.inr ig)|exact λg (j.nD i eD)=>ag dB (wh (j.nD i eD)).1|(intro b o e;cases e;exact pG (Or.inl dB))|(intro b (j.nD i eD);have:=(hu.lt b (ah.1 (j.nD i eD))).1;omega)|(intro b o e;cases e;intro(j.nD i eD);have:=(hu.lt _ (ah.1 (j.nD i eD))).1;omega)|assumption):p:=h
theorem kg{p:Prop}(h:p:=by first |(simp;done)|(simp;omega)|(simp[*];done)|exact pG (Or.inl dB)|exact pG (Or.inr ig)|exact λg (t.nD f eD)=>ag dB (wh (t.nD f eD)).1|(intro b o e;cases e;exact pG (Or.inl dB))|(intro b (t.nD f eD);have:=(hu.lt b (ah.1 (t.nD f eD))).1;omega)|(intro b o e;cases e;intro(t.nD f eD);have:=(hu.lt _ (ah.1 (t.nD f eD))).1;omega)|assumption):p:=h
theorem ko{p:Prop}(h:p:=by first |(simp;done)|(simp;omega)|(simp[*];done)|exact pG (Or.inl dB)|exact pG (Or.inr ig)|exact λg hm=>ag dB (wh hm).1|(intro b o e;cases e;exact pG (Or.inl dB))|(intro b hm;have:=(hu.lt b (ah.1 hm)).1;omega)|(intro b o e;cases e;intro hm;have:=(hu.lt _ (ah.1 hm)).1;omega)|assumption):p:=h
theorem kr{p:Prop}(h:p:=by first |(simp;done)|(simp;omega)|(simp[*];done)|exact pG (Or.inl dB)|exact pG (Or.inr ig)|exact λg hm=>ag dB (wh hm).1|(intro b o e;cases e;exact pG (Or.inl dB))|(intro b hm;have:=(T.lt b (ah.1 hm)).1;omega)|(intro b o e;cases e;intro hm;have:=(T.lt _ (ah.1 hm)).1;omega)|assumption):p:=h
theorem ku{p:Prop}(h:p:=by first |(simp;done)|(simp;omega)|(simp[*];done)|exact pG (Or.inl dB)|exact pG (Or.inr ig)|exact λg c=>ag dB (wh c).1|(intro b o e;cases e;exact pG (Or.inl dB))|(intro b c;have:=(hu.lt b (ah.1 c)).1;omega)|(intro b o e;cases e;intro c;have:=(hu.lt _ (ah.1 c)).1;omega)|assumption):p:=h
theorem kv{p:Prop}(h:p:=by first |(simp;done)|(simp;omega)|(simp[*];done)|exact pG (Or.inl dB)|exact pG (Or.inr ig)|exact λg J=>ag dB (wh J).1|(intro b o e;cases e;exact pG (Or.inl dB))|(intro b J;have:=(b1.lt b (ah.1 J)).1;omega)|(intro b o e;cases e;intro J;have:=(b1.lt _ (ah.1 J)).1;omega)|assumption):p:=h
theorem kw{p:Prop}(h:p:=by first |(simp;done)|(simp;omega)|(simp[*];done)|exact pG (Or.inl dB)|exact pG (Or.inr ig)|exact λg I=>ag dB (wh I).1|(intro b o e;cases e;exact pG (Or.inl dB))|(intro b I;have:=(hu.lt b (ah.1 I)).1;omega)|(intro b o e;cases e;intro I;have:=(hu.lt _ (ah.1 I)).1;omega)|assumption):p:=h
theorem ky{p:Prop}(h:p:=by first |rfl|omega):p:=h
theorem kz{p:Prop}(h:p:=by rw[e];simp):p:=h
theorem kD{p:Prop}(h:p:=by simp[Value.oneCell']):p:=h
theorem kE{p:Prop}(h:p:=by simp[a]):p:=h
theorem kF{p:Prop}(h:p:=by simpa using a):p:=h
theorem kG{p:Prop}(h:p:=by intro w;first |kernel_rfl|rfl):p:=h
theorem kH{p:Prop}(h:p:=by simp[e]):p:=h
theorem kI{p:Prop}(h:p:=by first |(simp only[ZF,aD,aY];omega)|omega|(simp;omega)):p:=h
theorem kJ{p:Prop}(h:p:=by rw[aI];omega):p:=h
theorem kK{p:Prop}(h:p:=by simp[F g o e]):p:=h
theorem kM{p:Prop}(h:p:=by left;omega):p:=h
theorem kN{p:Prop}(h:p:=by first |(left;omega)|exact Or.inr (λ_ h=>h)|exact Or.inr (λ_ h=>aj _ h)|exact Or.inr (λ_ h=>aF _ h)|exact Or.inr (λ_ h=>aB _ h)):p:=h
theorem kP{p:Prop}(h:p:=by first |(left;omega)|exact Or.inr (λ_ f=>f)|exact Or.inr (λ_ f=>aj _ f)|exact Or.inr (λ_ f=>aF _ f)|exact Or.inr (λ_ f=>aB _ f)):p:=h
theorem kQ{p:Prop}(h:p:=by assumption):p:=h
theorem kR{p:Prop}(h:p:=by simpa using hb):p:=h
theorem kS{p:Prop}(h:p:=by first |(simp only[oL];omega)|omega):p:=h
theorem kT{p:Prop}(h:p:=by intro i L;rcases i with _|_|_|_|i<;>first |(simp[Value.cells];done)|(exfalso;simp only[aD,aY]at L;omega)):p:=h
theorem kU{p:Prop}(h:p:=by intro b hb;simp[e3 b hb]):p:=h
theorem kV{p:Prop}(h:p:=by simpa [row,splice]using setRow_heap w g _ _ t _ hr):p:=h
theorem kW{p:Prop}(h:p:=by simp[A]):p:=h
theorem kX{p:Prop}(h:p:=by rw[rT];omega):p:=h
theorem kY{p:Prop}(h:p:=by simp[Value.cells]):p:=h
theorem kZ{p:Prop}(h:p:=by rw[e];rfl):p:=h
theorem lc{p:Prop}(h:p:=by simpa using hfit):p:=h
theorem lh{p:Prop}(h:p:=by simp[f]):p:=h
theorem lm{p:Prop}(h:p:=by simp[Q]):p:=h
theorem lu{p:Prop}(h:p:=by rw[aM];omega):p:=h
theorem lC{p:Prop}(h:p:=by rw[<-AR];kernel_rfl):p:=h
theorem lD{p:Prop}(h:p:=by simpa using h):p:=h
theorem lF{p:Prop}(h:p:=by rw[A];omega):p:=h
theorem lG{p:Prop}(h:p:=by first |(simp;done)|(simp;omega)):p:=h
theorem lH{p:Prop}(h:p:=by simpa using hg):p:=h
theorem lI{p:Prop}(h:p:=by show¬((1:Int)<0);decide):p:=h
theorem lJ{p:Prop}(h:p:=by simp[l8 b hb]):p:=h
theorem lK{p:Prop}(h:p:=by rw[aP];exact ax _):p:=h
theorem lL{p:Prop}(h:p:=by rw[oL,IW,K,oL,zmC c nn b k dB,R];unfold qN;omega):p:=h
theorem lN{A B:Prop}(h:B)(s:B->A:=by intro lM;exact nU (nJ (nI (pE (nI lM))))):A:=s h
theorem lQ{A B:Prop}(h:B)(s:B->A:=by intro lM;exact nU (nJ (nI (pE (ny (ng (nA (nk (nI lM))))))))):A:=s h
theorem lS{A B:Prop}(h:B)(s:B->A:=by intro lM;exact ny (ng (nA (nk (nY (sS (qy (zH (sS (qy (ou [_] ⟨rfl,trivial⟩ lM))))))))))):A:=s h
theorem lT{A B:Prop}(h:B)(s:B->A:=by intro lM;exact nA (nk (nY (qy (ou [_,_] ⟨⟨_,rfl,Ld.qI (k:=512) c dA dA gp⟩,rfl,trivial⟩ lM))))):A:=s h
theorem lU{A B:Prop}(h:B)(s:B->A:=by intro lM;exact nA (nk (nY (ou [_,_] ⟨⟨_,rfl,Ld.qI (k:=512) c dA dA gp⟩,rfl,trivial⟩ lM)))):A:=s h
theorem lV{A B:Prop}(h:B)(s:B->A:=by intro lM;exact ng (mZ (nW rfl rfl) (mZ (nW rfl rfl) lM))):A:=s h
theorem lW{A B:Prop}(h:B)(s:B->A:=by intro lM;exact ny (nA (nk (nY (sS (qy (ou [_] ⟨rfl,trivial⟩ lM))))))):A:=s h
theorem lX{A B:Prop}(h:B)(s:B->A:=by intro lM;exact nU (pO (nJ (ny (nA (nk (nY (ou [_] ⟨rfl,trivial⟩ lM)))))))):A:=s h
theorem lY{A B:Prop}(h:B)(s:B->A:=by intro lM;exact ny (nA (nk (nY (qy (ou [_] ⟨rfl,trivial⟩ lM)))))):A:=s h
theorem lZ{A B:Prop}(h:B)(s:B->A:=by intro lM;exact nA (nk (nY (ou [_] ⟨rfl,trivial⟩ lM)))):A:=s h
theorem mf{A B:Prop}(h:B)(s:B->A:=by intro lM;exact oI (zS [] trivial lM)):A:=s h
theorem mg{A B:Prop}(h:B)(s:B->A:=by intro lM;exact ny (ng (nA (nk (nY (qy (ou [_] ⟨rfl,trivial⟩ lM))))))):A:=s h
theorem mh{A B:Prop}(h:B)(s:B->A:=by intro lM;exact mZ (oV (e:=3) (sz:=1) dA rfl rfl) (ng (nk (pE lM)))):A:=s h
theorem mi{A B:Prop}(h:B)(s:B->A:=by intro lM;exact qL (qK (rq (qO (nJ (ny (nA (nk (nY (ou [_] ⟨rfl,trivial⟩ lM)))))))))):A:=s h
theorem mo{A B:Prop}(h:B)(s:B->A:=by intro lM;exact pq dA (nJ (ny (nA (nk (nY (ou [_] ⟨rfl,trivial⟩ lM))))))):A:=s h
theorem mq{A B:Prop}(h:B)(s:B->A:=by intro lM;exact oG (ng (mZ (pJ rfl rfl) (nk (uT rfl (ig) (ny (ng (nA (nk (nY (qy (ou [_] ⟨rfl,trivial⟩ lM)))))))))))):A:=s h
theorem mr{A B:Prop}(h:B)(s:B->A:=by intro lM;exact nA (nA (nA (nk (nY (qy (ou [_,_,_,_] ⟨⟨_,rfl,Ld.qI (k:=2) c dA dA gp⟩,rfl,rfl,rfl,trivial⟩ lM))))))):A:=s h
theorem mD{A B:Prop}(h:B)(s:B->A:=by intro lM;exact nA (nA (nA (nk (nY (qy (ou [_,_,_,_] ⟨⟨_,rfl,Ld.qI (k:=2) a dA dA gp⟩,rfl,rfl,rfl,trivial⟩ lM))))))):A:=s h
theorem mE{A B:Prop}(h:B)(s:B->A:=by intro lM;exact ny (mZ (pI rfl rfl) (nk (nI (uT rfl (dB) (nU (nJ (nI (pE (ny (ng (oG (ng (ng (qA rfl (oz dA rfl) (Wp p n cp l k R ((h.below g (ax _)).below o (ax _)) dB hn) lM))))))))))))))):A:=s h
theorem mF{A B:Prop}(h:B)(s:B->A:=by intro lM;exact mZ (nW rfl rfl) (mZ (nW rfl rfl) (mZ (nW rfl rfl) (mZ (nW rfl rfl) lM)))):A:=s h
theorem mG{A B:Prop}(h:B)(s:B->A:=by intro lM;exact nA (nA (nA (nk (nY (qy (sS (qy (zH (sS (qy (ou [_,_,_,_] ⟨⟨_,rfl,Ld.qI (k:=2) a dA dA gp⟩,rfl,rfl,rfl,trivial⟩ lM)))))))))))):A:=s h
theorem mH{A B:Prop}(h:B)(s:B->A:=by intro lM;exact nN (nN (mZ (pK rfl) (nk (vD rfl (rfl) (ny (nA (nk (nY (qy (ou [_] ⟨rfl,trivial⟩ lM))))))))))):A:=s h
theorem mI{A B:Prop}(h:B)(s:B->A:=by intro lM;exact qx (nA (nk (nY (ou [_] ⟨rfl,trivial⟩ lM))))):A:=s h
theorem mJ{A B:Prop}(h:B)(s:B->A:=by intro lM;exact oG (mZ (nG 0) (mZ (nH f) (mZ (nH hb) (mZ (qB rfl rfl) (nA (nk (nY (ou [_] ⟨rfl,trivial⟩ lM))))))))):A:=s h
theorem mK{A B:Prop}(h:B)(s:B->A:=by intro lM;exact nZ (rs:=[.tmp 4]) (n:=19) Tryz.func197 rfl rfl Tryz.ntmps197 dA rfl (ny (nA (nk (nI (ny (ng (mZ (oV (e:=164) (sz:=513) dA rfl rfl) (ng (nk (pE lM))))))))))):A:=s h
theorem mM{A B:Prop}(h:B)(s:B->A:=by intro lM;exact qx (ng (nA (nk (nY (ou [_] ⟨rfl,trivial⟩ lM)))))):A:=s h
theorem mO{A B:Prop}(h:B)(s:B->A:=by intro lM;exact nA (nk (nY (qy (ou [_] ⟨rfl,trivial⟩ lM))))):A:=s h
theorem mP{A B:Prop}(h:B)(s:B->A:=by intro lM;exact nu 5 (rO) (pq dA (nJ (nY (ou [_,_,_] ⟨⟨_,rfl,Ld.qI (k:=3) s dA dA gp⟩,⟨_,rfl,Ld.qI (k:=3) t dA dA gp⟩,rfl,trivial⟩ lM))))):A:=s h
theorem mQ{A B:Prop}(h:B)(s:B->A:=by intro lM;exact nk (nI (pE (ny (ng (mZ (yU dA rfl rfl) (ng (NC 12 (.bool false) (rfl) (nE (ng (nE (mZ (oo rfl) (nE (mZ (nG 0) (nE (mZ (nH hr) (nE (mZ (yU dA rfl rfl) (mZ (oP rfl) (nA (nk (ui rfl (rfl) (ny (ng (mZ (oo rfl) (mZ (nG 0) (mZ (nH hr) (nP (B p _ i) lM)))))))))))))))))))))))))))):A:=s h
theorem mR{A B:Prop}(h:B)(s:B->A:=by intro lM;exact xg (rs:=[]) (n:=24) Tryz.func107 rfl rfl Tryz.ntmps107 dA rfl (nI (nI (qH [] dA lM)))):A:=s h
theorem mU{A B:Prop}(h:B)(s:B->A:=by intro lM;exact xg (rs:=[]) (n:=20) Tryz.func73 rfl rfl Tryz.ntmps73 dA rfl (nI (nI (qH [] dA lM)))):A:=s h
theorem mV{A B:Prop}(h:B)(s:B->A:=by intro lM;exact nu 3 (AC (.slice s key.length u) (.agg #[VB (v.1:Int),VB (v.2:Int)]) (pV s u (key,(v.1,v.2,0))) rfl rfl dA) lM):A:=s h
theorem mW{A B:Prop}(h:B)(s:B->A:=by intro lM;exact nk (nI (pE (ny (ng (mZ (yU dA rfl rfl) (ng (NC 12 (.bool false) (rfl) (nE (ng (nE (mZ (oo rfl) (nE (mZ (nG 0) (nE (mZ (nH hr) (nE (mZ (yU dA rfl rfl) (mZ (oP rfl) (nA (nk (ui rfl (rfl) (ny (ng (mZ (oo rfl) (mZ (nG 0) (mZ (nH hr) (nP (j m _ a) lM)))))))))))))))))))))))))))):A:=s h
theorem mX{A B:Prop}(h:B)(s:B->A:=by intro lM;exact nA (oI (pO (nJ (nO (ng (mZ (oJ rfl rfl (show IntKind.i64.wrap ((i:Int)+1)=((i+1:Nat):Int) by rw[nV dB];omega)) (nA (oI lM))))))))):A:=s h
theorem mY{A B:Prop}(h:B)(s:B->A:=by intro lM;exact nU (pO (nJ (nO (ng (mZ (oJ rfl rfl (show IntKind.i64.wrap ((i:Int)+1)=((i+1:Nat):Int) by rw[nV dB];omega)) (nA (oI lM)))))))):A:=s h
theorem aa.{u}{α:Sort u}(a:α):∃ x,a=x:=⟨a,rfl⟩
abbrev ae:=@Nat.lt_of_lt_of_le
abbrev ag:=@Nat.le_trans
abbrev ah:=@Option.mem_toList
abbrev ai:=@Nat.ne_of_lt
abbrev aj:=@List.mem_cons_of_mem
abbrev ak:=@List.mem_cons
abbrev ax:=@Nat.le_refl
abbrev ay:=@List.mem_append
abbrev aA:=@List.length_append
abbrev aB:=@List.mem_append_right
abbrev aC:=@Nat.zero_le
abbrev aD:=@List.length_cons
abbrev aF:=@List.mem_append_left
abbrev aG:=@List.getElem?_eq_getElem
abbrev aH:=@List.append_assoc
abbrev aI:=@List.length_take
abbrev aJ:=@List.mem_singleton
abbrev aK:=@List.mem_cons_self
abbrev aL:=@List.getElem?_eq_some_iff
abbrev aM:=@List.length_drop
abbrev aN:=@Bool.and_eq_true
abbrev aO:=@List.mem_of_getElem?
abbrev aP:=@List.length_map
abbrev aQ:=@List.take_of_length_le
abbrev aR:=@List.append_nil
abbrev aU:=@List.nil_append
abbrev aV:=@List.getElem?_map
abbrev aW:=@Int.toNat_natCast
abbrev aX:=@Array.getElem?_eq_some_iff
abbrev aY:=@List.length_nil
abbrev aZ:=@Nat.zero_add
abbrev bf:=@List.take_add_one
abbrev bg:=@List.mem_map
abbrev bi:=@List.map_cons
abbrev bq:=@List.not_mem_nil
abbrev bu:=@Nat.ne_of_gt
abbrev bz:=@List.length_replicate
abbrev bA:=@List.length_set
abbrev bB:=@List.getElem?_append_right
abbrev bC:=@List.getElem?_drop
abbrev bD:=@List.getElem?_take
abbrev bF:=@List.getElem?_append_left
abbrev bG:=@List.mem_flatMap
abbrev bH:=@List.eq_nil_of_length_eq_zero
abbrev bI:=@List.getD_eq_getElem?_getD
abbrev bJ:=@List.map_append
abbrev bK:=@List.getElem?_eq_none
abbrev bL:=@List.cons_append
abbrev bM:=@List.take_append_drop
abbrev bN:=@List.take_left'
abbrev bO:=@Nat.sub_self
abbrev bP:=@List.flatMap_cons
abbrev bQ:=@Option.some.inj
abbrev bR:=@List.flatMap_append
abbrev bS:=@Nat.min_eq_left
abbrev bT:=@Ne.symm
abbrev bU:=@List.nodup_append
abbrev bV:=@List.drop_zero
abbrev bW:=@Nat.not_lt
abbrev bX:=@Nat.eq_of_beq_eq_true
abbrev bZ:=@List.mem_range
abbrev cz:=@Nat.mul_le_mul_right
abbrev cB:=@List.nodup_cons
abbrev cK:=@List.drop_of_length_le
abbrev cO:=@Nat.zero_mul
abbrev cZ:=@Nat.add_mul
abbrev df:=@Option.map_eq_some_iff
abbrev dh:=@List.sum_cons
abbrev dm:=@List.drop_eq_getElem_cons
abbrev dw:=@List.mem_range'_1
abbrev dx:=@Nat.add_zero
abbrev dz:=@List.take_zero
abbrev dC:=@List.all_eq_true
abbrev dD:=@Nat.mul_one
abbrev dE:=@List.filter_cons
abbrev dF:=@List.take_length
abbrev dG:=@List.append_of_mem
abbrev dH:=@Nat.lt_or_ge
abbrev dI:=@List.ext_getElem?
abbrev dJ:=@List.map_map
abbrev dK:=@List.drop_left
abbrev dL:=@List.pairwise_cons
abbrev dM:=@List.pairwise_append
abbrev dN:=@List.set_append_right
abbrev dP:=@Option.map_some
abbrev dQ:=@List.take_take
abbrev dR:=@List.drop_drop
abbrev dS:=@List.drop_append_of_le_length
abbrev dU:=@List.mem_filter
abbrev dV:=@List.length_singleton
abbrev dW:=@Nat.not_le
abbrev dX:=@Bool.false_ne_true
abbrev dY:=@List.take_left
abbrev dZ:=@List.map_nil
abbrev ed:=@Bool.not_eq_true'
abbrev ek:=@List.getElem?_set
abbrev eB:=@List.mem_replicate
abbrev eF:=@Nat.mul_comm
abbrev eH:=@List.getElem?_range
abbrev eO:=@Bool.and_false
abbrev eP:=@List.mem_of_mem_drop
abbrev eQ:=@List.size_toArray
abbrev eT:=@Nat.mul_pos
abbrev eU:=@UInt8.toNat_ofNat'
abbrev eX:=@List.take_append_of_le_length
abbrev eY:=@List.flatten_cons
abbrev eZ:=@List.mem_iff_getElem?
abbrev fo:=@Bool.false_and
abbrev fq:=@List.filter_append
abbrev fw:=@List.drop_take
abbrev fA:=@List.map_take
abbrev fB:=@List.map_drop
abbrev fC:=@List.drop_append
abbrev fD:=@Bool.true_and
abbrev fE:=@List.drop_left'
abbrev fF:=@List.length_pos_iff
abbrev fG:=@List.foldl_append
abbrev fH:=@List.mem_of_mem_take
abbrev fI:=@List.nodup_nil
abbrev fJ:=@Nat.le_of_eq
abbrev fK:=@Array.length_toList
abbrev fM:=@Nat.add_assoc
abbrev fO:=@List.map_set
abbrev fP:=@List.map_replicate
abbrev fQ:=@List.range_succ
abbrev fT:=@List.sum_append
abbrev fU:=@List.perm_middle
abbrev fV:=@Option.toList_some
abbrev fZ:=@Prod.mk.injEq
abbrev gu:=@List.all_cons
abbrev gy:=@Array.getElem?_eq_none
abbrev gz:=@List.map_toArray
abbrev gB:=@Nat.sub_zero
abbrev gD:=@Nat.eq_zero_or_pos
abbrev gF:=@Nat.add_sub_cancel_left
abbrev gG:=@List.length_filter_le
abbrev gH:=@List.length_range
abbrev gI:=@List.getElem?_cons_succ
abbrev gJ:=@Nat.not_lt_zero
abbrev gK:=@List.singleton_append
abbrev gM:=@List.Perm.refl
abbrev gN:=@Nat.succ_pos
abbrev gQ:=@List.foldl_cons
abbrev gT:=@List.take_succ_cons
abbrev gU:=@Bool.eq_false_iff
abbrev gV:=@Bool.not_true
abbrev gW:=@Bool.false_or
abbrev gY:=@Int.fdiv_eq_ediv_of_nonneg
abbrev gZ:=@List.replicate_append_replicate
abbrev ib:=@List.length_eq_one_iff
abbrev ic:=@Nat.lt_irrefl
abbrev il:=@Nat.lt_succ_self
abbrev iq:=@List.map_congr_left
abbrev iy:=@List.cons.inj
abbrev iA:=@List.perm_append_comm_assoc
abbrev iC:=@Prod.mk.inj
abbrev iE:=@Option.isSome_iff_exists
abbrev iG:=@Nat.le_of_ble_eq_true
abbrev iH:=@Nat.pos_of_ne_zero
abbrev iI:=@UInt8.toNat_inj
abbrev iJ:=@Nat.succ_mul
abbrev iK:=@List.findIdx_getElem
abbrev iL:=@List.eq_nil_or_concat
abbrev iM:=@List.concat_eq_append
abbrev iO:=@List.mem_or_eq_of_mem_set
abbrev iP:=@List.mem_map_of_mem
abbrev iQ:=@List.getElem?_of_mem
abbrev iR:=@List.getElem?_replicate
abbrev iU:=@List.reverse_cons
abbrev iV:=@Nat.pow_succ
abbrev iW:=@List.drop_replicate
abbrev iX:=@List.all_eq_false
abbrev iY:=@Decidable.byContradiction
abbrev iZ:=@List.filter_eq_self
abbrev ja:=@Array.getElem?_modify
abbrev jc:=@Nat.mod_eq_of_lt
abbrev jd:=@List.drop_eq_nil_of_le
abbrev je:=@List.cons.injEq
abbrev jf:=@List.insertIdx_succ_cons
abbrev jg:=@List.perm_ext_iff_of_nodup
abbrev jh:=@Bool.not_not
abbrev ji:=@Array.foldl_toList
abbrev jk:=@Nat.lt_of_le_of_lt
abbrev jm:=@Array.getD_eq_getD_getElem?
abbrev jq:=@Bool.or_eq_true
abbrev jr:=@Option.getD_some
abbrev jv:=@Bool.eq_iff_iff
abbrev jw:=@Bool.false_eq_true
abbrev jy:=@Int.natCast_pow
abbrev jA:=@List.not_of_lt_findIdx
abbrev jC:=@List.set_cons_succ
abbrev jD:=@List.take_append
abbrev jE:=@List.exists_cons_of_ne_nil
abbrev jF:=@List.flatten_append
abbrev jG:=@List.drop_length
abbrev jH:=@List.getElem_mem
abbrev jI:=@List.append_eq_nil_iff
abbrev jJ:=@List.map_eq_nil_iff
abbrev jK:=@Nat.succ_ne_zero
abbrev jL:=@List.cons_ne_nil
abbrev jM:=@List.length_reverse
abbrev jN:=@List.flatMap_nil
abbrev jO:=@List.getElem?_take_of_lt
abbrev jP:=@Array.getElem?_setIfInBounds_ne
abbrev jQ:=@List.set_eq_take_append_cons_drop
abbrev jR:=@List.takeWhile_append_dropWhile
abbrev jS:=@List.mem_eraseIdx_iff_getElem?
abbrev jT:=@List.length_eraseIdx_of_lt
set_option maxHeartbeats 8000000
set_option maxRecDepth 20000
namespace Coup
open Go Go.RowKit
def og(w:World)(base:Nat)(e:TypeId)(size:Nat)(v:Value)(n:Nat)(xs:List Value):Prop:=
 xs.length=n*size/\((v=VC/\n=0)\/
  ∃ g off cap cur,v= .slice (some ⟨g,off,none⟩) n cap/\base<=g/\w.heap[g]?=some (.cells cur e (0,0))/\n<=cap/\cap<=maxLen/\off+cap*size<=cur.size/\(cur.toList.drop off).take (n*size)=xs)
theorem Sb{w:World}{base:Nat}{e:TypeId}{size:Nat}{v:Value}{n:Nat}{xs:List Value}(h:w.ownsRow base e size v n xs):og w base e size v n xs:=by
 refine⟨h.1,?_⟩;rcases h.2 with a|⟨g,c,e,rfl,f,i,j,k,m,l⟩
 .exact .inl a
 .exact .inr ⟨g,0,c,e,rfl,f,i,j,k,dB,by simpa using l⟩
section
variable {w w':World}{base:Nat}{e:TypeId}{size:Nat}{v:Value}{n:Nat}{xs:List Value}
theorem og.lt(h:og w base e size v n xs):∀ k,v.ownBlock=some k->base<=k/\k<w.heap.size:=by
 intro k a;rcases h.2 with⟨rfl,_⟩|⟨g,e,f,i,rfl,hb,c,_⟩
 .simp[Value.ownBlock]at a
 .simp[Value.ownBlock]at a
  subst a;exact⟨hb,(aX.1 c).1⟩
theorem og.kept{row:Option Nat}(h:og w base e size v n xs)(hg:w.grownBy w' row)(hne:v.ownBlock=none\/v.ownBlock≠row):og w' base e size v n xs:=by
 refine⟨h.1,?_⟩;rcases h.2 with c|⟨g,e,f,i,rfl,hb,a,rest⟩
 .exact .inl c
 .refine .inr ⟨g,e,f,i,rfl,hb,?_,rest⟩
  rw[hg.block g (aX.1 a).1 (by simpa [Value.ownBlock]using hne)];exact a
theorem og.below{B:Nat}(h:og w base e size v n xs)(hb:Below B w w')(hB:∀ k,v.ownBlock=some k->k<B):og w' base e size v n xs:=by
 refine⟨h.1,?_⟩;rcases h.2 with a|⟨g,c,e,f,rfl,i,j,rest⟩
 .exact .inl a
 .exact .inr ⟨g,c,e,f,rfl,i,by rw[hb.block g (hB g rfl)];exact j,rest⟩
theorem og.form(h:og w base e size v n xs):∃ p c,v= .slice p n c:=by
 rcases h.2 with⟨rfl,rfl⟩|⟨g,a,c,e,rfl,_⟩
 .exact⟨_,_,rfl⟩
 .exact⟨_,_,rfl⟩
theorem og.form'(h:og w base e size v n xs)(hn:0<n):∃ g off cap,v= .slice (some ⟨g,off,none⟩) n cap/\base<=g/\g<w.heap.size/\n<=cap:=by
 rcases h.2 with⟨_,f⟩|⟨g,off,cap,i,a,hb,c,e,_⟩
 .omega
 .exact⟨g,off,cap,a,hb,(aX.1 c).1,e⟩
theorem og.cells{g off cap:Nat}(h:og w base e size (.slice (some ⟨g,off,none⟩) n cap) n xs):∀ j u,xs[j]?=some u->w.cell? ((⟨g,off,none⟩:Addr).add j)=some u:=by
 intro j u a;rcases h.2 with⟨c,_⟩|⟨l,m,o,f,c,_,i,_,_,_,k⟩
 .cases c
 .cases c
  rw[Addr.add_lit,cell_of_row w g (off+j) f e (0,0) i];rw[<-k,bD]at a
  split at a
  .simpa [bC]using a
  .cases a
end
section
variable {P:Program}(w:World)
theorem Zl (t ty e:TypeId) (i:TypeInfo) (ht:P.underlying t=some (.slice e)) (hi:P.info? e=some i)
  (g off sLen sCap:Nat) (cur:Array Value) (hg:w.heap[g]?=some (.cells cur e (0,0)))
  (a:Addr) (m c:Nat) (news:List Value) (hl:news.length=m*i.size) (hnews:∀ j u,news[j]?=some u->w.cell? (a.add j)=some u) (h1:∀ u∈news,u.oneCell'=true)
  (hroom:sLen+m<=sCap) (hfit:off+sLen*i.size+news.length<=cur.size):
  (Builtin.append_ #[t,t] ty #[.slice (some ⟨g,off,none⟩) sLen sCap, .slice (some a) m c]).run P w=
   .ok (.slice (some ⟨g,off,none⟩) (sLen+m) sCap) (w.setRow g (cur.toList.take (off+sLen*i.size)++news++cur.toList.drop (off+sLen*i.size+news.length)).toArray):=by
 have h:=run_firstCells_some (P:=P) w i.size m a m c news hl hnews;have f:=run_storeCells_at P g (off+sLen*i.size) e news 0 cur w hg lc h1;simp only[dx]at f;simp[Builtin.append_,run_underlying ht,Go.sizeOf,typeInfo,hi,Builtin.lenOf,hroom,h,Addr.add_lit,f]
theorem zk6 (base:Nat) (t ty e:TypeId) (i:TypeInfo) (z:Value) (size bytes:Nat) (ht:P.underlying t=some (.slice e)) (hi:P.info? e=some i) (hz:i.zero=some z)
  (hsize:i.size=size) (hby:i.bytes=bytes) (hzs:z.cells.size=size) (hsz:0<size)
  (v:Value) (n:Nat) (xs:List Value) (hown:og w base e size v n xs)
  (a:Addr) (m c:Nat) (news:List Value) (hl:news.length=m*size) (hnews:∀ j u,news[j]?=some u->w.cell? (a.add j)=some u) (h1:∀ u∈news,u.oneCell'=true)
  (hm:0<m) (h63:n+m<=maxLen) (hbytes:(n+m)*bytes<=140737488355328) (hbase:base<=w.heap.size):
  ∃ g off cap w',(Builtin.append_ #[t,t] ty #[v, .slice (some a) m c]).run P w= .ok (.slice (some ⟨g,off,none⟩) (n+m) cap) w'/\og w' base e size (.slice (some ⟨g,off,none⟩) (n+m) cap) (n+m) (xs++news)/\w.grownBy w' v.ownBlock/\
   (v.ownBlock=some g\/g=w.heap.size)/\g<w'.heap.size/\og w' base e size v n xs:=by
 subst hsize;subst hby;have J:n+m<=9223372036854775807:=by simp only[maxLen]at h63;omega
 have p:(xs++news).length=(n+m)*i.size:=by rw[aA,hown.1,hl,cZ]
 have B:∀ (h:Nat) (row:Option Nat),
   og (w.drew.alloc (.cells (xs.toArray++news.toArray++Builtin.zeroCells z.cells (grownCap w (n+m) h e - (n+m))) e)) base e i.size
    (.slice (some ⟨w.heap.size,0,none⟩) (n+m) (grownCap w (n+m) h e)) (n+m) (xs++news)/\
   w.grownBy (w.drew.alloc (.cells (xs.toArray++news.toArray++Builtin.zeroCells z.cells (grownCap w (n+m) h e - (n+m))) e)) row:=by
  intro h row;have E:=grownCap_ge w (n+m) h e;have q:grownCap w (n+m) h e<=maxLen:=grownCap_le_maxLen w (n+m) h e h63;refine⟨⟨p, .inr ⟨w.heap.size,0,_,_,rfl,hbase,heap_alloc_new w.drew _,E,q,?_,?_⟩⟩,⟨rfl,rfl,rfl,ig,λk o _=>heap_alloc_old w.drew _ o⟩⟩
  .simp only[Array.size_append,eQ,size_zeroCells,hzs,hown.1,hl,<-cZ]
   apply fJ;rw[aZ]
   congr 1
   omega
  .simp only[Array.toList_append,aH,bV]
   rw[<-aH,<-p];exact dY
 rcases hown.2 with⟨rfl,rfl⟩|⟨g,off,cap,f,rfl,C,r,F,q,K,D⟩
 .have G:xs=[]:=bH (by simpa using hown.1)
  subst G;have hr:=run_append_nil (P:=P) w t ty e i z ht hi hz a m c news hl hnews dB dB (by have hb:=hbytes;simp only[aZ]at hb;omega);have l:=B 0 (Value.ownBlock (VC));simp only[aZ,aU,Array.empty_append]at l |-;exact⟨_,_,_,_,hr,l.1,l.2, .inr rfl,ig,⟨ig, .inl ⟨rfl,rfl⟩⟩⟩
 .by_cases s:n+m<=cap
  .have L:n*i.size+m*i.size<=cap*i.size:=by rw[<-cZ];exact cz _ s
   have H:off+n*i.size+news.length<=f.size:=by rw[hl];omega
   have hr:=Zl (P:=P) w t ty e i ht hi g off n cap f r a m c news hl hnews h1 s H;refine⟨_,_,_,_,hr,⟨p, .inr ⟨g,off,cap,_,rfl,C,setRow_heap w g f _ e _ r,s,q,?_,?_⟩⟩,⟨rfl,rfl,rfl,by simp[World.setRow],λk _ o=>setRow_other w g k _ (λe=>o (by simp[Value.ownBlock,e]))⟩, .inl rfl,?_,hown.1, .inr ⟨g,off,cap,_,rfl,C,setRow_heap w g f _ e _ r,F,q,?_,?_⟩⟩
   .simp only[eQ,aA,aI,aM,fK]
    omega
   .have y:(f.toList.take (off+n*i.size)).drop off=xs:=by rw[<-D,fw];congr 1;omega
    have A:off<=(f.toList.take (off+n*i.size)).length:=by rw[aI,fK];omega
    rw[aH,dS A,y,<-aH,<-p];exact dY
   .have:g<w.heap.size:=(aX.1 r).1
    simpa [World.setRow]using this
   .simp only[eQ,aA,aI,aM,fK]
    omega
   .have y:(f.toList.take (off+n*i.size)).drop off=xs:=by rw[<-D,fw];congr 1;omega
    have A:off<=(f.toList.take (off+n*i.size)).length:=by rw[aI,fK];omega
    rw[aH,dS A,y,<-hown.1];exact dY
  .have I:∀ j u,xs[j]?=some u->w.cell? ((⟨g,off,none⟩:Addr).add j)=some u:=hown.cells
   have hr:=run_append_grow (P:=P) w t ty e i z ht hi hz ⟨g,off,none⟩ n cap xs hown.1 I a m c news hl hnews dB dB (growslice_fits dB hbytes);have l:=B cap (Value.ownBlock (.slice (some ⟨g,off,none⟩) n cap));exact⟨_,_,_,_,hr,l.1,l.2, .inr rfl,ig,hown.kept (row:=none) ⟨rfl,rfl,rfl,ig,λk o _=>heap_alloc_old w.drew _ o⟩ (by simp[Value.ownBlock])⟩
end
section
variable {P:Program}{w:World}{t kt et:TypeId}{k:IntKind}{b:Nat}{kvs:List (Int × Int)}
end
theorem ztU{a b:Bool}(h:a=b):Ending.returned (.bool a)= .returned (.bool b):=by rw[h]
theorem Ua{k:IntKind}{a b:Int}(h:a=b):Ending.returned (.int k a)= .returned (.int k b):=by rw[h]
structure nM(w:World)(p:Option Addr)(n sz:Nat)(cs:List Value):Prop where
 len:cs.length=n*sz
 max:n<=maxLen
 at_:0<n*sz->∃ b off,p=some ⟨b,off,none⟩/\b<w.heap.size/\∀ k,k<n*sz->w.cell? ⟨b,off+k,none⟩=cs[k]?
theorem nM.below{w w':World}{p:Option Addr}{n sz:Nat}{cs:List Value}{B:Nat}(h:nM w p n sz cs)(hb:Below B w w')(hB:w.heap.size<=B):nM w' p n sz cs:=by
 refine⟨h.len,h.max,λc=>?_⟩;obtain⟨b,a,hp,e,f⟩:=h.at_ c;exact⟨b,a,hp,ae e hb.size,λk g=>(hb.cell (p:=⟨b,a+k,none⟩) (by show b<B;omega)).trans (f k g)⟩
theorem nM.nil(w:World)(p:Option Addr)(sz:Nat):nM w p 0 sz []:=⟨ig,aC _,λa=>by simp at a⟩
theorem ztV{w:World}{base:Nat}{e:TypeId}{p:Option Addr}{n c sz:Nat}{cs:List Value}(h:og w base e sz (.slice p n c) n cs):nM w p n sz cs:=by
 rcases h.2 with⟨a,rfl⟩|⟨g,e,l,m,a,o,f,i,j,p,q⟩
 .cases a
  exact⟨h.1,aC _,λh=>by simp at h⟩
 .cases a
  refine⟨h.1,ag i j,λ_=>⟨g,e,rfl,(aX.1 f).1,λk r=>?_⟩⟩;have s:=h.1;have c:cs[k]?=some cs[k]:=aG dB;have:=h.cells (g:=g) k cs[k] c;rw[Addr.add_lit]at this;rw[this,c]
def vE(b:UInt8):Value:=.int .u8 (b.toNat:Int)
def bv(l:List UInt8):List Value:=l.map vE
theorem oL(l:List UInt8):(bv l).length=l.length:=aP _
theorem wR(l m:List UInt8):bv (l++m)=bv l++bv m:=bJ
theorem EE(l:List UInt8)(k:Nat):bv (l.take k)=(bv l).take k:=fA
theorem AA(l:List UInt8)(k:Nat):bv (l.drop k)=(bv l).drop k:=fB
theorem uf(l:List UInt8):∀ u∈bv l,u.oneCell'=true:=by
 intro u a;obtain⟨_,_,rfl⟩:=bg.1 a
 rfl
theorem ES(l:List UInt8)(k:Nat):(bv l)[k]?=(l[k]?).map vE:=aV
theorem zq9(l:List UInt8)(k:Nat)(h:k<l.length):(bv l)[k]?=some (vE (l.getD k 0)):=by
 rw[ES,bI,aG h];rfl
theorem UZ{P:Program}{o:Oper}{a:Act}{w w':World}{v:Value}{K:Act->World->Prop}{Q:Exit->Act->World->Prop}(hr:(execOp a.eval o).run P w= .ok (.value v) w')(h:K (a.put o.dst v) w'):o.wp P a w K Q:=by
 unfold Oper.wp;rw[hr];exact h
def row(w:World)(g:Nat)(l:List Value)(t:TypeId):Prop:=w.heap[g]?=some (.cells l.toArray t (0,0))
structure Only(g:Nat)(w w':World):Prop where
 os:w'.os=w.os
 tape:w'.tape=w.tape
 output:w'.output=w.output
 size:w'.heap.size=w.heap.size
 block:∀ k,k≠g->w'.heap[k]?=w.heap[k]?
theorem Only.below{g B:Nat}{w0 w w':World}(h:Only g w w')(hb:Below B w0 w)(hB:B<=g):Below B w0 w':=
 hb.trans ⟨h.os,h.tape,h.output,fJ h.size.symm,λk a=>h.block k dB⟩
theorem Only.setRow{w:World}{g:Nat}(cs:Array Value):Only g w (w.setRow g cs):=
 ⟨rfl,rfl,rfl,by simp[World.setRow],λk a=>setRow_other w g k cs a⟩
namespace row
variable {w w':World}{g k:Nat}{l:List Value}{t:TypeId}
theorem lt(h:row w g l t):g<w.heap.size:=(aX.1 h).1
theorem at_(h:row w g l t)(j:Nat):w.cell? ⟨g,j,none⟩=l[j]?:=by
 rw[cell_of_row w g j l.toArray t (0,0) h];simp
theorem cell(h:row w g l t)(j:Nat){v:Value}(hv:l[j]?=some v):w.cell? ⟨g,j,none⟩=some v:=by rw[h.at_,hv]
theorem frozen(h:row w g l t)(j:Nat):w.frozen? ⟨g,j,none⟩=false:=frozen_of_row w g j l.toArray t h
theorem below(h:row w k l t){B:Nat}(hb:Below B w w')(hk:k<B):row w' k l t:=(hb.block k hk).trans h
theorem new(h:row w k l t)(hb:VD w w'):row w' k l t:=h.below hb h.lt
theorem only(h:row w k l t)(ho:Only g w w')(hk:k≠g):row w' k l t:=(ho.block k hk).trans h
theorem drew(h:row w k l t):row w.drew k l t:=h
theorem range(h:row w g l t)(o:Nat)(cs:List Value)(hc:∀ j v,cs[j]?=some v->l[o+j]?=some v):w.rangeAt g o cs:=λj v a=>h.cell _ (hc j v a)
theorem zkl(h:row w g l t)(o n:Nat):w.rangeAt g o ((l.drop o).take n):=h.range o _ λj v a=>by
 rw[bD]at a
 split at a
 .rwa [bC]at a
 .cases a
theorem PN(h:row w g l t)(o n sz:Nat)(hn:o+n*sz<=l.length)(hm:n<=maxLen):nM w (some ⟨g,o,none⟩) n sz ((l.drop o).take (n*sz)):=
 ⟨by simp;omega,hm,λ_=>⟨g,o,rfl,h.lt,λk a=>by rw[h.at_,bD,if_pos a,bC]⟩⟩
end row
theorem Only.trans{g:Nat}{a b c:World}(h:Only g a b)(k:Only g b c):Only g a c:=
 ⟨k.os.trans h.os,k.tape.trans h.tape,k.output.trans h.output,k.size.trans h.size,λi a=>(k.block i a).trans (h.block i a)⟩
theorem Only.refl(g:Nat)(w:World):Only g w w:=⟨rfl,rfl,rfl,rfl,λ_ _=>rfl⟩
theorem Only.drew{g:Nat}{a b:World}(h:Only g a b):Only g a b.drew:=⟨h.os,h.tape,h.output,h.size,h.block⟩
theorem ML(w:World)(l:List Value)(t:TypeId):row (w.alloc (.cells l.toArray t)) w.heap.size l t:=heap_alloc_new w _
theorem Jh(w:World)(o:Obj):VD w (w.alloc o):=(Below.refl _ _).alloc (ax _) o
section
variable {P:Program}{ops:Array Oper}{rest:List Oper}{o:Oper}{a:Act}{w:World}{K:Act->World->Prop}{Q:Exit->Act->World->Prop}{E:Prop}
theorem ww(op:Op){dst:Option Tmp}{ty:TypeId}{pos:String}{af:Array Edge}{gd:Option (Nat × Bool)}(h:wpList P ops Q (⟨dst,op,ty,pos,af,gd⟩::rest) a w):
 wpList P ops Q (⟨dst,op,ty,pos,af,gd⟩::rest) a w:=h
theorem zg7(ρ:Operand->Value)(t:TypeId)(ho:o.op= .alloc t)(zl:List Value)(hz:(P.info? t).map (λi=>i.zero.map (·.cells))=some (some zl.toArray)):
  (execOp ρ o).run P w= .ok (.value (VA w.heap.size)) (w.alloc (.cells zl.toArray t)):=by
 obtain⟨i,a,c⟩:=df.1 hz;obtain⟨g,e,f⟩:=df.1 c;simp[execOp,ho,Instr.alloc,zeroValue,typeInfo,a,e,newVar,newRow,f]
theorem zl7 (t:TypeId) (ho:o.op= .alloc t) (zl:List Value) (hz:(P.info? t).map (λi=>i.zero.map (·.cells))=some (some zl.toArray))
  (h:∀ g w',w.heap.size<=g->row w' g zl t->VD w w'->K (a.put o.dst (VA g)) w'):o.wp P a w K Q:=
 UZ (zg7 a.eval t ho zl hz) (h _ _ (ax _) (ML w zl t) (Jh w _))
theorem Lp (hgd:o.guard=none) (t:TypeId) (ho:o.op= .alloc t) (zl:List Value) (hz:(P.info? t).map (λi=>i.zero.map (·.cells))=some (some zl.toArray))
  (h:∀ g w',w.heap.size<=g->row w' g zl t->VD w w'->wpList P ops Q rest (a.put o.dst (VA g)) w'):wpList P ops Q (o::rest) a w:=
 wpList_plain hgd λ_ a=>zl7 t ho zl hz λg w' c e f=>a _ _ (h g w' c e f)
theorem ziU(ρ:Operand->Value)(t:TypeId)(x:Operand)(ho:o.op= .box t x)(vl:List Value)(hv:(ρ x).cells=vl.toArray):
  (execOp ρ o).run P w= .ok (.value (VA w.heap.size)) (w.alloc (.cells vl.toArray t)):=by
 simp[execOp,ho,Instr.box,newVar,newRow,hv]
theorem zqd (t:TypeId) (x:Operand) (ho:o.op= .box t x) (vl:List Value) (hv:(a.eval x).cells=vl.toArray)
  (h:∀ g w',w.heap.size<=g->row w' g vl t->VD w w'->K (a.put o.dst (VA g)) w'):o.wp P a w K Q:=
 UZ (ziU a.eval t x ho vl hv) (h _ _ (ax _) (ML w vl t) (Jh w _))
theorem RS (hgd:o.guard=none) (t:TypeId) (x:Operand) (ho:o.op= .box t x) (vl:List Value) (hv:(a.eval x).cells=vl.toArray)
  (h:∀ g w',w.heap.size<=g->row w' g vl t->VD w w'->wpList P ops Q rest (a.put o.dst (VA g)) w'):wpList P ops Q (o::rest) a w:=
 wpList_plain hgd λ_ a=>zqd t x ho vl hv λg w' c e f=>a _ _ (h g w' c e f)
theorem Uz (ρ:Operand->Value) (ty:TypeId) (x:Operand) (ho:o.op= .load ty x) (b off:Nat) (hx:ρ x= .pointer (some ⟨b,off,none⟩)) (cs:List Value) (hc:w.rangeAt b off cs)
  (hu:(P.underlying ty).any (·.isRow)=true) (hi:(P.info? ty).map (·.size)=some cs.length):(execOp ρ o).run P w= .ok (.value (.agg cs.toArray)) w:=by
 cases hd:P.underlying ty with
 |none=>simp[hd]at hu
 |some d=>
  have hr:d.isRow=true:=by simpa [hd]using hu
  unfold execOp;simp only[ho,hx,Instr.loadAt,Instr.sureAddr,Sem.run_bind,Sem.run_pure,Result.andThen_ok,run_loadVar_mid w b off ty cs d hc hd hr hi]
theorem znD (ty:TypeId) (x:Operand) (ho:o.op= .load ty x) (b off:Nat) (hx:a.eval x= .pointer (some ⟨b,off,none⟩)) (cs:List Value) (hc:w.rangeAt b off cs)
  (hu:(P.underlying ty).any (·.isRow)=true) (hi:(P.info? ty).map (·.size)=some cs.length) (h:K (a.put o.dst (.agg cs.toArray)) w):o.wp P a w K Q:=
 UZ (Uz a.eval ty x ho b off hx cs hc hu hi) h
theorem QR (hgd:o.guard=none) (ty:TypeId) (x:Operand) (ho:o.op= .load ty x) (b off:Nat) (hx:a.eval x= .pointer (some ⟨b,off,none⟩)) (cs:List Value) (hc:w.rangeAt b off cs)
  (hu:(P.underlying ty).any (·.isRow)=true) (hi:(P.info? ty).map (·.size)=some cs.length) (h:wpList P ops Q rest (a.put o.dst (.agg cs.toArray)) w):wpList P ops Q (o::rest) a w:=
 wpList_plain hgd λ_ a=>znD ty x ho b off hx cs hc hu hi (a _ _ h)
theorem UU {fn:Func} {p:Tmp} {ty:TypeId} (h:fn.results=#[.cell p ty]) (tmps:Array Value) (w:World) (g:Nat) (t:TypeId) (cs:List Value) (hp:tmps.getD p undef=VA g)
  (hg:row w g cs t) (hu:(P.underlying ty).any (·.isRow)=true) (hi:(P.info? ty).map (·.size)=some cs.length):(results fn tmps).run P w= .ok (.agg cs.toArray) w:=by
 cases hd:P.underlying ty with
 |none=>simp[hd]at hu
 |some d=>
  have hr:d.isRow=true:=by simpa [hd]using hu
  have a:tmps[p]?.getD undef=VA g:=by simpa using hp
  have c:w.rangeAt g 0 cs:=hg.range 0 cs λj v e=>by simpa using e
  simp[results,h,a,asAddr,run_loadVar_mid w g 0 ty cs d c hd hr hi]
theorem run_arrayAt(t e:TypeId)(n:Nat)(hu:P.underlying t=some (.array n e))(p:Option Addr)(len cap:Nat)(h:n<=len)(w:World):(Instr.arrayAt t (.slice p len cap)).run P w= .ok (.pointer p) w:=by
 simp[Instr.arrayAt,run_underlying hu,bW.2 h]
theorem ziV (ty:TypeId) (x y:Operand) (ho:o.op= .store ty x y) (g off:Nat) (hx:a.eval x= .pointer (some ⟨g,off,none⟩)) (vs:List Value) (hy:(a.eval y).cells=vs.toArray)
  (l:List Value) (t:TypeId) (hr:row w g l t) (hi:(P.info? ty).map (·.size)=some vs.length) (hfit:off+vs.length<=l.length) (h1:∀ v∈vs,v.oneCell'=true)
  (h:∀ l' w',Hid (l'=splice l off vs)->row w' g l' t->Only g w w'->K (a.put o.dst undef) w'):o.wp P a w K Q:=by
 obtain⟨i,c,e⟩:=df.1 hi;have f:=run_storeCells_at P g off t vs 0 l.toArray w hr lc h1;unfold Oper.wp execOp;simp only[ho,hx,Instr.storeAt,Instr.sureAddr,Sem.run_bind,Sem.run_pure,Result.andThen_ok];have j:(storeVar ty ⟨g,off,none⟩ (a.eval y)).run P w= .ok () (w.setRow g (splice l off vs).toArray):=by
  simp[storeVar,Go.sizeOf,typeInfo,c,hy,e,f,splice]
 simp only[j,Result.andThen_ok];exact h _ _ rfl (setRow_heap w g _ _ t _ hr)<|Only.setRow _
theorem Mc (hgd:o.guard=none) (ty:TypeId) (x y:Operand) (ho:o.op= .store ty x y) (g off:Nat) (hx:a.eval x= .pointer (some ⟨g,off,none⟩)) (vs:List Value) (hy:(a.eval y).cells=vs.toArray)
  (l:List Value) (t:TypeId) (hr:row w g l t) (hi:(P.info? ty).map (·.size)=some vs.length) (hfit:off+vs.length<=l.length) (h1:∀ v∈vs,v.oneCell'=true)
  (h:∀ l' w',Hid (l'=splice l off vs)->row w' g l' t->Only g w w'->wpList P ops Q rest (a.put o.dst undef) w'):wpList P ops Q (o::rest) a w:=
 wpList_plain hgd λ_ a=>ziV ty x y ho g off hx vs hy l t hr hi hfit h1 λl' w' c e f=>a _ _ (h l' w' c e f)
theorem zk8 (hgd:o.guard=none) (ty:TypeId) (x y:Operand) (ho:o.op= .store ty x y) (g off:Nat) (hx:a.eval x= .pointer (some ⟨g,off,none⟩)) (vs:List Value) (hy:(a.eval y).cells=vs.toArray)
  (l:List Value) (t:TypeId) (hr:row w g l t) (hi:(P.info? ty).map (·.size)=some vs.length) (hfit:off+vs.length<=l.length) (h1:∀ v∈vs,v.oneCell'=true)
  (h:∀ l' w',Hid (l'=splice l off vs)->row w' g l' t->Only g w w'->K (a.put o.dst undef) w'):if Region.wanted o (yielded ops a.tmps)=true then Oper.wp P o a w K Q else E:=by
 rw[if_pos (by simp[Region.wanted,hgd])];exact ziV ty x y ho g off hx vs hy l t hr hi hfit h1 h
theorem Only.setCell(w:World)(g i:Nat)(v:Value):Only g w (w.setCell ⟨g,i,none⟩ v):=
 ⟨rfl,rfl,rfl,by simp[World.setCell],λk a=>heap_setCell_other w ⟨g,i,none⟩ k v a⟩
theorem row.sw{w:World}{g:Nat}{l:List Value}{t:TypeId}(h:row w g l t)(i:Nat)(v:Value):row (w.setCell ⟨g,i,none⟩ v) g (l.set i v) t:=by
 have:=heap_setCell_same w g i l.toArray t v h;simpa [row]using this
theorem Only.setCells(g:Nat):∀ (vs:List Value) (off:Nat) (w:World),Only g w (w.setCells g off vs)
 |[],_,w=>Only.refl g w
 |v::vs,off,w=>(Only.setCell w g off v).trans (Only.setCells g vs (off+1) _)
theorem row.XR{w:World}{g:Nat}{l:List Value}{t:TypeId}(h:row w g l t):w.rangeAt g 0 l:=h.range 0 l λj v a=>by simpa using a
theorem row.there{w:World}{g:Nat}{l:List Value}{t:TypeId}(h:row w g l t):w.there g 0 l.length:=λj a=>by
 rw[aZ];exact⟨by rw[h.at_,aG a];rfl,h.frozen j⟩
def HS(g1:Nat)(l1:List Value)(t1:TypeId)(g2 n2:Nat)(w:World):Prop:=row w g1 l1 t1/\w.there g2 0 n2
theorem HS.drew{g1:Nat}{l1:List Value}{t1:TypeId}{g2 n2:Nat}{w:World}(h:HS g1 l1 t1 g2 n2 w):HS g1 l1 t1 g2 n2 w.drew:=h
theorem HS.set{g1:Nat}{l1:List Value}{t1:TypeId}{g2 n2:Nat}{w:World}(h:HS g1 l1 t1 g2 n2 w)(hne:g1≠g2)(off:Nat)(vs:List Value):HS g1 l1 t1 g2 n2 (w.setCells g2 off vs):=
 ⟨h.1.only (Only.setCells g2 vs off w) hne,World.there_setCells h.2 g2 off vs⟩
theorem HS.sw{g1:Nat}{l1:List Value}{t1:TypeId}{g2 n2:Nat}{w:World}(h:HS g1 l1 t1 g2 n2 w)(hne:g1≠g2)(off:Nat)(v:Value):HS g1 l1 t1 g2 n2 (w.setCell ⟨g2,off,none⟩ v):=h.set hne off [v]
theorem HS.Gg{g1:Nat}{l1:List Value}{t1:TypeId}{g2 n2:Nat}{w:World}(h:HS g1 l1 t1 g2 n2 w):row w g1 l1 t1:=h.1
def cellOf(w:World)(a:Addr):Value:=(w.cell? a).getD undef
theorem HS.cell{g1:Nat}{l1:List Value}{t1:TypeId}{g2 n2:Nat}(j:Nat)(hj:j<n2)(w:World)(h:HS g1 l1 t1 g2 n2 w):w.cell? ⟨g2,j,none⟩=some (cellOf w ⟨g2,j,none⟩):=by
 have:=(h.2 j hj).1;rw[aZ]at this;obtain⟨v,a⟩:=iE.1 this;rw[cellOf,a];rfl
theorem HS.frozen{g1:Nat}{l1:List Value}{t1:TypeId}{g2 n2:Nat}(j:Nat)(hj:j<n2)(w:World)(h:HS g1 l1 t1 g2 n2 w):w.frozen? ⟨g2,j,none⟩=false:=by
 have:=(h.2 j hj).2
 rwa [aZ]at this
theorem zl8 (hgd:o.guard=none) (f:FuncId) (xs:Array Operand) (ats:Array TypeId) (ho:o.op= .call {callee:=.value (.func f),args:=xs,argTypes:=ats})
  (vs:List Value) (hv:xs.toList.map a.eval=vs) (hf:(callFunc f (#[]++vs.toArray++#[])).run P w= .ok (.enter f vs.toArray) w)
  (hc:Calls P f vs.toArray w λe w'=>∃ v,e= .returned v/\K (a.put o.dst v) w'):if Region.wanted o (yielded ops a.tmps)=true then Oper.wp P o a w K Q else E:=by
 rw[if_pos (by simp[Region.wanted,hgd])];obtain⟨dst,op,ty,pos,af,gd⟩:=o;simp only at ho;subst ho;have c:(execOp a.eval ⟨dst, .call {callee:=.value (.func f),args:=xs,argTypes:=ats},ty,pos,af,gd⟩).run P w= .ok (.enter f vs.toArray) w:=by
  have g:xs.map a.eval=vs.toArray:=by rw[<-hv,<-Array.toList_map]
  rw[execOp_call_go,g];exact hf
 unfold Oper.wp;rw[c,Oper.upon_enter];refine hc.mono ?_;rintro e w' ⟨v,rfl,h⟩;exact h
theorem zqe (d s:Operand) (dT sT:TypeId) (ho:o.op= .call {callee:=.builtin .copy,args:=#[d,s],argTypes:=#[dT,sT]}) (elem:TypeId) (hu:P.underlying dT=some (.slice elem)) (hsz:(P.info? elem).map (·.size)=some 1)
  (dp sp:Option Addr) (dLen dCap sLen sCap:Nat) (hd:a.eval d= .slice dp dLen dCap) (hs:a.eval s= .slice sp sLen sCap)
  (g off:Nat) (l:List Value) (t:TypeId) (hr:row w g l t) (cs:List Value) (hn:cs.length=Nat.min sLen dLen)
  (hpos:0<cs.length->dp=some ⟨g,off,none⟩/\∃ ad,sp=some ad/\∀ j v,cs[j]?=some v->w.cell? (ad.add j)=some v)
  (hfit:off+cs.length<=l.length) (h1:∀ v∈cs,v.oneCell'=true)
  (h:∀ l' w',Hid (l'=splice l off cs)->row w' g l' t->Only g w w'->K (a.put o.dst (goInt cs.length)) w'):o.wp P a w K Q:=by
 by_cases c:cs.length=0
 .obtain rfl:cs=[]:=bH c
  have a:=run_copy_none (P:=P) w dT sT o.type elem dp sp dLen dCap sLen sCap hu hsz (by simpa using hn.symm);unfold Oper.wp;simp[execOp,ho,resolve,invoke,builtin,hd,hs,a,Result.andThen];exact h _ w (show _=_ by simp[splice]) hr<|Only.refl _ _
 .obtain⟨rfl,ad,rfl,e⟩:=hpos dB
  have a:=run_copy_row (P:=P) w dT sT o.type elem g off dLen dCap ad sLen sCap l.toArray t cs hu hsz hr hn e lc h1;unfold Oper.wp;simp[execOp,ho,resolve,invoke,builtin,hd,hs,a,Result.andThen];exact h _ _ (show _=_ from rfl) kV<|Only.setRow _
theorem Zv (hgd:o.guard=none) (d s:Operand) (dT sT:TypeId) (ho:o.op= .call {callee:=.builtin .copy,args:=#[d,s],argTypes:=#[dT,sT]}) (elem:TypeId) (hu:P.underlying dT=some (.slice elem)) (hsz:(P.info? elem).map (·.size)=some 1)
  (dp sp:Option Addr) (dLen dCap sLen sCap:Nat) (hd:a.eval d= .slice dp dLen dCap) (hs:a.eval s= .slice sp sLen sCap)
  (g off:Nat) (l:List Value) (t:TypeId) (hr:row w g l t) (cs:List Value) (hn:cs.length=Nat.min sLen dLen)
  (hpos:0<cs.length->dp=some ⟨g,off,none⟩/\∃ ad,sp=some ad/\∀ j v,cs[j]?=some v->w.cell? (ad.add j)=some v)
  (hfit:off+cs.length<=l.length) (h1:∀ v∈cs,v.oneCell'=true)
  (h:∀ l' w',Hid (l'=splice l off cs)->row w' g l' t->Only g w w'->K (a.put o.dst (goInt cs.length)) w'):if Region.wanted o (yielded ops a.tmps)=true then Oper.wp P o a w K Q else E:=by
 rw[if_pos (by simp[Region.wanted,hgd])];exact zqe d s dT sT ho elem hu hsz dp sp dLen dCap sLen sCap hd hs g off l t hr cs hn hpos hfit h1 h
theorem zoU(n:Nat):∀ (vs:List Value) (k:Nat) (A:List Value),n+k+vs.length<=A.length->
  (vs.zipIdx k).foldl (fun(cs:Array Value) (p:Value × Nat)=>cs.setIfInBounds (n+p.2) p.1) A.toArray=(A.take (n+k)++(vs++A.drop (n+k+vs.length))).toArray
 |[],k,A,_=>by simp
 |v::vs,k,A,hl=>by
  simp only[aD]at hl;have a:=zoU n vs (k+1) (A.set (n+k) v) jY;have c:A.toArray.setIfInBounds (n+k) v=(A.set (n+k) v).toArray:=by simp
  rw[List.zipIdx_cons,gQ,c,a]
  congr 1
  have e:n+(k+1)=n+k+1:=by omega
  rw[e,List.take_set,List.drop_set_of_lt dB,bf,aG dB,fV,dN _ _ jY];simp[bS (by omega:n+k<=A.length)]
  congr 1
  omega
theorem VZ (place : Nat -> Option (Nat × Nat)) : ∀ (parts : List (Nat × Value)) (pre post : List Value),
  (∀ i (hi : i < parts.length), place parts[i].1 = some (pre.length + ((parts.take i).map λq => q.2.cells.size).sum, parts[i].2.cells.size)) ->
  post.length = ((parts.map λq => q.2.cells.size).sum) ->
  Instr.fill place (pre ++ post).toArray parts = some (pre ++ (parts.map λq => q.2.cells.toList).flatten).toArray
 | [], pre, post, _, hl => by
  have : post = [] := List.eq_nil_of_length_eq_zero (by simpa using hl)
  subst this; simp [Instr.fill]
 | (i, v) :: rest, pre, post, hp, hl => by
  have h0 := hp 0 (by simp)
  simp only [List.getElem_cons_zero, List.take_zero, List.map_nil, List.sum_nil, Nat.add_zero] at h0
  simp only [Instr.fill, h0]
  have hlen : post.length = v.cells.size + (rest.map λq => q.2.cells.size).sum := by simpa using hl
  rw [if_neg (by simp; omega)]
  have hset : (v.cells.zipIdx.foldl (λcs (c, j) => cs.setIfInBounds (pre.length + j) c) (pre ++ post).toArray) = ((pre ++ v.cells.toList) ++ post.drop v.cells.size).toArray := by
   have := zoU pre.length v.cells.toList 0 (pre ++ post) (by simp; omega)
   rw [<- Array.foldl_toList, Array.toList_zipIdx]
   refine this.trans ?_
   simp [List.drop_append]
  rw [hset, VZ place rest (pre ++ v.cells.toList) (post.drop v.cells.size)
   (λj hj => by
    have := hp (j + 1) (by simpa using hj)
    simp only [List.getElem_cons_succ, List.take_succ_cons, List.map_cons, List.sum_cons] at this
    rw [this]; simp; omega)
   (by simp; omega)]
  simp
def placesOf(P:Program)(t:TypeId):Option (List (Nat × Nat)):=
 match P.underlying t with
 |some (.struct fields)=>fields.toList.mapM (λf=>(P.info? f.type).map λi=>(f.offset,i.size))
 |_=>none
theorem zis (t:TypeId) (parts:Array (Nat × Value)) (places:List (Nat × Nat)) (hpl:placesOf P t=some places) (n:Nat) (hn:(P.info? t).map (λi=>i.zero.map (·.cells.size))=some (some n))
  (hp:∀ i (hi:i<parts.toList.length),places[parts.toList[i].1]?=some (((parts.toList.take i).map λq=>q.2.cells.size).sum,parts.toList[i].2.cells.size))
  (hs:n=((parts.toList.map λq=>q.2.cells.size).sum)):
  (Instr.build t parts).run P w= .ok (.agg ((parts.toList.map λq=>q.2.cells.toList).flatten).toArray) w:=by
 refine run_build w t parts _ ?_;obtain⟨it,hi,a⟩:=df.1 hn;obtain⟨c,e,f⟩:=df.1 a;unfold placesOf at hpl;unfold Program.built;cases hu:P.underlying t with
 |none=>simp[hu]at hpl
 |some d=>
  cases d<;>try (simp[hu]at hpl;done)
  case struct fields=>
   simp only[hu]at hpl;simp only[hi,e,hpl];have:=VZ (λi=>places.toArray[i]?) parts.toList [] c.cells.toList (by simpa using hp) (by simpa [f]using hs);simpa using this
theorem zg8 (t e:TypeId) (len:Nat) (parts:Array (Nat × Value)) (ht:P.underlying t=some (.slice e)) (sz:Nat) (zs:Array Value) (hi:(P.info? e).map (λi=>(i.zero.map (·.cells),i.size))=some (some zs,sz))
  (hlim:len*sz<=16777216) (hpos:0<len*sz)
  (hp:∀ i (hi:i<parts.toList.length),parts.toList[i].1*sz=(((parts.toList.take i).map λq=>q.2.cells.size).sum)/\parts.toList[i].2.cells.size=sz) (hs:len*sz=((parts.toList.map λq=>q.2.cells.size).sum)):
  (Instr.buildSlice t len parts).run P w= .ok (.slice (some ⟨w.heap.size,0,none⟩) len len) (w.alloc (.cells ((parts.toList.map λq=>q.2.cells.toList).flatten).toArray e)):=by
 obtain⟨i,e,a⟩:=df.1 hi;simp only[fZ]at a;obtain⟨f,g⟩:=a;obtain⟨q,h,k⟩:=df.1 f;have c:=VZ (λi=>some (i*sz,sz)) parts.toList [] ((Array.range (len*sz)).map (zs[· % zs.size]!)).toList
  (λj l=>by obtain⟨m,o⟩:=hp j l;rw[m,o];simp) (by simpa using hs)
 simp only[aU,Array.toArray_toList]at c;have p:¬(len*sz=0):=by omega
 simp[Instr.buildSlice,run_underlying ht,Go.sizeOf,typeInfo,e,g,zeroValue,h,k,c,newRow,bW.2 hlim,p]
theorem zla (t e : TypeId) (zl : List Value) (sz bytes : Nat) (ht : P.underlying t = some (.slice e)) (hinfo : (P.info? e).map (λi => (i.zero.map (·.cells), i.size, i.bytes)) = some (some zl.toArray, sz, bytes))
    (n : Nat) (hb : bytes * n <= 281474976710656) (h63 : n <= 9223372036854775807) :
    (Instr.makeSlice t (.int .i64 n) (.int .i64 n)).run P w = .ok (.slice (some ⟨w.heap.size, 0, none⟩) n n) (w.alloc (.cells (madeCells zl.toArray (n * sz)) e)) := by
  obtain ⟨i, hi, hzz⟩ := Option.map_eq_some_iff.1 hinfo
  simp only [Prod.mk.injEq] at hzz
  obtain ⟨hz, hs, hbb⟩ := hzz
  obtain ⟨z, hz1, hz2⟩ := Option.map_eq_some_iff.1 hz
  have := run_make (P := P) (w := w) t e i z ht hi hz1 .i64 .i64 n n (by omega) (by omega) (by rw [hbb]; have : ((bytes * n : Nat) : Int) <= 281474976710656 := by omega
                                                                                               rwa [Int.natCast_mul] at this) (by omega)
  rw [this]
  simp [hz2, hs]
theorem ziX(z:List Value)(v:Value)(hz:∀ u∈z,u=v)(h0:0<z.length)(n:Nat):madeCells z.toArray n=(List.replicate n v).toArray:=by
 apply Array.ext
 .simp[madeCells]
 .intro i c e
  simp only[madeCells,eQ,Array.getElem_map,Array.getElem_range,List.getElem_toArray,List.getElem_replicate];have a:i % z.length<z.length:=Nat.mod_lt _ h0;rw[getElem!_pos z.toArray _ kF];exact hz _ ig
end
inductive Dm where
 |m (D:Nat)
 |fn (f:Nat) (cap args:List Value)
instance:Coe Nat Dm:=⟨Dm.m⟩
structure Env where
 f:Nat->Value
 ms:List Dm
instance:CoeFun Env (λ_=>Nat->Value):=⟨Env.f⟩
theorem Env.ext'{ρ ρ':Env}(h:∀ i,ρ i=ρ' i)(hm:ρ.ms=ρ'.ms):ρ=ρ':=by
 cases ρ;cases ρ';have:=funext h;simp only at this hm;rw[this,hm]
def up(ρ:Env)(d:Nat)(v:Value):Env:=⟨λi=>bif Nat.beq i d then v else ρ.f i,ρ.ms⟩
def qD(ρ:Env):Option Nat->Value->Env
 |none,_=>ρ
 |some d,v=>up ρ d v
def ev(ρ:Env):Operand->Value
 | .tmp t=>ρ.f t
 | .const v=>v
 | .global g=>VA g
 | .func f=>.func (.func f) #[] #[]
def nth:List Value->Nat->Value
 |[],_=>undef
 |v::_,0=>v
 |_::l,n+1=>nth l n
def Ib(l:List Value):Env:=⟨nth l,[]⟩
def SB(D:Nat):Deferred:={target:=.collected D,args:=#[]}
def Dm.d:Dm->Deferred
 | .m D=>SB D
 | .fn f cap args=>{target:=.fn (.func f) cap.toArray,args:=args.toArray}
structure Ag(n:Nat)(a:Act)(ρ:Env):Prop where
 d:a.defers=ρ.ms.map Dm.d
 s:a.tmps.size=n
 t:∀ i,a.tmps.getD i undef=ρ.f i
theorem Ag.ev{n:Nat}{a:Act}{ρ:Env}(h:Ag n a ρ):a.eval=ev ρ:=by
 funext x
 cases x with
 |tmp t=>exact h.t t
 |_=>rfl
theorem Je(ρ:Env)(d:Nat)(v:Value):(up ρ d v).f d=v:=by
 have:Nat.beq d d=true:=Nat.beq_refl d;simp[up,this]
theorem EU(ρ:Env){d i:Nat}(v:Value)(h:i≠d):(up ρ d v).f i=ρ.f i:=by
 have:Nat.beq i d=false:=by rw[gU];intro e;exact h (bX e)
 simp[up,this]
theorem LU(ρ:Env)(d:Option Nat)(v:Value):(qD ρ d v).ms=ρ.ms:=by cases d<;>rfl
theorem Ag.put{n:Nat}{a:Act}{ρ:Env}(h:Ag n a ρ)(d:Option Nat)(hd:∀ k,d=some k->k<n)(v:Value):Ag n (a.put d v) (qD ρ d v):=by
 cases d with
 |none=>exact h
 |some k=>
  refine⟨h.d,by simp[Act.put,h.s],λi=>?_⟩;have a:=hd k rfl
  by_cases e:i=k
  .subst e;simp[Act.put,qD,Je,h.s,a]
  .have:=h.t i
   simp only[qD,EU ρ v e,<-this];simp[Act.put,jP (bT e)]
def wT(n:Nat)(o:Oper):Bool:=match o.dst with|some d=>Nat.blt d n|none=>true
def codeOk(n:Nat):Code->Bool
 | .region _ ops _=>ops.all (wT n)
 | .seq a b=>codeOk n a && codeOk n b
 | .cond _ a b=>codeOk n a && codeOk n b
 | .block _ a=>codeOk n a
 | .loop a=>codeOk n a
 | .scope a=>codeOk n a
 | .rangeFunc _ _ a b=>codeOk n a && codeOk n b
 |_=>true
theorem wT.lt{n:Nat}{o:Oper}(h:wT n o=true):∀ k,o.dst=some k->k<n:=by
 intro k a;simp only[wT,a]at h;simpa [Nat.blt_eq]using h
def fr:Option Nat->Fence
 |none=>Fence.wide
 |some l=>Fence.wide.inRound l
theorem J_(rd:Option Nat):(fr rd).round=rd:=by cases rd<;>rfl
theorem JN(rd:Option Nat)(f:FuncId):(fr rd).fn f:=by cases rd<;>exact trivial
theorem NS(rd:Option Nat):(fr rd).depth=none:=by cases rd<;>rfl
theorem TN{rd:Option Nat}{m:Nat}{P:Program}{f:FuncId}{args:Array Value}{w:World}{R:Ending->World->Prop}(h:Calls P f args w R):CallsIn (fr rd) m P f args w R:=by
 have:=(callsIn_wide (n:=m)).2 h;cases rd with
 |none=>exact this
 |some l=>exact this.inRound l
theorem ZI{rd:Option Nat}{m:Nat}{P:Program}{l:Nat}{f:FuncId}{tmps:Array Value}{x y:Code}{w:World}{R:Ending->World->Prop}(h:RoundIn Fence.wide 0 P l f tmps x y w R):RoundIn (fr rd) m P l f tmps x y w R:=by
 cases rd with
 |none=>exact⟨trivial,λc cs _=>h.2 c cs (room_wide _)⟩
 |some l'=>exact⟨trivial,λc cs _=>h.2 c cs (room_wide _)⟩
def Post:=Exit->Env->World->Prop
def lift(n:Nat)(Q:Post):Exit->Act->World->Prop:=λe a w=>∃ ρ,Ag n a ρ/\Q e ρ w
def W(md:Option Nat->Prop)(P:Program)(n:Nat)(c:Code)(Q:Post)(ρ:Env)(w:World):Prop:=
 codeOk n c=true->∀ (rd:Option Nat) (a:Act),md rd->Ag n a ρ->c.wpIn (fr rd) 9 P (lift n Q) a w
def WR(md:Option Nat->Prop)(P:Program)(n:Nat)(ops:Array Oper)(l:List Oper)(Q:Post)(ρ:Env)(w:World):Prop:=
 l.all (wT n)=true->∀ (rd:Option Nat) (a:Act),md rd->Ag n a ρ->wpListIn (fr rd) 9 P ops (lift n Q) l a w
def AX(P:Program)(o:Oper)(K:Env->World->Prop)(Kp:List PanicEntry->World->Prop)(ρ:Env)(w:World):Prop:=
 (∀ c,o.op≠ .defer c)/\match (execOp (ev ρ) o).run P w with
 | .ok (.value v) w'=>K (qD ρ o.dst v) w'
 | .ok .skip w'=>K (qD ρ o.dst undef) w'
 | .ok (.enter f args) w'=>Calls P f args w' fun
  | .returned v,a=>K (qD ρ o.dst v) a
  | .panicked c,a=>Kp c a
  | .outgrown,_=>False
 | .ok (.round l f tmps x y) w'=>RoundIn Fence.wide 0 P l f tmps x y w' fun
  | .returned v,a=>K (qD ρ o.dst v) a
  | .panicked c,a=>Kp c a
  | .outgrown,_=>False
 | .halt (.panic v) w'=>Kp [{v,recovered:=false}] w'
 |_=>False
def wK(P:Program)(o:Oper)(K:Env->World->Prop)(ρ:Env)(w:World):Prop:=
 match (execOp (ev ρ) o).run P w with
 | .ok (.value v) w'=>K (qD ρ o.dst v) w'
 | .ok .skip w'=>K (qD ρ o.dst undef) w'
 | .ok (.enter f args) w'=>Calls P f args w' λe a=>∃ v,e= .returned v/\K (qD ρ o.dst v) a
 | .ok (.round l f tmps x y) w'=>RoundIn Fence.wide 0 P l f tmps x y w' λe a=>∃ v,e= .returned v/\K (qD ρ o.dst v) a
 |_=>False
def ET(md:Option Nat->Prop)(P:Program)(n:Nat)(y:Code)(Q:Post):Post
 | .normal,ρ,w=>W md P n y Q ρ w
 |e,ρ,w=>Q e ρ w
def Ht(id:Nat)(Q:Post):Post
 | .exit i,ρ,w=>if i=id then Q .normal ρ w else Q (.exit i) ρ w
 |e,ρ,w=>Q e ρ w
def Qq(I:Env->World->Prop)(Q:Post):Post
 | .normal,ρ,w=>I ρ w
 |e,ρ,w=>Q e ρ w
def Sl(ρ:Env):List (Nat × Value)->Prop
 |[]=>ρ.ms=[]
 |p::l=>ρ.f p.1=p.2/\Sl ρ l
def ups(ρ:Env):List (Nat × Value)->Env
 |[]=>ρ
 |p::l=>up (ups ρ l) p.1 p.2
theorem Ey(ρ:Env)(d:Nat):up ρ d (ρ.f d)=ρ:=by
 refine Env.ext' (λi=>?_) rfl
 by_cases a:i=d
 .subst a;rw[Je]
 .rw[EU _ _ a]
theorem Sl.env{ρ:Env}:∀ {l:List (Nat × Value)},Sl ρ l->ρ=ups ⟨ρ.f,[]⟩ l
 |[],h=>Env.ext' (λ_=>rfl) h
 |p::l,h=>by
  have:=Sl.env h.2;show ρ=up (ups ⟨ρ.f,[]⟩ l) p.1 p.2;rw[<-this,<-h.1,Ey]
theorem zma {F:Fence} {n:Nat} {P:Program} {Q:Exit->Act->World->Prop} {c:Code} {α:Type} (I:α->Act->World->Prop) (m:α->Nat) {a:Act} {w:World} (k0:α) (h₀:I k0 a w)
  (round:∀ k a w,I k a w->c.wpIn F n P (Exit.then (λa' w'=>∃ k',m k'<m k/\I k' a' w') Q) a w):(Code.loop c).wpIn F n P Q a w:=by
 have f:∀ a w,(∃ k,I k a w)->∃ v,(∃ k,I k a w/\m k=v)/\∀ k,I k a w->v<=m k:=by
  intro a w ⟨k,g⟩;have key:∀ N k,I k a w->m k=N->∃ v,(∃ k,I k a w/\m k=v)/\∀ k,I k a w->v<=m k:=by
   intro N
   induction N using Nat.strongRecOn with
   |_ N ih=>
    intro k g j
    by_cases h:∃ k',I k' a w/\m k'<N
    .obtain⟨k',p,q⟩:=h
     exact ih (m k') q k' p rfl
    .exact⟨N,⟨k,g,j⟩,λk' i=>bW.1 λl=>h ⟨k',i,l⟩⟩
  exact key _ k g rfl
 let o:Act->World->Nat:=λa w=>by
  classical
  exact if c:∃ k,I k a w then Classical.choose (f a w c)else 0
 have r:∀ a w k,I k a w->o a w<=m k:=by
  intro a w k c
  classical
  have h:∃ k,I k a w:=⟨k,c⟩;show(if c:∃ k,I k a w then Classical.choose (f a w c)else 0)<=m k;rw[dif_pos h];exact(Classical.choose_spec (f a w h)).2 k c
 have s:∀ a w,(∃ k,I k a w)->∃ k,I k a w/\m k=o a w:=by
  intro a w c
  classical
  show ∃ k,I k a w/\m k=(if c:∃ k,I k a w then Classical.choose (f a w c)else 0);rw[dif_pos c];exact(Classical.choose_spec (f a w c)).1
 refine wpIn_loop (λa w=>∃ k,I k a w) o ⟨k0,h₀⟩ λa w t=>?_
 obtain⟨k,g,j⟩:=s a w t;refine Code.wpIn_mono ?_<|round k a w g;intro e a' w' c;cases e with
 |normal=>
  obtain⟨k',l,i⟩:=c;exact⟨⟨k',i⟩,jk (r a' w' k' i) (j▸l)⟩
 |_=>exact c
section
variable {md:Option Nat->Prop}{P:Program}{n:Nat}{Q:Post}{ρ:Env}{w:World}
theorem Ci{c:Code}{Q':Post}(h:W md P n c Q ρ w)(hq:∀ e ρ w,Q e ρ w->Q' e ρ w):W md P n c Q' ρ w:=
 λc e a f g=>wpIn_mono (h c e a f g) λ_ _ _ ⟨i,j,k⟩=>⟨i,j,hq _ _ _ k⟩
theorem nI{x y:Code}(h:W md P n x (ET md P n y Q) ρ w):W md P n (.seq x y) Q ρ w:=by
 intro c f a g k;simp only[codeOk,aN]at c;refine wpIn_seq<|wpIn_mono (h c.1 f a g k) ?_
 rintro e l w' ⟨m,i,j⟩;cases e with
 |normal=>exact j c.2 f l g i
 |_=>exact⟨m,i,j⟩
theorem nU(h:Q .normal ρ w):W md P n .skip Q ρ w:=λ_ _ _ _ a=>wpIn_skip ⟨_,a,h⟩
theorem nY(h:Q .ret ρ w):W md P n .ret Q ρ w:=λ_ _ _ _ a=>wpIn_ret ⟨_,a,h⟩
theorem qL{id:Nat}(h:Q (.exit id) ρ w):W md P n (.exit id) Q ρ w:=λ_ _ _ _ a=>wpIn_exit ⟨_,a,h⟩
theorem nJ{y:Code}(h:W md P n y Q ρ w):ET md P n y Q .normal ρ w:=h
theorem qK{y:Code}{i:Nat}(h:Q (.exit i) ρ w):ET md P n y Q (.exit i) ρ w:=h
theorem qy{y:Code}(h:Q .ret ρ w):ET md P n y Q .ret ρ w:=h
theorem pO{id:Nat}(h:Q .normal ρ w):Ht id Q .normal ρ w:=h
theorem sS{id:Nat}(h:Q .ret ρ w):Ht id Q .ret ρ w:=h
theorem qO{id:Nat}(h:Q .normal ρ w):Ht id Q (.exit id) ρ w:=by simpa [Ht]using h
theorem MR{id i:Nat}(hne:Nat.beq i id=false)(h:Q (.exit i) ρ w):Ht id Q (.exit i) ρ w:=by
 have:i≠id:=λe=>by subst e;simp at hne
 simpa [Ht,this]using h
theorem oM{I:Env->World->Prop}(h:I ρ w):Qq I Q .normal ρ w:=h
theorem rq{I:Env->World->Prop}{i:Nat}(h:Q (.exit i) ρ w):Qq I Q (.exit i) ρ w:=h
theorem zH{I:Env->World->Prop}(h:Q .ret ρ w):Qq I Q .ret ρ w:=h
theorem pE{id:Nat}{c:Code}(h:W md P n c (Ht id Q) ρ w):W md P n (.block id c) Q ρ w:=by
 intro k l a m o;refine wpIn_block<|wpIn_mono (h k l a m o) ?_
 rintro e p w' ⟨g,j,c⟩;cases e with
 |exit i=>
  by_cases f:i=id
  .simp only[Ht,f,if_true]at c
   simp only[Exit.inBlock,f,if_true];exact⟨g,j,c⟩
  .simp only[Ht,f,if_false]at c
   simp only[Exit.inBlock,f,if_false];exact⟨g,j,c⟩
 |_=>exact⟨g,j,c⟩
theorem qY {c:Code} {α:Type} (k0:α) (L:α->List (Nat × Value)) (I:α->World->Prop) (m:α->Nat) (hs:Sl ρ (L k0)) (hI:I k0 w)
  (round:∀ k (f:Nat->Value) w',I k w'->W md P n c (Qq (λρ'' w''=>∃ k',m k'<m k/\Sl ρ'' (L k')/\I k' w'') Q) (ups ⟨f,[]⟩ (L k)) w'):W md P n (.loop c) Q ρ w:=by
 intro j l a o p;refine zma (λk f w2=>∃ c,Ag n f c/\Sl c (L k)/\I k w2) m k0 ⟨ρ,p,hs,hI⟩ ?_;rintro k f w2 ⟨c,q,r,s⟩;have t:=Sl.env r;have:=round k c.f w2 s j l f o (by rw[<-t];exact q);refine wpIn_mono this ?_;rintro e A B ⟨g,h,i⟩;cases e with
 |normal=>
  obtain⟨k',u,y,z⟩:=i;exact⟨k',u,g,h,y,z⟩
 |_=>exact⟨g,h,i⟩
def xA(P:Program)(w:World)(ρ:Env):List ResultVar->List Value->Prop
 |[],[]=>True
 | .tmp t::rs,v::vs=>ρ.f t=v/\xA P w ρ rs vs
 | .cell a t::rs,v::vs=>(∃ c,ρ.f a= .pointer (some c)/\(loadVar t c).run P w= .ok v w)/\xA P w ρ rs vs
 |_,_=>False
def pack:List Value->Value
 |[v]=>v
 |vs=>.tuple vs.toArray
def qb(R:Value->World->Prop):Ending->World->Prop:=λe w=>∃ v,e= .returned v/\R v w
def GV(P:Program)(rs:List ResultVar)(R:Value->World->Prop)(ρ:Env):List Dm->World->Prop
 |[],w=>∃ vs,xA P w ρ rs vs/\R (pack vs) w
 | .fn _ _ _::_,_=>False
 | .m D::ms,w=>w.heap[D]?=some (.deferred (some []))/\GV P rs R ρ ms (w.putObj D (.deferred none))
def Eb(P:Program)(rs:List ResultVar)(R:Value->World->Prop):Post
 | .normal,ρ,w=>GV P rs R ρ ρ.ms w
 | .ret,ρ,w=>GV P rs R ρ ρ.ms w
 |_,_,_=>False
def wu(tmps:Array Value):ResultVar->Sem Value
 | .tmp t=>pure (tmps.getD t undef)
 | .cell a t=>do loadVar t (<-asAddr (tmps.getD a undef))
theorem zrb{tmps:Array Value}(ht:∀ i,tmps.getD i undef=ρ.f i){r:ResultVar}{rs:List ResultVar}{v:Value}{vs:List Value}(h:xA P w ρ (r::rs) (v::vs)):
  (wu tmps r).run P w= .ok v w/\xA P w ρ rs vs:=by
 cases r with
 |tmp t=>exact⟨by simp only[wu,ht,h.1];rfl,h.2⟩
 |cell a t=>
  obtain⟨⟨g,c,e⟩,f⟩:=h;refine⟨?_,f⟩;simp only[wu,ht,c,asAddr,Sem.run_bind,Sem.run_pure,Result.andThen_ok,e]
theorem z_{tmps:Array Value}(ht:∀ i,tmps.getD i undef=ρ.f i):∀ (rs:List ResultVar) (vs:List Value),xA P w ρ rs vs->(rs.mapM (wu tmps)).run P w= .ok vs w
 |[],[],_=>rfl
 |[],_::_,h=>h.elim
 | .tmp t::rs,[],h=>h.elim
 | .cell a t::rs,[],h=>h.elim
 |r::rs,v::vs,h=>by
  obtain⟨c,e⟩:=zrb ht h;have f:=z_ ht rs vs e;rw[List.mapM_cons];simp only[Sem.run_bind,c,Result.andThen_ok,f,Sem.run_pure]
theorem zqf(fn:Func)(tmps:Array Value):results fn tmps=(do let vs<-fn.results.mapM (wu tmps);pure (if h:vs.size=1 then vs[0]else .tuple vs)):=by
 have:(λr=>(match r with| .tmp t=>pure (tmps.getD t undef)| .cell a t=>(do loadVar t (<-asAddr (tmps.getD a undef))):Sem Value))=wu tmps:=by
  funext r;cases r<;>rfl
 unfold results;rw[<-this]
 rfl
theorem Og{fn:Func}{rs:List ResultVar}(hr:fn.results=rs.toArray){tmps:Array Value}(ht:∀ i,tmps.getD i undef=ρ.f i){vs:List Value}(h:xA P w ρ rs vs):
  (results fn tmps).run P w= .ok (pack vs) w:=by
 have a:=z_ (P:=P) (w:=w) ht rs vs h;have c:(fn.results.mapM (wu tmps)).run P w= .ok vs.toArray w:=by
  rw[hr,List.mapM_toArray];simp only[map_eq_pure_bind,Sem.run_bind,a,Result.andThen_ok,Sem.run_pure]
 rw[zqf,Sem.run_bind,c];simp only[Result.andThen_ok,Sem.run_pure]
 congr 1
 match vs with
 |[]=>rfl
 |[v]=>rfl
 |_::_::_=>rfl
theorem Sz(args:List Value)(m:Nat)(hn:m=n)(hl':args.length<=n):Ag n {tmps:=args.toArray++Array.replicate (m - args.toArray.size) undef,defers:=[]} (Ib args):=by
 refine⟨rfl,by simp[hn];omega,λi=>?_⟩;have key:∀ (l:List Value) (i:Nat),nth l i=l.getD i undef:=by
  intro l
  induction l with
  |nil=>intro i;rfl
  |cons v l ih=>intro i;cases i with
   |zero=>rfl
   |succ i=>simpa [nth]using ih i
 show _=nth args i;rw[key];simp only[jm,bI]
 by_cases a:i<args.length
 .simp[Array.getElem?_append,a]
 .simp only[Array.getElem?_append,eQ,a,if_false,bK (bW.1 a),Option.getD_none,Array.getElem?_replicate]
  split<;>rfl
theorem nZ {f:FuncId} {fn:Func} {c:Code} {rs:List ResultVar} {args:List Value} {R:Value->World->Prop}
  (hf:P.funcs[f]?=some fn) (hb:fn.body=some c) (hr:fn.results=rs.toArray) (hn:fn.ntmps=n) (hok:codeOk n c=true) (hl:Nat.ble args.length n=true)
  (h:W (λrd=>rd=none) P n c (Eb P rs R) (Ib args) w):Calls P f args.toArray w (qb R):=by
 have q:args.length<=n:=iG hl;refine(callsIn_wide (n:=9)).1 (callsIn_of_wp_marks hf hb trivial ?_ rfl);have r:=Sz (n:=n) args fn.ntmps hn q;refine wpIn_mono (h hok none _ rfl r) ?_;rintro e j w' ⟨s,k,a⟩;have key:∀ (g:List Dm) (w:World),GV P rs R s g w->LeavesInM Fence.wide 9 P fn j.tmps (qb R) (g.map Dm.d) .returning w:=by
  intro g
  induction g with
  |nil=>
   intro w ⟨vs,o,p⟩;exact⟨_,Og hr k.t o,_,rfl,p⟩
  |cons D g ih=>
   cases D with
   |fn f cap args=>intro w h;exact h.elim
   |m D=>
    intro w ⟨o,p⟩;exact⟨ig, .inl ⟨D,_,rfl,run_takeDeferred o,ih _ p⟩⟩
 cases e with
 |normal=>show LeavesInM _ _ _ _ _ _ j.defers _ _;rw[k.d];exact key _ _ a
 |ret=>show LeavesInM _ _ _ _ _ _ j.defers _ _;rw[k.d];exact key _ _ a
 |exit i=>exact a.elim
 |goto l=>exact a.elim
 |panic c=>exact a.elim
 |outgrown=>exact a.elim
theorem zS{rs:List ResultVar}{R:Value->World->Prop}(vs:List Value)(h:xA P w ρ rs vs)(hR:R (pack vs) w)(hm:ρ.ms=[]:=by rfl):Eb P rs R .normal ρ w:=by
 show GV P rs R ρ ρ.ms w;rw[hm];exact⟨vs,h,hR⟩
theorem ou{rs:List ResultVar}{R:Value->World->Prop}(vs:List Value)(h:xA P w ρ rs vs)(hR:R (pack vs) w)(hm:ρ.ms=[]:=by rfl):Eb P rs R .ret ρ w:=by
 show GV P rs R ρ ρ.ms w;rw[hm];exact⟨vs,h,hR⟩
theorem OM{rs:List ResultVar}{R:Value->World->Prop}(vs:List Value)(D:Nat)(hD:w.heap[D]?=some (.deferred (some [])))(h:xA P (w.putObj D (.deferred none)) ρ rs vs)(hR:R (pack vs) (w.putObj D (.deferred none)))(hm:ρ.ms=[.m D]:=by rfl):Eb P rs R .ret ρ w:=by
 show GV P rs R ρ ρ.ms w;rw[hm];exact⟨hD,vs,h,hR⟩
theorem xy{c:Operand}{x y:Code}{b:Bool}(hc:ev ρ c= .bool b)(h1:b=true->W md P n x Q ρ w)(h2:b=false->W md P n y Q ρ w):W md P n (.cond c x y) Q ρ w:=by
 intro e g a h f;simp only[codeOk,aN]at e;have i:a.eval c= .bool b:=by rw[f.ev];exact hc
 cases b with
 |true=>exact wpIn_cond_true i (h1 rfl e.1 g a h f)
 |false=>exact wpIn_cond_false i (h2 rfl e.2 g a h f)
theorem oZ{c:Operand}{x y:Code}{p:Prop}[Decidable p](hc:ev ρ c= .bool (decide p))(h1:p->W md P n x Q ρ w)(h2:¬p->W md P n y Q ρ w):W md P n (.cond c x y) Q ρ w:=
 xy hc (λa=>h1 (of_decide_eq_true a)) (λa=>h2 (of_decide_eq_false a))
theorem SC{c:Operand}{x y:Code}{p:Prop}[Decidable p](hc:ev ρ c= .bool (!decide p))(h1:¬p->W md P n x Q ρ w)(h2:p->W md P n y Q ρ w):W md P n (.cond c x y) Q ρ w:=
 xy hc (λa=>h1 kF) (λa=>h2 kF)
theorem yB{c:Operand}{x y:Code}(hc:ev ρ c= .bool true)(h:W md P n x Q ρ w):W md P n (.cond c x y) Q ρ w:=xy hc (λ_=>h) (λh=>by cases h)
theorem Nu{c:Operand}{x y:Code}(hc:ev ρ c= .bool false)(h:W md P n y Q ρ w):W md P n (.cond c x y) Q ρ w:=xy hc (λh=>by cases h) (λ_=>h)
theorem uT{c:Operand}{x y:Code}{p:Prop}[Decidable p](hc:ev ρ c= .bool (decide p))(hp:p)(h:W md P n x Q ρ w):W md P n (.cond c x y) Q ρ w:=oZ hc (λ_=>h) (λa=>absurd hp a)
theorem qg{c:Operand}{x y:Code}{p:Prop}[Decidable p](hc:ev ρ c= .bool (decide p))(hp:¬p)(h:W md P n y Q ρ w):W md P n (.cond c x y) Q ρ w:=oZ hc (λa=>absurd a hp) (λ_=>h)
theorem Ee{c:Operand}{x y:Code}{p:Prop}[Decidable p](hc:ev ρ c= .bool (!decide p))(hp:p)(h:W md P n y Q ρ w):W md P n (.cond c x y) Q ρ w:=SC hc (λa=>absurd hp a) (λ_=>h)
theorem vD{c:Operand}{x y:Code}{b:Bool}(hc:ev ρ c= .bool b)(hp:b=true)(h:W md P n x Q ρ w):W md P n (.cond c x y) Q ρ w:=xy hc (λ_=>h) (λa=>by rw[hp]at a;cases a)
theorem ui{c:Operand}{x y:Code}{b:Bool}(hc:ev ρ c= .bool b)(hp:b=false)(h:W md P n y Q ρ w):W md P n (.cond c x y) Q ρ w:=xy hc (λa=>by rw[hp]at a;cases a) (λ_=>h)
theorem BP{c:Operand}{x y:Code}{b:Bool}(hc:ev ρ c= .bool (!b))(hp:b=false)(h:W md P n x Q ρ w):W md P n (.cond c x y) Q ρ w:=vD hc (by rw[hp];rfl) h
theorem EJ{c:Operand}{x y:Code}{b:Bool}(hc:ev ρ c= .bool (!b))(hp:b=true)(h:W md P n y Q ρ w):W md P n (.cond c x y) Q ρ w:=ui hc (by rw[hp];rfl) h
theorem Ki{c:Operand}{x y:Code}{b:Bool}(hc:ev ρ c= .bool (!b))(h1:b=false->W md P n x Q ρ w)(h2:b=true->W md P n y Q ρ w):W md P n (.cond c x y) Q ρ w:=xy hc (λa=>h1 kF) (λa=>h2 kF)
theorem wO {c y:Code} {α:Type} (L:α->List (Nat × Value)) (I:α->World->Prop)
  (h1:W md P n c (Qq (λρ' w'=>∃ k,Sl ρ' (L k)/\I k w') Q) ρ w) (h2:∀ k (f:Nat->Value) w',I k w'->W md P n y Q (ups ⟨f,[]⟩ (L k)) w'):W md P n (.seq c y) Q ρ w:=by
 refine nI<|Ci h1 ?_
 rintro e ρ' w' a;cases e with
 |normal=>
  obtain⟨k,c,f⟩:=a;have:=h2 k ρ'.f w' f;rw[<-Sl.env c]at this;exact this
 |_=>exact a
theorem wK.wpIn{o:Oper}{K:Env->World->Prop}(h:wK P o K ρ w){rd:Option Nat}{a:Act}(ha:Ag n a ρ)(hd:∀ k,o.dst=some k->k<n)(Q':Exit->Act->World->Prop):
  o.wpIn (fr rd) 9 P a w (λa' w'=>∃ ρ',Ag n a' ρ'/\K ρ' w') Q':=by
 refine⟨λf _=>JN rd f,?_⟩;have i:∀ c,o.op≠ .defer c:=by
  intro c j;unfold wK at h;have k:(execOp (Coup.ev ρ) o).run P w=((do pure (.defer (<-resolve (Coup.ev ρ) c o.type))):Sem Next).run P w:=by simp only[execOp,j]
  rw[k]at h;simp only[Sem.run_bind]at h;cases hr:(resolve (Coup.ev ρ) c o.type).run P w with
  |ok d w'=>rw[hr]at h;exact h
  |halt x w'=>rw[hr]at h;exact h
 rw[Oper.semAt_eq _ _ _ i,ha.ev];unfold wK at h
 split at h
 .rename_i v w' hr
  rw[hr];exact⟨_,ha.put o.dst hd v,h⟩
 .rename_i w' hr
  rw[hr];exact⟨_,ha.put o.dst hd undef,h⟩
 .rename_i f p w' hr
  rw[hr,Oper.uponIn_enter];refine⟨(λa=>by rw[NS]at a;cases a),TN (h.mono ?_)⟩;rintro e m ⟨v,rfl,g⟩;exact⟨_,ha.put o.dst hd v,g⟩
 .rename_i l f q x r w' hr
  rw[hr,Oper.uponIn_round];refine⟨(λa=>by rw[NS]at a;cases a),ZI (h.mono ?_)⟩;rintro e m ⟨v,rfl,g⟩;exact⟨_,ha.put o.dst hd v,g⟩
 .exact h.elim
theorem AX.wpIn{o:Oper}{K:Env->World->Prop}{Kp:List PanicEntry->World->Prop}(h:AX P o K Kp ρ w){rd:Option Nat}{a:Act}(ha:Ag n a ρ)(hd:∀ k,o.dst=some k->k<n)(Q':Exit->Act->World->Prop)(hp:∀ c w',Kp c w'->Q' (.panic c) a w'):
  o.wpIn (fr rd) 9 P a w (λa' w'=>∃ ρ',Ag n a' ρ'/\K ρ' w') Q':=by
 refine⟨λf _=>JN rd f,?_⟩;rw[Oper.semAt_eq _ _ _ h.1,ha.ev];have h:=h.2
 split at h
 .rename_i v w' hr
  rw[hr];exact⟨_,ha.put o.dst hd v,h⟩
 .rename_i w' hr
  rw[hr];exact⟨_,ha.put o.dst hd undef,h⟩
 .rename_i f j w' hr
  rw[hr,Oper.uponIn_enter];refine⟨(λg=>by rw[NS]at g;cases g),TN (h.mono ?_)⟩;intro e i a;cases e with
  |returned v=>exact⟨_,ha.put o.dst hd v,a⟩
  |panicked c=>exact hp _ _ a
  |outgrown=>exact a.elim
 .rename_i l f k x m w' hr
  rw[hr,Oper.uponIn_round];refine⟨(λg=>by rw[NS]at g;cases g),ZI (h.mono ?_)⟩;intro e i a;cases e with
  |returned v=>exact⟨_,ha.put o.dst hd v,a⟩
  |panicked c=>exact hp _ _ a
  |outgrown=>exact a.elim
 .rename_i v w' hr
  rw[hr,Oper.uponIn_panic];exact hp _ _ h
 .exact h.elim
theorem wK.x{o:Oper}{K:Env->World->Prop}{Kp:List PanicEntry->World->Prop}(h:wK P o K ρ w):AX P o K Kp ρ w:=by
 unfold wK at h;refine⟨λc i=>?_,?_⟩
 .have j:(execOp (Coup.ev ρ) o).run P w=((do pure (.defer (<-resolve (Coup.ev ρ) c o.type))):Sem Next).run P w:=by simp only[execOp,i]
  rw[j]at h;simp only[Sem.run_bind]at h;cases hr:(resolve (Coup.ev ρ) c o.type).run P w with
  |ok d w'=>rw[hr]at h;exact h
  |halt x w'=>rw[hr]at h;exact h
 .generalize (execOp (Coup.ev ρ) o).run P w=r at*
  cases r with
  |ok x w'=>
   cases x with
   |value v=>exact h
   |skip=>exact h
   |enter f args=>exact Calls.mono h λe k ⟨v,a,g⟩=>by subst a;exact g
   |round l f tmps x y=>exact RoundIn.mono h λe k ⟨v,a,g⟩=>by subst a;exact g
   |_=>exact h.elim
  |halt x w'=>exact h.elim
theorem AX.mono{o:Oper}{K K':Env->World->Prop}{Kp Kp':List PanicEntry->World->Prop}(h:AX P o K Kp ρ w)(hk:∀ ρ w,K ρ w->K' ρ w)(hp:∀ c w,Kp c w->Kp' c w):AX P o K' Kp' ρ w:=by
 refine⟨h.1,?_⟩;have h:=h.2;generalize (execOp (Coup.ev ρ) o).run P w=r at*;cases r with
 |ok x w'=>
  cases x with
  |value v=>exact hk _ _ h
  |skip=>exact hk _ _ h
  |enter f args=>
   refine Calls.mono h λe a h=>?_
   cases e with
   |returned v=>exact hk _ _ h
   |panicked c=>exact hp _ _ h
   |outgrown=>exact h
  |round l f tmps x y=>
   refine RoundIn.mono h λe a h=>?_
   cases e with
   |returned v=>exact hk _ _ h
   |panicked c=>exact hp _ _ h
   |outgrown=>exact h
  |_=>exact h.elim
 |halt x w'=>
  cases x with
  |panic v=>exact hp _ _ h
  |_=>exact h.elim
theorem wK.mono{o:Oper}{K K':Env->World->Prop}(h:wK P o K ρ w)(hk:∀ ρ w,K ρ w->K' ρ w):wK P o K' ρ w:=by
 unfold wK at*;generalize (execOp (Coup.ev ρ) o).run P w=r at*;cases r with
 |ok x w'=>
  cases x with
  |value v=>exact hk _ _ h
  |skip=>exact hk _ _ h
  |enter f args=>exact Calls.mono h λe g ⟨v,a,c⟩=>⟨v,a,hk _ _ c⟩
  |round l f tmps x y=>exact RoundIn.mono h λe g ⟨v,a,c⟩=>⟨v,a,hk _ _ c⟩
  |_=>exact h.elim
 |halt x w'=>exact h.elim
theorem Tc{o:Oper}{K:Env->World->Prop}{v:Value}{w':World}(hr:(execOp (ev ρ) o).run P w= .ok (.value v) w')(h:K (qD ρ o.dst v) w'):wK P o K ρ w:=by unfold wK;rw[hr];exact h
theorem zrc{o:Oper}{K:Env->World->Prop}{w':World}(hr:(execOp (ev ρ) o).run P w= .ok .skip w')(h:K (qD ρ o.dst undef) w'):wK P o K ρ w:=by unfold wK;rw[hr];exact h
theorem Xj {o:Oper} {K:Env->World->Prop} {f:FuncId} {vl:List Value} {R:Value->World->Prop} (hr:(execOp (ev ρ) o).run P w= .ok (.enter f vl.toArray) w)
  (hc:Calls P f vl.toArray w (qb R)) (h:∀ v w',R v w'->K (qD ρ o.dst v) w'):wK P o K ρ w:=by
 unfold wK;rw[hr];exact hc.mono λe w' ⟨v,a,c⟩=>⟨v,a,h v w' c⟩
theorem nO{id:Nat}{l:List Oper}(h:WR md P n l.toArray l Q ρ w):W md P n (.region id l.toArray false) Q ρ w:=by
 intro c e a f g;have:l.all (wT n)=true:=by simpa [codeOk]using c
 exact wpIn_region_lit<|h this e a f g
theorem oI{ops:Array Oper}(h:Q .normal ρ w):WR md P n ops [] Q ρ w:=λ_ _ _ _ a=>⟨_,a,h⟩
theorem Si{ops:Array Oper}{rest:List Oper}{o:Oper}(hg:o.guard=none)(h:wK P o (WR md P n ops rest Q) ρ w):WR md P n ops (o::rest) Q ρ w:=by
 intro c f a g i;simp only[gu,aN]at c;refine wpListIn_plain hg λK' j=>?_
 refine Oper.wpIn_mono ?_<|h.wpIn i (wT.lt c.1) _
 rintro e w' ⟨m,k,l⟩;exact j e w'<|l c.2 f e g k
theorem CB{ops:Array Oper}{rest:List Oper}{o:Oper}(hg:o.guard=none)(h:AX P o (WR md P n ops rest Q) (λc w'=>Q (.panic c) ρ w') ρ w):WR md P n ops (o::rest) Q ρ w:=by
 intro e i a j f;simp only[gu,aN]at e;refine wpListIn_plain hg λK' k=>?_
 refine Oper.wpIn_mono ?_<|h.wpIn f (wT.lt e.1) _ λc w' l=>⟨_,f,l⟩
 rintro g w' ⟨p,m,o⟩;exact k g w'<|o e.2 i g j m
theorem Sv{ops:Array Oper}{rest:List Oper}{o:Oper}(hg:o.guard=none){v:Value}{w':World}(hr:(execOp (ev ρ) o).run P w= .ok (.value v) w')(h:WR md P n ops rest Q (qD ρ o.dst v) w'):WR md P n ops (o::rest) Q ρ w:=Si hg (Tc hr h)
theorem Nq{ops:Array Oper}{rest:List Oper}{o:Oper}(hg:o.guard=none){w':World}(hr:(execOp (ev ρ) o).run P w= .ok .skip w')(h:WR md P n ops rest Q (qD ρ o.dst undef) w'):WR md P n ops (o::rest) Q ρ w:=Si hg (zrc hr h)
theorem qA {ops:Array Oper} {rest:List Oper} {o:Oper} (hg:o.guard=none) {f:FuncId} {vl:List Value} {R:Value->World->Prop} (hr:(execOp (ev ρ) o).run P w= .ok (.enter f vl.toArray) w)
 (hc:Calls P f vl.toArray w (qb R)) (h:∀ v w',R v w'->WR md P n ops rest Q (qD ρ o.dst v) w'):WR md P n ops (o::rest) Q ρ w:=Si hg (Xj hr hc h)
def yl(ops:Array Oper)(ρ:Env)(j:Nat):Option Bool:=((ops[j]?).bind (·.dst)).bind λt=>match ρ.f t with| .bool b=>some b|_=>none
theorem Ag.yl{a:Act}(h:Ag n a ρ)(ops:Array Oper)(j:Nat):yielded ops a.tmps j=Coup.yl ops ρ j:=by
 unfold yielded Coup.yl;cases ht:(ops[j]?).bind (·.dst)with
 |none=>rfl
 |some t=>
  have:=h.t t;rw[jm]at this;simp only[Option.bind_some];rw[<-this];cases hx:a.tmps[t]? with
  |none=>rfl
  |some v=>cases v<;>rfl
theorem OL{ops:Array Oper}{rest:List Oper}{d:Option Nat}{op:Op}{ty:TypeId}{pos:String}{af:Array Edge}{j:Nat}{b b':Bool}(hy:yl ops ρ j=some b')(hb:(b' == b)=false)(h:WR md P n ops rest Q (qD ρ d undef) w):
  WR md P n ops (⟨d,op,ty,pos,af,some (j,b)⟩::rest) Q ρ w:=by
 intro c e a i g;simp only[gu,aN]at c;have k:Region.wanted ⟨d,op,ty,pos,af,some (j,b)⟩ (yielded ops a.tmps)=false:=by
  simp only[Region.wanted,g.yl,hy];simpa using hb
 unfold wpListIn;rw[if_neg (by simp[k])];exact⟨λf _=>JN e f,h c.2 e _ i (g.put d (wT.lt c.1) undef)⟩
theorem Lh{ops:Array Oper}{rest:List Oper}{d:Option Nat}{op:Op}{ty:TypeId}{pos:String}{af:Array Edge}{j:Nat}{b:Bool}(hy:yl ops ρ j=some b)(h:WR md P n ops (⟨d,op,ty,pos,af,none⟩::rest) Q ρ w):
  WR md P n ops (⟨d,op,ty,pos,af,some (j,b)⟩::rest) Q ρ w:=by
 intro e f a g c;have i:(⟨d,op,ty,pos,af,none⟩::rest:List Oper).all (wT n)=true:=e;have:=h i f a g c;unfold wpListIn at this |-;have k:Region.wanted ⟨d,op,ty,pos,af,some (j,b)⟩ (yielded ops a.tmps)=true:=by
  simp only[Region.wanted,c.yl,hy];simp
 rw[if_pos k];rw[if_pos (by simp[Region.wanted])]at this;exact this
theorem sZ{ops:Array Oper}{l:List Oper}(t:Nat){p:Prop}[Decidable p](ht:ρ.f t= .bool (decide p))(h1:p->WR md P n ops l Q (up ρ t (.bool true)) w)(h2:¬p->WR md P n ops l Q (up ρ t (.bool false)) w):WR md P n ops l Q ρ w:=by
 by_cases hp:p
 .have:=h1 hp
  rwa [show Value.bool true=ρ.f t by rw[ht];simp[hp],Ey]at this
 .have:=h2 hp
  rwa [show Value.bool false=ρ.f t by rw[ht];simp[hp],Ey]at this
theorem Kg{ops:Array Oper}{l:List Oper}(t:Nat){b:Bool}(ht:ρ.f t= .bool b)(h1:b=true->WR md P n ops l Q (up ρ t (.bool true)) w)(h2:b=false->WR md P n ops l Q (up ρ t (.bool false)) w):WR md P n ops l Q ρ w:=by
 cases b with
 |true=>have:=h1 rfl;rwa [<-ht,Ey]at this
 |false=>have:=h2 rfl;rwa [<-ht,Ey]at this
theorem NC{ops:Array Oper}{l:List Oper}(t:Nat)(v:Value)(ht:ρ.f t=v)(h:WR md P n ops l Q (up ρ t v) w):WR md P n ops l Q ρ w:=by
 rwa [<-ht,Ey]at h
theorem ztZ{ops:Array Oper}{l:List Oper}(t:Nat){p:Prop}[Decidable p](ht:ρ.f t= .bool (!decide p))(h1:¬p->WR md P n ops l Q (up ρ t (.bool true)) w)(h2:p->WR md P n ops l Q (up ρ t (.bool false)) w):WR md P n ops l Q ρ w:=
 Kg t ht (λa=>h1 kF) (λa=>h2 kF)
theorem Ye{ops:Array Oper}{l:List Oper}(t:Nat){b:Bool}(ht:ρ.f t= .bool (!b))(h1:b=false->WR md P n ops l Q (up ρ t (.bool true)) w)(h2:b=true->WR md P n ops l Q (up ρ t (.bool false)) w):WR md P n ops l Q ρ w:=
 Kg t ht (λa=>h1 kF) (λa=>h2 kF)
theorem zT{ops:Array Oper}{l:List Oper}(t:Nat){p:Prop}[Decidable p](ht:ρ.f t= .bool (decide p))(hp:p)(h:WR md P n ops l Q (up ρ t (.bool true)) w):WR md P n ops l Q ρ w:=sZ t ht (λ_=>h) (λa=>absurd hp a)
theorem uy{ops:Array Oper}{l:List Oper}(t:Nat){p:Prop}[Decidable p](ht:ρ.f t= .bool (decide p))(hp:¬p)(h:WR md P n ops l Q (up ρ t (.bool false)) w):WR md P n ops l Q ρ w:=sZ t ht (λa=>absurd a hp) (λ_=>h)
theorem Ru{ops:Array Oper}{l:List Oper}(t:Nat){p:Prop}[Decidable p](ht:ρ.f t= .bool (!decide p))(hp:p)(h:WR md P n ops l Q (up ρ t (.bool false)) w):WR md P n ops l Q ρ w:=ztZ t ht (λa=>absurd hp a) (λ_=>h)
theorem Ng{ops:Array Oper}{l:List Oper}(t:Nat){b:Bool}(ht:ρ.f t= .bool b)(hp:b=true)(h:WR md P n ops l Q (up ρ t (.bool true)) w):WR md P n ops l Q ρ w:=Kg t ht (λ_=>h) (λa=>by rw[hp]at a;cases a)
theorem SN{ops:Array Oper}{l:List Oper}(t:Nat){b:Bool}(ht:ρ.f t= .bool b)(hp:b=false)(h:WR md P n ops l Q (up ρ t (.bool false)) w):WR md P n ops l Q ρ w:=Kg t ht (λa=>by rw[hp]at a;cases a) (λ_=>h)
theorem BU{ops:Array Oper}{l:List Oper}(t:Nat){b:Bool}(ht:ρ.f t= .bool (!b))(hp:b=false)(h:WR md P n ops l Q (up ρ t (.bool true)) w):WR md P n ops l Q ρ w:=Ye t ht (λ_=>h) (λa=>by rw[hp]at a;cases a)
theorem Ow{ops:Array Oper}{l:List Oper}(t:Nat){b:Bool}(ht:ρ.f t= .bool (!b))(hp:b=true)(h:WR md P n ops l Q (up ρ t (.bool false)) w):WR md P n ops l Q ρ w:=Ye t ht (λa=>by rw[hp]at a;cases a) (λ_=>h)
end
structure Kp(M:List Nat)(w w':World):Prop where
 os:w'.os=w.os
 tape:w'.tape=w.tape
 output:w'.output=w.output
 size:w.heap.size<=w'.heap.size
 block:∀ k,k<w.heap.size->k∉M->w'.heap[k]?=w.heap[k]?
namespace Kp
variable {M N:List Nat}{w w1 w2:World}
theorem refl(M:List Nat)(w:World):Kp M w w:=⟨rfl,rfl,rfl,ax _,λ_ _ _=>rfl⟩
theorem trans(h:Kp M w w1)(k:Kp M w1 w2):Kp M w w2:=
 ⟨k.os.trans h.os,k.tape.trans h.tape,k.output.trans h.output,ag h.size k.size,λi a c=>(k.block i (ae a h.size) c).trans (h.block i a c)⟩
theorem of_below(h:VD w w1):Kp M w w1:=⟨h.os,h.tape,h.output,h.size,λk a _=>h.block k a⟩
theorem weak(h:Kp M w w1)(hs:∀ k,k<w.heap.size->k∈M->k∈N):Kp N w w1:=⟨h.os,h.tape,h.output,h.size,λk a c=>h.block k a λe=>c (hs k a e)⟩
theorem rJ{g:Nat}(h:Only g w w1):Kp [g] w w1:=⟨h.os,h.tape,h.output,fJ h.size.symm,λk _ a=>h.block k kF⟩
theorem add(h:Kp M w w1)(k:Kp N w1 w2)(hn:∀ g,g∈N->w.heap.size<=g\/g∈M):Kp M w w2:=
 ⟨k.os.trans h.os,k.tape.trans h.tape,k.output.trans h.output,ag h.size k.size,λi a c=>
  (k.block i (ae a h.size) λe=>(hn i e).elim (λf=>absurd a (bW.2 f)) c).trans (h.block i a c)⟩
theorem add0(h:Kp M w w1)(k:VD w1 w2):Kp M w w2:=h.add (N:=[]) (of_below k) ig
theorem add1{g:Nat}(h:Kp M w w1)(k:Only g w1 w2)(hg:w.heap.size<=g\/g∈M):Kp M w w2:=h.add (rJ k) lH
end Kp
theorem row.kp{w w':World}{g:Nat}{l:List Value}{t:TypeId}{M:List Nat}(h:row w g l t)(k:Kp M w w')(hg:g∉M):row w' g l t:=(k.block g h.lt hg).trans h
theorem _root_.Go.RowKit.Below.acc{w0 w w':World}(h:VD w0 w)(k:VD w w'):VD w0 w':=h.trans (k.mono h.size)
def qF:List Oper->Nat->Oper
 |[],_=>default
 |o::_,0=>o
 |_::l,i+1=>qF l i
theorem JM{l:List Oper}:∀ {i:Nat},i<l.length->l.toArray[i]?=some (qF l i):=by
 induction l with
 |nil=>intro i a;simp at a
 |cons o l ih=>
  intro i a;cases i with
  |zero=>simp[qF]
  |succ i=>have:=ih (i:=i) kF;simpa [qF]using this
def tX(n:Nat):List Nat->Array Bool
 |[]=>Array.replicate n false
 |i::d=>(tX n d).setIfInBounds i true
def zoY(l:List Oper)(done:List Nat)(i:Nat):Bool:=
 Nat.blt i l.length && Nat.blt done.length l.length && Region.noSelect l.toArray && Region.free .any l.toArray (tX l.length done) i && (Region.ready .any l.toArray (tX l.length done)).contains i
def Li(l:List Oper)(done:List Nat)(is:List Nat):Bool:=
 Nat.blt done.length l.length && (Region.ready .any l.toArray (tX l.length done) == is) && is.all λi=>Nat.blt i l.length
def SL(l:List Oper)(done:List Nat):Bool:=Region.ready .any l.toArray (tX l.length done) == []
def xW(P:Program)(l:List Oper)(i:Nat)(K:Env->World->Prop)(Kp:List PanicEntry->World->Prop)(ρ:Env)(w:World):Prop:=
 if Region.wanted (qF l i) (yl l.toArray ρ)=true then AX P (qF l i) K Kp ρ w else K (qD ρ (qF l i).dst undef) w
def pnQ(Q:Post)(ms:List Dm)(c:List PanicEntry)(w:World):Prop:=∀ f,Q (.panic c) ⟨f,ms⟩ w
def Vm(l:List Oper):Nat->Nat->Nat->Bool
 |0,_,_=>false
 |f+1,k,i=>(qF l k).after.any λe=>Region.binds .any e && (Nat.beq e.on i || Vm l f e.on i)
def waits(l:List Oper)(k i:Nat):Bool:=Vm l 6 k i
def late(l:List Oper)(j:Nat):Bool:=(List.range l.length).all λk=>Nat.blt k j || (List.range k).all λi=>waits l k i
def r_(l:List Oper)(done:List Nat):Bool:=(List.range l.length).all λj=>!((tX l.length done).getD j false) || (qF l j).after.all λe=>!(Region.binds .any e) || (tX l.length done).getD e.on false
def Lv(l:List Oper)(done:List Nat):Prop:=∀ j,(tX l.length done).getD j false=true->∀ e∈(qF l j).after,Region.binds .any e=true->(tX l.length done).getD e.on false=true
theorem Zg(n:Nat):∀ d,(tX n d).size=n
 |[]=>by simp[tX]
 |i::d=>by rw[tX,Array.size_setIfInBounds];exact Zg n d
theorem zmc{l:List Oper}{done:List Nat}(h:r_ l done=true):Lv l done:=by
 intro j a e i hb;have k:j<l.length:=by
  rcases dH j l.length with c|c
  .exact c
  .have m:=Zg l.length done
   rw[jm,gy dB]at a;cases a
 have f:=dC.1 h j (bZ.2 k);rw[a,gV,gW]at f;have g:=Array.all_eq_true'.1 f e i;rw[hb,gV,gW]at g;exact g
def MO(l:List Oper)(done:List Nat)(i:Nat):Bool:=zoY l done i && r_ l done
def AnyS(P:Program)(l:List Oper)(S:World->Prop)(Q:Post):Nat->List Nat->Env->World->Prop
 |0,done,ρ,w=>Region.ready .any l.toArray (tX l.length done)=[]/\Q .normal ρ w
 |f+1,done,ρ,w=>(Region.ready .any l.toArray (tX l.length done)=[]->Q .normal ρ w)/\
  ∀ i∈Region.ready .any l.toArray (tX l.length done),xW P l i (λa w'=>(late l i=false->S w')/\AnyS P l S Q f (i::done) a w') (pnQ Q ρ.ms) ρ w
def WA(_md:Option Nat->Prop)(P:Program)(n:Nat)(l:List Oper)(S:World->Prop)(Q:Post)(done:List Nat)(ρ:Env)(w:World):Prop:=
 l.all (wT n)=true->S w->AnyS P l S Q (l.length - done.length) done ρ w
def WO(_md:Option Nat->Prop)(P:Program)(n:Nat)(l:List Oper)(S:World->Prop)(Q:Post)(done:List Nat)(i:Nat)(ρ:Env)(w:World):Prop:=
 l.all (wT n)=true->S w->xW P l i (λa w'=>(late l i=false->S w')/\AnyS P l S Q (l.length - (i::done).length) (i::done) a w') (pnQ Q ρ.ms) ρ w
section
variable {md:Option Nat->Prop}{P:Program}{n:Nat}{Q:Post}{ρ:Env}{w:World}{l:List Oper}{S:World->Prop}{done:List Nat}
theorem xW.mono{i:Nat}{K K':Env->World->Prop}{Kp:List PanicEntry->World->Prop}(h:xW P l i K Kp ρ w)(hk:∀ ρ w,K ρ w->K' ρ w):xW P l i K' Kp ρ w:=by
 unfold xW at*
 split
 .rename_i a;rw[if_pos a]at h;exact h.mono hk λ_ _ h=>h
 .rename_i a;rw[if_neg a]at h;exact hk _ _ h
theorem zrf{a:Act}(ha:Ag n a ρ)(o:Oper)(ops:Array Oper):Region.wanted o (yielded ops a.tmps)=Region.wanted o (yl ops ρ):=by
 have:=ha.yl ops;simp only[Region.wanted];cases o.guard with
 |none=>rfl
 |some p=>simp only;rw[this]
theorem zt1(hl:l.all (wT n)=true){i:Nat}(hi:i<l.length):wT n (qF l i)=true:=by
 have a:=JM hi;have c:qF l i∈l:=by
  have:l[i]?=some (qF l i):=by simpa using a
  exact aO this
 exact dC.1 hl _ c
theorem xW.wpOpIn{i:Nat}{K:Env->World->Prop}{Kp:List PanicEntry->World->Prop}(hl:l.all (wT n)=true)(hi:i<l.length)(h:xW P l i K Kp ρ w){rd:Option Nat}{a:Act}(ha:Ag n a ρ)(Q':Exit->Act->World->Prop)(hp:∀ c w',Kp c w'->Q' (.panic c) a w')(hdk:wT n (qF l i)=true):
  wpOpIn (fr rd) 9 P l.toArray Q' i (λa' w'=>∃ ρ',Ag n a' ρ'/\K ρ' w') a w:=by
 refine wpOpIn_step (JM hi) λK' c=>?_
 unfold xW at h;rw[zrf ha]
 split
 .rename_i a
  rw[if_pos a]at h;exact Oper.wpIn_mono c<|h.wpIn ha (wT.lt hdk) _ hp
 .rename_i a
  rw[if_neg a]at h;exact⟨λf _=>JN rd f,c _ _ ⟨_,ha.put _ (wT.lt hdk) undef,h⟩⟩
theorem Np(i:Nat)(d:List Nat):tX l.length (i::d)=(tX l.length d).setIfInBounds i true:=rfl
theorem QN{i:Nat}{listed:Array Bool}(h:i∈Region.ready .any l.toArray listed):i<l.length:=by
 have:=(mem_ready.1 h).2;obtain⟨o,a,_⟩:=this;have:=(aX.1 a).1;simpa using this
theorem AnyS.wpAnyIn(hl:l.all (wT n)=true){rd:Option Nat}:∀ (f:Nat) (done:List Nat) (ρ:Env) (w:World) (a:Act),Ag n a ρ->AnyS P l S Q f done ρ w->wpAnyIn (fr rd) 9 P .any l.toArray (lift n Q) f (tX l.length done) a w
 |0,done,ρ,w,a,ha,h=>⟨h.1,ρ,ha,h.2⟩
 |f+1,done,ρ,w,a,ha,h=>by
  refine⟨λj=>⟨ρ,ha,h.1 j⟩,λi e=>?_⟩;have g:=QN e;refine wpOpIn_mono ?_<|xW.wpOpIn hl g (h.2 i e) ha _ (λc w' k=>⟨ρ,ha,k ρ.f⟩)<|zt1 hl g
  rintro l w' ⟨m,o,_,p⟩;exact AnyS.wpAnyIn hl f (i::done) m w' l o p
theorem Da{id:Nat}(S:World->Prop)(hm:P.follows .mixedOrders=true)(hS:S w.drew)(h:WA md P n l S Q [] ρ w.drew):W md P n (.region id l.toArray true) Q ρ w:=by
 intro e f a _ g;have c:l.all (wT n)=true:=by simpa [codeOk]using e
 refine wpIn_region_any hm ?_;have:=AnyS.wpAnyIn c (rd:=f) _ [] ρ w.drew a g (h c hS);simpa [tX]using this
theorem pq(hc:SL l done=true)(h:Q .normal ρ w):WA md P n l S Q done ρ w:=by
 intro _ _;simp only[SL,beq_iff_eq]at hc;cases hf:l.length - done.length with
 |zero=>exact⟨hc,h⟩
 |succ f=>exact⟨λ_=>h,by rw[hc];simp⟩
def YS(P:Program)(l:List Oper)(S:World->Prop)(i:Nat)(v:Value)(ρ:Env):Prop:=
 if Region.wanted (qF l i) (yl l.toArray ρ)=true then ∀ w',S w'->(execOp (ev ρ) (qF l i)).run P w'= .ok (.value v) w'\/∃ (f:FuncId) (a:List Value),(execOp (ev ρ) (qF l i)).run P w'= .ok (.enter f a.toArray) w'/\Calls P f a.toArray w' (qb λc e=>c=v/\w'=e)else v=undef
theorem YS.op{i:Nat}{v:Value}{K:Env->World->Prop}{Kp:List PanicEntry->World->Prop}(h:YS P l S i v ρ)(hS:S w)(hk:K (qD ρ (qF l i).dst v) w):xW P l i K Kp ρ w:=by
 unfold xW;unfold YS at h
 split
 .rename_i a;rw[if_pos a]at h;exact wK.x ((h w hS).elim (λh=>Tc h hk) fun⟨f,j,c,e⟩=>Xj c e λk w' ⟨g,i⟩=>by subst g;subst i;exact hk)
 .rename_i a;rw[if_neg a]at h;subst h;exact hk
theorem NF(ρ:Env){d e:Option Nat}(u v:Value)(h:∀ k,d=some k->e≠some k):qD (qD ρ d u) e v=qD (qD ρ e v) d u:=by
 cases d with
 |none=>rfl
 |some d=>
  cases e with
  |none=>rfl
  |some e=>
   have f:d≠e:=λx=>h d rfl (x▸rfl)
   refine Env.ext' (λi=>?_) rfl;simp only[qD]
   by_cases a:i=d
   .subst a;rw[EU _ _ f,Je,Je]
   .by_cases c:i=e
    .subst c;rw[Je,EU _ _ a,Je]
    .rw[EU _ _ c,EU _ _ a,EU _ _ a,EU _ _ c]
theorem LJ{d:Option Nat}{v:Value}{x:Operand}(h:∀ k,d=some k->x≠ .tmp k):ev (qD ρ d v) x=ev ρ x:=by
 cases d with
 |none=>rfl
 |some d=>
  cases x with
  |tmp t=>
   have:t≠d:=λe=>h d rfl (e▸rfl)
   exact EU _ _ this
  |_=>rfl
theorem Zi{ops:Array Oper}(o:Oper)(hs:∀ cs b,o.op≠ .select cs b)(d:Option Nat)(v:Value)(h:∀ k,d=some k->k∉o.looksAt ops):execOp (ev (qD ρ d v)) o=execOp (ev ρ) o:=
 execOp_congr o hs λx a=>LJ λk c e=>h k c (by
  subst e;exact aF _ (List.mem_filterMap.2 ⟨.tmp k,by simpa using a,rfl⟩))
theorem zkn{ops:Array Oper}(o:Oper)(d:Option Nat)(v:Value)(h:∀ k,d=some k->k∉o.looksAt ops):Region.wanted o (yl ops (qD ρ d v))=Region.wanted o (yl ops ρ):=by
 cases d with
 |none=>rfl
 |some d=>
  unfold Region.wanted;cases hg:o.guard with
  |none=>rfl
  |some gw=>
   obtain⟨g,f⟩:=gw;have a:yl ops (qD ρ (some d) v) g=yl ops ρ g:=by
    unfold yl;cases ht:(ops[g]?).bind (·.dst)with
    |none=>rfl
    |some t=>
     have c:t≠d:=λe=>h d rfl (by subst e;simp[Oper.looksAt,hg,ht])
     simp only[Option.bind_some,qD,EU _ _ c]
   simp only[a]
theorem AX.put {ops:Array Oper} {o:Oper} {K:Env->World->Prop} {Kp:List PanicEntry->World->Prop} (hs:∀ cs b,o.op≠ .select cs b) {d:Option Nat} {v:Value} (h1:∀ k,d=some k->k∉o.looksAt ops) (h2:∀ k,d=some k->o.dst≠some k)
  (h:AX P o K Kp (qD ρ d v) w):AX P o (λρ' w'=>ρ'=qD ρ o.dst (ρ'.f (o.dst.getD 0))/\K (qD ρ' d v) w') Kp ρ w:=by
 have key:∀ u,qD ρ o.dst u=qD ρ o.dst ((qD ρ o.dst u).f (o.dst.getD 0)):=by
  intro u;cases hd:o.dst with
  |none=>rfl
  |some k=>simp[qD,Je]
 refine⟨h.1,?_⟩;have h:=h.2;rw[Zi (ops:=ops) o hs d v h1]at h;generalize (execOp (Coup.ev ρ) o).run P w=r at*;cases r with
 |ok x w'=>
  cases x with
  |value u=>exact⟨key u,by rw[NF ρ u v (λk a e=>h2 k e a)];exact h⟩
  |skip=>exact⟨key undef,by rw[NF ρ undef v (λk a e=>h2 k e a)];exact h⟩
  |enter f args=>
   refine Calls.mono h λe g h=>?_
   cases e with
   |returned u=>exact⟨key u,by rw[NF ρ u v (λk a e=>h2 k e a)];exact h⟩
   |panicked c=>exact h
   |outgrown=>exact h
  |round l f tmps x y=>
   refine RoundIn.mono h λe g h=>?_
   cases e with
   |returned u=>exact⟨key u,by rw[NF ρ u v (λk a e=>h2 k e a)];exact h⟩
   |panicked c=>exact h
   |outgrown=>exact h
  |_=>exact h.elim
 |halt x w'=>
  cases x with
  |panic v=>exact h
  |_=>exact h.elim
theorem xW.put {i j:Nat} {K:Env->World->Prop} {Kp:List PanicEntry->World->Prop} {v:Value} (hj:j<l.length) (hi:i<l.length) (hap:(qF l i).apart l.toArray (qF l j)=true) (hsel:Region.noSelect l.toArray=true)
  (hy:YS P l S i v ρ) (h:xW P l j K Kp (qD ρ (qF l i).dst v) w):xW P l j (λρ' w'=>YS P l S i v ρ'/\K (qD ρ' (qF l i).dst v) w') Kp ρ w:=by
 obtain⟨f,g,m⟩:=Oper.apart_spec hap;have p:=λcs b=>Region.noSelect_spec hsel j (qF l j) cs b (JM hj)
 have q:=λcs b=>Region.noSelect_spec hsel i (qF l i) cs b (JM hi)
 have o:∀ u,YS P l S i v (qD ρ (qF l j).dst u):=by
  intro u;unfold YS at*;rw[zkn _ _ _ m,Zi (ops:=l.toArray) _ q _ _ m];exact hy
 unfold xW at*;rw[zkn _ _ _ f]at h
 split
 .rename_i a
  rw[if_pos a]at h;refine(AX.put (ops:=l.toArray) p f g h).mono ?_ λ_ _ h=>h
  rintro ρ' w' ⟨r,c⟩;exact⟨by rw[r];exact o _,c⟩
 .rename_i a
  rw[if_neg a]at h;exact⟨o _,by rw[NF ρ undef v (λk c e=>g k e c)];exact h⟩
theorem zqg{i j:Nat}(done:List Nat):tX l.length (i::j::done)=tX l.length (j::i::done):=by
 by_cases a:i=j
 .subst a;rfl
 .simp only[tX];exact Array.setIfInBounds_comm _ _ (bT a)
theorem AnyS.swap:∀ (f:Nat) (d d':List Nat) (ρ:Env) (w:World),tX l.length d=tX l.length d'->AnyS P l S Q f d ρ w->AnyS P l S Q f d' ρ w
 |0,d,d',ρ,w,e,h=>by rw[AnyS]at h |-;rwa [<-e]
 |f+1,d,d',ρ,w,e,h=>by
  rw[AnyS]at h |-;rw[<-e];refine⟨h.1,λi a=>(h.2 i a).mono λc w' ⟨g,j⟩=>⟨g,AnyS.swap f (i::d) (i::d') c w' (by rw[Np,Np,e]) j⟩⟩
theorem Lv.cons{j:Nat}{done:List Nat}(h:Lv l done)(hj:j∈Region.ready .any l.toArray (tX l.length done)):Lv l (j::done):=by
 intro k a e c hb;rw[Np]at a |-
 by_cases f:j=k
 .subst f
  obtain⟨_,o,g,i⟩:=mem_ready.1 hj;have:o=qF l j:=by have:=JM (QN hj);rw[this]at g;exact(bQ g).symm
  subst this;exact getD_set_true<|i e c hb
 .rw[getD_set_ne false f]at a
  exact getD_set_true<|h k a e c hb
theorem ZO{done:List Nat}(hcl:Lv l done):∀ {f k i:Nat},Vm l f k i=true->(∀ e∈(qF l k).after,Region.binds .any e=true->(tX l.length done).getD e.on false=true)->(tX l.length done).getD i false=true
 |f+1,k,i,h,hk=>by
  obtain⟨e,j,a⟩:=Array.any_eq_true'.1 h;rw[aN]at a;have c:=hk e j a.1;rcases jq _ _▸a.2 with g|g
  .rw[bX g]at c;exact c
  .exact ZO hcl g<|hcl e.on c
theorem zqh{i j:Nat}{done:List Nat}(hcl:Lv l done)(hj:j∈Region.ready .any l.toArray (tX l.length done))(hi:i∈Region.ready .any l.toArray (tX l.length done))(hne:j≠i):late l j=false:=by
 have o:=QN hj;have p:=QN hi;rw[gU];intro f;have key:∀ a b,a<b->b<l.length->(Nat.blt b j)=false->a∈Region.ready .any l.toArray (tX l.length done)->b∈Region.ready .any l.toArray (tX l.length done)->False:=by
  intro a b q hb r s t;unfold late at f;have g:=dC.1 f b (bZ.2 hb);rw[r,gW]at g;have u:=dC.1 g a (bZ.2 q);obtain⟨_,ob,h,y⟩:=mem_ready.1 t;have:ob=qF l b:=by have:=JM hb;rw[this]at h;exact(bQ h).symm
  subst this;have k:=(mem_ready.1 s).1;have c:=ZO hcl u y;rcases dH a (tX l.length done).size with e|e
  .simp[e]at k c;rw[k]at c;cases c
  .simp[gy e]at c
 rcases dH i j with m|m
 .exact key i j m o (by simp[Nat.blt_eq,gU]) hi hj
 .exact key j i dB p (by rw[gU,Ne,Nat.blt_eq];omega) hj hi
theorem AnyS.first{i:Nat}{v:Value}(hi:i<l.length)(hsel:Region.noSelect l.toArray=true):∀ (f:Nat) (done:List Nat) (ρ:Env) (w:World),
  (∀ j oj,l.toArray[j]?=some oj->j≠i->(tX l.length done).getD j true=false->(∀ e∈oj.after,Region.binds .any e=true->e.on≠i)->(qF l i).apart l.toArray oj=true)->
  Lv l done->i∈Region.ready .any l.toArray (tX l.length done)->YS P l S i v ρ->S w->AnyS P l S Q f (i::done) (qD ρ (qF l i).dst v) w->AnyS P l S Q (f+1) done ρ w:=by
 intro f
 induction f with
 |zero=>
  intro done ρ w _ _ hr m h H;refine⟨λo=>(by rw[o]at hr;cases hr),λj g=>?_⟩
  by_cases a:j=i
  .subst a;exact m.op h ⟨λ_=>h,H⟩
  .have:=ready_mono g a
   rw[<-Np,H.1]at this;cases this
 |succ f ih=>
  intro done ρ w s t hr m h H;refine⟨λo=>(by rw[o]at hr;cases hr),λj g=>?_⟩
  by_cases a:j=i
  .subst a;exact m.op h ⟨λ_=>h,H⟩
  .have u:=QN g
   have y:=ready_mono g a;rw[<-Np]at y;have c:=H.2 j y;obtain⟨z,oj,p,E⟩:=mem_ready.1 g;have F:oj=qF l j:=by have:=JM u;rw[this]at p;exact(bQ p).symm
   have G:∀ e∈oj.after,Region.binds .any e=true->e.on≠i:=λe I hb J=>by
    have c:=E e I hb;have A:=(mem_ready.1 hr).1;rw[J]at c;rcases dH i (tX l.length done).size with q|q
    .simp[q]at A c;rw[A]at c;cases c
    .simp[gy q]at c
   have B:=s j oj p a z G;rw[F]at B;rw[LU]at c;refine(xW.put u hi B hsel m c).mono ?_;rintro K w' ⟨L,C,M⟩;have N:=C (zqh t g hr a);refine⟨C,ih (j::done) K w' ?_ (t.cons g) ?_ L N (AnyS.swap _ _ _ _ _ (zqg done) M)⟩
   .intro k ok O P r Q
    refine s k ok O P ?_ Q;rw[Np]at r
    by_cases D:j=k
    .subst D;exact z
    .rw[getD_set_ne true D]at r;exact r
   .rw[Np];exact ready_mono hr (bT a)
theorem UB(i:Nat)(hc:MO l done i=true){v:Value}(hy:YS P l S i v ρ)(h:WA md P n l S Q (i::done) (qD ρ (qF l i).dst v) w):WA md P n l S Q done ρ w:=by
 intro e a;simp only[MO,zoY,aN]at hc;obtain⟨⟨⟨⟨⟨g,j⟩,k⟩,m⟩,o⟩,p⟩:=hc;have c:i<l.length:=by simpa using g
 have r:done.length<l.length:=by simpa using j
 obtain⟨f,q⟩:∃ f,l.length - done.length=f+1:=⟨l.length - done.length - 1,dB⟩;have hr:=h e a;rw[show l.length - (i::done).length=f by simp;omega]at hr;rw[q];exact AnyS.first c k f done ρ w (Region.free_spec (JM c) m) (zmc p) (by simpa using o) hy a hr
theorem C_ (i:Nat) (hc:MO l done i=true) {v:Value} (hw:Region.wanted (qF l i) (yl l.toArray ρ)=true) (hv:∀ w',S w'->(execOp (ev ρ) (qF l i)).run P w'= .ok (.value v) w')
 (h:WA md P n l S Q (i::done) (qD ρ (qF l i).dst v) w):WA md P n l S Q done ρ w:=UB i hc (by unfold YS;rw[if_pos hw];exact λw' a=>.inl (hv w' a)) h
theorem zh (i:Nat) (hc:MO l done i=true) {v:Value} {f:FuncId} {vl:List Value} (hw:Region.wanted (qF l i) (yl l.toArray ρ)=true) (hr:∀ w',(execOp (ev ρ) (qF l i)).run P w'= .ok (.enter f vl.toArray) w')
  (hv:∀ w',S w'->Calls P f vl.toArray w' (qb λv' w''=>v'=v/\w'=w'')) (h:WA md P n l S Q (i::done) (qD ρ (qF l i).dst v) w):WA md P n l S Q done ρ w:=
 UB i hc (by unfold YS;rw[if_pos hw];exact λw' a=>.inr ⟨f,vl,hr w',hv w' a⟩) h
theorem oU (i:Nat) (hc:MO l done i=true) (hw:Region.wanted (qF l i) (yl l.toArray ρ)=false)
 (h:WA md P n l S Q (i::done) (qD ρ (qF l i).dst undef) w):WA md P n l S Q done ρ w:=UB i hc (by unfold YS;rw[if_neg (by simp[hw])]) h
theorem VG{is:List Nat}(hc:Li l done is=true)(hne:is≠[])(h:∀ i∈is,WO md P n l S Q done i ρ w):WA md P n l S Q done ρ w:=by
 intro e g;simp only[Li,aN,beq_iff_eq]at hc;obtain⟨⟨j,a⟩,o⟩:=hc;have p:done.length<l.length:=by simpa using j
 obtain⟨f,k⟩:∃ f,l.length - done.length=f+1:=⟨l.length - done.length - 1,dB⟩;rw[k];refine⟨λm=>absurd (a▸m) hne,λi c=>?_⟩;rw[a]at c;have:=h i c e g;rw[show l.length - (i::done).length=f by simp;omega]at this;exact this
theorem oh(i:Nat)(hc:Li l done [i]=true)(h:WO md P n l S Q done i ρ w):WA md P n l S Q done ρ w:=
 VG hc ig lD
theorem zw(i j:Nat)(hc:Li l done [i,j]=true)(h1:WO md P n l S Q done i ρ w)(h2:WO md P n l S Q done j ρ w):WA md P n l S Q done ρ w:=
 VG hc ig (by intro x a;simp at a;exact a.elim (λe=>e▸h1) (λe=>e▸h2))
theorem zt2(i j k:Nat)(hc:Li l done [i,j,k]=true)(h1:WO md P n l S Q done i ρ w)(h2:WO md P n l S Q done j ρ w)(h3:WO md P n l S Q done k ρ w):WA md P n l S Q done ρ w:=
 VG hc ig (by intro x a;simp at a;exact a.elim (λe=>e▸h1) (λe=>e.elim (λe=>e▸h2) (λe=>e▸h3)))
theorem Dv{i:Nat}(hi:Nat.blt i l.length=true)(hw:Region.wanted (qF l i) (yl l.toArray ρ)=true)(h:wK P (qF l i) (λρ' w'=>S w'/\WA md P n l S Q (i::done) ρ' w') ρ w):WO md P n l S Q done i ρ w:=by
 intro c f;unfold xW;rw[if_pos hw];exact(h.mono λρ' w' ⟨a,e⟩=>⟨λ_=>a,e c a⟩).x
def NL(_md:Option Nat->Prop)(P:Program)(n:Nat)(l:List Oper)(S:World->Prop)(Q:Post)(done:List Nat)(ρ:Env)(w:World):Prop:=
 l.all (wT n)=true->AnyS P l S Q (l.length - done.length) done ρ w
def Wi(l:List Oper)(done:List Nat)(i:Nat):Bool:=Li l done [i] && late l i
theorem BV{i:Nat}(hc:Wi l done i=true)(hw:Region.wanted (qF l i) (yl l.toArray ρ)=true)(h:wK P (qF l i) (λρ' w'=>NL md P n l S Q (i::done) ρ' w') ρ w):NL md P n l S Q done ρ w:=by
 intro i;simp only[Wi,Li,aN,beq_iff_eq]at hc;obtain⟨⟨⟨j,a⟩,_⟩,m⟩:=hc;have q:done.length<l.length:=by simpa using j
 obtain⟨f,o⟩:∃ f,l.length - done.length=f+1:=⟨l.length - done.length - 1,dB⟩;rw[o];refine⟨λc=>(by rw[a]at c;cases c),λk e=>?_⟩;rw[a,aJ]at e;subst e;unfold xW;rw[if_pos hw];refine(h.mono λρ' w' p=>⟨λg=>(by rw[m]at g;cases g),?_⟩).x;have:=p i
 rwa [show l.length - (k::done).length=f by simp;omega]at this
theorem Il(h:NL md P n l S Q done ρ w):WA md P n l S Q done ρ w:=λa _=>h a
theorem L_(hc:SL l done=true)(h:Q .normal ρ w):NL md P n l S Q done ρ w:=by
 intro _;simp only[SL,beq_iff_eq]at hc;cases hf:l.length - done.length with
 |zero=>exact⟨hc,h⟩
 |succ f=>exact⟨λ_=>h,by rw[hc];simp⟩
theorem Bi {i:Nat} (hi:Nat.blt i l.length=true) (hw:Region.wanted (qF l i) (yl l.toArray ρ)=true) {v:Value} {w':World} (hr:(execOp (ev ρ) (qF l i)).run P w= .ok (.value v) w')
 (hS:S w') (h:WA md P n l S Q (i::done) (qD ρ (qF l i).dst v) w'):WO md P n l S Q done i ρ w:=Dv hi hw (Tc hr ⟨hS,h⟩)
theorem NB {i:Nat} (hi:Nat.blt i l.length=true) (hw:Region.wanted (qF l i) (yl l.toArray ρ)=true) {w':World} (hr:(execOp (ev ρ) (qF l i)).run P w= .ok .skip w')
 (hS:S w') (h:WA md P n l S Q (i::done) (qD ρ (qF l i).dst undef) w'):WO md P n l S Q done i ρ w:=Dv hi hw (zrc hr ⟨hS,h⟩)
theorem qw {i:Nat} (hi:Nat.blt i l.length=true) (hw:Region.wanted (qF l i) (yl l.toArray ρ)=true) {f:FuncId} {vl:List Value} {R:Value->World->Prop} (hr:(execOp (ev ρ) (qF l i)).run P w= .ok (.enter f vl.toArray) w)
 (hc:Calls P f vl.toArray w (qb R)) (h:∀ v w',R v w'->S w'/\WA md P n l S Q (i::done) (qD ρ (qF l i).dst v) w'):WO md P n l S Q done i ρ w:=Dv hi hw (Xj hr hc h)
theorem EW(t:Nat){p:Prop}[Decidable p](ht:ρ.f t= .bool (decide p))(h1:p->WA md P n l S Q done (up ρ t (.bool true)) w)(h2:¬p->WA md P n l S Q done (up ρ t (.bool false)) w):WA md P n l S Q done ρ w:=by
 by_cases hp:p
 .have:=h1 hp
  rwa [show Value.bool true=ρ.f t by rw[ht];simp[hp],Ey]at this
 .have:=h2 hp
  rwa [show Value.bool false=ρ.f t by rw[ht];simp[hp],Ey]at this
theorem WS(t:Nat){b:Bool}(ht:ρ.f t= .bool b)(h1:b=true->WA md P n l S Q done (up ρ t (.bool true)) w)(h2:b=false->WA md P n l S Q done (up ρ t (.bool false)) w):WA md P n l S Q done ρ w:=by
 cases b with
 |true=>have:=h1 rfl;rwa [<-ht,Ey]at this
 |false=>have:=h2 rfl;rwa [<-ht,Ey]at this
theorem zt3(t:Nat){p:Prop}[Decidable p](ht:ρ.f t= .bool (!decide p))(h1:¬p->WA md P n l S Q done (up ρ t (.bool true)) w)(h2:p->WA md P n l S Q done (up ρ t (.bool false)) w):WA md P n l S Q done ρ w:=
 WS t ht (λa=>h1 kF) (λa=>h2 kF)
theorem zrh(t:Nat){b:Bool}(ht:ρ.f t= .bool (!b))(h1:b=false->WA md P n l S Q done (up ρ t (.bool true)) w)(h2:b=true->WA md P n l S Q done (up ρ t (.bool false)) w):WA md P n l S Q done ρ w:=
 WS t ht (λa=>h1 kF) (λa=>h2 kF)
theorem Ig(t:Nat){p:Prop}[Decidable p](ht:ρ.f t= .bool (decide p))(hp:p)(h:WA md P n l S Q done (up ρ t (.bool true)) w):WA md P n l S Q done ρ w:=EW t ht (λ_=>h) (λa=>absurd hp a)
theorem Ap(t:Nat){p:Prop}[Decidable p](ht:ρ.f t= .bool (decide p))(hp:¬p)(h:WA md P n l S Q done (up ρ t (.bool false)) w):WA md P n l S Q done ρ w:=EW t ht (λa=>absurd a hp) (λ_=>h)
theorem TM(t:Nat){p:Prop}[Decidable p](ht:ρ.f t= .bool (!decide p))(hp:p)(h:WA md P n l S Q done (up ρ t (.bool false)) w):WA md P n l S Q done ρ w:=zt3 t ht (λa=>absurd hp a) (λ_=>h)
theorem PR(t:Nat){b:Bool}(ht:ρ.f t= .bool b)(hp:b=false)(h:WA md P n l S Q done (up ρ t (.bool false)) w):WA md P n l S Q done ρ w:=WS t ht (λa=>by rw[hp]at a;cases a) (λ_=>h)
end
def vC(P:Program)(f:FuncId):Bool:=match P.funcs[f]? with|some fn=>!(fn.name == "runtime.NumGoroutine") && fn.body.isSome|none=>false
def vS(P:Program)(t:TypeId)(k:Nat):Bool:=match P.info? t with|some i=>Nat.beq i.size k|none=>false
def Df(P:Program)(t e k:Nat):Bool:=(match P.underlying t with|some (.slice e')=>Nat.beq e' e|_=>false) && vS P e k
def arrayOf(P:Program)(t m e k:Nat):Bool:=(match P.underlying t with|some (.array m' e')=>Nat.beq e' e && Nat.beq m' m|_=>false) && vS P e k
def Nz(P:Program)(t:TypeId):Bool:=(P.underlying t).any (·.isRow)
def Lf(P:Program)(t:TypeId):Bool:=match P.underlying t with|some d=>!d.isRow|none=>false
def zK(P:Program)(t:TypeId)(k:IntKind):Bool:=match P.underlying t with|some (.int k')=>decide (k'=k)|_=>false
def WJ(P:Program)(t i off:Nat):Bool:=match P.underlying t with|some (.struct fs)=>(match fs[i]? with|some f=>Nat.beq f.offset off && (match P.info? f.type with|some ii=>Nat.blt 0 ii.size|none=>false)|none=>false)|_=>false
section
variable {P:Program}{ρ:Env}{w:World}{d:Option Nat}{ty:TypeId}{pos:String}{af:Array Edge}{gd:Option (Nat × Bool)}
theorem FI{t k:Nat}(h:vS P t k=true):∃ i,P.info? t=some i/\i.size=k:=by
 unfold vS at h;cases hi:P.info? t with
 |none=>simp[hi]at h
 |some i=>rw[hi]at h;exact⟨i,rfl,bX h⟩
theorem RD{t k:Nat}(h:vS P t k=true):(P.info? t).map (·.size)=some k:=by
 obtain⟨i,a,c⟩:=FI h;simp[a,c]
theorem TV{t e k:Nat}(h:Df P t e k=true):P.underlying t=some (.slice e)/\vS P e k=true:=by
 unfold Df at h;simp only[aN]at h;refine⟨?_,h.2⟩;have:=h.1
 split at this
 .rename_i c a;rw[a,bX this]
 .cases this
theorem UQ{t m e k:Nat}(h:arrayOf P t m e k=true):P.underlying t=some (.array m e)/\vS P e k=true:=by
 unfold arrayOf at h;simp only[aN]at h;refine⟨?_,h.2⟩;have:=h.1
 split at this
 .rename_i c e a
  simp only[aN]at this;rw[a,bX this.1,bX this.2]
 .cases this
theorem zko{t:Nat}(h:Lf P t=true)(w:World):(isAgg t).run P w= .ok false w:=by
 unfold Lf at h;cases hu:P.underlying t with
 |none=>simp[hu]at h
 |some dd=>
  rw[hu]at h;simp only[isAgg,Sem.run_bind,run_underlying hu,Result.andThen_ok];cases dd<;>first |rfl|(simp[TypeDesc.isRow]at h)
theorem nS{x:Operand}:(execOp (ev ρ) ⟨d, .move x,ty,pos,af,gd⟩).run P w= .ok (.value (ev ρ x)) w:=rfl
theorem rO{x:Operand}:(execOp (ev ρ) ⟨d, .assign x,ty,pos,af,gd⟩).run P w= .ok (.value (ev ρ x)) w:=rfl
theorem ZA{c a b:Operand}{t:Bool}(h:ev ρ c= .bool t):(execOp (ev ρ) ⟨d, .pick c a b,ty,pos,af,gd⟩).run P w= .ok (.value (if t then ev ρ a else ev ρ b)) w:=by
 simp[execOp,h,asBool,Result.andThen]
theorem pK{c a b:Operand}(h:ev ρ c= .bool true):(execOp (ev ρ) ⟨d, .pick c a b,ty,pos,af,gd⟩).run P w= .ok (.value (ev ρ a)) w:=by rw[ZA h];rfl
theorem oP{c a b:Operand}(h:ev ρ c= .bool false):(execOp (ev ρ) ⟨d, .pick c a b,ty,pos,af,gd⟩).run P w= .ok (.value (ev ρ b)) w:=by rw[ZA h];rfl
theorem nV{c:Int}(h:-9223372036854775808<=c/\c<=9223372036854775807):IntKind.i64.wrap c=c:=by rw[IntKind.wrap_i64];omega
theorem wu64{c:Int}(h:0<=c/\c<=18446744073709551615):IntKind.u64.wrap c=c:=by rw[IntKind.wrap_u64];omega
theorem oJ{k:IntKind}{t t':TypeId}{x y:Operand}{a b c:Int}(hx:ev ρ x= .int k a)(hy:ev ρ y= .int k b)(hc:k.wrap (a+b)=c):
  (execOp (ev ρ) ⟨d, .binOp .add t x y t',ty,pos,af,gd⟩).run P w= .ok (.value (.int k c)) w:=by
 subst hc;simp[execOp,hx,hy,eqGuard,binOp,Op.intArith,Result.andThen]
theorem vZ{k:IntKind}{t t':TypeId}{x y:Operand}{a b c:Int}(hx:ev ρ x= .int k a)(hy:ev ρ y= .int k b)(hc:k.wrap (a - b)=c):
  (execOp (ev ρ) ⟨d, .binOp .sub t x y t',ty,pos,af,gd⟩).run P w= .ok (.value (.int k c)) w:=by
 subst hc;simp[execOp,hx,hy,eqGuard,binOp,Op.intArith,Result.andThen]
theorem yR{k:IntKind}{t t':TypeId}{x y:Operand}{a b c:Int}(hx:ev ρ x= .int k a)(hy:ev ρ y= .int k b)(hc:k.wrap (a*b)=c):
  (execOp (ev ρ) ⟨d, .binOp .mul t x y t',ty,pos,af,gd⟩).run P w= .ok (.value (.int k c)) w:=by
 subst hc;simp[execOp,hx,hy,eqGuard,binOp,Op.intArith,Result.andThen]
theorem MP{k:IntKind}{t t':TypeId}{x y:Operand}{a b c:Int}(hx:ev ρ x= .int k a)(hy:ev ρ y= .int k b)(hb:b≠0)(hc:k.wrap (a.tdiv b)=c):
  (execOp (ev ρ) ⟨d, .binOp .quo t x y t',ty,pos,af,gd⟩).run P w= .ok (.value (.int k c)) w:=by
 subst hc;simp[execOp,hx,hy,eqGuard,binOp,Op.intDiv,Result.andThen,hb]
theorem NA{k:IntKind}{t t':TypeId}{x y:Operand}{a b c:Int}(hx:ev ρ x= .int k a)(hy:ev ρ y= .int k b)(hb:b≠0)(hc:a.tmod b=c):
  (execOp (ev ρ) ⟨d, .binOp .rem t x y t',ty,pos,af,gd⟩).run P w= .ok (.value (.int k c)) w:=by
 subst hc;simp[execOp,hx,hy,eqGuard,binOp,Op.intDiv,Result.andThen,hb]
theorem qd{a b:Int}(ha:0<=a):a.tdiv b=a / b:=Int.tdiv_eq_ediv_of_nonneg ha
theorem rm{a b:Int}(ha:0<=a):a.tmod b=a % b:=Int.tmod_eq_emod_of_nonneg ha
theorem NN{t t':TypeId}{x y:Operand}{a b:Int}(hx:ev ρ x=VB a)(hy:ev ρ y=VB b)(ha:0<=a/\a<=9223372036854775807)(hb:0<b):
  (execOp (ev ρ) ⟨d, .binOp .quo t x y t',ty,pos,af,gd⟩).run P w= .ok (.value (VB (a / b))) w:=by
 refine MP hx hy dB ?_;rw[qd ha.1,nV];have c:0<=a / b:=Int.ediv_nonneg ha.1 dB;have e:a / b<=a:=Int.ediv_le_self _ ha.1;omega
theorem Yk{t t':TypeId}{x y:Operand}{a b:Int}{k:IntKind}(hx:ev ρ x= .int k a)(hy:ev ρ y= .int k b)(ha:0<=a)(hb:0<b):
 (execOp (ev ρ) ⟨d, .binOp .rem t x y t',ty,pos,af,gd⟩).run P w= .ok (.value (.int k (a % b))) w:=NA hx hy dB (rm ha)
theorem Qw{k k':IntKind}{t t':TypeId}{x y:Operand}{a b c:Int}(hx:ev ρ x= .int k a)(hy:ev ρ y= .int k' b)(hb:0<=b)(hc:k.wrap (a*2 ^ (min b.toNat k.bits))=c):
  (execOp (ev ρ) ⟨d, .binOp .shl t x y t',ty,pos,af,gd⟩).run P w= .ok (.value (.int k c)) w:=by
 subst hc;simp[execOp,hx,hy,eqGuard,binOp,Op.shift,Result.andThen,Int.not_lt.2 hb]
theorem xm{k k':IntKind}{t t':TypeId}{x y:Operand}{a b c:Int}(hx:ev ρ x= .int k a)(hy:ev ρ y= .int k' b)(hb:0<=b)(hc:a.fdiv (2 ^ (min b.toNat k.bits))=c):
  (execOp (ev ρ) ⟨d, .binOp .shr t x y t',ty,pos,af,gd⟩).run P w= .ok (.value (.int k c)) w:=by
 subst hc;simp[execOp,hx,hy,eqGuard,binOp,Op.shift,Result.andThen,Int.not_lt.2 hb]
theorem OT{k:IntKind}{t t':TypeId}{x y:Operand}{a b c:Int}(hx:ev ρ x= .int k a)(hy:ev ρ y= .int k b)(hc:k.wrap ((BitVec.ofInt k.bits a |||BitVec.ofInt k.bits b).toNat:Int)=c):
  (execOp (ev ρ) ⟨d, .binOp .or t x y t',ty,pos,af,gd⟩).run P w= .ok (.value (.int k c)) w:=by
 subst hc;simp[execOp,hx,hy,eqGuard,binOp,Op.intBits,Result.andThen]
theorem pI{k:IntKind}{t t':TypeId}{x y:Operand}{a b:Int}(hx:ev ρ x= .int k a)(hy:ev ρ y= .int k b):
  (execOp (ev ρ) ⟨d, .binOp .lss t x y t',ty,pos,af,gd⟩).run P w= .ok (.value (.bool (decide (a<b)))) w:=by
 simp[execOp,hx,hy,eqGuard,binOp,Op.intCmp,Result.andThen]
theorem EH{k:IntKind}{t t':TypeId}{x y:Operand}{a b:Int}(hx:ev ρ x= .int k a)(hy:ev ρ y= .int k b):
  (execOp (ev ρ) ⟨d, .binOp .leq t x y t',ty,pos,af,gd⟩).run P w= .ok (.value (.bool (decide (a<=b)))) w:=by
 simp[execOp,hx,hy,eqGuard,binOp,Op.intCmp,Result.andThen]
theorem rz{k:IntKind}{t t':TypeId}{x y:Operand}{a b:Int}(hx:ev ρ x= .int k a)(hy:ev ρ y= .int k b):
  (execOp (ev ρ) ⟨d, .binOp .gtr t x y t',ty,pos,af,gd⟩).run P w= .ok (.value (.bool (decide (b<a)))) w:=by
 simp[execOp,hx,hy,eqGuard,binOp,Op.intCmp,Result.andThen]
theorem tV{k:IntKind}{t t':TypeId}{x y:Operand}{a b:Int}(hx:ev ρ x= .int k a)(hy:ev ρ y= .int k b):
  (execOp (ev ρ) ⟨d, .binOp .geq t x y t',ty,pos,af,gd⟩).run P w= .ok (.value (.bool (decide (b<=a)))) w:=by
 simp[execOp,hx,hy,eqGuard,binOp,Op.intCmp,Result.andThen]
theorem qB{k:IntKind}{t t':TypeId}{x y:Operand}{a b:Int}(hx:ev ρ x= .int k a)(hy:ev ρ y= .int k b):
  (execOp (ev ρ) ⟨d, .binOp .eql t x y t',ty,pos,af,gd⟩).run P w= .ok (.value (.bool (decide (a=b)))) w:=by
 have:(a == b)=decide (a=b):=rfl;simp[execOp,hx,hy,eqGuard,binOp,Op.intCmp,Result.andThen,this]
theorem pJ{k:IntKind}{t t':TypeId}{x y:Operand}{a b:Int}(hx:ev ρ x= .int k a)(hy:ev ρ y= .int k b):
  (execOp (ev ρ) ⟨d, .binOp .neq t x y t',ty,pos,af,gd⟩).run P w= .ok (.value (.bool (decide (a≠b)))) w:=by
 have:(a != b)=decide (a≠b):=by by_cases c:a=b<;>simp[bne,c]
 simp only[execOp,hx,hy,eqGuard,binOp,Op.intCmp,this];simp[Result.andThen]
theorem sj{t:TypeId}{x:Operand}{b:Bool}(hx:ev ρ x= .bool b):(execOp (ev ρ) ⟨d, .unOp .not t x,ty,pos,af,gd⟩).run P w= .ok (.value (.bool (!b))) w:=by
 simp[execOp,hx,Op.unary,Result.andThen]
theorem rP{s t:TypeId}{x:Operand}{k0 k:IntKind}{a c:Int}(hs:(P.underlying s).isSome=true)(hk:zK P t k=true)(hx:ev ρ x= .int k0 a)(hc:k.wrap a=c):
  (execOp (ev ρ) ⟨d, .convert s t x,ty,pos,af,gd⟩).run P w= .ok (.value (.int k c)) w:=by
 subst hc;unfold zK at hk;cases hu:P.underlying t with
 |none=>simp[hu]at hk
 |some dd=>
  rw[hu]at hk;cases dd<;>simp at hk;subst hk;obtain⟨ds,a⟩:=iE.1 hs;simp only[execOp,hx,convert,Sem.run_bind,run_underlying a,run_underlying hu,Result.andThen_ok];cases ds<;>simp[Conv.intToInt,Result.andThen]
theorem nW{x:Operand}{i:Nat}{vs:List Value}(hx:ev ρ x= .tuple vs.toArray){v:Value}(hv:vs[i]?=some v):(execOp (ev ρ) ⟨d, .extract x i,ty,pos,af,gd⟩).run P w= .ok (.value v) w:=by
 simp[execOp,hx,Instr.extract,hv,Result.andThen]
theorem uV{fn:Fn}{fs cs:List Operand}:(execOp (ev ρ) ⟨d, .makeFunc fn fs.toArray cs.toArray,ty,pos,af,gd⟩).run P w= .ok (.value (.func fn (fs.map (ev ρ)).toArray (cs.map (ev ρ)).toArray)) w:=by
 simp[execOp,Instr.makeFunc,Result.andThen]
theorem qZ{t e sz:Nat}{x i:Operand}{g off len cap:Nat}{k:IntKind}{a:Int}(ht:Df P t e sz=true)(hx:ev ρ x= .slice (some ⟨g,off,none⟩) len cap)(hi:ev ρ i= .int k a)(j:Nat)(hj:a=(j:Int))(hlt:j<len):
  (execOp (ev ρ) ⟨d, .indexAddr t x i,ty,pos,af,gd⟩).run P w= .ok (.value (.pointer (some ⟨g,off+j*sz,none⟩))) w:=by
 obtain⟨a,c⟩:=TV ht;obtain⟨g,e,f⟩:=FI c;subst hj;have:¬((len:Int)<=1/\False):=by simp
 simp[execOp,hx,hi,Instr.indexAt,asIntOf,run_underlying a,Go.sizeOf,typeInfo,e,f,hlt,Addr.add_lit,Result.andThen]
theorem zqi{t m e sz:Nat}{x i:Operand}{g off:Nat}{k:IntKind}{a:Int}(ht:arrayOf P t m e sz=true)(hx:ev ρ x= .pointer (some ⟨g,off,none⟩))(hi:ev ρ i= .int k a)(j:Nat)(hj:a=(j:Int))(hlt:j<m):
  (execOp (ev ρ) ⟨d, .indexAddr t x i,ty,pos,af,gd⟩).run P w= .ok (.value (.pointer (some ⟨g,off+j*sz,none⟩))) w:=by
 obtain⟨a,c⟩:=UQ ht;obtain⟨g,e,f⟩:=FI c;subst hj;simp[execOp,hx,hi,Instr.indexAt,Instr.sureAddr,asIntOf,run_underlying a,Go.sizeOf,typeInfo,e,f,hlt,Addr.add_lit,Result.andThen]
theorem zme{t i off:Nat}{x:Operand}{g o:Nat}(ht:WJ P t i off=true)(hx:ev ρ x= .pointer (some ⟨g,o,none⟩)):
  (execOp (ev ρ) ⟨d, .fieldAddr t x i,ty,pos,af,gd⟩).run P w= .ok (.value (.pointer (some ⟨g,o+off,none⟩))) w:=by
 unfold WJ at ht;cases hu:P.underlying t with
 |none=>simp[hu]at ht
 |some dd=>
  rw[hu]at ht;cases dd<;>try (simp at ht;done)
  rename_i c;simp only at ht;cases hf:c[i]? with
  |none=>simp[hf]at ht
  |some f=>
   rw[hf]at ht;simp only[aN]at ht;have g:=bX ht.1;have a:=ht.2;cases hi:P.info? f.type with
   |none=>simp[hi]at a
   |some ii=>
    rw[hi]at a;have h:ii.size≠0:=by intro e;simp[e]at a
    subst g;simp[execOp,hx,Instr.fieldAt,Instr.sureAddr,fieldPlace,run_underlying hu,hf,Go.sizeOf,typeInfo,hi,h,Addr.add_lit,Result.andThen]
def ob(ρ:Env)(o:Option Operand)(dflt v:Nat):Prop:=match o with|none=>v=dflt|some x=>∃ k a,ev ρ x= .int k a/\a=(v:Int)
theorem Oj {t e sz:Nat} {x:Operand} {lo hi mx:Option Operand} {p:Option Addr} {len cap:Nat} (l h m:Nat) (ht:Df P t e sz=true) (hx:ev ρ x= .slice p len cap)
  (hl:ob ρ lo 0 l) (hh:ob ρ hi len h) (hm:ob ρ mx cap m) (hmh:mx.isSome=true->hi.isSome=true) (h1:l<=h) (h2:h<=m) (h3:m<=cap):
  (execOp (ev ρ) ⟨d, .slice t x lo hi mx,ty,pos,af,gd⟩).run P w= .ok (.value (.slice (if m=l then p else p.map (·.add (l*sz))) (h - l) (m - l))) w:=by
 obtain⟨c,o⟩:=TV ht;obtain⟨r,e,f⟩:=FI o;have s:(h:Int)<=m:=by omega
 have t:(l:Int)<=h:=by omega
 have A:(m:Int)<=cap:=by omega
 cases mx with
 |none=>
  simp only[ob]at hm;subst hm;cases hi with
  |none=>
   simp only[ob]at hh;subst hh;cases lo with
   |none=>simp only[ob]at hl;subst hl;simp[execOp,hx,Instr.sliceAt,Instr.slice,Instr.sliceBounds,run_underlying c,Go.sizeOf,typeInfo,e,f,Result.andThen]
   |some y=>obtain⟨k,a,g,rfl⟩:=hl;simp[execOp,hx,g,Instr.sliceAt,Instr.slice,Instr.sliceBounds,Instr.sliceBound,asIntOf,run_underlying c,Go.sizeOf,typeInfo,e,f,h1,Result.andThen]
  |some z=>
   obtain⟨p,q,i,rfl⟩:=hh;cases lo with
   |none=>simp only[ob]at hl;subst hl;simp[execOp,hx,i,Instr.sliceAt,Instr.slice,Instr.sliceBounds,Instr.sliceBound,asIntOf,run_underlying c,Go.sizeOf,typeInfo,e,f,h2,Result.andThen]
   |some y=>obtain⟨k,a,g,rfl⟩:=hl;simp[execOp,hx,g,i,Instr.sliceAt,Instr.slice,Instr.sliceBounds,Instr.sliceBound,asIntOf,run_underlying c,Go.sizeOf,typeInfo,e,f,h1,h2,Result.andThen]
 |some u=>
  obtain⟨B,C,j,rfl⟩:=hm;cases hi with
  |none=>simp at hmh
  |some z=>
   obtain⟨p,q,i,rfl⟩:=hh;cases lo with
   |none=>simp only[ob]at hl;subst hl;simp[execOp,hx,i,j,Instr.sliceAt,Instr.slice,Instr.sliceBounds,Instr.sliceBound,asIntOf,run_underlying c,Go.sizeOf,typeInfo,e,f,h2,h3,Result.andThen]
   |some y=>obtain⟨k,a,g,rfl⟩:=hl;simp[execOp,hx,g,i,j,Instr.sliceAt,Instr.slice,Instr.sliceBounds,Instr.sliceBound,asIntOf,run_underlying c,Go.sizeOf,typeInfo,e,f,h1,h2,h3,Result.andThen]
theorem xn {t e sz:Nat} {x:Operand} {lo hi mx:Option Operand} {g off:Nat} {len cap:Nat} (l h m k:Nat) (ht:Df P t e sz=true) (hx:ev ρ x= .slice (some ⟨g,off,none⟩) len cap)
  (hl:ob ρ lo 0 l) (hh:ob ρ hi len h) (hm:ob ρ mx cap m) (hmh:mx.isSome=true->hi.isSome=true) (h1:l<=h) (h2:h<=m) (h3:m<=cap) (h4:l<m) (hk:h - l=k):
  (execOp (ev ρ) ⟨d, .slice t x lo hi mx,ty,pos,af,gd⟩).run P w= .ok (.value (.slice (some ⟨g,off+l*sz,none⟩) k (m - l))) w:=by
 subst hk;rw[Oj l h m ht hx hl hh hm hmh h1 h2 h3,if_neg dB];simp[Addr.add_lit]
theorem JW {t e:Nat} {x:Operand} {lo hi mx:Option Operand} {g off:Nat} {len cap:Nat} (l h m k:Nat) (ht:Df P t e 1=true) (hx:ev ρ x= .slice (some ⟨g,off,none⟩) len cap)
  (hl:ob ρ lo 0 l) (hh:ob ρ hi len h) (hm:ob ρ mx cap m) (hmh:mx.isSome=true->hi.isSome=true) (h1:l<=h) (h2:h<=m) (h3:m<=cap) (h4:l<m) (hk:h - l=k):
  (execOp (ev ρ) ⟨d, .slice t x lo hi mx,ty,pos,af,gd⟩).run P w= .ok (.value (.slice (some ⟨g,off+l,none⟩) k (m - l))) w:=by
 rw[xn l h m k ht hx hl hh hm hmh h1 h2 h3 h4 hk,dD]
theorem Zc {t e sz n:Nat} {x:Operand} {lo hi mx:Option Operand} {g off:Nat} (l h m:Nat) (ht:arrayOf P t n e sz=true) (hx:ev ρ x= .pointer (some ⟨g,off,none⟩))
  (hl:ob ρ lo 0 l) (hh:ob ρ hi n h) (hm:ob ρ mx n m) (hmh:mx.isSome=true->hi.isSome=true) (h1:l<=h) (h2:h<=m) (h3:m<=n):
  (execOp (ev ρ) ⟨d, .slice t x lo hi mx,ty,pos,af,gd⟩).run P w= .ok (.value (.slice (some (if m=l then⟨g,off,none⟩else⟨g,off+l*sz,none⟩)) (h - l) (m - l))) w:=by
 obtain⟨c,o⟩:=UQ ht;obtain⟨r,e,f⟩:=FI o;have s:(h:Int)<=m:=by omega
 have t:(l:Int)<=h:=by omega
 have A:(m:Int)<=n:=by omega
 cases mx with
 |none=>
  simp only[ob]at hm;subst hm;cases hi with
  |none=>
   simp only[ob]at hh;subst hh;cases lo with
   |none=>simp only[ob]at hl;subst hl;simp[execOp,hx,Instr.sliceAt,Instr.sureAddr,Instr.sliceBounds,run_underlying c,Go.sizeOf,typeInfo,e,f,Addr.add_lit,Result.andThen]
   |some y=>obtain⟨k,a,g,rfl⟩:=hl;simp[execOp,hx,g,Instr.sliceAt,Instr.sureAddr,Instr.sliceBounds,Instr.sliceBound,asIntOf,run_underlying c,Go.sizeOf,typeInfo,e,f,h1,Addr.add_lit,Result.andThen]
  |some z=>
   obtain⟨p,q,i,rfl⟩:=hh;cases lo with
   |none=>simp only[ob]at hl;subst hl;simp[execOp,hx,i,Instr.sliceAt,Instr.sureAddr,Instr.sliceBounds,Instr.sliceBound,asIntOf,run_underlying c,Go.sizeOf,typeInfo,e,f,h2,Addr.add_lit,Result.andThen]
   |some y=>obtain⟨k,a,g,rfl⟩:=hl;simp[execOp,hx,g,i,Instr.sliceAt,Instr.sureAddr,Instr.sliceBounds,Instr.sliceBound,asIntOf,run_underlying c,Go.sizeOf,typeInfo,e,f,h1,h2,Addr.add_lit,Result.andThen]
 |some u=>
  obtain⟨B,C,j,rfl⟩:=hm;cases hi with
  |none=>simp at hmh
  |some z=>
   obtain⟨p,q,i,rfl⟩:=hh;cases lo with
   |none=>simp only[ob]at hl;subst hl;simp[execOp,hx,i,j,Instr.sliceAt,Instr.sureAddr,Instr.sliceBounds,Instr.sliceBound,asIntOf,run_underlying c,Go.sizeOf,typeInfo,e,f,h2,h3,Addr.add_lit,Result.andThen]
   |some y=>obtain⟨k,a,g,rfl⟩:=hl;simp[execOp,hx,g,i,j,Instr.sliceAt,Instr.sureAddr,Instr.sliceBounds,Instr.sliceBound,asIntOf,run_underlying c,Go.sizeOf,typeInfo,e,f,h1,h2,h3,Addr.add_lit,Result.andThen]
theorem znJ {t e sz n:Nat} {x:Operand} {lo hi mx:Option Operand} {g off:Nat} (l h m k:Nat) (ht:arrayOf P t n e sz=true) (hx:ev ρ x= .pointer (some ⟨g,off,none⟩))
  (hl:ob ρ lo 0 l) (hh:ob ρ hi n h) (hm:ob ρ mx n m) (hmh:mx.isSome=true->hi.isSome=true) (h1:l<=h) (h2:h<=m) (h3:m<=n) (h4:l<m) (hk:h - l=k):
  (execOp (ev ρ) ⟨d, .slice t x lo hi mx,ty,pos,af,gd⟩).run P w= .ok (.value (.slice (some ⟨g,off+l*sz,none⟩) k (m - l))) w:=by
 subst hk;rw[Zc l h m ht hx hl hh hm hmh h1 h2 h3,if_neg dB]
theorem yw {t e n:Nat} {x:Operand} {lo hi mx:Option Operand} {g off:Nat} (l h m k:Nat) (ht:arrayOf P t n e 1=true) (hx:ev ρ x= .pointer (some ⟨g,off,none⟩))
  (hl:ob ρ lo 0 l) (hh:ob ρ hi n h) (hm:ob ρ mx n m) (hmh:mx.isSome=true->hi.isSome=true) (h1:l<=h) (h2:h<=m) (h3:m<=n) (h4:l<m) (hk:h - l=k):
  (execOp (ev ρ) ⟨d, .slice t x lo hi mx,ty,pos,af,gd⟩).run P w= .ok (.value (.slice (some ⟨g,off+l,none⟩) k (m - l))) w:=by
 rw[znJ l h m k ht hx hl hh hm hmh h1 h2 h3 h4 hk,dD]
theorem uX{t e:Nat}{x i:Operand}{g off len cap:Nat}{k:IntKind}{a:Int}(ht:Df P t e 1=true)(hx:ev ρ x= .slice (some ⟨g,off,none⟩) len cap)(hi:ev ρ i= .int k a)(j:Nat)(hj:a=(j:Int))(hlt:j<len):
  (execOp (ev ρ) ⟨d, .indexAddr t x i,ty,pos,af,gd⟩).run P w= .ok (.value (.pointer (some ⟨g,off+j,none⟩))) w:=by
 have:=qZ (P:=P) (w:=w) (d:=d) (ty:=ty) (pos:=pos) (af:=af) (gd:=gd) ht hx hi j hj hlt
 rwa [dD]at this
theorem Bl{t m e:Nat}{x i:Operand}{g off:Nat}{k:IntKind}{a:Int}(ht:arrayOf P t m e 1=true)(hx:ev ρ x= .pointer (some ⟨g,off,none⟩))(hi:ev ρ i= .int k a)(j:Nat)(hj:a=(j:Int))(hlt:j<m):
  (execOp (ev ρ) ⟨d, .indexAddr t x i,ty,pos,af,gd⟩).run P w= .ok (.value (.pointer (some ⟨g,off+j,none⟩))) w:=by
 have:=zqi (P:=P) (w:=w) (d:=d) (ty:=ty) (pos:=pos) (af:=af) (gd:=gd) ht hx hi j hj hlt
 rwa [dD]at this
theorem zkq{t n e sz:Nat}{x:Operand}{p:Option Addr}{len cap:Nat}(ht:arrayOf P t n e sz=true)(hx:ev ρ x= .slice p len cap)(h:n<=len):
  (execOp (ev ρ) ⟨d, .sliceToArrayPointer t x,ty,pos,af,gd⟩).run P w= .ok (.value (.pointer p)) w:=by
 have:=run_arrayAt (P:=P) t e n (UQ ht).1 p len cap h w;simp[execOp,hx,this,Result.andThen]
theorem oo{x:Operand}{a:Addr}(hx:ev ρ x= .pointer (some a)):(execOp (ev ρ) ⟨d, .nilCheck x,ty,pos,af,gd⟩).run P w= .ok (.value (.pointer (some a))) w:=by
 simp[execOp,hx]
theorem oV{t e sz:Nat}{x:Operand}{p:Option Addr}{len cap:Nat}{ats:List Nat}(ht:Df P t e sz=true)(hx:ev ρ x= .slice p len cap)(ha:ats[0]?=some t):
  (execOp (ev ρ) ⟨d, .call ⟨.builtin .len,#[x],ats.toArray⟩,ty,pos,af,gd⟩).run P w= .ok (.value (VB len)) w:=by
 obtain⟨a,_⟩:=TV ht;simp[execOp,resolve,invoke,builtin,Builtin.len_,hx,ha,run_underlying a,goInt,Result.andThen]
theorem E_{t e sz:Nat}{x:Operand}{p:Option Addr}{len cap:Nat}{ats:List Nat}(ht:Df P t e sz=true)(hx:ev ρ x= .slice p len cap)(ha:ats[0]?=some t):
  (execOp (ev ρ) ⟨d, .call ⟨.builtin .cap,#[x],ats.toArray⟩,ty,pos,af,gd⟩).run P w= .ok (.value (VB cap)) w:=by
 obtain⟨a,_⟩:=TV ht;simp[execOp,resolve,invoke,builtin,Builtin.cap_,hx,ha,run_underlying a,goInt,Result.andThen]
theorem UN{x y:Operand}{k:IntKind}{a b:Int}{ats:Array Nat}(hx:ev ρ x= .int k a)(hy:ev ρ y= .int k b):
  (execOp (ev ρ) ⟨d, .call ⟨.builtin .max,#[x,y],ats⟩,ty,pos,af,gd⟩).run P w= .ok (.value (.int k (max a b))) w:=by
 have:(if a<b then b else a)=max a b:=by omega
 simp[execOp,resolve,invoke,builtin,Builtin.max_,Builtin.max2,hx,hy,this,Result.andThen]
def Ld(P:Program)(w:World)(t:Nat)(a:Addr)(v:Value):Prop:=(loadVar t a).run P w= .ok v w
theorem Ld.one{t:Nat}{a:Addr}{v:Value}(ht:Lf P t=true)(hc:w.cell? a=some v):Ld P w t a v:=by
 unfold Ld loadVar;simp[zko ht,load,hc,Sem.run,Result.andThen]
theorem Ld.ru{t g off tt:Nat}{l:List Value}{v:Value}(hr:row w g l tt)(ht:Lf P t=true)(hv:l[off]?=some v):Ld P w t ⟨g,off,none⟩ v:=Ld.one ht (hr.cell off hv)
theorem Ld.JV{t g off:Nat}{cs:List Value}(hc:w.rangeAt g off cs)(ht:Nz P t=true)(hs:vS P t cs.length=true):Ld P w t ⟨g,off,none⟩ (.agg cs.toArray):=by
 unfold Nz at ht;cases hu:P.underlying t with
 |none=>simp[hu]at ht
 |some dd=>
  have hr:dd.isRow=true:=by simpa [hu]using ht
  exact run_loadVar_mid w g off t cs dd hc hu hr<|RD hs
theorem Ld.za{t g off tt k:Nat}{l:List Value}(hr:row w g l tt)(ht:Nz P t=true)(hs:vS P t k=true)(hk:off+k<=l.length):Ld P w t ⟨g,off,none⟩ (.agg ((l.drop off).take k).toArray):=by
 refine Ld.JV (hr.zkl off k) ht ?_;rw[aI,aM,bS dB];exact hs
theorem Ld.qI{t g tt k:Nat}{l:List Value}(hr:row w g l tt)(ht:Nz P t=true)(hs:vS P t k=true)(hk:l.length=k):Ld P w t ⟨g,0,none⟩ (.agg l.toArray):=by
 have:=Ld.za (off:=0) hr ht hs dB
 rwa [bV,aQ dB]at this
theorem oK{t:Nat}{x:Operand}{a:Addr}{v:Value}(hx:ev ρ x= .pointer (some a))(hl:Ld P w t a v):(execOp (ev ρ) ⟨d, .load t x,ty,pos,af,gd⟩).run P w= .ok (.value v) w:=by
 unfold Ld at hl;simp[execOp,hx,Instr.loadAt,Instr.sureAddr,hl,Result.andThen]
def Mk(P:Program)(ρ:Env)(w:World)(o:Oper)(K:Value->World->Prop):Prop:=∃ v w',(execOp (ev ρ) o).run P w= .ok (.value v) w'/\K v w'
def Sk(P:Program)(ρ:Env)(w:World)(o:Oper)(K:World->Prop):Prop:=∃ w',(execOp (ev ρ) o).run P w= .ok .skip w'/\K w'
variable {K:Value->World->Prop}{Kw:World->Prop}
theorem oD{t:Nat}(zl:List Value)(hz:(P.info? t).map (λi=>i.zero.map (·.cells))=some (some zl.toArray))(h:∀ g w',w.heap.size<=g->row w' g zl t->VD w w'->K (VA g) w'):Mk P ρ w ⟨d, .alloc t,ty,pos,af,gd⟩ K:=
 ⟨_,_,zg7 (ev ρ) t rfl zl hz,h _ _ (ax _) (ML w zl t) (Jh w _)⟩
theorem qi{t:Nat}{x:Operand}(vl:List Value)(hv:(ev ρ x).cells=vl.toArray)(h:∀ g w',w.heap.size<=g->row w' g vl t->VD w w'->K (VA g) w'):Mk P ρ w ⟨d, .box t x,ty,pos,af,gd⟩ K:=
 ⟨_,_,ziU (ev ρ) t x rfl vl hv,h _ _ (ax _) (ML w vl t) (Jh w _)⟩
theorem PD {t:Nat} {x y:Operand} {g off:Nat} (vs:List Value) {l:List Value} {tt:Nat} (hx:ev ρ x= .pointer (some ⟨g,off,none⟩)) (hy:(ev ρ y).cells=vs.toArray) (hr:row w g l tt) (hs:vS P t vs.length=true)
  (hfit:off+vs.length<=l.length) (h1:∀ v∈vs,v.oneCell'=true) (h:∀ w',row w' g (splice l off vs) tt->Only g w w'->Kw w'):Sk P ρ w ⟨d, .store t x y,ty,pos,af,gd⟩ Kw:=by
 obtain⟨i,a,c⟩:=FI hs;have e:=run_storeCells_at P g off tt vs 0 l.toArray w hr lc h1;have f:(storeVar t ⟨g,off,none⟩ (ev ρ y)).run P w= .ok () (w.setRow g (splice l off vs).toArray):=by
  simp[storeVar,Go.sizeOf,typeInfo,a,hy,c,e,splice]
 refine⟨_,?_,h _ (setRow_heap w g _ _ tt _ hr) (Only.setRow _)⟩;unfold execOp;simp only[hx,Instr.storeAt,Instr.sureAddr,Sem.run_bind,Sem.run_pure,Result.andThen_ok,f]
theorem Fu(vs l:List Value)(h:vs.length=l.length):splice l 0 vs=vs:=by simp[splice,h]
theorem R_{l:List Value}{off:Nat}{v:Value}(h:off<l.length):splice l off [v]=l.set off v:=by
 simp[splice,jQ,h]
theorem zrk {t:Nat} {x y:Operand} {g off:Nat} {v:Value} {l:List Value} {tt:Nat} (hx:ev ρ x= .pointer (some ⟨g,off,none⟩)) (hy:ev ρ y=v) (hv:v.cells=#[v]) (h1:v.oneCell'=true) (hr:row w g l tt) (hs:vS P t 1=true)
  (hfit:off<l.length) (h:∀ w',row w' g (l.set off v) tt->Only g w w'->Kw w'):Sk P ρ w ⟨d, .store t x y,ty,pos,af,gd⟩ Kw:=by
 refine PD [v] hx (by rw[hy,hv]) hr hs jY (by simpa using h1) ?_;rw[R_ hfit];exact h
theorem zmf {t:Nat} {x y:Operand} {g:Nat} (k:Nat) (vs:List Value) {l:List Value} {tt:Nat} (hx:ev ρ x=VA g) (hy:(ev ρ y).cells=vs.toArray) (hr:row w g l tt) (hs:vS P t k=true) (hk:vs.length=k)
  (hfit:l.length=k) (h1:∀ v∈vs,v.oneCell'=true) (h:∀ w',row w' g vs tt->Only g w w'->Kw w'):Sk P ρ w ⟨d, .store t x y,ty,pos,af,gd⟩ Kw:=by
 subst hk;refine PD vs hx hy hr hs dB h1 ?_;rw[Fu _ _ hfit.symm];exact h
theorem oz{f:FuncId}{al:List Operand}{vl:List Value}{ats:Array Nat}(hc:vC P f=true)(hv:al.map (ev ρ)=vl):
  (execOp (ev ρ) ⟨d, .call ⟨.value (.func f),al.toArray,ats⟩,ty,pos,af,gd⟩).run P w= .ok (.enter f vl.toArray) w:=by
 have a:al.toArray.map (ev ρ)=vl.toArray:=by rw[<-hv];simp
 have e:(callFunc f vl.toArray).run P w= .ok (.enter f vl.toArray) w:=by
  unfold vC at hc;cases hfn:P.funcs[f]? with
  |none=>simp[hfn]at hc
  |some fn=>
   rw[hfn]at hc;simp only[aN,ed]at hc;cases hb:fn.body with
   |none=>simp[hb]at hc
   |some c=>
    have g:¬fn.name= "runtime.NumGoroutine" :=by simpa using hc.1
    simp[callFunc,program,Sem.run,hfn,g,hb,Result.andThen]
 simp[execOp,resolve,a,ev,Deferred.ofValue,invoke,e,Result.andThen]
theorem uH{f:FuncId}{x:Operand}{al:List Operand}{vl cl:List Value}{ats:Array Nat}(hc:vC P f=true)(hx:ev ρ x= .func (.func f) #[] cl.toArray)(hv:al.map (ev ρ)=vl):
  (execOp (ev ρ) ⟨d, .call ⟨.value x,al.toArray,ats⟩,ty,pos,af,gd⟩).run P w= .ok (.enter f (vl++cl).toArray) w:=by
 have a:al.toArray.map (ev ρ)=vl.toArray:=by rw[<-hv];simp
 have g:(callFunc f (vl++cl).toArray).run P w= .ok (.enter f (vl++cl).toArray) w:=by
  unfold vC at hc;cases hfn:P.funcs[f]? with
  |none=>simp[hfn]at hc
  |some fn=>
   rw[hfn]at hc;simp only[aN,ed]at hc;cases hb:fn.body with
   |none=>simp[hb]at hc
   |some c=>
    have h:¬fn.name= "runtime.NumGoroutine" :=by simpa using hc.1
    simp[callFunc,program,Sem.run,hfn,h,hb,Result.andThen]
 have e:vl.toArray++cl.toArray=(vl++cl).toArray:=by simp
 simp only[execOp,resolve,a,hx,Deferred.ofValue];simp[invoke,g,Result.andThen]
end
section
variable {md:Option Nat->Prop}{P:Program}{n:Nat}{Q:Post}{ρ:Env}{w:World}{l:List Oper}{S:World->Prop}{done:List Nat}
theorem Qx{ops:Array Oper}{rest:List Oper}{o:Oper}(hg:o.guard=none)(h:Mk P ρ w o λv w'=>WR md P n ops rest Q (qD ρ o.dst v) w'):WR md P n ops (o::rest) Q ρ w:=
 let ⟨_,_,hr,hK⟩:=h;Sv hg hr hK
theorem Qd{ops:Array Oper}{rest:List Oper}{o:Oper}(hg:o.guard=none)(h:Sk P ρ w o λw'=>WR md P n ops rest Q (qD ρ o.dst undef) w'):WR md P n ops (o::rest) Q ρ w:=
 let ⟨_,hr,hK⟩:=h;Nq hg hr hK
theorem ZR{i:Nat}(hc:Wi l done i=true)(hw:Region.wanted (qF l i) (yl l.toArray ρ)=true){v:Value}{w':World}(hr:(execOp (ev ρ) (qF l i)).run P w= .ok (.value v) w')(h:NL md P n l S Q (i::done) (qD ρ (qF l i).dst v) w'):NL md P n l S Q done ρ w:=BV hc hw (Tc hr h)
theorem rf{i:Nat}(hi:Nat.blt i l.length=true)(hw:Region.wanted (qF l i) (yl l.toArray ρ)=true)(h:Mk P ρ w (qF l i) λv w'=>S w'/\WA md P n l S Q (i::done) (qD ρ (qF l i).dst v) w'):WO md P n l S Q done i ρ w:=
 let ⟨_,_,hr,hS,hK⟩:=h;Bi hi hw hr hS hK
theorem rA{i:Nat}(hi:Nat.blt i l.length=true)(hw:Region.wanted (qF l i) (yl l.toArray ρ)=true)(h:Sk P ρ w (qF l i) λw'=>S w'/\WA md P n l S Q (i::done) (qD ρ (qF l i).dst undef) w'):WO md P n l S Q done i ρ w:=
 let ⟨_,hr,hS,hK⟩:=h;NB hi hw hr hS hK
end
section
variable {md:Option Nat->Prop}{P:Program}{n:Nat}{Q:Post}{ρ:Env}{w w0 w1 w':World}{l:List Oper}
theorem qH{id:Nat}(M:List Nat)(hm:P.follows .mixedOrders=true)(h:∀ w1,VD w w1->Kp M w1 w1->WA md P n l (Kp M w1) Q [] ρ w1):W md P n (.region id l.toArray true) Q ρ w:=
 Da (Kp M w.drew) hm (Kp.refl _ _) (h w.drew (Below.refl _ _).drew (Kp.refl _ _))
theorem Ho{f:FuncId}{args:Array Value}{v:Value}{p:World->Prop}(h:Calls P f args w λe w'=>e= .returned v/\p w'):Calls P f args w (qb λv' w'=>v'=v/\p w'):=
 h.mono λ_ _ ⟨a,c⟩=>⟨_,a,rfl,c⟩
theorem qb.mono{R R':Value->World->Prop}(h:∀ v w,R v w->R' v w):∀ e w,qb R e w->qb R' e w:=λ_ _ ⟨v,a,c⟩=>⟨v,a,h _ _ c⟩
theorem _root_.Go.Calls.to{f:FuncId}{args:Array Value}{R R':Value->World->Prop}(h:Calls P f args w (qb R))(hr:∀ v w',R v w'->R' v w'):Calls P f args w (qb R'):=h.mono (qb.mono hr)
theorem _root_.Go.RowKit.Below.nD{M:List Nat}(h:VD w0 w)(k:Kp M w w')(hM:∀ g,g∈M->w0.heap.size<=g):VD w0 w':=
 ⟨k.os.trans h.os,k.tape.trans h.tape,k.output.trans h.output,ag h.size k.size,λi a=>
  (k.block i (ae a h.size) λc=>absurd a (bW.2 (hM i c))).trans (h.block i a)⟩
theorem Kp.rU{r:Option Nat}(h:w.grownBy w' r):Kp r.toList w w':=⟨h.os,h.tape,h.output,h.size,λk a c=>h.block k a λe=>c (by simp[<-e])⟩
theorem row.nD{M:List Nat}{g t:Nat}{cs:List Value}(h:row w g cs t)(k:Kp M w w')(hg:g∉M):row w' g cs t:=h.kp k hg
theorem row.kq{M:List Nat}{g t:Nat}{cs:List Value}(h:row w g cs t)(k:Kp M w w')(hg:g∉M:=by first |(simp;done)|(simp;omega)|(simp[*];done)|assumption):row w' g cs t:=h.kp k hg
theorem Kp.aq{M:List Nat}{w1 w2:World}{g:Nat}(h:Kp M w w1)(k:Only g w1 w2)(hg:w.heap.size<=g\/g∈M:=by first |(left;omega)|(right;simp;done)|(right;simp;omega)):Kp M w w2:=h.add1 k hg
theorem row.own{base e sz m:Nat}{v:Value}{xs:List Value}{g t:Nat}{cs:List Value}(h:row w g cs t)(ho:og w base e sz v m xs)(hg:w.grownBy w' v.ownBlock)(hk:g<base):row w' g cs t:=
 h.kp (Kp.rU hg) λa=>by
  simp only[ah]at a;have:=(ho.lt g a).1;omega
theorem _root_.Go.RowKit.Below.own{base e sz m:Nat}{v:Value}{xs:List Value}(h:VD w0 w)(ho:og w base e sz v m xs)(hg:w.grownBy w' v.ownBlock)(hk:w0.heap.size<=base):VD w0 w':=
 h.nD (Kp.rU hg) λg a=>by
  simp only[ah]at a;have:=(ho.lt g a).1;omega
theorem Kp.own{M:List Nat}{base e sz m:Nat}{v:Value}{xs:List Value}(h:Kp M w0 w)(ho:og w base e sz v m xs)(hg:w.grownBy w' v.ownBlock)(hk:w0.heap.size<=base):Kp M w0 w':=
 h.add (Kp.rU hg) λg a=>by
  simp only[ah]at a;have:=(ho.lt g a).1
  left;omega
theorem nM.new{p:Option Addr}{m sz:Nat}{cs:List Value}(h:nM w p m sz cs)(hb:VD w w'):nM w' p m sz cs:=h.below hb (ax _)
theorem nM.nD{M:List Nat}{p:Option Addr}{m sz:Nat}{cs:List Value}(h:nM w p m sz cs)(k:Kp M w w')(hM:∀ b o,p=some ⟨b,o,none⟩->b∉M):nM w' p m sz cs:=by
 refine⟨h.len,h.max,λe=>?_⟩;obtain⟨b,a,hp,c,f⟩:=h.at_ e;refine⟨b,a,hp,ae c k.size,λj g=>?_⟩;rw[<-f j g];have:=k.block b c (hM b a hp);simp only[World.cell?,this]
theorem nM.Pb{g:Nat}{p:Option Addr}{m sz:Nat}{cs:List Value}(h:nM w p m sz cs)(ho:Only g w w')(hg:∀ b o,p=some ⟨b,o,none⟩->b≠g):nM w' p m sz cs:=h.nD (Kp.rJ ho) (λb o e=>by simpa using hg b o e)
theorem nM.blk{g off:Nat}{m sz:Nat}{cs:List Value}(h:nM w (Option.some ⟨g,off,none⟩) m sz cs)(he:w'.heap[g]?=w.heap[g]?)(hs:w.heap.size<=w'.heap.size):nM w' (Option.some ⟨g,off,none⟩) m sz cs:=by
 refine⟨h.len,h.max,λa=>?_⟩;obtain⟨b,o,hp,c,e⟩:=h.at_ a;cases hp;exact⟨g,off,rfl,ae c hs,λj f=>by rw[<-e j f];simp only[World.cell?,he]⟩
theorem nM.only{g g0 off:Nat}{m sz:Nat}{cs:List Value}(h:nM w (Option.some ⟨g0,off,none⟩) m sz cs)(ho:Only g w w')(hg:g0≠g):nM w' (Option.some ⟨g0,off,none⟩) m sz cs:=h.Pb ho (by rintro b o e;cases e;exact hg)
theorem nM.own{g0 off base e sz' k:Nat}{v:Value}{xs:List Value}{m sz:Nat}{cs:List Value}(h:nM w (Option.some ⟨g0,off,none⟩) m sz cs)(ho:og w base e sz' v k xs)(hg:w.grownBy w' v.ownBlock)(hk:g0<base):nM w' (Option.some ⟨g0,off,none⟩) m sz cs:=h.nD (Kp.rU hg) (by rintro b o e a;cases e;simp only[ah]at a;have:=(ho.lt g0 a).1;omega)
theorem nM.cell{g off:Nat}{m sz:Nat}{cs:List Value}(h:nM w (some ⟨g,off,none⟩) m sz cs)(j:Nat){v:Value}(hv:cs[j]?=some v):w.cell? ⟨g,off+j,none⟩=some v:=by
 have a:j<m*sz:=by rw[<-h.len];exact(aL.1 hv).1
 obtain⟨b,o,c,_,e⟩:=h.at_ dB;cases c;rw[e j a,hv]
theorem nM.src{g off m:Nat}{l:List UInt8}(h:nM w (Option.some ⟨g,off,none⟩) m 1 (bv l))(o k:Nat):∀ j v,(bv ((l.drop o).take k))[j]?=Option.some v->w.cell? ((⟨g,off+o,none⟩:Addr).add j)=Option.some v:=by
 intro j v a;rw[EE,bD]at a
 split at a
 .rw[AA,bC]at a
  rw[Addr.add_lit,fM];exact h.cell _ a
 .cases a
theorem nM.JV{g off:Nat}{m sz:Nat}{cs:List Value}(h:nM w (some ⟨g,off,none⟩) m sz cs)(o k:Nat):w.rangeAt g (off+o) ((cs.drop o).take k):=λj v a=>by
 rw[bD]at a
 split at a
 .rw[bC]at a
  rw[fM];exact h.cell _ a
 .cases a
theorem nM.some{p:Option Addr}{m sz:Nat}{cs:List Value}(h:nM w p m sz cs)(h0:0<m*sz):∃ g off,p= .some ⟨g,off,none⟩/\g<w.heap.size:=by
 obtain⟨b,o,a,hb,_⟩:=h.at_ h0;exact⟨b,o,a,hb⟩
theorem nM.sub{g off m sz:Nat}{cs:List Value}(h:nM w (Option.some ⟨g,off,none⟩) m sz cs)(i k:Nat)(hk:i+k<=m):nM w (Option.some ⟨g,off+i*sz,none⟩) k sz ((cs.drop (i*sz)).take (k*sz)):=by
 have f:=h.len;have l:i*sz+k*sz<=m*sz:=by rw[<-cZ];exact cz _ hk
 refine⟨by rw[aI,aM];omega,ag dB h.max,λp=>?_⟩;obtain⟨b,o,a,hb,c⟩:=h.at_ dB;cases a;refine⟨g,off+i*sz,rfl,hb,λj e=>?_⟩;rw[fM,c _ dB,bD,if_pos e,bC]
theorem Kp.Gp{M:List Nat}{base e sz m:Nat}{v:Value}{xs:List Value}(h:Kp M w0 w)(ho:og w base e sz v m xs)(hg:w.grownBy w' v.ownBlock)(hk:w0.heap.size<=base\/∀ g,g∈v.ownBlock.toList->g∈M):Kp M w0 w':=
 hk.elim (λhk=>h.own ho hg hk) (λhk=>h.add (Kp.rU hg) λg a=>Or.inr (hk g a))
theorem nM.Fa{g off m:Nat}{cs:List UInt8}(h:nM w (Option.some ⟨g,off,none⟩) m 1 (bv cs))(i k:Nat)(hk:i+k<=m):nM w (Option.some ⟨g,off+i,none⟩) k 1 (bv ((cs.drop i).take k)):=by
 have:=h.sub i k hk
 rwa [dD,dD,<-AA,<-EE]at this
theorem row.sl{g t m sz:Nat}{cs:List Value}(h:row w g cs t)(o:Nat)(ho:o+m*sz<=cs.length)(hm:m<=maxLen):nM w (Option.some ⟨g,o,none⟩) m sz ((cs.drop o).take (m*sz)):=h.PN o m sz ho hm
theorem row.TI{g t:Nat}{cs:List UInt8}(h:row w g (bv cs) t)(o m:Nat)(ho:o+m<=cs.length)(hm:m<=maxLen):nM w (Option.some ⟨g,o,none⟩) m 1 (bv ((cs.drop o).take m)):=by
 have:=h.sl (m:=m) (sz:=1) o (by rw[oL];omega) hm
 rwa [dD,<-AA,<-EE]at this
theorem row.tY{g t m sz:Nat}{cs:List Value}(h:row w g cs t)(hl:cs.length=m*sz)(hm:m<=maxLen):nM w (Option.some ⟨g,0,none⟩) m sz cs:=by
 have:=h.sl (m:=m) (sz:=sz) 0 dB hm
 rwa [bV,aQ dB]at this
theorem Ld.sl1{t g off m sz j:Nat}{cs:List Value}{v:Value}(h:nM w (Option.some ⟨g,off,none⟩) m sz cs)(ht:Lf P t=true)(hv:cs[j]?=Option.some v):Ld P w t ⟨g,off+j,none⟩ v:=Ld.one ht (h.cell j hv)
theorem Ld.zu{t g off m sz j k:Nat}{cs:List Value}(h:nM w (Option.some ⟨g,off,none⟩) m sz cs)(ht:Nz P t=true)(hs:vS P t k=true)(hk:j+k<=cs.length):Ld P w t ⟨g,off+j,none⟩ (.agg ((cs.drop j).take k).toArray):=by
 refine Ld.JV (h.JV j k) ht ?_;rw[aI,aM,bS dB];exact hs
section
variable {base e sz m:Nat}{v:Value}{xs:List Value}
theorem og.new(h:og w base e sz v m xs)(hb:VD w w'):og w' base e sz v m xs:=h.below hb λk a=>(h.lt k a).2
theorem og.nD{M:List Nat}(h:og w base e sz v m xs)(k:Kp M w w')(hM:∀ g,g∈M->v.ownBlock≠some g):og w' base e sz v m xs:=by
 refine⟨h.1,?_⟩;rcases h.2 with c|⟨g,e,f,i,rfl,hb,a,rest⟩
 .exact .inl c
 .refine .inr ⟨g,e,f,i,rfl,hb,?_,rest⟩
  rw[k.block g (aX.1 a).1 λj=>hM g j rfl];exact a
theorem og.only{g:Nat}(h:og w base e sz v m xs)(ho:Only g w w')(hg:g<base):og w' base e sz v m xs:=
 h.nD (Kp.rJ ho) λa c e=>by
  have:=(h.lt a e).1;simp at c;omega
theorem og.mono(h:og w base e sz v m xs){b':Nat}(hb:b'<=base):og w b' e sz v m xs:=by
 refine⟨h.1,?_⟩;rcases h.2 with a|⟨g,c,e,f,rfl,i,rest⟩
 .exact .inl a
 .exact .inr ⟨g,c,e,f,rfl,dB,rest⟩
theorem og.sl{p:Option Addr}{c:Nat}(h:og w base e sz (.slice p m c) m xs):nM w p m sz xs:=ztV h
theorem row.owns{g t:Nat}{cs:List Value}(h:row w g cs t)(hb:base<=g)(hl:cs.length=m*sz)(hm:m<=maxLen):og w base t sz (.slice (Option.some ⟨g,0,none⟩) m m) m cs:=
 ⟨hl, .inr ⟨g,0,m,cs.toArray,rfl,hb,h,ax _,hm,by simp;omega,by simp[<-hl]⟩⟩
theorem xV(w:World)(base e sz:Nat):og w base e sz (VC) 0 []:=⟨ig, .inl ⟨rfl,rfl⟩⟩
end
section
variable {d:Option Nat}{ty:TypeId}{pos:String}{af:Array Edge}{gd:Option (Nat × Bool)}{K:Value->World->Prop}
theorem WP {t e:Nat} {x y:Operand} (m:Nat) (zl:List Value) (sz bytes:Nat) (v:Value) (ht:P.underlying t=some (.slice e)) (hi:(P.info? e).map (λi=>(i.zero.map (·.cells),i.size,i.bytes))=some (some zl.toArray,sz,bytes)) (hx:∃ a,ev ρ x=VB a/\a=(m:Int)) (hy:∃ a,ev ρ y=VB a/\a=(m:Int))
  (hz:∀ u∈zl,u=v) (h0:0<zl.length) (hb:bytes*m<=281474976710656) (h63:m<=9223372036854775807)
  (h:∀ g w',w.heap.size<=g->row w' g (List.replicate (m*sz) v) e->VD w w'->K (.slice (some ⟨g,0,none⟩) m m) w'):Mk P ρ w ⟨d, .makeSlice t x y,ty,pos,af,gd⟩ K:=by
 obtain⟨a,c,rfl⟩:=hx;obtain⟨b,f,rfl⟩:=hy;have hr:=zla (P:=P) (w:=w) t e zl sz bytes ht hi m hb h63;rw[ziX zl v hz h0]at hr;refine⟨_,_,?_,h w.heap.size (w.alloc (.cells (List.replicate (m*sz) v).toArray e)) (ax _) (ML w _ e) (Jh w _)⟩;simp only[execOp,c,f,Sem.run_bind,hr,Result.andThen_ok]
 rfl
theorem Jp {t e len:Nat} {parts:List (Nat × Operand)} (vs:List (Nat × Value)) (zs:List Value) (sz:Nat) (ht:P.underlying t=some (.slice e)) (hi:(P.info? e).map (λi=>(i.zero.map (·.cells),i.size))=some (some zs.toArray,sz))
  (hv:(parts.map λp=>(p.1,ev ρ p.2))=vs) (hlim:len*sz<=16777216) (hpos:0<len*sz)
  (hp:∀ i (hi:i<vs.length),vs[i].1*sz=(((vs.take i).map λq=>q.2.cells.size).sum)/\vs[i].2.cells.size=sz) (hs:len*sz=((vs.map λq=>q.2.cells.size).sum))
  (h:∀ g w',w.heap.size<=g->row w' g ((vs.map λq=>q.2.cells.toList).flatten) e->VD w w'->K (.slice (some ⟨g,0,none⟩) len len) w'):Mk P ρ w ⟨d, .buildSlice t len parts.toArray,ty,pos,af,gd⟩ K:=by
 have hr:=zg8 (P:=P) (w:=w) t e len vs.toArray ht sz zs.toArray hi hlim hpos (by simpa using hp) (by simpa using hs);refine⟨_,_,?_,h w.heap.size (w.alloc (.cells ((vs.map λq=>q.2.cells.toList).flatten).toArray e)) (ax _) (ML w _ e) (Jh w _)⟩;have a:(parts.toArray.map fun(i,x)=>(i,ev ρ x))=vs.toArray:=by rw[<-hv];simp
 simp only[execOp,a,Sem.run_bind,hr,Result.andThen_ok]
 rfl
theorem tT {t e:Nat} {x:Operand} (v:Value) (cl:List Value) (zs:List Value) (sz:Nat) (ht:P.underlying t=some (.slice e)) (hi:(P.info? e).map (λi=>(i.zero.map (·.cells),i.size))=some (some zs.toArray,sz))
  (hx:ev ρ x=v) (hcl:v.cells=cl.toArray) (hsz:cl.length=sz) (hlim:0<sz/\sz<=16777216)
  (h:∀ g w',w.heap.size<=g->row w' g cl e->VD w w'->K (.slice (some ⟨g,0,none⟩) 1 1) w'):Mk P ρ w ⟨d, .buildSlice t 1 #[(0,x)],ty,pos,af,gd⟩ K:=by
 have a:v.cells.size=sz:=by rw[hcl];simpa using hsz
 refine Jp (parts:=[(0,x)]) [(0,v)] zs sz ht hi (by simp[hx]) dB dB ?_ kE (by simpa [hcl]using h);intro i hi;obtain rfl:i=0:=by simpa using hi
 simp[a]
theorem Jc {t e:Nat} {x y:Operand} (v u:Value) (cl dl:List Value) (zs:List Value) (sz:Nat) (ht:P.underlying t=some (.slice e)) (hi:(P.info? e).map (λi=>(i.zero.map (·.cells),i.size))=some (some zs.toArray,sz))
  (hx:ev ρ x=v) (hy:ev ρ y=u) (hcl:v.cells=cl.toArray) (hdl:u.cells=dl.toArray) (hsz:cl.length=sz) (hsz':dl.length=sz) (hlim:0<sz/\sz<=8388608)
  (h:∀ g w',w.heap.size<=g->row w' g (cl++dl) e->VD w w'->K (.slice (some ⟨g,0,none⟩) 2 2) w'):Mk P ρ w ⟨d, .buildSlice t 2 #[(0,x),(1,y)],ty,pos,af,gd⟩ K:=by
 have a:v.cells.size=sz:=by rw[hcl];simpa using hsz
 have c:u.cells.size=sz:=by rw[hdl];simpa using hsz'
 refine Jp (parts:=[(0,x),(1,y)]) [(0,v),(1,u)] zs sz ht hi (by simp[hx,hy]) dB dB ?_ (by simp[a,c];omega) (by simpa [hcl,hdl]using h);intro i hi;rcases i with _|_|i
 .simp[a]
 .simp[a,c]
 .exfalso;simp only[aD,aY]at hi;omega
theorem tu {t t' e sz bytes:Nat} {s x:Operand} {base m k c:Nat} {v:Value} {xs news:List Value} {sp:Option Addr} {z:Value} (ht:P.underlying t=some (.slice e)) (ht':t'=t)
  (hi:(P.info? e).map (λi=>(i.zero,i.size,i.bytes))=some (some z,sz,bytes)) (hzs:z.cells.size=sz) (hsz:0<sz) (hs:ev ρ s=v) (hown:og w base e sz v m xs)
  (hx:ev ρ x= .slice sp k c) (hsrc:nM w sp k sz news) (h1:∀ u∈news,u.oneCell'=true) (h63:m+k<=maxLen) (hbytes:(m+k)*bytes<=140737488355328) (hbase0:m=0->base<=w.heap.size)
  (h:∀ v' w',og w' base e sz v' (m+k) (xs++news)->w.grownBy w' v.ownBlock->(∀ g,v'.ownBlock=some g->v.ownBlock=some g\/w.heap.size<=g)->K v' w'):Mk P ρ w ⟨d, .call ⟨.builtin .append,#[s,x],#[t,t']⟩,ty,pos,af,gd⟩ K:=by
 subst ht';obtain⟨i,f,s⟩:=df.1 hi;simp only[fZ]at s;obtain⟨E,F,G⟩:=s;have H:base<=w.heap.size:=by
  rcases hown.2 with⟨_,t⟩|⟨g,y,A,I,_,hb,l,_⟩
  .exact hbase0 t
  .have:=(aX.1 l).1;omega
 by_cases o:k=0
 .subst o
  obtain rfl:news=[]:=bH (by simpa using hsrc.len);obtain⟨p,c0,B⟩:=hown.form;have C:m<=c0:=by
   rcases hown.2 with⟨q,t⟩|⟨g,y,A,I,q,_,_,r,_⟩
   .omega
   .rw[B]at q;cases q;exact r
  have J:(Builtin.append_ #[t',t'] ty #[v, .slice sp 0 c]).run P w= .ok v w:=by
   subst B;cases sp with
   |none=>cases p<;>simp[Builtin.append_,run_underlying ht,Go.sizeOf,typeInfo,f,Builtin.lenOf,C,Builtin.firstCells,storeCells,Result.andThen]
   |some a=>cases p<;>simp[Builtin.append_,run_underlying ht,Go.sizeOf,typeInfo,f,Builtin.lenOf,C,Builtin.firstCells,loadCells,loadCellsFrom,storeCells,Result.andThen]
  refine⟨v,w,?_,h v w (by simpa using hown) ⟨rfl,rfl,rfl,ax _,λ_ _ _=>rfl⟩ λg l=>.inl l⟩;simp[execOp,resolve,invoke,builtin,hs,hx,J,Result.andThen]
 .obtain⟨K,L,rfl,_⟩:=hsrc.some (eT (iH o) hsz)
  obtain⟨g,y,A,w',hr,r,M,N,Q,R⟩:=zk6 (P:=P) w base t' ty e i z sz bytes ht f E F G hzs hsz v m xs hown ⟨K,L,none⟩ k c news hsrc.len
   (λj u O=>by rw[Addr.add_lit];exact hsrc.cell j O) h1 (iH o) h63 hbytes H
  refine⟨_,w',?_,h _ w' r M λS D=>?_⟩
  .simp[execOp,resolve,invoke,builtin,hs,hx,hr,Result.andThen]
  .simp[Value.ownBlock]at D
   subst D;exact N.imp id<|λe=>dB
theorem Rt {dT sT e:Nat} {x y:Operand} {dp sp:Option Addr} {dLen dCap sLen sCap:Nat} (hu:P.underlying dT=some (.slice e)) (hsz:vS P e 1=true) (hd:ev ρ x= .slice dp dLen dCap) (hs:ev ρ y= .slice sp sLen sCap)
  (g off:Nat) {l:List Value} {t:Nat} (hr:row w g l t) (cs:List Value) (hn:cs.length=Nat.min sLen dLen)
  (hpos:0<cs.length->dp=some ⟨g,off,none⟩/\∃ ad,sp=some ad/\∀ j v,cs[j]?=some v->w.cell? (ad.add j)=some v) (hfit:off+cs.length<=l.length) (h1:∀ v∈cs,v.oneCell'=true)
  (h:∀ w',row w' g (splice l off cs) t->Only g w w'->K (goInt cs.length) w'):Mk P ρ w ⟨d, .call ⟨.builtin .copy,#[x,y],#[dT,sT]⟩,ty,pos,af,gd⟩ K:=by
 by_cases c:cs.length=0
 .obtain rfl:cs=[]:=bH c
  have a:=run_copy_none (P:=P) w dT sT ty e dp sp dLen dCap sLen sCap hu (RD hsz) (by simpa using hn.symm);refine⟨_,w,?_,h w (by simpa [splice]using hr) (Only.refl _ _)⟩;simp[execOp,resolve,invoke,builtin,hd,hs,a,Result.andThen]
 .obtain⟨rfl,ad,rfl,f⟩:=hpos dB
  have a:=run_copy_row (P:=P) w dT sT ty e g off dLen dCap ad sLen sCap l.toArray t cs hu (RD hsz) hr hn f lc h1;refine⟨_,_,?_,h _ kV (Only.setRow _)⟩;simp[execOp,resolve,invoke,builtin,hd,hs,a,Result.andThen]
theorem VN {t k:Nat} {parts:List (Nat × Operand)} (vs:List (Nat × Value)) (places:List (Nat × Nat)) (hpl:placesOf P t=some places) (hk:(P.info? t).map (λi=>i.zero.map (·.cells.size))=some (some k)) (hv:(parts.map λp=>(p.1,ev ρ p.2))=vs)
  (hp:∀ i (hi:i<vs.length),places[vs[i].1]?=some (((vs.take i).map λq=>q.2.cells.size).sum,vs[i].2.cells.size)) (hs:k=((vs.map λq=>q.2.cells.size).sum)):
  (execOp (ev ρ) ⟨d, .build t parts.toArray,ty,pos,af,gd⟩).run P w= .ok (.value (.agg ((vs.map λq=>q.2.cells.toList).flatten).toArray)) w:=by
 have:=zis (P:=P) (w:=w) t vs.toArray places hpl k hk (by simpa using hp) (by simpa using hs);have a:(parts.toArray.map fun(i,x)=>(i,ev ρ x))=vs.toArray:=by rw[<-hv];simp
 simp only[execOp,a,Sem.run_bind,this,Result.andThen_ok]
 rfl
end
end
def iv(l:List Int):List Value:=l.map (.int .i64)
theorem ZF(l:List Int):(iv l).length=l.length:=by simp[iv]
section
variable {md:Option Nat->Prop}{P:Program}{n:Nat}{Q:Post}{ρ:Env}{w:World}{d:Option Nat}{ty:TypeId}{pos:String}{af:Array Edge}{gd:Option (Nat × Bool)}{Kw:World->Prop}
theorem mZ{ops:Array Oper}{rest:List Oper}{o:Oper}{v:Value}{w':World}(hr:(execOp (ev ρ) o).run P w= .ok (.value v) w')(h:WR md P n ops rest Q (qD ρ o.dst v) w')(hg:o.guard=none:=by rfl):WR md P n ops (o::rest) Q ρ w:=Sv hg hr h
theorem nH{t:Nat}{x:Operand}{g off tt:Nat}{l:List Value}{v:Value}(hr:row w g l tt)(hx:ev ρ x= .pointer (some ⟨g,off,none⟩):=by rfl)(ht:Lf P t=true:=by kernel_rfl)(hv:l[off]?=some v:=by rfl):(execOp (ev ρ) ⟨d, .load t x,ty,pos,af,gd⟩).run P w= .ok (.value v) w:=oK hx (Ld.ru hr ht hv)
theorem pz{t:Nat}{x:Operand}{g tt:Nat}(k:Nat){l:List Value}(hr:row w g l tt)(hx:ev ρ x=VA g:=by rfl)(ht:Nz P t=true:=by kernel_rfl)(hs:vS P t k=true:=by kernel_rfl)(hk:l.length=k:=by first |(simp;done)|(simp[oL, *];done)|assumption):(execOp (ev ρ) ⟨d, .load t x,ty,pos,af,gd⟩).run P w= .ok (.value (.agg l.toArray)) w:=oK hx (Ld.qI hr ht hs hk)
theorem nG{t i:Nat}{x:Operand}{g o:Nat}(off:Nat)(ht:WJ P t i off=true:=by kernel_rfl)(hx:ev ρ x= .pointer (some ⟨g,o,none⟩):=by rfl):(execOp (ev ρ) ⟨d, .fieldAddr t x i,ty,pos,af,gd⟩).run P w= .ok (.value (.pointer (some ⟨g,o+off,none⟩))) w:=zme ht hx
theorem pQ {t:Nat} {x y:Operand} {g off:Nat} {v:Value} {l:List Value} {tt:Nat} (hr:row w g l tt) (h:∀ w',row w' g (l.set off v) tt->Only g w w'->Kw w') (hx:ev ρ x= .pointer (some ⟨g,off,none⟩):=by rfl) (hy:ev ρ y=v:=by rfl) (hv:v.cells=#[v]:=by rfl) (h1:v.oneCell'=true:=by rfl) (hs:vS P t 1=true:=by kernel_rfl)
 (hfit:off<l.length:=by first |omega|(simp only[bz];omega)|(simp only[ZF];omega)|(simp only[oL,bA];omega)|simp):Sk P ρ w ⟨d, .store t x y,ty,pos,af,gd⟩ Kw:=zrk hx hy hv h1 hr hs hfit h
theorem oC {t:Nat} {x y:Operand} {g:Nat} (k:Nat) (vs:List Value) {l:List Value} {tt:Nat} (hr:row w g l tt) (h:∀ w',row w' g vs tt->Only g w w'->Kw w') (hx:ev ρ x=VA g:=by rfl) (hy:(ev ρ y).cells=vs.toArray:=by rfl) (hs:vS P t k=true:=by kernel_rfl) (hk:vs.length=k:=by first |assumption|(simp;done)|(simp[oL, *];done))
 (hfit:l.length=k:=by first |assumption|(simp;done)|(simp[oL, *];done)|rfl) (h1:∀ v∈vs,v.oneCell'=true:=by first |exact uf _|assumption|(simp[Value.oneCell'];done)):Sk P ρ w ⟨d, .store t x y,ty,pos,af,gd⟩ Kw:=zmf k vs hx hy hr hs hk hfit h1 h
end
section
variable {md:Option Nat->Prop}{P:Program}{n:Nat}{l:List Oper}{S:World->Prop}{Q:Post}{done:List Nat}{ρ:Env}{w:World}
theorem nR(i:Nat){v:Value}(hv:∀ w',S w'->(execOp (ev ρ) (qF l i)).run P w'= .ok (.value v) w')(h:WA md P n l S Q (i::done) (qD ρ (qF l i).dst v) w)(hc:MO l done i=true:=by kernel_rfl)(hw:Region.wanted (qF l i) (yl l.toArray ρ)=true:=by rfl):WA md P n l S Q done ρ w:=C_ i hc hw hv h
theorem nu(i:Nat){v:Value}(hv:∀ {w'},(execOp (ev ρ) (qF l i)).run P w'= .ok (.value v) w')(h:WA md P n l S Q (i::done) (qD ρ (qF l i).dst v) w)(hc:MO l done i=true:=by kernel_rfl)(hw:Region.wanted (qF l i) (yl l.toArray ρ)=true:=by rfl):WA md P n l S Q done ρ w:=C_ i hc hw (λ_ _=>hv) h
end
section
variable {md:Option Nat->Prop}{P:Program}{n:Nat}{Q:Post}{ρ:Env}{w:World}{d:Option Nat}{ty:TypeId}{pos:String}{af:Array Edge}
theorem ng{ops:Array Oper}{rest:List Oper}{x:Operand}(h:WR md P n ops rest Q (qD ρ d (ev ρ x)) w):WR md P n ops (⟨d, .move x,ty,pos,af,none⟩::rest) Q ρ w:=Sv rfl nS h
theorem nA{ops:Array Oper}{rest:List Oper}{x:Operand}(h:WR md P n ops rest Q (qD ρ d (ev ρ x)) w):WR md P n ops (⟨d, .assign x,ty,pos,af,none⟩::rest) Q ρ w:=Sv rfl rO h
theorem nk{ops:Array Oper}{y:Code}(h:W md P n y Q ρ w):WR md P n ops [] (ET md P n y Q) ρ w:=oI (nJ h)
theorem ny{id:Nat}{l:List Oper}{y:Code}(h:WR md P n l.toArray l (ET md P n y Q) ρ w):W md P n (.seq (.region id l.toArray false) y) Q ρ w:=nI (nO h)
theorem qx{ops:Array Oper}{id:Nat}{l:List Oper}{y:Code}(h:WR md P n l.toArray l (ET md P n y Q) ρ w):WR md P n ops [] (ET md P n (.seq (.region id l.toArray false) y) Q) ρ w:=oI (nJ (nI (nO h)))
theorem oG{ops:Array Oper}{x:Operand}{id:Nat}{l:List Oper}{y:Code}(h:WR md P n l.toArray l (ET md P n y Q) (qD ρ d (ev ρ x)) w):WR md P n ops [⟨d, .assign x,ty,pos,af,none⟩] (ET md P n (.seq (.region id l.toArray false) y) Q) ρ w:=nA (qx h)
theorem nE{ops:Array Oper}{rest:List Oper}{op:Op}{j:Nat}{b:Bool}(h:WR md P n ops (⟨d,op,ty,pos,af,none⟩::rest) Q ρ w)(hy:yl ops ρ j=some b:=by rfl):WR md P n ops (⟨d,op,ty,pos,af,some (j,b)⟩::rest) Q ρ w:=Lh hy h
theorem nN{ops:Array Oper}{rest:List Oper}{op:Op}{j:Nat}{b b':Bool}(h:WR md P n ops rest Q (qD ρ d undef) w)(hy:yl ops ρ j=some b':=by rfl)(hb:(b' == b)=false:=by rfl):WR md P n ops (⟨d,op,ty,pos,af,some (j,b)⟩::rest) Q ρ w:=OL hy hb h
theorem nK{ops:Array Oper}{rest:List Oper}{o:Oper}(h:Mk P ρ w o λv w'=>WR md P n ops rest Q (qD ρ o.dst v) w')(hg:o.guard=none:=by rfl):WR md P n ops (o::rest) Q ρ w:=Qx hg h
theorem nT{ops:Array Oper}{rest:List Oper}{o:Oper}(h:Sk P ρ w o λw'=>WR md P n ops rest Q (qD ρ o.dst undef) w')(hg:o.guard=none:=by rfl):WR md P n ops (o::rest) Q ρ w:=Qd hg h
theorem nP{ops:Array Oper}{rest:List Oper}{f:FuncId}{al:List Operand}{vl:List Value}{ats:Array Nat}{R:Value->World->Prop}(hc:Calls P f vl.toArray w (qb R))(h:∀ v w',R v w'->WR md P n ops rest Q (qD ρ d v) w')(hcan:vC P f=true:=by kernel_rfl)(hv:al.map (ev ρ)=vl:=by rfl):
 WR md P n ops (⟨d, .call ⟨.value (.func f),al.toArray,ats⟩,ty,pos,af,none⟩::rest) Q ρ w:=qA rfl (oz hcan hv) hc h
end
structure Kb(w:World)(lo:Nat)(o:Option Nat)(vs:List Value)(L:List (List UInt8)):Prop where
 len:vs.length=L.length
 at_:∀ (i:Nat) l,L[i]?=some l->∃ b off c,vs[i]?=some (.slice (some ⟨b,off,none⟩) l.length c)/\nM w (some ⟨b,off,none⟩) l.length 1 (bv l)/\b<w.heap.size/\some b≠o/\l.length<=c/\lo<=b
namespace Kb
variable {w w':World}{lo:Nat}{o:Option Nat}{vs:List Value}{L:List (List UInt8)}
end Kb
structure uP(B:Nat)(w w':World):Prop where
 os:w'.os=w.os
 tape:w'.tape=w.tape
 output:w'.output=w.output
 size:w.heap.size<=w'.heap.size
 block:∀ k,k<w.heap.size->w'.heap[k]?=w.heap[k]?\/(B<=k/\∃ o:Obj,w.heap[k]?=some o/\o.isCells=false)
namespace uP
variable {B:Nat}{w w' w2:World}
theorem of_below(h:VD w w'):uP B w w':=⟨h.os,h.tape,h.output,h.size,λk a=>.inl (h.block k a)⟩
theorem put{l:Nat}{o:Obj}(o':Obj)(hl:w.heap[l]?=some o)(hB:B<=l)(ho:o.isCells=false):uP B w (w.putObj l o'):=
 ⟨rfl,rfl,rfl,ig,λk _=>by
  by_cases e:k=l
  .subst e;exact .inr ⟨hB,o,hl,ho⟩
  .exact .inl (World.putObj_heap_other e)⟩
theorem cells(h:uP B w w'){g:Nat}{o:Obj}(hg:w.heap[g]?=some o)(ho:o.isCells=true):w'.heap[g]?=some o:=by
 rcases h.block g (aX.1 hg).1 with e|⟨_,c,e,a⟩
 .rw[e];exact hg
 .rw[hg]at e;cases e;simp[ho]at a
end uP
section
variable {B:Nat}{w w0 w':World}
theorem row.soft{g t:Nat}{cs:List Value}(h:row w g cs t)(k:uP B w w'):row w' g cs t:=k.cells h rfl
theorem _root_.Go.RowKit.Below.soft(h:VD w0 w)(k:uP B w w')(hB:w0.heap.size<=B):VD w0 w':=
 ⟨k.os.trans h.os,k.tape.trans h.tape,k.output.trans h.output,ag h.size k.size,λi a=>by
  rcases k.block i (ae a h.size)with e|⟨e,_⟩
  .exact e.trans<|h.block i a
  .omega⟩
theorem Kp.soft{M:List Nat}(h:Kp M w0 w)(k:uP B w w')(hB:w0.heap.size<=B):Kp M w0 w':=
 ⟨k.os.trans h.os,k.tape.trans h.tape,k.output.trans h.output,ag h.size k.size,λi a c=>by
  rcases k.block i (ae a h.size)with e|⟨e,_⟩
  .exact e.trans<|h.block i a c
  .omega⟩
theorem nM.soft{p:Option Addr}{m sz:Nat}{cs:List Value}(h:nM w p m sz cs)(k:uP B w w'):nM w' p m sz cs:=by
 refine⟨h.len,h.max,λa=>?_⟩;obtain⟨b,l,hp,g,i⟩:=h.at_ a;refine⟨b,l,hp,ae g k.size,λj m=>?_⟩;rw[<-i j m];have hb:w'.heap[b]?=w.heap[b]?:=by
  rcases k.block b g with e|⟨_,o,e,p⟩
  .exact e
  .have c:=i 0 a
   have f:∃ u,cs[0]?=Option.some u:=⟨_,aG (by rw[h.len];exact a)⟩;obtain⟨u,f⟩:=f;rw[f]at c;simp only[World.cell?,e]at c;cases o<;>simp[Obj.isCells]at p c
 simp only[World.cell?,hb]
theorem og.soft{base e sz m:Nat}{v:Value}{xs:List Value}(h:og w base e sz v m xs)(k:uP B w w'):og w' base e sz v m xs:=by
 refine⟨h.1,?_⟩;rcases h.2 with a|⟨g,c,e,f,rfl,hb,i,rest⟩
 .exact .inl a
 .exact .inr ⟨g,c,e,f,rfl,hb,k.cells i rfl,rest⟩
theorem KQ{M:List Nat}(h:Kp M w w')(hM:∀ g,g∈M->g<B\/∃ o:Obj,w.heap[g]?=some o/\o.isCells=true):KeepsFrom B w w':=
 ⟨h.size,λk o i a c=>by
  rw[h.block k (aX.1 a).1 λf=>by
   rcases hM k f with e|⟨j,e,g⟩
   .omega
   .rw[a]at e;cases e;simp[c]at g]
  exact a⟩
end
def Ny(P:Program)(l:Nat)(v:List Value)(W:World)(R:Ending->World->Prop):Prop:=
 ∃ fn tmps x y,(Instr.yield l v.toArray).run P W= .ok (.round l fn tmps x y) W/\RoundIn Fence.wide 0 P l fn tmps x y W R
def Lj(P:Program)(gf:Nat)(lb:List Value)(xs:List (List Value))(ks:List Nat)(w:World):Prop:=
 ∀ (l:Nat) (J:Nat->World->Prop) (Jx:World->Prop) (W:World),VD w W->
  (∀ k W W',J k W->VD W W'->J k W')->(∀ W W',Jx W->VD W W'->Jx W')->
  (∀ k v W1,xs[k]?=some v->J k W1->Ny P l v W1 λe W'=>(e= .returned (.bool true)/\J (k+1) W'/\(∀ b,b∈ks->W'.heap[b]?=W1.heap[b]?)/\W1.heap.size<=W'.heap.size)\/(e= .returned (.bool false)/\Jx W'))->
  J 0 W->Calls P gf (.func (.yield l) #[] #[]::lb).toArray W (qb λ_ W'=>J xs.length W'\/Jx W')
def Nf(P:Program)(gf:Nat)(lb:List Value)(m:Nat)(V:Nat->List Value->World->Prop)(ks:List Nat)(w:World):Prop:=
 ∀ (l:Nat) (J:Nat->World->Prop) (Jx:World->Prop) (W:World),VD w W->
  (∀ k W W',J k W->VD W W'->J k W')->(∀ W W',Jx W->VD W W'->Jx W')->
  (∀ k v W1,k<m->V k v W1->J k W1->Ny P l v W1 λe W'=>(e= .returned (.bool true)/\J (k+1) W'/\(∀ b,b∈ks->W'.heap[b]?=W1.heap[b]?)/\W1.heap.size<=W'.heap.size)\/(e= .returned (.bool false)/\Jx W'))->
  J 0 W->Calls P gf (.func (.yield l) #[] #[]::lb).toArray W (qb λ_ W'=>J m W'\/Jx W')
section
variable {md:Option Nat->Prop}{P:Program}{n:Nat}{Q:Post}{ρ:Env}{w w0:World}
theorem zmg {d:Option Nat} {ty:TypeId} {pos:String} {af:Array Edge} {gd:Option (Nat × Bool)} {K:Env->World->Prop} {x:Operand} {al:List Operand} {vl:List Value} {ats:Array Nat} {l:Nat} {R:Ending->World->Prop}
  (hx:ev ρ x= .func (.yield l) #[] #[]) (hv:al.map (ev ρ)=vl) (hy:Ny P l vl w R) (h:∀ e w',R e w'->∃ v,e= .returned v/\K (qD ρ d v) w'):
  wK P ⟨d, .call ⟨.value x,al.toArray,ats⟩,ty,pos,af,gd⟩ K ρ w:=by
 obtain⟨c,e,a,b,hr,f⟩:=hy;have g:al.toArray.map (ev ρ)=vl.toArray:=by rw[<-hv];simp
 have i:(execOp (ev ρ) ⟨d, .call ⟨.value x,al.toArray,ats⟩,ty,pos,af,gd⟩).run P w= .ok (.round l c e a b) w:=by
  simp only[execOp,resolve,g,hx,Deferred.ofValue];simp[invoke,hr,Result.andThen]
 unfold wK;rw[i];exact f.mono h
theorem WK {ops:Array Oper} {rest:List Oper} {d:Option Nat} {ty:TypeId} {pos:String} {af:Array Edge} {x:Operand} {al:List Operand} {vl:List Value} {ats:Array Nat} {l:Nat} {R:Ending->World->Prop}
 (hx:ev ρ x= .func (.yield l) #[] #[]) (hv:al.map (ev ρ)=vl) (hy:Ny P l vl w R) (h:∀ e w',R e w'->∃ v,e= .returned v/\WR md P n ops rest Q (qD ρ d v) w'):
 WR md P n ops (⟨d, .call ⟨.value x,al.toArray,ats⟩,ty,pos,af,none⟩::rest) Q ρ w:=Si rfl (zmg hx hv hy h)
def zy(f:Nat->Value):List Nat->List Value->Env
 |p::ps,v::vs=>up (zy f ps vs) p v
 |_,_=>⟨f,[]⟩
theorem zrm{a:Act}(ha:Ag n a ρ):∀ (ps:List Nat) (v:List Value) (t:Array Value),t.size=n->(∀ i,t.getD i undef=ρ.f i)->(∀ p,p∈ps->p<n)->ps.Nodup->
  Ag n {tmps:=(ps.zip v).foldl (λt (p,u)=>t.setIfInBounds p u) t,defers:=[]} (zy ρ.f ps v):=by
 have l:∀ (ps:List Nat) (v:List Value) (t:Array Value) (f:Nat->Value),t.size=n->(∀ i,t.getD i undef=f i)->(∀ p,p∈ps->p<n)->ps.Nodup->
   Ag n {tmps:=(ps.zip v).foldl (λt (p,u)=>t.setIfInBounds p u) t,defers:=[]} (zy f ps v):=by
  intro ps
  induction ps with
  |nil=>intro v t f a c _ _;exact⟨rfl,a,c⟩
  |cons p ps ih=>
   intro v t f a c g m;cases v with
   |nil=>exact⟨rfl,a,c⟩
   |cons u v=>
    have hp:=g p ig;have h:=cB.1 m;have:=ih v (t.setIfInBounds p u) (λi=>bif Nat.beq i p then u else f i) kE (λi=>by
     by_cases e:i=p
     .subst e;have hb:Nat.beq i i=true:=Nat.beq_refl i;simp[a,hp,hb]
     .have hb:Nat.beq i p=false:=by rw[gU];intro o;exact e (bX o)
      have:=c i;simp only[hb,cond_false,<-this];simp[jP (bT e)]) (λq r=>g q (by simp[r])) h.2
    have s:zy (λi=>bif Nat.beq i p then u else f i) ps v=zy f (p::ps) (u::v):=by
     clear this ih;have key:∀ (ps:List Nat) (v:List Value),p∉ps->zy (λi=>bif Nat.beq i p then u else f i) ps v=up (zy f ps v) p u:=by
      intro ps
      induction ps with
      |nil=>intro v _;rfl
      |cons q ps ih=>
       intro v j;cases v with
       |nil=>rfl
       |cons x v=>
        simp only[zy];rw[ih v (by intro y;exact j (by simp[y]))];exact NF (zy f ps v) (d:=some p) (e:=some q) u x (λk z e=>by cases z;cases e;exact j ig)
     exact key ps v h.1
    rw[<-s];exact this
 exact λps v t=>l ps v t ρ.f
def DV(B:Nat)(ks:List Nat)(I:Nat->World->Prop)(Ix:Code->World->Prop)(k:Nat)(W2:World):Post
 | .normal,_,W'=>KeepsFrom B W2 W'/\(∀ b,b∈ks->W'.heap[b]?=W2.heap[b]?)/\I (k+1) W'
 | .ret,_,W'=>KeepsFrom B W2 W'/\Ix .ret W'
 | .exit id,_,W'=>KeepsFrom B W2 W'/\Ix (.exit id) W'
 |_,_,_=>False
theorem ZB {g:Operand} {ps:List Nat} {assign body:Code} {gf:Nat} {lb:List Value} {m:Nat} {V:Nat->List Value->World->Prop} {ks:List Nat} (hmd:∀ rd,md rd->rd=none)
  (hg:ev ρ g= .func (.func gf) #[] lb.toArray) (hcan:vC P gf=true) (hseq:Nf P gf lb m V ks w0) (hb0:VD w0 w) (hps:∀ k v W,V k v W->v.length=ps.length) (hpn:ps.all (Nat.blt · n)=true) (hnd:ps.Nodup)
  (hks:∀ b,b∈ks->b<w.heap.size)
  (I:Nat->World->Prop) (Ix:Code->World->Prop) (hI:∀ k W W',I k W->uP w.heap.size W W'->I k W') (hIx:∀ c W W',Ix c W->uP w.heap.size W W'->Ix c W') (h0:I 0 w)
  (round:∀ l k v W1,k<m->V k v W1->I k W1->w.heap.size<=W1.heap.size->W (λrd=>rd=some l) P n assign
   (λe ρ' W'=>e= .normal/\VD W1 W'/\∀ W2,uP w.heap.size W' W2->W (λrd=>rd=some l) P n body (DV w.heap.size ks I Ix k W2) ρ' W2) (zy ρ.f ps v) W1)
  (hdone:∀ D W,w.heap.size<=D->I m W->W.heap[D]?=some (.deferred (some []))->Q .normal ⟨ρ.f,D::ρ.ms⟩ W)
  (hstop:∀ D c W',w.heap.size<=D->Ix c W'->W'.heap[D]?=some (.deferred (some []))->codeOk n c=true/\W md P n c Q ⟨ρ.f,D::ρ.ms⟩ W'):
  W md P n (.rangeFunc g ps.toArray assign body) Q ρ w:=by
 intro Q rd a V o;obtain rfl:=hmd rd V;simp only[codeOk,aN]at Q;have a2:∀ p,p∈ps->p<n:=λp hp=>by have:=dC.1 hpn p hp;simpa using this
 refine wpIn_rangeFunc ?_;intro fn N;obtain⟨i,q⟩:∃ i:LoopState->Option Code->Loop,i=λst pe=>{state:=st,pending:=pe,fn,tmps:=a.tmps,params:=ps.toArray,assign,body,defers:=w.heap.size}:=⟨_,rfl⟩
 obtain⟨W1,E⟩:=aa ((w.alloc (.deferred (some []))).alloc (.loop (i .ready none)));have d2:W1.heap.size=w.heap.size+2:=by rw[<-E];simp
 have a3:W1.heap[w.heap.size+1]?=some (.loop (i .ready none)):=by
  rw[<-E];have:=World.alloc_heap_new (w.alloc (.deferred (some []))) (.loop (i .ready none));rwa [World.size_alloc]at this
 have a4:W1.heap[w.heap.size]?=some (.deferred (some [])):=by
  rw[<-E];exact(Below.heap_alloc _ _ _ ig).trans (World.alloc_heap_new w _)
 have X:VD w W1:=by rw[<-E];exact((Below.refl _ w).alloc (ax _) _).alloc ig _
 have a5:I 0 W1:=hI 0 w W1 h0 (uP.of_below X);have a6:VD w0 W1:=hb0.acc X;have a7:(fr none).round=none:=rfl;obtain⟨h,z⟩:∃ h,h=w.heap.size+1:=⟨_,rfl⟩;have a8:(callFunc gf (.func (.yield h) #[] #[]::lb).toArray).run P W1= .ok (.enter gf (.func (.yield h) #[] #[]::lb).toArray) W1:=by
  unfold vC at hcan;cases N:P.funcs[gf]? with
  |none=>simp[N]at hcan
  |some f=>
   rw[N]at hcan;simp only[aN,ed]at hcan;cases hb:f.body with
   |none=>simp[hb]at hcan
   |some c=>
    have a9:¬f.name= "runtime.NumGoroutine" :=by simpa using hcan.1
    simp[callFunc,program,Sem.run,N,a9,hb,Result.andThen]
 have b0:a.eval g= .func (.func gf) #[] lb.toArray:=by rw[o.ev];exact hg
 refine⟨h,[SB w.heap.size],W1,{target:=.fn (.func gf) lb.toArray,args:=#[.func (.yield h) #[] #[]]},W1,gf,(.func (.yield h) #[] #[]::lb).toArray,W1,?_,?_,λb1 _=>JN none b1,?_,λY=>by(rw[NS]at Y;cases Y),?_⟩
 .rw[a7,z,<-E,q];exact run_enterLoop_outer _ _ _ _ _
 .simp only[resolve,rangeCall,b0]
  simp[Deferred.ofValue,Act.eval]
 .have e:#[Value.func (.yield h) #[] #[]]++lb.toArray=(.func (.yield h) #[] #[]::lb).toArray:=by simp
  simp only[invoke,e];exact a8
 .refine TN ((hseq h (λk W=>I k W/\W.heap[w.heap.size+1]?=some (.loop (i .ready none))/\W.heap[w.heap.size]?=some (.deferred (some [])))
   (λW=>∃ c,Ix c W/\W.heap[w.heap.size+1]?=some (.loop (i .done (some c)))/\W.heap[w.heap.size]?=some (.deferred (some []))) W1 a6 ?_ ?_ ?_ ⟨a5,a3,a4⟩).mono ?_)
  .rintro k A B ⟨l,m,s⟩ y
   exact⟨hI k A B l (uP.of_below y),by rw[y.block _ (aX.1 m).1];exact m,by rw[y.block _ (aX.1 s).1];exact s⟩
  .rintro A B ⟨c,l,m,s⟩ y
   exact⟨c,hIx c A B l (uP.of_below y),by rw[y.block _ (aX.1 m).1];exact m,by rw[y.block _ (aX.1 s).1];exact s⟩
  .rintro k v W b2 Z ⟨G,r,H⟩
   have b3:w.heap.size+1<W.heap.size:=(aX.1 r).1;have b4:=hps k v W Z;have R:=run_yield (P:=P) (args:=v.toArray) r (by rw[q];simpa using b4);rw[q]at R;refine⟨fn,_,assign,body,by rw[z];exact R,?_⟩;clear R;refine roundIn_of_wpIn (F:=Fence.wide) (n:=0) trivial ?_;have b5:Ag n {tmps:=(ps.toArray.zip v.toArray).foldl (λt (p,u)=>t.setIfInBounds p u) a.tmps,defers:=[]} (zy ρ.f ps v):=by
    have:=zrm o ps v a.tmps o.s o.t a2 hnd;rw[<-ji,Array.toList_zip];exact this
   have b6:=round h k v W b2 Z G dB Q.1 (some h) _ rfl b5;have b7:assign.wpIn (Fence.wide.inRound h) 0 P _ _ W:=λb S cs l m s=>b6 b S cs l m (room_wide _)
   refine wpIn_mono b7 ?_;rintro e a0 Wa ⟨ρ',l,rfl,O,b8⟩;show ∃ w2,_;have T:Wa.heap[w.heap.size+1]?=some (.loop (i .ready none)):=by rw[O.block _ b3];exact r
   have b9:Wa.heap[w.heap.size]?=some (.deferred (some [])):=by rw[O.block _ dB];exact H
   have c4:=(aX.1 T).1;refine⟨_,by rw[z];exact run_beginRound T (by rw[q]),?_⟩;obtain⟨W2,C⟩:∃ W2,W2=Wa.putObj (w.heap.size+1) (.loop {i .ready none with state:=.busy}):=⟨_,rfl⟩;have c5:W2.heap[w.heap.size+1]?=some (.loop {i .ready none with state:=.busy}):=by rw[C];exact World.putObj_heap_same c4
   have c6:W2.heap[w.heap.size]?=some (.deferred (some [])):=by rw[C];exact(World.putObj_heap_other dB).trans b9
   have c7:uP w.heap.size Wa W2:=by rw[C];exact uP.put _ T dB rfl
   rw[<-C];have c8:=b8 W2 c7 Q.2 (some h) a0 rfl l;have c9:body.wpIn (Fence.wide.inRound h) 0 P _ a0 W2:=λb S cs l m s=>c8 b S cs l m (room_wide _)
   refine wpIn_mono c9 ?_;have fin:∀ (j:Option Code) (W3:World),KeepsFrom w.heap.size W2 W3->
     (Instr.endRound h j).run P W3= .ok (.bool j.isNone) (W3.putObj (w.heap.size+1) (.loop (i (if j.isNone then .ready else .done) j)))/\
     uP w.heap.size W3 (W3.putObj (w.heap.size+1) (.loop (i (if j.isNone then .ready else .done) j)))/\
     (W3.putObj (w.heap.size+1) (.loop (i (if j.isNone then .ready else .done) j))).heap[w.heap.size+1]?=some (.loop (i (if j.isNone then .ready else .done) j))/\
     (W3.putObj (w.heap.size+1) (.loop (i (if j.isNone then .ready else .done) j))).heap[w.heap.size]?=some (.deferred (some [])):=λj W3 a1=>by
    have U:=a1.same _ _ dB c5 rfl;have:=run_endRound (P:=P) j U;rw[q]at this |-;refine⟨by rw[z];exact this,uP.put _ U dB rfl,World.putObj_heap_same (aX.1 U).1,(World.putObj_heap_other dB).trans (a1.same _ _ (ax _) c6 rfl)⟩
   rintro e d3 W3 ⟨d4,_,hp⟩;have d0:∀ b,b∈ks->W2.heap[b]?=W.heap[b]?:=λb hb=>by
    have:=hks b hb;rw[C,World.putObj_heap_other dB,O.block b dB]
   have d5:W.heap.size<=W2.heap.size:=by rw[C];simpa using O.size
   cases e with
   |normal=>
    obtain⟨D,J,d1⟩:=hp;obtain⟨hr,K,L,M⟩:=fin none W3 D;refine⟨_,_,hr, .inl ⟨rfl,⟨hI _ _ _ d1 K,L,M⟩,λb hb=>?_,?_⟩⟩
    .have:=hks b hb
     rw[World.putObj_heap_other dB,J b hb,d0 b hb]
    .have:=D.size;simp;omega
   |ret=>
    obtain⟨D,J⟩:=hp;obtain⟨hr,K,L,M⟩:=fin (some .ret) W3 D;exact⟨_,_,hr, .inr ⟨rfl, .ret,hIx _ _ _ J K,L,M⟩⟩
   |exit id=>
    obtain⟨D,J⟩:=hp;obtain⟨hr,K,L,M⟩:=fin (some (.exit id)) W3 D;exact⟨_,_,hr, .inr ⟨rfl, .exit id,hIx _ _ _ J K,L,M⟩⟩
   |goto t=>exact hp.elim
   |panic ch=>exact hp.elim
   |outgrown=>exact hp.elim
  .rintro e W2 ⟨v,rfl,(⟨G,r,H⟩|⟨c,G,r,H⟩)⟩
   .refine⟨none,_,by have:=run_endLoop (P:=P) r (by rw[q];simp);rw[q]at this;rw[z];exact this,?_⟩
    refine⟨⟨ρ.f,w.heap.size::ρ.ms⟩,⟨by simp[o.d,Dm.d],o.s,o.t⟩,hdone w.heap.size _ (ax _) (hI _ _ _ G (uP.put _ r dB rfl)) ((World.putObj_heap_other dB).trans H)⟩
   .refine⟨some c,_,by have:=run_endLoop (P:=P) r (by rw[q];simp);rw[q]at this;rw[z];exact this,?_⟩
    obtain⟨l,m⟩:=hstop w.heap.size c _ (ax _) (hIx _ _ _ G (uP.put _ r dB rfl)) ((World.putObj_heap_other dB).trans H);exact m l none _ V ⟨by simp[o.d,Dm.d],o.s,o.t⟩
theorem znM {g:Operand} {ps:List Nat} {assign body:Code} {gf:Nat} {lb:List Value} {xs:List (List Value)} {ks:List Nat} (hmd:∀ rd,md rd->rd=none)
  (hg:ev ρ g= .func (.func gf) #[] lb.toArray) (hcan:vC P gf=true) (hseq:Lj P gf lb xs ks w0) (hb0:VD w0 w) (hps:∀ v,v∈xs->v.length=ps.length) (hpn:ps.all (Nat.blt · n)=true) (hnd:ps.Nodup)
  (hks:∀ b,b∈ks->b<w.heap.size)
  (I:Nat->World->Prop) (Ix:Code->World->Prop) (hI:∀ k W W',I k W->uP w.heap.size W W'->I k W') (hIx:∀ c W W',Ix c W->uP w.heap.size W W'->Ix c W') (h0:I 0 w)
  (round:∀ l k v W1,xs[k]?=some v->I k W1->w.heap.size<=W1.heap.size->W (λrd=>rd=some l) P n assign
   (λe ρ' W'=>e= .normal/\VD W1 W'/\∀ W2,uP w.heap.size W' W2->W (λrd=>rd=some l) P n body (DV w.heap.size ks I Ix k W2) ρ' W2) (zy ρ.f ps v) W1)
  (hdone:∀ D W,w.heap.size<=D->I xs.length W->W.heap[D]?=some (.deferred (some []))->Q .normal ⟨ρ.f,D::ρ.ms⟩ W)
  (hstop:∀ D c W',w.heap.size<=D->Ix c W'->W'.heap[D]?=some (.deferred (some []))->codeOk n c=true/\W md P n c Q ⟨ρ.f,D::ρ.ms⟩ W'):
  W md P n (.rangeFunc g ps.toArray assign body) Q ρ w:=
 ZB (m:=xs.length) (V:=λk v _=>xs[k]?=some v) hmd hg hcan (λl J Jx W c e f g h=>hseq l J Jx W c e f (λk v W1 a i=>g k v W1 (aL.1 a).1 a i) h) hb0 (λk v W a=>hps v (aO a)) hpn hnd hks I Ix hI hIx h0 (λl k v W1 _ a j o=>round l k v W1 a j o) hdone hstop
end
section
variable {P:Program}{ρ:Env}{w:World}{d:Option Nat}{ty:TypeId}{pos:String}{af:Array Edge}{gd:Option (Nat × Bool)}
def Oc(P:Program)(t n:Nat):Bool:=
 (match P.underlying t with|some (.array m e)=>Nat.beq m n && (match P.underlying e with|some (.int .u8)=>true|_=>false) && Nat.beq (P.cellsOf e) 1 && (P.info? e).isSome|_=>false) && !P.eqGuardType P.depth t
theorem zhf{e:TypeId}(dd:Nat)(he:P.underlying e=some (.int .u8)):∀ (is:List Nat) (a b:List UInt8) (w:World),(∀ i,i∈is->i<a.length)->a.length=b.length->
  (Op.eqItems (dd+1) e 1 (bv a).toArray (bv b).toArray is).run P w= .ok (is.all λi=>a[i]? == b[i]?) w
 |[],_,_,w,_,_=>rfl
 |i::is,a,b,w,c,hl=>by
  have f:=c i ig;have g:i<b.length:=by omega
  have h:∀ (l:List UInt8) (w:World),i<l.length->(part e (bv l).toArray (i*1)).run P w= .ok (vE (l.getD i 0)) w:=by
   intro l w k;have m:(isAgg e).run P w= .ok false w:=by simp[isAgg,run_underlying he]
   have o:(bv l)[i]?=some (vE (l.getD i 0)):=zq9 l i k;simp[part,m,o,Result.andThen]
  simp only[Op.eqItems,Sem.run_bind,h a w f,h b w g,Result.andThen_ok,vE,run_equalIn_int w dd e .u8 .u8 _ _ he];have p:(a[i]? == b[i]?)=(((a.getD i 0).toNat:Int) == ((b.getD i 0).toNat:Int)):=by
   rw[bI,bI,aG f,aG g];simp only[jr];rw[jv];simp only[beq_iff_eq,Option.some.injEq];exact⟨λc=>by rw[c],λc=>iI.1 dB⟩
  rw[gu,p];cases hc:((((a.getD i 0).toNat:Int) == ((b.getD i 0).toNat:Int)):Bool)
  .simp
  .simp only[gV,jw,if_false,fD]
   exact zhf dd he is a b w (λj q=>c j (by simp[q])) hl
theorem all_range_eq(a b:List UInt8)(hl:a.length=b.length):((List.range a.length).all λi=>a[i]? == b[i]?)=decide (a=b):=by
 rw[jv,dC,decide_eq_true_iff]
 constructor
 .intro c
  apply dI;intro i
  by_cases e:i<a.length
  .have:=c i (bZ.2 e);simpa using this
  .rw[bK dB,bK dB]
 .rintro rfl i _;simp
theorem zfZ{t n:Nat}(ht:Oc P t n=true)(a b:List UInt8)(ha:a.length=n)(hb:b.length=n)(w:World):(Op.equalIn 10000 t (.agg (bv a).toArray) (.agg (bv b).toArray)).run P w= .ok (decide (a=b)) w:=by
 unfold Oc at ht;simp only[aN]at ht;have c:=ht.1
 split at c
 .rename_i m e h
  simp only[aN]at c;obtain⟨⟨⟨j,g⟩,k⟩,l⟩:=c;have o:P.underlying e=some (.int .u8):=by
   split at g
   .assumption
   .cases g
  obtain⟨i,f⟩:=iE.1 l;rw[show 10000=9999+1 from rfl,run_equalIn_array w 9999 _ _ h f,bX k,bX j,show 9999=9998+1 from rfl,zhf 9998 o _ a b w (by intro i f;simp at f;omega) dB,
   <-ha,all_range_eq a b dB]
 .cases c
theorem zhg{t n:Nat}(ht:Oc P t n=true):P.eqGuardType P.depth t=false:=by
 unfold Oc at ht;simp only[aN,ed]at ht;exact ht.2
theorem UT{t t' n:Nat}{x y:Operand}{a b:List UInt8}(ht:Oc P t n=true)(hx:ev ρ x= .agg (bv a).toArray)(hy:ev ρ y= .agg (bv b).toArray)(ha:a.length=n)(hb:b.length=n):
  (execOp (ev ρ) ⟨d, .binOp .eql t x y t',ty,pos,af,gd⟩).run P w= .ok (.value (.bool (decide (a=b)))) w:=by
 have c:=run_eqGuard_agg (P:=P) w .eql t x y (bv a).toArray (bv b).toArray (zhg ht);simp only[execOp,hx,hy,Sem.run_bind,c,Result.andThen_ok,run_eql_struct,zfZ ht a b ha hb w]
 rfl
theorem WQ{t t' n:Nat}{x y:Operand}{a b:List UInt8}(ht:Oc P t n=true)(hx:ev ρ x= .agg (bv a).toArray)(hy:ev ρ y= .agg (bv b).toArray)(ha:a.length=n)(hb:b.length=n):
  (execOp (ev ρ) ⟨d, .binOp .neq t x y t',ty,pos,af,gd⟩).run P w= .ok (.value (.bool (!decide (a=b)))) w:=by
 have c:=run_eqGuard_agg (P:=P) w .neq t x y (bv a).toArray (bv b).toArray (zhg ht);simp only[execOp,hx,hy,Sem.run_bind,c,Result.andThen_ok,run_neq_struct,zfZ ht a b ha hb w]
 rfl
def pairT (P : Program) (t : Nat) (k0 k1 : IntKind) : Bool :=
  (match P.underlying t with
   | some (.struct fs) => (match fs.toList with
     | [f0, f1] => (f0.name != "_") && (f1.name != "_") && Nat.beq f0.offset 0 && Nat.beq f1.offset 1 && zK P f0.type k0 && zK P f1.type k1
     | _ => false)
   | _ => false) && !P.eqGuardType P.depth t && !P.stoodInHeld t
theorem VU{t:Nat}{k:IntKind}(h:zK P t k=true):P.underlying t=some (.int k):=by
 unfold zK at h
 split at h
 .rename_i c a;rw[a];simp at h;rw[h]
 .cases h
theorem zkd{t:Nat}{k0 k1:IntKind}(ht:pairT P t k0 k1=true)(a b a' b':Int)(w:World):(Op.equalIn 10000 t (.agg #[.int k0 a, .int k1 b]) (.agg #[.int k0 a', .int k1 b'])).run P w= .ok (decide (a=a'/\b=b')) w:=by
 unfold pairT at ht;simp only[aN,ed]at ht;obtain⟨⟨c,_⟩,o⟩:=ht
 split at c
 .rename_i p i
  split at c
  .rename_i f g q
   simp only[aN,bne_iff_ne,ne_eq]at c;obtain⟨⟨⟨⟨⟨r,s⟩,u⟩,y⟩,z⟩,A⟩:=c;have j:=VU z;have k:=VU A;have l:P.fieldsOf t=p:=by simp[Program.fieldsOf,i]
   rw[show 10000=9999+1 from rfl,run_equalIn_struct w 9999 t _ _ (by rw[l];exact i) o,l,q];have B:(isAgg f.type).run P w= .ok false w:=by simp[isAgg,run_underlying j]
   have C:(isAgg g.type).run P w= .ok false w:=by simp[isAgg,run_underlying k]
   have D:=bX u;have E:=bX y;have F:∀ (x e:Int),(part f.type #[.int k0 x, .int k1 e] f.offset).run P w= .ok (.int k0 x) w:=λx e=>by simp[part,B,D,Result.andThen]
   have m:∀ (x e:Int),(part g.type #[.int k0 x, .int k1 e] g.offset).run P w= .ok (.int k1 e) w:=λx e=>by simp[part,C,E,Result.andThen]
   have G:=run_equalIn_int w 9998 f.type k0 k0 a a' j;have H:=run_equalIn_int w 9998 g.type k1 k1 b b' k;simp only[Op.eqFields,r,s,ne_eq,not_false_eq_true,if_true,Sem.run_bind,F,m,Result.andThen_ok,show 9999=9998+1 from rfl,G]
   by_cases h:a=a'
   .subst h
    simp only[beq_self_eq_true,gV,jw,if_false,Sem.run_bind,m,Result.andThen_ok,H]
    by_cases I:b=b'<;>simp[I]
   .have:(a == a')=false:=by simpa using h
    simp[this,h]
  .cases c
 .cases c
theorem znP{t:Nat}{k0 k1:IntKind}(ht:pairT P t k0 k1=true):P.eqGuardType P.depth t=false:=by
 unfold pairT at ht;simp only[aN,ed]at ht;exact ht.1.2
theorem VH{t t':Nat}{k0 k1:IntKind}{x y:Operand}{a b a' b':Int}(ht:pairT P t k0 k1=true)(hx:ev ρ x= .agg #[.int k0 a, .int k1 b])(hy:ev ρ y= .agg #[.int k0 a', .int k1 b']):
  (execOp (ev ρ) ⟨d, .binOp .neq t x y t',ty,pos,af,gd⟩).run P w= .ok (.value (.bool (!decide (a=a'/\b=b')))) w:=by
 have c:=run_eqGuard_agg (P:=P) w .neq t x y #[.int k0 a, .int k1 b] #[.int k0 a', .int k1 b'] (znP ht);simp only[execOp,hx,hy,Sem.run_bind,c,Result.andThen_ok,run_neq_struct,zkd ht a b a' b' w]
 rfl
def strOf(l:List UInt8):Value:=.string ⟨l.toArray⟩
theorem Jz{s t e:Nat}{x:Operand}{p:Option Addr}{m c:Nat}{l:List UInt8}(hs:P.underlying s=some (.slice e))(he:P.underlying e=some (.int .u8))(hd:P.underlying t=some .string)(hx:ev ρ x= .slice p m c)(hl:nM w p m 1 (bv l)):
  (execOp (ev ρ) ⟨d, .convert s t x,ty,pos,af,gd⟩).run P w= .ok (.value (strOf l)) w:=by
 have f:l.length=m:=by simpa [oL]using hl.len
 have h:(convert s t (.slice p m c)).run P w= .ok (strOf l) w:=by
  by_cases j:m=0
  .subst j
   obtain rfl:l=[]:=bH f;cases p with
   |none=>simp[convert,run_underlying hs,run_underlying he,run_underlying hd,Conv.bytesToString,strOf,Result.andThen];rfl
   |some a=>
    have:=run_convert_bytes_string (P:=P) w s t e a 0 c hs he hd;rw[this];simp[Conv.bytesToString,loadCells,loadCellsFrom,strOf,Result.andThen]
    rfl
  .obtain⟨g,k,rfl,_⟩:=hl.some dB
   have:=run_convert_bytes_arg (P:=P) w s e hs he g k m c (l.map λb=>(b.toNat:Int)) (by simpa using f) (λi q=>by
    rw[hl.cell i (v:=vE (l.getD i 0)) (zq9 l i dB)];have:i<l.length:=by omega
    simp[vE,List.getD,aG this]) t hd
   rw[this];have o:(l.map λb=>(b.toNat:Int)).map (λn=>UInt8.ofNat n.toNat)=l:=by
    rw[dJ];have:(fun(n:Int)=>UInt8.ofNat n.toNat) ∘ (fun(b:UInt8)=>(b.toNat:Int))=id:=by funext b;simp
    rw[this,List.map_id]
   rw[strOfNums,o]
   rfl
 simp[execOp,hx,h,Result.andThen]
theorem XW{t t':Nat}{x y:Operand}{a b:List UInt8}(hx:ev ρ x=strOf a)(hy:ev ρ y=strOf b):
  (execOp (ev ρ) ⟨d, .binOp .neq t x y t',ty,pos,af,gd⟩).run P w= .ok (.value (.bool (!decide (a=b)))) w:=by
 have:((⟨a.toArray⟩:ByteArray).toList == (⟨b.toArray⟩:ByteArray).toList)=decide (a=b):=by
  rw[ByteArray.toList_eq,ByteArray.toList_eq];simp only[List.toList_toArray];rw[jv];simp
 simp only[execOp,hx,hy,strOf,eqGuard,binOp,Op.stringOp,this];simp[Result.andThen]
end
end Coup
