import Derived.Test.YtielfpkjoidomaaGreatM3
import Derived.Test.YtielfpkjoidomaaGreatM0
import Derived.Lib.SlBytesConst
namespace Go.Proofs.YtielfpkjoidomaaGreat
open Go Go.RowKit Coup
set_option maxRecDepth 20000 in
theorem deleteN (b : Nat) (n : Int) (w : World) (hb : row w b [.int .i64 n] 3) :
  Calls Tryz.prog 72 [.slice none 0 0, .func (.func 73) #[] #[.pointer (some ⟨b, 0, none⟩)]].toArray w (Ret fun v w' => v = .slice none 0 0 ∧ Below w.heap.size w w') := by
 have hB := Below.refl w.heap.size w
 have hs0 : za9 w none 0 513 (zbT []) := (zby w 0 73 513).sl
 have hix := fun w' (h : za9 w' none 0 513 (zbT [])) (hb : row w' b [.int .i64 n] 3) => indexB [] (fun _ h => nomatch h) none 0 0 rfl b n w' h hb
 rw [if_neg (by simp)] at hix
 refine zaw (fn := Tryz.f72) (rs := [.tmp 4]) (n := 42) Tryz.func72 rfl rfl Tryz.ntmps72 (by kernel_rfl) rfl ?_
 refine zak (zac (zaa rfl (zad) (zaf (zai (zak (zac (zaa rfl (zab) (zaa rfl (zab) ?_))))))))
 refine zat rfl (zao (by kernel_rfl) rfl) (hix w hs0 hb) ?_
 rintro _ w10 ⟨rfl, hb10⟩
 replace hb := hb.new hb10
 replace hB := hB.acc hb10
 refine zaa rfl (zad) (zaf (zai (zak (zak (zac (zaa rfl (zab) ?_))))))
 refine zaa rfl (zbr rfl rfl) ?_
 refine zaf (zai ?_)
 refine zkt rfl (rfl) ?_
 refine zak (zac (zaa rfl (zab) (zaa rfl (zad) (zaf (zai (zax (zaT ?_)))))))
 refine zar [_] ⟨rfl, trivial⟩ ?_
 exact ⟨rfl, hB⟩
section
variable {Y : World → List Nat → Prop} [Thing Y] {g x q mc md lo : Nat} {rv cv : Value} {L : List Nat} {P : Pl} {w : World}
set_option maxRecDepth 20000 in
theorem znR (h : zbc g x q mc md rv cv Y lo L P w) (hsz : P.G.size ≤ 4000) : Calls Tryz.prog 24 [.pointer (some ⟨q, 0, none⟩)].toArray w (Ret fun v w' => v = .int .i64 (P.n : Int) ∧ Below w.heap.size w w') := by
 have hB := Below.refl w.heap.size w
 have hC := fun w' (h' : zbc g x q mc md rv cv Y lo L P w') => countP h'.lg.fst (P.G.size : Int) ⟨by omega, by omega⟩
 have hq := h.row
 unfold plV at hq
 unfold Pl.n
 refine zaw (fn := Tryz.f24) (rs := [.tmp 2]) (n := 21) Tryz.func24 rfl rfl Tryz.ntmps24 (by kernel_rfl) rfl ?_
 refine zak (zac (zaa rfl (zad) (zaf (zai (zak (zak (zac (zaa rfl (zab) ?_))))))))
 refine zaa rfl (zcF (by kernel_rfl) rfl rfl) ?_
 refine zaa rfl (zab) ?_
 refine WR_fb 5 rfl (rfl) ?_
 refine zas rfl (zaa rfl (zab) (zas rfl (zaa rfl (zal rfl) (zas rfl (zaa rfl (zaj (off := 0) (by kernel_rfl) rfl) (zas rfl ?_))))))
 refine zaa rfl (zam rfl (Ld.zbb hq (by kernel_rfl) rfl)) ?_
 refine zas rfl ?_
 refine zaa rfl (zcF (by kernel_rfl) rfl rfl) ?_
 refine zaa rfl (zaz rfl) (zaf (zai ?_))
 refine zln rfl (rfl) ?_
 refine zau (zai (zak ?_))
 refine zbg [] (by kernel_rfl) ?_
 intro w901 hb901 hS901
 replace h := h.new hb901
 replace hq := hq.new hb901
 replace hB := hB.acc hb901
 have h_d901 := h
 have hq_d901 := hq
 have hB_d901 := hB
 refine zah 0 (by kernel_rfl) rfl (fun _ _ => zab) ?_
 refine zah 1 (by kernel_rfl) rfl (fun _ _ => zal rfl) ?_
 refine zah 2 (by kernel_rfl) rfl (fun _ _ => zaj (off := 0) (by kernel_rfl) rfl) ?_
 refine zah 3 (by kernel_rfl) rfl (fun w' hS' => zam rfl (Ld.zbb (hq_d901.kq hS') (by kernel_rfl) rfl)) ?_
 refine zah 4 (by kernel_rfl) rfl (fun _ _ => zab) ?_
 refine zah 5 (by kernel_rfl) rfl (fun _ _ => zal rfl) ?_
 refine zah 6 (by kernel_rfl) rfl (fun _ _ => zaj (off := 2) (by kernel_rfl) rfl) ?_
 refine zah 7 (by kernel_rfl) rfl (fun w' hS' => zam rfl (Ld.zbb (hq_d901.kq hS') (by kernel_rfl) rfl)) ?_
 refine zdF 8 (by kernel_rfl) rfl (fun _ => zao (by kernel_rfl) rfl) (fun w' hS' => hC w' (h_d901.kpd hS' (by first | (simp; done) | (simp; omega) | (simp [*]; done) | exact zaH (Or.inl (by omega)) | exact zaH (Or.inr (by simp)) | exact fun g hm => Nat.le_trans (by omega) (zel hm).1 | (intro b o e; cases e; exact zaH (Or.inl (by omega))) | (intro b hm; have := (hu.lt b (Option.mem_toList.1 hm)).1; omega) | (intro b o e; cases e; intro hm; have := (hu.lt _ (Option.mem_toList.1 hm)).1; omega)))) ?_
 refine zah 9 (by kernel_rfl) rfl (fun _ _ => zad) ?_
 refine zaR (by kernel_rfl) ?_
 refine zai (zax ?_)
 refine zar [_] ⟨rfl, trivial⟩ ?_
 exact ⟨rfl, hB⟩
def zce (P : Pl) (n : Int) : Int := if P.dead then 10 else if 0 ≤ n ∧ n < (P.n : Int) then 0 else 2
set_option maxRecDepth 20000 in
theorem zfs (h : zbc g x q mc md rv cv Y lo L P w) (hsz : P.G.size ≤ 4000) (n : Int) : Calls Tryz.prog 34 [.pointer (some ⟨q, 0, none⟩), .int .i64 n].toArray w (Ret fun v w' => v = .int .i64 (zce P n) ∧ Below w.heap.size w w') := by
 have hB := Below.refl w.heap.size w
 have hC := fun w' (h' : zbc g x q mc md rv cv Y lo L P w') => znR h' hsz
 have hq := h.row
 obtain ⟨de, hde⟩ : ∃ de, P.dead = de := ⟨_, rfl⟩
 obtain ⟨N, hN⟩ : ∃ N, P.n = N := ⟨_, rfl⟩
 unfold plV at hq
 unfold zce
 rw [hde] at hq ⊢
 rw [hN] at hC ⊢
 refine zaw (fn := Tryz.f34) (rs := [.tmp 4]) (n := 29) Tryz.func34 rfl rfl Tryz.ntmps34 (by kernel_rfl) rfl ?_
 refine zak (zac (zaa rfl (zad) (zaf (zai (zak (zaD (zak (zac (zaa rfl (zab) ?_)))))))))
 refine zaa rfl (zcF (by kernel_rfl) rfl rfl) ?_
 refine zaa rfl (zab) ?_
 refine WR_fb 8 rfl (rfl) ?_
 refine zas rfl (zaa rfl (zab) (zas rfl (zaa rfl (zal rfl) (zas rfl (zaa rfl (zaj (off := 0) (by kernel_rfl) rfl) (zas rfl ?_))))))
 refine zaa rfl (zam rfl (Ld.zbb hq (by kernel_rfl) rfl)) ?_
 refine zas rfl ?_
 refine zaa rfl (zcF (by kernel_rfl) rfl rfl) ?_
 refine zaa rfl (zaz rfl) (zaa rfl (zad) (zaf (zai ?_)))
 refine zln rfl (rfl) ?_
 refine zak (zac (zaa rfl (zab) (zaa rfl (zal rfl) (zaa rfl (zaj (off := 7) (by kernel_rfl) rfl) ?_))))
 refine zaa rfl (zam rfl (Ld.zbb hq (by kernel_rfl) rfl)) ?_
 refine zaa rfl (zad) (zaf (zai ?_))
 refine zlm rfl (fun hd => ?_) (fun hd => ?_)
 ·
  refine zak (zac (zaa rfl (zad) (zaf (zai (zax (za6 (zaT ?_)))))))
  refine zar [_] ⟨rfl, trivial⟩ ?_
  subst hd
  exact ⟨rfl, hB⟩
 ·
  have hf : de = false := by cases de with | false => rfl | true => cases hd
  subst hf
  refine zak (zac (zaa rfl (zab) ?_))
  refine zaa rfl (zbd rfl rfl) ?_
  refine zaa rfl (zab) ?_
  refine zbJ 23 rfl (fun hlt => ?_) (fun hlt => ?_)
  ·
   refine zaE rfl rfl (zaE rfl rfl (zaE rfl rfl (zaE rfl rfl (zaa rfl (zay rfl) (zaa rfl (zad) (zaf (zai ?_)))))))
   refine zkB rfl (rfl) ?_
   refine zak (zac (zaa rfl (zad) (zaf (zai (zax (za6 (zaT ?_)))))))
   refine zar [_] ⟨rfl, trivial⟩ ?_
   exact ⟨by rw [if_neg (by simp), if_neg (by omega)]; rfl, hB⟩
  ·
   refine zas rfl (zaa rfl (zab) (zas rfl (zaa rfl (zab) (zas rfl ?_))))
   refine zat rfl (zao (by kernel_rfl) rfl) (hC w h) ?_
   rintro _ w26 ⟨rfl, hb26⟩
   replace h := h.new hb26
   replace hq := hq.new hb26
   replace hB := hB.acc hb26
   refine zas rfl ?_
   refine zaa rfl (zeR rfl rfl) ?_
   refine zaa rfl (zaz rfl) (zaa rfl (zad) (zaf (zai ?_)))
   refine zaZ rfl (fun hge => ?_) (fun hge => ?_)
   ·
    refine zak (zac (zaa rfl (zad) (zaf (zai (zax (za6 (zaT ?_)))))))
    refine zar [_] ⟨rfl, trivial⟩ ?_
    exact ⟨by rw [if_neg (by simp), if_neg (by omega)]; rfl, hB⟩
   ·
    refine zau (za2 (zai (zak (zac (zaa rfl (zad) (zaf (zai (zax ?_))))))))
    refine zar [_] ⟨rfl, trivial⟩ ?_
    exact ⟨by rw [if_neg (by simp), if_pos (by omega)]; rfl, hB⟩
set_option maxRecDepth 20000 in
theorem keepP (h : zbc g x q mc md rv cv Y lo L P w) (e : Int) : Calls Tryz.prog 40 [.pointer (some ⟨q, 0, none⟩), .int .i64 e].toArray w (Ret fun v w' => v = .int .i64 e ∧ zbc g x q mc md rv cv Y lo L { P with dead := P.dead || decide (e = 10) } w' ∧ LoL lo L w w') := by
 have hLL := LoL.refl lo L w
 have hq := h.row
 obtain ⟨hql, hqL⟩ := h.ql
 obtain ⟨D, G, fr, ch, di, cl, de⟩ := P
 unfold plV at hq
 dsimp only at hq ⊢
 refine zaw (fn := Tryz.f40) (rs := [.tmp 4]) (n := 17) Tryz.func40 rfl rfl Tryz.ntmps40 (by kernel_rfl) rfl ?_
 refine zak (zac (zaa rfl (zad) (zaf (zai (zak (zac (zaa rfl (zab) (zaa rfl (zab) (zaa rfl (zal rfl) (zaa rfl (zaj (off := 7) (by kernel_rfl) rfl) ?_))))))))))
 refine zaa rfl (zam rfl (Ld.zbb hq (by kernel_rfl) rfl)) ?_
 refine zaa rfl (zab) ?_
 refine zem 10 rfl (fun hd => ?_) (fun hd => ?_)
 ·
  refine zaE rfl rfl (zaE rfl rfl ?_)
  subst hd
  refine zaa rfl (zay rfl) (zaa rfl (zal rfl) (zaa rfl (zaj (off := 7) (by kernel_rfl) rfl) ?_))
  refine za4 rfl (zaP rfl rfl rfl rfl hq (by kernel_rfl) (by first | (simp only [List.length_replicate]; omega) | (simp only [zaM]; omega) | (simp only [zae, List.length_set]; omega) | simp) (fun w901 hq ho901 => ?_))
  replace hLL := hLL.oq ho901
  have hP := h.setRow hq ho901
  refine zaf (zai (zak (zac (zaa rfl (zab) (zaa rfl (zad) (zaf (zai (zax ?_))))))))
  refine zar [_] ⟨rfl, trivial⟩ ?_
  exact ⟨rfl, hP, hLL⟩
 ·
  have hf : de = false := by cases de with | false => rfl | true => cases hd
  subst hf
  refine zas rfl (zaa rfl (zab) (zas rfl ?_))
  refine zaa rfl (zbr rfl rfl) ?_
  refine zaa rfl (zaz rfl) (zaa rfl (zal rfl) (zaa rfl (zaj (off := 7) (by kernel_rfl) rfl) ?_))
  refine za4 rfl (zaP rfl rfl rfl rfl hq (by kernel_rfl) (by first | (simp only [List.length_replicate]; omega) | (simp only [zaM]; omega) | (simp only [zae, List.length_set]; omega) | simp) (fun w902 hq ho902 => ?_))
  replace hLL := hLL.oq ho902
  have hP := h.setRow hq ho902
  refine zaf (zai (zak (zac (zaa rfl (zab) (zaa rfl (zad) (zaf (zai (zax ?_))))))))
  refine zar [_] ⟨rfl, trivial⟩ ?_
  exact ⟨rfl, hP, hLL⟩
set_option maxRecDepth 20000 in
theorem forgetN (h : zbc g x q mc md cv cv Y lo L P w) (hcv : cv = .slice none 0 0) (h0 : P.cl.length = 0) (n : Int) : Calls Tryz.prog 42 [.pointer (some ⟨q, 0, none⟩), .int .i64 n].toArray w (Ret fun v w' => v = .tuple #[] ∧ (∃ cv', zbc g x q mc md cv' cv' Y lo L { P with cl := without P.cl n } w') ∧ LoL lo L w w') := by
 have hLL := LoL.refl lo L w
 have hq := h.row
 obtain ⟨hql, hqL⟩ := h.ql
 unfold plV at hq
 subst hcv
 have hcl : P.cl = [] := List.eq_nil_of_length_eq_zero h0
 have hwo : without P.cl n = P.cl := by rw [hcl]; rfl
 rw [hwo]
 refine zaw (fn := Tryz.f42) (rs := []) (n := 13) Tryz.func42 rfl rfl Tryz.ntmps42 (by kernel_rfl) rfl ?_
 refine zak (zac ?_)
 refine zaX rfl (zca ([_]) rfl (fun g3 w3 hg3 hr3 hb3 => ?_))
 have lt_q_g3 : q < g3 := Nat.lt_of_lt_of_le hq.lt hg3
 replace h := h.newc hb3 hg3 hr3.lt
 replace hLL := hLL.new hb3
 replace hq := hq.new hb3
 refine zaf (zai (zac (zaa rfl (zab) (zaa rfl (zab) (zaa rfl (zal rfl) (zaa rfl (zaj (off := 6) (by kernel_rfl) rfl) ?_))))))
 refine zaa rfl (zam rfl (Ld.zbb hq (by kernel_rfl) rfl)) ?_
 refine zaa rfl (zcI) ?_
 refine zat rfl (zao (by kernel_rfl) rfl) (deleteN _ n w3 hr3) ?_
 rintro _ w10 ⟨rfl, hb10⟩
 replace h := h.new hb10
 replace hLL := hLL.new hb10
 replace hq := hq.new hb10
 replace hr3 := hr3.new hb10
 refine zaa rfl (zal rfl) (zaa rfl (zaj (off := 6) (by kernel_rfl) rfl) ?_)
 refine za4 rfl (zaP rfl rfl rfl rfl hq (by kernel_rfl) (by first | (simp only [List.length_replicate]; omega) | (simp only [zaM]; omega) | (simp only [zae, List.length_set]; omega) | simp) (fun w901 hq ho901 => ?_))
 replace hLL := hLL.oq ho901
 replace hr3 := hr3.only ho901 (Nat.ne_of_gt lt_q_g3)
 have hP := h.setRow hq ho901
 refine zaf ?_
 refine zcx [] trivial ?_
 exact ⟨rfl, ⟨_, hP.weak (fun b hb => List.mem_cons_of_mem _ hb)⟩, hLL⟩
set_option maxRecDepth 20000 in
theorem forgetO {gc o c : Nat} (h : zbc g x q mc md cv cv Y lo L P w) (hcv : cv = .slice (some ⟨gc, o, none⟩) P.cl.length c) (hR : zbD P.cl) (n : Int) : Calls Tryz.prog 42 [.pointer (some ⟨q, 0, none⟩), .int .i64 n].toArray w (Ret fun v w' => v = .tuple #[] ∧ (∃ cv', zbc g x q mc md cv' cv' Y lo L { P with cl := without P.cl n } w') ∧ LoL lo L w w') := by
 have hLL := LoL.refl lo L w
 have hq := h.row
 obtain ⟨hql, hqL⟩ := h.ql
 unfold plV at hq
 subst hcv
 have hgl : gc < w.heap.size := zeV.lt h.own
 have hcq := h.cq gc (List.mem_cons_self ..)
 have hgL : ∀ b ∈ [gc], (lo ≤ b ∧ b ∉ L) ∨ w.heap.size ≤ b := fun b hb => .inl (by rw [List.mem_singleton.1 hb]; exact ⟨hcq.2.2.2.1, hcq.2.2.2.2⟩)
 have hqg : q ≠ gc := Ne.symm hcq.1
 refine zaw (fn := Tryz.f42) (rs := []) (n := 13) Tryz.func42 rfl rfl Tryz.ntmps42 (by kernel_rfl) rfl ?_
 refine zak (zac ?_)
 refine zaX rfl (zca ([_]) rfl (fun g3 w3 hg3 hr3 hb3 => ?_))
 have lt_q_g3 : q < g3 := Nat.lt_of_lt_of_le hq.lt hg3
 replace h := h.newc hb3 hg3 hr3.lt
 replace hLL := hLL.new hb3
 replace hq := hq.new hb3
 refine zaf (zai (zac (zaa rfl (zab) (zaa rfl (zab) (zaa rfl (zal rfl) (zaa rfl (zaj (off := 6) (by kernel_rfl) rfl) ?_))))))
 refine zaa rfl (zam rfl (Ld.zbb hq (by kernel_rfl) rfl)) ?_
 refine zaa rfl (zcI) ?_
 refine zat rfl (zao (by kernel_rfl) rfl) (deleteB P.cl hR gc o P.cl.length c 0 rfl _ n w3 h.own hr3 (by omega)) ?_
 rintro _ w10 ⟨rfl, hown, hb10⟩
 replace h := h.zlL hown hb10.k (fun b e => Or.inl e)
 replace hLL := hLL.kpd hb10.k hgL
 replace hq := hq.kpd hb10.k (by first | (simp; done) | (simp; omega))
 replace hr3 := hr3.kpd hb10.k (by first | (simp; done) | (simp; omega))
 refine zaa rfl (zal rfl) (zaa rfl (zaj (off := 6) (by kernel_rfl) rfl) ?_)
 refine za4 rfl (zaP rfl rfl rfl rfl hq (by kernel_rfl) (by first | (simp only [List.length_replicate]; omega) | (simp only [zaM]; omega) | (simp only [zae, List.length_set]; omega) | simp) (fun w901 hq ho901 => ?_))
 replace hr3 := hr3.only ho901 (Nat.ne_of_gt lt_q_g3)
 replace hLL := hLL.oq ho901
 have hP := h.setRow hq ho901
 refine zaf ?_
 refine zcx [] trivial ?_
 exact ⟨rfl, ⟨_, hP.weak (fun b hb => List.mem_cons_of_mem _ hb)⟩, hLL⟩
theorem znS (h : zbc g x q mc md cv cv Y lo L P w) (hR : zbD P.cl) (n : Int) : Calls Tryz.prog 42 [.pointer (some ⟨q, 0, none⟩), .int .i64 n].toArray w (Ret fun v w' => v = .tuple #[] ∧ (∃ cv', zbc g x q mc md cv' cv' Y lo L { P with cl := without P.cl n } w') ∧ LoL lo L w w') := by
 rcases h.own.2 with ⟨hcv, h0⟩ | ⟨gc, o, c, cur, hcv, _⟩
 ·exact forgetN h hcv h0 n
 ·exact forgetO h hcv hR n
end
end Go.Proofs.YtielfpkjoidomaaGreat
namespace Coup
open Go Go.RowKit Go.Maps
open Go.WideElems (Fit rd rg pl rd_val elemAt)
section
variable {P : Program} {ρ : Env} {w : World} {d : Option Nat} {ty : TypeId} {pos : String} {af : Array Edge} {gd : Option (Nat × Bool)} {K : Value → World → Prop}
theorem znT {t k e : TypeId} {x : Operand} {m N : Nat} {f : Nat → Option Value} (ht : P.underlying t = some (.map k e)) (hm : MapAt P k w m N f) (hx : ev ρ x = .map (some m)) :
  (execOp (ev ρ) ⟨d, .call ⟨.builtin .len, #[x], #[t]⟩, ty, pos, af, gd⟩).run P w = .ok (.value (.int .i64 ((kvL f 0 N).length : Int))) w := by
 obtain ⟨es, clock, hb, F, hs, hD⟩ := hm
 have h1 := Go.MapKept.run_getObj_map (P := P) hb
 have he : (kvL f 0 N).length = es.size := by
  have h2 : kvL f 0 N = (es.toList.map (rg P k RH)).foldr DataW.insert [] := by injection hD
  rw [h2, length_read]
 rw [he]
 simp [execOp, resolve, invoke, builtin, Builtin.len_, hx, run_underlying ht, h1, goInt, Result.andThen]
theorem zee {t k e : TypeId} {x y : Operand} {m N : Nat} {f : Nat → Option Value} {a : Int} (z : Value) (o : Option Value) (ht : P.underlying t = some (.map k e)) (hk : P.underlying k = some (.int .i64)) (hz : ∀ w, (zeroValue e).run P w = .ok z w)
  (hm : MapAt P k w m N f) (hx : ev ρ x = .map (some m)) (hy : ev ρ y = .int .i64 a) (i : Nat) (ha : a = (i : Int)) (hi : i < N) (hN : N ≤ 1000000) (hf : f i = o) :
  (execOp (ev ρ) ⟨d, .lookup t x y true, ty, pos, af, gd⟩).run P w = .ok (.value (.tuple #[o.getD z, .bool o.isSome])) w := by
 subst ha
 subst hf
 obtain ⟨es, clock, hb, F, hs, hD⟩ := hm
 have hkey := keyOf_int_mk hk (zlt (i := i) (by omega))
 have hat : ∀ zd : DataW Value, DataW.atKey (.map (kvL f 0 N)) (.int .i64 (i : Int)) zd = ((f i).map DataW.held).getD zd := fun zd => by
  unfold DataW.atKey
  simp only [ziS N 0 (Nat.zero_le _) (by omega : i < 0 + N)]
  cases f i <;> rfl
 rw [hD] at hat
 rcases Maps.fit_look true (int_keyed hk) ht (hz w) hb F hkey with ⟨hrun, _, hat2⟩ | ⟨e0, y, _, _, hrun, hRv, hat2, _⟩
 ·have hn : f i = none := by
   cases hfi : f i with
   | none => rfl
   | some v =>
    have h1 := (hat (.held (.bool true))).symm.trans (hat2 (.held (.bool true)))
    have h2 := (hat (.held (.bool false))).symm.trans (hat2 (.held (.bool false)))
    rw [hfi] at h1 h2
    have h3 : DataW.held (H := Value) (.bool true) = .held (.bool false) := h1.symm.trans h2
    injection h3 with h3
    injection h3 with h3
    cases h3
  rw [hn]
  simp [execOp, hx, hy, hrun, Result.andThen]
 ·have hn : f i = some e0.val := by
   have hy1 : y = (.held e0.val, []) := by
    have h1 : some (DataW.held e0.val, ([] : List MemPlace)) = some y := hRv
    injection h1 with h1
    exact h1.symm
   have h1 := fun zd => (hat zd).symm.trans (hat2 zd)
   rw [hy1] at h1
   cases hfi : f i with
   | none =>
    rw [hfi] at h1
    have h2 : DataW.held (H := Value) (.bool true) = .held (.bool false) := (h1 (.held (.bool true))).trans (h1 (.held (.bool false))).symm
    injection h2 with h2
    injection h2 with h2
    cases h2
   | some v =>
    rw [hfi] at h1
    have h2 : DataW.held (H := Value) v = .held e0.val := h1 (.held v)
    injection h2 with h2
    rw [h2]
  rw [hn]
  simp [execOp, hx, hy, hrun, Result.andThen]
theorem znU {t i0 i1 i2 i3 i4 i5 : Nat} {x0 x1 x2 x3 x4 x5 : Operand} (v0 v1 v2 v3 v4 v5 : Value) (cs : List Value) (h0 : ev ρ x0 = v0) (h1 : ev ρ x1 = v1) (h2 : ev ρ x2 = v2) (h3 : ev ρ x3 = v3) (h4 : ev ρ x4 = v4) (h5 : ev ρ x5 = v5)
  (hb : P.built t [(i0, v0), (i1, v1), (i2, v2), (i3, v3), (i4, v4), (i5, v5)] = some cs.toArray) :
  (execOp (ev ρ) ⟨d, .build t #[(i0, x0), (i1, x1), (i2, x2), (i3, x3), (i4, x4), (i5, x5)], ty, pos, af, gd⟩).run P w = .ok (.value (.agg cs.toArray)) w := by
 have := run_build (P := P) w t #[(i0, v0), (i1, v1), (i2, v2), (i3, v3), (i4, v4), (i5, v5)] cs.toArray (by simpa using hb)
 simp only [execOp, List.map_toArray, List.map_cons, List.map_nil, h0, h1, h2, h3, h4, h5, Sem.run_bind, this, Result.andThen_ok]
 rfl
end
end Coup
namespace Go.Proofs.YtielfpkjoidomaaGreat
open Go Go.RowKit Coup
def zfJ (c : PgM) (n : Nat) : List Int := keysOf (zeA c) 0 n
def numsP (R : Rec) : List Int := R.map (·.num)
theorem znV (n : Nat) (s : Int) : 4 * zfr n s ≤ n := by
 unfold zfr
 split <;> omega
def NewI (w : World) (l : List Int) (v : Value) (w' : World) : Prop := ∃ p c, v = .slice p l.length c ∧ za9 w' p l.length 1 (iv l) ∧ ∀ b o, p = some ⟨b, o, none⟩ → w.heap.size ≤ b
section
variable {Y : World → List Nat → Prop} [Thing Y] {g x q mc md lo : Nat} {rv cv : Value} {L : List Nat} {P : Pl} {w : World}
omit [Thing Y] in
theorem zbc.nle (h : zbc g x q mc md rv cv Y lo L P w) : P.n ≤ 2048 ∧ P.D.V.length ≤ 8192 := by
 have h1 := (tOk h.lg.fst).1.n
 have h2 := znV P.D.V.length P.G.size
 unfold Pl.n
 exact ⟨by omega, h1⟩
set_option maxRecDepth 20000 in
theorem zjb (h : zbc g x q mc md rv cv Y lo L P w) : Calls Tryz.prog 15 [.pointer (some ⟨q, 0, none⟩)].toArray w (Ret fun v w' => NewI w (zfJ P.ch P.n) v w' ∧ Below w.heap.size w w') := by
 have hB := Below.refl w.heap.size w
 have hN := h.nle.1
 have hq := h.row
 unfold plV at hq
 refine zaw (fn := Tryz.f15) (rs := [.tmp 2]) (n := 10) Tryz.func15 rfl rfl Tryz.ntmps15 (by kernel_rfl) rfl ?_
 refine zak (zac (zaa rfl (zad) (zaf (zai (zak (zak (zac (zaa rfl (zab) ?_))))))))
 refine zaa rfl (zcF (by kernel_rfl) rfl rfl) ?_
 refine zaf (zai ?_)
 refine zln rfl (rfl) ?_
 refine zau (zai (zak (zac (zaa rfl (zab) (zaa rfl (zal rfl) (zaa rfl (zaj (off := 4) (by kernel_rfl) rfl) ?_))))))
 refine zaa rfl (zam rfl (Ld.zbb hq (by kernel_rfl) rfl)) ?_
 refine zat rfl (zao (by kernel_rfl) rfl) (keysF w h.mch (by omega)) ?_
 rintro _ w9 ⟨⟨p, c, rfl, hsl, hpb⟩, hb9⟩
 replace h := h.new hb9
 replace hq := hq.new hb9
 replace hB := hB.acc hb9
 refine zaa rfl (zad) (zaf (zai (zax ?_)))
 refine zar [_] ⟨rfl, trivial⟩ ?_
 exact ⟨⟨p, c, rfl, hsl, hpb⟩, hB⟩
set_option maxRecDepth 20000 in
theorem zlM (h : zbc g x q mc md rv cv Y lo L P w) : Calls Tryz.prog 21 [.pointer (some ⟨q, 0, none⟩)].toArray w (Ret fun v w' => NewI w (zfJ P.di P.n) v w' ∧ Below w.heap.size w w') := by
 have hB := Below.refl w.heap.size w
 have hN := h.nle.1
 have hq := h.row
 unfold plV at hq
 refine zaw (fn := Tryz.f21) (rs := [.tmp 2]) (n := 10) Tryz.func21 rfl rfl Tryz.ntmps21 (by kernel_rfl) rfl ?_
 refine zak (zac (zaa rfl (zad) (zaf (zai (zak (zak (zac (zaa rfl (zab) ?_))))))))
 refine zaa rfl (zcF (by kernel_rfl) rfl rfl) ?_
 refine zaf (zai ?_)
 refine zln rfl (rfl) ?_
 refine zau (zai (zak (zac (zaa rfl (zab) (zaa rfl (zal rfl) (zaa rfl (zaj (off := 5) (by kernel_rfl) rfl) ?_))))))
 refine zaa rfl (zam rfl (Ld.zbb hq (by kernel_rfl) rfl)) ?_
 refine zat rfl (zao (by kernel_rfl) rfl) (keysF w h.mdi (by omega)) ?_
 rintro _ w9 ⟨⟨p, c, rfl, hsl, hpb⟩, hb9⟩
 replace h := h.new hb9
 replace hq := hq.new hb9
 replace hB := hB.acc hb9
 refine zaa rfl (zad) (zaf (zai (zax ?_)))
 refine zar [_] ⟨rfl, trivial⟩ ?_
 exact ⟨⟨p, c, rfl, hsl, hpb⟩, hB⟩
set_option maxRecDepth 20000 in
theorem roomP (h : zbc g x q mc md rv cv Y lo L P w) (hok : zo1 P.D P.G) : Calls Tryz.prog 22 [.pointer (some ⟨q, 0, none⟩)].toArray w (Ret fun v w' => v = .int .i64 ((P.G.size - P.G.at_ : Nat) : Int) ∧ Below w.heap.size w w') := by
 have hB := Below.refl w.heap.size w
 have hq := h.row
 unfold plV at hq
 refine zaw (fn := Tryz.f22) (rs := [.tmp 2]) (n := 10) Tryz.func22 rfl rfl Tryz.ntmps22 (by kernel_rfl) rfl ?_
 refine zak (zac (zaa rfl (zad) (zaf (zai (zak (zak (zac (zaa rfl (zab) ?_))))))))
 refine zaa rfl (zcF (by kernel_rfl) rfl rfl) ?_
 refine zaf (zai ?_)
 refine zln rfl (rfl) ?_
 refine zau (zai (zak (zac (zaa rfl (zab) (zaa rfl (zal rfl) (zaa rfl (zaj (off := 1) (by kernel_rfl) rfl) ?_))))))
 refine zaa rfl (zam rfl (Ld.zbb hq (by kernel_rfl) rfl)) ?_
 refine zat rfl (zao (by kernel_rfl) rfl) (znF h.lg hok.at_ hok.szm) ?_
 rintro _ w9 ⟨rfl, hb9⟩
 replace h := h.new hb9
 replace hq := hq.new hb9
 replace hB := hB.acc hb9
 refine zaa rfl (zad) (zaf (zai (zax ?_)))
 refine zar [_] ⟨rfl, trivial⟩ ?_
 exact ⟨rfl, hB⟩
set_option maxRecDepth 20000 in
omit [Thing Y] in
theorem deadP (h : zbc g x q mc md rv cv Y lo L P w) : Calls Tryz.prog 25 [.pointer (some ⟨q, 0, none⟩)].toArray w (Ret fun v w' => v = .bool P.dead ∧ w = w') := by
 have hq := h.row
 unfold plV at hq
 refine zaw (fn := Tryz.f25) (rs := [.tmp 2]) (n := 11) Tryz.func25 rfl rfl Tryz.ntmps25 (by kernel_rfl) rfl ?_
 refine zak (zac (zaa rfl (zad) (zaf (zai (zak (zac (zaa rfl (zab) ?_)))))))
 refine zaa rfl (zls (by kernel_rfl) rfl rfl) ?_
 refine zaa rfl (zab) ?_
 refine zoB 5 rfl (rfl) ?_
 refine zas rfl (zaa rfl (zab) (zas rfl (zaa rfl (zal rfl) (zas rfl (zaa rfl (zaj (off := 7) (by kernel_rfl) rfl) (zas rfl ?_))))))
 refine zaa rfl (zam rfl (Ld.zbb hq (by kernel_rfl) rfl)) ?_
 refine zaa rfl (zay rfl) (zaa rfl (zad) (zaf (zai (zax ?_))))
 refine zar [_] ⟨rfl, trivial⟩ ?_
 exact ⟨rfl, rfl⟩
omit [Thing Y] in
theorem zbc.cvIs (h : zbc g x q mc md rv cv Y lo L P w) : ∃ p c, cv = .slice p P.cl.length c ∧ za9 w p P.cl.length 513 (zbT P.cl) := by
 have ho := h.own
 rcases h.own.2 with ⟨rfl, h0⟩ | ⟨gc, o, c, cur, hcv, _⟩
 ·rw [h0] at ho ⊢; exact ⟨none, 0, rfl, ho.sl⟩
 ·subst hcv; exact ⟨_, c, rfl, ho.sl⟩
set_option maxRecDepth 20000 in
theorem abortP (h : zbc g x q mc md rv cv Y lo L P w) (hok : zh2 P) : Calls Tryz.prog 14 [.pointer (some ⟨q, 0, none⟩)].toArray w (Ret fun v w' => v = .int .i64 (if P.dead then 10 else 0) ∧ zbc g x q mc md rv cv Y lo L { P with ch := if P.dead then P.ch else noP } w' ∧ LoL lo L w w') := by
 have hLL := LoL.refl lo L w
 have hrd := zfs h hok.lg.szm 0
 have hn4 := hok.n4
 obtain ⟨hml, hmL⟩ := h.mcl
 unfold zce at hrd
 have hin : (0 : Int) ≤ 0 ∧ (0 : Int) < (P.n : Int) := by omega
 rw [if_pos hin] at hrd
 have hq := h.row
 unfold plV at hq
 refine zaw (fn := Tryz.f14) (rs := [.tmp 2]) (n := 13) Tryz.func14 rfl rfl Tryz.ntmps14 (by kernel_rfl) rfl ?_
 refine zak (zac (zaa rfl (zad) (zaf (zai (zak (zak (zac (zaa rfl (zab) ?_))))))))
 refine zat rfl (zao (by kernel_rfl) rfl) (hrd) ?_
 rintro _ w5 ⟨rfl, hb5⟩
 replace h := h.new hb5
 replace hq := hq.new hb5
 replace hLL := hLL.new hb5
 refine zaa rfl (zad) (zaf (zai (zak (zac (zaa rfl (zab) ?_)))))
 refine zaa rfl (zaW rfl rfl) ?_
 refine zaf (zai ?_)
 refine zaZ rfl (fun hne => ?_) (fun hne => ?_)
 ·
  refine zak (zac (zaa rfl (zab) (zaa rfl (zad) (zaf (zai (zax (zaT ?_)))))))
  refine zar [_] ⟨rfl, trivial⟩ ?_
  have hd : P.dead = true := by
   cases hd : P.dead with
   | true => rfl
   | false => simp [hd] at hne
  rw [if_pos hd, if_pos hd]
  exact ⟨rfl, h, hLL⟩
 ·
  have hd : ¬ P.dead = true := fun hd => by simp [hd] at hne
  rw [if_neg hd, if_neg hd]
  refine zau (zai (zak (zac (zaa rfl (zab) (zaa rfl (zal rfl) (zaa rfl (zaj (off := 4) (by kernel_rfl) rfl) ?_))))))
  refine zaa rfl (zam rfl (Ld.zbb hq (by kernel_rfl) rfl)) ?_
  have hm := h.mch
  refine zaX rfl (zfI (k := 3) (e := 37) (by kernel_rfl) hm rfl (fun w901 hm ho901 => ?_))
  replace hLL := hLL.oq ho901
  have hP := h.zfK (c := noP) hm ho901
  refine zaf (zai (zak (zac (zaa rfl (zad) (zaf (zai (zax ?_)))))))
  refine zar [_] ⟨rfl, trivial⟩ ?_
  exact ⟨rfl, hP, hLL⟩
end
def frameC (fr : Nat) (R : Rec) (n : Int) (X : Pg) : Rec := if fr < (without R n ++ ([⟨n, X⟩] : Rec)).length then (without R n ++ ([⟨n, X⟩] : Rec)).drop 1 else without R n ++ [⟨n, X⟩]
theorem zgv {R : Rec} (h : zbD R) (n : Int) : zbD (without R n) := fun c hc => h c (List.mem_filter.1 hc).1
theorem zfL (R : Rec) (n : Int) : (without R n).length ≤ R.length := List.length_filter_le _ _
theorem znW {R : Rec} (h : zbD R) {n : Int} {X : Pg} (hX : X.length = 512) : zbD (R ++ [⟨n, X⟩]) := fun c hc => by
 rcases List.mem_append.1 hc with hc | hc
 ·exact h c hc
 ·rw [List.mem_singleton.1 hc]; exact hX
theorem zkb {fr : Nat} {R : Rec} (h : zbD R) (hl : R.length ≤ fr) (n : Int) {X : Pg} (hX : X.length = 512) : zbD (frameC fr R n X) ∧ (frameC fr R n X).length ≤ fr := by
 have h1 := znW (zgv h n) (n := n) hX
 have h2 := zfL R n
 unfold frameC
 split
 ·exact ⟨fun c hc => h1 c (List.mem_of_mem_drop hc), by rw [List.length_drop, List.length_append, List.length_singleton]; omega⟩
 ·exact ⟨h1, by omega⟩
section
variable {Y : World → List Nat → Prop} [Thing Y] {g x q mc md lo : Nat} {rv cv : Value} {L : List Nat} {P : Pl} {w : World}
omit [Thing Y] in
theorem zbc.zo9 (h : zbc g x q mc md rv cv Y lo L P w) (h0 : 0 < P.cl.length) : ∃ gc o c, cv = .slice (some ⟨gc, o, none⟩) P.cl.length c ∧ zeV w 0 73 513 gc o P.cl.length c (zbT P.cl) := by
 have ho := h.own
 rcases h.own.2 with ⟨_, h1⟩ | ⟨gc, o, c, cur, hcv, _⟩
 ·omega
 ·subst hcv; exact ⟨gc, o, c, rfl, ho⟩
theorem zpa (R : Rec) (hR : zbD R) (g o c : Nat) (h2 : 2 ≤ R.length) (w : World) (h : zeV w 0 73 513 g o R.length c (zbT R)) :
 Calls Tryz.prog 85 [.slice (some ⟨g, o, none⟩) R.length c, .int .i64 0, .int .i64 1].toArray w (Ret fun v w' => v = .slice (some ⟨g, o, none⟩) (R.drop 1).length c ∧ zeV w' 0 73 513 g o (R.drop 1).length c (zbT (R.drop 1)) ∧ KpB [g] w w') := deleteF R hR g o R.length c 0 rfl h2 w h
set_option maxRecDepth 20000 in
set_option maxHeartbeats 1000000 in
theorem frameP (h : zbc g x q mc md cv cv Y lo L P w) (hR : zbD P.cl) (hl : P.cl.length ≤ P.fr) (hf2 : 2 ≤ P.fr) (hfm : P.fr ≤ 100) (n : Int) (X : Pg) (hX : X.length = 512) :
   Calls Tryz.prog 60 [.pointer (some ⟨q, 0, none⟩), .int .i64 n, .agg (bv X).toArray].toArray w (Ret fun v w' => v = .tuple #[] ∧ (∃ cv', zbc g x q mc md cv' cv' Y lo L { P with cl := frameC P.fr P.cl n X } w') ∧ LoL lo L w w') := by
 have hLL := LoL.refl lo L w
 have hml : maxLen = 9223372036854775807 := by decide
 obtain ⟨hql, hqL⟩ := h.ql
 have hXb : (bv X).length = 512 := by rw [zae]; exact hX
 have hchl : (chV ⟨n, X⟩).length = 1 * 513 := zcX hX
 have hch1 := zdq ⟨n, X⟩
 have hRw := zgv hR n
 have hwl := zfL P.cl n
 have hfg := fun L' w' (h' : zbc g x q mc md cv cv Y lo L' P w') => znS h' hR n
 unfold frameC
 obtain ⟨T, hT⟩ : ∃ T, without P.cl n = T := ⟨_, rfl⟩
 simp only [hT] at hfg hRw hwl ⊢
 have hRs := znW hRw (n := n) hX
 have hTl : (T ++ [(⟨n, X⟩ : Ch)]).length = T.length + 1 := by rw [List.length_append, List.length_singleton]
 have hTp : 0 < (T ++ [(⟨n, X⟩ : Ch)]).length := by omega
 refine zaw (fn := Tryz.f60) (rs := []) (n := 39) Tryz.func60 rfl rfl Tryz.ntmps60 (by kernel_rfl) rfl ?_
 refine zak (zac ?_)
 refine zaX rfl (zca (bv X) rfl (fun g5 w5 hg5 hr5 hb5 => ?_))
 replace h := h.newc hb5 hg5 hr5.lt
 replace hLL := hLL.new hb5
 refine zaf (zai (zak (zac (zaa rfl (zab) (zaa rfl (zab) ?_)))))
 refine zat rfl (zao (by kernel_rfl) rfl) (hfg _ w5 h) ?_
 rintro _ w8 ⟨rfl, ⟨cv2, h⟩, hb8⟩
 replace hLL := hLL.lq hb8
 replace hr5 := hr5.kl hb8
 refine zaf (zai ?_)
 refine zjy (fun _ : Unit => [(0, .pointer (some ⟨q, 0, none⟩))]) (fun _ w' => (∃ cv3, zbc g x q mc md cv3 cv3 Y lo (g5 :: L) { P with cl := T ++ [⟨n, X⟩] } w') ∧ LoL lo L w w') ?_ ?_
 ·
  have hq := h.row
  have hown := h.own
  unfold plV at hq
  dsimp only at hq hown
  have hg5c : g5 ∉ cv2.ownBlock.toList := fun hm => (h.cq g5 hm).2.2.2.2 (List.mem_cons_self ..)
  have hg5q : g5 ≠ q := fun e => h.ql.2 (e ▸ List.mem_cons_self ..)
  refine zbg ((q :: cv2.ownBlock.toList)) (by kernel_rfl) ?_
  intro w901 hb901 hS901
  replace h := h.new hb901
  replace hLL := hLL.new hb901
  replace hr5 := hr5.new hb901
  replace hq := hq.new hb901
  replace hown := hown.new hb901
  have h_d901 := h
  have hLL_d901 := hLL
  have hr5_d901 := hr5
  have hq_d901 := hq
  have hown_d901 := hown
  refine zah 0 (by kernel_rfl) rfl (fun _ _ => zab) ?_
  refine zah 1 (by kernel_rfl) rfl (fun _ _ => zab) ?_
  refine zah 2 (by kernel_rfl) rfl (fun _ _ => zal rfl) ?_
  refine zah 3 (by kernel_rfl) rfl (fun _ _ => zaj (off := 6) (by kernel_rfl) rfl) ?_
  refine zah 5 (by kernel_rfl) rfl (fun _ _ => zab) ?_
  refine zah 6 (by kernel_rfl) rfl (fun w' hS' => zam rfl (Ld.zb5 (k := 512) (hr5_d901.kq hS') (by kernel_rfl) (by kernel_rfl) (by first | (simp; done) | (simp [zae, *]; done) | assumption))) ?_
  refine zah 7 (by kernel_rfl) rfl (fun _ _ => zed hX rfl rfl rfl) ?_
  refine zfT 4 8 (by kernel_rfl) ?_ ?_
  ·
   refine zgD rfl rfl (zam rfl (Ld.zbb hq (by kernel_rfl) rfl)) hS901 ?_
   refine zaS 8 (by kernel_rfl) ?_
   refine zbN rfl rfl (zci (e := 73) (.agg (chV ⟨n, X⟩).toArray) (chV ⟨n, X⟩) (([Value.int .i64 0]) ++ (List.replicate 512 (Value.int .u8 0))) 513 (by kernel_rfl) (by kernel_rfl) rfl rfl (by first | rfl | (simp; done) | (simp [zae, *]; done)) ⟨by decide, by decide⟩ (fun g17 w17 hg17 hr17 hb17 => ?_))
   have hS903 := hS901.add0 hb17
   refine ⟨hS903, ?_⟩
   have ge_hS901_g17 := Nat.le_trans hS901.size hg17
   have lt_g5_g17 : g5 < g17 := Nat.lt_of_lt_of_le hr5.lt hg17
   have lt_q_g17 : q < g17 := Nat.lt_of_lt_of_le hq.lt hg17
   replace h := h.newc hb17 hg17 hr17.lt
   replace hLL := hLL.new hb17
   replace hr5 := hr5.new hb17
   replace hq := hq.new hb17
   replace hown := hown.new hb17
   refine zaS 9 (by kernel_rfl) ?_
   have hs17 := hr17.slA (m := 1) (sz := 513) hchl (by omega)
   refine zbN rfl rfl (za7 (v := cv2) (e := 73) (sz := 513) (bytes := 520) (z := .agg (([Value.int .i64 0]) ++ (List.replicate 512 (Value.int .u8 0))).toArray) (by kernel_rfl) rfl (by kernel_rfl) rfl (by decide) rfl hown rfl hs17 hch1 (by omega) (by omega) (fun hm0 => Nat.zero_le _) (fun v18 w18 hv18 hgr18 hfr18 => ?_))
   rw [← zdN, ← hTl] at hv18
   have hgr : w17.grownBy w18 cv2.ownBlock := hgr18
   have hfr : ∀ g, v18.ownBlock = some g → cv2.ownBlock = some g ∨ w17.heap.size ≤ g := hfr18
   clear hgr18 hfr18
   have hk18 := (Kp.zba hgr).weak (N := q :: cv2.ownBlock.toList) (fun _ _ hm => List.mem_cons_of_mem _ hm)
   have hl18 := h.outC (Kp.zba hgr)
   have h2 : zbc g x q mc md cv2 v18 Y lo (g17 :: g5 :: L) { P with cl := T ++ [⟨n, X⟩] } w18 := h.zlL hv18 (Kp.zba hgr) hfr
   clear h
   have h := h2
   clear h2
   have hvi := h.zo9 hTp
   obtain ⟨gn, on, cn, hvn, hown2⟩ := hvi
   subst hvn
   replace hLL := hLL.ll (hl18.weak (L2 := L) (Nat.le_refl _) (fun b hb => by simp [hb])) (fun b hb => hb)
   replace hq := h.row
   unfold plV at hq
   have hS904 := hS903.trans hk18
   refine ⟨hS904, ?_⟩
   refine zah 10 (by kernel_rfl) rfl (fun _ _ => zal rfl) ?_
   refine zah 11 (by kernel_rfl) rfl (fun _ _ => zaj (off := 6) (by kernel_rfl) rfl) ?_
   refine zaS 12 (by kernel_rfl) ?_
   refine zdG rfl rfl (zaP rfl rfl rfl rfl hq (by kernel_rfl) (by first | (simp only [List.length_replicate]; omega) | (simp only [zaM]; omega) | (simp only [zae, List.length_set]; omega) | simp) (fun w906 hq ho906 => ?_))
   have hS905 := hS904.aq ho906
   refine ⟨hS905, ?_⟩
   replace hLL := hLL.oq ho906
   have hP := h.setRow hq ho906
   refine zaR (by kernel_rfl) ?_
   refine zbq ⟨(), ⟨rfl, rfl⟩, ⟨_, hP.weak (fun b hb => List.mem_cons_of_mem _ hb)⟩, hLL⟩
  ·
   refine zbN rfl rfl (zci (e := 73) (.agg (chV ⟨n, X⟩).toArray) (chV ⟨n, X⟩) (([Value.int .i64 0]) ++ (List.replicate 512 (Value.int .u8 0))) 513 (by kernel_rfl) (by kernel_rfl) rfl rfl (by first | rfl | (simp; done) | (simp [zae, *]; done)) ⟨by decide, by decide⟩ (fun g17 w17 hg17 hr17 hb17 => ?_))
   have hS907 := hS901.add0 hb17
   refine ⟨hS907, ?_⟩
   have ge_hS901_g17 := Nat.le_trans hS901.size hg17
   have lt_g5_g17 : g5 < g17 := Nat.lt_of_lt_of_le hr5.lt hg17
   have lt_q_g17 : q < g17 := Nat.lt_of_lt_of_le hq.lt hg17
   replace h := h.newc hb17 hg17 hr17.lt
   replace hLL := hLL.new hb17
   replace hr5 := hr5.new hb17
   replace hq := hq.new hb17
   replace hown := hown.new hb17
   refine zaS 4 (by kernel_rfl) ?_
   refine zgD rfl rfl (zam rfl (Ld.zbb hq (by kernel_rfl) rfl)) hS907 ?_
   refine zaS 9 (by kernel_rfl) ?_
   have hs17 := hr17.slA (m := 1) (sz := 513) hchl (by omega)
   refine zbN rfl rfl (za7 (v := cv2) (e := 73) (sz := 513) (bytes := 520) (z := .agg (([Value.int .i64 0]) ++ (List.replicate 512 (Value.int .u8 0))).toArray) (by kernel_rfl) rfl (by kernel_rfl) rfl (by decide) rfl hown rfl hs17 hch1 (by omega) (by omega) (fun hm0 => Nat.zero_le _) (fun v18 w18 hv18 hgr18 hfr18 => ?_))
   rw [← zdN, ← hTl] at hv18
   have hgr : w17.grownBy w18 cv2.ownBlock := hgr18
   have hfr : ∀ g, v18.ownBlock = some g → cv2.ownBlock = some g ∨ w17.heap.size ≤ g := hfr18
   clear hgr18 hfr18
   have hk18 := (Kp.zba hgr).weak (N := q :: cv2.ownBlock.toList) (fun _ _ hm => List.mem_cons_of_mem _ hm)
   have hl18 := h.outC (Kp.zba hgr)
   have h2 : zbc g x q mc md cv2 v18 Y lo (g17 :: g5 :: L) { P with cl := T ++ [⟨n, X⟩] } w18 := h.zlL hv18 (Kp.zba hgr) hfr
   clear h
   have h := h2
   clear h2
   have hvi := h.zo9 hTp
   obtain ⟨gn, on, cn, hvn, hown2⟩ := hvi
   subst hvn
   replace hLL := hLL.ll (hl18.weak (L2 := L) (Nat.le_refl _) (fun b hb => by simp [hb])) (fun b hb => hb)
   replace hq := h.row
   unfold plV at hq
   have hS909 := hS907.trans hk18
   refine ⟨hS909, ?_⟩
   refine zah 10 (by kernel_rfl) rfl (fun _ _ => zal rfl) ?_
   refine zah 11 (by kernel_rfl) rfl (fun _ _ => zaj (off := 6) (by kernel_rfl) rfl) ?_
   refine zaS 12 (by kernel_rfl) ?_
   refine zdG rfl rfl (zaP rfl rfl rfl rfl hq (by kernel_rfl) (by first | (simp only [List.length_replicate]; omega) | (simp only [zaM]; omega) | (simp only [zae, List.length_set]; omega) | simp) (fun w911 hq ho911 => ?_))
   have hS910 := hS909.aq ho911
   refine ⟨hS910, ?_⟩
   replace hLL := hLL.oq ho911
   have hP := h.setRow hq ho911
   refine zaR (by kernel_rfl) ?_
   refine zbq ⟨(), ⟨rfl, rfl⟩, ⟨_, hP.weak (fun b hb => List.mem_cons_of_mem _ hb)⟩, hLL⟩
 ·
  clear h hLL
  rintro _ f2 w2 ⟨⟨cv3, h⟩, hLL⟩
  have hq := h.row
  unfold plV at hq
  dsimp only at hq
  have hobt := h.zo9 (by dsimp only; omega)
  obtain ⟨gc, o, c, hcv, hown⟩ := hobt
  subst hcv
  dsimp only at hown
  have hcq := h.cq gc (List.mem_cons_self ..)
  have hgL : ∀ b ∈ [gc], (lo ≤ b ∧ b ∉ L) ∨ w.heap.size ≤ b := fun b hb => .inl (by rw [List.mem_singleton.1 hb]; exact ⟨hcq.2.2.2.1, fun hm => hcq.2.2.2.2 (List.mem_cons_of_mem _ hm)⟩)
  have hqg : q ≠ gc := Ne.symm hcq.1
  refine zak ?_
  refine zbg [] (by kernel_rfl) ?_
  intro w912 hb912 hS912
  replace h := h.new hb912
  replace hLL := hLL.new hb912
  replace hq := hq.new hb912
  have h_d912 := h
  have hLL_d912 := hLL
  have hq_d912 := hq
  refine zah 0 (by kernel_rfl) rfl (fun _ _ => zab) ?_
  refine zah 1 (by kernel_rfl) rfl (fun _ _ => zal rfl) ?_
  refine zah 2 (by kernel_rfl) rfl (fun _ _ => zaj (off := 6) (by kernel_rfl) rfl) ?_
  refine zah 3 (by kernel_rfl) rfl (fun w' hS' => zam rfl (Ld.zbb (hq_d912.kq hS') (by kernel_rfl) rfl)) ?_
  refine zah 4 (by kernel_rfl) rfl (fun _ _ => zaA (e := 73) (sz := 513) (by kernel_rfl) rfl rfl) ?_
  refine zah 5 (by kernel_rfl) rfl (fun _ _ => zab) ?_
  refine zah 6 (by kernel_rfl) rfl (fun _ _ => zal rfl) ?_
  refine zah 7 (by kernel_rfl) rfl (fun _ _ => zaj (off := 3) (by kernel_rfl) rfl) ?_
  refine zah 8 (by kernel_rfl) rfl (fun w' hS' => zam rfl (Ld.zbb (hq_d912.kq hS') (by kernel_rfl) rfl)) ?_
  refine zah 9 (by kernel_rfl) rfl (fun _ _ => zbU rfl rfl) ?_
  refine zaR (by kernel_rfl) ?_
  refine zai ?_
  refine zaZ rfl (fun hgt => ?_) (fun hgt => ?_)
  ·
   have hT2 : 2 ≤ (T ++ [(⟨n, X⟩ : Ch)]).length := by rw [hTl]; dsimp only at hgt; omega
   have hT3 : P.fr < (T ++ [(⟨n, X⟩ : Ch)]).length := by rw [hTl]; dsimp only at hgt; omega
   rw [if_pos hT3]
   refine zac (zaa rfl (zab) (zaa rfl (zab) (zaa rfl (zal rfl) (zaa rfl (zaj (off := 6) (by kernel_rfl) rfl) ?_))))
   refine zaa rfl (zam rfl (Ld.zbb hq (by kernel_rfl) rfl)) ?_
   have hown3 : zeV w912 0 73 513 gc o (T ++ [(⟨n, X⟩ : Ch)]).length c (zbT (T ++ [⟨n, X⟩])) := h.own
   refine zat rfl (zao (by kernel_rfl) rfl) (zpa _ hRs gc o c hT2 w912 hown3) ?_
   rintro _ w36 ⟨rfl, hown, hb36⟩
   replace h := h.zlL hown hb36.k (fun b e => Or.inl e)
   replace hLL := hLL.kpd hb36.k hgL
   replace hq := hq.kpd hb36.k (by first | (simp; done) | (simp; omega))
   refine zaa rfl (zal rfl) (zaa rfl (zaj (off := 6) (by kernel_rfl) rfl) ?_)
   refine za4 rfl (zaP rfl rfl rfl rfl hq (by kernel_rfl) (by first | (simp only [List.length_replicate]; omega) | (simp only [zaM]; omega) | (simp only [zae, List.length_set]; omega) | simp) (fun w913 hq ho913 => ?_))
   replace hLL := hLL.oq ho913
   have hP := h.setRow hq ho913
   refine zaf ?_
   refine zcx [] trivial ?_
   exact ⟨rfl, ⟨_, hP.weak (fun b hb => List.mem_cons_of_mem _ hb)⟩, hLL⟩
  ·
   rw [if_neg (by rw [hTl]; dsimp only at hgt; omega)]
   refine zau ?_
   refine zcx [] trivial ?_
   exact ⟨rfl, ⟨_, h.weak (fun b hb => List.mem_cons_of_mem _ hb)⟩, hLL⟩
end
def zbP (D : Dk) (a : Nat) : Pg := ((List.range 4).map fun i => zaB D (a + i)).flatten
theorem zis {D : Dk} {a : Nat} (h : zcG D) (hn : a + 4 ≤ D.V.length) : (zbP D a).length = 512 ∧ ∀ i, i < 4 → ((zbP D a).drop (128 * i)).take 128 = zaB D (a + i) := by
 have hs : zbV ((List.range 4).map fun i => zaB D (a + i)) := fun s hs => by
  obtain ⟨i, hi, rfl⟩ := List.mem_map.1 hs
  exact zdP h (by have := List.mem_range.1 hi; omega)
 refine ⟨by rw [zbP, zfY hs]; simp, fun i hi => ?_⟩
 have := ziV hs (i := i) (s := zaB D (a + i)) (by rw [List.getElem?_map, List.getElem?_range hi]; rfl)
 rw [Nat.mul_comm 128 i]
 exact this
def zgg (P : Pl) (n : Nat) : Pg := match P.di n with
 | some b => b
 | none => match P.cl[zez P.cl n]? with
  | some c => c.page
  | none => zbP P.D (1 + P.G.size + n * 4)
def zeJ (P : Pl) (n : Nat) : Pl := match P.di n with
 | some _ => P
 | none => { P with cl := frameC P.fr P.cl n (zgg P n) }
theorem zit {P : Pl} (hok : zh2 P) {n : Nat} (hn : n < P.n) : 1 + P.G.size + n * 4 + 4 ≤ P.D.V.length ∧ 4 ≤ P.G.size ∧ P.G.size ≤ 4000 := by
 unfold Pl.n zfr at hn
 split at hn
 ·omega
 ·rw [Int.toNat_natCast] at hn; omega
theorem zlN {P : Pl} (hok : zh2 P) (hD : zcG P.D) {n : Nat} (hn : n < P.n) : (zgg P n).length = 512 := by
 unfold zgg
 split
 ·exact hok.di _ _ ‹_›
 ·split
  ·exact hok.cl _ (List.mem_of_getElem? ‹_›)
  ·exact (zis hD (zit hok hn).1).1
theorem ld_pg {w : World} {g o n : Nat} {R : Rec} (h : za9 w (some ⟨g, o, none⟩) n 513 (zbT R)) (hR : zbD R) {i : Nat} {c : Ch} (hc : R[i]? = some c) : Ld Tryz.prog w 37 ⟨g, o + i * 513 + 1, none⟩ (.agg (bv c.page).toArray) := by
 have hi := (List.getElem?_eq_some_iff.1 hc).1
 have hl := zcg hR
 have h1 := Ld.slN (P := Tryz.prog) (t := 37) (j := i * 513 + 1) (k := 512) h (by kernel_rfl) (by kernel_rfl) (by omega)
 have h2 := zi3 hR hc
 have hp := hR c (List.mem_of_getElem? hc)
 have e : ((zbT R).drop (i * 513 + 1)).take 512 = bv c.page := by
  have e1 : (((zbT R).drop (i * 513)).take 513).drop 1 = bv c.page := by rw [h2]; rfl
  rw [List.drop_take, List.drop_drop] at e1
  exact e1
 rw [e] at h1
 exact h1
def zP : List Value := List.replicate 512 (.int .u8 0)
theorem znX (w : World) : (zeroValue 37).run Tryz.prog w = .ok (.agg zP.toArray) w := by kernel_rfl
def ze2 (X : Pg) (i : Nat) : Pg := X.take (128 * i) ++ List.replicate (512 - 128 * i) 0
theorem partP_0 (X : Pg) : bv (ze2 X 0) = zP := by
 rw [ze2, Nat.mul_zero, List.take_zero, List.nil_append, bv, List.map_replicate]
 rfl
theorem partP_4 {X : Pg} (h : X.length = 512) : ze2 X 4 = X := by
 rw [ze2, List.take_of_length_le (by omega), show 512 - 128 * 4 = 0 from rfl, List.replicate_zero, List.append_nil]
theorem znY {X : Pg} (h : X.length = 512) {i : Nat} (hi : i ≤ 4) : (ze2 X i).length = 512 := by
 rw [ze2, List.length_append, List.length_take, List.length_replicate]; omega
theorem zmz {X S : Pg} (h : X.length = 512) {i : Nat} (hi : i < 4) (hS : (X.drop (128 * i)).take 128 = S) : splice (bv (ze2 X i)) (128 * i) (bv S) = bv (ze2 X (i + 1)) := by
 have hl : (X.take (128 * i)).length = 128 * i := by rw [List.length_take]; omega
 have hSl : S.length = 128 := by rw [← hS, List.length_take, List.length_drop]; omega
 have e : splice (bv (ze2 X i)) (128 * i) (bv S) = bv ((ze2 X i).take (128 * i) ++ S ++ (ze2 X i).drop (128 * i + 128)) := by
  simp only [splice, bv, List.map_append, List.map_take, List.map_drop, List.length_map, hSl, List.append_assoc]
 have e2 : (X.take (128 * i) ++ List.replicate (512 - 128 * i) (0 : UInt8)).drop (128 * i + 128) = List.replicate (512 - (128 * i + 128)) 0 := by
  rw [List.drop_append, hl, List.drop_of_length_le (by rw [hl]; omega), List.nil_append, List.drop_replicate, show 512 - 128 * i - (128 * i + 128 - 128 * i) = 512 - (128 * i + 128) by omega]
 rw [e, ze2, List.take_left' hl, e2, ze2, show 128 * (i + 1) = 128 * i + 128 by omega, List.take_add, hS]
section
variable {Y : World → List Nat → Prop} [Thing Y] {g x q mc md lo : Nat} {rv cv : Value} {L : List Nat} {P : Pl} {w : World}
set_option maxRecDepth 20000 in
theorem zmA (h : zbc g x q mc md cv cv Y lo L P w) (hok : zh2 P) (n : Nat) (hn : n < P.n) {b : Pg} (hb : P.di n = some b) :
  Calls Tryz.prog 35 [.pointer (some ⟨q, 0, none⟩), .int .i64 (n : Int)].toArray w (Ret fun v w' => v = .tuple #[.agg (bv b).toArray, .int .i64 0] ∧ (∃ cv', zbc g x q mc md cv' cv' Y lo L P w') ∧ LoL lo L w w') := by
 have hLL := LoL.refl lo L w
 have hnl := h.nle.1
 have hbl : (bv b).length = 512 := by rw [zae]; exact hok.di n b hb
 have hmv : zeA P.di n = some (.agg (bv b).toArray) := by unfold zeA; rw [hb]; rfl
 have hq := h.row
 unfold plV at hq
 have hd := h.mdi
 have hz : zP.length = 512 := List.length_replicate
 have hz1 : ∀ v ∈ zP, Value.oneCell' v = true := fun v hv => by rw [(List.mem_replicate.1 hv).2]; rfl
 refine zaw (fn := Tryz.f35) (rs := [.cell 4 37, .tmp 5]) (n := 80) Tryz.func35 rfl rfl Tryz.ntmps35 (by kernel_rfl) rfl ?_
 refine zak (zac ?_)
 refine zaX rfl (zca ([_]) rfl (fun g3 w3 hg3 hr3 hb3 => ?_))
 have lt_q_g3 : q < g3 := Nat.lt_of_lt_of_le hq.lt hg3
 have lt_md_g3 : md < g3 := Nat.lt_of_lt_of_le hd.lt hg3
 replace h := h.newc hb3 hg3 hr3.lt
 replace hLL := hLL.new hb3
 replace hq := hq.new hb3
 replace hd := hd.new hb3
 refine zaX rfl (zaO (List.replicate 512 (Value.int .u8 0)) (by kernel_rfl) (fun g4 w4 hg4 hr4 hb4 => ?_))
 have lt_q_g4 : q < g4 := Nat.lt_of_lt_of_le hq.lt hg4
 have lt_md_g4 : md < g4 := Nat.lt_of_lt_of_le hd.lt hg4
 have lt_g3_g4 : g3 < g4 := Nat.lt_of_lt_of_le hr3.lt hg4
 replace h := h.newc hb4 hg4 hr4.lt
 replace hLL := hLL.new hb4
 replace hq := hq.new hb4
 replace hd := hd.new hb4
 replace hr3 := hr3.new hb4
 refine zaa rfl (zad) (zaf (zai (zak (zak ?_))))
 refine zbg [] (by kernel_rfl) ?_
 intro w901 hb901 hS901
 replace h := h.new hb901
 replace hLL := hLL.new hb901
 replace hq := hq.new hb901
 replace hd := hd.new hb901
 replace hr3 := hr3.new hb901
 replace hr4 := hr4.new hb901
 have h_d901 := h
 have hLL_d901 := hLL
 have hq_d901 := hq
 have hd_d901 := hd
 have hr3_d901 := hr3
 have hr4_d901 := hr4
 refine zah 0 (by kernel_rfl) rfl (fun _ _ => zab) ?_
 refine zah 1 (by kernel_rfl) rfl (fun _ _ => zal rfl) ?_
 refine zah 2 (by kernel_rfl) rfl (fun _ _ => zaj (off := 5) (by kernel_rfl) rfl) ?_
 refine zah 3 (by kernel_rfl) rfl (fun w' hS' => zam rfl (Ld.zbb (hq_d901.kq hS') (by kernel_rfl) rfl)) ?_
 refine zah 4 (by kernel_rfl) rfl (fun w' hS' => zam rfl (Ld.zbb (hr3_d901.kq hS') (by kernel_rfl) rfl)) ?_
 refine zah 5 (by kernel_rfl) rfl (fun w' hS' => zee (k := 3) (e := 37) (.agg zP.toArray) (some (.agg (bv b).toArray)) (by kernel_rfl) (by kernel_rfl) znX (hd_d901.kpd hS' (by first | (simp; done) | (simp; omega) | (simp [*]; done) | exact zaH (Or.inl (by omega)) | exact zaH (Or.inr (by simp)) | exact fun g hm => Nat.le_trans (by omega) (zel hm).1 | (intro b o e; cases e; exact zaH (Or.inl (by omega))) | (intro b hm; have := (hu.lt b (Option.mem_toList.1 hm)).1; omega) | (intro b o e; cases e; intro hm; have := (hu.lt _ (Option.mem_toList.1 hm)).1; omega))) rfl rfl n rfl hn (by omega) hmv) ?_
 refine zah 6 (by kernel_rfl) rfl (fun _ _ => zab) ?_
 refine zah 7 (by kernel_rfl) rfl (fun _ _ => zan rfl rfl) ?_
 refine zah 8 (by kernel_rfl) rfl (fun _ _ => zan rfl rfl) ?_
 refine zaS 9 (by kernel_rfl) ?_
 refine zbN rfl rfl (zaO (List.replicate 512 (Value.int .u8 0)) (by kernel_rfl) (fun g6 w6 hg6 hr6 hb6 => ?_))
 have hS902 := hS901.add0 hb6
 refine ⟨hS902, ?_⟩
 have ge_hS901_g6 := Nat.le_trans hS901.size hg6
 have lt_q_g6 : q < g6 := Nat.lt_of_lt_of_le hq.lt hg6
 have lt_md_g6 : md < g6 := Nat.lt_of_lt_of_le hd.lt hg6
 have lt_g3_g6 : g3 < g6 := Nat.lt_of_lt_of_le hr3.lt hg6
 have lt_g4_g6 : g4 < g6 := Nat.lt_of_lt_of_le hr4.lt hg6
 replace h := h.newc hb6 hg6 hr6.lt
 replace hLL := hLL.new hb6
 replace hq := hq.new hb6
 replace hd := hd.new hb6
 replace hr3 := hr3.new hb6
 replace hr4 := hr4.new hb6
 refine zaS 10 (by kernel_rfl) ?_
 refine zdG rfl rfl (zav 512 (bv b) rfl rfl hr6 (by kernel_rfl) (by first | assumption | (simp; done) | (simp [zae, *]; done)) (by first | assumption | (simp; done) | (simp [zae, *]; done) | rfl) (by first | exact zaL _ | assumption | (simp [Value.oneCell']; done)) (fun w904 hr6 ho904 => ?_))
 have hS903 := hS902.aq ho904
 refine ⟨hS903, ?_⟩
 replace h := h.only ho904 (by first | (right; simp; done) | (left; omega))
 replace hLL := hLL.oq ho904
 replace hq := hq.only ho904 (Nat.ne_of_lt lt_q_g6)
 replace hd := hd.only ho904 (Nat.ne_of_lt lt_md_g6)
 replace hr3 := hr3.only ho904 (Nat.ne_of_lt lt_g3_g6)
 replace hr4 := hr4.only ho904 (Nat.ne_of_lt lt_g4_g6)
 refine zah 11 (by kernel_rfl) rfl (fun _ _ => zad) ?_
 refine zaR (by kernel_rfl) ?_
 refine zai (zak (zac (zaa rfl (zab) (zaf (zai ?_)))))
 refine zkB rfl (rfl) ?_
 refine zak (zac ?_)
 refine zaa rfl (zam rfl (Ld.zb5 (k := 512) hr6 (by kernel_rfl) (by kernel_rfl) (by first | (simp; done) | (simp [zae, *]; done) | assumption))) ?_
 refine za4 rfl (zav 512 (bv b) rfl rfl hr4 (by kernel_rfl) (by first | assumption | (simp; done) | (simp [zae, *]; done)) (by first | assumption | (simp; done) | (simp [zae, *]; done) | rfl) (by first | exact zaL _ | assumption | (simp [Value.oneCell']; done)) (fun w905 hr4 ho905 => ?_))
 replace h := h.only ho905 (by first | (right; simp; done) | (left; omega))
 replace hLL := hLL.oq ho905
 replace hq := hq.only ho905 (Nat.ne_of_lt lt_q_g4)
 replace hd := hd.only ho905 (Nat.ne_of_lt lt_md_g4)
 replace hr3 := hr3.only ho905 (Nat.ne_of_lt lt_g3_g4)
 replace hr6 := hr6.only ho905 (Nat.ne_of_gt lt_g4_g6)
 refine zaa rfl (zad) (zaf (zai (zax (zaT ?_))))
 refine zar [_, _] ⟨⟨_, rfl, Ld.zb5 (k := 512) hr4 (by kernel_rfl) (by kernel_rfl) (by first | (simp; done) | (simp [zae, *]; done) | assumption)⟩, rfl, trivial⟩ ?_
 exact ⟨rfl, ⟨_, h.weak (fun b hb => by simp [hb])⟩, hLL⟩
set_option maxRecDepth 20000 in
theorem zmB (h : zbc g x q mc md cv cv Y lo L P w) (hok : zh2 P) (n : Nat) (hn : n < P.n) (hb : P.di n = none) {c : Ch} (hc : P.cl[zez P.cl n]? = some c) :
  Calls Tryz.prog 35 [.pointer (some ⟨q, 0, none⟩), .int .i64 (n : Int)].toArray w (Ret fun v w' => v = .tuple #[.agg (bv c.page).toArray, .int .i64 0] ∧ (∃ cv', zbc g x q mc md cv' cv' Y lo L { P with cl := frameC P.fr P.cl n c.page } w') ∧ LoL lo L w w') := by
 have hLL := LoL.refl lo L w
 have hnl := h.nle.1
 have hil := (List.getElem?_eq_some_iff.1 hc).1
 have hcl := hok.cl c (List.mem_of_getElem? hc)
 have hbl : (bv c.page).length = 512 := by rw [zae]; exact hcl
 have hmv : zeA P.di n = none := by unfold zeA; rw [hb]; rfl
 have hq := h.row
 unfold plV at hq
 have hd := h.mdi
 have hz : zP.length = 512 := List.length_replicate
 have hz1 : ∀ v ∈ zP, Value.oneCell' v = true := fun v hv => by rw [(List.mem_replicate.1 hv).2]; rfl
 have hix := fun p cc w' (h : za9 w' p P.cl.length 513 (zbT P.cl)) b (hb : row w' b [.int .i64 (n : Int)] 3) => indexA P.cl hok.cl p cc P.cl.length rfl b n w' h hb
 simp only [if_pos hil] at hix
 obtain ⟨gc, oc, cc, hcv, hown0⟩ := h.zo9 (by omega)
 subst hcv
 refine zaw (fn := Tryz.f35) (rs := [.cell 4 37, .tmp 5]) (n := 80) Tryz.func35 rfl rfl Tryz.ntmps35 (by kernel_rfl) rfl ?_
 refine zak (zac ?_)
 refine zaX rfl (zca ([_]) rfl (fun g3 w3 hg3 hr3 hb3 => ?_))
 have lt_q_g3 : q < g3 := Nat.lt_of_lt_of_le hq.lt hg3
 have lt_md_g3 : md < g3 := Nat.lt_of_lt_of_le hd.lt hg3
 replace h := h.newc hb3 hg3 hr3.lt
 replace hLL := hLL.new hb3
 replace hq := hq.new hb3
 replace hd := hd.new hb3
 refine zaX rfl (zaO (List.replicate 512 (Value.int .u8 0)) (by kernel_rfl) (fun g4 w4 hg4 hr4 hb4 => ?_))
 have lt_q_g4 : q < g4 := Nat.lt_of_lt_of_le hq.lt hg4
 have lt_md_g4 : md < g4 := Nat.lt_of_lt_of_le hd.lt hg4
 have lt_g3_g4 : g3 < g4 := Nat.lt_of_lt_of_le hr3.lt hg4
 replace h := h.newc hb4 hg4 hr4.lt
 replace hLL := hLL.new hb4
 replace hq := hq.new hb4
 replace hd := hd.new hb4
 replace hr3 := hr3.new hb4
 refine zaa rfl (zad) (zaf (zai (zak (zak ?_))))
 refine zbg [] (by kernel_rfl) ?_
 intro w901 hb901 hS901
 replace h := h.new hb901
 replace hLL := hLL.new hb901
 replace hq := hq.new hb901
 replace hd := hd.new hb901
 replace hr3 := hr3.new hb901
 replace hr4 := hr4.new hb901
 have h_d901 := h
 have hLL_d901 := hLL
 have hq_d901 := hq
 have hd_d901 := hd
 have hr3_d901 := hr3
 have hr4_d901 := hr4
 refine zah 0 (by kernel_rfl) rfl (fun _ _ => zab) ?_
 refine zah 1 (by kernel_rfl) rfl (fun _ _ => zal rfl) ?_
 refine zah 2 (by kernel_rfl) rfl (fun _ _ => zaj (off := 5) (by kernel_rfl) rfl) ?_
 refine zah 3 (by kernel_rfl) rfl (fun w' hS' => zam rfl (Ld.zbb (hq_d901.kq hS') (by kernel_rfl) rfl)) ?_
 refine zah 4 (by kernel_rfl) rfl (fun w' hS' => zam rfl (Ld.zbb (hr3_d901.kq hS') (by kernel_rfl) rfl)) ?_
 refine zah 5 (by kernel_rfl) rfl (fun w' hS' => zee (k := 3) (e := 37) (.agg zP.toArray) none (by kernel_rfl) (by kernel_rfl) znX (hd_d901.kpd hS' (by first | (simp; done) | (simp; omega) | (simp [*]; done) | exact zaH (Or.inl (by omega)) | exact zaH (Or.inr (by simp)) | exact fun g hm => Nat.le_trans (by omega) (zel hm).1 | (intro b o e; cases e; exact zaH (Or.inl (by omega))) | (intro b hm; have := (hu.lt b (Option.mem_toList.1 hm)).1; omega) | (intro b o e; cases e; intro hm; have := (hu.lt _ (Option.mem_toList.1 hm)).1; omega))) rfl rfl n rfl hn (by omega) hmv) ?_
 refine zah 6 (by kernel_rfl) rfl (fun _ _ => zab) ?_
 refine zah 7 (by kernel_rfl) rfl (fun _ _ => zan rfl rfl) ?_
 refine zah 8 (by kernel_rfl) rfl (fun _ _ => zan rfl rfl) ?_
 refine zaS 9 (by kernel_rfl) ?_
 refine zbN rfl rfl (zaO (List.replicate 512 (Value.int .u8 0)) (by kernel_rfl) (fun g6 w6 hg6 hr6 hb6 => ?_))
 have hS902 := hS901.add0 hb6
 refine ⟨hS902, ?_⟩
 have ge_hS901_g6 := Nat.le_trans hS901.size hg6
 have lt_q_g6 : q < g6 := Nat.lt_of_lt_of_le hq.lt hg6
 have lt_md_g6 : md < g6 := Nat.lt_of_lt_of_le hd.lt hg6
 have lt_g3_g6 : g3 < g6 := Nat.lt_of_lt_of_le hr3.lt hg6
 have lt_g4_g6 : g4 < g6 := Nat.lt_of_lt_of_le hr4.lt hg6
 replace h := h.newc hb6 hg6 hr6.lt
 replace hLL := hLL.new hb6
 replace hq := hq.new hb6
 replace hd := hd.new hb6
 replace hr3 := hr3.new hb6
 replace hr4 := hr4.new hb6
 refine zaS 10 (by kernel_rfl) ?_
 refine zdG rfl rfl (zav 512 (zP) rfl rfl hr6 (by kernel_rfl) (by first | assumption | (simp; done) | (simp [zae, *]; done)) (by first | assumption | (simp; done) | (simp [zae, *]; done) | rfl) (by first | exact zaL _ | assumption | (simp [Value.oneCell']; done)) (fun w904 hr6 ho904 => ?_))
 have hS903 := hS902.aq ho904
 refine ⟨hS903, ?_⟩
 replace h := h.only ho904 (by first | (right; simp; done) | (left; omega))
 replace hLL := hLL.oq ho904
 replace hq := hq.only ho904 (Nat.ne_of_lt lt_q_g6)
 replace hd := hd.only ho904 (Nat.ne_of_lt lt_md_g6)
 replace hr3 := hr3.only ho904 (Nat.ne_of_lt lt_g3_g6)
 replace hr4 := hr4.only ho904 (Nat.ne_of_lt lt_g4_g6)
 refine zah 11 (by kernel_rfl) rfl (fun _ _ => zad) ?_
 refine zaR (by kernel_rfl) ?_
 refine zai (zak (zac (zaa rfl (zab) (zaf (zai ?_)))))
 refine zln rfl (rfl) ?_
 refine zau (zai (zak (zak (zac (zaa rfl (zab) (zaa rfl (zal rfl) (zaa rfl (zaj (off := 6) (by kernel_rfl) rfl) ?_)))))))
 refine zaa rfl (zam rfl (Ld.zbb hq (by kernel_rfl) rfl)) ?_
 refine zaa rfl (zcI) ?_
 refine zat rfl (zao (by kernel_rfl) rfl) (hix _ _ w904 h.own.sl _ hr3) ?_
 rintro _ w28 ⟨rfl, hb28⟩
 replace h := h.new hb28
 replace hLL := hLL.new hb28
 replace hq := hq.new hb28
 replace hd := hd.new hb28
 replace hr3 := hr3.new hb28
 replace hr4 := hr4.new hb28
 replace hr6 := hr6.new hb28
 refine zaa rfl (zad) (zaf (zai (zak (zac (zaa rfl (zab) ?_)))))
 refine zaa rfl (zeR rfl rfl) ?_
 refine zaf (zai ?_)
 refine zkt rfl ((by omega)) ?_
 refine zak (zac (zaa rfl (zab) (zaa rfl (zal rfl) (zaa rfl (zaj (off := 6) (by kernel_rfl) rfl) ?_))))
 refine zaa rfl (zam rfl (Ld.zbb hq (by kernel_rfl) rfl)) ?_
 refine zaa rfl (zab) ?_
 refine zaa rfl (zaQ (e := 73) (sz := 513) (by kernel_rfl) rfl rfl (zez P.cl n) (by omega) (by omega)) ?_
 refine zaa rfl (zaj (off := 1) (by kernel_rfl) rfl) ?_
 refine zaa rfl (zam rfl (ld_pg h.own.sl hok.cl hc)) ?_
 refine za4 rfl (zav 512 (bv c.page) rfl rfl hr4 (by kernel_rfl) (by first | assumption | (simp; done) | (simp [zae, *]; done)) (by first | assumption | (simp; done) | (simp [zae, *]; done) | rfl) (by first | exact zaL _ | assumption | (simp [Value.oneCell']; done)) (fun w905 hr4 ho905 => ?_))
 replace h := h.only ho905 (by first | (right; simp; done) | (left; omega))
 replace hLL := hLL.oq ho905
 replace hq := hq.only ho905 (Nat.ne_of_lt lt_q_g4)
 replace hd := hd.only ho905 (Nat.ne_of_lt lt_md_g4)
 replace hr3 := hr3.only ho905 (Nat.ne_of_lt lt_g3_g4)
 replace hr6 := hr6.only ho905 (Nat.ne_of_gt lt_g4_g6)
 refine zaf (zai (zak (zac (zaa rfl (zab) ?_))))
 refine zaa rfl (zam rfl (Ld.zbb hr3 (by kernel_rfl) rfl)) ?_
 refine zaa rfl (zam rfl (Ld.zb5 (k := 512) hr4 (by kernel_rfl) (by kernel_rfl) (by first | (simp; done) | (simp [zae, *]; done) | assumption))) ?_
 refine zat rfl (zao (by kernel_rfl) rfl) (frameP h hok.cl hok.cll hok.fr2 hok.frm n c.page hcl) ?_
 rintro _ w42 ⟨rfl, ⟨cv2, h⟩, hb42⟩
 replace hLL := hLL.lq hb42
 replace hr3 := hr3.kl hb42
 replace hr4 := hr4.kl hb42
 refine zaf (zai (zak (zac ?_)))
 refine zaa rfl (zam rfl (Ld.zb5 (k := 512) hr4 (by kernel_rfl) (by kernel_rfl) (by first | (simp; done) | (simp [zae, *]; done) | assumption))) ?_
 refine za4 rfl (zav 512 (bv c.page) rfl rfl hr4 (by kernel_rfl) (by first | assumption | (simp; done) | (simp [zae, *]; done)) (by first | assumption | (simp; done) | (simp [zae, *]; done) | rfl) (by first | exact zaL _ | assumption | (simp [Value.oneCell']; done)) (fun w906 hr4 ho906 => ?_))
 replace h := h.only ho906 (by first | (right; simp; done) | (left; omega))
 replace hLL := hLL.oq ho906
 replace hr3 := hr3.only ho906 (Nat.ne_of_lt lt_g3_g4)
 refine zaa rfl (zad) (zaf (zai (zax (zaT ?_))))
 refine zar [_, _] ⟨⟨_, rfl, Ld.zb5 (k := 512) hr4 (by kernel_rfl) (by kernel_rfl) (by first | (simp; done) | (simp [zae, *]; done) | assumption)⟩, rfl, trivial⟩ ?_
 exact ⟨rfl, ⟨_, h.weak (fun b hb => by simp [hb])⟩, hLL⟩
set_option maxRecDepth 20000 in
theorem zmC (h : zbc g x q mc md cv cv Y lo L P w) (hok : zh2 P) (n : Nat) (hn : n < P.n) (hb : P.di n = none) (hc : P.cl[zez P.cl n]? = none) :
   Calls Tryz.prog 35 [.pointer (some ⟨q, 0, none⟩), .int .i64 (n : Int)].toArray w (Ret fun v w' => v = .tuple #[.agg (bv (zbP P.D (1 + P.G.size + n * 4))).toArray, .int .i64 0] ∧ (∃ cv', zbc g x q mc md cv' cv' Y lo L { P with cl := frameC P.fr P.cl n (zbP P.D (1 + P.G.size + n * 4)) } w') ∧ LoL lo L w w') := by
 have hLL := LoL.refl lo L w
 have hnl := h.nle
 have hml : maxLen = 9223372036854775807 := by decide
 have hil := List.getElem?_eq_none_iff.1 hc
 have hmv : zeA P.di n = none := by unfold zeA; rw [hb]; rfl
 have hq := h.row
 unfold plV at hq
 have hd := h.mdi
 have hz : zP.length = 512 := List.length_replicate
 have hz1 : ∀ v ∈ zP, Value.oneCell' v = true := fun v hv => by rw [(List.mem_replicate.1 hv).2]; rfl
 have hix := fun p cc w' (h : za9 w' p P.cl.length 513 (zbT P.cl)) b (hb : row w' b [.int .i64 (n : Int)] 3) => indexA P.cl hok.cl p cc P.cl.length rfl b n w' h hb
 simp only [if_neg (show ¬ zez P.cl n < P.cl.length by omega)] at hix
 obtain ⟨hrm, hs4, hsm⟩ := zit hok hn
 have hpl := fun w' => placeP P.G.size n w' hsm (by omega)
 obtain ⟨a, ha⟩ : ∃ a, 1 + P.G.size + n * 4 = a := ⟨_, rfl⟩
 rw [ha] at hpl hrm ⊢
 have hDk := (tOk h.lg.fst).1
 obtain ⟨hXl, hXs⟩ := zis hDk hrm
 have hrd := fun (i : Nat) (hi : i < 4) L' w' (h' : zbc g x q mc md cv cv Y lo L' P w') => tRead h'.lg.fst ((a : Int) + (i : Int))
 obtain ⟨pc, cc, hcv, hcs⟩ := h.cvIs
 subst hcv
 obtain ⟨X, hX⟩ : ∃ X, zbP P.D a = X := ⟨_, rfl⟩
 rw [hX] at hXl hXs ⊢
 have hXb : (bv X).length = 512 := by rw [zae]; exact hXl
 refine zaw (fn := Tryz.f35) (rs := [.cell 4 37, .tmp 5]) (n := 80) Tryz.func35 rfl rfl Tryz.ntmps35 (by kernel_rfl) rfl ?_
 refine zak (zac ?_)
 refine zaX rfl (zca ([_]) rfl (fun g3 w3 hg3 hr3 hb3 => ?_))
 have lt_q_g3 : q < g3 := Nat.lt_of_lt_of_le hq.lt hg3
 have lt_md_g3 : md < g3 := Nat.lt_of_lt_of_le hd.lt hg3
 replace h := h.newc hb3 hg3 hr3.lt
 replace hLL := hLL.new hb3
 replace hq := hq.new hb3
 replace hd := hd.new hb3
 refine zaX rfl (zaO (List.replicate 512 (Value.int .u8 0)) (by kernel_rfl) (fun g4 w4 hg4 hr4 hb4 => ?_))
 have lt_q_g4 : q < g4 := Nat.lt_of_lt_of_le hq.lt hg4
 have lt_md_g4 : md < g4 := Nat.lt_of_lt_of_le hd.lt hg4
 have lt_g3_g4 : g3 < g4 := Nat.lt_of_lt_of_le hr3.lt hg4
 replace h := h.newc hb4 hg4 hr4.lt
 replace hLL := hLL.new hb4
 replace hq := hq.new hb4
 replace hd := hd.new hb4
 replace hr3 := hr3.new hb4
 refine zaa rfl (zad) (zaf (zai (zak (zak ?_))))
 refine zbg [] (by kernel_rfl) ?_
 intro w901 hb901 hS901
 replace h := h.new hb901
 replace hLL := hLL.new hb901
 replace hq := hq.new hb901
 replace hd := hd.new hb901
 replace hr3 := hr3.new hb901
 replace hr4 := hr4.new hb901
 have h_d901 := h
 have hLL_d901 := hLL
 have hq_d901 := hq
 have hd_d901 := hd
 have hr3_d901 := hr3
 have hr4_d901 := hr4
 refine zah 0 (by kernel_rfl) rfl (fun _ _ => zab) ?_
 refine zah 1 (by kernel_rfl) rfl (fun _ _ => zal rfl) ?_
 refine zah 2 (by kernel_rfl) rfl (fun _ _ => zaj (off := 5) (by kernel_rfl) rfl) ?_
 refine zah 3 (by kernel_rfl) rfl (fun w' hS' => zam rfl (Ld.zbb (hq_d901.kq hS') (by kernel_rfl) rfl)) ?_
 refine zah 4 (by kernel_rfl) rfl (fun w' hS' => zam rfl (Ld.zbb (hr3_d901.kq hS') (by kernel_rfl) rfl)) ?_
 refine zah 5 (by kernel_rfl) rfl (fun w' hS' => zee (k := 3) (e := 37) (.agg zP.toArray) none (by kernel_rfl) (by kernel_rfl) znX (hd_d901.kpd hS' (by first | (simp; done) | (simp; omega) | (simp [*]; done) | exact zaH (Or.inl (by omega)) | exact zaH (Or.inr (by simp)) | exact fun g hm => Nat.le_trans (by omega) (zel hm).1 | (intro b o e; cases e; exact zaH (Or.inl (by omega))) | (intro b hm; have := (hu.lt b (Option.mem_toList.1 hm)).1; omega) | (intro b o e; cases e; intro hm; have := (hu.lt _ (Option.mem_toList.1 hm)).1; omega))) rfl rfl n rfl hn (by omega) hmv) ?_
 refine zah 6 (by kernel_rfl) rfl (fun _ _ => zab) ?_
 refine zah 7 (by kernel_rfl) rfl (fun _ _ => zan rfl rfl) ?_
 refine zah 8 (by kernel_rfl) rfl (fun _ _ => zan rfl rfl) ?_
 refine zaS 9 (by kernel_rfl) ?_
 refine zbN rfl rfl (zaO (List.replicate 512 (Value.int .u8 0)) (by kernel_rfl) (fun g6 w6 hg6 hr6 hb6 => ?_))
 have hS902 := hS901.add0 hb6
 refine ⟨hS902, ?_⟩
 have ge_hS901_g6 := Nat.le_trans hS901.size hg6
 have lt_q_g6 : q < g6 := Nat.lt_of_lt_of_le hq.lt hg6
 have lt_md_g6 : md < g6 := Nat.lt_of_lt_of_le hd.lt hg6
 have lt_g3_g6 : g3 < g6 := Nat.lt_of_lt_of_le hr3.lt hg6
 have lt_g4_g6 : g4 < g6 := Nat.lt_of_lt_of_le hr4.lt hg6
 replace h := h.newc hb6 hg6 hr6.lt
 replace hLL := hLL.new hb6
 replace hq := hq.new hb6
 replace hd := hd.new hb6
 replace hr3 := hr3.new hb6
 replace hr4 := hr4.new hb6
 refine zaS 10 (by kernel_rfl) ?_
 refine zdG rfl rfl (zav 512 (zP) rfl rfl hr6 (by kernel_rfl) (by first | assumption | (simp; done) | (simp [zae, *]; done)) (by first | assumption | (simp; done) | (simp [zae, *]; done) | rfl) (by first | exact zaL _ | assumption | (simp [Value.oneCell']; done)) (fun w904 hr6 ho904 => ?_))
 have hS903 := hS902.aq ho904
 refine ⟨hS903, ?_⟩
 replace h := h.only ho904 (by first | (right; simp; done) | (left; omega))
 replace hLL := hLL.oq ho904
 replace hq := hq.only ho904 (Nat.ne_of_lt lt_q_g6)
 replace hd := hd.only ho904 (Nat.ne_of_lt lt_md_g6)
 replace hr3 := hr3.only ho904 (Nat.ne_of_lt lt_g3_g6)
 replace hr4 := hr4.only ho904 (Nat.ne_of_lt lt_g4_g6)
 refine zah 11 (by kernel_rfl) rfl (fun _ _ => zad) ?_
 refine zaR (by kernel_rfl) ?_
 refine zai (zak (zac (zaa rfl (zab) (zaf (zai ?_)))))
 refine zln rfl (rfl) ?_
 refine zau (zai (zak (zak (zac (zaa rfl (zab) (zaa rfl (zal rfl) (zaa rfl (zaj (off := 6) (by kernel_rfl) rfl) ?_)))))))
 refine zaa rfl (zam rfl (Ld.zbb hq (by kernel_rfl) rfl)) ?_
 refine zaa rfl (zcI) ?_
 refine zat rfl (zao (by kernel_rfl) rfl) (hix _ _ w904 h.own.sl _ hr3) ?_
 rintro _ w28 ⟨rfl, hb28⟩
 replace h := h.new hb28
 replace hLL := hLL.new hb28
 replace hq := hq.new hb28
 replace hd := hd.new hb28
 replace hr3 := hr3.new hb28
 replace hr4 := hr4.new hb28
 replace hr6 := hr6.new hb28
 refine zaa rfl (zad) (zaf (zai (zak (zac (zaa rfl (zab) ?_)))))
 refine zaa rfl (zeR rfl rfl) ?_
 refine zaf (zai ?_)
 refine zdT rfl ((by omega)) ?_
 refine zau (zai (zak (zak (zac (zaa rfl (zab) (zaf (zai (zaD ?_))))))))
 have hr4z : row w28 g4 (bv (ze2 X 0)) 37 := by rw [partP_0]; exact hr4
 refine zbF (α := Nat) 0 (fun i => [(44, .int .i64 (i : Nat)), (0, .pointer (some ⟨q, 0, none⟩)), (3, .pointer (some ⟨g3, 0, none⟩)), (4, .pointer (some ⟨g4, 0, none⟩))])
   (fun i w' => i ≤ 4 ∧ row w' g4 (bv (ze2 X i)) 37 ∧ row w' g3 [.int .i64 (n : Int)] 3 ∧ zbc g x q mc md (.slice pc P.cl.length cc) (.slice pc P.cl.length cc) Y lo (g4 :: g3 :: L) P w' ∧ LoL lo L w w') (fun i => 4 - i)
   ⟨rfl, rfl, rfl, rfl, rfl⟩ ⟨Nat.zero_le _, hr4z, hr3, h.weak (fun b hb => by simp at hb; simp [hb]), hLL⟩ ?_
 clear h hLL hq hd hr3 hr4 hr4z
 rintro i f wr ⟨hi, hr4, hr3, h, hLL⟩
 have hq := h.row
 unfold plV at hq
 refine zak (zac ?_)
 refine zaa rfl (zbd rfl rfl) ?_
 refine zaf (zai (zak ?_))
 refine zaZ rfl (fun hlt => ?_) (fun hlt => ?_)
 ·
  refine zau (zai (zak (zaD (zak ?_))))
  have hobS : ∃ S, (X.drop (128 * i)).take 128 = S := ⟨_, rfl⟩
  obtain ⟨S, hS⟩ := hobS
  have hin : inD P.D ((a : Int) + (i : Int)) = true := decide_eq_true (by omega)
  have hrdi := hrd i (by omega)
  rw [hin, if_pos rfl, if_pos rfl, show ((a : Int) + (i : Int)).toNat = a + i by omega, ← hXs i (by omega), hS] at hrdi
  have hSl : S.length = 128 := by rw [← hS, List.length_take, List.length_drop]; omega
  have hSb : (bv S).length = 128 := by rw [zae]; exact hSl
  have hst := zmz hXl (by omega) hS
  have hpb := znY hXl (i := i) (by omega)
  have hpb2 : (bv (ze2 X i)).length = 512 := by rw [zae]; exact hpb
  have hg3l := hr3.lt
  have hg4l := hr4.lt
  refine zac (zaa rfl (zab) (zaa rfl (zad) (zaf (zai ?_))))
  refine zjy (fun g10 : Nat => [(44, .int .i64 (i : Nat)), (9, .int .i64 (i : Nat)), (10, .pointer (some ⟨g10, 0, none⟩)), (11, .int .i64 0), (0, .pointer (some ⟨q, 0, none⟩)), (3, .pointer (some ⟨g3, 0, none⟩)), (4, .pointer (some ⟨g4, 0, none⟩))]) (fun g10 w' => row w' g10 (bv S) 94 ∧ row w' g4 (bv (ze2 X i)) 37 ∧ row w' g3 [.int .i64 (n : Int)] 3 ∧ zbc g x q mc md (.slice pc P.cl.length cc) (.slice pc P.cl.length cc) Y lo (g10 :: g4 :: g3 :: L) P w' ∧ LoL lo L w w' ∧ g4 < g10 ∧ g3 < g10) ?_ ?_
  ·
   refine zbg [] (by kernel_rfl) ?_
   intro w905 hb905 hS905
   replace h := h.new hb905
   replace hLL := hLL.new hb905
   replace hq := hq.new hb905
   replace hr3 := hr3.new hb905
   replace hr4 := hr4.new hb905
   have h_d905 := h
   have hLL_d905 := hLL
   have hq_d905 := hq
   have hr3_d905 := hr3
   have hr4_d905 := hr4
   refine zah 0 (by kernel_rfl) rfl (fun _ _ => zab) ?_
   refine zah 1 (by kernel_rfl) rfl (fun _ _ => zal rfl) ?_
   refine zah 2 (by kernel_rfl) rfl (fun _ _ => zaj (off := 0) (by kernel_rfl) rfl) ?_
   refine zah 3 (by kernel_rfl) rfl (fun w' hS' => zam rfl (Ld.zbb (hq_d905.kq hS') (by kernel_rfl) rfl)) ?_
   refine zah 4 (by kernel_rfl) rfl (fun _ _ => zab) ?_
   refine zah 5 (by kernel_rfl) rfl (fun _ _ => zal rfl) ?_
   refine zah 6 (by kernel_rfl) rfl (fun _ _ => zaj (off := 2) (by kernel_rfl) rfl) ?_
   refine zah 7 (by kernel_rfl) rfl (fun w' hS' => zam rfl (Ld.zbb (hq_d905.kq hS') (by kernel_rfl) rfl)) ?_
   refine zah 8 (by kernel_rfl) rfl (fun w' hS' => zam rfl (Ld.zbb (hr3_d905.kq hS') (by kernel_rfl) rfl)) ?_
   refine zdF 9 (by kernel_rfl) rfl (fun _ => zao (by kernel_rfl) rfl) (fun w' hS' => hpl w') ?_
   refine zah 10 (by kernel_rfl) rfl (fun _ _ => zab) ?_
   refine zah 11 (by kernel_rfl) rfl (fun _ _ => zaV rfl rfl (Coup.w64 (by omega))) ?_
   refine zfT 12 16 (by kernel_rfl) ?_ ?_
   ·
    refine zcq rfl rfl (zao (by kernel_rfl) rfl) (hrdi _ w905 h) ?_
    rintro _ w60 ⟨rfl, hb60⟩
    have hS906 := hS905.add0 hb60
    refine ⟨hS906, ?_⟩
    replace h := h.new hb60
    replace hLL := hLL.new hb60
    replace hq := hq.new hb60
    replace hr3 := hr3.new hb60
    replace hr4 := hr4.new hb60
    refine zah 13 (by kernel_rfl) rfl (fun _ _ => zab) ?_
    refine zah 14 (by kernel_rfl) rfl (fun _ _ => zan rfl rfl) ?_
    refine zah 15 (by kernel_rfl) rfl (fun _ _ => zan rfl rfl) ?_
    refine zaS 16 (by kernel_rfl) ?_
    refine zbN rfl rfl (zaO (List.replicate 128 (Value.int .u8 0)) (by kernel_rfl) (fun g10 w10 hg10 hr10 hb10 => ?_))
    have hS907 := hS906.add0 hb10
    refine ⟨hS907, ?_⟩
    have ge_hS906_g10 := Nat.le_trans hS906.size hg10
    have lt_q_g10 : q < g10 := Nat.lt_of_lt_of_le hq.lt hg10
    have lt_g3_g10 : g3 < g10 := Nat.lt_of_lt_of_le hr3.lt hg10
    have lt_g4_g10 : g4 < g10 := Nat.lt_of_lt_of_le hr4.lt hg10
    replace h := h.newc hb10 hg10 hr10.lt
    replace hLL := hLL.new hb10
    replace hq := hq.new hb10
    replace hr3 := hr3.new hb10
    replace hr4 := hr4.new hb10
    refine zaS 17 (by kernel_rfl) ?_
    refine zdG rfl rfl (zav 128 (bv S) rfl rfl hr10 (by kernel_rfl) (by first | assumption | (simp; done) | (simp [zae, *]; done)) (by first | assumption | (simp; done) | (simp [zae, *]; done) | rfl) (by first | exact zaL _ | assumption | (simp [Value.oneCell']; done)) (fun w909 hr10 ho909 => ?_))
    have hS908 := hS907.aq ho909
    refine ⟨hS908, ?_⟩
    replace h := h.only ho909 (by first | (right; simp; done) | (left; omega))
    replace hLL := hLL.oq ho909
    replace hq := hq.only ho909 (Nat.ne_of_lt lt_q_g10)
    replace hr3 := hr3.only ho909 (Nat.ne_of_lt lt_g3_g10)
    replace hr4 := hr4.only ho909 (Nat.ne_of_lt lt_g4_g10)
    refine zah 18 (by kernel_rfl) rfl (fun _ _ => zad) ?_
    refine zaR (by kernel_rfl) ?_
    refine zbq ⟨g10, ⟨rfl, rfl, rfl, rfl, rfl, rfl, rfl, rfl⟩, hr10, hr4, hr3, h, hLL, by omega, by omega⟩
   ·
    refine zbN rfl rfl (zaO (List.replicate 128 (Value.int .u8 0)) (by kernel_rfl) (fun g10 w10 hg10 hr10 hb10 => ?_))
    have hS910 := hS905.add0 hb10
    refine ⟨hS910, ?_⟩
    have ge_hS905_g10 := Nat.le_trans hS905.size hg10
    have lt_q_g10 : q < g10 := Nat.lt_of_lt_of_le hq.lt hg10
    have lt_g3_g10 : g3 < g10 := Nat.lt_of_lt_of_le hr3.lt hg10
    have lt_g4_g10 : g4 < g10 := Nat.lt_of_lt_of_le hr4.lt hg10
    replace h := h.newc hb10 hg10 hr10.lt
    replace hLL := hLL.new hb10
    replace hq := hq.new hb10
    replace hr3 := hr3.new hb10
    replace hr4 := hr4.new hb10
    refine zaS 12 (by kernel_rfl) ?_
    refine zcq rfl rfl (zao (by kernel_rfl) rfl) (hrdi _ w10 h) ?_
    rintro _ w60 ⟨rfl, hb60⟩
    have hS911 := hS910.add0 hb60
    refine ⟨hS911, ?_⟩
    replace h := h.new hb60
    replace hLL := hLL.new hb60
    replace hq := hq.new hb60
    replace hr3 := hr3.new hb60
    replace hr4 := hr4.new hb60
    replace hr10 := hr10.new hb60
    refine zah 13 (by kernel_rfl) rfl (fun _ _ => zab) ?_
    refine zah 14 (by kernel_rfl) rfl (fun _ _ => zan rfl rfl) ?_
    refine zah 15 (by kernel_rfl) rfl (fun _ _ => zan rfl rfl) ?_
    refine zaS 17 (by kernel_rfl) ?_
    refine zdG rfl rfl (zav 128 (bv S) rfl rfl hr10 (by kernel_rfl) (by first | assumption | (simp; done) | (simp [zae, *]; done)) (by first | assumption | (simp; done) | (simp [zae, *]; done) | rfl) (by first | exact zaL _ | assumption | (simp [Value.oneCell']; done)) (fun w913 hr10 ho913 => ?_))
    have hS912 := hS911.aq ho913
    refine ⟨hS912, ?_⟩
    replace h := h.only ho913 (by first | (right; simp; done) | (left; omega))
    replace hLL := hLL.oq ho913
    replace hq := hq.only ho913 (Nat.ne_of_lt lt_q_g10)
    replace hr3 := hr3.only ho913 (Nat.ne_of_lt lt_g3_g10)
    replace hr4 := hr4.only ho913 (Nat.ne_of_lt lt_g4_g10)
    refine zah 18 (by kernel_rfl) rfl (fun _ _ => zad) ?_
    refine zaR (by kernel_rfl) ?_
    refine zbq ⟨g10, ⟨rfl, rfl, rfl, rfl, rfl, rfl, rfl, rfl⟩, hr10, hr4, hr3, h, hLL, by omega, by omega⟩
  ·
   clear h hLL hr3 hr4
   rintro g10 f2 w2 ⟨hr10, hr4, hr3, h, hLL, hl4, hl3⟩
   refine zak (zak (zac (zaa rfl (zab) ?_)))
   refine zaa rfl (zaW rfl rfl) ?_
   refine zaf (zai ?_)
   refine zdT rfl ((by simp)) ?_
   refine zau (zai ?_)
   refine zbg [g4] (by kernel_rfl) ?_
   intro w914 hb914 hS914
   replace h := h.new hb914
   replace hLL := hLL.new hb914
   replace hr3 := hr3.new hb914
   replace hr4 := hr4.new hb914
   replace hr10 := hr10.new hb914
   have h_d914 := h
   have hLL_d914 := hLL
   have hr3_d914 := hr3
   have hr4_d914 := hr4
   have hr10_d914 := hr10
   refine zah 0 (by kernel_rfl) rfl (fun _ _ => zab) ?_
   refine zah 1 (by kernel_rfl) rfl (fun _ _ => zd6 rfl rfl (Coup.w64 (by omega))) ?_
   refine zah 2 (by kernel_rfl) rfl (fun _ _ => zbl (e := 5) (n := 512) (128 * i) (512) (512) (512 - 128 * i) (by kernel_rfl) rfl ⟨_, _, rfl, by omega⟩ rfl rfl (by simp) (by omega) (by omega) (by omega) (by omega) (by omega)) ?_
   refine zah 3 (by kernel_rfl) rfl (fun _ _ => zbl (e := 5) (n := 128) (0) (128) (128) (128) (by kernel_rfl) rfl rfl rfl rfl (by simp) (by omega) (by omega) (by omega) (by omega) (by omega)) ?_
   refine zaS 4 (by kernel_rfl) ?_
   refine zbN rfl rfl (zhg (e := 5) (by kernel_rfl) (by kernel_rfl) rfl rfl g4 ((0 + 128 * i)) hr4 (bv S) (by rw [hSb]; exact (Nat.min_eq_left (by omega)).symm) (fun _ => ⟨rfl, _, rfl, fun j v hv => by rw [Addr.add_lit]; exact (hr10.slA (m := 128) (sz := 1) hSb (by omega)).cell j hv⟩) (by rw [hSb]; omega) (zaL _) (fun w73 hr4 ho73 => ?_))
   have hS915 := hS914.aq ho73
   refine ⟨hS915, ?_⟩
   replace h := h.only ho73 (by first | (right; simp; done) | (left; omega))
   replace hLL := hLL.oq ho73
   replace hr3 := hr3.only ho73 (Nat.ne_of_lt lt_g3_g4)
   replace hr10 := hr10.only ho73 (by omega)
   refine zaR (by kernel_rfl) ?_
   refine za2 (zai (zac ?_))
   refine zaa rfl (zaV rfl rfl (Coup.w64 (by omega))) ?_
   refine zaa rfl (zab) (zaf ?_)
   rw [Nat.zero_add, hst] at hr4
   refine zbq ⟨i + 1, by omega, ⟨by go_num, rfl, rfl, rfl, rfl⟩, by omega, hr4, hr3, h.weak (fun b hb => List.mem_cons_of_mem _ hb), hLL⟩
 ·
  have hi4 : i = 4 := by omega
  subst hi4
  rw [partP_4 hXl] at hr4
  refine zbp (zbW (zb9 (zbw (zai (zak (zac (zaa rfl (zab) ?_)))))))
  refine zaa rfl (zam rfl (Ld.zbb hr3 (by kernel_rfl) rfl)) ?_
  refine zaa rfl (zam rfl (Ld.zb5 (k := 512) hr4 (by kernel_rfl) (by kernel_rfl) (by first | (simp; done) | (simp [zae, *]; done) | assumption))) ?_
  refine zat rfl (zao (by kernel_rfl) rfl) (frameP h hok.cl hok.cll hok.fr2 hok.frm n X hXl) ?_
  rintro _ w78 ⟨rfl, ⟨cv2, h⟩, hb78⟩
  replace hLL := hLL.lq hb78
  replace hr3 := hr3.kl hb78
  replace hr4 := hr4.kl hb78
  refine zaf (zai (zak (zac ?_)))
  refine zaa rfl (zam rfl (Ld.zb5 (k := 512) hr4 (by kernel_rfl) (by kernel_rfl) (by first | (simp; done) | (simp [zae, *]; done) | assumption))) ?_
  refine za4 rfl (zav 512 (bv X) rfl rfl hr4 (by kernel_rfl) (by first | assumption | (simp; done) | (simp [zae, *]; done)) (by first | assumption | (simp; done) | (simp [zae, *]; done) | rfl) (by first | exact zaL _ | assumption | (simp [Value.oneCell']; done)) (fun w916 hr4 ho916 => ?_))
  replace h := h.only ho916 (by first | (right; simp; done) | (left; omega))
  replace hLL := hLL.oq ho916
  replace hr3 := hr3.only ho916 (Nat.ne_of_lt lt_g3_g4)
  refine zaa rfl (zad) (zaf (zai (zax ?_)))
  refine zar [_, _] ⟨⟨_, rfl, Ld.zb5 (k := 512) hr4 (by kernel_rfl) (by kernel_rfl) (by first | (simp; done) | (simp [zae, *]; done) | assumption)⟩, rfl, trivial⟩ ?_
  exact ⟨rfl, ⟨_, h.weak (fun b hb => by simp [hb])⟩, hLL⟩
theorem ziu (h : zbc g x q mc md cv cv Y lo L P w) (hok : zh2 P) (n : Nat) (hn : n < P.n) :
  Calls Tryz.prog 35 [.pointer (some ⟨q, 0, none⟩), .int .i64 (n : Int)].toArray w (Ret fun v w' => v = .tuple #[.agg (bv (zgg P n)).toArray, .int .i64 0] ∧ (∃ cv', zbc g x q mc md cv' cv' Y lo L (zeJ P n) w') ∧ LoL lo L w w') := by
 cases hb : P.di n with
 | some b =>
  have e1 : zgg P n = b := by unfold zgg; rw [hb]
  have e2 : zeJ P n = P := by unfold zeJ; rw [hb]
  rw [e1, e2]
  exact zmA h hok n hn hb
 | none =>
  have e2 : zeJ P n = { P with cl := frameC P.fr P.cl n (zgg P n) } := by unfold zeJ; rw [hb]
  cases hc : P.cl[zez P.cl n]? with
  | some c =>
   have e1 : zgg P n = c.page := by unfold zgg; rw [hb, hc]
   rw [e2, e1]
   exact zmB h hok n hn hb hc
  | none =>
   have e1 : zgg P n = zbP P.D (1 + P.G.size + n * 4) := by unfold zgg; rw [hb, hc]
   rw [e2, e1]
   exact zmC h hok n hn hb hc
end
theorem zc0 (P : Pl) (n : Nat) : (zeJ P n).D = P.D ∧ (zeJ P n).G = P.G ∧ (zeJ P n).fr = P.fr ∧ (zeJ P n).ch = P.ch ∧ (zeJ P n).di = P.di ∧ (zeJ P n).dead = P.dead ∧ (zeJ P n).n = P.n := by
 unfold zeJ
 split <;> exact ⟨rfl, rfl, rfl, rfl, rfl, rfl, rfl⟩
def zmD (P : Pl) (n : Nat) : Pg := match P.ch n with
 | some b => b
 | none => zgg P n
def zg1 (P : Pl) (n : Nat) : Pl := match P.ch n with
 | some _ => P
 | none => zeJ P n
def zjt (P : Pl) (n : Nat) (X : Pg) : Pl := { zeJ P n with ch := zdB P.ch n (if X = zgg P n then none else some X) }
theorem zpb (c : PgM) (i : Nat) (a b : Option Pg) : zdB (zdB c i a) i b = zdB c i b := by
 funext j
 unfold zdB
 split <;> rfl
section
variable {Y : World → List Nat → Prop} [Thing Y] {g x q mc md lo : Nat} {rv cv : Value} {L : List Nat} {P : Pl} {w : World}
set_option maxRecDepth 20000 in
theorem getNo (h : zbc g x q mc md rv cv Y lo L P w) (hsz : P.G.size ≤ 4000) (n : Int) (hne : zce P n ≠ 0) : Calls Tryz.prog 17 [.pointer (some ⟨q, 0, none⟩), .int .i64 n].toArray w (Ret fun v w' => v = .tuple #[.agg zP.toArray, .int .i64 (zce P n)] ∧ Below w.heap.size w w') := by
 have hB := Below.refl w.heap.size w
 have hrd := fun w' (h' : zbc g x q mc md rv cv Y lo L P w') => zfs h' hsz n
 have hz : zP.length = 512 := List.length_replicate
 have hz1 : ∀ v ∈ zP, Value.oneCell' v = true := fun v hv => by rw [(List.mem_replicate.1 hv).2]; rfl
 obtain ⟨e, he⟩ : ∃ e, zce P n = e := ⟨_, rfl⟩
 rw [he] at hrd hne ⊢
 have hw := fun w' (hb : Below w.heap.size w w') => h.new hb
 refine zaw (fn := Tryz.f17) (rs := [.cell 4 37, .tmp 5]) (n := 32) Tryz.func17 rfl rfl Tryz.ntmps17 (by kernel_rfl) rfl ?_
 refine zak (zac ?_)
 refine zaX rfl (zaO (List.replicate 512 (Value.int .u8 0)) (by kernel_rfl) (fun g4 w4 hg4 hr4 hb4 => ?_))
 have ge_hB_g4 := Nat.le_trans hB.size hg4
 replace hB := hB.acc hb4
 refine zaa rfl (zad) (zaf (zai (zak (zak (zac (zaa rfl (zab) (zaa rfl (zab) ?_)))))))
 refine zat rfl (zao (by kernel_rfl) rfl) (hrd w4 (hw _ hB)) ?_
 rintro _ w11 ⟨rfl, hb11⟩
 replace hr4 := hr4.new hb11
 replace hB := hB.acc hb11
 refine zaa rfl (zad) (zaf (zai (zak (zac (zaa rfl (zab) ?_)))))
 refine zaa rfl (zaW rfl rfl) ?_
 refine zaf (zai ?_)
 refine zkt rfl (hne) ?_
 refine zak (zac ?_)
 refine zaa rfl (zd8 (List.replicate 512 (Value.int .u8 0)) (by kernel_rfl)) ?_
 refine zaa rfl (zab) ?_
 refine za4 rfl (zav 512 (zP) rfl rfl hr4 (by kernel_rfl) (by first | assumption | (simp; done) | (simp [zae, *]; done)) (by first | assumption | (simp; done) | (simp [zae, *]; done) | rfl) (by first | exact zaL _ | assumption | (simp [Value.oneCell']; done)) (fun w901 hr4 ho901 => ?_))
 replace hB := ho901.below hB ge_hB_g4
 refine zaa rfl (zad) (zaf (zai (zax (zaT ?_))))
 refine zar [_, _] ⟨⟨_, rfl, Ld.zb5 (k := 512) hr4 (by kernel_rfl) (by kernel_rfl) (by first | (simp; done) | (simp [zae, *]; done) | assumption)⟩, rfl, trivial⟩ ?_
 exact ⟨rfl, hB⟩
set_option maxRecDepth 20000 in
theorem znZ (h : zbc g x q mc md cv cv Y lo L P w) (hok : zh2 P) (hde : P.dead = false) (n : Nat) (hn : n < P.n) : Calls Tryz.prog 17 [.pointer (some ⟨q, 0, none⟩), .int .i64 (n : Int)].toArray w (Ret fun v w' => v = .tuple #[.agg (bv (zmD P n)).toArray, .int .i64 0] ∧ (∃ cv', zbc g x q mc md cv' cv' Y lo L (zg1 P n) w') ∧ LoL lo L w w') := by
 have hLL := LoL.refl lo L w
 have hnl := h.nle.1
 have hDk := (tOk h.lg.fst).1
 have hre : zce P n = 0 := by unfold zce; rw [hde, if_neg (by simp), if_pos (by omega)]
 have hrd := fun L' w' (h' : zbc g x q mc md cv cv Y lo L' P w') => zfs h' hok.lg.szm n
 rw [hre] at hrd
 have hX0 := zlN hok hDk hn
 have hcm := fun L' w' (h' : zbc g x q mc md cv cv Y lo L' P w') => ziu h' hok n hn
 obtain ⟨X0, hX⟩ : ∃ X0, zgg P n = X0 := ⟨_, rfl⟩
 rw [hX] at hX0
 simp only [hX] at hcm
 have hX0b : (bv X0).length = 512 := by rw [zae]; exact hX0
 have hz : zP.length = 512 := List.length_replicate
 have hz1 : ∀ v ∈ zP, Value.oneCell' v = true := fun v hv => by rw [(List.mem_replicate.1 hv).2]; rfl
 obtain ⟨o, ho⟩ : ∃ o, zeA P.ch n = o := ⟨_, rfl⟩
 have hq := h.row
 unfold plV at hq
 have hm := h.mch
 unfold zmD zg1
 cases hch : P.ch n with
 | some b =>
 have hbl : (bv b).length = 512 := by rw [zae]; exact hok.ch n b hch
 have ho2 : o = some (.agg (bv b).toArray) := by rw [← ho]; unfold zeA; rw [hch]; rfl
 subst ho2
 dsimp only
 refine zaw (fn := Tryz.f17) (rs := [.cell 4 37, .tmp 5]) (n := 32) Tryz.func17 rfl rfl Tryz.ntmps17 (by kernel_rfl) rfl ?_
 refine zak (zac ?_)
 refine zaX rfl (zaO (List.replicate 512 (Value.int .u8 0)) (by kernel_rfl) (fun g4 w4 hg4 hr4 hb4 => ?_))
 have lt_q_g4 : q < g4 := Nat.lt_of_lt_of_le hq.lt hg4
 have lt_mc_g4 : mc < g4 := Nat.lt_of_lt_of_le hm.lt hg4
 replace h := h.newc hb4 hg4 hr4.lt
 replace hLL := hLL.new hb4
 replace hq := hq.new hb4
 replace hm := hm.new hb4
 refine zaa rfl (zad) (zaf (zai (zak (zak (zac (zaa rfl (zab) (zaa rfl (zab) ?_)))))))
 refine zat rfl (zao (by kernel_rfl) rfl) (hrd _ w4 h) ?_
 rintro _ w11 ⟨rfl, hb11⟩
 replace h := h.new hb11
 replace hLL := hLL.new hb11
 replace hq := hq.new hb11
 replace hm := hm.new hb11
 replace hr4 := hr4.new hb11
 refine zaa rfl (zad) (zaf (zai (zak (zac (zaa rfl (zab) ?_)))))
 refine zaa rfl (zaW rfl rfl) ?_
 refine zaf (zai ?_)
 refine zdT rfl ((by simp)) ?_
 refine zau (zai (zak (zak (zac (zaa rfl (zab) (zaa rfl (zal rfl) (zaa rfl (zaj (off := 4) (by kernel_rfl) rfl) ?_)))))))
 refine zaa rfl (zam rfl (Ld.zbb hq (by kernel_rfl) rfl)) ?_
 refine zaa rfl (zab) ?_
 refine zaa rfl (zee (k := 3) (e := 37) (.agg zP.toArray) (some (.agg (bv b).toArray)) (by kernel_rfl) (by kernel_rfl) znX hm rfl rfl n rfl hn (by omega) ho) ?_
 refine zaa rfl (zab) (zaa rfl (zan rfl rfl) (zaa rfl (zan rfl rfl) ?_))
 refine zaX rfl (zaO (List.replicate 512 (Value.int .u8 0)) (by kernel_rfl) (fun g7 w7 hg7 hr7 hb7 => ?_))
 have lt_q_g7 : q < g7 := Nat.lt_of_lt_of_le hq.lt hg7
 have lt_mc_g7 : mc < g7 := Nat.lt_of_lt_of_le hm.lt hg7
 have lt_g4_g7 : g4 < g7 := Nat.lt_of_lt_of_le hr4.lt hg7
 replace h := h.newc hb7 hg7 hr7.lt
 replace hLL := hLL.new hb7
 replace hq := hq.new hb7
 replace hm := hm.new hb7
 replace hr4 := hr4.new hb7
 refine za4 rfl (zav 512 (bv b) rfl rfl hr7 (by kernel_rfl) (by first | assumption | (simp; done) | (simp [zae, *]; done)) (by first | assumption | (simp; done) | (simp [zae, *]; done) | rfl) (by first | exact zaL _ | assumption | (simp [Value.oneCell']; done)) (fun w901 hr7 ho901 => ?_))
 replace h := h.only ho901 (by first | (right; simp; done) | (left; omega))
 replace hLL := hLL.oq ho901
 replace hq := hq.only ho901 (Nat.ne_of_lt lt_q_g7)
 replace hm := hm.only ho901 (Nat.ne_of_lt lt_mc_g7)
 replace hr4 := hr4.only ho901 (Nat.ne_of_lt lt_g4_g7)
 refine zaa rfl (zad) (zaf (zai (zak (zac (zaa rfl (zab) (zaf (zai ?_)))))))
 refine zkB rfl (rfl) ?_
 refine zak (zac ?_)
 refine zaa rfl (zam rfl (Ld.zb5 (k := 512) hr7 (by kernel_rfl) (by kernel_rfl) (by first | (simp; done) | (simp [zae, *]; done) | assumption))) ?_
 refine za4 rfl (zav 512 (bv b) rfl rfl hr4 (by kernel_rfl) (by first | assumption | (simp; done) | (simp [zae, *]; done)) (by first | assumption | (simp; done) | (simp [zae, *]; done) | rfl) (by first | exact zaL _ | assumption | (simp [Value.oneCell']; done)) (fun w902 hr4 ho902 => ?_))
 replace h := h.only ho902 (by first | (right; simp; done) | (left; omega))
 replace hLL := hLL.oq ho902
 replace hq := hq.only ho902 (Nat.ne_of_lt lt_q_g4)
 replace hm := hm.only ho902 (Nat.ne_of_lt lt_mc_g4)
 replace hr7 := hr7.only ho902 (Nat.ne_of_gt lt_g4_g7)
 refine zaa rfl (zad) (zaf (zai (zax (zaT ?_))))
 refine zar [_, _] ⟨⟨_, rfl, Ld.zb5 (k := 512) hr4 (by kernel_rfl) (by kernel_rfl) (by first | (simp; done) | (simp [zae, *]; done) | assumption)⟩, rfl, trivial⟩ ?_
 exact ⟨rfl, ⟨_, h.weak (fun b hb => by simp [hb])⟩, hLL⟩
 | none =>
 have ho2 : o = none := by rw [← ho]; unfold zeA; rw [hch]; rfl
 subst ho2
 dsimp only
 rw [hX]
 refine zaw (fn := Tryz.f17) (rs := [.cell 4 37, .tmp 5]) (n := 32) Tryz.func17 rfl rfl Tryz.ntmps17 (by kernel_rfl) rfl ?_
 refine zak (zac ?_)
 refine zaX rfl (zaO (List.replicate 512 (Value.int .u8 0)) (by kernel_rfl) (fun g4 w4 hg4 hr4 hb4 => ?_))
 have lt_q_g4 : q < g4 := Nat.lt_of_lt_of_le hq.lt hg4
 have lt_mc_g4 : mc < g4 := Nat.lt_of_lt_of_le hm.lt hg4
 replace h := h.newc hb4 hg4 hr4.lt
 replace hLL := hLL.new hb4
 replace hq := hq.new hb4
 replace hm := hm.new hb4
 refine zaa rfl (zad) (zaf (zai (zak (zak (zac (zaa rfl (zab) (zaa rfl (zab) ?_)))))))
 refine zat rfl (zao (by kernel_rfl) rfl) (hrd _ w4 h) ?_
 rintro _ w11 ⟨rfl, hb11⟩
 replace h := h.new hb11
 replace hLL := hLL.new hb11
 replace hq := hq.new hb11
 replace hm := hm.new hb11
 replace hr4 := hr4.new hb11
 refine zaa rfl (zad) (zaf (zai (zak (zac (zaa rfl (zab) ?_)))))
 refine zaa rfl (zaW rfl rfl) ?_
 refine zaf (zai ?_)
 refine zdT rfl ((by simp)) ?_
 refine zau (zai (zak (zak (zac (zaa rfl (zab) (zaa rfl (zal rfl) (zaa rfl (zaj (off := 4) (by kernel_rfl) rfl) ?_)))))))
 refine zaa rfl (zam rfl (Ld.zbb hq (by kernel_rfl) rfl)) ?_
 refine zaa rfl (zab) ?_
 refine zaa rfl (zee (k := 3) (e := 37) (.agg zP.toArray) none (by kernel_rfl) (by kernel_rfl) znX hm rfl rfl n rfl hn (by omega) ho) ?_
 refine zaa rfl (zab) (zaa rfl (zan rfl rfl) (zaa rfl (zan rfl rfl) ?_))
 refine zaX rfl (zaO (List.replicate 512 (Value.int .u8 0)) (by kernel_rfl) (fun g7 w7 hg7 hr7 hb7 => ?_))
 have lt_q_g7 : q < g7 := Nat.lt_of_lt_of_le hq.lt hg7
 have lt_mc_g7 : mc < g7 := Nat.lt_of_lt_of_le hm.lt hg7
 have lt_g4_g7 : g4 < g7 := Nat.lt_of_lt_of_le hr4.lt hg7
 replace h := h.newc hb7 hg7 hr7.lt
 replace hLL := hLL.new hb7
 replace hq := hq.new hb7
 replace hm := hm.new hb7
 replace hr4 := hr4.new hb7
 refine za4 rfl (zav 512 (zP) rfl rfl hr7 (by kernel_rfl) (by first | assumption | (simp; done) | (simp [zae, *]; done)) (by first | assumption | (simp; done) | (simp [zae, *]; done) | rfl) (by first | exact zaL _ | assumption | (simp [Value.oneCell']; done)) (fun w901 hr7 ho901 => ?_))
 replace h := h.only ho901 (by first | (right; simp; done) | (left; omega))
 replace hLL := hLL.oq ho901
 replace hq := hq.only ho901 (Nat.ne_of_lt lt_q_g7)
 replace hm := hm.only ho901 (Nat.ne_of_lt lt_mc_g7)
 replace hr4 := hr4.only ho901 (Nat.ne_of_lt lt_g4_g7)
 refine zaa rfl (zad) (zaf (zai (zak (zac (zaa rfl (zab) (zaf (zai ?_)))))))
 refine zln rfl (rfl) ?_
 refine zau (zai (zak (zac (zaa rfl (zab) (zaa rfl (zab) ?_)))))
 refine zat rfl (zao (by kernel_rfl) rfl) (hcm _ w901 h) ?_
 rintro _ w29 ⟨rfl, ⟨cv2, h⟩, hb29⟩
 replace hLL := hLL.lq hb29
 replace hr4 := hr4.kl hb29
 refine zaa rfl (zan rfl rfl) (zaa rfl (zan rfl rfl) ?_)
 refine za4 rfl (zav 512 (bv X0) rfl rfl hr4 (by kernel_rfl) (by first | assumption | (simp; done) | (simp [zae, *]; done)) (by first | assumption | (simp; done) | (simp [zae, *]; done) | rfl) (by first | exact zaL _ | assumption | (simp [Value.oneCell']; done)) (fun w902 hr4 ho902 => ?_))
 replace h := h.only ho902 (by first | (right; simp; done) | (left; omega))
 replace hLL := hLL.oq ho902
 refine zaa rfl (zad) (zaf (zai (zax ?_)))
 refine zar [_, _] ⟨⟨_, rfl, Ld.zb5 (k := 512) hr4 (by kernel_rfl) (by kernel_rfl) (by first | (simp; done) | (simp [zae, *]; done) | assumption)⟩, rfl, trivial⟩ ?_
 exact ⟨rfl, ⟨_, h.weak (fun b hb => by simp [hb])⟩, hLL⟩
set_option maxRecDepth 20000 in
theorem putNo (h : zbc g x q mc md rv cv Y lo L P w) (hsz : P.G.size ≤ 4000) (n : Int) (X : Pg) (hne : zce P n ≠ 0) : Calls Tryz.prog 12 [.pointer (some ⟨q, 0, none⟩), .int .i64 n, .agg (bv X).toArray].toArray w (Ret fun v w' => v = .int .i64 (zce P n) ∧ Below w.heap.size w w') := by
 have hB := Below.refl w.heap.size w
 have hrd := fun w' (h' : zbc g x q mc md rv cv Y lo L P w') => zfs h' hsz n
 obtain ⟨e, he⟩ : ∃ e, zce P n = e := ⟨_, rfl⟩
 rw [he] at hrd hne ⊢
 have hw := fun w' (hb : Below w.heap.size w w') => h.new hb
 refine zaw (fn := Tryz.f12) (rs := [.tmp 6]) (n := 39) Tryz.func12 rfl rfl Tryz.ntmps12 (by kernel_rfl) rfl ?_
 refine zak (zac ?_)
 refine zaX rfl (zca (bv X) rfl (fun g5 w5 hg5 hr5 hb5 => ?_))
 have ge_hB_g5 := Nat.le_trans hB.size hg5
 replace hB := hB.acc hb5
 refine zaa rfl (zad) (zaf (zai (zak (zak (zac (zaa rfl (zab) (zaa rfl (zab) ?_)))))))
 refine zat rfl (zao (by kernel_rfl) rfl) (hrd w5 (hw _ hB)) ?_
 rintro _ w12 ⟨rfl, hb12⟩
 replace hr5 := hr5.new hb12
 replace hB := hB.acc hb12
 refine zaa rfl (zad) (zaf (zai (zak (zac (zaa rfl (zab) ?_)))))
 refine zaa rfl (zaW rfl rfl) ?_
 refine zaf (zai ?_)
 refine zkt rfl (hne) ?_
 refine zak (zac (zaa rfl (zab) (zaa rfl (zad) (zaf (zai (zax (zaT ?_)))))))
 refine zar [_] ⟨rfl, trivial⟩ ?_
 exact ⟨rfl, hB⟩
set_option maxRecDepth 20000 in
theorem zn0 (h : zbc g x q mc md cv cv Y lo L P w) (hok : zh2 P) (hde : P.dead = false) (n : Nat) (hn : n < P.n) (X : Pg) (hX : X.length = 512) : Calls Tryz.prog 12 [.pointer (some ⟨q, 0, none⟩), .int .i64 (n : Int), .agg (bv X).toArray].toArray w (Ret fun v w' => v = .int .i64 0 ∧ (∃ cv', zbc g x q mc md cv' cv' Y lo L (zjt P n X) w') ∧ LoL lo L w w') := by
 have hLL := LoL.refl lo L w
 have hnl := h.nle.1
 have hDk := (tOk h.lg.fst).1
 have hre : zce P n = 0 := by unfold zce; rw [hde, if_neg (by simp), if_pos (by omega)]
 have hrd := fun L' w' (h' : zbc g x q mc md cv cv Y lo L' P w') => zfs h' hok.lg.szm n
 rw [hre] at hrd
 have hX0 := zlN hok hDk hn
 have hcm := fun L' w' (h' : zbc g x q mc md cv cv Y lo L' P w') => ziu h' hok n hn
 obtain ⟨X0, hX0e⟩ : ∃ X0, zgg P n = X0 := ⟨_, rfl⟩
 rw [hX0e] at hX0
 simp only [hX0e] at hcm
 obtain ⟨e1, e2, e3, e4, e5, e6, e7⟩ := zc0 P n
 unfold zjt
 rw [hX0e]
 obtain ⟨P2, hP2⟩ : ∃ P2, zeJ P n = P2 := ⟨_, rfl⟩
 rw [hP2] at e1 e2 e3 e4 e5 e6 e7 ⊢
 simp only [hP2] at hcm
 rw [← e4]
 rw [← e7] at hn hnl
 have hX0b : (bv X0).length = 512 := by rw [zae]; exact hX0
 have hXb : (bv X).length = 512 := by rw [zae]; exact hX
 obtain ⟨hml, hmL⟩ := h.mcl
 have hqm := h.qm
 refine zaw (fn := Tryz.f12) (rs := [.tmp 6]) (n := 39) Tryz.func12 rfl rfl Tryz.ntmps12 (by kernel_rfl) rfl ?_
 refine zak (zac ?_)
 refine zaX rfl (zca (bv X) rfl (fun g5 w5 hg5 hr5 hb5 => ?_))
 replace h := h.newc hb5 hg5 hr5.lt
 replace hLL := hLL.new hb5
 refine zaa rfl (zad) (zaf (zai (zak (zak (zac (zaa rfl (zab) (zaa rfl (zab) ?_)))))))
 refine zat rfl (zao (by kernel_rfl) rfl) (hrd _ w5 h) ?_
 rintro _ w12 ⟨rfl, hb12⟩
 replace h := h.new hb12
 replace hLL := hLL.new hb12
 replace hr5 := hr5.new hb12
 refine zaa rfl (zad) (zaf (zai (zak (zac (zaa rfl (zab) ?_)))))
 refine zaa rfl (zaW rfl rfl) ?_
 refine zaf (zai ?_)
 refine zdT rfl ((by simp)) ?_
 refine zau (zai (zak (zac (zaa rfl (zab) (zaa rfl (zab) ?_)))))
 refine zat rfl (zao (by kernel_rfl) rfl) (hcm _ w12 h) ?_
 rintro _ w19 ⟨rfl, ⟨cv2, h⟩, hb19⟩
 replace hLL := hLL.lq hb19
 replace hr5 := hr5.kl hb19
 refine zaa rfl (zab) (zaa rfl (zan rfl rfl) (zaa rfl (zan rfl rfl) ?_))
 refine zaX rfl (zaO (List.replicate 512 (Value.int .u8 0)) (by kernel_rfl) (fun g8 w8 hg8 hr8 hb8 => ?_))
 have lt_g5_g8 : g5 < g8 := Nat.lt_of_lt_of_le hr5.lt hg8
 replace h := h.newc hb8 hg8 hr8.lt
 replace hLL := hLL.new hb8
 replace hr5 := hr5.new hb8
 refine za4 rfl (zav 512 (bv X0) rfl rfl hr8 (by kernel_rfl) (by first | assumption | (simp; done) | (simp [zae, *]; done)) (by first | assumption | (simp; done) | (simp [zae, *]; done) | rfl) (by first | exact zaL _ | assumption | (simp [Value.oneCell']; done)) (fun w901 hr8 ho901 => ?_))
 replace h := h.only ho901 (by first | (right; simp; done) | (left; omega))
 replace hLL := hLL.oq ho901
 replace hr5 := hr5.only ho901 (Nat.ne_of_lt lt_g5_g8)
 refine zaa rfl (zad) (zaf (zai (zak (zak (zac (zaa rfl (zab) ?_))))))
 refine zaa rfl (zaW rfl rfl) ?_
 refine zaf (zai ?_)
 refine zdT rfl ((by simp)) ?_
 refine zau (zai (zak ?_))
 have hq := h.row
 unfold plV at hq
 refine zac (zaa rfl (zab) (zaa rfl (zal rfl) (zaa rfl (zaj (off := 4) (by kernel_rfl) rfl) ?_)))
 refine zaa rfl (zam rfl (Ld.zbb hq (by kernel_rfl) rfl)) ?_
 refine zaa rfl (zab) ?_
 have hm := h.mch
 have hg5m : g5 ≠ mc := fun e => h.mcl.2 (by rw [e]; simp)
 have hg8m : g8 ≠ mc := fun e => h.mcl.2 (by rw [e]; simp)
 refine zaX rfl (zjC (k := 3) (e := 37) (by kernel_rfl) (by kernel_rfl) hm rfl rfl (n) (by first | rfl | omega) (by omega) (by omega) (fun w902 hm ho902 => ?_))
 replace hLL := hLL.oq ho902
 replace hr5 := hr5.only ho902 (by omega)
 replace hr8 := hr8.only ho902 (by omega)
 replace hq := hq.only ho902 (by omega)
 rw [znQ] at hm
 replace h := h.zfK hm ho902
 refine zaf (zai (zak (zak (zac ?_))))
 refine zaa rfl (zam rfl (Ld.zb5 (k := 512) hr5 (by kernel_rfl) (by kernel_rfl) (by first | (simp; done) | (simp [zae, *]; done) | assumption))) ?_
 refine zaa rfl (zam rfl (Ld.zb5 (k := 512) hr8 (by kernel_rfl) (by kernel_rfl) (by first | (simp; done) | (simp [zae, *]; done) | assumption))) ?_
 refine zaa rfl (zkI (n := 512) (by kernel_rfl) rfl rfl hX hX0) ?_
 refine zaf (zai ?_)
 refine W_ifn rfl (fun hne => ?_) (fun hne => ?_)
 ·
  have hm : MapAt Tryz.prog 3 w902 mc P2.n (zeA (zdB P2.ch n none)) := h.mch
  have hh := h
  refine zbg [mc] (by kernel_rfl) ?_
  intro w903 hb903 hS903
  replace hLL := hLL.new hb903
  replace hr5 := hr5.new hb903
  replace hr8 := hr8.new hb903
  replace hq := hq.new hb903
  replace hm := hm.new hb903
  replace hh := hh.new hb903
  have hLL_d903 := hLL
  have hr5_d903 := hr5
  have hr8_d903 := hr8
  have hq_d903 := hq
  have hm_d903 := hm
  have hh_d903 := hh
  refine zah 0 (by kernel_rfl) rfl (fun _ _ => zab) ?_
  refine zah 1 (by kernel_rfl) rfl (fun _ _ => zal rfl) ?_
  refine zah 2 (by kernel_rfl) rfl (fun _ _ => zaj (off := 4) (by kernel_rfl) rfl) ?_
  refine zah 3 (by kernel_rfl) rfl (fun w' hS' => zam rfl (Ld.zbb (hq_d903.kpd hS' (by first | (simp; done) | (simp; omega) | (simp [*]; done) | exact zaH (Or.inl (by omega)) | exact zaH (Or.inr (by simp)) | exact fun g (hm_d903.kpd hS' (by first | (simp; done) | (simp; omega) | (simp [*]; done) | exact zaH (Or.inl (by omega)) | exact zaH (Or.inr (by simp)) | exact fun g hm => Nat.le_trans (by omega) (zel hm).1 | (intro b o e; cases e; exact zaH (Or.inl (by omega))) | (intro b hm; have := (hu.lt b (Option.mem_toList.1 hm)).1; omega) | (intro b o e; cases e; intro hm; have := (hu.lt _ (Option.mem_toList.1 hm)).1; omega))) => Nat.le_trans (by omega) (zel (hm_d903.kpd hS' (by first | (simp; done) | (simp; omega) | (simp [*]; done) | exact zaH (Or.inl (by omega)) | exact zaH (Or.inr (by simp)) | exact fun g hm => Nat.le_trans (by omega) (zel hm).1 | (intro b o e; cases e; exact zaH (Or.inl (by omega))) | (intro b hm; have := (hu.lt b (Option.mem_toList.1 hm)).1; omega) | (intro b o e; cases e; intro hm; have := (hu.lt _ (Option.mem_toList.1 hm)).1; omega)))).1 | (intro b o e; cases e; exact zaH (Or.inl (by omega))) | (intro b (hm_d903.kpd hS' (by first | (simp; done) | (simp; omega) | (simp [*]; done) | exact zaH (Or.inl (by omega)) | exact zaH (Or.inr (by simp)) | exact fun g hm => Nat.le_trans (by omega) (zel hm).1 | (intro b o e; cases e; exact zaH (Or.inl (by omega))) | (intro b hm; have := (hu.lt b (Option.mem_toList.1 hm)).1; omega) | (intro b o e; cases e; intro hm; have := (hu.lt _ (Option.mem_toList.1 hm)).1; omega))); have := (hu.lt b (Option.mem_toList.1 (hm_d903.kpd hS' (by first | (simp; done) | (simp; omega) | (simp [*]; done) | exact zaH (Or.inl (by omega)) | exact zaH (Or.inr (by simp)) | exact fun g hm => Nat.le_trans (by omega) (zel hm).1 | (intro b o e; cases e; exact zaH (Or.inl (by omega))) | (intro b hm; have := (hu.lt b (Option.mem_toList.1 hm)).1; omega) | (intro b o e; cases e; intro hm; have := (hu.lt _ (Option.mem_toList.1 hm)).1; omega))))).1; omega) | (intro b o e; cases e; intro (hm_d903.kpd hS' (by first | (simp; done) | (simp; omega) | (simp [*]; done) | exact zaH (Or.inl (by omega)) | exact zaH (Or.inr (by simp)) | exact fun g hm => Nat.le_trans (by omega) (zel hm).1 | (intro b o e; cases e; exact zaH (Or.inl (by omega))) | (intro b hm; have := (hu.lt b (Option.mem_toList.1 hm)).1; omega) | (intro b o e; cases e; intro hm; have := (hu.lt _ (Option.mem_toList.1 hm)).1; omega))); have := (hu.lt _ (Option.mem_toList.1 (hm_d903.kpd hS' (by first | (simp; done) | (simp; omega) | (simp [*]; done) | exact zaH (Or.inl (by omega)) | exact zaH (Or.inr (by simp)) | exact fun g hm => Nat.le_trans (by omega) (zel hm).1 | (intro b o e; cases e; exact zaH (Or.inl (by omega))) | (intro b hm; have := (hu.lt b (Option.mem_toList.1 hm)).1; omega) | (intro b o e; cases e; intro hm; have := (hu.lt _ (Option.mem_toList.1 hm)).1; omega))))).1; omega))) (by kernel_rfl) rfl)) ?_
  refine zah 4 (by kernel_rfl) rfl (fun _ _ => zab) ?_
  refine zah 5 (by kernel_rfl) rfl (fun w' hS' => zam rfl (Ld.zb5 (k := 512) (hr5_d903.kpd hS' (by first | (simp; done) | (simp; omega) | (simp [*]; done) | exact zaH (Or.inl (by omega)) | exact zaH (Or.inr (by simp)) | exact fun g (hm_d903.kpd hS' (by first | (simp; done) | (simp; omega) | (simp [*]; done) | exact zaH (Or.inl (by omega)) | exact zaH (Or.inr (by simp)) | exact fun g hm => Nat.le_trans (by omega) (zel hm).1 | (intro b o e; cases e; exact zaH (Or.inl (by omega))) | (intro b hm; have := (hu.lt b (Option.mem_toList.1 hm)).1; omega) | (intro b o e; cases e; intro hm; have := (hu.lt _ (Option.mem_toList.1 hm)).1; omega))) => Nat.le_trans (by omega) (zel (hm_d903.kpd hS' (by first | (simp; done) | (simp; omega) | (simp [*]; done) | exact zaH (Or.inl (by omega)) | exact zaH (Or.inr (by simp)) | exact fun g hm => Nat.le_trans (by omega) (zel hm).1 | (intro b o e; cases e; exact zaH (Or.inl (by omega))) | (intro b hm; have := (hu.lt b (Option.mem_toList.1 hm)).1; omega) | (intro b o e; cases e; intro hm; have := (hu.lt _ (Option.mem_toList.1 hm)).1; omega)))).1 | (intro b o e; cases e; exact zaH (Or.inl (by omega))) | (intro b (hm_d903.kpd hS' (by first | (simp; done) | (simp; omega) | (simp [*]; done) | exact zaH (Or.inl (by omega)) | exact zaH (Or.inr (by simp)) | exact fun g hm => Nat.le_trans (by omega) (zel hm).1 | (intro b o e; cases e; exact zaH (Or.inl (by omega))) | (intro b hm; have := (hu.lt b (Option.mem_toList.1 hm)).1; omega) | (intro b o e; cases e; intro hm; have := (hu.lt _ (Option.mem_toList.1 hm)).1; omega))); have := (hu.lt b (Option.mem_toList.1 (hm_d903.kpd hS' (by first | (simp; done) | (simp; omega) | (simp [*]; done) | exact zaH (Or.inl (by omega)) | exact zaH (Or.inr (by simp)) | exact fun g hm => Nat.le_trans (by omega) (zel hm).1 | (intro b o e; cases e; exact zaH (Or.inl (by omega))) | (intro b hm; have := (hu.lt b (Option.mem_toList.1 hm)).1; omega) | (intro b o e; cases e; intro hm; have := (hu.lt _ (Option.mem_toList.1 hm)).1; omega))))).1; omega) | (intro b o e; cases e; intro (hm_d903.kpd hS' (by first | (simp; done) | (simp; omega) | (simp [*]; done) | exact zaH (Or.inl (by omega)) | exact zaH (Or.inr (by simp)) | exact fun g hm => Nat.le_trans (by omega) (zel hm).1 | (intro b o e; cases e; exact zaH (Or.inl (by omega))) | (intro b hm; have := (hu.lt b (Option.mem_toList.1 hm)).1; omega) | (intro b o e; cases e; intro hm; have := (hu.lt _ (Option.mem_toList.1 hm)).1; omega))); have := (hu.lt _ (Option.mem_toList.1 (hm_d903.kpd hS' (by first | (simp; done) | (simp; omega) | (simp [*]; done) | exact zaH (Or.inl (by omega)) | exact zaH (Or.inr (by simp)) | exact fun g hm => Nat.le_trans (by omega) (zel hm).1 | (intro b o e; cases e; exact zaH (Or.inl (by omega))) | (intro b hm; have := (hu.lt b (Option.mem_toList.1 hm)).1; omega) | (intro b o e; cases e; intro hm; have := (hu.lt _ (Option.mem_toList.1 hm)).1; omega))))).1; omega))) (by kernel_rfl) (by kernel_rfl) (by first | (simp; done) | (simp [zae, *]; done) | assumption))) ?_
  refine zaS 6 (by kernel_rfl) ?_
  refine zdG rfl rfl (zeW (k := 3) (e := 37) (.agg (bv X).toArray) (by kernel_rfl) (by kernel_rfl) hm rfl rfl rfl (n) (by first | rfl | omega) (by omega) (by omega) (fun w905 hm ho905 => ?_))
  have hS904 := hS903.aq ho905
  refine ⟨hS904, ?_⟩
  replace hLL := hLL.oq ho905
  replace hr5 := hr5.only ho905 (by omega)
  replace hr8 := hr8.only ho905 (by omega)
  replace hq := hq.only ho905 (by omega)
  rw [zhC, zpb] at hm
  have h2 := hh.zfK hm ho905
  refine zaR (by kernel_rfl) ?_
  refine zai (zak (zac (zaa rfl (zad) (zaf (zai (zax ?_))))))
  refine zar [_] ⟨rfl, trivial⟩ ?_
  have hXn : ¬ X = X0 := hne
  rw [if_neg hXn]
  exact ⟨rfl, ⟨_, h2.weak (fun b hb => by simp [hb])⟩, hLL⟩
 ·
  have hXn : X = X0 := hne
  rw [if_pos hXn]
  refine zau (zai (zak (zac (zaa rfl (zad) (zaf (zai (zax ?_)))))))
  refine zar [_] ⟨rfl, trivial⟩ ?_
  exact ⟨rfl, ⟨_, h.weak (fun b hb => by simp [hb])⟩, hLL⟩
end
def zcA (c : PgM) : Nat → Nat → List (Nat × Pg)
 | _, 0 => []
 | a, m + 1 => match c a with
  | some b => (a, b) :: zcA c (a + 1) m
  | none => zcA c (a + 1) m
theorem zg2 (c : PgM) : ∀ (m a : Nat), keysOf (zeA c) a m = (zcA c a m).map fun p => (p.1 : Int)
 | 0, a => rfl
 | m + 1, a => by
  have ih := zg2 c m (a + 1)
  rw [keysOf, zcA, ih]
  unfold zeA
  cases c a <;> rfl
theorem zc1 {c : PgM} : ∀ {m a : Nat} {p : Nat × Pg}, p ∈ zcA c a m → c p.1 = some p.2 ∧ a ≤ p.1 ∧ p.1 < a + m
 | 0, a, p, h => nomatch h
 | m + 1, a, p, h => by
  rw [zcA] at h
  split at h
  ·rcases List.mem_cons.1 h with rfl | h
   ·exact ⟨‹_›, Nat.le_refl _, by omega⟩
   ·have := zc1 h; exact ⟨this.1, by omega, by omega⟩
  ·have := zc1 h; exact ⟨this.1, by omega, by omega⟩
theorem zhD (c : PgM) : ∀ (m a : Nat), (zcA c a m).length ≤ m
 | 0, a => Nat.le_refl _
 | m + 1, a => by
  have := zhD c m (a + 1)
  rw [zcA]
  split
  ·rw [List.length_cons]; omega
  ·omega
def zbM (s : Nat) : Dk → List (Nat × Pg) → Dk × Bool
 | D, [] => (D, true)
 | D, p :: l => if (zaF D (1 + s + p.1 * 4) (za8 p.2 4)).2 then zbM s (zaF D (1 + s + p.1 * 4) (za8 p.2 4)).1 l else ((zaF D (1 + s + p.1 * 4) (za8 p.2 4)).1, false)
theorem zhE (s : Nat) : ∀ (l m : List (Nat × Pg)) (D : Dk), zbM s D (l ++ m) = if (zbM s D l).2 then zbM s (zbM s D l).1 m else zbM s D l
 | [], m, D => rfl
 | p :: l, m, D => by
  rw [List.cons_append, zbM, zbM]
  by_cases h : (zaF D (1 + s + p.1 * 4) (za8 p.2 4)).2 = true
  ·rw [if_pos h, if_pos h]; exact zhE s l m _
  ·rw [if_neg h, if_neg h]; rfl
theorem zef (s : Nat) : ∀ (l : List (Nat × Pg)) (D : Dk), (zbM s D l).1.V.length = D.V.length
 | [], D => rfl
 | p :: l, D => by
  rw [zbM]
  split
  ·rw [zef s l, zbo]
  ·exact zbo _ _ _
theorem zeB (s : Nat) : ∀ (l : List (Nat × Pg)) (D : Dk) (k : Nat), zbf D k → zbf (zbM s D l).1 (k + 4 * l.length)
 | [], D, k, h => h
 | p :: l, D, k, h => by
  have h1 := zcZ (za8 p.2 4) D (1 + s + p.1 * 4) k h
  rw [zbB] at h1
  rw [zbM, List.length_cons]
  split
  ·exact zbE (zeB s l _ _ h1) (by omega)
  ·exact zbE h1 (by omega)
def zcC (D : Dk) (G : Lg) : Int × Dk × Lg :=
 if G.dead then (10, D, G) else if G.count = 4611686018427387904 then (8, D, G)
 else if zcY D (G.count + 1) (G.count + 1) then (0, zbt D (G.count + 1) (G.count + 1), zfq G) else (10, zbt D (G.count + 1) (G.count + 1), { G with dead := true })
theorem zdj (D : Dk) (c s : Nat) : (zbt D c s).V.length = D.V.length := by
 unfold zbt
 split
 ·rw [zb0, zfi]
 ·exact zfi _ _ _
theorem zfM (D : Dk) (G : Lg) : (zcC D G).2.1.V.length = D.V.length ∧ (zcC D G).2.2.size = G.size := by
 unfold zcC
 split
 ·exact ⟨rfl, rfl⟩
 ·split
  ·exact ⟨rfl, rfl⟩
  ·split <;> exact ⟨zdj _ _ _, rfl⟩
def zbz (P : Pl) : Dk × Bool := zbM P.G.size P.D (zcA P.di 0 P.n)
def zaK (P : Pl) : Int × Pl :=
 if (zbz P).2 then
  if za3 (zbz P).1 then
   ((zcC (zbe (zbz P).1) P.G).1, { P with D := (zcC (zbe (zbz P).1) P.G).2.1, G := (zcC (zbe (zbz P).1) P.G).2.2, di := if (zcC (zbe (zbz P).1) P.G).1 = 0 then noP else P.di })
  else (10, { P with D := zbe (zbz P).1 })
 else (10, { P with D := (zbz P).1 })
section
variable {Y : World → List Nat → Prop} [Thing Y] {g x q mc md lo : Nat} {rv cv : Value} {L : List Nat} {P : Pl} {w w' : World}
omit [Thing Y] in
theorem zbc.setDz {D : Dk} (h : zbc g x q mc md rv cv Y lo L P w) (h2 : Two (DZ g D) Y lo (x :: (cv.ownBlock.toList ++ q :: mc :: md :: L)) w') (k : LoL lo (x :: (cv.ownBlock.toList ++ q :: mc :: md :: L)) w w') (hD : D.V.length = P.D.V.length) :
  zbc g x q mc md rv cv Y lo L { P with D := D } w' ∧ LoL lo (q :: md :: L) w w' := by
 have k2 : LoL lo (cv.ownBlock.toList ++ q :: mc :: md :: L) w w' := k.weak (Nat.le_refl _) fun b hb => List.mem_cons_of_mem _ hb
 exact ⟨h.setLg ⟨h2, h.lg.rowx.kpd k.kp (zaH (.inr (List.mem_cons_self ..))), h.lg.ge, h.lg.ni⟩ k2 rfl hD, k.weak (Nat.le_refl _) fun b hb => by
  simp only [List.mem_cons] at hb
  rcases hb with hb | hb | hb <;> simp [hb]⟩
theorem writePl (h : zbc g x q mc md rv cv Y lo L P w) (n : Nat) (X : Pg) (hX : X.length = 512) (hs : P.G.size ≤ 4000) (hn : 1 + P.G.size + n * 4 + 4 ≤ P.D.V.length) (hsh : zbf P.D 80000) :
  Calls Tryz.prog 45 [.pointer (some ⟨g, 0, none⟩), .int .i64 (P.G.size : Int), .int .i64 (n : Int), .agg (bv X).toArray].toArray w (Ret fun v w' => v = .int .i64 (if (zaF P.D (1 + P.G.size + n * 4) (za8 X 4)).2 then 0 else 10) ∧ zbc g x q mc md rv cv Y lo L { P with D := (zaF P.D (1 + P.G.size + n * 4) (za8 X 4)).1 } w' ∧ LoL lo (q :: md :: L) w w') :=
 (writeP h.lg.two P.G.size n X hX hs hn hsh).to fun v w' ⟨e, h2, k⟩ => ⟨e, h.setDz h2 k (zbo _ _ _)⟩
theorem flushPl (h : zbc g x q mc md rv cv Y lo L P w) :
  Calls Tryz.prog 66 [.pointer (some ⟨g, 0, none⟩)].toArray w (Ret fun v w' => v = .int .i64 (if za3 P.D then 0 else 10) ∧ zbc g x q mc md rv cv Y lo L { P with D := zbe P.D } w' ∧ LoL lo (q :: md :: L) w w') :=
 (zlA h.lg.two).to fun v w' ⟨e, h2, k⟩ => ⟨e, h.setDz h2 k zb0⟩
theorem truncPl (h : zbc g x q mc md rv cv Y lo L P w) (hc : P.G.count ≤ 4611686018427387904) (hsh : zbf P.D 90000) :
  Calls Tryz.prog 67 [.pointer (some ⟨x, 0, none⟩)].toArray w (Ret fun v w' => v = .int .i64 (zcC P.D P.G).1 ∧ zbc g x q mc md rv cv Y lo L { P with D := (zcC P.D P.G).2.1, G := (zcC P.D P.G).2.2 } w' ∧ LoL lo L w w') := by
 refine (trunc18 h.lg hc hsh).to fun v w' ⟨e, hv, k, hh⟩ => ?_
 have hr : e = (zcC P.D P.G).1 ∧ zdz g x Y lo (cv.ownBlock.toList ++ q :: mc :: md :: L) (zcC P.D P.G).2.1 (zcC P.D P.G).2.2 w' := by
  unfold zcC
  rcases hh with ⟨h1, h2, h3⟩ | ⟨h1, h2, h3, h4⟩ | ⟨h1, h2, h3, h4, h5⟩ | ⟨h1, h2, h3, h4, h5⟩
  ·rw [if_pos h1]; exact ⟨h2, h3⟩
  ·rw [if_neg (by rw [h1]; simp), if_pos h2]; exact ⟨h3, h4⟩
  ·rw [if_neg (by rw [h1]; simp), if_neg (by omega), if_neg (by rw [h3]; simp)]; exact ⟨h4, h5⟩
  ·rw [if_neg (by rw [h1]; simp), if_neg (by omega), if_pos h3]; exact ⟨h4, h5⟩
 have hs := zfM P.D P.G
 exact ⟨by rw [hv, hr.1], h.setLg hr.2 k hs.2 hs.1, h.outLo k⟩
theorem zbc.sl {p : Option Addr} {m sz : Nat} {cs : List Value} (h : zbc g x q mc md rv cv Y lo L P w) (hb : Below w.heap.size w w') (hs : za9 w' p m sz cs) (hsz : 0 < sz) (hf : ∀ b o, p = some ⟨b, o, none⟩ → w.heap.size ≤ b) :
  ∃ L2, (∀ b ∈ L, b ∈ L2) ∧ (0 < m → ∀ b o, p = some ⟨b, o, none⟩ → b ∈ L2) ∧ zbc g x q mc md rv cv Y lo L2 P w' := by
 by_cases h0 : 0 < m
 ·obtain ⟨gp, op, rfl, hl⟩ := hs.some (Nat.mul_pos h0 hsz)
  exact ⟨gp :: L, fun b hb => List.mem_cons_of_mem _ hb, fun _ b o e => by cases e; exact List.mem_cons_self .., h.newc hb (hf gp op rfl) hl⟩
 ·exact ⟨L, fun b hb => hb, fun h1 => absurd h1 h0, h.new hb⟩
set_option maxRecDepth 20000 in
set_option maxHeartbeats 1000000 in
theorem zn1 (h : zbc g x q mc md cv cv Y lo L P w) (hok : zh2 P) (hsh : zbf P.D 70000) :
   Calls Tryz.prog 39 [.pointer (some ⟨q, 0, none⟩)].toArray w (Ret fun v w' => v = .int .i64 (zaK P).1 ∧ zbc g x q mc md cv cv Y lo L (zaK P).2 w' ∧ LoL lo L w w') := by
 have hnl := h.nle.1
 have hml : maxLen = 9223372036854775807 := by decide
 have hsm := hok.lg.szm
 have hrm := fun n (hn : n < P.n) => (zit hok hn).1
 have hkp : zfJ P.di P.n = (zcA P.di 0 P.n).map fun p => (p.1 : Int) := zg2 P.di P.n 0
 have hcm := hok.lg.cm
 have hDi := zlM h
 have hmem := fun (p : Nat × Pg) (hp : p ∈ zcA P.di 0 P.n) => zc1 hp
 have hll := zhD P.di P.n 0
 obtain ⟨R, hR⟩ : ∃ R, zaK P = R := ⟨_, rfl⟩
 rw [hR]
 unfold zaK zbz at hR
 obtain ⟨l, hl⟩ : ∃ l, zcA P.di 0 P.n = l := ⟨_, rfl⟩
 rw [hl] at hkp hmem hll
 simp only [hl] at hR
 have hkl : (zfJ P.di P.n).length = l.length := by rw [hkp, List.length_map]
 obtain ⟨ks, hks⟩ : ∃ ks, zfJ P.di P.n = ks := ⟨_, rfl⟩
 rw [hks] at hkp hDi hkl
 have hsl := zeB P.G.size l P.D 70000 hsh
 have hB0 := Below.refl w.heap.size w
 refine zaw (fn := Tryz.f39) (rs := [.tmp 2]) (n := 55) Tryz.func39 rfl rfl Tryz.ntmps39 (by kernel_rfl) rfl ?_
 refine zak (zac (zaa rfl (zad) (zaf (zai (zak (zak (zac (zaa rfl (zab) ?_))))))))
 refine zat rfl (zao (by kernel_rfl) rfl) (hDi) ?_
 rintro _ w9 ⟨⟨p, c, rfl, hks1, hpb⟩, hb9⟩
 replace hB0 := hB0.acc hb9
 refine zaa rfl (zaA (e := 3) (sz := 1) (by kernel_rfl) rfl rfl) ?_
 refine zaa rfl (zab) (zaf (zai (zaD ?_)))
 have hN := h.sl hB0 hks1 (by omega) hpb
 obtain ⟨L2, hL12, hpL, hP⟩ := hN
 have hLL := LoL.refl lo L2 w9
 have hlt0 := hP.ltL
 refine zbF (α := Nat) 0 (fun i => [(11, .int .i64 (i : Nat)), (10, .int .i64 (ks.length : Int)), (9, .slice p ks.length c), (0, .pointer (some ⟨q, 0, none⟩))])
   (fun i w' => i ≤ l.length ∧ (zbM P.G.size P.D (l.take i)).2 = true ∧ zbc g x q mc md cv cv Y lo L2 { P with D := (zbM P.G.size P.D (l.take i)).1 } w' ∧ za9 w' p ks.length 1 (iv ks) ∧ LoL lo L2 w9 w') (fun i => l.length - i)
   ⟨rfl, rfl, rfl, rfl, rfl⟩ ⟨Nat.zero_le _, rfl, hP, hks1, hLL⟩ ?_
 clear hP hks1 hLL
 rintro i f wr ⟨hi, hwok, hP, hks1, hLL⟩
 have hwl := zef P.G.size (l.take i) P.D
 have hws := zeB P.G.size (l.take i) P.D 70000 hsh
 rw [List.length_take] at hws
 refine zak (zac ?_)
 refine zaa rfl (zbd rfl rfl) ?_
 refine zaf (zai (zak ?_))
 refine zaZ rfl (fun hlt => ?_) (fun hlt => ?_)
 ·
  refine zau (zai (zak (zaD (zak ?_))))
  have hob : ∃ pr, l[i]? = some pr := ⟨_, List.getElem?_eq_getElem (by omega)⟩
  obtain ⟨⟨n, X⟩, hpr⟩ := hob
  have hki : ks[i]? = some (n : Int) := by rw [hkp, List.getElem?_map, hpr]; rfl
  have hm3 := hmem _ (List.mem_of_getElem? hpr)
  dsimp only at hm3
  have hXl := hok.di n X hm3.1
  have hnN : n < P.n := by omega
  have hrn := hrm n hnN
  have hobg := hks1.some (by omega)
  obtain ⟨gp, op, hgp, hgpl⟩ := hobg
  subst hgp
  have hgpL : gp ∈ L2 := hpL (by omega) gp op rfl
  have htk : l.take (i + 1) = l.take i ++ [(n, X)] := by rw [List.take_add_one, hpr]; rfl
  have hap := zhE P.G.size (l.take i) [(n, X)] P.D
  rw [← htk, if_pos hwok] at hap
  have hvv : (zeA P.di n).getD (.agg zP.toArray) = .agg (bv X).toArray := by unfold zeA; rw [hm3.1]; rfl
  have hq := hP.row
  unfold plV at hq
  have hd : MapAt Tryz.prog 3 wr md P.n (zeA P.di) := by
    have h1 := hP.mdi
    unfold Pl.n at h1 ⊢
    dsimp only at h1
    rw [hwl] at h1
    exact h1
  refine zac ?_
  refine zaa rfl (zbm (e := 3) (by kernel_rfl) rfl rfl (i) (by omega) (by omega)) ?_
  refine zaa rfl (zam rfl (Ld.sl1 hks1 (by kernel_rfl) (zeq hki))) ?_
  refine zaa rfl (zad) (zaf (zai (zak ?_)))
  refine zeZ (lo) ((q :: md :: L2)) (by kernel_rfl) ?_
  intro w901 hb901 hn901 hS901
  replace hP := hP.new hb901
  replace hLL := hLL.new hb901
  replace hks1 := hks1.new hb901
  replace hq := hq.new hb901
  replace hd := hd.new hb901
  have hP_d901 := hP
  have hLL_d901 := hLL
  have hks1_d901 := hks1
  have hq_d901 := hq
  have hd_d901 := hd
  refine zah 0 (by kernel_rfl) rfl (fun _ _ => zab) ?_
  refine zah 1 (by kernel_rfl) rfl (fun _ _ => zal rfl) ?_
  refine zah 2 (by kernel_rfl) rfl (fun _ _ => zaj (off := 0) (by kernel_rfl) rfl) ?_
  refine zah 3 (by kernel_rfl) rfl (fun w' hS' => zam rfl (Ld.zbb (hq_d901.kL hS') (by kernel_rfl) rfl)) ?_
  refine zah 4 (by kernel_rfl) rfl (fun _ _ => zab) ?_
  refine zah 5 (by kernel_rfl) rfl (fun _ _ => zal rfl) ?_
  refine zah 6 (by kernel_rfl) rfl (fun _ _ => zaj (off := 2) (by kernel_rfl) rfl) ?_
  refine zah 7 (by kernel_rfl) rfl (fun w' hS' => zam rfl (Ld.zbb (hq_d901.kL hS') (by kernel_rfl) rfl)) ?_
  refine zah 8 (by kernel_rfl) rfl (fun _ _ => zab) ?_
  refine zah 9 (by kernel_rfl) rfl (fun _ _ => zab) ?_
  refine zah 10 (by kernel_rfl) rfl (fun _ _ => zal rfl) ?_
  refine zah 11 (by kernel_rfl) rfl (fun _ _ => zaj (off := 5) (by kernel_rfl) rfl) ?_
  refine zah 12 (by kernel_rfl) rfl (fun w' hS' => zam rfl (Ld.zbb (hq_d901.kL hS') (by kernel_rfl) rfl)) ?_
  refine zah 13 (by kernel_rfl) rfl (fun _ _ => zab) ?_
  refine zah 14 (by kernel_rfl) rfl (fun w' hS' => zdw (k := 3) (e := 37) ((.agg zP.toArray)) (by kernel_rfl) (by kernel_rfl) (by intro w; first | kernel_rfl | rfl) (hd_d901.kpd hS' (by first | (simp; done) | (simp; omega) | (simp [*]; done) | exact zaH (Or.inl (by omega)) | exact zaH (Or.inr (by simp)) | exact fun g hm => Nat.le_trans (by omega) (zel hm).1 | (intro b o e; cases e; exact zaH (Or.inl (by omega))) | (intro b hm; have := (hu.lt b (Option.mem_toList.1 hm)).1; omega) | (intro b o e; cases e; intro hm; have := (hu.lt _ (Option.mem_toList.1 hm)).1; omega))) rfl rfl (n) (by first | rfl | omega) (by omega) (by omega) hvv) ?_
  refine zaS 15 (by kernel_rfl) ?_
  have hwp := writePl hP n X hXl hsm (by dsimp only; omega) (zbE hws (by omega))
  dsimp only at hwp
  refine zcq rfl rfl (zao (by kernel_rfl) rfl) (hwp) ?_
  rintro _ w30 ⟨rfl, hP, hb30⟩
  have hS902 := hS901.zjK hn901 hb30
  refine ⟨hS902, ?_⟩
  replace hLL := hLL.lq hb30
  replace hks1 := hks1.kpd hb30.kp (by first | (refine zaH ?_; left; omega) | (refine zaH ?_; right; simp; done) | (intro b o e; cases e; first | (refine zaH ?_; left; omega) | (refine zaH ?_; right; simp; done) | (refine zaH ?_; right; simp [*]; done)) | (intro b hb; refine zaH ?_; left; omega) | (intro b hb e; cases e; exact zaH (by right; simp [*]) hb))
  refine zah 16 (by kernel_rfl) rfl (fun _ _ => zad) ?_
  refine zaR (by kernel_rfl) ?_
  refine zai (zak (zac (zaa rfl (zab) ?_)))
  refine zaa rfl (zaW rfl rfl) ?_
  refine zaf (zai ?_)
  refine zaZ rfl (fun hne => ?_) (fun hne => ?_)
  ·
   refine zak (zac (zaa rfl (zab) (zaa rfl (zad) (zaf (zai (zax (za6 (zaT (zc6 (za6 (zaT ?_)))))))))))
   refine zar [_] ⟨rfl, trivial⟩ ?_
   have hf : (zaF (zbM P.G.size P.D (l.take i)).1 (1 + P.G.size + n * 4) (za8 X 4)).2 = false := by cases hq : (zaF (zbM P.G.size P.D (l.take i)).1 (1 + P.G.size + n * 4) (za8 X 4)).2 with | false => rfl | true => simp [hq] at hne
   have hbad : zbM P.G.size P.D l = ((zaF (zbM P.G.size P.D (l.take i)).1 (1 + P.G.size + n * 4) (za8 X 4)).1, false) := by
     have h1 := zhE P.G.size (l.take (i + 1)) (l.drop (i + 1)) P.D
     have h2 : zbM P.G.size P.D (l.take (i + 1)) = ((zaF (zbM P.G.size P.D (l.take i)).1 (1 + P.G.size + n * 4) (za8 X 4)).1, false) := by
      rw [hap, zbM, if_neg (by rw [hf]; simp)]
     rw [List.take_append_drop, h2, if_neg (by simp)] at h1
     exact h1
   rw [hbad, if_neg (by simp)] at hR
   subst hR
   refine ⟨by rw [hf]; rfl, hP.weak hL12, ?_⟩
   exact (LoL.of_below hB0).ll hLL hL12
  ·
   have hf : (zaF (zbM P.G.size P.D (l.take i)).1 (1 + P.G.size + n * 4) (za8 X 4)).2 = true := by cases hq : (zaF (zbM P.G.size P.D (l.take i)).1 (1 + P.G.size + n * 4) (za8 X 4)).2 with | true => rfl | false => simp [hq] at hne
   rw [zbM, if_pos hf, zbM] at hap
   refine zau (za2 (zai (zac ?_)))
   refine zaa rfl (zaV rfl rfl (Coup.w64 (by omega))) ?_
   refine zaa rfl (zab) (zaf ?_)
   refine zbq ⟨i + 1, by omega, ⟨by go_num, rfl, rfl, rfl, rfl⟩, by omega, by rw [hap], by rw [hap]; exact hP, hks1, hLL⟩
 ·
  have hil : i = l.length := by omega
  subst hil
  rw [List.take_length] at hP hwok
  rw [List.take_length] at hwl
  rw [if_pos hwok] at hR
  have hobt : ∃ D1, (zbM P.G.size P.D l).1 = D1 := ⟨_, rfl⟩
  obtain ⟨D1, hD1⟩ := hobt
  rw [hD1] at hP hwl hsl hR
  have hfl := flushPl hP
  dsimp only at hfl
  have hq := hP.row
  unfold plV at hq
  obtain ⟨hdl, hdL⟩ := hP.mdl
  refine zbp (zbW (zb9 (zbw (zai (zak (zak (zac (zaa rfl (zab) (zaa rfl (zal rfl) (zaa rfl (zaj (off := 0) (by kernel_rfl) rfl) ?_))))))))))
  refine zaa rfl (zam rfl (Ld.zbb hq (by kernel_rfl) rfl)) ?_
  refine zat rfl (zao (by kernel_rfl) rfl) (hfl) ?_
  rintro _ w39 ⟨rfl, hP, hb39⟩
  replace hLL := hLL.lq hb39
  refine zaa rfl (zad) (zaf (zai (zak (zac (zaa rfl (zab) ?_)))))
  refine zaa rfl (zaW rfl rfl) ?_
  refine zaf (zai ?_)
  refine zaZ rfl (fun hne => ?_) (fun hne => ?_)
  ·
   refine zak (zac (zaa rfl (zab) (zaa rfl (zad) (zaf (zai (zax (zaT ?_)))))))
   refine zar [_] ⟨rfl, trivial⟩ ?_
   have hf : za3 D1 = false := by cases hq : za3 D1 with | false => rfl | true => simp [hq] at hne
   rw [if_neg (by rw [hf]; simp)] at hR
   subst hR
   exact ⟨by rw [hf]; rfl, hP.weak hL12, (LoL.of_below hB0).ll hLL hL12⟩
  ·
   have hf : za3 D1 = true := by cases hq : za3 D1 with | true => rfl | false => simp [hq] at hne
   rw [if_pos hf] at hR
   have htr := truncPl hP hcm (fun v hv => by
     rw [zbe, if_pos hf] at hv
     obtain ⟨u, _, rfl⟩ := List.mem_map.1 hv
     show 1 ≤ 90000
     omega)
   dsimp only at htr
   have htl := zfM (zbe D1) P.G
   have hobt : ∃ t, zcC (zbe D1) P.G = t := ⟨_, rfl⟩
   obtain ⟨⟨te, tD, tG⟩, htR⟩ := hobt
   simp only [htR] at htr htl hR
   have hq := hP.row
   unfold plV at hq
   refine zau (zai (zak (zak (zac (zaa rfl (zab) (zaa rfl (zal rfl) (zaa rfl (zaj (off := 1) (by kernel_rfl) rfl) ?_)))))))
   refine zaa rfl (zam rfl (Ld.zbb hq (by kernel_rfl) rfl)) ?_
   refine zat rfl (zao (by kernel_rfl) rfl) (htr) ?_
   rintro _ w47 ⟨rfl, hP, hb47⟩
   replace hLL := hLL.lq hb47
   refine zaa rfl (zad) (zaf (zai (zak (zac (zaa rfl (zab) ?_)))))
   refine zaa rfl (zaW rfl rfl) ?_
   refine zaf (zai ?_)
   refine zaZ rfl (fun hne => ?_) (fun hne => ?_)
   ·
    refine zak (zac (zaa rfl (zab) (zaa rfl (zad) (zaf (zai (zax (zaT ?_)))))))
    refine zar [_] ⟨rfl, trivial⟩ ?_
    have hf2 : ¬ te = 0 := hne
    rw [if_neg hf2] at hR
    subst hR
    exact ⟨rfl, hP.weak hL12, (LoL.of_below hB0).ll hLL hL12⟩
   ·
    have hf2 : te = 0 := by simpa using hne
    rw [if_pos hf2] at hR
    subst hR
    have hq := hP.row
    unfold plV at hq
    refine zau (zai (zak (zac (zaa rfl (zab) (zaa rfl (zal rfl) (zaa rfl (zaj (off := 5) (by kernel_rfl) rfl) ?_))))))
    refine zaa rfl (zam rfl (Ld.zbb hq (by kernel_rfl) rfl)) ?_
    have hd := hP.mdi
    refine zaX rfl (zfI (k := 3) (e := 37) (by kernel_rfl) hd rfl (fun w903 hd ho903 => ?_))
    replace hLL := hLL.oq ho903
    have hP2 := hP.setDi (c := noP) hd ho903
    refine zaf (zai (zak (zac (zaa rfl (zad) (zaf (zai (zax ?_)))))))
    refine zar [_] ⟨rfl, trivial⟩ ?_
    exact ⟨by rw [hf2]; rfl, hP2.weak hL12, (LoL.of_below hB0).ll hLL hL12⟩
end
theorem zn2 (c : PgM) : ∀ (m a : Nat), (kvL (zeA c) a m).length = (zcA c a m).length
 | 0, a => rfl
 | m + 1, a => by
  have ih := zn2 c m (a + 1)
  rw [kvL, zcA]
  have e : zeA c a = (c a).map pgV := rfl
  rw [e]
  cases c a with
  | some b => simp only [Option.map_some, List.length_cons, ih]
  | none => simpa using ih
def keepR (e : Int) (P : Pl) : Pl := { P with dead := P.dead || decide (e = 10) }
def zbk (P : Pl) : Int × Pl := if (zcA P.ch 0 P.n).length = 0 then ((zaK P).1, keepR (zaK P).1 (zaK P).2) else (17, P)
section
variable {Y : World → List Nat → Prop} [Thing Y] {g x q mc md lo : Nat} {rv cv : Value} {L : List Nat} {P : Pl} {w w' : World}
set_option maxRecDepth 20000 in
theorem checkNo (h : zbc g x q mc md rv cv Y lo L P w) (hsz : P.G.size ≤ 4000) (hde : P.dead = true) : Calls Tryz.prog 19 [.pointer (some ⟨q, 0, none⟩)].toArray w (Ret fun v w' => v = .int .i64 10 ∧ Below w.heap.size w w') := by
 have hB := Below.refl w.heap.size w
 have hrd := zfs h hsz 0
 unfold zce at hrd
 rw [if_pos hde] at hrd
 refine zaw (fn := Tryz.f19) (rs := [.tmp 2]) (n := 19) Tryz.func19 rfl rfl Tryz.ntmps19 (by kernel_rfl) rfl ?_
 refine zak (zac (zaa rfl (zad) (zaf (zai (zak (zak (zac (zaa rfl (zab) ?_))))))))
 refine zat rfl (zao (by kernel_rfl) rfl) (hrd) ?_
 rintro _ w5 ⟨rfl, hb5⟩
 replace hB := hB.acc hb5
 refine zaa rfl (zad) (zaf (zai (zak (zac (zaa rfl (zab) ?_)))))
 refine zaa rfl (zaW rfl rfl) ?_
 refine zaf (zai ?_)
 refine zkt rfl ((by simp)) ?_
 refine zak (zac (zaa rfl (zab) (zaa rfl (zad) (zaf (zai (zax (zaT ?_)))))))
 refine zar [_] ⟨rfl, trivial⟩ ?_
 exact ⟨rfl, hB⟩
set_option maxRecDepth 20000 in
theorem checkP (h : zbc g x q mc md cv cv Y lo L P w) (hok : zh2 P) (hde : P.dead = false) (hsh : zbf P.D 70000) : Calls Tryz.prog 19 [.pointer (some ⟨q, 0, none⟩)].toArray w (Ret fun v w' => v = .int .i64 (zbk P).1 ∧ zbc g x q mc md cv cv Y lo L (zbk P).2 w' ∧ LoL lo L w w') := by
 have hLL := LoL.refl lo L w
 have hn4 := hok.n4
 have hrd := zfs h hok.lg.szm 0
 unfold zce at hrd
 have hin : (0 : Int) ≤ 0 ∧ (0 : Int) < (P.n : Int) := by omega
 rw [hde, if_neg (by simp), if_pos hin] at hrd
 have hst := fun w' (h' : zbc g x q mc md cv cv Y lo L P w') => zn1 h' hok hsh
 obtain ⟨R, hR⟩ : ∃ R, zbk P = R := ⟨_, rfl⟩
 rw [hR]
 unfold zbk at hR
 obtain ⟨⟨e, P2⟩, hse⟩ : ∃ p, zaK P = p := ⟨_, rfl⟩
 simp only [hse] at hst hR
 have hkp := fun w' (h' : zbc g x q mc md cv cv Y lo L P2 w') => keepP h' e
 have hkv := zn2 P.ch P.n 0
 have hq := h.row
 unfold plV at hq
 have hm := h.mch
 refine zaw (fn := Tryz.f19) (rs := [.tmp 2]) (n := 19) Tryz.func19 rfl rfl Tryz.ntmps19 (by kernel_rfl) rfl ?_
 refine zak (zac (zaa rfl (zad) (zaf (zai (zak (zak (zac (zaa rfl (zab) ?_))))))))
 refine zat rfl (zao (by kernel_rfl) rfl) (hrd) ?_
 rintro _ w5 ⟨rfl, hb5⟩
 replace h := h.new hb5
 replace hq := hq.new hb5
 replace hm := hm.new hb5
 replace hLL := hLL.new hb5
 refine zaa rfl (zad) (zaf (zai (zak (zac (zaa rfl (zab) ?_)))))
 refine zaa rfl (zaW rfl rfl) ?_
 refine zaf (zai ?_)
 refine zdT rfl ((by simp)) ?_
 refine zau (zai (zak (zak (zac (zaa rfl (zab) (zaa rfl (zal rfl) (zaa rfl (zaj (off := 4) (by kernel_rfl) rfl) ?_)))))))
 refine zaa rfl (zam rfl (Ld.zbb hq (by kernel_rfl) rfl)) ?_
 refine zaa rfl (znT (k := 3) (e := 37) (by kernel_rfl) hm rfl) ?_
 refine zaa rfl (zbU rfl rfl) ?_
 refine zaf (zai ?_)
 refine zaZ rfl (fun hgt => ?_) (fun hgt => ?_)
 ·
  refine zak (zac (zaa rfl (zad) (zaf (zai (zax (zaT ?_))))))
  refine zar [_] ⟨rfl, trivial⟩ ?_
  have hne : ¬ (zcA P.ch 0 P.n).length = 0 := by rw [← hkv]; omega
  rw [if_neg hne] at hR
  subst hR
  exact ⟨rfl, h, hLL⟩
 ·
  have hne : (zcA P.ch 0 P.n).length = 0 := by rw [← hkv]; omega
  rw [if_pos hne] at hR
  subst hR
  refine zau (zai (zak (zac (zaa rfl (zab) (zaa rfl (zab) ?_)))))
  refine zat rfl (zao (by kernel_rfl) rfl) (hst w5 h) ?_
  rintro _ w17 ⟨rfl, h, hb17⟩
  replace hLL := hLL.lq hb17
  refine zat rfl (zao (by kernel_rfl) rfl) (hkp w17 h) ?_
  rintro _ w18 ⟨rfl, h, hb18⟩
  replace hLL := hLL.lq hb18
  refine zaa rfl (zad) (zaf (zai (zax ?_)))
  refine zar [_] ⟨rfl, trivial⟩ ?_
  exact ⟨rfl, h, hLL⟩
end
def zaU (P : Pl) : Rec := (zcA P.ch 0 P.n).map fun p => ⟨p.1, p.2⟩
def zbi (P : Pl) : Int × Pl := if ((P.G.size - P.G.at_ : Nat) : Int) < zbK ((zaU P).length : Int) then zaK P else (0, P)
def za5 (P : Pl) (R : Rec) : Pl := R.foldl (fun P c => { P with di := zdB P.di c.num.toNat (some c.page), cl := without P.cl c.num }) P
def zb7 (P : Pl) (R : Rec) : Pl := { P with D := (zbs P.D P.G R).2.1, G := (zbs P.D P.G R).2.2 }
def zaC (P : Pl) : Int × Pl :=
 if (zaU P).length = 0 then (0, P) else if 60 < (zaU P).length then (3, P) else if (P.G.size : Int) < zbK ((zaU P).length : Int) then (8, P)
 else if (zbi P).1 = 0 then
  if (zbs (zbi P).2.D (zbi P).2.G (zaU P)).1 = 0 then (0, { za5 (zb7 (zbi P).2 (zaU P)) (zaU P) with ch := noP })
  else ((zbs (zbi P).2.D (zbi P).2.G (zaU P)).1, keepR (zbs (zbi P).2.D (zbi P).2.G (zaU P)).1 (zb7 (zbi P).2 (zaU P)))
 else ((zbi P).1, keepR (zbi P).1 (zbi P).2)
theorem zmE {R : Rec} {i : Nat} {c : Ch} (h : R[i]? = some c) (P : Pl) : za5 P (R.take (i + 1)) = { za5 P (R.take i) with di := zdB (za5 P (R.take i)).di c.num.toNat (some c.page), cl := without (za5 P (R.take i)).cl c.num } := by
 rw [List.take_add_one, h, za5, List.foldl_append]
 rfl
theorem zcn : ∀ (R : Rec) (P : Pl), (za5 P R).D = P.D ∧ (za5 P R).G = P.G ∧ (za5 P R).fr = P.fr ∧ (za5 P R).ch = P.ch ∧ (za5 P R).dead = P.dead ∧ (za5 P R).n = P.n ∧ (zbD P.cl → zbD (za5 P R).cl) ∧ (za5 P R).cl.length ≤ P.cl.length
 | [], P => ⟨rfl, rfl, rfl, rfl, rfl, rfl, id, Nat.le_refl _⟩
 | c :: R, P => by
  obtain ⟨h1, h2, h3, h4, h5, h6, h7, h8⟩ := zcn R { P with di := zdB P.di c.num.toNat (some c.page), cl := without P.cl c.num }
  exact ⟨h1, h2, h3, h4, h5, h6, fun hc => h7 (zgv hc c.num), Nat.le_trans h8 (zfL P.cl c.num)⟩
theorem zpc (D : Dk) (a : Nat) (R : List Sec) : (zcO D a R).1.V.length = D.V.length := by
 unfold zcO
 split
 ·rw [zb0, zbo]
 ·exact zbo _ _ _
theorem zdk (D : Dk) (G : Lg) (R : Rec) : (zbs D G R).2.1.V.length = D.V.length ∧ (zbs D G R).2.2.size = G.size := by
 unfold zbs
 split
 ·exact ⟨rfl, rfl⟩
 ·split
  ·exact ⟨rfl, rfl⟩
  ·split
   ·exact ⟨rfl, rfl⟩
   ·split <;> exact ⟨zpc _ _ _, rfl⟩
theorem zcc (P : Pl) : (zaK P).2.D.V.length = P.D.V.length ∧ (zaK P).2.G.size = P.G.size ∧ (zaK P).2.ch = P.ch ∧ (zaK P).2.cl = P.cl ∧ (zaK P).2.fr = P.fr ∧ (zaK P).2.dead = P.dead ∧ (zaK P).2.n = P.n := by
 have h1 := zef P.G.size (zcA P.di 0 P.n) P.D
 have h3 : ∀ D, (zbe D).V.length = D.V.length := fun D => zb0
 have h2 := zfM (zbe (zbz P).1) P.G
 unfold zaK
 split
 ·split
  ·have e : (zcC (zbe (zbz P).1) P.G).2.1.V.length = P.D.V.length := by rw [h2.1, h3]; exact h1
   refine ⟨e, h2.2, rfl, rfl, rfl, rfl, ?_⟩
   unfold Pl.n; dsimp only; rw [e, h2.2]
  ·have e : (zbe (zbz P).1).V.length = P.D.V.length := by rw [h3]; exact h1
   refine ⟨e, rfl, rfl, rfl, rfl, rfl, ?_⟩
   unfold Pl.n; dsimp only; rw [e]
 ·refine ⟨h1, rfl, rfl, rfl, rfl, rfl, ?_⟩
  unfold Pl.n zbz; dsimp only; rw [h1]
theorem zhF {D : Dk} (h : za3 D = true) : zbf (zbe D) 1 := fun v hv => by
 rw [zbe, if_pos h] at hv
 obtain ⟨u, _, rfl⟩ := List.mem_map.1 hv
 exact Nat.le_refl 1
theorem zhG {P : Pl} (hok : zh2 P) (he : (zaK P).1 = 0) : zh2 (zaK P).2 ∧ zbf (zaK P).2.D 1 ∧ (zaK P).2.di = noP ∧ (zaK P).2.G = zfq P.G ∧ P.G.dead = false ∧ P.G.count < 4611686018427387904 ∧
  (zbz P).2 = true ∧ za3 (zbz P).1 = true ∧ zcY (zbe (zbz P).1) (P.G.count + 1) (P.G.count + 1) = true ∧ (zaK P).2.D = zbt (zbe (zbz P).1) (P.G.count + 1) (P.G.count + 1) := by
 obtain ⟨l1, l2, l3, l4, l5, l6, l7⟩ := zcc P
 have hlg := hok.lg
 have hcore : (zbz P).2 = true ∧ za3 (zbz P).1 = true ∧ P.G.dead = false ∧ P.G.count < 4611686018427387904 ∧ zcY (zbe (zbz P).1) (P.G.count + 1) (P.G.count + 1) = true ∧
   zaK P = (0, { P with D := zbt (zbe (zbz P).1) (P.G.count + 1) (P.G.count + 1), G := zfq P.G, di := noP }) := by
  unfold zaK at he ⊢
  by_cases h1 : (zbz P).2 = true
  ·rw [if_pos h1] at he ⊢
   by_cases h2 : za3 (zbz P).1 = true
   ·rw [if_pos h2] at he ⊢
    refine ⟨h1, h2, ?_⟩
    generalize zbe (zbz P).1 = D1 at *
    dsimp only at he
    unfold zcC at he ⊢
    by_cases h3 : P.G.dead = true
    ·rw [if_pos h3] at he; exact absurd he (by simp)
    ·rw [if_neg h3] at he ⊢
     by_cases h4 : P.G.count = 4611686018427387904
     ·rw [if_pos h4] at he; exact absurd he (by simp)
     ·rw [if_neg h4] at he ⊢
      by_cases h5 : zcY D1 (P.G.count + 1) (P.G.count + 1) = true
      ·rw [if_pos h5]
       exact ⟨by simpa using h3, by have := hlg.cm; omega, h5, rfl⟩
      ·rw [if_neg h5] at he; exact absurd he (by simp)
   ·rw [if_neg h2] at he; exact absurd he (by simp)
  ·rw [if_neg h1] at he; exact absurd he (by simp)
 obtain ⟨c1, c2, c3, c4, c5, c6⟩ := hcore
 rw [c6] at l1 l7 ⊢
 dsimp only at l1 l7
 refine ⟨⟨⟨?_, ?_, ?_, hlg.sz4, hlg.szm, Nat.zero_le _, Nat.le_refl _, ?_⟩, ?_, hok.fr2, hok.frm, hok.ch, (fun i b h => nomatch h), hok.cl, hok.cll⟩, ?_, rfl, rfl, c3, c4, c1, c2, c5, rfl⟩
 ·show 1 ≤ P.G.count + 1; omega
 ·show P.G.count + 1 ≤ P.G.count + 1; omega
 ·show P.G.count + 1 ≤ _; omega
 ·show 1 + P.G.size ≤ (zbt _ _ _).V.length
  rw [l1]; exact hlg.fit
 ·rw [l7]; exact hok.n4
 ·unfold zcY at c5
  rw [Bool.and_eq_true] at c5
  show zbf (zbt _ _ _) 1
  unfold zbt
  rw [if_pos c5.1]
  exact zhF c5.2
theorem zgw {P : Pl} (hok : zh2 P) : zbD (zaU P) ∧ (zaU P).length ≤ P.n ∧ ∀ c ∈ zaU P, ∃ n : Nat, c.num = n ∧ n < P.n ∧ P.ch n = some c.page := by
 refine ⟨fun c hc => ?_, ?_, fun c hc => ?_⟩
 ·obtain ⟨p, hp, rfl⟩ := List.mem_map.1 hc
  exact hok.ch _ _ (zc1 hp).1
 ·unfold zaU; rw [List.length_map]; exact zhD _ _ _
 ·obtain ⟨p, hp, rfl⟩ := List.mem_map.1 hc
  have := zc1 hp
  exact ⟨p.1, rfl, by omega, this.1⟩
theorem ld_chp {w : World} {g t : Nat} {c : Ch} (h : row w g (chV c) t) (hc : c.page.length = 512) : Ld Tryz.prog w 37 ⟨g, 1, none⟩ (.agg (bv c.page).toArray) := by
 have h1 := Ld.rowN (P := Tryz.prog) (t := 37) (k := 512) (off := 1) h (by kernel_rfl) (by kernel_rfl) (by rw [zcX hc]; omega)
 have e : ((chV c).drop 1).take 512 = bv c.page := by
  rw [chV, List.drop_succ_cons, List.drop_zero, List.take_of_length_le (by rw [zae, hc]; exact Nat.le_refl _)]
 rw [e] at h1
 exact h1
section
variable {Y : World → List Nat → Prop} [Thing Y] {g x q mc md lo : Nat} {rv cv : Value} {L : List Nat} {P : Pl} {w w' : World}
theorem zpd (h : zbc g x q mc md rv cv Y lo L P w) (hok : zo1 P.D P.G) (hsh : zbf P.D 80000) (R : Rec) (hR : zbD R) (p : Option Addr) (n cp : Nat) (hs : za9 w p n 513 (zbT R)) (hn : R.length = n) (hn2 : n ≤ 1000000) :
  Calls Tryz.prog 41 [.pointer (some ⟨x, 0, none⟩), .slice p n cp].toArray w (Ret fun v w' => v = .int .i64 (zbs P.D P.G R).1 ∧ zbc g x q mc md rv cv Y lo L (zb7 P R) w' ∧ LoL lo L w w') := by
 refine (zo2 h.lg hok hsh R hR p n cp hs hn hn2).to fun v w' ⟨hv, hG, k⟩ => ?_
 have hs := zdk P.D P.G R
 exact ⟨hv, h.setLg hG k hs.2 hs.1, h.outLo k⟩
set_option maxRecDepth 20000 in
theorem zpe (h : zbc g x q mc md rv cv Y lo L P w) (hsz : P.G.size ≤ 4000) (hde : P.dead = true) : Calls Tryz.prog 16 [.pointer (some ⟨q, 0, none⟩)].toArray w (Ret fun v w' => v = .int .i64 10 ∧ Below w.heap.size w w') := by
 have hB := Below.refl w.heap.size w
 have hrd := zfs h hsz 0
 unfold zce at hrd
 rw [if_pos hde] at hrd
 refine zaw (fn := Tryz.f16) (rs := [.tmp 2]) (n := 102) Tryz.func16 rfl rfl Tryz.ntmps16 (by kernel_rfl) rfl ?_
 refine zak (zac (zaa rfl (zad) (zaf (zai (zak (zak (zac (zaa rfl (zab) ?_))))))))
 refine zat rfl (zao (by kernel_rfl) rfl) (hrd) ?_
 rintro _ w12 ⟨rfl, hb12⟩
 replace hB := hB.acc hb12
 refine zaa rfl (zad) (zaf (zai (zak (zac (zaa rfl (zab) ?_)))))
 refine zaa rfl (zaW rfl rfl) ?_
 refine zaf (zai ?_)
 refine zkt rfl ((by simp)) ?_
 refine zak (zac (zaa rfl (zab) (zaa rfl (zad) (zaf (zai (zax (zaT ?_)))))))
 refine zar [_] ⟨rfl, trivial⟩ ?_
 exact ⟨rfl, hB⟩
set_option maxRecDepth 20000 in
set_option maxHeartbeats 2000000 in
theorem zkc (h : zbc g x q mc md cv cv Y lo L P w) (hok : zh2 P) (hde : P.dead = false) (hsh : zbf P.D 70000) : Calls Tryz.prog 16 [.pointer (some ⟨q, 0, none⟩)].toArray w (Ret fun v w' => v = .int .i64 (zaC P).1 ∧ (∃ cv', zbc g x q mc md cv' cv' Y lo L (zaC P).2 w') ∧ LoL lo L w w') := by
 have hn4 := hok.n4
 have hnl := h.nle.1
 have hml : maxLen = 9223372036854775807 := by decide
 have hrd := zfs h hok.lg.szm 0
 unfold zce at hrd
 have hin : (0 : Int) ≤ 0 ∧ (0 : Int) < (P.n : Int) := by omega
 rw [hde, if_neg (by simp), if_pos hin] at hrd
 obtain ⟨hRok, hRl, hRn⟩ := zgw hok
 have hkp : zfJ P.ch P.n = (zaU P).map (·.num) := by unfold zfJ zaU; rw [zg2, List.map_map]; rfl
 have hCh := fun w' (h' : zbc g x q mc md cv cv Y lo L P w') => zjb h'
 have hst := fun L' w' (h' : zbc g x q mc md cv cv Y lo L' P w') => zn1 h' hok hsh
 have hsok := fun he => zhG hok he
 have hslen := zcc P
 obtain ⟨Z, hZ⟩ : ∃ Z, zaC P = Z := ⟨_, rfl⟩
 rw [hZ]
 unfold zaC zbi at hZ
 obtain ⟨R, hR⟩ : ∃ R, zaU P = R := ⟨_, rfl⟩
 rw [hR] at hkp hRok hRl hRn
 simp only [hR] at hZ
 obtain ⟨ks, hks⟩ : ∃ ks, zfJ P.ch P.n = ks := ⟨_, rfl⟩
 rw [hks] at hkp
 simp only [hks] at hCh
 have hkl : ks.length = R.length := by rw [hkp, List.length_map]
 have hB := Below.refl w.heap.size w
 have hwP := fun w' (hb : Below w.heap.size w w') => h.new hb
 refine zaw (fn := Tryz.f16) (rs := [.tmp 2]) (n := 102) Tryz.func16 rfl rfl Tryz.ntmps16 (by kernel_rfl) rfl ?_
 refine zak (zac (zaa rfl (zad) (zaf (zai (zak (zak (zac (zaa rfl (zab) ?_))))))))
 refine zat rfl (zao (by kernel_rfl) rfl) (hrd) ?_
 rintro _ w12 ⟨rfl, hb12⟩
 replace hB := hB.acc hb12
 refine zaa rfl (zad) (zaf (zai (zak (zac (zaa rfl (zab) ?_)))))
 refine zaa rfl (zaW rfl rfl) ?_
 refine zaf (zai ?_)
 refine zdT rfl ((by simp)) ?_
 refine zau (zai (zak (zac (zaa rfl (zad) (zaf (zai (zak (zak (zac (zaa rfl (zab) ?_))))))))))
 refine zat rfl (zao (by kernel_rfl) rfl) (hCh w12 (hwP _ hB)) ?_
 rintro _ w17 ⟨⟨p, c, rfl, hks1, hpb⟩, hb17⟩
 replace hB := hB.acc hb17
 refine zaa rfl (zaA (e := 3) (sz := 1) (by kernel_rfl) rfl rfl) ?_
 refine zaa rfl (zab) (zaf (zai (zaD ?_)))
 have hszW := hB.size
 have hpb2 : ∀ b o, p = some ⟨b, o, none⟩ → 0 < ks.length → b < w17.heap.size := fun b o e h0 => by
   have hobt := hks1.some (by omega)
   obtain ⟨g9, o9, e9, l9⟩ := hobt
   rw [e] at e9; cases e9; exact l9
 refine zbF (α := Nat × Value) (0, .slice none 0 0) (fun a => [(19, .int .i64 (a.1 : Nat)), (18, .int .i64 (ks.length : Int)), (17, .slice p ks.length c), (4, a.2), (0, .pointer (some ⟨q, 0, none⟩))])
   (fun a w' => a.1 ≤ R.length ∧ zaJ w' w17.heap.size 73 513 a.2 a.1 (zbT (R.take a.1)) ∧ za9 w' p ks.length 1 (iv ks) ∧ Below w.heap.size w w' ∧ w17.heap.size ≤ w'.heap.size) (fun a => R.length - a.1)
   ⟨rfl, rfl, rfl, rfl, rfl, rfl⟩ ⟨Nat.zero_le _, zby _ _ _ _, hks1, hB, Nat.le_refl _⟩ ?_
 clear hB hks1
 rintro ⟨i, u⟩ f wr ⟨hi, hu, hks1, hB, hszr⟩
 dsimp only at hi hu hks1 hB hszr ⊢
 refine zak (zac ?_)
 refine zaa rfl (zbd rfl rfl) ?_
 refine zaf (zai (zak ?_))
 refine zaZ rfl (fun hlt => ?_) (fun hlt => ?_)
 ·
  refine zau (zai (zak (zaD (zak ?_))))
  have hob : ∃ ch, R[i]? = some ch := ⟨_, List.getElem?_eq_getElem (by omega)⟩
  obtain ⟨ch, hch⟩ := hob
  have hki : ks[i]? = some ch.num := by rw [hkp, List.getElem?_map, hch]; rfl
  have hR3 := hRn ch (List.mem_of_getElem? hch)
  obtain ⟨n, hcn, hnN, hpn⟩ := hR3
  have hXl := hRok ch (List.mem_of_getElem? hch)
  have hobg := hks1.some (by omega)
  obtain ⟨gp, op, hgp, hgpl⟩ := hobg
  subst hgp
  have hgp2 := hpb2 gp op rfl (by omega)
  have hvv : (zeA P.ch n).getD (.agg zP.toArray) = .agg (bv ch.page).toArray := by unfold zeA; rw [hpn]; rfl
  have hPw := hwP _ hB
  have hq := hPw.row
  have hm := hPw.mch
  have hlts := hPw.lts
  have hql2 : q < w.heap.size := h.lts.1
  have hml2 : mc < w.heap.size := h.lts.2.1
  unfold plV at hq
  have hchl : (chV ch).length = 1 * 513 := zcX hXl
  have hch1 := zdq ch
  have htk : R.take (i + 1) = R.take i ++ [ch] := by rw [List.take_add_one, hch]; rfl
  refine zac ?_
  refine zaa rfl (zbm (e := 3) (by kernel_rfl) rfl rfl (i) (by omega) (by omega)) ?_
  refine zaa rfl (zam rfl (Ld.sl1 hks1 (by kernel_rfl) (zeq hki))) ?_
  refine zaa rfl (zad) (zaf (zai (zac (zaa rfl (zab) (zaa rfl (zab) (zaa rfl (zab) (zaa rfl (zal rfl) (zaa rfl (zaj (off := 4) (by kernel_rfl) rfl) ?_))))))))
  refine zaa rfl (zam rfl (Ld.zbb hq (by kernel_rfl) rfl)) ?_
  refine zaa rfl (zab) ?_
  refine zaa rfl (zdw (k := 3) (e := 37) ((.agg zP.toArray)) (by kernel_rfl) (by kernel_rfl) (by intro w; first | kernel_rfl | rfl) hm rfl rfl (n) (by first | rfl | omega) (by omega) (by omega) hvv) ?_
  refine zaa rfl (zed hXl rfl rfl rfl) ?_
  refine zaX rfl (zci (e := 73) (.agg (chV ch).toArray) (chV ch) (([Value.int .i64 0]) ++ (List.replicate 512 (Value.int .u8 0))) 513 (by kernel_rfl) (by kernel_rfl) rfl rfl (by first | rfl | (simp; done) | (simp [zae, *]; done)) ⟨by decide, by decide⟩ (fun g32 w32 hg32 hr32 hb32 => ?_))
  have ge_hB_g32 := Nat.le_trans hB.size hg32
  have lt_q_g32 : q < g32 := Nat.lt_of_lt_of_le hq.lt hg32
  have lt_mc_g32 : mc < g32 := Nat.lt_of_lt_of_le hm.lt hg32
  replace hu := hu.new hb32
  replace hq := hq.new hb32
  replace hm := hm.new hb32
  replace hks1 := hks1.new hb32
  replace hB := hB.acc hb32
  have hszp := hb32.size
  have hs32 := hr32.slA (m := 1) (sz := 513) hchl (by omega)
  have sz_hB_33 := hB.size
  refine zaX rfl (za7 (e := 73) (sz := 513) (bytes := 520) (z := .agg (([Value.int .i64 0]) ++ (List.replicate 512 (Value.int .u8 0))).toArray) (by kernel_rfl) rfl (by kernel_rfl) rfl (by decide) rfl hu rfl hs32 hch1 (by unfold maxLen; omega) (by omega) (fun hm0 => by omega) (fun v33 w33 hv33 hgr33 hfr33 => ?_))
  replace hq := hq.own hu hgr33 (by omega)
  replace hm := hm.own hu hgr33 (by omega)
  replace hks1 := hks1.own hu hgr33 (by omega)
  replace hB := hB.own hu hgr33 (by omega)
  refine zaa rfl (zad) (zaf (za2 (zai (zac ?_))))
  refine zaa rfl (zaV rfl rfl (Coup.w64 (by omega))) ?_
  refine zaa rfl (zab) (zaf ?_)
  rw [← zdN, ← htk] at hv33
  refine zbq ⟨(i + 1, v33), by omega, ⟨by go_num, rfl, rfl, rfl, rfl, rfl⟩, by omega, hv33, hks1, hB, by have h1 := hb32.size; have h2 := hgr33.size; omega⟩
 ·
  have hil : i = R.length := by omega
  subst hil
  rw [List.take_length] at hu
  have hob : ∃ pr cr, u = .slice pr R.length cr ∧ za9 wr pr R.length 513 (zbT R) ∧ ∀ b o, pr = some ⟨b, o, none⟩ → w.heap.size ≤ b := by
    rcases hu.2 with ⟨hv, h0⟩ | ⟨gb, ob, cb, cur, hv, hb, _⟩
    · rw [h0] at hu ⊢
      rw [hv] at hu
      exact ⟨none, 0, hv, hu.sl, fun b o e => nomatch e⟩
    · rw [hv] at hu
      exact ⟨_, cb, hv, hu.sl, fun b o e => by cases e; omega⟩
  obtain ⟨pr, cr, hu2, hrs, hfr⟩ := hob
  subst hu2
  have hN := h.sl hB hrs (by omega) hfr
  obtain ⟨L2, hL12, hpL, hP⟩ := hN
  have hLL0 : LoL lo L w wr := LoL.of_below hB
  clear hu hks1 hpb hpb2
  have hB0 := hB
  have hLL := LoL.refl lo L2 wr
  have hlt0 := hP.ltL
  have hq := hP.row
  unfold plV at hq
  refine zbp (zbW (zb9 (zbw (zai (zak (zaD (zak (zac (zaa rfl (zab) ?_)))))))))
  refine zaa rfl (zaA (e := 73) (sz := 513) (by kernel_rfl) rfl rfl) ?_
  refine zaa rfl (zbr rfl rfl) ?_
  refine zaa rfl (zad) (zaf (zai ?_))
  refine zaZ rfl (fun h0 => ?_) (fun h0 => ?_)
  ·
   refine zak (zac (zaa rfl (zad) (zaf (zai (zax (za6 (zaT ?_)))))))
   refine zar [_] ⟨rfl, trivial⟩ ?_
   have hR0 : R.length = 0 := by omega
   rw [if_pos hR0] at hZ
   subst hZ
   exact ⟨rfl, ⟨_, hP.weak hL12⟩, hLL0.ll hLL hL12⟩
  ·
   have hR0 : ¬ R.length = 0 := by omega
   rw [if_neg hR0] at hZ
   have hobg := hrs.some (by omega)
   obtain ⟨gp, op, hgp, hgpl⟩ := hobg
   subst hgp
   have hgpL : gp ∈ L2 := hpL (by omega) gp op rfl
   refine zak (zac (zaa rfl (zab) ?_))
   refine zaa rfl (zaA (e := 73) (sz := 513) (by kernel_rfl) rfl rfl) ?_
   refine zaa rfl (zbU rfl rfl) ?_
   refine zaa rfl (zad) (zaf (zai ?_))
   refine zaZ rfl (fun h60 => ?_) (fun h60 => ?_)
   ·
    refine zak (zac (zaa rfl (zad) (zaf (zai (zax (za6 (zaT ?_)))))))
    refine zar [_] ⟨rfl, trivial⟩ ?_
    have hR1 : 60 < R.length := by omega
    rw [if_pos hR1] at hZ
    subst hZ
    exact ⟨rfl, ⟨_, hP.weak hL12⟩, hLL0.ll hLL hL12⟩
   ·
    have hR1 : ¬ 60 < R.length := by omega
    rw [if_neg hR1] at hZ
    refine zak ?_
    refine zbg [] (by kernel_rfl) ?_
    intro w901 hb901 hS901
    replace hP := hP.new hb901
    replace hLL := hLL.new hb901
    replace hq := hq.new hb901
    replace hrs := hrs.new hb901
    have hP_d901 := hP
    have hLL_d901 := hLL
    have hq_d901 := hq
    have hrs_d901 := hrs
    refine zah 0 (by kernel_rfl) rfl (fun _ _ => zab) ?_
    refine zah 1 (by kernel_rfl) rfl (fun _ _ => zaA (e := 73) (sz := 513) (by kernel_rfl) rfl rfl) ?_
    refine zdF 2 (by kernel_rfl) rfl (fun _ => zao (by kernel_rfl) rfl) (fun w' hS' => zin (R.length : Int) w') ?_
    refine zah 3 (by kernel_rfl) rfl (fun _ _ => zab) ?_
    refine zah 4 (by kernel_rfl) rfl (fun _ _ => zal rfl) ?_
    refine zah 5 (by kernel_rfl) rfl (fun _ _ => zaj (off := 2) (by kernel_rfl) rfl) ?_
    refine zah 6 (by kernel_rfl) rfl (fun w' hS' => zam rfl (Ld.zbb (hq_d901.kq hS') (by kernel_rfl) rfl)) ?_
    refine zah 7 (by kernel_rfl) rfl (fun _ _ => zbU rfl rfl) ?_
    refine zah 8 (by kernel_rfl) rfl (fun _ _ => zad) ?_
    refine zaR (by kernel_rfl) ?_
    refine zai ?_
    refine zaZ rfl (fun hsz => ?_) (fun hsz => ?_)
    ·
     refine zak (zac (zaa rfl (zad) (zaf (zai (zax (za6 (zaT ?_)))))))
     refine zar [_] ⟨rfl, trivial⟩ ?_
     have hsz2 : (P.G.size : Int) < zbK (R.length : Int) := hsz
     rw [if_pos hsz2] at hZ
     subst hZ
     exact ⟨rfl, ⟨_, hP.weak hL12⟩, hLL0.ll hLL hL12⟩
    ·
     have hsz2 : ¬ (P.G.size : Int) < zbK (R.length : Int) := hsz
     rw [if_neg hsz2] at hZ
     have hobt : ∃ S, (if ((P.G.size - P.G.at_ : Nat) : Int) < zbK (R.length : Int) then zaK P else (0, P)) = S := ⟨_, rfl⟩
     obtain ⟨S, hS⟩ := hobt
     rw [hS] at hZ
     have hw0 : World := w901
     refine zau (za2 (zai ?_))
     refine zjy (fun _ : Unit => [(4, .slice (some ⟨gp, op, none⟩) R.length cr), (0, .pointer (some ⟨q, 0, none⟩))]) (fun _ w' => S.1 = 0 ∧ zbc g x q mc md cv cv Y lo L2 S.2 w' ∧ za9 w' (some ⟨gp, op, none⟩) R.length 513 (zbT R) ∧ LoL lo L2 wr w') ?_ ?_
     ·
      refine zak ?_
      refine zbg [] (by kernel_rfl) ?_
      intro w902 hb902 hS902
      replace hP := hP.new hb902
      replace hLL := hLL.new hb902
      replace hq := hq.new hb902
      replace hrs := hrs.new hb902
      have hP_d902 := hP
      have hLL_d902 := hLL
      have hq_d902 := hq
      have hrs_d902 := hrs
      refine zah 0 (by kernel_rfl) rfl (fun _ _ => zab) ?_
      refine zah 1 (by kernel_rfl) rfl (fun _ _ => zaA (e := 73) (sz := 513) (by kernel_rfl) rfl rfl) ?_
      refine zdF 2 (by kernel_rfl) rfl (fun _ => zao (by kernel_rfl) rfl) (fun w' hS' => zin (R.length : Int) w') ?_
      refine zah 3 (by kernel_rfl) rfl (fun _ _ => zab) ?_
      refine zah 4 (by kernel_rfl) rfl (fun _ _ => zal rfl) ?_
      refine zah 5 (by kernel_rfl) rfl (fun _ _ => zaj (off := 1) (by kernel_rfl) rfl) ?_
      refine zah 6 (by kernel_rfl) rfl (fun w' hS' => zam rfl (Ld.zbb (hq_d902.kq hS') (by kernel_rfl) rfl)) ?_
      refine zaS 7 (by kernel_rfl) ?_
      refine zcq rfl rfl (zao (by kernel_rfl) rfl) (znF hP.lg hok.lg.at_ hok.lg.szm) ?_
      rintro _ w59 ⟨rfl, hb59⟩
      have hS903 := hS902.add0 hb59
      refine ⟨hS903, ?_⟩
      replace hP := hP.new hb59
      replace hLL := hLL.new hb59
      replace hq := hq.new hb59
      replace hrs := hrs.new hb59
      refine zah 8 (by kernel_rfl) rfl (fun _ _ => zbU rfl rfl) ?_
      refine zaR (by kernel_rfl) ?_
      refine zai ?_
      refine zaZ rfl (fun hgt => ?_) (fun hgt => ?_)
      ·
       refine zak ?_
       have hgt2 : ((P.G.size - P.G.at_ : Nat) : Int) < zbK (R.length : Int) := hgt
       rw [if_pos hgt2] at hS
       refine zac (zaa rfl (zab) ?_)
       refine zat rfl (zao (by kernel_rfl) rfl) (hst _ w59 hP) ?_
       rintro _ w62 ⟨rfl, hP, hb62⟩
       replace hLL := hLL.lq hb62
       replace hrs := hrs.kpd hb62.kp (by first | (refine zaH ?_; left; omega) | (refine zaH ?_; right; simp; done) | (intro b o e; cases e; first | (refine zaH ?_; left; omega) | (refine zaH ?_; right; simp; done) | (refine zaH ?_; right; simp [*]; done)) | (intro b hb; refine zaH ?_; left; omega) | (intro b hb e; cases e; exact zaH (by right; simp [*]) hb))
       rw [hS] at hP
       refine zaa rfl (zad) (zaf (zai (zak (zac (zaa rfl (zab) ?_)))))
       refine zaa rfl (zaW rfl rfl) ?_
       refine zaf (zai ?_)
       refine zaZ rfl (fun hne => ?_) (fun hne => ?_)
       ·
        refine zak ?_
        have hne2 : ¬ S.1 = 0 := by rw [← hS]; exact hne
        rw [if_neg hne2] at hZ
        refine zac (zaa rfl (zab) (zaa rfl (zab) ?_))
        refine zat rfl (zao (by kernel_rfl) rfl) (keepP hP (zaK P).1) ?_
        rintro _ w67 ⟨rfl, hP, hb67⟩
        replace hLL := hLL.lq hb67
        replace hrs := hrs.kpd hb67.kp (by first | (refine zaH ?_; left; omega) | (refine zaH ?_; right; simp; done) | (intro b o e; cases e; first | (refine zaH ?_; left; omega) | (refine zaH ?_; right; simp; done) | (refine zaH ?_; right; simp [*]; done)) | (intro b hb; refine zaH ?_; left; omega) | (intro b hb e; cases e; exact zaH (by right; simp [*]) hb))
        refine zaa rfl (zad) (zaf (zai (zax (zc6 ?_))))
        refine zar [_] ⟨rfl, trivial⟩ ?_
        subst hZ
        rw [hS] at hP
        exact ⟨by rw [← hS]; rfl, ⟨_, hP.weak hL12⟩, hLL0.ll hLL hL12⟩
       ·
        have hne2 : S.1 = 0 := by rw [← hS]; simpa using hne
        refine zau ?_
        refine zbq ⟨(), ⟨rfl, rfl, rfl⟩, hne2, hP, hrs, hLL⟩
      ·
       have hgt2 : ¬ ((P.G.size - P.G.at_ : Nat) : Int) < zbK (R.length : Int) := hgt
       rw [if_neg hgt2] at hS
       subst hS
       refine zau ?_
       refine zbq ⟨(), ⟨rfl, rfl, rfl⟩, rfl, hP, hrs, hLL⟩
     ·
      have hnSn : ∀ n : Nat, n < P.n → n < S.2.n := fun n hn => by
        by_cases hgt : ((P.G.size - P.G.at_ : Nat) : Int) < zbK (R.length : Int)
        · rw [if_pos hgt] at hS
          rw [← hS, hslen.2.2.2.2.2.2]; exact hn
        · rw [if_neg hgt] at hS
          rw [← hS]; exact hn
      have hSok : S.1 = 0 → zh2 S.2 ∧ zbf S.2.D 80000 := fun he => by
        by_cases hgt : ((P.G.size - P.G.at_ : Nat) : Int) < zbK (R.length : Int)
        · rw [if_pos hgt] at hS
          have h1 := hsok (by rw [hS]; exact he)
          rw [hS] at h1
          exact ⟨h1.1, zbE h1.2.1 (by omega)⟩
        · rw [if_neg hgt] at hS
          rw [← hS]
          exact ⟨hok, zbE hsh (by omega)⟩
      clear hP hLL hrs hq hS hst
      rintro _ f2 w2 ⟨he, hP, hrs, hLL⟩
      have hobt := hSok he
      obtain ⟨hok2, hsh2⟩ := hobt
      rw [if_pos he] at hZ
      have hcm := fun L' w' (h' : zbc g x q mc md cv cv Y lo L' S.2 w') (hs' : za9 w' (some ⟨gp, op, none⟩) R.length 513 (zbT R)) => zpd h' hok2.lg hsh2 R hRok (some ⟨gp, op, none⟩) R.length cr hs' rfl (by omega)
      have hobt : ∃ P3, zb7 S.2 R = P3 := ⟨_, rfl⟩
      obtain ⟨P3, hP3⟩ := hobt
      have hobt : ∃ e3, (zbs S.2.D S.2.G R).1 = e3 := ⟨_, rfl⟩
      obtain ⟨e3, he3⟩ := hobt
      have hP3c : P3.cl = S.2.cl := by rw [← hP3]; rfl
      have hP3n : P3.n = S.2.n := by
        have := zdk S.2.D S.2.G R
        rw [← hP3]; unfold zb7 Pl.n; dsimp only; rw [this.1, this.2]
      rw [hP3, he3] at hZ
      simp only [hP3, he3] at hcm
      have hq := hP.row
      unfold plV at hq
      refine zak (zak (zac (zaa rfl (zab) (zaa rfl (zal rfl) (zaa rfl (zaj (off := 1) (by kernel_rfl) rfl) ?_)))))
      refine zaa rfl (zam rfl (Ld.zbb hq (by kernel_rfl) rfl)) ?_
      refine zaa rfl (zab) ?_
      refine zat rfl (zao (by kernel_rfl) rfl) (hcm _ w2 hP hrs) ?_
      rintro _ w73 ⟨rfl, hP, hb73⟩
      replace hLL := hLL.lq hb73
      replace hrs := hrs.kpd hb73.kp (by first | (refine zaH ?_; left; omega) | (refine zaH ?_; right; simp; done) | (intro b o e; cases e; first | (refine zaH ?_; left; omega) | (refine zaH ?_; right; simp; done) | (refine zaH ?_; right; simp [*]; done)) | (intro b hb; refine zaH ?_; left; omega) | (intro b hb e; cases e; exact zaH (by right; simp [*]) hb))
      refine zaa rfl (zad) (zaf (zai (zak (zac (zaa rfl (zab) ?_)))))
      refine zaa rfl (zaW rfl rfl) ?_
      refine zaf (zai ?_)
      refine zaZ rfl (fun hne => ?_) (fun hne => ?_)
      ·
       refine zak ?_
       have hne2 : ¬ e3 = 0 := hne
       rw [if_neg hne2] at hZ
       refine zac (zaa rfl (zab) (zaa rfl (zab) ?_))
       refine zat rfl (zao (by kernel_rfl) rfl) (keepP hP e3) ?_
       rintro _ w78 ⟨rfl, hP, hb78⟩
       replace hLL := hLL.lq hb78
       replace hrs := hrs.kpd hb78.kp (by first | (refine zaH ?_; left; omega) | (refine zaH ?_; right; simp; done) | (intro b o e; cases e; first | (refine zaH ?_; left; omega) | (refine zaH ?_; right; simp; done) | (refine zaH ?_; right; simp [*]; done)) | (intro b hb; refine zaH ?_; left; omega) | (intro b hb e; cases e; exact zaH (by right; simp [*]) hb))
       refine zaa rfl (zad) (zaf (zai (zax (zaT ?_))))
       refine zar [_] ⟨rfl, trivial⟩ ?_
       subst hZ
       exact ⟨rfl, ⟨_, hP.weak hL12⟩, hLL0.ll hLL hL12⟩
      ·
       have hne2 : e3 = 0 := by simpa using hne
       rw [if_pos hne2] at hZ
       subst hZ
       refine zau (zai (zak (zak (zac (zaa rfl (zab) ?_)))))
       refine zaa rfl (zaA (e := 73) (sz := 513) (by kernel_rfl) rfl rfl) ?_
       refine zaa rfl (zab) (zaf (zai (zaD ?_)))
       refine zbF (α := Nat × Value) (0, cv) (fun a => [(81, .int .i64 (a.1 : Nat)), (80, .int .i64 (R.length : Int)), (79, .slice (some ⟨gp, op, none⟩) R.length cr), (0, .pointer (some ⟨q, 0, none⟩))])
         (fun a w' => a.1 ≤ R.length ∧ zbc g x q mc md a.2 a.2 Y lo L2 (za5 P3 (R.take a.1)) w' ∧ za9 w' (some ⟨gp, op, none⟩) R.length 513 (zbT R) ∧ LoL lo L2 wr w') (fun a => R.length - a.1)
         ⟨rfl, rfl, rfl, rfl, rfl⟩ ⟨Nat.zero_le _, hP, hrs, hLL⟩ ?_
       clear hP hrs hLL
       rintro ⟨i, cv2⟩ f3 w3 ⟨hi, hP, hrs, hLL⟩
       dsimp only at hi hP hrs hLL ⊢
       have hobt := zcn (R.take i) P3
       obtain ⟨d1, d2, d3, d4, d5, d6, d7, d8⟩ := hobt
       have hclk := d7 (by rw [hP3c]; exact hok2.cl)
       refine zak (zac ?_)
       refine zaa rfl (zbd rfl rfl) ?_
       refine zaf (zai (zak ?_))
       refine zaZ rfl (fun hlt => ?_) (fun hlt => ?_)
       ·
        refine zau (zai (zak (zaD (zak ?_))))
        have hLs := hLL.size
        have hob : ∃ ch, R[i]? = some ch := ⟨_, List.getElem?_eq_getElem (by omega)⟩
        obtain ⟨ch, hch⟩ := hob
        have hR3 := hRn ch (List.mem_of_getElem? hch)
        obtain ⟨n, hcn, hnN, hpn⟩ := hR3
        have hXl := hRok ch (List.mem_of_getElem? hch)
        have hchl : (chV ch).length = 513 := zcX hXl
        have hch1 := zdq ch
        have hdn := zmE hch P3
        refine zac ?_
        refine zaa rfl (zaQ (e := 73) (sz := 513) (by kernel_rfl) rfl rfl (i) (by omega) (by omega)) ?_
        refine zaa rfl (zam rfl (zkZ hrs hRok hch)) ?_
        refine zaX rfl (zaO (([Value.int .i64 0]) ++ (List.replicate 512 (Value.int .u8 0))) (by kernel_rfl) (fun g10 w10 hg10 hr10 hb10 => ?_))
        replace hP := hP.newc hb10 hg10 hr10.lt
        replace hLL := hLL.new hb10
        replace hrs := hrs.new hb10
        refine za4 rfl (zav 513 (chV ch) rfl rfl hr10 (by kernel_rfl) (by first | assumption | (simp; done) | (simp [zae, *]; done)) (by first | assumption | (simp; done) | (simp [zae, *]; done) | rfl) (by first | exact zaL _ | assumption | (simp [Value.oneCell']; done)) (fun w904 hr10 ho904 => ?_))
        replace hP := hP.only ho904 (by first | (right; simp; done) | (left; omega))
        replace hLL := hLL.oq ho904
        replace hrs := hrs.only ho904 (by omega)
        refine zaf (zai (zak ?_))
        have hq := hP.row
        unfold plV at hq
        have hd := hP.mdi
        rw [d6, hP3n] at hd
        have hSn := hP.nle.1
        rw [d6, hP3n] at hSn
        have hnS : n < S.2.n := hnSn n hnN
        have hg10 : g10 ≠ md := fun e => hP.mdl.2 (by rw [e]; simp)
        have hqd := hP.qd
        have hgpd : gp ≠ md := fun e => hP.mdl.2 (by rw [← e]; simp [hgpL])
        have hobm := hP.mdl
        obtain ⟨hmdl, hmdL⟩ := hobm
        have hmdL2 : md ∉ L2 := fun hm => hmdL (List.mem_cons_of_mem _ hm)
        refine zbg [md] (by kernel_rfl) ?_
        intro w905 hb905 hS905
        replace hP := hP.new hb905
        replace hLL := hLL.new hb905
        replace hrs := hrs.new hb905
        replace hr10 := hr10.new hb905
        replace hq := hq.new hb905
        replace hd := hd.new hb905
        have hP_d905 := hP
        have hLL_d905 := hLL
        have hrs_d905 := hrs
        have hr10_d905 := hr10
        have hq_d905 := hq
        have hd_d905 := hd
        refine zah 0 (by kernel_rfl) rfl (fun _ _ => zab) ?_
        refine zah 1 (by kernel_rfl) rfl (fun _ _ => zal rfl) ?_
        refine zah 2 (by kernel_rfl) rfl (fun _ _ => zaj (off := 5) (by kernel_rfl) rfl) ?_
        refine zah 3 (by kernel_rfl) rfl (fun w' hS' => zam rfl (Ld.zbb (hq_d905.kq hS') (by kernel_rfl) rfl)) ?_
        refine zah 4 (by kernel_rfl) rfl (fun _ _ => zaj (off := 0) (by kernel_rfl) rfl) ?_
        refine zah 5 (by kernel_rfl) rfl (fun w' hS' => zam rfl (Ld.zbb (hr10_d905.kq hS') (by kernel_rfl) rfl)) ?_
        refine zah 6 (by kernel_rfl) rfl (fun _ _ => zaj (off := 1) (by kernel_rfl) rfl) ?_
        refine zah 7 (by kernel_rfl) rfl (fun w' hS' => zam rfl (ld_chp (hr10_d905.kq hS') hXl)) ?_
        refine zaS 8 (by kernel_rfl) ?_
        refine zdG rfl rfl (zeW (k := 3) (e := 37) (.agg (bv ch.page).toArray) (by kernel_rfl) (by kernel_rfl) hd rfl rfl rfl (n) (by first | rfl | omega) (by omega) (by omega) (fun w907 hd ho907 => ?_))
        have hS906 := hS905.aq ho907
        refine ⟨hS906, ?_⟩
        replace hLL := hLL.oq ho907
        replace hrs := hrs.only ho907 (by omega)
        replace hr10 := hr10.only ho907 (by omega)
        replace hq := hq.only ho907 (by omega)
        rw [zhC] at hd
        rw [← hP3n, ← d6] at hd
        have hP9 := hP.setDi hd ho907
        refine zaR (by kernel_rfl) ?_
        refine zai (zac (zaa rfl (zab) (zaa rfl (zaj (off := 0) (by kernel_rfl) rfl) ?_)))
        refine zaa rfl (zam rfl (Ld.zbb hr10 (by kernel_rfl) rfl)) ?_
        have hcn2 : ch.num.toNat = n := by rw [hcn]; rfl
        refine zat rfl (zao (by kernel_rfl) rfl) (znS hP9 hclk ch.num) ?_
        rintro _ w96 ⟨rfl, ⟨cv3, hP9⟩, hb96⟩
        replace hLL := hLL.lq hb96
        replace hrs := hrs.kpd hb96.kp (by first | (refine zaH ?_; left; omega) | (refine zaH ?_; right; simp; done) | (intro b o e; cases e; first | (refine zaH ?_; left; omega) | (refine zaH ?_; right; simp; done) | (refine zaH ?_; right; simp [*]; done)) | (intro b hb; refine zaH ?_; left; omega) | (intro b hb e; cases e; exact zaH (by right; simp [*]) hb))
        replace hr10 := hr10.kl hb96
        refine zaf (za2 (zai (zac ?_)))
        refine zaa rfl (zaV rfl rfl (Coup.w64 (by omega))) ?_
        refine zaa rfl (zab) (zaf ?_)
        rw [hcn2] at hdn
        refine zbq ⟨(i + 1, cv3), by omega, ⟨by go_num, rfl, rfl, rfl, rfl⟩, by omega, ?_, hrs, hLL⟩
        rw [hdn]
        exact hP9.weak (fun b hb => List.mem_cons_of_mem _ hb)
       ·
        have hiR : i = R.length := by omega
        subst hiR
        rw [List.take_length] at hP
        have hq := hP.row
        unfold plV at hq
        obtain ⟨hcl1, hcl2⟩ := hP.mcl
        refine zbp (zbW (zb9 (zbw (zai (zak (zac (zaa rfl (zab) (zaa rfl (zal rfl) (zaa rfl (zaj (off := 4) (by kernel_rfl) rfl) ?_)))))))))
        refine zaa rfl (zam rfl (Ld.zbb hq (by kernel_rfl) rfl)) ?_
        have hm := hP.mch
        refine zaX rfl (zfI (k := 3) (e := 37) (by kernel_rfl) hm rfl (fun w908 hm ho908 => ?_))
        replace hLL := hLL.oq ho908
        have hP2 := hP.zfK (c := noP) hm ho908
        refine zaf (zai (zak (zac (zaa rfl (zad) (zaf (zai (zax ?_)))))))
        refine zar [_] ⟨rfl, trivial⟩ ?_
        exact ⟨rfl, ⟨_, hP2.weak hL12⟩, hLL0.ll hLL hL12⟩
end
structure RecOk (r : Rec) : Prop where
 ok : zbD r
 l1 : 1 ≤ r.length
 l60 : r.length ≤ 60
 num : ∀ c ∈ r, 0 ≤ c.num
theorem ofR_all {b : List UInt8} {r : Rec} (h : ofR b = some r) : b.length = 516 * r.length ∧ RecOk r := by
 rw [ofR] at h
 split at h
 ·rename_i ho
  rw [ofOk, Bool.and_eq_true, Bool.and_eq_true] at ho
  have h1 := of_decide_eq_true ho.1.1
  have h2 := of_decide_eq_true ho.1.2
  have h3 := List.all_eq_true.1 ho.2
  have hr := Option.some.inj h
  have hl : r.length = b.length / 516 := by rw [← hr, zhz]
  refine ⟨by omega, ⟨fun c hc => ?_, by omega, by omega, fun c hc => ?_⟩⟩
  ·rw [← hr] at hc
   obtain ⟨i, hi, rfl⟩ := List.mem_map.1 hc
   have := List.mem_range.1 hi
   exact zjY (by omega)
  ·rw [← hr] at hc
   exact (of_decide_eq_true (h3 c hc)).1
 ·cases h
theorem zlO {s c : Nat} : ∀ (f k m : Nat) {X : List UInt8}, X.length = m * 128 → m ≤ f → atS (zdQ s c k (zb2 f X m)) ≤ m ∧ (zdQ s c k (zb2 f X m)).length ≤ atS (zdQ s c k (zb2 f X m)) ∧ ∀ r ∈ zdQ s c k (zb2 f X m), RecOk r
 | 0, k, m, X, _, _ => by
  have : zdQ s c k (zb2 0 X m) = [] := rfl
  rw [this]; exact ⟨Nat.zero_le _, Nat.zero_le _, fun r hr => nomatch hr⟩
 | f + 1, k, m, X, hl, hf => by
  cases hj : zbA X m with
  | false =>
   have : zb2 (f + 1) X m = [] := by rw [zb2, if_neg (by rw [hj]; simp)]
   rw [this]; exact ⟨Nat.zero_le _, Nat.zero_le _, fun r hr => nomatch hr⟩
  | true =>
   obtain ⟨h0, _, h3⟩ := zdb hj
   obtain ⟨h4, h5⟩ := h3 hl
   rw [zb2, if_pos hj]
   cases ho : zf9 s c k ⟨za0 (zaq X 0), zcR (zaq X 0), zbn X⟩ with
   | none => rw [zdA ho]; exact ⟨Nat.zero_le _, Nat.zero_le _, fun r hr => nomatch hr⟩
   | some r =>
    rw [zgu ho]
    obtain ⟨ih1, ih2, ih3⟩ := zlO f (k + 1) (m - zaY (zbn X).length) (s := s) (c := c) (X := X.drop (128 * zaY (zbn X).length)) (by rw [List.length_drop, hl]; omega) (by omega)
    have hr : ofR (zbn X) = some r := by
     unfold zf9 at ho
     split at ho
     ·exact ho
     ·cases ho
    obtain ⟨hb, hrk⟩ := ofR_all hr
    have : atS (r :: zdQ s c (k + 1) (zb2 f (X.drop (128 * zaY (zbn X).length)) (m - zaY (zbn X).length))) = zaY (516 * r.length) + atS (zdQ s c (k + 1) (zb2 f (X.drop (128 * zaY (zbn X).length)) (m - zaY (zbn X).length))) := by simp [atS]
    rw [this, ← hb, List.length_cons]
    refine ⟨by omega, by omega, fun x hx => ?_⟩
    rcases List.mem_cons.1 hx with rfl | hx
    ·exact hrk
    ·exact ih3 x hx
theorem zn3 {D : Dk} (h : zcG D) {n : Nat} (hn : 1 + n ≤ D.V.length) : (zd1 D n).length = n * 128 := by
 unfold zd1
 rw [zfY]
 ·simp
 ·intro s hs
  obtain ⟨i, hi, rfl⟩ := List.mem_map.1 hs
  exact zdP h (by have := List.mem_range.1 hi; omega)
theorem zgx {D : Dk} {G : Lg} (h : zcG D) (hn : 1 + G.size ≤ D.V.length) : atS (zck D G) ≤ G.size ∧ (zck D G).length ≤ atS (zck D G) ∧ ∀ r ∈ zck D G, RecOk r :=
 zlO G.size 0 G.size (zn3 h hn) (Nat.le_refl _)
def zc4 (n : Nat) (c : PgM) (R : Rec) : PgM := R.foldl (fun c h => if h.num < (n : Int) then zdB c h.num.toNat (some h.page) else c) c
def zbG (n : Nat) (S : List Rec) : PgM := S.foldl (zc4 n) noP
theorem zmF {R : Rec} {i : Nat} {h : Ch} (hh : R[i]? = some h) (n : Nat) (c : PgM) : zc4 n c (R.take (i + 1)) = if h.num < (n : Int) then zdB (zc4 n c (R.take i)) h.num.toNat (some h.page) else zc4 n c (R.take i) := by
 rw [List.take_add_one, hh, zc4, List.foldl_append]
 rfl
theorem zk5 {S : List Rec} {i : Nat} {r : Rec} (hh : S[i]? = some r) (n : Nat) : zbG n (S.take (i + 1)) = zc4 n (zbG n (S.take i)) r := by
 rw [List.take_add_one, hh, zbG, List.foldl_append]
 rfl
theorem zlP {n : Nat} : ∀ (R : Rec) {c : PgM}, zbD R → (∀ i b, c i = some b → b.length = 512) → ∀ i b, zc4 n c R i = some b → b.length = 512
 | [], c, _, h => h
 | r :: R, c, hR, h => by
  refine zlP R (fun x hx => hR x (List.mem_cons_of_mem _ hx)) ?_
  intro i b hb
  dsimp only at hb
  split at hb
  ·unfold zdB at hb
   split at hb
   ·rw [← Option.some.inj hb]; exact hR r (List.mem_cons_self ..)
   ·exact h i b hb
  ·exact h i b hb
theorem zkd {n : Nat} : ∀ (S : List Rec) {c : PgM}, (∀ r ∈ S, zbD r) → (∀ i b, c i = some b → b.length = 512) → ∀ i b, S.foldl (zc4 n) c i = some b → b.length = 512
 | [], c, _, h => h
 | r :: S, c, hS, h => zkd S (fun x hx => hS x (List.mem_cons_of_mem _ hx)) (zlP r (hS r (List.mem_cons_self ..)) h)
def zbj (D : Dk) (n : Nat) (fr : Nat) : Pl :=
 ⟨zbt D (hdC (zaB D 0) + 1) (hdS (zaB D 0)), ⟨hdC (zaB D 0) + 1, hdS (zaB D 0), n, (zck D (zdr D n)).length, atS (zck D (zdr D n)), false⟩, fr, noP, zbG (zfr D.V.length n) (zck D (zdr D n)), [], false⟩
def zc5 (D : Dk) (n : Nat) (fr : Nat) : Int × Pl := if (zck D (zdr D n)).length = 0 then (0, zbj D n fr) else zbk (zbj D n fr)
theorem zjc (D : Dk) (n fr : Nat) : (zbj D n fr).n = zfr D.V.length n := by
 unfold Pl.n zbj; dsimp only; rw [zdj]
theorem zmG {D : Dk} {n : Int} (he : ze1 D n = 0) : zfE D.V.length n = true ∧ zlI (zaB D 0) = true ∧ hdC (zaB D 0) < 4611686018427387904 ∧ 1 ≤ hdS (zaB D 0) ∧ hdS (zaB D 0) ≤ hdC (zaB D 0) := by
 have hfit : zfE D.V.length n = true := Decidable.byContradiction fun hc => by
  unfold ze1 at he; rw [if_neg hc] at he; cases he
 have his : zlI (zaB D 0) = true := Decidable.byContradiction fun hc => by
  unfold ze1 at he; rw [if_pos hfit, if_neg hc] at he; cases he
 have hCn : hdC (zaB D 0) ≠ 4611686018427387904 := fun hc => by
  unfold ze1 at he; rw [if_pos hfit, if_pos his] at he; rw [if_pos hc] at he; cases he
 have hi2 := his
 rw [zlI, Bool.and_eq_true, Bool.and_eq_true, Bool.and_eq_true] at hi2
 have h3 := of_decide_eq_true hi2.2
 exact ⟨hfit, his, by omega, of_decide_eq_true hi2.1.1.2, of_decide_eq_true hi2.1.2⟩
theorem zke {D : Dk} (h : zcG D) {n fr : Nat} (he : ze1 D n = 0) (hc : 4 ≤ zfr D.V.length n) (h2 : 2 ≤ fr) (hm : fr ≤ 100) : zh2 (zbj D n fr) := by
 obtain ⟨h3, h4, h5, h6, h7⟩ := zmG he
 have hft := of_decide_eq_true h3
 have hG : (zdr D n).size = n := by rw [zdr, Int.toNat_natCast]
 obtain ⟨r1, r2, r3⟩ := zgx (G := zdr D n) h (by rw [hG]; omega)
 rw [hG] at r1
 refine ⟨⟨h6, ?_, ?_, ?_, ?_, r1, r2, ?_⟩, by rw [zjc]; exact hc, h2, hm, (fun i b h => nomatch h), ?_, (fun c hc => nomatch hc), Nat.zero_le _⟩
 ·show hdS (zaB D 0) ≤ hdC (zaB D 0) + 1; omega
 ·show hdC (zaB D 0) + 1 ≤ _; omega
 ·show 4 ≤ n; omega
 ·show n ≤ 4000; omega
 ·show 1 + n ≤ (zbt _ _ _).V.length; rw [zdj]; omega
 ·exact zkd _ (fun r hr => (r3 r hr).ok) (fun i b h => nomatch h)
def noPool (e : Int) : Value := .tuple #[.pointer none, .int .i64 e]
def poolE (D : Dk) (n fr : Int) : Int := if zfr D.V.length n < 4 then 2 else if 2 ≤ fr ∧ fr ≤ 100 then ze1 D n else 2
theorem zjd {l : Nat} {n : Int} (h : 4 ≤ zfr l n) : 4 ≤ n ∧ n ≤ 4000 ∧ 1 + n.toNat + 16 ≤ l := by
 unfold zfr at h
 split at h
 ·omega
 ·omega
section
variable {Y : World → List Nat → Prop} [Thing Y] {g x q mc md lo : Nat} {rv cv : Value} {L : List Nat} {P : Pl} {D : Dk} {w w' : World}
omit [Thing Y] in
theorem zbc.left {Z : World → List Nat → Prop} (h : zbc g x q mc md rv cv (zk2 Y Z) lo L P w) : zbc g x q mc md rv cv Y lo L P w :=
 ⟨⟨zi8 h.lg.two, h.lg.rowx, h.lg.ge, h.lg.ni⟩, h.row, h.mch, h.mdi, h.own, h.qm, h.qd, h.md', h.cq, h.ql, h.mcl, h.mdl⟩
omit [Thing Y] in
theorem two_all {X : World → List Nat → Prop} {p : Option Addr} {S : List Rec} (h : Two X (zk2 Y (zj2 p S)) lo L w) : ∃ vs, za9 w p S.length 1 vs ∧ (0 < S.length → ∀ b o, p = some ⟨b, o, none⟩ → b ∉ L) ∧ ∀ (i : Nat) r, S[i]? = some r → ∃ b off c, vs[i]? = some (.slice (some ⟨b, off, none⟩) r.length c) ∧ za9 w (some ⟨b, off, none⟩) r.length 513 (zbT r) ∧ b ∉ L := by
 obtain ⟨⟨B, _, h1, ⟨C1, C2, rfl, h2, ⟨a1, vs, a2, a3, a4⟩⟩, h3, h4⟩, h5, h6⟩ := h
 refine ⟨vs, a2, fun h0 b o e => (h4 b (List.mem_append_right _ (a3 h0 b o e))).2, fun i r hr => ?_⟩
 obtain ⟨b, off, c, e1, e2, e3⟩ := a4 i r hr
 exact ⟨b, off, c, e1, e2, (h4 b (List.mem_append_right _ e3)).2⟩
set_option maxRecDepth 20000 in
theorem openBad (h : Two (DZ g D) Y lo L w) (n fr : Nat) (hc : ¬ zfr D.V.length n < 4) (hf : 2 ≤ fr ∧ fr ≤ 100) (he : ze1 D n = 0) (hsh : zbf D 90000) (hok : zcY D (hdC (zaB D 0) + 1) (hdS (zaB D 0)) = false) :
  Calls Tryz.prog 18 [.pointer (some ⟨g, 0, none⟩), .int .i64 (n : Int), .int .i64 (fr : Int)].toArray w (Ret fun v w' => v = noPool 10 ∧ Two (DZ g (zbt D (hdC (zaB D 0) + 1) (hdS (zaB D 0)))) Y lo L w' ∧ LoL lo L w w') := by
 have hLL := LoL.refl lo L w
 have hfit := zjd (Nat.not_lt.1 hc)
 have hM := mayP h (n : Int) ⟨by omega, by omega⟩
 rw [if_neg hc] at hM
 have hO := (znM h n he hsh).to fun v w' ⟨ok, D2, C, s, S, e1, e2, e3, e4, e5, k, hh⟩ => (show v = zo6 10 ∧ Two (DZ g (zbt D (hdC (zaB D 0) + 1) (hdS (zaB D 0)))) Y lo L w' ∧ LoL lo L w w' from by
  subst e3 e4
  rw [hok] at e1
  subst e1
  rw [e2]
  rcases hh with ⟨_, h2, h3⟩ | ⟨h2, _⟩
  ·exact ⟨h2, h3, k⟩
  ·cases h2)
 unfold zo6 at hO
 generalize zbt D (hdC (zaB D 0) + 1) (hdS (zaB D 0)) = D2 at *
 refine zaw (fn := Tryz.f18) (rs := [.tmp 6, .tmp 7]) (n := 85) Tryz.func18 rfl rfl Tryz.ntmps18 (by kernel_rfl) rfl ?_
 refine zak (zac (zaa rfl (zad) (zaa rfl (zad) (zaf (zai (zak (zak (zac (zaa rfl (zab) (zaa rfl (zab) ?_))))))))))
 refine zat rfl (zao (by kernel_rfl) rfl) (hM) ?_
 rintro _ _ ⟨rfl, rfl⟩
 refine zaa rfl (zad) (zaf (zai (zak (zac (zaa rfl (zab) ?_)))))
 refine zaa rfl (zaW rfl rfl) ?_
 refine zaf (zai ?_)
 refine zdT rfl ((by simp)) ?_
 refine zau (zai (zak (zak (zac (zaa rfl (zab) ?_)))))
 refine zaa rfl (zbd rfl rfl) ?_
 refine zaa rfl (zab) ?_
 refine ziK 26 rfl ((by omega)) ?_
 refine zas rfl (zaa rfl (zab) (zas rfl ?_))
 refine zaa rfl (zbU rfl rfl) ?_
 refine zaa rfl (zaz rfl) (zaf (zai ?_))
 refine zdT rfl ((by omega)) ?_
 refine zau (zai (zak (zac (zaa rfl (zab) (zaa rfl (zab) ?_)))))
 refine zat rfl (zao (by kernel_rfl) rfl) (hO) ?_
 rintro _ w33 ⟨rfl, hD, hb33⟩
 replace hLL := hLL.lq hb33
 refine zaa rfl (zab) (zaa rfl (zan rfl rfl) (zaa rfl (zan rfl rfl) (zaa rfl (zan rfl rfl) (zaa rfl (zad) (zaa rfl (zad) (zaa rfl (zad) (zaf (zai (zak (zak (zac ?_)))))))))))
 refine zaa rfl (zab) ?_
 refine zaa rfl (zaW rfl rfl) ?_
 refine zaf (zai ?_)
 refine zkt rfl ((by simp)) ?_
 refine zak (zac (zaa rfl (zab) (zaa rfl (zad) (zaa rfl (zad) (zaf (zai (zax (zaT ?_))))))))
 refine zar [_, _] ⟨rfl, rfl, trivial⟩ ?_
 exact ⟨rfl, hD, hLL⟩
set_option maxRecDepth 20000 in
set_option maxHeartbeats 2000000 in
theorem openOk (h : Two (DZ g D) Y lo L w) (n fr : Nat) (hc : ¬ zfr D.V.length n < 4) (hf : 2 ≤ fr ∧ fr ≤ 100) (he : ze1 D n = 0) (hsh : zbf D 60000) (hok : zcY D (hdC (zaB D 0) + 1) (hdS (zaB D 0)) = true) :
   Calls Tryz.prog 18 [.pointer (some ⟨g, 0, none⟩), .int .i64 (n : Int), .int .i64 (fr : Int)].toArray w (Ret fun v w' => (((zc5 D n fr).1 ≠ 0 ∧ v = noPool (zc5 D n fr).1 ∧ Two (DZ g (zc5 D n fr).2.D) Y lo L w') ∨
     ((zc5 D n fr).1 = 0 ∧ ∃ x q mc md cv, v = .tuple #[.pointer (some ⟨q, 0, none⟩), .int .i64 0] ∧ zbc g x q mc md cv cv Y lo L (zc5 D n fr).2 w')) ∧ LoL lo L w w') := by
 have hLL := LoL.refl lo L w
 have hml : maxLen = 9223372036854775807 := by decide
 have hfit := zjd (Nat.not_lt.1 hc)
 have hM := mayP h (n : Int) ⟨by omega, by omega⟩
 rw [if_neg hc] at hM
 have hDk := (tOk h).1
 have hpok := zke hDk he (Nat.not_lt.1 hc) hf.1 hf.2
 have hrec := zgx (G := zdr D n) hDk (by rw [zdr, Int.toNat_natCast]; dsimp only; omega)
 have hshP : zbf (zbj D n fr).D 70000 := by
   show zbf (zbt _ _ _) 70000
   unfold zcY at hok
   rw [Bool.and_eq_true] at hok
   unfold zbt
   rw [if_pos hok.1]
   exact zbE (zhF hok.2) (by omega)
 have hPn := zjc D n fr
 have hVl : (zbj D n fr).D.V.length = D.V.length := zdj _ _ _
 obtain ⟨S, hS⟩ : ∃ S, zck D (zdr D n) = S := ⟨_, rfl⟩
 have hO := (znM h n he (zbE hsh (by omega))).to fun v w' ⟨ok, D2, C, s, S2, e1, e2, e3, e4, e5, k, hh⟩ => (show ∃ x p c, v = Value.tuple #[Value.pointer (some ⟨x, 0, none⟩), Value.slice p S.length c, Value.int .i64 0] ∧ S.length ≤ c ∧ zdz g x (zk2 Y (zj2 p S)) lo L (zbj D n fr).D (zbj D n fr).G w' ∧ LoL lo L w w' from by
   subst e3 e4
   rw [hok] at e1
   subst e1
   have e6 : S2 = S := by rw [← e5, hS]
   subst e6
   rcases hh with ⟨h2, _⟩ | ⟨_, x, p, c, h2, h3, h4⟩
   · cases h2
   · refine ⟨x, p, c, h2, h3, ?_, k⟩
     have eD : (zbj D n fr).D = D2 := by rw [← e2]; rfl
     have eG : (zbj D n fr).G = ⟨hdC (zaB D 0) + 1, hdS (zaB D 0), n, S2.length, atS S2, false⟩ := by unfold zbj; dsimp only; rw [hS]
     rw [eD, eG]
     exact h4)
 obtain ⟨N, hN⟩ : ∃ N, zfr D.V.length n = N := ⟨_, rfl⟩
 have hdi0 : (zbj D n fr).di = zbG N S := by unfold zbj; dsimp only; rw [hS, hN]
 have hRe : zc5 D n fr = if S.length = 0 then (0, zbj D n fr) else zbk (zbj D n fr) := by unfold zc5; rw [hS]
 have hP1 : (zbj D n fr).fr = fr ∧ (zbj D n fr).ch = noP ∧ (zbj D n fr).cl = [] ∧ (zbj D n fr).dead = false ∧ (zbj D n fr).G.size = n := ⟨rfl, rfl, rfl, rfl, rfl⟩
 rw [hN] at hPn
 rw [hS] at hrec
 have hSl : S.length ≤ 4000 := by
   have h1 := hrec.1
   have h2 := hrec.2.1
   rw [show (zdr D n).size = n by rw [zdr, Int.toNat_natCast]] at h1
   omega
 obtain ⟨Z, hZ⟩ : ∃ Z, zc5 D n fr = Z := ⟨_, rfl⟩
 rw [hZ] at hRe ⊢
 generalize zbj D n fr = P0 at *
 obtain ⟨p1, p2, p3, p4, p5⟩ := hP1
 have hNl : N ≤ 2048 := by
   have h1 := hDk.n
   have h2 := znV D.V.length n
   omega
 have hcnt : ∀ c x q mc md p L' w', zbc g x q mc md (.slice none 0 0) (.slice none 0 0) (zk2 Y (zj2 p S)) lo L' { P0 with di := c } w' → Calls Tryz.prog 28 [.pointer (some ⟨g, 0, none⟩), .int .i64 (n : Int)].toArray w' (Ret fun v w'' => v = .int .i64 (N : Int) ∧ w' = w'') := fun c x q mc md p L' w' h' => by
   have h1 := countP h'.lg.fst (n : Int) ⟨by omega, by omega⟩
   dsimp only at h1
   rw [hVl, hN] at h1
   exact h1
 have hlo := h.lo
 have hLt := h.lt
 refine zaw (fn := Tryz.f18) (rs := [.tmp 6, .tmp 7]) (n := 85) Tryz.func18 rfl rfl Tryz.ntmps18 (by kernel_rfl) rfl ?_
 refine zak (zac (zaa rfl (zad) (zaa rfl (zad) (zaf (zai (zak (zak (zac (zaa rfl (zab) (zaa rfl (zab) ?_))))))))))
 refine zat rfl (zao (by kernel_rfl) rfl) (hM) ?_
 rintro _ _ ⟨rfl, rfl⟩
 refine zaa rfl (zad) (zaf (zai (zak (zac (zaa rfl (zab) ?_)))))
 refine zaa rfl (zaW rfl rfl) ?_
 refine zaf (zai ?_)
 refine zdT rfl ((by simp)) ?_
 refine zau (zai (zak (zak (zac (zaa rfl (zab) ?_)))))
 refine zaa rfl (zbd rfl rfl) ?_
 refine zaa rfl (zab) ?_
 refine ziK 26 rfl ((by omega)) ?_
 refine zas rfl (zaa rfl (zab) (zas rfl ?_))
 refine zaa rfl (zbU rfl rfl) ?_
 refine zaa rfl (zaz rfl) (zaf (zai ?_))
 refine zdT rfl ((by omega)) ?_
 refine zau (zai (zak (zac (zaa rfl (zab) (zaa rfl (zab) ?_)))))
 refine zat rfl (zao (by kernel_rfl) rfl) (hO) ?_
 rintro _ w33 ⟨x, p, cp, rfl, hcp, hG, hb33⟩
 replace hLL := hLL.lq hb33
 refine zaa rfl (zab) (zaa rfl (zan rfl rfl) (zaa rfl (zan rfl rfl) (zaa rfl (zan rfl rfl) (zaa rfl (zad) (zaa rfl (zad) (zaa rfl (zad) (zaf (zai (zak (zak (zac ?_)))))))))))
 refine zaa rfl (zab) ?_
 refine zaa rfl (zaW rfl rfl) ?_
 refine zaf (zai ?_)
 refine zdT rfl ((by simp)) ?_
 refine zau (zai (zak (zac (zaa rfl (zab) (zaa rfl (zab) (zaa rfl (zab) (zaa rfl (zab) ?_)))))))
 have hs33 := hLL.size
 refine zaX rfl (zgi (k := 3) N (fun m44 w44 hgm44 hm44 hb44 => ?_))
 replace hG := hG.newc hb44 hgm44 hm44.lt
 have l44 := hm44.lt
 replace hLL := hLL.new hb44
 refine zaX rfl (zgi (k := 3) N (fun m45 w45 hgm45 hm45 hb45 => ?_))
 replace hG := hG.newc hb45 hgm45 hm45.lt
 have l45 := hm45.lt
 have b45 := hb45.size
 replace hLL := hLL.new hb45
 replace hm44 := hm44.new hb45
 refine zaa rfl (znU (.pointer (some ⟨g, 0, none⟩)) (.pointer (some ⟨x, 0, none⟩)) (.int .i64 (n : Int)) (.int .i64 (fr : Int)) (.map (some m44)) (.map (some m45)) [.pointer (some ⟨g, 0, none⟩), .pointer (some ⟨x, 0, none⟩), .int .i64 (n : Int), .int .i64 (fr : Int), .map (some m44), .map (some m45), .slice none 0 0, .bool false] rfl rfl rfl rfl rfl rfl (by kernel_rfl)) ?_
 refine zaX rfl (zca ([.pointer (some ⟨g, 0, none⟩), .pointer (some ⟨x, 0, none⟩), .int .i64 (n : Int), .int .i64 (fr : Int), .map (some m44), .map (some m45), .slice none 0 0, .bool false]) rfl (fun g47 w47 hg47 hr47 hb47 => ?_))
 have lt_m44_g47 : m44 < g47 := Nat.lt_of_lt_of_le hm44.lt hg47
 have lt_m45_g47 : m45 < g47 := Nat.lt_of_lt_of_le hm45.lt hg47
 replace hLL := hLL.new hb47
 replace hm44 := hm44.new hb47
 replace hG := hG.newc hb47 hg47 hr47.lt
 replace hm45 := hm45.new hb47
 refine zaa rfl (zad) (zaf (zai (zak (zak (zac (zaa rfl (zab) ?_))))))
 refine zaa rfl (zaA (e := 52) (sz := 1) (by kernel_rfl) rfl rfl) ?_
 refine zaa rfl (zab) (zaf (zai (zaD ?_)))
 have hN0 : ∀ c, ({ P0 with di := c } : Pl).n = N := fun _ => hPn
 have a1 : row w47 g47 (plV g x P0.G.size P0.fr m44 m45 (.slice none 0 0) P0.dead) 54 := by rw [plV, p1, p4, p5]; exact hr47
 have a2 : MapAt Tryz.prog 3 w47 m44 ({ P0 with di := zbG N (S.take 0) } : Pl).n (zeA P0.ch) := by rw [hN0, p2]; exact hm44
 have a3 : MapAt Tryz.prog 3 w47 m45 ({ P0 with di := zbG N (S.take 0) } : Pl).n (zeA (zbG N (S.take 0))) := by rw [hN0]; exact hm45
 have a4 : zaJ w47 0 73 513 (.slice none 0 0) P0.cl.length (zbT P0.cl) := by rw [p3]; exact zby _ _ _ _
 have hP : zbc g x g47 m44 m45 (.slice none 0 0) (.slice none 0 0) (zk2 Y (zj2 p S)) lo L { P0 with di := zbG N (S.take 0) } w47 :=
   ⟨hG.weak (fun b hb => by
     simp only [Value.ownBlock, Option.toList_none, List.nil_append, List.mem_cons] at hb ⊢
     rcases hb with hb | hb | hb | hb
     · exact .inl hb
     · exact .inr (.inr (.inl hb))
     · exact .inr (.inl hb)
     · exact .inr (.inr (.inr hb))), a1, a2, a3, a4, by omega, by omega, by omega, (fun b hb => nomatch hb), ⟨by omega, fun hm => by have := hLt _ hm; omega⟩, ⟨by omega, fun hm => by have := hLt _ hm; omega⟩, ⟨by omega, fun hm => by have := hLt _ hm; omega⟩⟩
 have hTA := two_all hP.lg.two
 obtain ⟨vs, hvs, hpL, hall⟩ := hTA
 have hK := KpB.refl [m45] w47
 clear hG
 refine zbF (α := Nat) 0 (fun i => [(50, .int .i64 (i : Nat)), (49, .int .i64 (S.length : Int)), (48, .slice p S.length cp), (10, .slice p S.length cp), (12, .pointer (some ⟨g47, 0, none⟩)), (0, .pointer (some ⟨g, 0, none⟩)), (1, .int .i64 (n : Int))])
   (fun i w' => i ≤ S.length ∧ zbc g x g47 m44 m45 (.slice none 0 0) (.slice none 0 0) (zk2 Y (zj2 p S)) lo L { P0 with di := zbG N (S.take i) } w' ∧ KpB [m45] w47 w' ∧ LoL lo L w w') (fun i => S.length - i)
   ⟨rfl, rfl, rfl, rfl, rfl, rfl, rfl, rfl⟩ ⟨Nat.zero_le _, hP, hK, hLL⟩ ?_
 clear hP hK hLL
 rintro i f wr ⟨hi, hP, hK, hLL⟩
 refine zak (zac ?_)
 refine zaa rfl (zbd rfl rfl) ?_
 refine zaf (zai (zak ?_))
 refine zaZ rfl (fun hlt => ?_) (fun hlt => ?_)
 ·
  refine zau (zai (zak (zaD (zak ?_))))
  have hob : ∃ r, S[i]? = some r := ⟨_, List.getElem?_eq_getElem (by omega)⟩
  obtain ⟨r, hr⟩ := hob
  have hrk := hrec.2.2 r (List.mem_of_getElem? hr)
  have hal := hall i r hr
  obtain ⟨gb, ob, cb, hvi, hrs, hgbL⟩ := hal
  have hobg := hvs.some (by omega)
  obtain ⟨gp, op, hgp, hgpl⟩ := hobg
  subst hgp
  have hgpm : gp ∉ [m45] := fun hm => hpL (by omega) gp op rfl (by rw [List.mem_singleton.1 hm]; simp)
  have hgbm : gb ∉ [m45] := fun hm => hgbL (by rw [List.mem_singleton.1 hm]; simp)
  have hvsw := hvs.kpd hK.k (fun b o e => by cases e; exact hgpm)
  have haa := zk5 hr N
  have hr60 := hrk.l60
  refine zac ?_
  refine zaa rfl (zbm (e := 52) (by kernel_rfl) rfl rfl (i) (by omega) (by omega)) ?_
  refine zaa rfl (zam rfl (Ld.sl1 hvsw (by kernel_rfl) hvi)) ?_
  refine zaa rfl (zad) (zaf (zai (zak (zac (zaa rfl (zab) ?_)))))
  refine zaa rfl (zaA (e := 73) (sz := 513) (by kernel_rfl) rfl rfl) ?_
  refine zaa rfl (zab) (zaf (zai (zaD ?_)))
  refine zbF (α := Nat) 0 (fun k => [(56, .int .i64 (k : Nat)), (55, .int .i64 (r.length : Int)), (54, .slice (some ⟨gb, ob, none⟩) r.length cb), (50, .int .i64 (i : Nat)), (49, .int .i64 (S.length : Int)), (48, .slice (some ⟨gp, op, none⟩) S.length cp), (10, .slice (some ⟨gp, op, none⟩) S.length cp), (12, .pointer (some ⟨g47, 0, none⟩)), (0, .pointer (some ⟨g, 0, none⟩)), (1, .int .i64 (n : Int))])
    (fun k w' => k ≤ r.length ∧ zbc g x g47 m44 m45 (.slice none 0 0) (.slice none 0 0) (zk2 Y (zj2 (some ⟨gp, op, none⟩) S)) lo L { P0 with di := zc4 N (zbG N (S.take i)) (r.take k) } w' ∧ KpB [m45] w47 w' ∧ LoL lo L w w') (fun k => r.length - k)
    ⟨rfl, rfl, rfl, rfl, rfl, rfl, rfl, rfl, rfl, rfl, rfl⟩ ⟨Nat.zero_le _, hP, hK, hLL⟩ ?_
  clear hP hK hLL hvsw
  rintro k f2 w2 ⟨hk, hP, hK, hLL⟩
  refine zak (zac ?_)
  refine zaa rfl (zbd rfl rfl) ?_
  refine zaf (zai (zak ?_))
  refine zaZ rfl (fun hlt2 => ?_) (fun hlt2 => ?_)
  ·
   refine zau (zai (zak (zaD (zak ?_))))
   have hob : ∃ ch, r[k]? = some ch := ⟨_, List.getElem?_eq_getElem (by omega)⟩
   obtain ⟨ch, hch⟩ := hob
   have hcm := List.mem_of_getElem? hch
   have hXl := hrk.ok ch hcm
   have hnum := hrk.num ch hcm
   have hchl : (chV ch).length = 513 := zcX hXl
   have hch1 := zdq ch
   have hrsw := hrs.kpd hK.k (fun b o e => by cases e; exact hgbm)
   have had := zmF hch N (zbG N (S.take i))
   have hKs := hK.k.size
   have hLs := hLL.size
   refine zac ?_
   refine zaa rfl (zaQ (e := 73) (sz := 513) (by kernel_rfl) rfl rfl (k) (by omega) (by omega)) ?_
   refine zaa rfl (zam rfl (zkZ hrsw hrk.ok hch)) ?_
   refine zaX rfl (zaO (([Value.int .i64 0]) ++ (List.replicate 512 (Value.int .u8 0))) (by kernel_rfl) (fun g16 w16 hg16 hr16 hb16 => ?_))
   replace hLL := hLL.new hb16
   replace hP := hP.newc hb16 hg16 hr16.lt
   replace hK := hK.new hb16
   refine za4 rfl (zav 513 (chV ch) rfl rfl hr16 (by kernel_rfl) (by first | assumption | (simp; done) | (simp [zae, *]; done)) (by first | assumption | (simp; done) | (simp [zae, *]; done) | rfl) (by first | exact zaL _ | assumption | (simp [Value.oneCell']; done)) (fun w901 hr16 ho901 => ?_))
   replace hLL := hLL.oq ho901
   replace hP := hP.only ho901 (by first | (right; simp; done) | (left; omega))
   replace hK := hK.only ho901 (by first | (simp; done) | (right; omega))
   refine zaf (zai (zak ?_))
   refine zbg [] (by kernel_rfl) ?_
   intro w902 hb902 hS902
   replace hLL := hLL.new hb902
   replace hP := hP.new hb902
   replace hK := hK.new hb902
   replace hr16 := hr16.new hb902
   have hLL_d902 := hLL
   have hP_d902 := hP
   have hK_d902 := hK
   have hr16_d902 := hr16
   refine zah 0 (by kernel_rfl) rfl (fun _ _ => zaj (off := 0) (by kernel_rfl) rfl) ?_
   refine zah 1 (by kernel_rfl) rfl (fun w' hS' => zam rfl (Ld.zbb (hr16_d902.kq hS') (by kernel_rfl) rfl)) ?_
   refine zah 2 (by kernel_rfl) rfl (fun _ _ => zab) ?_
   refine zah 3 (by kernel_rfl) rfl (fun _ _ => zab) ?_
   refine zdF 4 (by kernel_rfl) rfl (fun _ => zao (by kernel_rfl) rfl) (fun w' hS' => hcnt _ _ _ _ _ _ _ w' (hP_d902.kpd hS' (by first | (simp; done) | (simp; omega) | (simp [*]; done) | exact zaH (Or.inl (by omega)) | exact zaH (Or.inr (by simp)) | exact fun g hm => Nat.le_trans (by omega) (zel hm).1 | (intro b o e; cases e; exact zaH (Or.inl (by omega))) | (intro b hm; have := (hu.lt b (Option.mem_toList.1 hm)).1; omega) | (intro b o e; cases e; intro hm; have := (hu.lt _ (Option.mem_toList.1 hm)).1; omega)))) ?_
   refine zah 5 (by kernel_rfl) rfl (fun _ _ => zbd rfl rfl) ?_
   refine zaR (by kernel_rfl) ?_
   refine zai ?_
   refine zaZ rfl (fun hin => ?_) (fun hin => ?_)
   ·
    have hin2 : ch.num < (N : Int) := hin
    rw [if_pos hin2] at had
    have hobn : ∃ j : Nat, ch.num = j ∧ j < N := ⟨ch.num.toNat, by omega, by omega⟩
    obtain ⟨j, hj, hjN⟩ := hobn
    have hjt : ch.num.toNat = j := by omega
    rw [hjt] at had
    have hq := hP.row
    unfold plV at hq
    have hd : MapAt Tryz.prog 3 w902 m45 N (zeA (zc4 N (zbG N (S.take i)) (r.take k))) := by
      have h1 := hP.mdi
      have e : ({ P0 with di := zc4 N (zbG N (S.take i)) (r.take k) } : Pl).n = N := hPn
      rw [e] at h1
      exact h1
    have hg16 : g16 ≠ m45 := fun e => hP.mdl.2 (by rw [e]; simp)
    have hqd := hP.qd
    have hobm := hP.mdl
    obtain ⟨hmdl, hmdL⟩ := hobm
    have hmdL2 : m45 ∉ L := fun hm => hmdL (List.mem_cons_of_mem _ hm)
    refine zbg [m45] (by kernel_rfl) ?_
    intro w903 hb903 hS903
    replace hLL := hLL.new hb903
    replace hP := hP.new hb903
    replace hK := hK.new hb903
    replace hr16 := hr16.new hb903
    replace hq := hq.new hb903
    replace hd := hd.new hb903
    have hLL_d903 := hLL
    have hP_d903 := hP
    have hK_d903 := hK
    have hr16_d903 := hr16
    have hq_d903 := hq
    have hd_d903 := hd
    refine zah 0 (by kernel_rfl) rfl (fun _ _ => zab) ?_
    refine zah 1 (by kernel_rfl) rfl (fun _ _ => zal rfl) ?_
    refine zah 2 (by kernel_rfl) rfl (fun _ _ => zaj (off := 5) (by kernel_rfl) rfl) ?_
    refine zah 3 (by kernel_rfl) rfl (fun w' hS' => zam rfl (Ld.zbb (hq_d903.kq hS') (by kernel_rfl) rfl)) ?_
    refine zah 4 (by kernel_rfl) rfl (fun _ _ => zaj (off := 0) (by kernel_rfl) rfl) ?_
    refine zah 5 (by kernel_rfl) rfl (fun w' hS' => zam rfl (Ld.zbb (hr16_d903.kq hS') (by kernel_rfl) rfl)) ?_
    refine zah 6 (by kernel_rfl) rfl (fun _ _ => zaj (off := 1) (by kernel_rfl) rfl) ?_
    refine zah 7 (by kernel_rfl) rfl (fun w' hS' => zam rfl (ld_chp (hr16_d903.kq hS') hXl)) ?_
    refine zaS 8 (by kernel_rfl) ?_
    refine zdG rfl rfl (zeW (k := 3) (e := 37) (.agg (bv ch.page).toArray) (by kernel_rfl) (by kernel_rfl) hd rfl rfl rfl (j) (by first | rfl | omega) (by omega) (by omega) (fun w905 hd ho905 => ?_))
    have hS904 := hS903.aq ho905
    refine ⟨hS904, ?_⟩
    replace hLL := hLL.oq ho905
    replace hK := hK.only ho905 (by first | (simp; done) | (right; omega))
    replace hr16 := hr16.only ho905 (by omega)
    replace hq := hq.only ho905 (Nat.ne_of_gt lt_m45_g47)
    rw [zhC, ← had] at hd
    have hPe : MapAt Tryz.prog 3 w905 m45 P0.n (zeA (zc4 N (zbG N (S.take i)) (r.take (k + 1)))) := by rw [hPn]; exact hd
    have hP9 := hP.setDi hPe ho905
    refine zaR (by kernel_rfl) ?_
    refine za2 (zai (zac ?_))
    refine zaa rfl (zaV rfl rfl (Coup.w64 (by omega))) ?_
    refine zaa rfl (zab) (zaf ?_)
    refine zbq ⟨k + 1, by omega, ⟨by go_num, rfl, rfl, rfl, rfl, rfl, rfl, rfl, rfl, rfl, rfl⟩, by omega, hP9.weak (fun b hb => List.mem_cons_of_mem _ hb), hK, hLL⟩
   ·
    have hin2 : ¬ ch.num < (N : Int) := hin
    rw [if_neg hin2] at had
    refine zau (za2 (zai (zac ?_)))
    refine zaa rfl (zaV rfl rfl (Coup.w64 (by omega))) ?_
    refine zaa rfl (zab) (zaf ?_)
    refine zbq ⟨k + 1, by omega, ⟨by go_num, rfl, rfl, rfl, rfl, rfl, rfl, rfl, rfl, rfl, rfl⟩, by omega, by rw [had]; exact hP.weak (fun b hb => List.mem_cons_of_mem _ hb), hK, hLL⟩
  ·
   have hkr : k = r.length := by omega
   subst hkr
   rw [List.take_length] at hP
   rw [← haa] at hP
   refine zbp (zbW (zb9 (zbw (za2 (zai (zac ?_))))))
   refine zaa rfl (zaV rfl rfl (Coup.w64 (by omega))) ?_
   refine zaa rfl (zab) (zaf ?_)
   refine zbq ⟨i + 1, by omega, ⟨by go_num, rfl, rfl, rfl, rfl, rfl, rfl, rfl⟩, by omega, hP, hK, hLL⟩
 ·
  have hiS : i = S.length := by omega
  subst hiS
  rw [List.take_length, ← hdi0] at hP
  replace hP : zbc g x g47 m44 m45 (.slice none 0 0) (.slice none 0 0) (zk2 Y (zj2 p S)) lo L P0 wr := hP
  have hck := checkP hP hpok p4 hshP
  refine zbp (zbW (zb9 (zbw (zai (zak (zak (zac (zaa rfl (zab) ?_))))))))
  refine zaa rfl (zaA (e := 52) (sz := 1) (by kernel_rfl) rfl rfl) ?_
  refine zaa rfl (zbU rfl rfl) ?_
  refine zaf (zai ?_)
  refine zaZ rfl (fun hgt => ?_) (fun hgt => ?_)
  ·
   refine zak ?_
   rw [if_neg (by omega)] at hRe
   rw [← hRe] at hck
   refine zac (zaa rfl (zab) ?_)
   refine zat rfl (zao (by kernel_rfl) rfl) (hck) ?_
   rintro _ w80 ⟨rfl, hP, hb80⟩
   replace hLL := hLL.lq hb80
   refine zaa rfl (zad) (zaf (zai (zak (zac (zaa rfl (zab) ?_)))))
   refine zaa rfl (zaW rfl rfl) ?_
   refine zaf (zai ?_)
   refine zaZ rfl (fun hne => ?_) (fun hne => ?_)
   ·
    refine zak (zac (zaa rfl (zab) (zaa rfl (zad) (zaa rfl (zad) (zaf (zai (zax (zaT ?_))))))))
    refine zar [_, _] ⟨rfl, rfl, trivial⟩ ?_
    have hne2 : Z.1 ≠ 0 := hne
    refine ⟨.inl ⟨hne2, rfl, ?_⟩, hLL⟩
    exact (zi8 hP.lg.fst).weak fun b hb => by simp [hb]
   ·
    have hne2 : Z.1 = 0 := by simpa using hne
    refine zau (zai (zak (zac (zaa rfl (zab) (zaa rfl (zad) (zaa rfl (zad) (zaf (zai (zax ?_)))))))))
    refine zar [_, _] ⟨rfl, rfl, trivial⟩ ?_
    exact ⟨.inr ⟨hne2, _, _, _, _, _, rfl, hP.left⟩, hLL⟩
  ·
   rw [if_pos (by omega)] at hRe
   subst hRe
   refine zau (zai (zak (zac (zaa rfl (zab) (zaa rfl (zad) (zaa rfl (zad) (zaf (zai (zax ?_)))))))))
   refine zar [_, _] ⟨rfl, rfl, trivial⟩ ?_
   exact ⟨.inr ⟨rfl, _, _, _, _, _, rfl, hP.left⟩, hLL⟩
end
theorem zpf {R : Rec} (h : zbD R) {i : Nat} {c : Ch} (hc : R[i]? = some c) : (zbT R)[i * 513]? = some (.int .i64 c.num) := by
 have h1 := zi3 h hc
 have h2 := congrArg (fun z => z[0]?) h1
 have hi := (List.getElem?_eq_some_iff.1 hc).1
 simpa [List.getElem?_take, List.getElem?_drop, chV] using h2
theorem zn4 {w : World} {g o n : Nat} {R : Rec} (h : za9 w (some ⟨g, o, none⟩) n 513 (zbT R)) (hR : zbD R) {i : Nat} {c : Ch} (hc : R[i]? = some c) : Ld Tryz.prog w 3 ⟨g, o + i * 513, none⟩ (.int .i64 c.num) :=
 Ld.one (by kernel_rfl) (h.cell (i * 513) (zpf hR hc))
end Go.Proofs.YtielfpkjoidomaaGreat
namespace Coup
open Go Go.RowKit
section
variable {P : Program} {ρ : Env} {w : World} {d : Option Nat} {ty : TypeId} {pos : String} {af : Array Edge} {gd : Option (Nat × Bool)}
def numBytesT (P : Program) (t : Nat) (k : IntKind) (n : Nat) : Bool :=
  (match P.underlying t with
   | some (.struct fs) => (match fs.toList with
     | [f0, f1] => (f0.name != "_") && (f1.name != "_") && Nat.beq f0.offset 0 && Nat.beq f1.offset 1 && intT P f0.type k && zfz P f1.type n && (match P.info? f1.type with | some i => Nat.beq i.size n | none => false) && (match P.underlying f1.type with | some (.array _ _) => true | _ => false)
     | _ => false)
   | _ => false) && !P.eqGuardType P.depth t && !P.stoodInHeld t
end
end Coup
namespace Go.Proofs.YtielfpkjoidomaaGreat
open Go Go.RowKit Coup
def AllR (w : World) (p : Option Addr) (S : List Rec) : Prop := ∃ vs, za9 w p S.length 1 vs ∧ ∀ (i : Nat) (r : Rec), S[i]? = some r → ∃ q c, vs[i]? = some (.slice q r.length c) ∧ za9 w q r.length 513 (zbT r)
theorem zj2.r {w : World} {p : Option Addr} {S : List Rec} {C : List Nat} (h : zj2 p S w C) : AllR w p S := by
 obtain ⟨_, vs, h2, _, h4⟩ := h
 exact ⟨vs, h2, fun i r hr => let ⟨b, off, c, h5, h6, _⟩ := h4 i r hr; ⟨_, c, h5, h6⟩⟩
theorem AllR.new {w w' : World} {p : Option Addr} {S : List Rec} (h : AllR w p S) (hb : Below w.heap.size w w') : AllR w' p S := by
 obtain ⟨vs, h2, h4⟩ := h
 exact ⟨vs, h2.new hb, fun i r hr => let ⟨q, c, h5, h6⟩ := h4 i r hr; ⟨q, c, h5, h6.new hb⟩⟩
def allOk (S : List Rec) : Prop := ∀ r ∈ S, zbD r ∧ r.length ≤ 1000000
end Go.Proofs.YtielfpkjoidomaaGreat
namespace Coup
open Go Go.RowKit
section
variable {P : Program} {ρ : Env} {w : World} {d : Option Nat} {ty : TypeId} {pos : String} {af : Array Edge} {gd : Option (Nat × Bool)} {K : Value → World → Prop}
end
end Coup
namespace Go.Proofs.YtielfpkjoidomaaGreat
open Go Go.RowKit Coup
def zeC (b : List UInt8) (i : Nat) : List UInt8 := (List.range 512).map fun j => if j < i then b.getD (j % b.length) 0 else 0
def ze3 (b : List UInt8) : List UInt8 := if 0 < b.length then zeC b 512 else zeC b 0
theorem zgb (b : List UInt8) (i : Nat) : (zeC b i).length = 512 := by simp [zeC]
theorem zhH (b : List UInt8) : (ze3 b).length = 512 := by unfold ze3; split <;> exact zgb ..
theorem zn5 (b : List UInt8) {i : Nat} (h : i < 512) : (bv (zeC b i)).set i (zcS (b.getD (i % b.length) 0)) = bv (zeC b (i + 1)) := by
 suffices hs : (zeC b i).set i (b.getD (i % b.length) 0) = zeC b (i + 1) by rw [← hs]; exact znE _ _ _
 refine List.ext_getElem? fun j => ?_
 rw [List.getElem?_set, zgb]
 by_cases e : i = j
 ·subst e
  rw [if_pos rfl, if_pos h, zeC, List.getElem?_map, List.getElem?_range h]
  simp
 ·rw [if_neg e, zeC, zeC, List.getElem?_map, List.getElem?_map]
  by_cases hj : j < 512
  ·rw [List.getElem?_range hj]
   simp only [Option.map_some]
   congr 1
   by_cases hji : j < i
   ·rw [if_pos hji, if_pos (by omega)]
   ·rw [if_neg hji, if_neg (by omega)]
  ·rw [List.getElem?_eq_none (by rw [List.length_range]; omega)]; rfl
theorem zmH (b : List UInt8) : bv (zeC b 0) = List.replicate 512 (zcS 0) := by
 refine List.eq_replicate_iff.2 ⟨by rw [zae, zgb], fun v hv => ?_⟩
 obtain ⟨x, hx, rfl⟩ := List.mem_map.1 hv
 obtain ⟨j, _, rfl⟩ := List.mem_map.1 hx
 simp
structure zmI where
 num : Int
 b : List UInt8
def recOf (L : List zmI) : Rec := L.map fun x => ⟨x.num, ze3 x.b⟩
structure LvAt (w : World) (p : Option Addr) (n : Nat) (L : List zmI) : Prop where
 len : L.length = n
 ex : ∃ vs, za9 w p n 2 vs ∧ ∀ (i : Nat) (x : zmI), L[i]? = some x → vs[i * 2]? = some (.int .i64 x.num) ∧ ∃ q c, vs[i * 2 + 1]? = some (.slice q x.b.length c) ∧ za9 w q x.b.length 1 (bv x.b)
theorem ofR_eq (b : List UInt8) (m : Nat) (hl : b.length = 516 * m) : ofR b = if zgU (ofL b m) then some (ofL b m) else none := by
 have h1 : b.length / 516 = m := by omega
 have h2 : b.length % 516 = 0 := by omega
 rw [ofR, ofOk, h1, h2, zgU, zhz]
 rfl
theorem readA {D : Dk} {k : Nat} (h : zb6 D k) (a : Nat) (s : Sec) {j : Nat} (hj : j < D.V.length) : zaB (zbu D (a : Int) s) j = if a = j then s else zaB D j := by
 have h1 := (h.zbu (a : Int) s).2.2 j hj
 unfold zaB
 rw [h1]
 by_cases e : a = j
 ·rw [if_pos (by omega), if_pos e]; simp [zeX]
 ·rw [if_neg (by omega), if_neg e]
theorem zc2 : ∀ (R : List Sec) {D : Dk} {k : Nat} (a : Nat), zb6 D k → (zaF D a R).2 = true ∧ zb6 (zaF D a R).1 (k + R.length) ∧
  ∀ j, j < D.V.length → zaB (zaF D a R).1 j = if a ≤ j ∧ j < a + R.length then R.getD (j - a) zbv else zaB D j
 | [], D, k, a, h => ⟨rfl, h, fun j hj => by rw [if_neg (by rw [List.length_nil]; omega)]; rfl⟩
 | s :: R, D, k, a, h => by
  obtain ⟨h1, h2⟩ := zcy h.left h.dead
  obtain ⟨e1, e2, _⟩ := h.zbu (a : Int) s
  obtain ⟨f1, f2, f3⟩ := zc2 R (a + 1) e1
  rw [zaF, if_pos h1]
  refine ⟨f1, by rw [List.length_cons, show k + (R.length + 1) = k + 1 + R.length by omega]; exact f2, fun j hj => ?_⟩
  rw [f3 j (by rw [e2]; exact hj), readA h a s hj, List.length_cons]
  by_cases c1 : a + 1 ≤ j ∧ j < a + 1 + R.length
  ·rw [if_pos c1, if_pos (by omega), show j - a = (j - (a + 1)) + 1 by omega, List.getD_cons_succ]
  ·rw [if_neg c1]
   by_cases c2 : a = j
   ·rw [if_pos c2, if_pos (by omega), show j - a = 0 by omega, List.getD_cons_zero]
   ·rw [if_neg c2, if_neg (by omega)]
theorem zmJ {D : Dk} (h : za3 D = true) {j : Nat} (hj : j < D.V.length) : zaB (zbe D) j = zaB D j := by
 have h1 := zni h hj
 show zeX (ver (zbe D) j) = _
 rw [h1]; rfl
theorem zgy (R : List Sec) {D : Dk} {k : Nat} (a : Nat) (h : zb6 D k) : (zcO D a R).2 = true ∧ zb6 (zcO D a R).1 1 ∧ (zcO D a R).1.V.length = D.V.length ∧
  ∀ j, j < D.V.length → zaB (zcO D a R).1 j = if a ≤ j ∧ j < a + R.length then R.getD (j - a) zbv else zaB D j := by
 obtain ⟨h1, h2, h3⟩ := zc2 R a h
 have hl := zbo R D a
 obtain ⟨h4, h5⟩ := zcK h2
 rw [zcO, if_pos h1]
 exact ⟨h4, h5, by rw [zb0, hl], fun j hj => by rw [zmJ h4 (by rw [hl]; exact hj), h3 j hj]⟩
theorem zdc {D : Dk} {k : Nat} (h : zb6 D k) (c s : Nat) : zcY D c s = true ∧ zb6 (zbt D c s) 1 ∧ (zbt D c s).V.length = D.V.length ∧
  ∀ j, j < D.V.length → zaB (zbt D c s) j = if j = 0 then zbO c s else zaB D j := by
 obtain ⟨h1, _⟩ := zcy h.left h.dead
 obtain ⟨e1, e2, _⟩ := h.zbu 0 (zbO c s)
 obtain ⟨h4, h5⟩ := zcK e1
 unfold zcY zbt
 rw [h1, if_pos rfl, Bool.true_and]
 refine ⟨h4, h5, by rw [zb0, e2], fun j hj => ?_⟩
 rw [zmJ h4 (by rw [e2]; exact hj)]
 have := readA h 0 (zbO c s) hj
 rw [show ((0 : Nat) : Int) = 0 from rfl] at this
 rw [this]
 by_cases e : j = 0
 ·rw [if_pos e, if_pos e.symm]
 ·rw [if_neg e, if_neg fun h => e h.symm]
theorem ziv {D : Dk} {k : Nat} (h : zb6 D k) : ∀ m j, j < D.V.length → zaB (zeG D m) j = if j < m then zbv else zaB D j
 | 0, j, hj => by rw [if_neg (by omega)]; rfl
 | m + 1, j, hj => by
  obtain ⟨h1, h2⟩ := zex h m
  rw [zfF, readA h1 m zbv (by rw [h2]; exact hj), ziv h m j hj]
  by_cases e : m = j
  ·rw [if_pos e, if_pos (by omega)]
  ·rw [if_neg e]
   by_cases c : j < m
   ·rw [if_pos c, if_pos (by omega)]
   ·rw [if_neg c, if_neg (by omega)]
theorem zn6 {D : Dk} {k : Nat} (h : zb6 D k) (n : Nat) : zb6 (zoZ D n) 1 ∧ (zoZ D n).V.length = D.V.length ∧
  ∀ j, j < D.V.length → zaB (zoZ D n) j = if j = 0 then zbO 1 1 else if j < 1 + n then zbv else zaB D j := by
 obtain ⟨h1, h2⟩ := zex h (1 + n)
 obtain ⟨h4, h5⟩ := zcK h1
 have hfl : (zbe (zeG D (1 + n))).V.length = D.V.length := by rw [zb0, h2]
 obtain ⟨a1, a2, a3, a4⟩ := zdc h5 1 1
 have hst := (zcy h5.left h5.dead).1
 have he : zbt (zbe (zeG D (1 + n))) 1 1 = zoZ D n := by
  unfold zcY at a1
  rw [hst, Bool.true_and] at a1
  rw [zbt, hst, if_pos rfl]; rfl
 rw [he] at a2 a3 a4
 refine ⟨a2, by rw [a3, hfl], fun j hj => ?_⟩
 rw [a4 j (by rw [hfl]; exact hj), zmJ h4 (by rw [h2]; exact hj), ziv h (1 + n) j hj]
theorem zeg {f n : Nat} {l : List UInt8} (h : zbA l n = false) : zb2 f l n = [] := by
 cases f with
 | zero => rfl
 | succ f => rw [zb2, h]; rfl
theorem ziw : ∀ (f f' : Nat) (l : List UInt8) (n : Nat), n ≤ f → n ≤ f' → l.length = n * 128 → zb2 f l n = zb2 f' l n
 | 0, f', l, n, h1, h2, hl => by
  have hj : zbA l n = false := by
   cases hj : zbA l n with
   | false => rfl
   | true => have := (zdb hj).1; omega
  rw [zeg hj, zeg hj]
 | f + 1, f', l, n, h1, h2, hl => by
  cases hj : zbA l n with
  | false => rw [zeg hj, zeg hj]
  | true =>
   obtain ⟨h0, _, h3⟩ := zdb hj
   obtain ⟨h4, h5⟩ := h3 hl
   obtain ⟨f', rfl⟩ : ∃ z, f' = z + 1 := ⟨f' - 1, by omega⟩
   rw [zb2, zb2, hj, if_pos rfl, if_pos rfl, ziw f f' _ _ (by omega) (by omega) (by rw [List.length_drop, hl]; omega)]
theorem zlQ : ∀ (R : Rec) (hR : zbD R) (hn : (R.all fun c => zdU c.num) = true) (X : List UInt8) (i : Nat) (c : Ch), R[i]? = some c → ziq (zdi R ++ X) i = c
 | [], hR, hn, X, i, c, h => by simp at h
 | d :: R, hR, hn, X, i, c, h => by
  have hd := hR d (List.mem_cons_self ..)
  rw [List.all_cons, Bool.and_eq_true] at hn
  have hno := of_decide_eq_true hn.1
  have hb : zdi (d :: R) ++ X = beB 4 d.num.toNat ++ (d.page ++ (zdi R ++ X)) := by
   rw [zdi, List.flatMap_cons]; simp [zdi, List.append_assoc]
  cases i with
  | zero =>
   obtain rfl : d = c := by simpa using h
   rw [hb, ziq, Nat.mul_zero, List.drop_zero, List.take_left' (zaG _ _), Nat.zero_add, List.drop_left' (zaG _ _), List.take_left' hd]
   have hx : zdK (beB 4 d.num.toNat) = d.num.toNat := by rw [zdY]; exact Nat.mod_eq_of_lt (by omega)
   rw [hx]
   cases d
   simp only [Ch.mk.injEq, and_true]
   dsimp only at hno
   omega
  | succ i =>
   have h' : R[i]? = some c := by simpa using h
   have ih := zlQ R (fun x hx => hR x (List.mem_cons_of_mem _ hx)) hn.2 X i c h'
   have hdl : (beB 4 d.num.toNat ++ d.page).length = 516 := by rw [List.length_append, zaG, hd]
   have hb2 : zdi (d :: R) ++ X = (beB 4 d.num.toNat ++ d.page) ++ (zdi R ++ X) := by rw [hb, List.append_assoc]
   have e1 : ∀ j, (zdi (d :: R) ++ X).drop (516 * (i + 1) + j) = (zdi R ++ X).drop (516 * i + j) := fun j => by
    rw [hb2, show 516 * (i + 1) + j = 516 + (516 * i + j) by omega, ← List.drop_drop, List.drop_left' hdl]
   rw [← ih, ziq, ziq, e1 4, show 516 * (i + 1) = 516 * (i + 1) + 0 by omega, e1 0, Nat.add_zero]
theorem ofL_rec {R : Rec} (hR : zbD R) (hn : (R.all fun c => zdU c.num) = true) : ofL (zdi R) R.length = R := by
 refine List.ext_getElem? fun i => ?_
 by_cases hi : i < R.length
 ·obtain ⟨c, hc⟩ : ∃ c, R[i]? = some c := ⟨_, List.getElem?_eq_getElem hi⟩
  have := zlQ R hR hn [] i c hc
  rw [List.append_nil] at this
  rw [ofL_at _ hi, hc, this]
 ·rw [List.getElem?_eq_none (by rw [zhz]; omega), List.getElem?_eq_none (by omega)]
theorem ofR_rec {R : Rec} (hR : zbD R) (hm : zgU R = true) : ofR (zdi R) = some R := by
 have hl := zd0 hR
 have hn := (Bool.and_eq_true_iff.1 hm).2
 rw [ofR_eq (zdi R) R.length hl, ofL_rec hR hn, if_pos hm]
def rowsT : Nat → List (Nat × Rec) → List UInt8
 | _, [] => []
 | k, x :: T => zgT x.1 k (zdi x.2) ++ rowsT (k + 1) T
def atT (T : List (Nat × Rec)) : Nat := atS (T.map (·.2))
theorem zje (x : Nat × Rec) (T : List (Nat × Rec)) : atT (x :: T) = zaY (516 * x.2.length) + atT T := by simp [atT, atS]
def okT (s c : Nat) (T : List (Nat × Rec)) : Prop := ∀ x ∈ T, s ≤ x.1 ∧ x.1 ≤ c ∧ zbD x.2 ∧ zgU x.2 = true
theorem zhI {R : Rec} (hR : zbD R) (hm : zgU R = true) : (zdi R).length ≤ 32768 := by
 have := of_decide_eq_true (Bool.and_eq_true_iff.1 hm).1
 rw [zd0 hR]; omega
def zpg (D : Dk) (n : Nat) : List Sec := (List.range n).map fun i => zaB D (1 + i)
theorem zk6 (D : Dk) (n : Nat) : zd1 D n = (zpg D n).flatten := rfl
theorem zjf (D : Dk) (n : Nat) : (zpg D n).length = n := by simp [zpg]
theorem zg3 (D : Dk) {n i : Nat} (h : i < n) : (zpg D n)[i]? = some (zaB D (1 + i)) := by rw [zpg, List.getElem?_map, List.getElem?_range h]; rfl
theorem zk7 {D : Dk} (h : zcG D) {n : Nat} (hn : 1 + n ≤ D.V.length) : zbV (zpg D n) := fun s hs => by
 obtain ⟨i, hi, rfl⟩ := List.mem_map.1 hs
 have := List.mem_range.1 hi
 exact zdP h (by omega)
theorem zhJ : ∀ {L : List Sec} (_ : zbV L) (k : Nat), (L.take k).flatten = L.flatten.take (128 * k) ∧ (L.drop k).flatten = L.flatten.drop (128 * k)
 | [], _, k => by simp
 | s :: L, h, 0 => by simp
 | s :: L, h, k + 1 => by
  have hs : s.length = 128 := h s (List.mem_cons_self ..)
  obtain ⟨h1, h2⟩ := zhJ (L := L) (fun x hx => h x (List.mem_cons_of_mem _ hx)) k
  rw [List.take_succ_cons, List.drop_succ_cons, List.flatten_cons, List.flatten_cons, h1, h2, show 128 * (k + 1) = s.length + 128 * k by omega]
  refine ⟨?_, ?_⟩
  ·rw [List.take_append, List.take_of_length_le (l := s) (by omega), Nat.add_sub_cancel_left]
  ·rw [List.drop_append, (List.drop_of_length_le (by omega) : s.drop (s.length + 128 * k) = []), Nat.add_sub_cancel_left, List.nil_append]
theorem zph {D D' : Dk} {n a : Nat} {R : List Sec} (hn : 1 + n ≤ D.V.length) (hfit : a + R.length ≤ n) (h : ∀ j, j < D.V.length → zaB D' j = if 1 + a ≤ j ∧ j < 1 + a + R.length then R.getD (j - (1 + a)) zbv else zaB D j) :
  zpg D' n = (zpg D n).take a ++ (R ++ (zpg D n).drop (a + R.length)) := by
 have hl := zjf D n
 refine List.ext_getElem? fun i => ?_
 by_cases hi : i < n
 ·rw [zg3 D' hi, h (1 + i) (by omega)]
  by_cases c1 : i < a
  ·rw [if_neg (by omega), List.getElem?_append_left (by rw [List.length_take]; omega), List.getElem?_take, if_pos c1, zg3 D hi]
  ·rw [List.getElem?_append_right (by rw [List.length_take]; omega), List.length_take, hl, Nat.min_eq_left (by omega)]
   by_cases c2 : i < a + R.length
   ·rw [if_pos (by omega), List.getElem?_append_left (by omega), show 1 + i - (1 + a) = i - a by omega, List.getD_eq_getElem?_getD, List.getElem?_eq_getElem (by omega)]; rfl
   ·rw [if_neg (by omega), List.getElem?_append_right (by omega), List.getElem?_drop, show a + R.length + (i - a - R.length) = i by omega, zg3 D hi]
 ·rw [List.getElem?_eq_none (by rw [zjf]; omega), List.getElem?_eq_none (by simp only [List.length_append, List.length_take, List.length_drop, hl]; omega)]
theorem zlR {D D' : Dk} {n a : Nat} {R : List Sec} {B X : List UInt8} (hD : zcG D) (hn : 1 + n ≤ D.V.length) (hfit : a + R.length ≤ n) (h : ∀ j, j < D.V.length → zaB D' j = if 1 + a ≤ j ∧ j < 1 + a + R.length then R.getD (j - (1 + a)) zbv else zaB D j)
  (hB : zd1 D n = B ++ X) (hBl : B.length = 128 * a) : zd1 D' n = B ++ (R.flatten ++ X.drop (128 * R.length)) := by
 have hok := zk7 hD hn
 rw [zk6, zph hn hfit h, List.flatten_append, List.flatten_append, (zhJ hok a).1, (zhJ hok (a + R.length)).2, ← zk6, hB, List.take_left' hBl, Nat.mul_add, ← hBl, List.drop_append, List.drop_of_length_le (by omega), Nat.add_sub_cancel_left, List.nil_append]
end Go.Proofs.YtielfpkjoidomaaGreat
