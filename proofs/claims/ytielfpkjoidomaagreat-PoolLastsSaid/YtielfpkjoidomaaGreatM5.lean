import Derived.Test.YtielfpkjoidomaaGreatM4
import Derived.Test.YtielfpkjoidomaaGreatM2
namespace Go.Proofs.YtielfpkjoidomaaGreat
open Go Go.RowKit Coup
theorem zk8 {l : List UInt8} {n : Nat} (h : za0 (zaq l 0) = 0) : zbA l n = false := by
 cases hj : zbA l n with
 | false => rfl
 | true =>
  have := (zdy (zdb hj).2.1).1
  omega
theorem zcP (a k : Nat) : (zaI a).take k = zaI (min k a) := by simp [zaI]
theorem zeh (a k : Nat) : (zaI a).drop k = zaI (a - k) := by simp [zaI]
theorem zgz : ∀ k, zdK (zaI k) = 0 := fun k => by
 induction k with
 | zero => rfl
 | succ k ih =>
  have h : zaI (k + 1) = zaI k ++ [0] := by simp [zaI, List.replicate_succ']
  rw [h]
  simp only [zdK] at ih ⊢
  rw [List.foldl_append, ih]; rfl
theorem zix (a n : Nat) : zbA (zaI a) n = false := zk8 (by rw [za0, zaq, zeh, zcP, zcP, zgz])
theorem zmK (s c k f a n : Nat) : zdQ s c k (zb2 f (zaI a) n) = [] := by rw [zeg (zix a n)]; rfl
theorem zgA {D : Dk} : ∀ {n : Nat}, (∀ j, j < n → zaB D (1 + j) = zbv) → zd1 D n = zaI (128 * n)
 | 0, _ => rfl
 | n + 1, h => by
  rw [zj3, zgA fun j hj => h j (by omega), h n (by omega), show 128 * (n + 1) = 128 * n + 128 by omega]
  have e : zbv = zaI 128 := rfl
  rw [e]
  unfold zaI
  exact List.replicate_append_replicate
theorem zkf {c s : Nat} (hc : c < 18446744073709551616) (hs : s < 18446744073709551616) : hdC (zbO c s) = c ∧ hdS (zbO c s) = s := by
 have hm : magic.length = 4 := rfl
 have e8 : (256 : Nat) ^ 8 = 18446744073709551616 := by decide
 refine ⟨?_, ?_⟩
 ·rw [hdC, zbO, List.drop_left' hm, List.take_left' (zaG _ _), zdY, e8, Nat.mod_eq_of_lt hc]
 ·have h1 : (magic ++ (beB 8 c ++ (beB 8 s ++ zaI 108))).drop 12 = beB 8 s ++ zaI 108 := by
   rw [← List.append_assoc, List.drop_left' (by rw [List.length_append, zaG, hm])]
  rw [hdS, zbO, h1, List.take_left' (zaG _ _), zdY, e8, Nat.mod_eq_of_lt hs]
theorem zn7 (c s : Nat) : zf4 (zbO c s) zbv = zbO c s := by
 have hz : zbv = zaI 128 := rfl
 have hl : (magic ++ (beB 8 c ++ beB 8 s)).length = 20 := by simp [magic, zaG]
 have he : zbO c s = (magic ++ (beB 8 c ++ beB 8 s)) ++ zaI 108 := by simp [zbO, List.append_assoc]
 rw [zf4, hz, he, List.take_append, List.take_of_length_le (by rw [hl]; omega), hl, zcP, zeh, List.append_assoc]
 congr 1
theorem head_is {c s : Nat} (h1 : 1 ≤ s) (h2 : s ≤ c) (h3 : c ≤ 4611686018427387904) : zlI (zbO c s) = true := by
 obtain ⟨e1, e2⟩ := zkf (c := c) (s := s) (by omega) (by omega)
 rw [zlI, e1, e2, zn7, decide_eq_true rfl, decide_eq_true h1, decide_eq_true h2, decide_eq_true h3]; rfl
theorem zhK {D : Dk} {c s : Nat} {n : Int} (hf : zfE D.V.length n = true) (hr : zaB D 0 = zbO c s) (h1 : 1 ≤ s) (h2 : s ≤ c) (h3 : c < 4611686018427387904) : ze1 D n = 0 ∧ hdC (zaB D 0) = c ∧ hdS (zaB D 0) = s := by
 obtain ⟨e1, e2⟩ := zkf (c := c) (s := s) (by omega) (by omega)
 rw [ze1, if_pos hf, hr, if_pos (head_is h1 h2 (by omega)), e1, if_neg (by omega)]
 exact ⟨rfl, rfl, e2⟩
theorem zdz.own {Y : World → List Nat → Prop} [hY : Thing Y] {g x lo : Nat} {L : List Nat} {D : Dk} {G : Lg} {w w' : World} {v : Value} (h : zdz g x Y lo L D G w) (hg : w.grownBy w' v.ownBlock) (hv : ∀ b, v.ownBlock = some b → b ∈ L) : zdz g x Y lo L D G w' :=
 h.kpd (Kp.zba hg) fun b hb => .inr (hv b (Option.mem_toList.1 hb))
def kR : Rec := recOf [⟨5, [7]⟩]
theorem zkg {D : Dk} {G : Lg} {R : Rec} {k : Nat} (h : zb6 D k) (hd : G.dead = false) (hm : zgU R = true) (hfit : G.at_ + (zc3 G R).length ≤ G.size) (hn : 1 + G.size ≤ D.V.length) :
  zbs D G R = (0, (zcO D (1 + G.at_) (zc3 G R)).1, { G with at_ := G.at_ + (zc3 G R).length, num := G.num + 1 }) := by
 obtain ⟨h1, _⟩ := zgy (zc3 G R) (1 + G.at_) h
 rw [zbs, hd, if_neg (by simp), if_neg (by rw [hm]; simp), if_neg (by omega), h1, if_pos rfl]
set_option maxRecDepth 20000 in
set_option maxHeartbeats 1000000 in
theorem zkh (b : List UInt8) (p : Option Addr) (n cp : Nat) (w : World) (h : za9 w p n 1 (bv b)) :
   Calls Tryz.prog 13 [.slice p n cp].toArray w (Ret fun v w' => v = .agg (bv (ze3 b)).toArray ∧ Below w.heap.size w w') := by
 have hB := Below.refl w.heap.size w
 have hbl : b.length = n := by simpa [zae] using h.len
 have hfl := zgb b
 have hpl := zhH b
 refine zaw (fn := Tryz.f13) (rs := [.cell 2 37]) (n := 23) Tryz.func13 rfl rfl Tryz.ntmps13 (by kernel_rfl) rfl ?_
 refine zak (zac ?_)
 refine zaX rfl (zaO (List.replicate 512 (zcS 0)) (by kernel_rfl) (fun g2 w2 hg2 hr2 hb2 => ?_))
 have ge_hB_g2 := Nat.le_trans hB.size hg2
 replace hB := hB.acc hb2
 refine zaf (zai (zak (zak (zac (zaa rfl (zad) (zaf (zai (zaD ?_))))))))
 rw [← zmH b] at hr2
 refine zbF (α := Nat) 0 (fun k => [(3, .int .i64 (k : Nat)), (0, .slice p n cp), (2, .pointer (some ⟨g2, 0, none⟩))])
   (fun k w' => k ≤ 512 ∧ (n = 0 → k = 0) ∧ row w' g2 (bv (zeC b k)) 37 ∧ Below w.heap.size w w') (fun k => 512 - k) ⟨rfl, rfl, rfl, rfl⟩ ⟨by omega, fun _ => rfl, hr2, hB⟩ ?_
 clear hB hr2
 rintro i f wr ⟨hi, hz, hr2, hB⟩
 refine zak (zak (zac (zaa rfl (zab) ?_)))
 refine zaa rfl (zbd rfl rfl) ?_
 refine zaa rfl (zab) ?_
 refine zbJ 6 rfl (fun hlt => ?_) (fun hlt => ?_)
 ·
  refine zas rfl (zaa rfl (zab) (zas rfl ?_))
  refine zaa rfl (zaA (e := 5) (sz := 1) (by kernel_rfl) rfl rfl) ?_
  refine zas rfl ?_
  refine zaa rfl (zbU rfl rfl) ?_
  refine zaa rfl (zay rfl) (zaf (zai ?_))
  refine zaZ rfl (fun hpos => ?_) (fun hpos => ?_)
  ·
   refine zau (zai (zak (zaD (zac (zaa rfl (zab) (zaa rfl (zab) (zaa rfl (zab) (zaa rfl (zab) ?_))))))))
   refine zaa rfl (zaA (e := 5) (sz := 1) (by kernel_rfl) rfl rfl) ?_
   refine zaa rfl (zhe rfl rfl (by omega) (by omega)) ?_
   have hmod : i % n < n := Nat.mod_lt _ (by omega)
   have hv := zmT b (i % n) (by omega)
   have hfi := hfl i
   have hobt := h.some (by omega)
   obtain ⟨gp, op, rfl, _⟩ := hobt
   refine zaa rfl (zbm (e := 5) (by kernel_rfl) rfl rfl (i % n) (by first | rfl | omega) (by omega)) ?_
   refine zaa rfl (zam rfl (Ld.sl1 (h.below hB (Nat.le_refl _)) (by kernel_rfl) hv)) ?_
   refine zaa rfl (zfy (e := 5) (m := 512) (by kernel_rfl) rfl rfl (i) (by omega) (by omega)) ?_
   refine za4 rfl (zaP rfl rfl rfl rfl hr2 (by kernel_rfl) (by first | (simp only [List.length_replicate]; omega) | (simp only [zaM]; omega) | (simp only [zae, List.length_set]; omega) | simp) (fun w901 hr2 ho901 => ?_))
   replace hB := ho901.below hB ge_hB_g2
   refine zaf (za2 (zai (zac (zaa rfl (zab) ?_))))
   refine zaa rfl (zaV rfl rfl (Coup.w64 (by omega))) ?_
   refine zaa rfl (zad) (zaf ?_)
   have hfs := zn5 b (i := i) (by omega)
   rw [hbl] at hfs
   replace hfs : (bv (zeC b i)).set (0 + i) (zcS (b.getD (i % n) 0)) = bv (zeC b (i + 1)) := by rw [Nat.zero_add]; exact hfs
   have hr3 : row w901 g2 (bv (zeC b (i + 1))) 37 := by rw [← hfs]; exact hr2
   refine zbq ⟨i + 1, by omega, ⟨by go_num, rfl, rfl, rfl⟩, by omega, fun h => by omega, hr3, hB⟩
  ·
   have hpg : zeC b i = ze3 b := by rw [ze3, if_neg (by omega), hz (by omega)]
   rw [hpg] at hr2
   refine zbp (zbW (zb9 (zbw (zai (zak (zac ?_))))))
   refine zaa rfl (zam rfl (Ld.zb5 (k := 512) hr2 (by kernel_rfl) (by kernel_rfl) (by rw [zae, hpl]))) ?_
   refine za4 rfl (zav 512 (bv (ze3 b)) rfl rfl hr2 (by kernel_rfl) (by first | assumption | (simp; done) | (simp [zae, *]; done)) (by first | assumption | (simp; done) | (simp [zae, *]; done) | rfl) (by first | exact zaL _ | assumption | (simp [Value.oneCell']; done)) (fun w902 hr2 ho902 => ?_))
   replace hB := ho902.below hB ge_hB_g2
   refine zaf (zai (zax ?_))
   refine zar [_] ⟨⟨_, rfl, Ld.zb5 (k := 512) hr2 (by kernel_rfl) (by kernel_rfl) (by first | (simp; done) | (simp [zae, *]; done) | assumption)⟩, trivial⟩ ?_
   exact ⟨rfl, hB⟩
 ·
  have hi2 : i = 512 := by omega
  subst hi2
  have hpg : zeC b 512 = ze3 b := by rw [ze3, if_pos (by by_cases h0 : n = 0 <;> omega)]
  rw [hpg] at hr2
  refine zaE rfl rfl (zaE rfl rfl (zaE rfl rfl (zaa rfl (zaz rfl) (zaf (zai ?_)))))
  refine W_f rfl ?_
  refine zbp (zbW (zb9 (zbw (zai (zak (zac ?_))))))
  refine zaa rfl (zam rfl (Ld.zb5 (k := 512) hr2 (by kernel_rfl) (by kernel_rfl) (by rw [zae, hpl]))) ?_
  refine za4 rfl (zav 512 (bv (ze3 b)) rfl rfl hr2 (by kernel_rfl) (by first | assumption | (simp; done) | (simp [zae, *]; done)) (by first | assumption | (simp; done) | (simp [zae, *]; done) | rfl) (by first | exact zaL _ | assumption | (simp [Value.oneCell']; done)) (fun w903 hr2 ho903 => ?_))
  replace hB := ho903.below hB ge_hB_g2
  refine zaf (zai (zax ?_))
  refine zar [_] ⟨⟨_, rfl, Ld.zb5 (k := 512) hr2 (by kernel_rfl) (by kernel_rfl) (by first | (simp; done) | (simp [zae, *]; done) | assumption)⟩, trivial⟩ ?_
  exact ⟨rfl, hB⟩
set_option maxRecDepth 20000 in
theorem same06 (a b : List Int) (p q : Option Addr) (c d : Nat) (w : World) (ha : za9 w p a.length 1 (iv a)) (hb : za9 w q b.length 1 (iv b)) :
   Calls Tryz.prog 20 [.slice p a.length c, .slice q b.length d].toArray w (Ret fun v w' => v = .bool (decide (a = b)) ∧ Below w.heap.size w w') := by
 have hB := Below.refl w.heap.size w
 have hml : maxLen = 9223372036854775807 := by decide
 have hmx := ha.max
 refine zaw (fn := Tryz.f20) (rs := [.tmp 4]) (n := 26) Tryz.func20 rfl rfl Tryz.ntmps20 (by kernel_rfl) rfl ?_
 refine zak (zac (zaa rfl (zad) (zaf (zai (zak (zak (zac (zaa rfl (zab) ?_))))))))
 refine zaa rfl (zaA (e := 3) (sz := 1) (by kernel_rfl) rfl rfl) ?_
 refine zaa rfl (zab) ?_
 refine zaa rfl (zaA (e := 3) (sz := 1) (by kernel_rfl) rfl rfl) ?_
 refine zaa rfl (zaW rfl rfl) ?_
 refine zaf (zai ?_)
 refine zaZ rfl (fun hne => ?_) (fun hne => ?_)
 ·
  refine zak (zac (zaa rfl (zad) (zaf (zai (zax (zaT ?_))))))
  refine zar [_] ⟨rfl, trivial⟩ ?_
  have hn : a ≠ b := fun e => hne (by rw [e])
  exact ⟨by rw [decide_eq_false hn]; rfl, hB⟩
 ·
  have hl : a.length = b.length := by omega
  refine zau (zai (zak (zak (zac (zaa rfl (zad) (zaf (zai (zaD ?_))))))))
  refine zbF (α := Nat) 0 (fun k => [(5, .int .i64 (k : Nat)), (0, .slice p a.length c), (1, .slice q b.length d)])
    (fun k w' => k ≤ a.length ∧ (∀ j, j < k → a[j]? = b[j]?) ∧ Below w.heap.size w w') (fun k => a.length - k)
    ⟨rfl, rfl, rfl, rfl⟩ ⟨Nat.zero_le _, fun j hj => absurd hj (Nat.not_lt_zero _), hB⟩ ?_
  clear hB
  rintro i f wr ⟨hi, hall, hB⟩
  refine zak (zak (zac (zaa rfl (zab) (zaa rfl (zab) ?_))))
  refine zaa rfl (zaA (e := 3) (sz := 1) (by kernel_rfl) rfl rfl) ?_
  refine zaa rfl (zbd rfl rfl) ?_
  refine zaf (zai ?_)
  refine zaZ rfl (fun hlt => ?_) (fun hlt => ?_)
  ·
   refine zau (zai (zak (zaD (zak ?_))))
   have hob1 : ∃ x, a[i]? = some x := ⟨_, List.getElem?_eq_getElem (by omega)⟩
   have hob2 : ∃ y, b[i]? = some y := ⟨_, List.getElem?_eq_getElem (by omega)⟩
   obtain ⟨x, hx⟩ := hob1
   obtain ⟨y, hy⟩ := hob2
   have hobt := ha.some (by omega)
   obtain ⟨gp, op, rfl, _⟩ := hobt
   have hobt := hb.some (by omega)
   obtain ⟨gq, oq, rfl, _⟩ := hobt
   have ha2 := fun w' (hb : Below w.heap.size w w') => ha.below hb (Nat.le_refl _)
   have hb2 := fun w' (h' : Below w.heap.size w w') => hb.below h' (Nat.le_refl _)
   refine zbg [] (by kernel_rfl) ?_
   intro w901 hb901 hS901
   replace hB := hB.acc hb901
   have hB_d901 := hB
   refine zah 0 (by kernel_rfl) rfl (fun _ _ => zab) ?_
   refine zah 1 (by kernel_rfl) rfl (fun _ _ => zab) ?_
   refine zah 2 (by kernel_rfl) rfl (fun _ _ => zbm (e := 3) (by kernel_rfl) rfl rfl (i) (by omega) (by omega)) ?_
   refine zah 3 (by kernel_rfl) rfl (fun w' hS' => zam rfl (Ld.sl1 (ha2 _ (hB_d901.kpd hS' (by first | (simp; done) | (simp; omega) | (simp [*]; done) | exact zaH (Or.inl (by omega)) | exact zaH (Or.inr (by simp)) | exact fun g hm => Nat.le_trans (by omega) (zel hm).1 | (intro b o e; cases e; exact zaH (Or.inl (by omega))) | (intro b hm; have := (hu.lt b (Option.mem_toList.1 hm)).1; omega) | (intro b o e; cases e; intro hm; have := (hu.lt _ (Option.mem_toList.1 hm)).1; omega)))) (by kernel_rfl) (zeq hx))) ?_
   refine zah 4 (by kernel_rfl) rfl (fun _ _ => zab) ?_
   refine zah 5 (by kernel_rfl) rfl (fun _ _ => zab) ?_
   refine zah 6 (by kernel_rfl) rfl (fun _ _ => zbm (e := 3) (by kernel_rfl) rfl rfl (i) (by omega) (by omega)) ?_
   refine zah 7 (by kernel_rfl) rfl (fun w' hS' => zam rfl (Ld.sl1 (hb2 _ (hB_d901.kpd hS' (by first | (simp; done) | (simp; omega) | (simp [*]; done) | exact zaH (Or.inl (by omega)) | exact zaH (Or.inr (by simp)) | exact fun g hm => Nat.le_trans (by omega) (zel hm).1 | (intro b o e; cases e; exact zaH (Or.inl (by omega))) | (intro b hm; have := (hu.lt b (Option.mem_toList.1 hm)).1; omega) | (intro b o e; cases e; intro hm; have := (hu.lt _ (Option.mem_toList.1 hm)).1; omega)))) (by kernel_rfl) (zeq hy))) ?_
   refine zah 8 (by kernel_rfl) rfl (fun _ _ => zaW rfl rfl) ?_
   refine zaR (by kernel_rfl) ?_
   refine zai ?_
   refine zaZ rfl (fun hxy => ?_) (fun hxy => ?_)
   ·
    refine zak (zac (zaa rfl (zad) (zaf (zai (zax (za6 (zaT (zc6 (za6 (zaT ?_))))))))))
    refine zar [_] ⟨rfl, trivial⟩ ?_
    have hn : a ≠ b := fun e => hxy (by rw [e, hy] at hx; exact (Option.some.inj hx).symm)
    exact ⟨by rw [decide_eq_false hn]; rfl, hB⟩
   ·
    have hxe : x = y := by simpa using hxy
    refine zau (za2 (zai (zac (zaa rfl (zab) ?_))))
    refine zaa rfl (zaV rfl rfl (Coup.w64 (by omega))) ?_
    refine zaa rfl (zad) (zaf ?_)
    refine zbq ⟨i + 1, by omega, ⟨by go_num, rfl, rfl, rfl⟩, by omega, fun j hj => ?_, hB⟩
    by_cases hji : j < i
    · exact hall j hji
    · obtain rfl : j = i := by omega
      rw [hx, hy, hxe]
  ·
   have hn : a = b := List.ext_getElem? fun j => by
     by_cases hj : j < a.length
     · exact hall j (by omega)
     · rw [List.getElem?_eq_none (by omega), List.getElem?_eq_none (by omega)]
   refine zbp (zbW (zb9 (zbw (zai (zak (zac (zaa rfl (zad) (zaf (zai (zax ?_))))))))))
   refine zar [_] ⟨rfl, trivial⟩ ?_
   exact ⟨by rw [decide_eq_true hn]; rfl, hB⟩
theorem zn8 {n j : Nat} (h : j < n) : zaB (zho n) j = zbv := by
 show zeX (ver (zho n) j) = zbv
 have hv : ver (zho n) j = [zbv] := by
  unfold ver zho
  rw [List.getD_eq_getElem?_getD, List.getElem?_replicate, if_pos h]; rfl
 rw [hv]; rfl
theorem zk9 (j : Nat) : (za8 zcM 4).getD j zbv = zbv := by
 rw [List.getD_eq_getElem?_getD]
 by_cases hj : j < 4
 ·rw [zgt zcM hj, Option.getD_some, zcM, List.drop_replicate, List.take_replicate, zbv]
  congr 1
  omega
 ·rw [List.getElem?_eq_none (by rw [zbB]; omega)]; rfl
theorem zn9 {D : Dk} {k s : Nat} (h : zb6 D k) (hz : ∀ j, j < D.V.length → zaB D j = zbv) : ∀ m j, j < D.V.length → zaB (zpD D s m) j = zbv
 | 0, j, hj => hz j hj
 | m + 1, j, hj => by
  obtain ⟨h1, h2⟩ := zga (s := s) h m
  have h3 := (zc2 (za8 zcM 4) (1 + s + m * 4) h1).2.2 j (by rw [h2]; exact hj)
  rw [zpD, h3, zn9 h hz m j hj, zk9]
  split <;> rfl
def frD (pages s : Nat) : Dk := zoZ (zpD (zho (1 + s + 4 * pages)) s pages) s
theorem zoa {pages s : Nat} (h4 : 4 ≤ s) (hs : s ≤ 4000) : zfr (1 + s + 4 * pages) s = pages := by
 unfold zfr
 rw [if_neg (by omega), Int.toNat_natCast]; omega
theorem zjg {pages s : Nat} (h4 : 4 ≤ s) (hs : s ≤ 4000) (hp : pages ≤ 500) : zb6 (frD pages s) 1 ∧ (frD pages s).V.length = 1 + s + 4 * pages ∧ ∀ j, j < 1 + s + 4 * pages → zaB (frD pages s) j = if j = 0 then zbO 1 1 else zbv := by
 have ha := zjM (n := 1 + s + 4 * pages) (by omega)
 obtain ⟨h1, h2⟩ := zga (s := s) ha pages
 rw [zfg] at h2
 obtain ⟨f1, f2, f3⟩ := zn6 h1 s
 rw [h2] at f2 f3
 refine ⟨f1, f2, fun j hj => ?_⟩
 have hz := zn9 (s := s) ha (fun j hj => zn8 (by rw [zfg] at hj; exact hj)) pages j (by rw [zfg]; exact hj)
 rw [frD, f3 j hj, hz]
 split
 ·rfl
 ·split <;> rfl
theorem zlS {pages s : Nat} (h4 : 4 ≤ s) (hs : s ≤ 4000) (hp : pages ≤ 500) : ze1 (frD pages s) s = 0 ∧ hdC (zaB (frD pages s) 0) = 1 ∧ hdS (zaB (frD pages s) 0) = 1 ∧ zck (frD pages s) (zdr (frD pages s) s) = [] := by
 obtain ⟨h1, h2, h3⟩ := zjg h4 hs hp
 obtain ⟨e1, e2, e3⟩ := zhK (D := frD pages s) (c := 1) (s := 1) (n := s) (by rw [h2]; exact decide_eq_true (by omega)) (by rw [h3 0 (by omega), if_pos rfl]) (by omega) (by omega) (by omega)
 refine ⟨e1, e2, e3, ?_⟩
 rw [zck, show (zdr (frD pages s) s).size = s from Int.toNat_natCast s, zgA fun j hj => by rw [h3 (1 + j) (by omega), if_neg (by omega)], zmK]
def frP (pages s fr : Nat) : Pl := ⟨zbt (frD pages s) 2 1, ⟨2, 1, s, 0, 0, false⟩, fr, noP, noP, [], false⟩
theorem zpi {pages s : Nat} (fr : Nat) (h4 : 4 ≤ s) (hs : s ≤ 4000) (hp : pages ≤ 500) : zcY (frD pages s) (hdC (zaB (frD pages s) 0) + 1) (hdS (zaB (frD pages s) 0)) = true ∧ zc5 (frD pages s) s fr = (0, frP pages s fr) := by
 obtain ⟨h1, h2, h3⟩ := zjg h4 hs hp
 obtain ⟨e1, e2, e3, e4⟩ := zlS h4 hs hp
 have hsv := zdc h1 2 1
 rw [e2, e3]
 refine ⟨hsv.1, ?_⟩
 unfold zc5 zbj
 rw [e4, e2, e3, if_pos List.length_nil]
 rfl
theorem zhL {pages s : Nat} (fr : Nat) (h4 : 4 ≤ s) (hs : s ≤ 4000) (hp : pages ≤ 500) : zb6 (frP pages s fr).D 1 ∧ (frP pages s fr).D.V.length = 1 + s + 4 * pages ∧ (frP pages s fr).n = pages ∧ ∀ j, j < 1 + s + 4 * pages → zaB (frP pages s fr).D j = if j = 0 then zbO 2 1 else zbv := by
 obtain ⟨h1, h2, h3⟩ := zjg h4 hs hp
 obtain ⟨_, s2, s3, s4⟩ := zdc h1 2 1
 rw [h2] at s3 s4
 refine ⟨s2, s3, ?_, fun j hj => ?_⟩
 ·show zfr (zbt _ _ _).V.length s = pages
  rw [s3, zoa h4 hs]
 ·show zaB (zbt _ _ _) j = _
  rw [s4 j hj, h3 j hj]
  split <;> rfl
theorem frP_ok {pages s fr : Nat} (h4 : 4 ≤ s) (hs : s ≤ 4000) (hp : pages ≤ 500) (hp4 : 4 ≤ pages) (h2 : 2 ≤ fr) (hm : fr ≤ 100) : zh2 (frP pages s fr) := by
 obtain ⟨a1, a2, a3, a4⟩ := zhL fr h4 hs hp
 exact ⟨⟨Nat.le_refl _, (by show 1 ≤ 2; omega), (by show 2 ≤ _; omega), h4, hs, Nat.zero_le _, Nat.le_refl _, (by rw [a2]; show 1 + s ≤ _; omega)⟩, by rw [a3]; exact hp4, h2, hm, (fun i b h => nomatch h), (fun i b h => nomatch h), (fun c hc => nomatch hc), Nat.zero_le _⟩
structure PlI (P : Pl) (V : Nat → Pg) (k : Nat) : Prop where
 ok : zh2 P
 al : zb6 P.D 1
 gd : P.G.dead = false
 de : P.dead = false
 ct : P.G.count ≤ k
 dn : ∀ n b, P.di n = some b → V n = b
 cl : ∀ c ∈ P.cl, ∃ n : Nat, c.num = (n : Int) ∧ P.di n = none ∧ c.page = V n
 pg : ∀ n, n < P.n → P.di n = none → zbP P.D (1 + P.G.size + n * 4) = V n
 ln : ∀ n, n < P.n → (V n).length = 512
theorem zlT {R : Rec} {n : Int} {c : Ch} (h : R[zez R n]? = some c) : c.num = n := by
 have hl := (List.getElem?_eq_some_iff.1 h).1
 have hp : decide ((R[zez R n]).num = n) = true := List.findIdx_getElem (p := fun c : Ch => decide (c.num = n)) (xs := R) (w := hl)
 have he := (List.getElem?_eq_some_iff.1 h).2
 rw [he] at hp
 exact of_decide_eq_true hp
namespace PlI
variable {P : Pl} {V : Nat → Pg} {k n : Nat}
theorem ask (h : PlI P V k) (hn : n < P.n) : zgg P n = V n := by
 unfold zgg
 split
 ·exact (h.dn _ _ ‹_›).symm
 ·rename_i hd
  split
  ·rename_i c hc
   obtain ⟨m, h1, h2, h3⟩ := h.cl c (List.mem_of_getElem? hc)
   have h4 := zlT hc
   have : m = n := by omega
   rw [h3, this]
  ·exact h.pg n hn hd
theorem up (h : PlI P V k) {k2 : Nat} (hk : k ≤ k2) : PlI P V k2 := ⟨h.ok, h.al, h.gd, h.de, Nat.le_trans h.ct hk, h.dn, h.cl, h.pg, h.ln⟩
theorem zeJ (h : PlI P V k) (hn : n < P.n) : PlI (zeJ P n) V k := by
 have hX := h.ask hn
 have hok : zh2 (Go.Proofs.YtielfpkjoidomaaGreat.zeJ P n) := by
  have hXl : (zgg P n).length = 512 := by rw [hX]; exact h.ln n hn
  unfold Go.Proofs.YtielfpkjoidomaaGreat.zeJ
  split
  ·exact h.ok
  ·have h2 := zkb h.ok.cl h.ok.cll n hXl
   exact ⟨h.ok.lg, h.ok.n4, h.ok.fr2, h.ok.frm, h.ok.ch, h.ok.di, h2.1, h2.2⟩
 revert hok
 unfold Go.Proofs.YtielfpkjoidomaaGreat.zeJ
 split
 ·exact fun _ => h
 ·rename_i hd
  intro hok
  refine ⟨hok, h.al, h.gd, h.de, h.ct, h.dn, fun c hc => ?_, h.pg, h.ln⟩
  have hm : c ∈ without P.cl n ∨ c = ⟨n, zgg P n⟩ := by
   have h1 : c ∈ frameC P.fr P.cl n (zgg P n) := hc
   unfold frameC at h1
   split at h1
   ·have := List.mem_of_mem_drop h1
    rcases List.mem_append.1 this with h2 | h2
    ·exact .inl h2
    ·exact .inr (List.mem_singleton.1 h2)
   ·rcases List.mem_append.1 h1 with h2 | h2
    ·exact .inl h2
    ·exact .inr (List.mem_singleton.1 h2)
  rcases hm with h2 | rfl
  ·exact h.cl c (List.mem_filter.1 h2).1
  ·exact ⟨n, rfl, hd, hX⟩
theorem zfK (h : PlI P V k) (c : PgM) (hc : ∀ i b, c i = some b → b.length = 512) : PlI { P with ch := c } V k :=
 ⟨⟨h.ok.lg, h.ok.n4, h.ok.fr2, h.ok.frm, hc, h.ok.di, h.ok.cl, h.ok.cll⟩, h.al, h.gd, h.de, h.ct, h.dn, h.cl, h.pg, h.ln⟩
theorem zjt (h : PlI P V k) (hn : n < P.n) {X : Pg} (hX : X.length = 512) : PlI (zjt P n X) V k := by
 refine (h.zeJ hn).zfK _ fun i b hb => ?_
 unfold zdB at hb
 split at hb
 ·split at hb
  ·cases hb
  ·rw [← Option.some.inj hb]; exact hX
 ·exact h.ok.ch i b hb
theorem zg1 (h : PlI P V k) (hn : n < P.n) : PlI (zg1 P n) V k := by
 unfold Go.Proofs.YtielfpkjoidomaaGreat.zg1
 split
 ·exact h
 ·exact h.zeJ hn
theorem zmD (h : PlI P V k) (hn : n < P.n) : zmD P n = (P.ch n).getD (V n) := by
 unfold Go.Proofs.YtielfpkjoidomaaGreat.zmD
 split
 ·rename_i b hb; rw [hb]; rfl
 ·rename_i hb; rw [hb]; exact h.ask hn
end PlI
theorem zb3 {D D' : Dk} {a : Nat} (h : ∀ i, i < 4 → zaB D' (a + i) = zaB D (a + i)) : zbP D' a = zbP D a := by
 unfold zbP
 congr 1
 exact List.map_congr_left fun i hi => h i (List.mem_range.1 hi)
theorem zgc {D : Dk} {a : Nat} {X : Pg} (hX : X.length = 512) (h : ∀ i, i < 4 → zaB D (a + i) = (za8 X 4).getD i zbv) : zbP D a = X := by
 have e : ((List.range 4).map fun i => zaB D (a + i)) = za8 X 4 := by
  refine List.ext_getElem? fun i => ?_
  by_cases hi : i < 4
  ·rw [List.getElem?_map, List.getElem?_range hi, Option.map_some, h i hi, zgt X hi, List.getD_eq_getElem?_getD, zgt X hi]; rfl
  ·rw [List.getElem?_eq_none (by simp; omega), List.getElem?_eq_none (by rw [zbB]; omega)]
 unfold zbP
 rw [e, zfH, List.take_of_length_le (by omega)]
theorem zdR (s : Nat) : ∀ (l : List (Nat × Pg)) {D : Dk} {k : Nat}, zb6 D k → (zbM s D l).2 = true ∧ zb6 (zbM s D l).1 (k + 4 * l.length) ∧ (∀ j, j < D.V.length → j < 1 + s → zaB (zbM s D l).1 j = zaB D j) ∧
  (∀ n, 1 + s + n * 4 + 4 ≤ D.V.length → (∀ p ∈ l, p.1 ≠ n) → zbP (zbM s D l).1 (1 + s + n * 4) = zbP D (1 + s + n * 4))
 | [], D, k, h => ⟨rfl, h, fun _ _ _ => rfl, fun _ _ _ => rfl⟩
 | p :: l, D, k, h => by
  obtain ⟨h1, h2, h3⟩ := zc2 (za8 p.2 4) (1 + s + p.1 * 4) h
  rw [zbB] at h2 h3
  obtain ⟨i1, i2, i3, i4⟩ := zdR s l h2
  have hl := zbo (za8 p.2 4) D (1 + s + p.1 * 4)
  rw [zbM, if_pos h1]
  refine ⟨i1, i2.weak (by rw [List.length_cons]; omega), fun j hj hjs => ?_, fun n hn hm => ?_⟩
  ·rw [i3 j (by rw [hl]; exact hj) hjs, h3 j hj, if_neg (by omega)]
  ·rw [i4 n (by rw [hl]; exact hn) (fun q hq => hm q (List.mem_cons_of_mem _ hq))]
   have hpn := hm p (List.mem_cons_self ..)
   refine zb3 fun i hi => ?_
   rw [h3 _ (by omega), if_neg (by omega)]
theorem zki (s : Nat) : ∀ (l : List (Nat × Pg)) {D : Dk} {k : Nat}, zb6 D k → (l.map (·.1)).Nodup → (∀ p ∈ l, p.2.length = 512) → ∀ p ∈ l, 1 + s + p.1 * 4 + 4 ≤ D.V.length → zbP (zbM s D l).1 (1 + s + p.1 * 4) = p.2
 | [], D, k, h, _, _ => fun p hp => nomatch hp
 | r :: l, D, k, h, hnd, hl512 => fun p hp hn => by
  obtain ⟨h1, h2, h3⟩ := zc2 (za8 r.2 4) (1 + s + r.1 * 4) h
  rw [zbB] at h2 h3
  have hl := zbo (za8 r.2 4) D (1 + s + r.1 * 4)
  rw [List.map_cons, List.nodup_cons] at hnd
  rw [zbM, if_pos h1]
  rcases List.mem_cons.1 hp with rfl | hp
  ·rw [(zdR s l h2).2.2.2 p.1 (by rw [hl]; exact hn) fun q hq e => hnd.1 (by rw [← e]; exact List.mem_map_of_mem (f := (·.1)) hq)]
   refine zgc (hl512 p (List.mem_cons_self ..)) fun i hi => ?_
   rw [h3 _ (by omega), if_pos (by omega), show 1 + s + p.1 * 4 + i - (1 + s + p.1 * 4) = i by omega]
  ·exact zki s l h2 hnd.2 (fun q hq => hl512 q (List.mem_cons_of_mem _ hq)) p hp (by rw [hl]; exact hn)
theorem zhM (c : PgM) : ∀ (m a : Nat), ((zcA c a m).map (·.1)).Nodup
 | 0, a => List.nodup_nil
 | m + 1, a => by
  have ih := zhM c m (a + 1)
  rw [zcA]
  split
  ·rw [List.map_cons, List.nodup_cons]
   refine ⟨fun hm => ?_, ih⟩
   obtain ⟨p, hp, e⟩ := List.mem_map.1 hm
   have := zc1 hp
   have e2 : p.1 = a := e
   omega
  ·exact ih
theorem ziy {c : PgM} : ∀ {m a i : Nat} {b : Pg}, c i = some b → a ≤ i → i < a + m → (i, b) ∈ zcA c a m
 | 0, a, i, b, _, h1, h2 => by omega
 | m + 1, a, i, b, h, h1, h2 => by
  rw [zcA]
  by_cases e : a = i
  ·subst e; rw [h]; exact List.mem_cons_self ..
  ·have := ziy (m := m) (a := a + 1) h (by omega) (by omega)
   split
   ·exact List.mem_cons_of_mem _ this
   ·exact this
theorem PlI.settle {P : Pl} {V : Nat → Pg} {k : Nat} (h : PlI P V k) (hk : k ≤ 1000000) : (zaK P).1 = 0 ∧ PlI (zaK P).2 V (k + 1) ∧ (zaK P).2.di = noP ∧ (zaK P).2.G = zfq P.G ∧ (zaK P).2.ch = P.ch ∧ (zaK P).2.n = P.n ∧ (zaK P).2.fr = P.fr ∧ (zaK P).2.D.V.length = P.D.V.length := by
 have hct := h.ct
 have hfit := h.ok.lg.fit
 obtain ⟨w1, w2, w3, w4⟩ := zdR P.G.size (zcA P.di 0 P.n) h.al
 have wl := zef P.G.size (zcA P.di 0 P.n) P.D
 obtain ⟨f1, f2⟩ := zcK w2
 obtain ⟨s1, s2, s3, s4⟩ := zdc f2 (P.G.count + 1) (P.G.count + 1)
 have he : (zaK P).1 = 0 := by
  unfold zaK zbz
  rw [if_pos w1, if_pos f1]
  dsimp only
  unfold zcC
  rw [if_neg (by rw [h.gd]; simp), if_neg (by omega), if_pos s1]
 obtain ⟨k1, k2, k3, k4, k5, k6, k7, k8, k9, k10⟩ := zhG h.ok he
 obtain ⟨l1, l2, l3, l4, l5, l6, l7⟩ := zcc P
 have hD : (zaK P).2.D = zbt (zbe (zbM P.G.size P.D (zcA P.di 0 P.n)).1) (P.G.count + 1) (P.G.count + 1) := k10
 have hrd : ∀ n, n < P.n → zbP (zaK P).2.D (1 + P.G.size + n * 4) = V n := fun n hn => by
  have hr := (zit h.ok hn).1
  have e1 : zbP (zaK P).2.D (1 + P.G.size + n * 4) = zbP (zbM P.G.size P.D (zcA P.di 0 P.n)).1 (1 + P.G.size + n * 4) := by
   rw [hD]
   refine zb3 fun i hi => ?_
   rw [s4 _ (by rw [zb0, wl]; omega), if_neg (by omega), zmJ f1 (by rw [wl]; omega)]
  rw [e1]
  cases hd : P.di n with
  | some b =>
   have hm := ziy (m := P.n) (a := 0) hd (Nat.zero_le _) (by omega)
   have := zki P.G.size _ h.al (zhM P.di P.n 0) (fun p hp => h.ok.di _ _ (zc1 hp).1) _ hm (by dsimp only; omega)
   rw [this]
   exact (h.dn n b hd).symm
  | none =>
   rw [w4 n hr fun p hp e => by have := (zc1 hp).1; rw [e, hd] at this; cases this]
   exact h.pg n hn hd
 refine ⟨he, ⟨k1, by rw [hD]; exact s2, by rw [k4]; exact k5, by rw [l6]; exact h.de, by rw [k4]; show P.G.count + 1 ≤ _; omega, ?_, ?_, ?_, fun n hn => h.ln n (by rw [← l7]; exact hn)⟩, k3, k4, l3, l7, l5, l1⟩
 ·intro n b hb; rw [k3] at hb; cases hb
 ·intro c hc
  rw [l4] at hc
  obtain ⟨n, c1, c2, c3⟩ := h.cl c hc
  exact ⟨n, c1, by rw [k3]; rfl, c3⟩
 ·intro n hn _
  rw [l2]
  exact hrd n (by rw [← l7]; exact hn)
theorem zhN (c : PgM) : ∀ (m a : Nat) (P : Pl) (n : Nat), (za5 P ((zcA c a m).map fun p => ⟨p.1, p.2⟩)).di n = if a ≤ n ∧ n < a + m then (c n).or (P.di n) else P.di n
 | 0, a, P, n => by rw [if_neg (by omega)]; rfl
 | m + 1, a, P, n => by
  rw [zcA]
  cases hc : c a with
  | some b =>
   have ih := zhN c m (a + 1) { P with di := zdB P.di a (some b), cl := without P.cl (a : Int) } n
   have e : za5 P (((a, b) :: zcA c (a + 1) m).map fun p => (⟨p.1, p.2⟩ : Ch)) = za5 { P with di := zdB P.di a (some b), cl := without P.cl (a : Int) } ((zcA c (a + 1) m).map fun p => ⟨p.1, p.2⟩) := rfl
   dsimp only
   rw [e, ih]
   dsimp only [zdB]
   by_cases h1 : a + 1 ≤ n ∧ n < a + 1 + m
   ·rw [if_pos h1, if_neg (show ¬ n = a by omega), if_pos (show a ≤ n ∧ n < a + (m + 1) by omega)]
   ·rw [if_neg h1]
    by_cases h2 : n = a
    ·subst h2; rw [if_pos rfl, if_pos (by omega), hc]; rfl
    ·rw [if_neg h2, if_neg (by omega)]
  | none =>
   dsimp only
   rw [zhN c m (a + 1) P n]
   by_cases h1 : a + 1 ≤ n ∧ n < a + 1 + m
   ·rw [if_pos h1, if_pos (by omega)]
   ·rw [if_neg h1]
    by_cases h2 : n = a
    ·subst h2; rw [if_pos (by omega), hc]; rfl
    ·rw [if_neg (by omega)]
theorem zla : ∀ (R : Rec) (P : Pl) (c : Ch), c ∈ (za5 P R).cl → c ∈ P.cl ∧ ∀ r ∈ R, c.num ≠ r.num
 | [], P, c, h => ⟨h, fun r hr => nomatch hr⟩
 | r :: R, P, c, h => by
  obtain ⟨h1, h2⟩ := zla R { P with di := zdB P.di r.num.toNat (some r.page), cl := without P.cl r.num } c h
  have h3 := List.mem_filter.1 h1
  refine ⟨h3.1, fun q hq => ?_⟩
  rcases List.mem_cons.1 hq with rfl | hq
  ·have := h3.2
   simpa using this
  ·exact h2 q hq
def zcl (P : Pl) (V : Nat → Pg) : Nat → Pg := fun n => if n < P.n then (P.ch n).getD (V n) else V n
theorem ze4 (G : Lg) {R : Rec} (h1 : 1 ≤ R.length) (h2 : R.length ≤ 60) : zbK (R.length : Int) = ((zc3 G R).length : Int) := by
 rw [zey]
 unfold zbK
 rw [if_pos (by omega), Int.toNat_natCast, Nat.mul_comm]
theorem zlb {P : Pl} (h1 : 1 ≤ (zaU P).length) (h2 : (zaU P).length ≤ 60) (hn : P.n ≤ 2048) : zgU (zaU P) = true := by
 rw [zgU, Bool.and_eq_true]
 refine ⟨decide_eq_true ⟨h1, h2⟩, List.all_eq_true.2 fun c hc => ?_⟩
 obtain ⟨p, hp, rfl⟩ := List.mem_map.1 hc
 have := zc1 hp
 exact decide_eq_true (by show (0 : Int) ≤ (p.1 : Int) ∧ (p.1 : Int) < 2147483648; omega)
theorem zeD {P : Pl} {V : Nat → Pg} {k : Nat} (h : PlI P V k) (hk : k ≤ 1000000) (hn : P.n ≤ 2048) (hR1 : ¬ (zaU P).length = 0) (hR2 : ¬ 60 < (zaU P).length) (hfit : zbK ((zaU P).length : Int) ≤ ((P.G.size - P.G.at_ : Nat) : Int)) :
  (zbs P.D P.G (zaU P)).1 = 0 ∧ PlI { za5 (zb7 P (zaU P)) (zaU P) with ch := noP } (zcl P V) k ∧ (zb7 P (zaU P)).G = { P.G with at_ := P.G.at_ + (zc3 P.G (zaU P)).length, num := P.G.num + 1 } ∧ (zb7 P (zaU P)).D.V.length = P.D.V.length ∧
   (zb7 P (zaU P)).D = (zcO P.D (1 + P.G.at_) (zc3 P.G (zaU P))).1 ∧ (zb7 P (zaU P)).n = P.n := by
 have hlg := h.ok.lg
 have hat := hlg.at_
 have hrw := ze4 P.G (R := zaU P) (by omega) (by omega)
 have hfit2 : P.G.at_ + (zc3 P.G (zaU P)).length ≤ P.G.size := by omega
 have hnum := hlg.num
 have hrl1 : 1 ≤ (zc3 P.G (zaU P)).length := by
  rw [zey]; unfold zaY za1; omega
 have hca := zkg h.al h.gd (zlb (P := P) (by omega) (by omega) hn) hfit2 hlg.fit
 obtain ⟨p1, p2, p3, p4⟩ := zgy (zc3 P.G (zaU P)) (1 + P.G.at_) h.al
 obtain ⟨d1, d2, d3, d4, d5, d6, d7, d8⟩ := zcn (zaU P) (zb7 P (zaU P))
 have eD : (zb7 P (zaU P)).D = (zcO P.D (1 + P.G.at_) (zc3 P.G (zaU P))).1 := by unfold zb7; rw [hca]
 have eG : (zb7 P (zaU P)).G = { P.G with at_ := P.G.at_ + (zc3 P.G (zaU P)).length, num := P.G.num + 1 } := by unfold zb7; rw [hca]
 have en : (zb7 P (zaU P)).n = P.n := by unfold Pl.n; rw [eD, eG, p3]
 have edi : ∀ n, (za5 (zb7 P (zaU P)) (zaU P)).di n = if n < P.n then (P.ch n).or (P.di n) else P.di n := fun n => by
  have := zhN P.ch P.n 0 (zb7 P (zaU P)) n
  unfold zaU at this ⊢
  rw [this]
  by_cases hnn : n < P.n
  ·rw [if_pos (by omega), if_pos hnn]; rfl
  ·rw [if_neg (by omega), if_neg hnn]; rfl
 refine ⟨by rw [hca], ⟨⟨?_, ?_, ?_, ?_, (fun i b hb => nomatch hb), ?_, ?_, ?_⟩, ?_, ?_, ?_, ?_, ?_, ?_, ?_, fun n hnn => ?_⟩, eG, by rw [eD, p3], eD, en⟩
 ·show zo1 (za5 _ _).D (za5 _ _).G
  rw [d1, d2, eD, eG]
  exact ⟨hlg.s1, hlg.sc, hlg.cm, hlg.sz4, hlg.szm, hfit2, by show P.G.num + 1 ≤ P.G.at_ + _; omega, by rw [p3]; exact hlg.fit⟩
 ·show 4 ≤ (za5 _ _).n
  rw [d6, en]; exact h.ok.n4
 ·show 2 ≤ (za5 _ _).fr
  rw [d3]; exact h.ok.fr2
 ·show (za5 _ _).fr ≤ 100
  rw [d3]; exact h.ok.frm
 ·intro i b hb
  have hb2 : (za5 (zb7 P (zaU P)) (zaU P)).di i = some b := hb
  rw [edi] at hb2
  split at hb2
  ·cases hc : P.ch i with
   | some x => rw [hc] at hb2; rw [← Option.some.inj hb2]; exact h.ok.ch i x hc
   | none => rw [hc] at hb2; exact h.ok.di i b hb2
  ·exact h.ok.di i b hb2
 ·exact d7 h.ok.cl
 ·show (za5 _ _).cl.length ≤ (za5 _ _).fr
  rw [d3]; exact Nat.le_trans d8 h.ok.cll
 ·show zb6 (za5 _ _).D 1
  rw [d1, eD]; exact p2
 ·show (za5 _ _).G.dead = false
  rw [d2, eG]; exact h.gd
 ·show (za5 _ _).dead = false
  rw [d5]; exact h.de
 ·show (za5 _ _).G.count ≤ k
  rw [d2, eG]; exact h.ct
 ·intro n b hb
  have hb2 : (za5 (zb7 P (zaU P)) (zaU P)).di n = some b := hb
  rw [edi] at hb2
  unfold zcl
  split
  ·rename_i hnn
   rw [if_pos hnn] at hb2
   cases hc : P.ch n with
   | some x => rw [hc] at hb2; exact Option.some.inj hb2
   | none => rw [hc] at hb2; exact h.dn n b hb2
  ·rename_i hnn
   rw [if_neg hnn] at hb2
   exact h.dn n b hb2
 ·intro c hc
  obtain ⟨c1, c2⟩ := zla (zaU P) (zb7 P (zaU P)) c hc
  obtain ⟨n, n1, n2, n3⟩ := h.cl c c1
  have hnc : n < P.n → P.ch n = none := fun hnn => by
   cases hcn : P.ch n with
   | none => rfl
   | some x =>
    have hm : (⟨(n : Int), x⟩ : Ch) ∈ zaU P := List.mem_map.2 ⟨(n, x), ziy hcn (Nat.zero_le _) (by omega), rfl⟩
    exact absurd n1 (c2 _ hm)
  refine ⟨n, n1, ?_, ?_⟩
  ·show (za5 (zb7 P (zaU P)) (zaU P)).di n = none
   rw [edi]
   split
   ·rw [hnc ‹_›]; exact n2
   ·exact n2
  ·unfold zcl
   split
   ·rw [hnc ‹_›]; exact n3
   ·exact n3
 ·intro n hnn hdn
  have hnn2 : n < P.n := by
   have : (za5 (zb7 P (zaU P)) (zaU P)).n = P.n := by rw [d6, en]
   rw [← this]; exact hnn
  have hb2 : (za5 (zb7 P (zaU P)) (zaU P)).di n = none := hdn
  rw [edi, if_pos hnn2] at hb2
  have hr := (zit h.ok hnn2).1
  show zbP (za5 _ _).D (1 + (za5 _ _).G.size + n * 4) = _
  rw [d1, d2, eD, eG]
  have e1 : zbP (zcO P.D (1 + P.G.at_) (zc3 P.G (zaU P))).1 (1 + P.G.size + n * 4) = zbP P.D (1 + P.G.size + n * 4) := zb3 fun i hi => by
   rw [p4 _ (by omega), if_neg (by omega)]
  unfold zcl
  rw [if_pos hnn2]
  cases hc : P.ch n with
  | some x => rw [hc] at hb2; cases hb2
  | none =>
   rw [hc] at hb2
   show zbP _ _ = V n
   dsimp only
   rw [e1]
   exact h.pg n hnn2 hb2
 ·have hnn2 : n < P.n := by
   have : (za5 (zb7 P (zaU P)) (zaU P)).n = P.n := by rw [d6, en]
   rw [← this]; exact hnn
  unfold zcl
  rw [if_pos hnn2]
  cases hc : P.ch n with
  | some x => exact h.ok.ch n x hc
  | none => exact h.ln n hnn2
theorem zdS : zcM.length = 512 := List.length_replicate ..
theorem frP_inv {pages s fr : Nat} (h4 : 4 ≤ s) (hs : s ≤ 4000) (hp : pages ≤ 500) (hp4 : 4 ≤ pages) (h2 : 2 ≤ fr) (hm : fr ≤ 100) : PlI (frP pages s fr) (fun _ => zcM) 2 := by
 obtain ⟨a1, a2, a3, a4⟩ := zhL fr h4 hs hp
 refine ⟨frP_ok h4 hs hp hp4 h2 hm, a1, rfl, rfl, Nat.le_refl _, (fun n b h => nomatch h), (fun c hc => nomatch hc), fun n hn _ => ?_, fun _ _ => zdS⟩
 rw [a3] at hn
 refine zgc zdS fun i hi => ?_
 show zaB (frP pages s fr).D (1 + s + n * 4 + i) = _
 rw [a4 _ (by omega), if_neg (by omega), zk9]
theorem pageB7 : ze3 [7] ≠ zcM := fun e => by
 have h : (ze3 [7])[0]? = zcM[0]? := by rw [e]
 rw [ze3, if_pos (by simp), zeC, List.getElem?_map, List.getElem?_range (by omega), zcM, List.getElem?_replicate, if_pos (by omega)] at h
 revert h
 decide
section
variable {Y : World → List Nat → Prop} [Thing Y] {lo : Nat} {L : List Nat} {w : World}
set_option maxRecDepth 20000 in
set_option maxHeartbeats 1000000 in
theorem begunC (h : Two Y None lo L w) (pages s fr : Nat) (hp4 : 4 ≤ pages) (hp : pages ≤ 500) (h4 : 4 ≤ s) (hs : s ≤ 4000) (h2 : 2 ≤ fr) (hm : fr ≤ 100) :
  Calls Tryz.prog 11 [.int .i64 (pages : Int), .int .i64 (s : Int), .int .i64 (fr : Int)].toArray w (Ret fun v w' => (∃ g x q mc md cv, v = .tuple #[.pointer (some ⟨g, 0, none⟩), .pointer (some ⟨q, 0, none⟩), .bool true] ∧ zbc g x q mc md cv cv Y lo L (frP pages s fr) w') ∧ LoL lo L w w') := by
 have hLL := LoL.refl lo L w
 have hN := newC (w := w) (1 + s + 4 * pages) (by omega) (by omega)
 rw [show ((1 + s + 4 * pages : Nat) : Int) = 1 + (s : Int) + 4 * (pages : Int) by omega] at hN
 have hfm := fun g w' (h' : Two (DZ g (zho (1 + s + 4 * pages))) Y lo L w') => formatP h' (s : Int) ⟨by omega, by omega⟩ ((zjM (n := 1 + s + 4 * pages) (by omega)).weak (by omega))
 have hcn := zoa (pages := pages) h4 hs
 simp only [zfg, hcn, if_neg (show ¬ pages < 4 by omega), Int.toNat_natCast] at hfm
 obtain ⟨a1, a2, a3⟩ := zjg h4 hs hp
 obtain ⟨b1, b2, b3, b4⟩ := zlS h4 hs hp
 obtain ⟨c1, c2⟩ := zpi fr h4 hs hp
 have hop := fun g w' (h' : Two (DZ g (frD pages s)) Y lo L w') => (openOk h' s fr (by rw [a2, hcn]; omega) ⟨h2, hm⟩ b1 (zbE a1.short (by omega)) c1).to fun v w'' ⟨hh, k⟩ => (show (∃ x q mc md cv, v = Value.tuple #[Value.pointer (some ⟨q, 0, none⟩), Value.int .i64 0] ∧ zbc g x q mc md cv cv Y lo L (frP pages s fr) w'') ∧ LoL lo L w' w'' from by
  rw [c2] at hh
  rcases hh with ⟨h1, _⟩ | ⟨_, x, q, mc, md, cv, e, hP⟩
  ·exact absurd rfl h1
  ·exact ⟨⟨x, q, mc, md, cv, e, hP⟩, k⟩)
 have hfe : zoZ (zpD (zho (1 + s + 4 * pages)) s pages) s = frD pages s := rfl
 rw [hfe] at hfm
 generalize frD pages s = D1 at *
 refine zaw (fn := Tryz.f11) (rs := [.tmp 6, .tmp 7, .tmp 8]) (n := 41) Tryz.func11 rfl rfl Tryz.ntmps11 (by kernel_rfl) rfl ?_
 refine zak (zac (zaa rfl (zad) (zaa rfl (zad) (zaa rfl (zad) (zaf (zai (zak (zac (zaa rfl (zab) ?_)))))))))
 refine zaa rfl (zaV rfl rfl (Coup.w64 (by omega))) ?_
 refine zaa rfl (zab) ?_
 refine zaa rfl (zd6 rfl rfl (Coup.w64 (by omega))) ?_
 refine zaa rfl (zaV rfl rfl (Coup.w64 (by omega))) ?_
 refine zat rfl (zao (by kernel_rfl) rfl) (hN) ?_
 rintro _ w19 ⟨g, B, rfl, hX, hBf, hb19⟩
 have hT := (h.add (Y := DZ g (zho (1 + s + 4 * pages))) hb19 hX hBf).swap
 replace hLL := hLL.new hb19
 refine zaa rfl (zab) (zaa rfl (zan rfl rfl) (zaa rfl (zan rfl rfl) (zaa rfl (zad) (zaa rfl (zad) (zaf (zai (zak (zak (zac (zaa rfl (zab) ?_))))))))))
 refine zaa rfl (zaW rfl rfl) ?_
 refine zaa rfl (zab) ?_
 refine ziK 24 rfl ((by simp)) ?_
 refine zas rfl (zaa rfl (zab) (zas rfl (zaa rfl (zab) (zas rfl ?_))))
 refine zat rfl (zao (by kernel_rfl) rfl) (hfm g w19 hT) ?_
 rintro _ w27 ⟨rfl, hT, hb27⟩
 replace hLL := hLL.lq hb27
 refine zas rfl ?_
 refine zaa rfl (zaW rfl rfl) ?_
 refine zaa rfl (zaz rfl) (zaf (zai ?_))
 refine zdT rfl ((by simp)) ?_
 refine zau (zai (zak (zac (zaa rfl (zab) (zaa rfl (zab) (zaa rfl (zab) ?_))))))
 refine zat rfl (zao (by kernel_rfl) rfl) (hop g w27 hT) ?_
 rintro _ w34 ⟨⟨x, q, mc, md, cv, rfl, hP⟩, hb34⟩
 replace hLL := hLL.lq hb34
 refine zaa rfl (zab) (zaa rfl (zan rfl rfl) (zaa rfl (zan rfl rfl) (zaa rfl (zad) (zaa rfl (zad) (zaf (zai (zak (zac (zaa rfl (zab) (zaa rfl (zab) (zaa rfl (zab) ?_)))))))))))
 refine zaa rfl (zbr rfl rfl) ?_
 refine zaa rfl (zad) (zaa rfl (zad) (zaa rfl (zad) (zaf (zai (zax ?_)))))
 refine zar [_, _, _] ⟨rfl, rfl, rfl, trivial⟩ ?_
 exact ⟨⟨g, x, q, mc, md, cv, rfl, hP⟩, hLL⟩
end
def k1 (K : Pl) (X : Pg) : Pl := zjt K 1 X
def k2 (K : Pl) (X : Pg) : Pl := { k1 K X with ch := noP }
def k3 (K : Pl) (X : Pg) : Pl := zg1 (k2 K X) 1
def k4 (K : Pl) (X : Pg) : Pl := zjt (k3 K X) 1 X
def k5 (K : Pl) (X : Pg) : Pl := { za5 (zb7 (k4 K X) (zaU (k4 K X))) (zaU (k4 K X)) with ch := noP }
def k6 (K : Pl) (X : Pg) : Pl := zg1 (k5 K X) 1
theorem zdd {P : Pl} {n : Nat} : (zeJ P n).n = P.n ∧ (zeJ P n).ch = P.ch ∧ (zeJ P n).di = P.di ∧ (zeJ P n).G = P.G := by
 obtain ⟨h1, h2, h3, h4, h5, h6, h7⟩ := zc0 P n
 exact ⟨h7, h4, h5, h2⟩
theorem zei {P : Pl} {n : Nat} : (zg1 P n).n = P.n ∧ (zg1 P n).ch = P.ch ∧ (zg1 P n).di = P.di ∧ (zg1 P n).G = P.G := by
 unfold zg1
 split
 ·exact ⟨rfl, rfl, rfl, rfl⟩
 ·exact zdd
section
variable {K : Pl} {X Z : Pg}
structure KOk (K : Pl) (X Z : Pg) : Prop where
 i : PlI K (fun _ => Z) 2
 n : K.n = 5
 g : K.G = ⟨2, 1, 12, 0, 0, false⟩
 di : K.di = noP
 xl : X.length = 512
 xz : X ≠ Z
namespace KOk
theorem i0 (h : KOk K X Z) : 1 < K.n := by rw [h.n]; omega
theorem n1 (h : KOk K X Z) : (k1 K X).n = 5 := (zdd (P := K) (n := 1)).1.trans h.n
theorem i1 (h : KOk K X Z) : PlI (k1 K X) (fun _ => Z) 2 := h.i.zjt h.i0 h.xl
theorem i2 (h : KOk K X Z) : PlI (k2 K X) (fun _ => Z) 2 := h.i1.zfK noP (fun i b h => nomatch h)
theorem n2 (h : KOk K X Z) : (k2 K X).n = 5 := h.n1
theorem l2 (h : KOk K X Z) : 1 < (k2 K X).n := by rw [h.n2]; omega
theorem i3 (h : KOk K X Z) : PlI (k3 K X) (fun _ => Z) 2 := h.i2.zg1 h.l2
theorem n3 (h : KOk K X Z) : (k3 K X).n = 5 := (zei (P := k2 K X) (n := 1)).1.trans h.n2
theorem l3 (h : KOk K X Z) : 1 < (k3 K X).n := by rw [h.n3]; omega
theorem i4 (h : KOk K X Z) : PlI (k4 K X) (fun _ => Z) 2 := h.i3.zjt h.l3 h.xl
theorem n4 (h : KOk K X Z) : (k4 K X).n = 5 := (zdd (P := k3 K X) (n := 1)).1.trans h.n3
theorem g4 (h : KOk K X Z) : (k4 K X).G = ⟨2, 1, 12, 0, 0, false⟩ := by
 have h1 := (zdd (P := k3 K X) (n := 1)).2.2.2
 have h2 := (zei (P := k2 K X) (n := 1)).2.2.2
 have h3 := (zdd (P := K) (n := 1)).2.2.2
 exact h1.trans (h2.trans (h3.trans h.g))
theorem d4 (h : KOk K X Z) : (k4 K X).di = noP := by
 have h1 := (zdd (P := k3 K X) (n := 1)).2.2.1
 have h2 := (zei (P := k2 K X) (n := 1)).2.2.1
 have h3 := (zdd (P := K) (n := 1)).2.2.1
 exact h1.trans (h2.trans (h3.trans h.di))
theorem c4 (h : KOk K X Z) : (k4 K X).ch = zdB noP 1 (some X) := by
 have h2 : (k3 K X).ch = noP := (zei (P := k2 K X) (n := 1)).2.1
 have h3 := h.i3.ask h.l3
 show zdB (k3 K X).ch 1 (if X = zgg (k3 K X) 1 then none else some X) = _
 rw [h2, h3, if_neg h.xz]
theorem r4 (h : KOk K X Z) : zaU (k4 K X) = [⟨1, X⟩] := by
 unfold zaU
 rw [h.n4, h.c4]
 rfl
theorem com (h : KOk K X Z) : zaC (k4 K X) = (0, k5 K X) ∧ PlI (k5 K X) (zcl (k4 K X) fun _ => Z) 2 ∧ (k5 K X).n = 5 ∧ (k5 K X).G.size - (k5 K X).G.at_ = 6 ∧ zfJ (k5 K X).di 5 = [1] := by
 have hr4 := h.r4
 have hn60 : zbK (((zaU (k4 K X)).length : Nat) : Int) = 6 := by
  rw [hr4]
  show zbK ((1 : Nat) : Int) = 6
  unfold zbK
  rw [if_pos (by decide)]
  rfl
 have hg := h.g4
 have hd := h.d4
 have hi := h.i4
 have hn4 := h.n4
 unfold k5
 generalize k4 K X = K4 at *
 have hfit : zbK ((zaU K4).length : Int) ≤ ((K4.G.size - K4.G.at_ : Nat) : Int) := by rw [hn60, hg]; decide
 obtain ⟨c1, c2, c3, c4, c5, c6⟩ := zeD hi (by omega) (by rw [hn4]; omega) (by rw [hr4]; simp) (by rw [hr4]; simp) hfit
 have hrl := ze4 K4.G (R := zaU K4) (by rw [hr4]; simp) (by rw [hr4]; simp)
 rw [hn60] at hrl
 obtain ⟨d1, d2, d3, d4, d5, d6, d7, d8⟩ := zcn (zaU K4) (zb7 K4 (zaU K4))
 refine ⟨?_, c2, ?_, ?_, ?_⟩
 ·have hroom : zbi K4 = (0, K4) := by unfold zbi; rw [if_neg (by omega)]
  unfold zaC
  rw [hroom, if_neg (by rw [hr4]; simp), if_neg (by rw [hr4]; simp), if_neg (by rw [hn60, hg]; decide), if_pos rfl, if_pos c1]
 ·show (za5 _ _).n = 5
  rw [d6, c6, hn4]
 ·show (za5 _ _).G.size - (za5 _ _).G.at_ = 6
  rw [d2, c3, hg]
  show 12 - (0 + (zc3 _ _).length) = 6
  rw [hg] at hrl
  omega
 ·show zfJ (za5 (zb7 K4 (zaU K4)) (zaU K4)).di 5 = [1]
  have e : (za5 (zb7 K4 (zaU K4)) (zaU K4)).di = zdB noP 1 (some X) := by
   rw [hr4, ← hd]
   rfl
  rw [e]
  rfl
theorem n6 (h : KOk K X Z) : (k6 K X).n = 5 ∧ (k6 K X).di = (k5 K X).di ∧ (k6 K X).G = (k5 K X).G := by
 obtain ⟨h1, h2, h3, h4⟩ := zei (P := k5 K X) (n := 1)
 exact ⟨h1.trans h.com.2.2.1, h3, h4⟩
theorem get2 (h : KOk K X Z) : zmD (k2 K X) 1 = Z := h.i2.zmD h.l2
theorem l5 (h : KOk K X Z) : 1 < (k5 K X).n := by rw [h.com.2.2.1]; omega
theorem get5 (h : KOk K X Z) : zmD (k5 K X) 1 = X := by
 rw [h.com.2.1.zmD h.l5]
 have e : (k5 K X).ch = noP := rfl
 rw [e]
 show zcl (k4 K X) (fun _ => Z) 1 = X
 unfold zcl
 rw [h.n4, if_pos (by omega), h.c4]
 rfl
theorem i6 (h : KOk K X Z) : PlI (k6 K X) (zcl (k4 K X) fun _ => Z) 2 := h.com.2.1.zg1 h.l5
end KOk
end
set_option maxRecDepth 20000 in
set_option maxHeartbeats 2000000 in
theorem zfN (w : World) : Calls Tryz.prog 10 [].toArray w (Ret fun v w' => v = .bool true ∧ Below w.heap.size w w') := by
 have hLL := LoL.refl w.heap.size [] w
 have hml : maxLen = 9223372036854775807 := by decide
 have hN0 : Two None None w.heap.size [] w := ⟨⟨[], [], rfl, rfl, (fun b hb => nomatch hb), fun b hb => nomatch hb⟩, Nat.le_refl _, fun b hb => nomatch hb⟩
 have hbg := begunC hN0 5 12 2 (by omega) (by omega) (by omega) (by omega) (by omega) (by omega)
 have hKi : PlI (frP 5 12 2) (fun _ => zcM) 2 := frP_inv (by omega) (by omega) (by omega) (by omega) (by omega) (by omega)
 have hKn : (frP 5 12 2).n = 5 := (zhL (pages := 5) (s := 12) 2 (by omega) (by omega) (by omega)).2.2.1
 have hKg : (frP 5 12 2).G = ⟨2, 1, 12, 0, 0, false⟩ := rfl
 have hKd : (frP 5 12 2).di = noP := rfl
 have hpg := fun p w' (h : za9 w' p 1 1 (bv [7])) => zkh [7] p 1 1 w' h
 have hZbz : bv zcM = List.replicate 512 (.int .u8 0) := by kernel_rfl
 have hzl := zdS
 have hXl : (ze3 [7]).length = 512 := zhH _
 have hXZ := pageB7
 generalize frP 5 12 2 = K at *
 generalize ze3 [7] = X at *
 generalize zcM = Z at *
 have hK : KOk K X Z := ⟨hKi, hKn, hKg, hKd, hXl, hXZ⟩
 have hpags := fun g x q mc md cv L w' (h : zbc g x q mc md cv cv None w.heap.size L K w') => znR h hKi.ok.lg.szm
 rw [hKn] at hpags
 have hcnt := fun g x q mc md cv L w' (h : zbc g x q mc md cv cv None w.heap.size L K w') => countP h.lg.fst 12 ⟨by omega, by omega⟩
 have hc5 : zfr K.D.V.length 12 = 5 := by
  have h1 := hKn
  unfold Pl.n at h1
  rw [hKg] at h1
  exact h1
 rw [hc5] at hcnt
 have hp0 := fun g x q mc md cv L w' (h : zbc g x q mc md cv cv None w.heap.size L K w') => zn0 h hKi.ok hKi.de 1 hK.i0 X hXl
 have ha1 := fun g x q mc md cv L w' (h : zbc g x q mc md cv cv None w.heap.size L (k1 K X) w') => (abortP h hK.i1.ok).to fun v w'' hh => (show v = Value.int .i64 0 ∧ zbc g x q mc md cv cv None w.heap.size L (k2 K X) w'' ∧ LoL w.heap.size L w' w'' from by
  have hd := hK.i1.de
  obtain ⟨e1, e2, e3⟩ := hh
  rw [if_neg (by rw [hd]; simp)] at e1 e2
  exact ⟨e1, e2, e3⟩)
 have hgetA := fun g x q mc md cv L w' (h : zbc g x q mc md cv cv None w.heap.size L (k2 K X) w') => znZ h hK.i2.ok hK.i2.de 1 hK.l2
 rw [hK.get2] at hgetA
 have hp3 := fun g x q mc md cv L w' (h : zbc g x q mc md cv cv None w.heap.size L (k3 K X) w') => zn0 h hK.i3.ok hK.i3.de 1 hK.l3 X hXl
 have hc4 := fun g x q mc md cv L w' (h : zbc g x q mc md cv cv None w.heap.size L (k4 K X) w') => zkc h hK.i4.ok hK.i4.de (zbE hK.i4.al.short (by omega))
 rw [hK.com.1] at hc4
 dsimp only at hc4
 have hgetB := fun g x q mc md cv L w' (h : zbc g x q mc md cv cv None w.heap.size L (k5 K X) w') => znZ h hK.com.2.1.ok hK.com.2.1.de 1 hK.l5
 rw [hK.get5] at hgetB
 have hd6 := fun g x q mc md cv L w' (h : zbc g x q mc md cv cv None w.heap.size L (k6 K X) w') => zlM h
 rw [hK.n6.1, hK.n6.2.1, hK.com.2.2.2.2] at hd6
 have hr6 := fun g x q mc md cv L w' (h : zbc g x q mc md cv cv None w.heap.size L (k6 K X) w') => roomP h hK.i6.ok.lg
 rw [hK.n6.2.2, hK.com.2.2.2.1] at hr6
 have hXb : (bv X).length = 512 := by rw [zae]; exact hXl
 have hZb : (bv Z).length = 512 := by rw [zae]; exact hzl
 change ∀ g x q mc md cv L w', zbc g x q mc md cv cv None w.heap.size L K w' → Calls _ _ _ _ (Ret fun v w'_1 => v = _ ∧ (∃ cv', zbc g x q mc md cv' cv' None w.heap.size L (k1 K X) w'_1) ∧ _) at hp0
 change ∀ g x q mc md cv L w', zbc g x q mc md cv cv None w.heap.size L (k2 K X) w' → Calls _ _ _ _ (Ret fun v w'_1 => v = _ ∧ (∃ cv', zbc g x q mc md cv' cv' None w.heap.size L (k3 K X) w'_1) ∧ _) at hgetA
 change ∀ g x q mc md cv L w', zbc g x q mc md cv cv None w.heap.size L (k3 K X) w' → Calls _ _ _ _ (Ret fun v w'_1 => v = _ ∧ (∃ cv', zbc g x q mc md cv' cv' None w.heap.size L (k4 K X) w'_1) ∧ _) at hp3
 change ∀ g x q mc md cv L w', zbc g x q mc md cv cv None w.heap.size L (k5 K X) w' → Calls _ _ _ _ (Ret fun v w'_1 => v = _ ∧ (∃ cv', zbc g x q mc md cv' cv' None w.heap.size L (k6 K X) w'_1) ∧ _) at hgetB
 clear hK hKi hKn hKg hKd hc5
 generalize k1 K X = K1 at *
 generalize k2 K X = K2 at *
 generalize k3 K X = K3 at *
 generalize k4 K X = K4 at *
 generalize k5 K X = K5 at *
 generalize k6 K X = K6 at *
 refine Calls.to (R := fun v w' => v = .bool true ∧ LoL w.heap.size [] w w') ?_ (fun v w' hh => ⟨hh.1, zgm (Below.refl _ _) hh.2 (Nat.le_refl _)⟩)
 refine zaw (fn := Tryz.f10) (rs := [.tmp 0]) (n := 83) Tryz.func10 rfl rfl Tryz.ntmps10 (by kernel_rfl) rfl ?_
 refine zak (zac (zaa rfl (zad) (zaf (zai (zak (zac ?_))))))
 refine zat rfl (zao (by kernel_rfl) rfl) (hbg) ?_
 rintro _ w10 ⟨⟨g, x, q, mc, md, cv, rfl, h⟩, hb10⟩
 replace hLL := hLL.lq hb10
 refine zaa rfl (zab) (zaa rfl (zan rfl rfl) (zaa rfl (zan rfl rfl) (zaa rfl (zan rfl rfl) (zaa rfl (zad) (zaa rfl (zad) (zaa rfl (zad) (zaf (zai (zak (zak (zac ?_)))))))))))
 refine zaa rfl (zab) ?_
 refine zaa rfl (zcr rfl) ?_
 refine zaa rfl (zab) ?_
 refine zia 16 rfl (rfl) ?_
 refine zas rfl (zaa rfl (zab) (zas rfl ?_))
 refine zat rfl (zao (by kernel_rfl) rfl) (hpags g x q mc md cv _ w10 h) ?_
 rintro _ w18 ⟨rfl, hb18⟩
 replace hLL := hLL.new hb18
 replace h := h.new hb18
 refine zas rfl ?_
 refine zaa rfl (zaW rfl rfl) ?_
 refine zaa rfl (zaz rfl) (zaa rfl (zab) ?_)
 refine ziK 21 rfl ((by simp)) ?_
 refine zas rfl (zaa rfl (zab) (zas rfl ?_))
 refine zat rfl (zao (by kernel_rfl) rfl) (hcnt g x q mc md cv _ w18 h) ?_
 rintro _ _ ⟨rfl, rfl⟩
 refine zas rfl ?_
 refine zaa rfl (zaW rfl rfl) ?_
 refine zaa rfl (zaz rfl) (zaf (zai ?_))
 refine zdT rfl ((by simp)) ?_
 refine zau (zai (zak (zac ?_)))
 refine zaX rfl (zci (e := 5) (.int .u8 7) ([.int .u8 7]) ([Value.int .u8 0]) 1 (by kernel_rfl) (by kernel_rfl) rfl rfl rfl ⟨by decide, by decide⟩ (fun g26 w26 hg26 hr26 hb26 => ?_))
 replace hLL := hLL.new hb26
 replace h := h.newc hb26 hg26 hr26.lt
 have hs26 : za9 w26 (some ⟨g26, 0, none⟩) 1 1 (bv [7]) := hr26.slA (m := 1) (sz := 1) rfl (by omega)
 refine zat rfl (zao (by kernel_rfl) rfl) (hpg _ w26 hs26) ?_
 rintro _ w27 ⟨rfl, hb27⟩
 replace hLL := hLL.new hb27
 replace h := h.new hb27
 replace hr26 := hr26.new hb27
 have hz4 := hLL.size
 refine zaX rfl (zaO (List.replicate 512 (Value.int .u8 0)) (by kernel_rfl) (fun g4 w4 hg4 hr4 hb4 => ?_))
 have lt_g26_g4 : g26 < g4 := Nat.lt_of_lt_of_le hr26.lt hg4
 replace hLL := hLL.new hb4
 replace h := h.newc hb4 hg4 hr4.lt
 replace hr26 := hr26.new hb4
 refine za4 rfl (zav 512 (bv X) rfl rfl hr4 (by kernel_rfl) (by first | assumption | (simp; done) | (simp [zae, *]; done)) (by first | assumption | (simp; done) | (simp [zae, *]; done) | rfl) (by first | exact zaL _ | assumption | (simp [Value.oneCell']; done)) (fun w901 hr4 ho901 => ?_))
 replace hLL := hLL.oq ho901
 replace h := h.only ho901 (by first | (right; simp; done) | (left; omega))
 replace hr26 := hr26.only ho901 (Nat.ne_of_lt lt_g26_g4)
 refine zaf (zai (zak (zak (zac (zaa rfl (zab) ?_)))))
 refine zaa rfl (zam rfl (Ld.zb5 (k := 512) hr4 (by kernel_rfl) (by kernel_rfl) (by first | (simp; done) | (simp [zae, *]; done) | assumption))) ?_
 refine zat rfl (zao (by kernel_rfl) rfl) (hp0 g x q mc md cv _ w901 h) ?_
 rintro _ w30 ⟨rfl, ⟨cv1, h⟩, hb30⟩
 replace hLL := hLL.lq hb30
 replace hr26 := hr26.kl hb30
 replace hr4 := hr4.kl hb30
 refine zaa rfl (zaW rfl rfl) ?_
 refine zaa rfl (zab) ?_
 refine ziK 32 rfl ((by simp)) ?_
 refine zas rfl (zaa rfl (zab) (zas rfl ?_))
 refine zat rfl (zao (by kernel_rfl) rfl) (ha1 g x q mc md cv1 _ w30 h) ?_
 rintro _ w34 ⟨rfl, h, hb34⟩
 replace hLL := hLL.lq hb34
 replace hr26 := hr26.kl hb34
 replace hr4 := hr4.kl hb34
 refine zas rfl ?_
 refine zaa rfl (zaW rfl rfl) ?_
 refine zaa rfl (zaz rfl) (zaf (zai ?_))
 refine zdT rfl ((by simp)) ?_
 refine zau (zai (zak (zac (zaa rfl (zab) ?_))))
 refine zat rfl (zao (by kernel_rfl) rfl) (hgetA g x q mc md cv1 _ w34 h) ?_
 rintro _ w39 ⟨rfl, ⟨cv2, h⟩, hb39⟩
 replace hLL := hLL.lq hb39
 replace hr26 := hr26.kl hb39
 replace hr4 := hr4.kl hb39
 refine zaa rfl (zab) (zaa rfl (zan rfl rfl) (zaa rfl (zan rfl rfl) ?_))
 have hz5 := hLL.size
 refine zaX rfl (zaO (List.replicate 512 (Value.int .u8 0)) (by kernel_rfl) (fun g5 w5 hg5 hr5 hb5 => ?_))
 have lt_g26_g5 : g26 < g5 := Nat.lt_of_lt_of_le hr26.lt hg5
 have lt_g4_g5 : g4 < g5 := Nat.lt_of_lt_of_le hr4.lt hg5
 replace hLL := hLL.new hb5
 replace h := h.newc hb5 hg5 hr5.lt
 replace hr26 := hr26.new hb5
 replace hr4 := hr4.new hb5
 refine za4 rfl (zav 512 (bv Z) rfl rfl hr5 (by kernel_rfl) (by first | assumption | (simp; done) | (simp [zae, *]; done)) (by first | assumption | (simp; done) | (simp [zae, *]; done) | rfl) (by first | exact zaL _ | assumption | (simp [Value.oneCell']; done)) (fun w902 hr5 ho902 => ?_))
 replace hLL := hLL.oq ho902
 replace h := h.only ho902 (by first | (right; simp; done) | (left; omega))
 replace hr26 := hr26.only ho902 (Nat.ne_of_lt lt_g26_g5)
 replace hr4 := hr4.only ho902 (Nat.ne_of_lt lt_g4_g5)
 refine zaa rfl (zad) (zaf (zai (zak (zak (zac (zaa rfl (zab) ?_))))))
 refine zaa rfl (zaW rfl rfl) ?_
 refine zaa rfl (zab) ?_
 refine ziK 44 rfl ((by simp)) ?_
 refine zas rfl ?_
 refine zaa rfl (zam rfl (Ld.zb5 (k := 512) hr5 (by kernel_rfl) (by kernel_rfl) (by first | (simp; done) | (simp [zae, *]; done) | assumption))) ?_
 refine zas rfl ?_
 refine zaa rfl (zd8 (bv Z) (by rw [hZbz]; kernel_rfl)) ?_
 refine zas rfl ?_
 refine zaa rfl (zkI (n := 512) (by kernel_rfl) rfl rfl hzl hzl) ?_
 refine zaa rfl (zaz rfl) (zaa rfl (zab) ?_)
 refine WR_fn 49 rfl ((by simp)) ?_
 refine zas rfl (zaa rfl (zab) (zas rfl ?_))
 refine zaa rfl (zam rfl (Ld.zb5 (k := 512) hr4 (by kernel_rfl) (by kernel_rfl) (by first | (simp; done) | (simp [zae, *]; done) | assumption))) ?_
 refine zas rfl ?_
 refine zat rfl (zao (by kernel_rfl) rfl) (hp3 g x q mc md cv2 _ w902 h) ?_
 rintro _ w52 ⟨rfl, ⟨cv3, h⟩, hb52⟩
 replace hLL := hLL.lq hb52
 replace hr26 := hr26.kl hb52
 replace hr4 := hr4.kl hb52
 replace hr5 := hr5.kl hb52
 refine zas rfl ?_
 refine zaa rfl (zaW rfl rfl) ?_
 refine zaa rfl (zaz rfl) (zaa rfl (zab) ?_)
 refine ziK 55 rfl ((by simp)) ?_
 refine zas rfl (zaa rfl (zab) (zas rfl ?_))
 refine zat rfl (zao (by kernel_rfl) rfl) (hc4 g x q mc md cv3 _ w52 h) ?_
 rintro _ w57 ⟨rfl, ⟨cv4, h⟩, hb57⟩
 replace hLL := hLL.lq hb57
 replace hr26 := hr26.kl hb57
 replace hr4 := hr4.kl hb57
 replace hr5 := hr5.kl hb57
 refine zas rfl ?_
 refine zaa rfl (zaW rfl rfl) ?_
 refine zaa rfl (zaz rfl) (zaf (zai ?_))
 refine zdT rfl ((by simp)) ?_
 refine zau (zai (zak (zac (zaa rfl (zab) ?_))))
 refine zat rfl (zao (by kernel_rfl) rfl) (hgetB g x q mc md cv4 _ w57 h) ?_
 rintro _ w62 ⟨rfl, ⟨cv5, h⟩, hb62⟩
 replace hLL := hLL.lq hb62
 replace hr26 := hr26.kl hb62
 replace hr4 := hr4.kl hb62
 replace hr5 := hr5.kl hb62
 refine zaa rfl (zab) (zaa rfl (zan rfl rfl) (zaa rfl (zan rfl rfl) ?_))
 have hz7 := hLL.size
 refine zaX rfl (zaO (List.replicate 512 (Value.int .u8 0)) (by kernel_rfl) (fun g7 w7 hg7 hr7 hb7 => ?_))
 have lt_g26_g7 : g26 < g7 := Nat.lt_of_lt_of_le hr26.lt hg7
 have lt_g4_g7 : g4 < g7 := Nat.lt_of_lt_of_le hr4.lt hg7
 have lt_g5_g7 : g5 < g7 := Nat.lt_of_lt_of_le hr5.lt hg7
 replace hLL := hLL.new hb7
 replace h := h.newc hb7 hg7 hr7.lt
 replace hr26 := hr26.new hb7
 replace hr4 := hr4.new hb7
 replace hr5 := hr5.new hb7
 refine za4 rfl (zav 512 (bv X) rfl rfl hr7 (by kernel_rfl) (by first | assumption | (simp; done) | (simp [zae, *]; done)) (by first | assumption | (simp; done) | (simp [zae, *]; done) | rfl) (by first | exact zaL _ | assumption | (simp [Value.oneCell']; done)) (fun w903 hr7 ho903 => ?_))
 replace hLL := hLL.oq ho903
 replace h := h.only ho903 (by first | (right; simp; done) | (left; omega))
 replace hr26 := hr26.only ho903 (Nat.ne_of_lt lt_g26_g7)
 replace hr4 := hr4.only ho903 (Nat.ne_of_lt lt_g4_g7)
 replace hr5 := hr5.only ho903 (Nat.ne_of_lt lt_g5_g7)
 refine zaa rfl (zad) (zaf (zai (zak (zac (zaa rfl (zab) ?_)))))
 refine zaa rfl (zbr rfl rfl) ?_
 refine zaa rfl (zab) ?_
 refine zjz 67 rfl ((by simp)) ?_
 refine zas rfl ?_
 refine zaa rfl (zam rfl (Ld.zb5 (k := 512) hr7 (by kernel_rfl) (by kernel_rfl) (by first | (simp; done) | (simp [zae, *]; done) | assumption))) ?_
 refine zas rfl ?_
 refine zaa rfl (zam rfl (Ld.zb5 (k := 512) hr4 (by kernel_rfl) (by kernel_rfl) (by first | (simp; done) | (simp [zae, *]; done) | assumption))) ?_
 refine zas rfl ?_
 refine zaa rfl (zkH (n := 512) (by kernel_rfl) rfl rfl hXl hXl) ?_
 refine zaa rfl (zay rfl) (zaa rfl (zab) ?_)
 refine zjz 72 rfl ((by simp)) ?_
 refine zas rfl (zaa rfl (zab) (zas rfl ?_))
 refine zat rfl (zao (by kernel_rfl) rfl) (hd6 g x q mc md cv5 _ w903 h) ?_
 rintro _ w74 ⟨⟨p7, c7, rfl, hsl7, hf7⟩, hb74⟩
 replace hLL := hLL.new hb74
 replace h := h.new hb74
 replace hr26 := hr26.new hb74
 replace hr4 := hr4.new hb74
 replace hr5 := hr5.new hb74
 replace hr7 := hr7.new hb74
 refine zas rfl ?_
 refine zaX rfl (zci (e := 3) (.int .i64 1) ([.int .i64 1]) ([Value.int .i64 0]) 1 (by kernel_rfl) (by kernel_rfl) rfl rfl rfl ⟨by decide, by decide⟩ (fun g75 w75 hg75 hr75 hb75 => ?_))
 have lt_g26_g75 : g26 < g75 := Nat.lt_of_lt_of_le hr26.lt hg75
 have lt_g4_g75 : g4 < g75 := Nat.lt_of_lt_of_le hr4.lt hg75
 have lt_g5_g75 : g5 < g75 := Nat.lt_of_lt_of_le hr5.lt hg75
 have lt_g7_g75 : g7 < g75 := Nat.lt_of_lt_of_le hr7.lt hg75
 replace hLL := hLL.new hb75
 replace h := h.newc hb75 hg75 hr75.lt
 replace hr26 := hr26.new hb75
 replace hr4 := hr4.new hb75
 replace hr5 := hr5.new hb75
 replace hr7 := hr7.new hb75
 replace hsl7 := hsl7.new hb75
 refine zas rfl ?_
 have hs75 := hr75.slA (m := 1) (sz := 1) rfl (by omega)
 have hsm := same06 [1] [1] p7 (some ⟨g75, 0, none⟩) c7 1 w75 hsl7 hs75
 refine zat rfl (zao (by kernel_rfl) rfl) (hsm) ?_
 rintro _ w76 ⟨rfl, hb76⟩
 replace hLL := hLL.new hb76
 replace h := h.new hb76
 replace hr26 := hr26.new hb76
 replace hr4 := hr4.new hb76
 replace hr5 := hr5.new hb76
 replace hr7 := hr7.new hb76
 replace hsl7 := hsl7.new hb76
 replace hr75 := hr75.new hb76
 refine zaa rfl (zay rfl) (zaa rfl (zab) ?_)
 refine zoB 78 rfl ((by simp)) ?_
 refine zas rfl (zaa rfl (zab) (zas rfl ?_))
 refine zat rfl (zao (by kernel_rfl) rfl) (hr6 g x q mc md cv5 _ w76 h) ?_
 rintro _ w80 ⟨rfl, hb80⟩
 replace hLL := hLL.new hb80
 replace h := h.new hb80
 replace hr26 := hr26.new hb80
 replace hr4 := hr4.new hb80
 replace hr5 := hr5.new hb80
 replace hr7 := hr7.new hb80
 replace hsl7 := hsl7.new hb80
 replace hr75 := hr75.new hb80
 refine zas rfl ?_
 refine zaa rfl (zbr rfl rfl) ?_
 refine zaa rfl (zay rfl) (zaa rfl (zad) (zaf (zai (zax ?_))))
 refine zar [_] ⟨rfl, trivial⟩ ?_
 exact ⟨rfl, hLL⟩
def zeroPl : List Value := [.pointer none, .pointer none, .int .i64 0, .int .i64 0, .map none, .map none, .slice none 0 0, .bool false]
def NilP (p : Value) (w : World) : Prop := p = .pointer none ∨ ∃ z, p = .pointer (some ⟨z, 0, none⟩) ∧ row w z [.pointer none, .pointer none, .int .i64 0, .int .i64 0, .map none, .map none, .slice none 0 0, .bool false] 54
theorem NilP.new {p : Value} {w w' : World} (h : NilP p w) (hb : Below w.heap.size w w') : NilP p w' := h.imp id fun ⟨z, e, hr⟩ => ⟨z, e, hr.new hb⟩
def inP (P : Pl) (n : Int) : Prop := 0 ≤ n ∧ n < (P.n : Int)
instance (P : Pl) (n : Int) : Decidable (inP P n) := by unfold inP; exact inferInstance
def rdE (P : Pl) (n : Int) : Int := if inP P n then 0 else 2
def gX (P : Pl) (V : Nat → Pg) (n : Int) : Pg := if inP P n then (P.ch n.toNat).getD (V n.toNat) else zcM
def gP (P : Pl) (n : Int) : Pl := if inP P n then zg1 P n.toNat else P
def pP (P : Pl) (n : Int) (X : Pg) : Pl := if inP P n then zjt P n.toNat X else P
theorem zlU : bv zcM = zP := by rw [zcM, bv, List.map_replicate]; rfl
theorem rd_is {P : Pl} (h : P.dead = false) (n : Int) : zce P n = rdE P n := by
 unfold zce rdE inP
 rw [h, if_neg (by simp)]
namespace PlI
variable {P : Pl} {V : Nat → Pg} {k : Nat}
theorem gP (h : PlI P V k) (n : Int) : PlI (gP P n) V k := by
 unfold Go.Proofs.YtielfpkjoidomaaGreat.gP
 split
 ·rename_i hn; exact h.zg1 (by unfold inP at hn; omega)
 ·exact h
theorem pP (h : PlI P V k) (n : Int) {X : Pg} (hX : X.length = 512) : PlI (pP P n X) V k := by
 unfold Go.Proofs.YtielfpkjoidomaaGreat.pP
 split
 ·rename_i hn; exact h.zjt (by unfold inP at hn; omega) hX
 ·exact h
end PlI
section
variable {Y : World → List Nat → Prop} [Thing Y] {q lo : Nat} {L : List Nat} {P : Pl} {V : Nat → Pg} {k : Nat} {w : World}
end
def zcv (P : Pl) (V : Nat → Pg) : Nat → Pg := if (zaC P).1 = 0 then zcl P V else V
theorem PlI.check {P : Pl} {V : Nat → Pg} {k : Nat} (h : PlI P V k) (hk : k ≤ 1000000) : PlI (zbk P).2 V (k + 1) ∧ (zbk P).2.n = P.n ∧ (zbk P).2.fr = P.fr := by
 unfold zbk
 split
 ·obtain ⟨s1, s2, s3, s4, s5, s6, s7, s8⟩ := h.settle hk
  have e : keepR (zaK P).1 (zaK P).2 = (zaK P).2 := by
   unfold keepR
   rw [s1, s2.de]
   have := s2.de
   show ({ (zaK P).2 with dead := false } : Pl) = _
   rw [← this]
  dsimp only
  rw [e]
  exact ⟨s2, s6, s7⟩
 ·exact ⟨h.up (by omega), rfl, rfl⟩
theorem zkj {P : Pl} {V : Nat → Pg} (h : (zaU P).length = 0) : zcl P V = V := by
 funext n
 unfold zcl
 split
 ·rename_i hn
  cases hc : P.ch n with
  | none => rfl
  | some x =>
   have hm : (⟨(n : Int), x⟩ : Ch) ∈ zaU P := List.mem_map.2 ⟨(n, x), ziy hc (Nat.zero_le _) (by omega), rfl⟩
   rw [List.eq_nil_of_length_eq_zero h] at hm
   cases hm
 ·rfl
theorem PlI.commit {P : Pl} {V : Nat → Pg} {k : Nat} (h : PlI P V k) (hk : k ≤ 900000) (hn : P.n ≤ 2048) : PlI (zaC P).2 (zcv P V) (k + 1) ∧ (zaC P).2.n = P.n ∧ (zaC P).2.fr = P.fr ∧
  ((zaU P).length ≤ 60 → zbK ((zaU P).length : Int) ≤ (P.G.size : Int) → (zaC P).1 = 0) ∧ ((zaC P).1 = 0 → 0 < (zaU P).length → (zaC P).2.ch = noP) := by
 unfold zcv
 by_cases h0 : (zaU P).length = 0
 ·have e : zaC P = (0, P) := by unfold zaC; rw [if_pos h0]
  rw [e, if_pos rfl, zkj h0]
  exact ⟨h.up (by omega), rfl, rfl, fun _ _ => rfl, fun _ h1 => by omega⟩
 by_cases h60 : 60 < (zaU P).length
 ·have e : zaC P = (3, P) := by unfold zaC; rw [if_neg h0, if_pos h60]
  rw [e, if_neg (by simp)]
  exact ⟨h.up (by omega), rfl, rfl, fun h1 _ => by omega, fun h1 => by simp at h1⟩
 by_cases hsz : (P.G.size : Int) < zbK ((zaU P).length : Int)
 ·have e : zaC P = (8, P) := by unfold zaC; rw [if_neg h0, if_neg h60, if_pos hsz]
  rw [e, if_neg (by simp)]
  exact ⟨h.up (by omega), rfl, rfl, fun _ h1 => by omega, fun h1 => by simp at h1⟩
 have hroom : (zbi P).1 = 0 ∧ PlI (zbi P).2 V (k + 1) ∧ zaU (zbi P).2 = zaU P ∧ zbK ((zaU P).length : Int) ≤ (((zbi P).2.G.size - (zbi P).2.G.at_ : Nat) : Int) ∧ (zbi P).2.ch = P.ch ∧ (zbi P).2.n = P.n ∧ (zbi P).2.fr = P.fr := by
  unfold zbi
  split
  ·obtain ⟨s1, s2, s3, s4, s5, s6, s7, s8⟩ := h.settle (by omega)
   refine ⟨s1, s2, by unfold zaU; rw [s5, s6], ?_, s5, s6, s7⟩
   rw [s4]
   show _ ≤ ((P.G.size - 0 : Nat) : Int)
   omega
  ·rename_i hr
   exact ⟨rfl, h.up (by omega), rfl, Int.not_lt.1 hr, rfl, rfl, rfl⟩
 obtain ⟨r1, r2, r3, r4, r5, r6, r7⟩ := hroom
 have hck := zeD r2 (by omega) (by rw [r6]; exact hn) (by rw [r3]; exact h0) (by rw [r3]; exact h60) (by rw [r3]; exact r4)
 rw [r3] at hck
 obtain ⟨c1, c2, c3, c4, c5, c6⟩ := hck
 have e : zaC P = (0, { za5 (zb7 (zbi P).2 (zaU P)) (zaU P) with ch := noP }) := by
  unfold zaC
  rw [if_neg h0, if_neg h60, if_neg hsz, if_pos r1, if_pos c1]
 have ev : zcl (zbi P).2 V = zcl P V := by unfold zcl; rw [r5, r6]
 rw [e, if_pos rfl, ← ev]
 obtain ⟨d1, d2, d3, d4, d5, d6, d7, d8⟩ := zcn (zaU P) (zb7 (zbi P).2 (zaU P))
 refine ⟨c2, ?_, ?_, fun _ _ => rfl, fun _ _ => rfl⟩
 ·show (za5 _ _).n = P.n
  rw [d6, c6, r6]
 ·show (za5 _ _).fr = P.fr
  rw [d3]; exact r7
structure zcw (P Q : Pl) : Prop where
 D : Q.D = P.D
 G : Q.G = P.G
 ch : Q.ch = P.ch
 di : Q.di = P.di
 de : Q.dead = P.dead
namespace zcw
variable {P Q : Pl}
theorem n (h : zcw P Q) : Q.n = P.n := by unfold Pl.n; rw [h.D, h.G]
theorem inP (h : zcw P Q) (m : Int) : inP Q m ↔ inP P m := by unfold Go.Proofs.YtielfpkjoidomaaGreat.inP; rw [h.n]
theorem rdE (h : zcw P Q) (m : Int) : rdE Q m = rdE P m := by
 unfold Go.Proofs.YtielfpkjoidomaaGreat.rdE
 by_cases hm : Go.Proofs.YtielfpkjoidomaaGreat.inP P m
 ·rw [if_pos hm, if_pos ((h.inP m).2 hm)]
 ·rw [if_neg hm, if_neg fun hc => hm ((h.inP m).1 hc)]
theorem gX (h : zcw P Q) (V : Nat → Pg) (m : Int) : gX Q V m = gX P V m := by
 unfold Go.Proofs.YtielfpkjoidomaaGreat.gX
 by_cases hm : Go.Proofs.YtielfpkjoidomaaGreat.inP P m
 ·rw [if_pos hm, if_pos ((h.inP m).2 hm), h.ch]
 ·rw [if_neg hm, if_neg fun hc => hm ((h.inP m).1 hc)]
theorem ask (P : Pl) (m : Nat) : zcw P (zeJ P m) := by
 obtain ⟨h1, h2, h3, h4, h5, h6, h7⟩ := zc0 P m
 exact ⟨h1, h2, h4, h5, h6⟩
theorem symm (h : zcw P Q) : zcw Q P := ⟨h.D.symm, h.G.symm, h.ch.symm, h.di.symm, h.de.symm⟩
theorem trans {R : Pl} (h : zcw P Q) (h2 : zcw Q R) : zcw P R := ⟨h2.D.trans h.D, h2.G.trans h.G, h2.ch.trans h.ch, h2.di.trans h.di, h2.de.trans h.de⟩
theorem get (P : Pl) (m : Int) : zcw P (gP P m) := by
 unfold Go.Proofs.YtielfpkjoidomaaGreat.gP zg1
 split
 ·split
  ·exact ⟨rfl, rfl, rfl, rfl, rfl⟩
  ·exact ask P _
 ·exact ⟨rfl, rfl, rfl, rfl, rfl⟩
theorem gP (h : zcw P Q) (m : Int) : zcw (gP P m) (gP Q m) := (get P m).symm.trans (h.trans (get Q m))
theorem zfK (h : zcw P Q) (c : PgM) : zcw { P with ch := c } { Q with ch := c } := ⟨h.D, h.G, rfl, h.di, h.de⟩
theorem pP (h : zcw P Q) {V : Nat → Pg} {k : Nat} (hP : PlI P V k) (hQ : PlI Q V k) (m : Int) (X : Pg) : zcw (pP P m X) (pP Q m X) := by
 unfold Go.Proofs.YtielfpkjoidomaaGreat.pP
 by_cases hm : Go.Proofs.YtielfpkjoidomaaGreat.inP P m
 ·rw [if_pos hm, if_pos ((h.inP m).2 hm)]
  unfold Go.Proofs.YtielfpkjoidomaaGreat.inP at hm
  have hn := h.n
  unfold zjt
  rw [hP.ask (by omega), hQ.ask (by omega), h.ch]
  exact ((ask P _).symm.trans (h.trans (ask Q _))).zfK _
 ·rw [if_neg hm, if_neg fun hc => hm ((h.inP m).1 hc)]; exact h
theorem settle (h : zcw P Q) : (zaK Q).1 = (zaK P).1 ∧ zcw (zaK P).2 (zaK Q).2 := by
 have hs : zbz Q = zbz P := by unfold zbz; rw [h.G, h.D, h.di, h.n]
 unfold zaK
 rw [hs, h.G]
 split
 ·split
  ·exact ⟨rfl, rfl, rfl, h.ch, by dsimp only; rw [h.di], h.de⟩
  ·exact ⟨rfl, rfl, rfl, h.ch, h.di, h.de⟩
 ·exact ⟨rfl, rfl, rfl, h.ch, h.di, h.de⟩
theorem keep (h : zcw P Q) (e : Int) : zcw (keepR e P) (keepR e Q) := ⟨h.D, h.G, h.ch, h.di, by unfold keepR; dsimp only; rw [h.de]⟩
theorem check (h : zcw P Q) : (zbk Q).1 = (zbk P).1 ∧ zcw (zbk P).2 (zbk Q).2 := by
 obtain ⟨s1, s2⟩ := h.settle
 unfold zbk
 rw [h.ch, h.n]
 split
 ·rw [s1]; exact ⟨rfl, s2.keep _⟩
 ·exact ⟨rfl, h⟩
theorem done : ∀ (R : Rec) {P Q : Pl}, zcw P Q → zcw (za5 P R) (za5 Q R)
 | [], P, Q, h => h
 | c :: R, P, Q, h => done R (P := { P with di := zdB P.di c.num.toNat (some c.page), cl := without P.cl c.num }) (Q := { Q with di := zdB Q.di c.num.toNat (some c.page), cl := without Q.cl c.num }) ⟨h.D, h.G, h.ch, by dsimp only; rw [h.di], h.de⟩
theorem rec_ (h : zcw P Q) : zaU Q = zaU P := by unfold zaU; rw [h.ch, h.n]
theorem zb7 (h : zcw P Q) (R : Rec) : zcw (zb7 P R) (zb7 Q R) := by
 unfold Go.Proofs.YtielfpkjoidomaaGreat.zb7
 rw [h.D, h.G]
 exact ⟨rfl, rfl, h.ch, h.di, h.de⟩
theorem commit (h : zcw P Q) : (zaC Q).1 = (zaC P).1 ∧ zcw (zaC P).2 (zaC Q).2 := by
 have hr : (zbi Q).1 = (zbi P).1 ∧ zcw (zbi P).2 (zbi Q).2 := by
  unfold zbi
  rw [h.rec_, h.G]
  split
  ·exact h.settle
  ·exact ⟨rfl, h⟩
 unfold zaC
 rw [h.rec_, h.G, hr.1, hr.2.D, hr.2.G]
 split
 ·exact ⟨rfl, h⟩
 ·split
  ·exact ⟨rfl, h⟩
  ·split
   ·exact ⟨rfl, h⟩
   ·split
    ·split
     ·exact ⟨rfl, (done (zaU P) (hr.2.zb7 (zaU P))).zfK noP⟩
     ·exact ⟨rfl, (hr.2.zb7 (zaU P)).keep _⟩
    ·exact ⟨rfl, hr.2.keep _⟩
theorem zcv (h : zcw P Q) (V : Nat → Pg) : zcv Q V = zcv P V := by
 unfold Go.Proofs.YtielfpkjoidomaaGreat.zcv zcl
 rw [h.commit.1, h.n, h.ch]
end zcw
def kG : Lg := ⟨3, 3, 12, 0, 0, false⟩
def kG4 : Lg := ⟨3, 3, 12, 1, 6, false⟩
def kD1 : Dk := zoZ (zho 20) 12
def kD2 : Dk := zbt kD1 2 1
def kD3 : Dk := zbt kD2 3 3
def kD4 : Dk := (zcO kD3 1 (zc3 kG kR)).1
theorem zeE {P X : List UInt8} {i : Nat} (h : 64 * (i + 1) ≤ P.length) : zaq (P ++ X) i = zaq P i := by
 rw [zaq, zaq, List.drop_append_of_le_length (by omega), List.take_append_of_le_length (by rw [List.length_drop]; omega)]
theorem zgd {P X : List UInt8} {i k : Nat} (h : P.length = 64 * k) : zaq (P ++ X) (k + i) = zaq X i := by
 rw [zaq, zaq, show 64 * (k + i) = P.length + 64 * i by omega, ← List.drop_drop, List.drop_left' rfl]
theorem ze5 (X : List UInt8) (i k : Nat) : zaq (X.drop (64 * k)) i = zaq X (k + i) := by rw [zaq, zaq, List.drop_drop, ← Nat.mul_add]
theorem zkk {X : List UInt8} {i k : Nat} (h : i < k) : zaq (X.take (64 * k)) i = zaq X i := by
 rw [zaq, zaq, List.drop_take, List.take_take, Nat.min_eq_left (by omega)]
theorem ziz : ∀ (k : Nat) {A B : List UInt8}, A.length = 64 * k → B.length = 64 * k → (∀ i, i < k → zaq A i = zaq B i) → A = B
 | 0, A, B, ha, hb, _ => by rw [List.eq_nil_of_length_eq_zero (by omega : A.length = 0), List.eq_nil_of_length_eq_zero (by omega : B.length = 0)]
 | k + 1, A, B, ha, hb, h => by
  have h0 := h 0 (by omega)
  rw [zaq, zaq, Nat.mul_zero, List.drop_zero, List.drop_zero] at h0
  have ih := ziz k (A := A.drop 64) (B := B.drop 64) (by rw [List.length_drop]; omega) (by rw [List.length_drop]; omega) fun i hi => by
   have := h (1 + i) (by omega)
   rw [← ze5, ← ze5] at this
   exact this
  rw [← List.take_append_drop 64 A, ← List.take_append_drop 64 B, h0, ih]
def zlc (c nn : Nat) (b P : List UInt8) : Prop := P.length = 128 * zaY b.length ∧ ∀ i, i < za1 b.length → zaq P i = zcd c nn i (za1 b.length) (zbS b i)
theorem row_im (c nn : Nat) (b : List UInt8) : zlc c nn b (zgT c nn b) := ⟨zg0 c nn b, fun i hi => by
 have := zlF c nn b [] i hi
 rwa [List.append_nil] at this⟩
theorem told_im {c nn : Nat} {b P : List UInt8} (X : List UInt8) {n : Nat} (him : zlc c nn b P) (hm : zeb c nn = true) (hb : b.length ≤ 32768) (hn : zaY b.length ≤ n) (hl : (P ++ X).length = n * 128) : Told (P ++ X) n c nn b := by
 have hmb := zdy hm
 have hp := znw b.length
 have hmx := zjX hb
 have hrow : ∀ i, i < za1 b.length → zaq (P ++ X) i = zcd c nn i (za1 b.length) (zbS b i) := fun i hi => by
  rw [zeE (by rw [him.1]; unfold zaY; omega)]; exact him.2 i hi
 have h0 := hrow 0 (by omega)
 obtain ⟨f1, f2, -, f4, -⟩ := zdh c nn 0 (za1 b.length) (zbS b 0)
 rw [← h0, Nat.mod_eq_of_lt (by omega)] at f1
 rw [← h0, Nat.mod_eq_of_lt (by omega)] at f2
 rw [← h0, Nat.mod_eq_of_lt (by omega)] at f4
 have hml : 64 * za1 b.length ≤ (P ++ X).length := by rw [hl]; unfold zaY at hn; omega
 have hbod : bodies (P ++ X) (za1 b.length) = zmQ b := zjW _ _ _ (zet b) fun i hi => by
  rw [hrow i hi, (zdh c nn i _ _).2.2.2.2]; rfl
 have hK : zcj (P ++ X) (za1 b.length) = b.length := by
  rw [zcj, hbod, znx, zdY, Nat.mod_eq_of_lt (by omega)]
 have hJB : zbn (P ++ X) = b := by rw [zbn, f4, hK, hbod, zoT]
 refine ⟨?_, f1, f2, hJB⟩
 rw [← zoS _ _ hl]
 have ht := znu (h := zaq (P ++ X) 0) (by rw [f1, f2]; exact hm)
 unfold zns refOk
 rw [ht.1, ht.2, f1, f2, f4, hm, znt _ _ hml hp, hK, hJB, decide_eq_true (by omega : 0 < n), decide_eq_true (by unfold zaY at hn; omega : 1 ≤ za1 b.length ∧ za1 b.length ≤ 2 * n), decide_eq_true (by omega : b.length ≤ 32768 ∧ za1 b.length = za1 b.length)]
 simp only [Bool.true_and]
 refine List.all_eq_true.2 fun i hi => ?_
 have hi' := List.mem_range.1 hi
 rw [zda c nn b i hi', hrow i hi']
 simp
theorem zpj {c nn : Nat} {b P X : List UInt8} {n f : Nat} (him : zlc c nn b P) (hm : zeb c nn = true) (hb : b.length ≤ 32768) (hn : zaY b.length ≤ n) (hl : (P ++ X).length = n * 128) :
  zb2 (f + 1) (P ++ X) n = ⟨c, nn, b⟩ :: zb2 f X (n - zaY b.length) := by
 obtain ⟨t1, t2, t3, t4⟩ := told_im X him hm hb hn hl
 rw [zb2, if_pos t1, t2, t3, t4, List.drop_left' him.1]
def zkl : Nat → List (Nat × Rec) → List UInt8 → Prop
 | _, [], P => P = []
 | k, x :: T, P => ∃ P1 P2, P = P1 ++ P2 ∧ zlc x.1 k (zdi x.2) P1 ∧ zkl (k + 1) T P2
theorem zej : ∀ {k s c : Nat} {T : List (Nat × Rec)} {P : List UInt8}, okT s c T → zkl k T P → P.length = 128 * atT T
 | k, s, c, [], P, h, hp => by rw [show P = [] from hp]; rfl
 | k, s, c, x :: T, P, h, hp => by
  obtain ⟨P1, P2, rfl, h1, h2⟩ := hp
  obtain ⟨_, _, h3, _⟩ := h x (List.mem_cons_self ..)
  have ih := zej (fun y hy => h y (List.mem_cons_of_mem _ hy)) h2
  rw [List.length_append, h1.1, zd0 h3, ih, zje, Nat.mul_add]
theorem zgB : ∀ {k : Nat} {T : List (Nat × Rec)} {P Q : List UInt8} {c : Nat} {r : Rec}, zkl k T P → zlc c (k + T.length) (zdi r) Q → zkl k (T ++ [(c, r)]) (P ++ Q)
 | k, [], P, Q, c, r, h, hq => by
  rw [show P = [] from h]
  exact ⟨Q, [], by simp, hq, rfl⟩
 | k, x :: T, P, Q, c, r, h, hq => by
  obtain ⟨P1, P2, rfl, h1, h2⟩ := h
  refine ⟨P1, P2 ++ Q, by rw [List.append_assoc], h1, zgB h2 ?_⟩
  rw [List.length_cons, show k + (T.length + 1) = k + 1 + T.length by omega] at hq
  exact hq
theorem zob {c k s cm : Nat} (h1 : 1 ≤ s) (h2 : s ≤ c) (h3 : c ≤ cm) (h4 : cm ≤ 4611686018427387904) (h5 : k < 2147483648) : zeb ((c : Nat) : Int) ((k : Nat) : Int) = true := by
 unfold zeb
 rw [decide_eq_true (by omega), decide_eq_true (by unfold zi0; omega), decide_eq_true (by omega), decide_eq_true (by omega)]; rfl
theorem zoc : ∀ (T : List (Nat × Rec)) {s c k n f : Nat} {P X : List UInt8}, 1 ≤ s → c ≤ 4611686018427387904 → okT s c T → zkl k T P → k + T.length < 2147483648 → (P ++ X).length = n * 128 → n ≤ f →
  zdQ s c k (zb2 f (P ++ X) n) = T.map (·.2) ++ zdQ s c (k + T.length) (zb2 (n - atT T) X (n - atT T))
 | [], s, c, k, n, f, P, X, h1, h2, h3, hP, h4, h5, h6 => by
  rw [show P = [] from hP, List.nil_append] at h5 ⊢
  have e : atT [] = 0 := rfl
  rw [e, Nat.sub_zero, ziw f n X n h6 (Nat.le_refl _) (by omega)]; rfl
 | x :: T, s, c, k, n, f, P, X, h1, h2, h3, hP, h4, h5, h6 => by
  obtain ⟨P1, P2, rfl, hp1, hp2⟩ := hP
  obtain ⟨a1, a2, a3, a4⟩ := h3 x (List.mem_cons_self ..)
  have hrest : okT s c T := fun y hy => h3 y (List.mem_cons_of_mem _ hy)
  rw [List.length_cons] at h4
  have hsh := zhI a3 a4
  have hrl := hp1.1
  have hrb := zd0 a3
  have htl := zej hrest hp2
  rw [List.append_assoc] at h5 ⊢
  have hlen := h5
  rw [List.length_append, hrl] at hlen
  have hpos := (zdO (of_decide_eq_true (Bool.and_eq_true_iff.1 a4).1)).2
  rw [← hrb] at hpos
  have hmt := zob (k := k) h1 a1 a2 h2 (by omega)
  obtain ⟨f, rfl⟩ : ∃ z, f = z + 1 := ⟨f - 1, by omega⟩
  rw [zpj hp1 hmt hsh (by omega) h5]
  have hok : zf9 s c k ⟨x.1, k, zdi x.2⟩ = some x.2 := by
   rw [zf9, if_pos ⟨rfl, a1, a2⟩]; exact ofR_rec a3 a4
  have hr := zoc T (s := s) (c := c) (k := k + 1) (n := n - zaY (zdi x.2).length) (f := f) (X := X) h1 h2 hrest hp2 (by omega) (by rw [Nat.sub_mul]; omega) (by omega)
  rw [zgu hok, hr, List.map_cons, List.cons_append, zje, hrb, List.length_cons, show k + 1 + T.length = k + (T.length + 1) by omega, Nat.sub_sub]
theorem zde {l : List UInt8} {n : Nat} (hj : zbA l n = true) : 0 < zbH (zaq l 0) ∧ zbH (zaq l 0) ≤ 683 ∧ (zbH (zaq l 0) + 1) / 2 ≤ n ∧ ∀ i, i < zbH (zaq l 0) → zgq (zaq l i) (za0 (zaq l 0)) (zcR (zaq l 0)) i (zbH (zaq l 0)) = true := by
 unfold zbA zgr zec at hj
 simp only [Bool.and_eq_true, decide_eq_true_eq, List.all_eq_true, List.mem_range] at hj
 obtain ⟨⟨h0, ⟨⟨⟨hmay, hm1⟩, hm2⟩, hm3⟩⟩, ⟨⟨hall, hK⟩, hmk⟩, hz⟩ := hj
 exact ⟨by omega, hm2, hm3, hall⟩
theorem zdC {h : List UInt8} {c nn i m : Nat} (hg : zgq h c nn i m = true) : zeb (za0 h) (zcR h) = true ∧ za0 h = c ∧ zcR h = nn ∧ zbH h = m := by
 simp only [zgq, Bool.and_eq_true, decide_eq_true_eq] at hg
 exact ⟨hg.1.1.1, hg.1.1.2.1, hg.1.1.2.2, hg.2⟩
theorem zhO {l l' : List UInt8} : ∀ {m : Nat}, (∀ i, i < m → zaq l' i = zaq l i) → bodies l' m = bodies l m
 | 0, _ => rfl
 | m + 1, h => by rw [zdM, zdM, zhO fun i hi => h i (by omega), h m (by omega)]
theorem zod {l l' : List UInt8} {n : Nat} (hj : zbA l n = true) (h : ∀ i, i < zbH (zaq l 0) → zaq l' i = zaq l i) : zbA l' n = true ∧ zbn l' = zbn l ∧ zaq l' 0 = zaq l 0 := by
 have h0 := h 0 (zde hj).1
 have hb := zhO h
 have hb2 : bodies l' (zbH (zaq l' 0)) = bodies l (zbH (zaq l 0)) := by rw [h0, hb]
 have hK : zcj l' (zbH (zaq l' 0)) = zcj l (zbH (zaq l 0)) := by rw [zcj, zcj, hb2]
 have hB : zbn l' = zbn l := by rw [zbn, zbn, hb2, hK]
 refine ⟨?_, hB, h0⟩
 have hO : zec l' (za0 (zaq l' 0)) (zcR (zaq l' 0)) (zbH (zaq l' 0)) = zec l (za0 (zaq l 0)) (zcR (zaq l 0)) (zbH (zaq l 0)) := by
  unfold zec
  rw [hK, hb2, h0]
  congr 3
  rw [Bool.eq_iff_iff, List.all_eq_true, List.all_eq_true]
  exact ⟨fun hh i hi => by rw [← h i (List.mem_range.1 hi)]; exact hh i hi, fun hh i hi => by rw [h i (List.mem_range.1 hi)]; exact hh i hi⟩
 have : zbA l' n = zbA l n := by
  unfold zbA zgr
  rw [hO, h0]
 rw [this]; exact hj
def zmR (h : List UInt8) : Prop := zeb ((za0 h : Nat) : Int) ((zcR h : Nat) : Int) = true
def zoe (s k m : Nat) (X : List UInt8) : Prop := zbA X m = true → s ≤ za0 (zaq X 0) → zcR (zaq X 0) = k → ofR (zbn X) = none
structure Inv (n c cx s : Nat) (T : List (Nat × Rec)) (B : List UInt8) : Prop where
 len : B.length = 128 * n
 s1 : 1 ≤ s
 sc : s ≤ c
 ok : okT s c T
 low : ∀ i, i < 2 * n → zmR (zaq B i) → za0 (zaq B i) ≤ c
 ex : ∃ P X, B = P ++ X ∧ zkl 0 T P ∧ atT T ≤ n ∧ (∀ i, i < 2 * (n - atT T) → zmR (zaq X i) → za0 (zaq X i) < cx ∧ (s ≤ za0 (zaq X i) → zcR (zaq X i) ≤ T.length)) ∧ zoe s T.length (n - atT T) X
theorem zhP {s c : Nat} : ∀ {T : List (Nat × Rec)}, okT s c T → T.length ≤ atT T
 | [], _ => Nat.le_refl _
 | x :: T, h => by
  have ih := zhP (T := T) fun y hy => h y (List.mem_cons_of_mem _ hy)
  obtain ⟨_, _, h3, h4⟩ := h x (List.mem_cons_self ..)
  have hpos := (zdO (of_decide_eq_true (Bool.and_eq_true_iff.1 h4).1)).2
  rw [zje, List.length_cons]; omega
theorem zof {s c k m : Nat} {X : List UInt8} (h : zoe s k m X) : zdQ s c k (zb2 m X m) = [] := by
 cases m with
 | zero => rfl
 | succ m =>
  rw [zb2]
  cases hj : zbA X (m + 1) with
  | false => rfl
  | true =>
   rw [if_pos rfl]
   refine zdA ?_
   unfold zf9
   by_cases hc : zcR (zaq X 0) = k ∧ s ≤ za0 (zaq X 0) ∧ za0 (zaq X 0) ≤ c
   ·rw [if_pos hc]; exact h hj hc.2.1 hc.1
   ·rw [if_neg hc]
namespace Inv
variable {n c cx s : Nat} {T : List (Nat × Rec)} {B : List UInt8}
theorem recs (h : Inv n c cx s T B) (hc : c ≤ 4611686018427387904) (hn : n ≤ 4000) : zdQ s c 0 (zb2 n B n) = T.map (·.2) := by
 obtain ⟨P, X, rfl, hP, hat, _, hno⟩ := h.ex
 have hl := zhP h.ok
 rw [zoc T h.s1 hc h.ok hP (by omega) (by rw [h.len]; omega) (Nat.le_refl _), Nat.zero_add, zof hno, List.append_nil]
theorem up {c' cx' : Nat} (h : Inv n c cx s T B) (hc : c ≤ c') (hx : cx ≤ cx') : Inv n c' cx' s T B :=
 ⟨h.len, h.s1, Nat.le_trans h.sc hc, fun x hx => let ⟨a, b, d⟩ := h.ok x hx; ⟨a, Nat.le_trans b hc, d⟩, fun i hi hm => Nat.le_trans (h.low i hi hm) hc,
  let ⟨P, X, e, h1, h2, h3, h4⟩ := h.ex; ⟨P, X, e, h1, h2, fun i hi hm => ⟨Nat.lt_of_lt_of_le (h3 i hi hm).1 hx, (h3 i hi hm).2⟩, h4⟩⟩
theorem trunc (h : Inv n c cx s T B) : Inv n (c + 1) (c + 1) (c + 1) [] B :=
 ⟨h.len, by omega, Nat.le_refl _, fun x hx => (nomatch hx), fun i hi hm => Nat.le_succ_of_le (h.low i hi hm), [], B, rfl, rfl, Nat.zero_le _, fun i hi hm => by
  have hi' : i < 2 * n := by
   have e : atT [] = 0 := rfl
   rw [e] at hi; omega
  have := h.low i hi' hm
  exact ⟨by omega, fun h2 => by omega⟩, fun hj hs hk => by
  have h0 := (zde hj).2.2.2 0 (zde hj).1
  have hn0 : 0 < n := by
   have := (zdb hj).1
   have e : atT [] = 0 := rfl
   rw [e] at this; omega
  have := h.low 0 (by omega) (zdC h0).1
  omega⟩
end Inv
theorem zlV (h : List UInt8) (h0 : za0 h = 0) : ¬ zmR h := fun hm => by
 have := (zdy hm).1
 omega
theorem zfj {c k : Nat} {b : List UInt8} (hmt : zeb ((c : Nat) : Int) ((k : Nat) : Int) = true) (hb : b.length ≤ 32768) {i : Nat} (hi : i < 2 * zaY b.length) (hm : zmR (zaq (zgT c k b) i)) :
  i < za1 b.length ∧ za0 (zaq (zgT c k b) i) = c ∧ zcR (zaq (zgT c k b) i) = k ∧ zbH (zaq (zgT c k b) i) = za1 b.length := by
 have hmb := zdy hmt
 have hmx := zjX hb
 by_cases hlt : i < za1 b.length
 ·have hr := zlF c k b [] i hlt
  rw [List.append_nil] at hr
  obtain ⟨f1, f2, -, f4, -⟩ := zdh c k i (za1 b.length) (zbS b i)
  rw [← hr, Nat.mod_eq_of_lt (by omega)] at f1
  rw [← hr, Nat.mod_eq_of_lt (by omega)] at f2
  rw [← hr, Nat.mod_eq_of_lt (by omega)] at f4
  exact ⟨hlt, f1, f2, f4⟩
 ·refine absurd hm (zlV _ ?_)
  have hl : ((zbY c k b).flatten).length = 64 * za1 b.length := by rw [znq _ (zgp c k b), zeu]
  rw [za0, zaq, zgT, show 64 * i = ((zbY c k b).flatten).length + 64 * (i - za1 b.length) by rw [hl]; omega, ← List.drop_drop, List.drop_left' rfl, zeh, zcP, zcP, zgz]
section
variable {n c s : Nat} {T : List (Nat × Rec)} {P X X' : List UInt8} {r : Rec}
theorem inv_mix (h : Inv n c c s T (P ++ X)) (hP : zkl 0 T P) (hX : X.length = 128 * (n - atT T)) (hat : atT T ≤ n)
  (h3 : ∀ i, i < 2 * (n - atT T) → zmR (zaq X i) → za0 (zaq X i) < c ∧ (s ≤ za0 (zaq X i) → zcR (zaq X i) ≤ T.length)) (h4 : zoe s T.length (n - atT T) X)
  (hc : c ≤ 4611686018427387904) (hn : n ≤ 4000) (hr : zbD r) (hm : zgU r = true) (hfit : atT T + zaY (516 * r.length) ≤ n) (hX' : X'.length = X.length)
  (hmix : ∀ i, i < 2 * (n - atT T) → zaq X' i = zaq X i ∨ (i < 2 * zaY (516 * r.length) ∧ zaq X' i = zaq (zgT c T.length (zdi r)) i)) :
  Inv n c (c + 1) s T (P ++ X') ∨ Inv n c (c + 1) s (T ++ [(c, r)]) (P ++ X') := by
 have hTl := zhP h.ok
 have hPl := zej h.ok hP
 have hmt := zob (k := T.length) h.s1 h.sc (Nat.le_refl c) hc (by omega)
 have hrb := zd0 hr
 have hsh := zhI hr hm
 have hN : zaY (zdi r).length = zaY (516 * r.length) := by rw [hrb]
 have hlen : (P ++ X').length = 128 * n := by rw [List.length_append, hX', hX, hPl]; omega
 have hall : ∀ i, i < 2 * (n - atT T) → zmR (zaq X' i) → za0 (zaq X' i) ≤ c ∧ (s ≤ za0 (zaq X' i) → zcR (zaq X' i) ≤ T.length) := fun i hi hmi => by
  rcases hmix i hi with e | ⟨hik, e⟩
  ·rw [e] at hmi ⊢
   have := h3 i hi hmi
   exact ⟨by omega, this.2⟩
  ·rw [e] at hmi ⊢
   obtain ⟨_, q1, q2, _⟩ := zfj hmt hsh (by rw [hN]; exact hik) hmi
   rw [q1, q2]
   exact ⟨Nat.le_refl _, fun _ => Nat.le_refl _⟩
 have hlow : ∀ i, i < 2 * n → zmR (zaq (P ++ X') i) → za0 (zaq (P ++ X') i) ≤ c := fun i hi hmi => by
  by_cases hip : i < 2 * atT T
  ·have e1 : zaq (P ++ X') i = zaq P i := zeE (by omega)
   have e2 : zaq (P ++ X) i = zaq P i := zeE (by omega)
   rw [e1, ← e2] at hmi ⊢
   exact h.low i hi hmi
  ·have e1 : zaq (P ++ X') i = zaq X' (i - 2 * atT T) := by
    have := zgd (X := X') (i := i - 2 * atT T) (k := 2 * atT T) (P := P) (by omega)
    rwa [show 2 * atT T + (i - 2 * atT T) = i by omega] at this
   rw [e1] at hmi ⊢
   exact (hall _ (by omega) hmi).1
 by_cases hacc : zbA X' (n - atT T) = true ∧ s ≤ za0 (zaq X' 0) ∧ zcR (zaq X' 0) = T.length ∧ ofR (zbn X') ≠ none
 ·obtain ⟨hj, hs, hk, hof⟩ := hacc
  obtain ⟨j1, j2, j3, j4⟩ := zde hj
  obtain ⟨g1, _⟩ := zdC (j4 0 j1)
  have hc0 := (hall 0 (by omega) g1).1
  by_cases hlt : za0 (zaq X' 0) < c
  ·
   exfalso
   have hcong : ∀ i, i < zbH (zaq X' 0) → zaq X i = zaq X' i := fun i hi => by
    obtain ⟨f1, f2, _⟩ := zdC (j4 i hi)
    rcases hmix i (by omega) with e | ⟨hik, e⟩
    ·exact e.symm
    ·have f1' : zmR (zaq (zgT c T.length (zdi r)) i) := by rw [← e]; exact f1
     obtain ⟨_, q1, _⟩ := zfj hmt hsh (by rw [hN]; exact hik) f1'
     rw [e, q1] at f2
     omega
   obtain ⟨k1, k2, k3⟩ := zod hj hcong
   have := h4 k1 (by rw [k3]; exact hs) (by rw [k3]; exact hk)
   rw [k2] at this
   exact hof this
  ·
   right
   have hceq : za0 (zaq X' 0) = c := by omega
   have hnew : ∀ i, i < zbH (zaq X' 0) → i < za1 (zdi r).length ∧ zaq X' i = zaq (zgT c T.length (zdi r)) i ∧ zbH (zaq X' 0) = za1 (zdi r).length := fun i hi => by
    obtain ⟨f1, f2, _, f4⟩ := zdC (j4 i hi)
    rcases hmix i (by omega) with e | ⟨hik, e⟩
    ·have f1' : zmR (zaq X i) := by rw [← e]; exact f1
     have := (h3 i (by omega) f1').1
     rw [← e, f2, hceq] at this
     omega
    ·have f1' : zmR (zaq (zgT c T.length (zdi r)) i) := by rw [← e]; exact f1
     obtain ⟨q0, _, _, q4⟩ := zfj hmt hsh (by rw [hN]; exact hik) f1'
     exact ⟨q0, e, by rw [← f4, e, q4]⟩
   have hM := (hnew 0 j1).2.2
   have hwl : 128 * zaY (516 * r.length) ≤ X'.length := by rw [hX', hX]; omega
   have him : zlc c (0 + T.length) (zdi r) (X'.take (128 * zaY (516 * r.length))) := by
    refine ⟨by rw [List.length_take, hN]; omega, fun i hi => ?_⟩
    have hmn : za1 (zdi r).length ≤ 2 * zaY (516 * r.length) := by rw [← hN]; unfold zaY; omega
    rw [show 128 * zaY (516 * r.length) = 64 * (2 * zaY (516 * r.length)) by omega, zkk (by omega), (hnew i (by omega)).2.1, Nat.zero_add]
    exact (row_im c T.length (zdi r)).2 i hi
   have hatT : atT (T ++ [(c, r)]) = atT T + zaY (516 * r.length) := by simp [atT, atS]
   have hd : ∀ i, zaq (X'.drop (128 * zaY (516 * r.length))) i = zaq X' (2 * zaY (516 * r.length) + i) := fun i => by
    rw [show 128 * zaY (516 * r.length) = 64 * (2 * zaY (516 * r.length)) by omega, ze5]
   refine ⟨hlen, h.s1, h.sc, fun x hx => ?_, hlow, P ++ X'.take (128 * zaY (516 * r.length)), X'.drop (128 * zaY (516 * r.length)), by rw [List.append_assoc, List.take_append_drop], zgB hP him, by rw [hatT]; exact hfit, fun i hi hmi => ?_, fun hj2 hs2 hk2 => ?_⟩
   ·rcases List.mem_append.1 hx with hx | hx
    ·exact h.ok x hx
    ·rw [List.mem_singleton.1 hx]; exact ⟨h.sc, Nat.le_refl _, hr, hm⟩
   ·rw [hatT] at hi
    rw [hd] at hmi ⊢
    have := hall (2 * zaY (516 * r.length) + i) (by omega) hmi
    rw [List.length_append, List.length_singleton]
    exact ⟨by omega, fun hss => Nat.le_succ_of_le (this.2 hss)⟩
   ·exfalso
    obtain ⟨m1, _, m3, m4⟩ := zde hj2
    obtain ⟨p1, _⟩ := zdC (m4 0 m1)
    rw [hatT] at m3
    rw [hd] at p1 hs2 hk2
    have := (hall (2 * zaY (516 * r.length) + 0) (by omega) p1).2 hs2
    rw [hk2, List.length_append, List.length_singleton] at this
    omega
 ·left
  refine ⟨hlen, h.s1, h.sc, h.ok, hlow, P, X', rfl, hP, hat, fun i hi hmi => ?_, fun hj hs hk => ?_⟩
  ·have := hall i hi hmi
   exact ⟨by omega, this.2⟩
  ·cases ho : ofR (zbn X') with
   | none => rfl
   | some v => exact absurd ⟨hj, hs, hk, by rw [ho]; exact fun e => nomatch e⟩ hacc
theorem zlW (h : Inv n c c s T (P ++ X)) (hP : zkl 0 T P) (hX : X.length = 128 * (n - atT T))
  (h3 : ∀ i, i < 2 * (n - atT T) → zmR (zaq X i) → za0 (zaq X i) < c ∧ (s ≤ za0 (zaq X i) → zcR (zaq X i) ≤ T.length))
  (hc : c ≤ 4611686018427387904) (hn : n ≤ 4000) (hr : zbD r) (hm : zgU r = true) (hfit : atT T + zaY (516 * r.length) ≤ n) :
  Inv n c c s (T ++ [(c, r)]) (P ++ (zgT c T.length (zdi r) ++ X.drop (128 * zaY (516 * r.length)))) := by
 have hTl := zhP h.ok
 have hPl := zej h.ok hP
 have hmt := zob (k := T.length) h.s1 h.sc (Nat.le_refl c) hc (by omega)
 have hrb := zd0 hr
 have hsh := zhI hr hm
 have hN : zaY (zdi r).length = zaY (516 * r.length) := by rw [hrb]
 have hRl := zg0 c T.length (zdi r)
 have hatT : atT (T ++ [(c, r)]) = atT T + zaY (516 * r.length) := by simp [atT, atS]
 have hd : ∀ i, zaq (X.drop (128 * zaY (516 * r.length))) i = zaq X (2 * zaY (516 * r.length) + i) := fun i => by
  rw [show 128 * zaY (516 * r.length) = 64 * (2 * zaY (516 * r.length)) by omega, ze5]
 have him : zlc c (0 + T.length) (zdi r) (zgT c T.length (zdi r)) := by rw [Nat.zero_add]; exact row_im ..
 refine ⟨by rw [List.length_append, List.length_append, List.length_drop, hRl, hPl, hX, hN]; omega, h.s1, h.sc, fun x hx => ?_, fun i hi hmi => ?_, P ++ zgT c T.length (zdi r), X.drop (128 * zaY (516 * r.length)), by rw [List.append_assoc], zgB hP him, by rw [hatT]; exact hfit, fun i hi hmi => ?_, fun hj2 hs2 hk2 => ?_⟩
 ·rcases List.mem_append.1 hx with hx | hx
  ·exact h.ok x hx
  ·rw [List.mem_singleton.1 hx]; exact ⟨h.sc, Nat.le_refl _, hr, hm⟩
 ·by_cases hip : i < 2 * atT T
  ·have e1 : zaq (P ++ (zgT c T.length (zdi r) ++ X.drop (128 * zaY (516 * r.length)))) i = zaq P i := zeE (by omega)
   have e2 : zaq (P ++ X) i = zaq P i := zeE (by omega)
   rw [e1, ← e2] at hmi ⊢
   exact h.low i hi hmi
  ·obtain ⟨j, rfl⟩ : ∃ j, i = 2 * atT T + j := ⟨i - 2 * atT T, by omega⟩
   rw [zgd (by omega)] at hmi ⊢
   by_cases hj : j < 2 * zaY (516 * r.length)
   ·rw [zeE (by rw [hRl, hN]; omega)] at hmi ⊢
    obtain ⟨_, q1, _⟩ := zfj hmt hsh (by rw [hN]; exact hj) hmi
    omega
   ·obtain ⟨l, rfl⟩ : ∃ l, j = 2 * zaY (516 * r.length) + l := ⟨j - 2 * zaY (516 * r.length), by omega⟩
    rw [zgd (by rw [hRl, hN]; omega), hd] at hmi ⊢
    have := (h3 (2 * zaY (516 * r.length) + l) (by omega) hmi).1
    omega
 ·rw [hatT] at hi
  rw [hd] at hmi ⊢
  have := h3 (2 * zaY (516 * r.length) + i) (by omega) hmi
  rw [List.length_append, List.length_singleton]
  exact ⟨this.1, fun hss => Nat.le_succ_of_le (this.2 hss)⟩
 ·exfalso
  obtain ⟨m1, _, m3, m4⟩ := zde hj2
  obtain ⟨p1, _⟩ := zdC (m4 0 m1)
  rw [hatT] at m3
  rw [hd] at p1 hs2 hk2
  have := (h3 (2 * zaY (516 * r.length) + 0) (by omega) p1).2 hs2
  rw [hk2, List.length_append, List.length_singleton] at this
  omega
end
theorem zpk (n : Nat) : Inv n 1 2 1 [] (zaI (128 * n)) := by
 have hz : ∀ i, ¬ zmR (zaq (zaI (128 * n)) i) := fun i => zlV _ (by rw [za0, zaq, zeh, zcP, zcP, zgz])
 exact ⟨by simp [zaI], Nat.le_refl _, Nat.le_refl _, fun x hx => (nomatch hx), fun i _ hm => absurd hm (hz i), [], zaI (128 * n), rfl, rfl, Nat.zero_le _, fun i _ hm => absurd hm (hz i), fun hj _ _ => by
  rw [zix] at hj; cases hj⟩
section
variable {Y : World → List Nat → Prop} [Thing Y] {g x lo : Nat} {L : List Nat} {w : World}
end
end Go.Proofs.YtielfpkjoidomaaGreat
namespace Go.Proofs.YtielfpkjoidomaaGreat
open Go Go.RowKit Coup Go.ChangeShapes Go.WideShapes Go.Deep
def LfQ (W : World) (a : zmI) (cs : List Value) : Prop := ∃ q cp, cs = [.int .i64 a.num, .slice q a.b.length cp] ∧ za9 W q a.b.length 1 (bv a.b) ∧ a.b.length ≤ cp
theorem LfQ.below {w w' : World} {a : zmI} {cs : List Value} (h : LfQ w a cs) (hb : Below w.heap.size w w') : LfQ w' a cs := by
 obtain ⟨q, cp, h1, h2, h3⟩ := h
 exact ⟨q, cp, h1, h2.below hb (Nat.le_refl _), h3⟩
end Go.Proofs.YtielfpkjoidomaaGreat
namespace Go.Proofs.YtielfpkjoidomaaGreat
open Go Go.RowKit Coup
def secD (D : Dk) (n : Nat) : List Sec := (List.range n).map fun i => zaB D i
section
variable {Y : World → List Nat → Prop} [Thing Y] {g lo : Nat} {L : List Nat} {D : Dk} {w : World}
end
end Go.Proofs.YtielfpkjoidomaaGreat
namespace Go.Proofs.YtielfpkjoidomaaGreat
open Go Go.RowKit Coup Go.ChangeShapes Go.WideShapes Go.Deep
structure CellT where
 at_ : Int
 kind : Int
 i : Int
 count : Nat
 since : Nat
 tc : Nat
 tn : Int
 b : List UInt8
 s : Sec
 torn : Bool
def ceC (a : CellT) (q : Option Addr) (cp : Nat) : List Value := .int .i64 a.at_ :: .int .i64 a.kind :: .int .i64 a.i :: .int .u64 (a.count : Int) :: .int .u64 (a.since : Int) :: .int .u64 (a.tc : Int) :: .int .i64 a.tn :: .slice q a.b.length cp :: (bv a.s ++ [.bool a.torn])
def CeQ (W : World) (a : CellT) (cs : List Value) : Prop := ∃ q cp, cs = ceC a q cp ∧ a.s.length = 128 ∧ za9 W q a.b.length 1 (bv a.b) ∧ a.b.length ≤ cp ∧ zku a.at_ ∧ zku a.kind ∧ zku a.i ∧ a.count < 18446744073709551616 ∧ a.since < 18446744073709551616 ∧ a.tc < 18446744073709551616 ∧ zku a.tn
section
theorem CeQ.below {w w' : World} {a : CellT} {cs : List Value} (h : CeQ w a cs) (hb : Below w.heap.size w w') : CeQ w' a cs := by
 obtain ⟨q, cp, h1, h2, h3, h4⟩ := h
 exact ⟨q, cp, h1, h2, h3.below hb (Nat.le_refl _), h4⟩
variable {Y : World → List Nat → Prop} [Thing Y] {g : Nat} {D : Dk} {w w0 : World}
end
def fitZ (all n : Int) : Bool := decide (4 ≤ n ∧ n ≤ 4000 ∧ n < all)
theorem ziA {D : Dk} {i : Nat} (picks : List Int) (hb : zbX D i = false) : zaB (zbh D picks) i = zaB D i := by
 have e : ver (zbh D picks) i = ver (zb4 D (zdJ D fun k i => zgj (ver D i) (picks.getD k 0))) i := rfl
 rw [zaB, zaB, e, zdu hb]
section
variable {Y : World → List Nat → Prop} [Thing Y] {g lo : Nat} {L : List Nat} {D : Dk} {w : World}
end
end Go.Proofs.YtielfpkjoidomaaGreat
namespace Go.Proofs.YtielfpkjoidomaaGreat
open Go Go.RowKit Coup
theorem zlX {D : Dk} (h : za3 D = true) : D.dead = false ∧ (zcs D).dead = false := by
 have hd : D.dead = false := by
  cases hx : D.dead with
  | false => rfl
  | true => rw [(zgk hx).1] at h; cases h
 exact ⟨hd, by rw [zcs, if_pos h]; exact hd⟩
theorem zog {D : Dk} (h : za3 D = false) : (zcs D).dead = true := by rw [zcs, h]; rfl
theorem zoh {D D' : Dk} (h : D'.V = D.V) (j : Nat) : ver D' j = ver D j := by rw [ver, ver, h]
theorem zoi {D : Dk} (h : za3 D = true) {i : Nat} (hi : i < D.V.length) (s : Sec) : (zbu D (i : Int) s).dead = false ∧ ∀ j, ver (zbu D (i : Int) s) j = if i = j then ver D j ++ [s] else ver D j := by
 have hin : inD D (i : Int) = true := decide_eq_true ⟨by omega, by omega⟩
 rw [zbu, hin, if_pos rfl, Int.toNat_natCast, zfo, if_pos h]
 refine ⟨(zlX h).2, fun j => ?_⟩
 rw [zer (by rw [zco]; exact hi), zoh (zco D)]
 by_cases e : i = j
 ·subst e; rw [if_pos rfl]
 ·rw [if_neg e, if_neg e]
theorem zpl {D : Dk} (h : za3 D = false) {i : Nat} (hi : i < D.V.length) (s : Sec) : (zbu D (i : Int) s).dead = true ∧ ∀ j, ver (zbu D (i : Int) s) j = ver D j := by
 have hin : inD D (i : Int) = true := decide_eq_true ⟨by omega, by omega⟩
 rw [zbu, hin, if_pos rfl, Int.toNat_natCast, zfo, h]
 exact ⟨zog h, fun j => zoh (zco D) j⟩
theorem zd2 : ∀ (R : List Sec) (D : Dk) (a : Nat), D.dead = false → a + R.length ≤ D.V.length →
  ((zaF D a R).2 = true ∧ (zaF D a R).1.dead = false ∧ ∀ j, ver (zaF D a R).1 j = if a ≤ j ∧ j < a + R.length then ver D j ++ [R.getD (j - a) zbv] else ver D j) ∨
  ((zaF D a R).2 = false ∧ (zaF D a R).1.dead = true ∧ ∀ j, ver (zaF D a R).1 j = ver D j ∨ (a ≤ j ∧ j < a + R.length ∧ ver (zaF D a R).1 j = ver D j ++ [R.getD (j - a) zbv]))
 | [], D, a, hd, _ => .inl ⟨rfl, hd, fun j => by rw [if_neg (by rw [List.length_nil]; omega)]; rfl⟩
 | t :: R, D, a, hd, hl => by
  rw [List.length_cons] at hl
  rw [zaF]
  cases hs : za3 D with
  | false =>
   obtain ⟨h1, h2⟩ := zpl hs (i := a) (by omega) t
   rw [if_neg (by simp)]
   exact .inr ⟨rfl, h1, fun j => .inl (h2 j)⟩
  | true =>
   obtain ⟨h1, h2⟩ := zoi hs (i := a) (by omega) t
   rw [if_pos rfl]
   have hlen : (zbu D (a : Int) t).V.length = D.V.length := zfi _ _ _
   rcases zd2 R (zbu D (a : Int) t) (a + 1) h1 (by rw [hlen]; omega) with ⟨e1, e2, e3⟩ | ⟨e1, e2, e3⟩
   ·refine .inl ⟨e1, e2, fun j => ?_⟩
    rw [e3 j, h2 j, List.length_cons]
    by_cases c1 : a + 1 ≤ j ∧ j < a + 1 + R.length
    ·rw [if_pos c1, if_neg (by omega : ¬ a = j), if_pos (by omega : a ≤ j ∧ j < a + (R.length + 1)), show j - a = (j - (a + 1)) + 1 by omega, List.getD_cons_succ]
    ·rw [if_neg c1]
     by_cases c2 : a = j
     ·rw [if_pos c2, if_pos (by omega), show j - a = 0 by omega, List.getD_cons_zero]
     ·rw [if_neg c2, if_neg (by omega)]
   ·refine .inr ⟨e1, e2, fun j => ?_⟩
    rw [List.length_cons]
    rcases e3 j with h3 | ⟨k1, k2, k3⟩
    ·rw [h3, h2 j]
     by_cases c2 : a = j
     ·rw [if_pos c2]
      exact .inr ⟨by omega, by omega, by rw [show j - a = 0 by omega, List.getD_cons_zero]⟩
     ·rw [if_neg c2]; exact .inl rfl
    ·rw [k3, h2 j, if_neg (by omega)]
     exact .inr ⟨by omega, by omega, by rw [show j - a = (j - (a + 1)) + 1 by omega, List.getD_cons_succ]⟩
theorem zkm {D : Dk} (h : za3 D = true) : (zbe D).dead = false ∧ zbf (zbe D) 1 ∧ ∀ j, j < D.V.length → zaB (zbe D) j = zaB D j := by
 refine ⟨?_, ?_, fun j hj => zmJ h hj⟩
 ·rw [zbe, if_pos h]; exact (zlX h).2
 ·rw [zbe, if_pos h]
  intro v hv
  obtain ⟨u, _, rfl⟩ := List.mem_map.1 hv
  simp
theorem zlY {D : Dk} (h : za3 D = false) : (zbe D).dead = true ∧ ∀ j, ver (zbe D) j = ver D j := by
 rw [zbe, h]
 exact ⟨zog h, fun j => zoh (zco D) j⟩
theorem ze6 (R : List Sec) {D : Dk} (a : Nat) (hd : D.dead = false) (hsh : zbf D 1) (hl : a + R.length ≤ D.V.length) :
  ((zcO D a R).2 = true ∧ (zcO D a R).1.dead = false ∧ zbf (zcO D a R).1 1 ∧ ∀ j, j < D.V.length → zaB (zcO D a R).1 j = if a ≤ j ∧ j < a + R.length then R.getD (j - a) zbv else zaB D j) ∨
  ((zcO D a R).2 = false ∧ (zcO D a R).1.dead = true ∧ ∀ j, ver (zcO D a R).1 j = ver D j ∨ (a ≤ j ∧ j < a + R.length ∧ ver (zcO D a R).1 j = ver D j ++ [R.getD (j - a) zbv])) := by
 rcases zd2 R D a hd hl with ⟨e1, e2, e3⟩ | ⟨e1, e2, e3⟩
 ·rw [zcO, if_pos e1]
  cases hs : za3 (zaF D a R).1 with
  | true =>
   obtain ⟨f1, f2, f3⟩ := zkm hs
   refine .inl ⟨rfl, f1, f2, fun j hj => ?_⟩
   rw [f3 j (by rw [zbo]; exact hj), zaB, e3 j]
   by_cases c : a ≤ j ∧ j < a + R.length
   ·rw [if_pos c, if_pos c]; simp [zeX]
   ·rw [if_neg c, if_neg c]; rfl
  | false =>
   obtain ⟨f1, f2⟩ := zlY hs
   refine .inr ⟨rfl, f1, fun j => ?_⟩
   rw [f2 j, e3 j]
   by_cases c : a ≤ j ∧ j < a + R.length
   ·rw [if_pos c]; exact .inr ⟨c.1, c.2, rfl⟩
   ·rw [if_neg c]; exact .inl rfl
 ·rw [zcO, if_neg (by rw [e1]; simp)]
  exact .inr ⟨e1, e2, e3⟩
theorem zld (D : Dk) (a : Nat) (R : List Sec) : (zcO D a R).1.V.length = D.V.length := by
 unfold zcO
 split
 ·rw [zb0, zbo]
 ·rw [zbo]
theorem zjh (D : Dk) (c s : Nat) : zbt D c s = (zcO D 0 [zbO c s]).1 ∧ zcY D c s = (zcO D 0 [zbO c s]).2 := by
 cases hs : za3 D with
 | true =>
  have : zaF D 0 [zbO c s] = (zbu D 0 (zbO c s), true) := by rw [zaF, if_pos hs]; rfl
  rw [zcO, this, if_pos rfl, zbt, zcY, hs, if_pos rfl]
  exact ⟨rfl, Bool.true_and _⟩
 | false =>
  have : zaF D 0 [zbO c s] = (zbu D 0 (zbO c s), false) := by rw [zaF, hs]; rfl
  rw [zcO, this, zbt, zcY, hs]
  exact ⟨rfl, rfl⟩
theorem ver_one {D : Dk} (hok : zcG D) (hsh : zbf D 1) {j : Nat} (hj : j < D.V.length) : ver D j = [zaB D j] := by
 obtain ⟨h1, _, _⟩ := zdI hok hj
 have h2 := hsh.ver hj
 have h3 := List.length_pos_iff.2 h1
 obtain ⟨a, ha⟩ := List.length_eq_one_iff.1 (show (ver D j).length = 1 by omega)
 rw [zaB, ha]; rfl
theorem zcQ {s : Sec} (h : s.length = 128) : s = zik s ++ zhr s := by
 unfold zik zhr
 rw [List.drop_zero, List.take_of_length_le (l := s.drop 64) (by rw [List.length_drop]; omega), List.take_append_drop]
theorem zhQ {D D2 : Dk} (hok : zcG D) (hsh : zbf D 1) (hok2 : zcG D2) (hlen : D2.V.length = D.V.length) (p : List Int) {j : Nat} (hj : j < D.V.length) {t : Sec} {q : Prop} (hv : ver D2 j = ver D j ∨ (q ∧ ver D2 j = ver D j ++ [t])) :
  (zaB (zbh D2 p) j).length = 128 ∧ (zik (zaB (zbh D2 p) j) = zik (zaB D j) ∨ (q ∧ zik (zaB (zbh D2 p) j) = zik t)) ∧ (zhr (zaB (zbh D2 p) j) = zhr (zaB D j) ∨ (q ∧ zhr (zaB (zbh D2 p) j) = zhr t)) := by
 obtain ⟨s, h1, h2, a, ha, b, hb, h3, h4⟩ := zhs hok2 p (i := j) (by rw [hlen]; exact hj)
 have hr : zaB (zbh D2 p) j = s := by rw [zaB, h1]; rfl
 rw [hr]
 have hone := ver_one hok hsh hj
 refine ⟨h2, ?_, ?_⟩
 ·rw [h3]
  rcases hv with e | ⟨hq, e⟩
  ·rw [e, hone, List.mem_singleton] at ha; rw [ha]; exact .inl rfl
  ·rw [e, hone] at ha
   rcases List.mem_append.1 ha with ha | ha
   ·rw [List.mem_singleton.1 ha]; exact .inl rfl
   ·rw [List.mem_singleton.1 ha]; exact .inr ⟨hq, rfl⟩
 ·rw [h4]
  rcases hv with e | ⟨hq, e⟩
  ·rw [e, hone, List.mem_singleton] at hb; rw [hb]; exact .inl rfl
  ·rw [e, hone] at hb
   rcases List.mem_append.1 hb with hb | hb
   ·rw [List.mem_singleton.1 hb]; exact .inl rfl
   ·rw [List.mem_singleton.1 hb]; exact .inr ⟨hq, rfl⟩
theorem zdl {D : Dk} (hok : zcG D) (p : List Int) : zbf (zbh D p) 1 := fun v hv => by
 obtain ⟨j, hj⟩ := List.mem_iff_getElem?.1 hv
 have hjl := (List.getElem?_eq_some_iff.1 hj).1
 rw [zbZ] at hjl
 obtain ⟨s, h1, _⟩ := zhs hok p hjl
 have : v = ver (zbh D p) j := by
  rw [ver, List.getD_eq_getElem?_getD, hj]; rfl
 rw [this, h1]; exact Nat.le_refl _
theorem zpm {D : Dk} (h : zcG D) {n : Nat} (hn : 1 + n ≤ D.V.length) : (zd1 D n).length = 128 * n := by rw [zk6, zfY (zk7 h hn), zjf, Nat.mul_comm]
theorem zhR {L : List Sec} (h : zbV L) {j : Nat} {s : Sec} (hs : L[j]? = some s) : zaq L.flatten (2 * j) = zik s ∧ zaq L.flatten (2 * j + 1) = zhr s := by
 have hf := ziV h hs
 have e1 : zaq L.flatten (2 * j) = ((L.flatten.drop (j * 128)).take 128).take 64 := by rw [zaq, List.take_take, Nat.min_eq_left (by omega), show 64 * (2 * j) = j * 128 by omega]
 have e2 : zaq L.flatten (2 * j + 1) = ((L.flatten.drop (j * 128)).take 128).drop 64 := by rw [zaq, List.drop_take, List.drop_drop, show 64 * (2 * j + 1) = j * 128 + 64 by omega]
 have hl := h s (List.mem_of_getElem? hs)
 rw [e1, e2, hf]
 unfold zik zhr
 exact ⟨by rw [List.drop_zero], by rw [List.take_of_length_le (l := s.drop 64) (by rw [List.length_drop]; omega)]⟩
theorem zg4 {D : Dk} (h : zcG D) {n j : Nat} (hn : 1 + n ≤ D.V.length) (hj : j < n) : zaq (zd1 D n) (2 * j) = zik (zaB D (1 + j)) ∧ zaq (zd1 D n) (2 * j + 1) = zhr (zaB D (1 + j)) :=
 zhR (zk7 h hn) (zg3 D hj)
theorem ze7 {D D' : Dk} {n : Nat} (h : ∀ j, j < n → zaB D' (1 + j) = zaB D (1 + j)) : zd1 D' n = zd1 D n := by
 unfold zd1
 congr 1
 exact List.map_congr_left fun i hi => h i (List.mem_range.1 hi)
structure zcp (D : Dk) (n c cx s : Nat) (T : List (Nat × Rec)) : Prop where
 ok : zcG D
 len : 1 + n ≤ D.V.length
 short : zbf D 1
 head : zaB D 0 = zbO c s
 inv : Inv n c cx s T (zd1 D n)
theorem zlZ (c s : Nat) : (zbO c s).length = 128 := zf7 c s
theorem zg5 (c s : Nat) : zhr (zbO c s) = zaI 64 := by
 have hl : (magic ++ (beB 8 c ++ beB 8 s)).length = 20 := by simp [magic, zaG]
 have he : zbO c s = (magic ++ (beB 8 c ++ beB 8 s)) ++ zaI 108 := by simp [zbO, List.append_assoc]
 rw [zhr, he, List.drop_append, List.drop_of_length_le (l := magic ++ (beB 8 c ++ beB 8 s)) (by omega), List.nil_append, hl, zeh, zcP]; rfl
namespace zcp
variable {D D' : Dk} {n c cx s : Nat} {T : List (Nat × Rec)}
theorem same (h : zcp D n c cx s T) (hok : zcG D') (hlen : D'.V.length = D.V.length) (hsh : zbf D' 1) (hr : ∀ j, j < D.V.length → zaB D' j = zaB D j) : zcp D' n c cx s T := by
 have hl := h.len
 exact ⟨hok, by rw [hlen]; exact hl, hsh, (hr 0 (by omega)).trans h.head, by rw [ze7 fun j hj => hr (1 + j) (by omega)]; exact h.inv⟩
theorem crash (h : zcp D n c cx s T) (p : List Int) (hok : zcG (zbh D p)) : zcp (zbh D p) n c cx s T :=
 h.same hok (zbZ D p) (zdl h.ok p) fun j hj => ziA p (by
  unfold zbX
  have := h.short.ver hj
  exact decide_eq_false (by omega))
theorem rehead {c' cx' s' : Nat} {T' : List (Nat × Rec)} (h : zcp D n c cx s T) (hok : zcG D') (hlen : D'.V.length = D.V.length) (hsh : zbf D' 1) (h0 : zaB D' 0 = zbO c' s') (hr : ∀ j, j < D.V.length → j ≠ 0 → zaB D' j = zaB D j)
  (hi : Inv n c cx s T (zd1 D n) → Inv n c' cx' s' T' (zd1 D n)) : zcp D' n c' cx' s' T' := by
 have hl := h.len
 exact ⟨hok, by rw [hlen]; exact hl, hsh, h0, by rw [ze7 fun j hj => hr (1 + j) (by omega) (by omega)]; exact hi h.inv⟩
theorem save {c' cx' s' : Nat} {T' : List (Nat × Rec)} (h : zcp D n c cx s T) (hd : D.dead = false) (hok : zcG (zbt D c' s')) (hok2 : ∀ p, zcG (zbh (zbt D c' s') p)) (hi : Inv n c cx s T (zd1 D n) → Inv n c' cx' s' T' (zd1 D n)) :
  (zcY D c' s' = true ∧ (zbt D c' s').dead = false ∧ zcp (zbt D c' s') n c' cx' s' T') ∨
  (zcY D c' s' = false ∧ (zbt D c' s').dead = true ∧ ∀ p, zcp (zbh (zbt D c' s') p) n c cx s T ∨ zcp (zbh (zbt D c' s') p) n c' cx' s' T') := by
 have hl := h.len
 obtain ⟨e1, e2⟩ := zjh D c' s'
 have hlen : (zbt D c' s').V.length = D.V.length := by rw [e1, zld]
 rcases ze6 [zbO c' s'] 0 hd h.short (by simp; omega) with ⟨f1, f2, f3, f4⟩ | ⟨f1, f2, f3⟩
 ·left
  rw [← e1] at f2 f3 f4
  rw [← e2] at f1
  refine ⟨f1, f2, h.rehead hok hlen f3 ?_ (fun j hj h0 => ?_) hi⟩
  ·rw [f4 0 (by omega), if_pos (by simp)]; rfl
  ·rw [f4 j hj, if_neg (by simp; omega)]
 ·right
  rw [← e1] at f2 f3
  rw [← e2] at f1
  refine ⟨f1, f2, fun p => ?_⟩
  have hj : ∀ j, j < D.V.length → j ≠ 0 → zaB (zbh (zbt D c' s') p) j = zaB D j := fun j hj h0 => by
   obtain ⟨g1, g2, g3⟩ := zhQ (q := False) (t := zbv) h.ok h.short hok hlen p hj (by
    rcases f3 j with e | ⟨_, k2, _⟩
    ·exact .inl e
    ·simp at k2; omega)
   rw [zcQ g1, zcQ (zdP h.ok hj)]
   rcases g2 with g2 | ⟨g2, _⟩
   ·rcases g3 with g3 | ⟨g3, _⟩
    ·rw [g2, g3]
    ·exact g3.elim
   ·exact g2.elim
  obtain ⟨g1, g2, g3⟩ := zhQ (q := True) (t := zbO c' s') h.ok h.short hok hlen p (j := 0) (by omega) (by
   rcases f3 0 with e | ⟨_, _, k3⟩
   ·exact .inl e
   ·exact .inr ⟨trivial, k3⟩)
  rw [h.head, zg5, zg5] at g3
  rw [h.head] at g2
  have g3' : zhr (zaB (zbh (zbt D c' s') p) 0) = zaI 64 := g3.elim id fun x => x.2
  have hlc : (zbh (zbt D c' s') p).V.length = D.V.length := by rw [zbZ]; exact hlen
  rcases g2 with g2 | ⟨_, g2⟩
  ·left
   refine h.same (hok2 p) hlc (zdl hok p) fun j hjl => ?_
   by_cases h0 : j = 0
   ·rw [h0, h.head, zcQ g1, zcQ (zlZ c s), g2, g3', zg5]
   ·exact hj j hjl h0
  ·right
   exact h.rehead (hok2 p) hlc (zdl hok p) (by rw [zcQ g1, zcQ (zlZ c' s'), g2, g3', zg5]) hj hi
end zcp
theorem zcp.put {D : Dk} {n c s : Nat} {T : List (Nat × Rec)} {G : Lg} {r : Rec} (h : zcp D n c c s T) (hd : D.dead = false) (hG : G.count = c ∧ G.num = T.length ∧ G.at_ = atT T) (hc : c ≤ 4611686018427387904) (hn : n ≤ 4000) (hr : zbD r) (hm : zgU r = true)
  (hfit : atT T + zaY (516 * r.length) ≤ n) (hok : zcG (zcO D (1 + G.at_) (zc3 G r)).1) (hok2 : ∀ p, zcG (zbh (zcO D (1 + G.at_) (zc3 G r)).1 p)) :
  ((zcO D (1 + G.at_) (zc3 G r)).2 = true ∧ (zcO D (1 + G.at_) (zc3 G r)).1.dead = false ∧ zcp (zcO D (1 + G.at_) (zc3 G r)).1 n c c s (T ++ [(c, r)])) ∨
  ((zcO D (1 + G.at_) (zc3 G r)).2 = false ∧ (zcO D (1 + G.at_) (zc3 G r)).1.dead = true ∧ ∀ p, zcp (zbh (zcO D (1 + G.at_) (zc3 G r)).1 p) n c (c + 1) s T ∨ zcp (zbh (zcO D (1 + G.at_) (zc3 G r)).1 p) n c (c + 1) s (T ++ [(c, r)])) := by
 have hl := h.len
 have hRl := zey G r
 obtain ⟨hRf, hRo⟩ := zf8 G hr
 rw [hG.1, hG.2.1] at hRf
 rw [hG.2.2] at hok hok2 ⊢
 generalize zc3 G r = R at *
 obtain ⟨P, X, hB, hP, hat, h3, h4⟩ := h.inv.ex
 have hPl := zej h.inv.ok hP
 have hBl := h.inv.len
 have hXl : X.length = 128 * (n - atT T) := by
  rw [hB, List.length_append, hPl] at hBl; omega
 have hi := h.inv
 rw [hB] at hi
 have hlen := zld D (1 + atT T) R
 rcases ze6 R (1 + atT T) hd h.short (by omega) with ⟨f1, f2, f3, f4⟩ | ⟨f1, f2, f3⟩
 ·left
  refine ⟨f1, f2, hok, by rw [hlen]; exact hl, f3, ?_, ?_⟩
  ·rw [f4 0 (by omega), if_neg (by omega)]; exact h.head
  ·rw [zlR h.ok hl (by omega) f4 hB hPl, hRf, hRl]
   exact zlW hi hP hXl h3 hc hn hr hm hfit
 ·right
  refine ⟨f1, f2, fun p => ?_⟩
  have hlc : (zbh (zcO D (1 + atT T) R).1 p).V.length = D.V.length := by rw [zbZ]; exact hlen
  have hsec : ∀ j, j < D.V.length → (zaB (zbh (zcO D (1 + atT T) R).1 p) j).length = 128 ∧ (zik (zaB (zbh (zcO D (1 + atT T) R).1 p) j) = zik (zaB D j) ∨ ((1 + atT T ≤ j ∧ j < 1 + atT T + R.length) ∧ zik (zaB (zbh (zcO D (1 + atT T) R).1 p) j) = zik (R.getD (j - (1 + atT T)) zbv))) ∧
    (zhr (zaB (zbh (zcO D (1 + atT T) R).1 p) j) = zhr (zaB D j) ∨ ((1 + atT T ≤ j ∧ j < 1 + atT T + R.length) ∧ zhr (zaB (zbh (zcO D (1 + atT T) R).1 p) j) = zhr (R.getD (j - (1 + atT T)) zbv))) := fun j hj =>
   zhQ h.ok h.short hok hlen p hj (by
    rcases f3 j with e | ⟨k1, k2, k3⟩
    ·exact .inl e
    ·exact .inr ⟨⟨k1, k2⟩, k3⟩)
  have hok3 := hok2 p
  have hsh3 := zdl hok p
  generalize zbh (zcO D (1 + atT T) R).1 p = D3 at *
  have hl3 : 1 + n ≤ D3.V.length := by rw [hlc]; exact hl
  have hh0 : zaB D3 0 = zbO c s := by
   obtain ⟨g1, g2, g3⟩ := hsec 0 (by omega)
   have g2' := g2.elim id fun x => absurd x.1 (by omega)
   have g3' := g3.elim id fun x => absurd x.1 (by omega)
   rw [← h.head, zcQ g1, zcQ (zdP h.ok (i := 0) (by omega)), g2', g3']
  have hB3l := zpm hok3 hl3
  have hhalf : ∀ i, i < 2 * n → zaq (zd1 D3 n) i = zaq (zd1 D n) i ∨ ((2 * atT T ≤ i ∧ i < 2 * atT T + 2 * R.length) ∧ zaq (zd1 D3 n) i = zaq (zgT c T.length (zdi r)) (i - 2 * atT T)) := fun i hi2 => by
   obtain ⟨j, hj | hj⟩ : ∃ j, i = 2 * j ∨ i = 2 * j + 1 := ⟨i / 2, by omega⟩
   ·subst hj
    obtain ⟨a1, _⟩ := zg4 hok3 hl3 (n := n) (j := j) (by omega)
    obtain ⟨b1, _⟩ := zg4 h.ok hl (n := n) (j := j) (by omega)
    obtain ⟨_, g2, _⟩ := hsec (1 + j) (by omega)
    rw [a1, b1]
    rcases g2 with g2 | ⟨k, g2⟩
    ·exact .inl g2
    ·obtain ⟨q, rfl⟩ : ∃ q, j = atT T + q := ⟨j - atT T, by omega⟩
     refine .inr ⟨by omega, ?_⟩
     rw [g2, show 1 + (atT T + q) - (1 + atT T) = q by omega, show 2 * (atT T + q) - 2 * atT T = 2 * q by omega, ← hRf]
     exact (zhR hRo (j := q) (s := R.getD q zbv) (by rw [List.getD_eq_getElem?_getD, List.getElem?_eq_getElem (by omega)]; rfl)).1.symm
   ·subst hj
    obtain ⟨_, a1⟩ := zg4 hok3 hl3 (n := n) (j := j) (by omega)
    obtain ⟨_, b1⟩ := zg4 h.ok hl (n := n) (j := j) (by omega)
    obtain ⟨_, _, g2⟩ := hsec (1 + j) (by omega)
    rw [a1, b1]
    rcases g2 with g2 | ⟨k, g2⟩
    ·exact .inl g2
    ·obtain ⟨q, rfl⟩ : ∃ q, j = atT T + q := ⟨j - atT T, by omega⟩
     refine .inr ⟨by omega, ?_⟩
     rw [g2, show 1 + (atT T + q) - (1 + atT T) = q by omega, show 2 * (atT T + q) + 1 - 2 * atT T = 2 * q + 1 by omega, ← hRf]
     exact (zhR hRo (j := q) (s := R.getD q zbv) (by rw [List.getD_eq_getElem?_getD, List.getElem?_eq_getElem (by omega)]; rfl)).2.symm
  have hPe : (zd1 D3 n).take (64 * (2 * atT T)) = P := ziz (2 * atT T) (by rw [List.length_take, hB3l]; omega) (by omega) fun i hi2 => by
   rw [zkk hi2]
   rcases hhalf i (by omega) with e | ⟨k, _⟩
   ·rw [e, hB, zeE (by omega)]
   ·omega
  have hX : zd1 D3 n = P ++ (zd1 D3 n).drop (64 * (2 * atT T)) := by
   have := List.take_append_drop (64 * (2 * atT T)) (zd1 D3 n)
   rw [hPe] at this; exact this.symm
  have hmx := inv_mix (X' := (zd1 D3 n).drop (64 * (2 * atT T))) hi hP hXl hat h3 h4 hc hn hr hm hfit (by rw [List.length_drop, hB3l, hXl]; omega) fun i hi2 => by
   rw [ze5]
   rcases hhalf (2 * atT T + i) (by omega) with e | ⟨k, e⟩
   ·left
    rw [e, hB, zgd (by omega)]
   ·right
    exact ⟨by omega, by rw [e, show 2 * atT T + i - 2 * atT T = i by omega]⟩
  rw [← hX] at hmx
  exact hmx.elim (fun hv => .inl ⟨hok3, hl3, hsh3, hh0, hv⟩) fun hv => .inr ⟨hok3, hl3, hsh3, hh0, hv⟩
end Go.Proofs.YtielfpkjoidomaaGreat
namespace Go.Proofs.YtielfpkjoidomaaGreat
open Go Go.RowKit Coup Go.ChangeShapes Go.WideShapes Go.Deep
structure StepT where
 kind : Int
 n : Int
 lv : List zmI
 picks : List Int
def StQ (W : World) (a : StepT) (cs : List Value) : Prop := ∃ q cp q2 cp2, cs = [.int .i64 a.kind, .int .i64 a.n, .slice q a.lv.length cp, .slice q2 a.picks.length cp2] ∧ zdv (LfQ W) W 2 q a.lv.length a.lv ∧ za9 W q2 a.picks.length 1 (iv a.picks) ∧ okI a.picks ∧ zku a.kind ∧ zku a.n
structure LifeT where
 fuse : Int
 steps : List StepT
 picks : List Int
def LiQ (W : World) (a : LifeT) (cs : List Value) : Prop := ∃ q cp q2 cp2, cs = [.int .i64 a.fuse, .slice q a.steps.length cp, .slice q2 a.picks.length cp2] ∧ zdv (StQ W) W 4 q a.steps.length a.steps ∧ za9 W q2 a.picks.length 1 (iv a.picks) ∧ okI a.picks ∧ zku a.fuse
theorem StQ.below {w w' : World} {a : StepT} {cs : List Value} (h : StQ w a cs) (hb : Below w.heap.size w w') : StQ w' a cs := by
 obtain ⟨q, cp, q2, cp2, h1, h2, h3, h4⟩ := h
 exact ⟨q, cp, q2, cp2, h1, h2.to hb fun _ _ hq => hq.below hb, h3.below hb (Nat.le_refl _), h4⟩
def fewS (R : List StepT) (most : Nat) : Prop := R.length ≤ most ∧ ∀ a ∈ R, a.lv.length ≤ 62 ∧ a.picks.length ≤ 200
end Go.Proofs.YtielfpkjoidomaaGreat
namespace Go.Proofs.YtielfpkjoidomaaGreat
open Go Go.RowKit Coup
def zkv (lo : Nat) (L : List Nat) (n : Nat) (q : Option Addr) : Prop := 0 < n → ∀ b o, q = some ⟨b, o, none⟩ → b < lo ∨ b ∈ L
theorem zkv.weak {lo n : Nat} {L L2 : List Nat} {q : Option Addr} (h : zkv lo L n q) (h2 : ∀ b ∈ L, b ∈ L2) : zkv lo L2 n q := fun h0 b o e => (h h0 b o e).imp id (h2 b)
theorem zkv.kp {lo m n sz : Nat} {L M : List Nat} {q : Option Addr} {cs : List Value} {w w' : World} (h : zkv lo L n q) (hs : za9 w q n sz cs) (k : Kp M w w') (hM : ∀ b ∈ M, ¬ (b < lo ∨ b ∈ L)) : za9 w' q n sz cs :=
 znH hs k fun h0 b o e hm => hM b hm (h h0 b o e)
structure zkw (lo : Nat) (L : List Nat) (w : World) (q : Option Addr) (r : Rec) : Prop where
 at_ : za9 w q r.length 513 (zbT r)
 sh : zkv lo L r.length q
structure zji (lo : Nat) (L : List Nat) (w : World) (p : Option Addr) (S : List Rec) : Prop where
 ex : ∃ vs, za9 w p S.length 1 vs ∧ zkv lo L S.length p ∧ ∀ (i : Nat) r, S[i]? = some r → ∃ q c, vs[i]? = some (.slice q r.length c) ∧ zkw lo L w q r
structure zmS (lo : Nat) (L : List Nat) (w : World) (p : Option Addr) (ML : List (List Rec)) : Prop where
 ex : ∃ vs, za9 w p ML.length 1 vs ∧ zkv lo L ML.length p ∧ ∀ (i : Nat) S, ML[i]? = some S → ∃ q c, vs[i]? = some (.slice q S.length c) ∧ zji lo L w q S
section
variable {lo : Nat} {L L2 M : List Nat} {w w' : World} {p q : Option Addr} {r : Rec} {S : List Rec} {ML : List (List Rec)}
theorem zkw.kpd (h : zkw lo L w q r) (k : Kp M w w') (hM : ∀ b ∈ M, ¬ (b < lo ∨ b ∈ L)) : zkw lo L w' q r := ⟨zkv.kp (m := 0) h.sh h.at_ k hM, h.sh⟩
theorem zji.kpd (h : zji lo L w p S) (k : Kp M w w') (hM : ∀ b ∈ M, ¬ (b < lo ∨ b ∈ L)) : zji lo L w' p S :=
 let ⟨vs, h1, h2, h3⟩ := h.ex; ⟨vs, zkv.kp (m := 0) h2 h1 k hM, h2, fun i r hr => let ⟨q, c, e, h4⟩ := h3 i r hr; ⟨q, c, e, h4.kpd k hM⟩⟩
theorem zmS.kpd (h : zmS lo L w p ML) (k : Kp M w w') (hM : ∀ b ∈ M, ¬ (b < lo ∨ b ∈ L)) : zmS lo L w' p ML :=
 let ⟨vs, h1, h2, h3⟩ := h.ex; ⟨vs, zkv.kp (m := 0) h2 h1 k hM, h2, fun i r hr => let ⟨q, c, e, h4⟩ := h3 i r hr; ⟨q, c, e, h4.kpd k hM⟩⟩
theorem zkw.new (h : zkw lo L w q r) (hb : Below w.heap.size w w') : zkw lo L w' q r := h.kpd (M := []) (Kp.of_below hb) (by simp)
theorem zji.new (h : zji lo L w p S) (hb : Below w.heap.size w w') : zji lo L w' p S := h.kpd (M := []) (Kp.of_below hb) (by simp)
theorem zmS.new (h : zmS lo L w p ML) (hb : Below w.heap.size w w') : zmS lo L w' p ML := h.kpd (M := []) (Kp.of_below hb) (by simp)
theorem zhS {n : Nat} (h2 : ∀ b ∈ L, b ∈ L2) : ∀ b ∈ zov lo L2 n, ¬ (b < lo ∨ b ∈ L) := fun b hb hx => zaH (hx.imp id (h2 b)) hb
theorem zkw.ll (h : zkw lo L w q r) (k : LoL lo L2 w w') (h2 : ∀ b ∈ L, b ∈ L2) : zkw lo L w' q r := h.kpd k.kp (zhS h2)
theorem zji.ll (h : zji lo L w p S) (k : LoL lo L2 w w') (h2 : ∀ b ∈ L, b ∈ L2) : zji lo L w' p S := h.kpd k.kp (zhS h2)
theorem zmS.ll (h : zmS lo L w p ML) (k : LoL lo L2 w w') (h2 : ∀ b ∈ L, b ∈ L2) : zmS lo L w' p ML := h.kpd k.kp (zhS h2)
theorem zkw.weak (h : zkw lo L w q r) (h2 : ∀ b ∈ L, b ∈ L2) : zkw lo L2 w q r := ⟨h.at_, h.sh.weak h2⟩
theorem zji.weak (h : zji lo L w p S) (h2 : ∀ b ∈ L, b ∈ L2) : zji lo L2 w p S :=
 let ⟨vs, h1, h4, h3⟩ := h.ex; ⟨vs, h1, h4.weak h2, fun i r hr => let ⟨q, c, e, h5⟩ := h3 i r hr; ⟨q, c, e, h5.weak h2⟩⟩
theorem zmS.weak (h : zmS lo L w p ML) (h2 : ∀ b ∈ L, b ∈ L2) : zmS lo L2 w p ML :=
 let ⟨vs, h1, h4, h3⟩ := h.ex; ⟨vs, h1, h4.weak h2, fun i r hr => let ⟨q, c, e, h5⟩ := h3 i r hr; ⟨q, c, e, h5.weak h2⟩⟩
theorem zji.nil (lo : Nat) (L : List Nat) (w : World) : zji lo L w none [] := ⟨[], ⟨rfl, by decide, fun h0 => absurd h0 (by decide)⟩, fun h0 => absurd h0 (by decide), fun i r hr => by simp at hr⟩
theorem zj2.l {C : List Nat} (h : zj2 p S w C) (hC : ∀ b ∈ C, b ∈ L) : zji lo L w p S := by
 obtain ⟨_, vs, h2, h3, h4⟩ := h
 refine ⟨vs, h2, fun h0 b o e => .inr (hC b (h3 h0 b o e)), fun i r hr => ?_⟩
 obtain ⟨b, off, c, e1, e2, e3⟩ := h4 i r hr
 exact ⟨_, c, e1, e2, fun _ b' o' e => by cases e; exact .inr (hC _ e3)⟩
theorem zji.one {i : Nat} (vs : List Value) (h3 : ∀ (i : Nat) r, S[i]? = some r → ∃ q c, vs[i]? = some (.slice q r.length c) ∧ zkw lo L w q r) (hl : vs.length = S.length) : ∀ v ∈ vs, v.oneCell' = true := fun v hv => by
 obtain ⟨j, hj⟩ := List.mem_iff_getElem?.1 hv
 have hlt := (List.getElem?_eq_some_iff.1 hj).1
 obtain ⟨q, c, e, _⟩ := h3 j _ (List.getElem?_eq_getElem (by omega : j < S.length))
 rw [hj] at e
 cases e; rfl
theorem zji.snoc {vs : List Value} {c : Nat} (hs : za9 w p (S ++ [r]).length 1 (vs ++ [.slice q r.length c])) (hp : zkv lo L (S ++ [r]).length p) (hl : vs.length = S.length)
  (h3 : ∀ (i : Nat) r, S[i]? = some r → ∃ q c, vs[i]? = some (.slice q r.length c) ∧ zkw lo L w q r) (hr : zkw lo L w q r) : zji lo L w p (S ++ [r]) := by
 refine ⟨_, hs, hp, fun i x hx => ?_⟩
 by_cases hi : i < S.length
 ·rw [List.getElem?_append_left hi] at hx
  obtain ⟨q', c', e, h4⟩ := h3 i x hx
  exact ⟨q', c', by rw [List.getElem?_append_left (by omega)]; exact e, h4⟩
 ·have hi' : i = S.length := by
   have := (List.getElem?_eq_some_iff.1 hx).1
   simp at this; omega
  subst hi'
  simp at hx
  subst hx
  exact ⟨q, c, by rw [← hl]; simp, hr⟩
end
theorem zfk {D : Dk} (h : zcG D) (p : List Int) : zcG (zbh D p) := by
 have hv : ∀ v ∈ (zbh D p).V, ∃ s : Sec, v = [s] ∧ s.length = 128 := fun v hv => by
  obtain ⟨j, hj⟩ := List.mem_iff_getElem?.1 hv
  have hjl := (List.getElem?_eq_some_iff.1 hj).1
  rw [zbZ] at hjl
  obtain ⟨s, h1, h2, _⟩ := zhs h p hjl
  have : v = ver (zbh D p) j := by
   rw [ver, List.getD_eq_getElem?_getD, hj]; rfl
  exact ⟨s, this.trans h1, h2⟩
 refine ⟨by rw [zbZ]; exact h.n, fun v h1 => ?_, fun v h1 => ?_, fun v h1 => ?_⟩
 ·obtain ⟨s, rfl, _⟩ := hv v h1; simp
 ·obtain ⟨s, rfl, h2⟩ := hv v h1
  intro t ht
  rw [List.mem_singleton.1 ht]; exact h2
 ·obtain ⟨s, rfl, _⟩ := hv v h1; simp
def CrashOk (D : Dk) (n cb : Nat) (ML : List (List Rec)) : Prop := ∀ p, ∃ c s T, c ≤ cb ∧ zcp (zbh D p) n c (c + 1) s T ∧ T.map (·.2) ∈ ML
theorem zcp.up {D : Dk} {n c cx s c' cx' : Nat} {T : List (Nat × Rec)} (h : zcp D n c cx s T) (hx : cx ≤ cx') : zcp D n c cx' s T := ⟨h.ok, h.len, h.short, h.head, h.inv.up (Nat.le_refl _) hx⟩
theorem zcp.rest {D : Dk} {n c cx s : Nat} {T : List (Nat × Rec)} (h : zcp D n c cx s T) (hx : cx ≤ c + 1) : CrashOk D n c [T.map (·.2)] := fun p =>
 ⟨c, s, T, Nat.le_refl _, (h.crash p (zfk h.ok p)).up (c' := c) hx, by simp⟩
def gOf (n c s : Nat) (T : List (Nat × Rec)) (d : Bool) : Lg := ⟨c, s, n, T.length, atT T, d⟩
theorem zcp.lg {D : Dk} {n c cx s : Nat} {T : List (Nat × Rec)} (h : zcp D n c cx s T) (hc : c ≤ 4611686018427387904) (h4 : 4 ≤ n) (hn : n ≤ 4000) (d : Bool) : zo1 D (gOf n c s T d) := by
 obtain ⟨P, X, _, _, hat, _⟩ := h.inv.ex
 exact ⟨h.inv.s1, h.inv.sc, hc, h4, hn, hat, zhP h.inv.ok, h.len⟩
theorem zcp.opens {D : Dk} {n c s : Nat} {T : List (Nat × Rec)} (h : zcp D n c (c + 1) s T) (hc : c < 4611686018427387904) (h4 : 4 ≤ n) (hn : n ≤ 4000) :
  ze1 D n = 0 ∧ hdC (zaB D 0) = c ∧ hdS (zaB D 0) = s ∧ zck D (zdr D n) = T.map (·.2) := by
 have hl := h.len
 obtain ⟨e1, e2, e3⟩ := zhK (n := (n : Int)) (decide_eq_true (by omega) : zfE D.V.length n = true) h.head h.inv.s1 h.inv.sc hc
 refine ⟨e1, e2, e3, ?_⟩
 rw [zck, zdr, e2, e3]
 show zdQ s c 0 (zb2 (n : Int).toNat (zd1 D (n : Int).toNat) (n : Int).toNat) = _
 rw [Int.toNat_natCast]
 exact h.inv.recs (by omega) hn
theorem dk_V {D D' : Dk} (h : zcG D) (e : D'.V = D.V) : zcG D' := by
 obtain ⟨h1, h2, h3, h4⟩ := h
 exact ⟨by rw [e]; exact h1, by rw [e]; exact h2, by rw [e]; exact h3, by rw [e]; exact h4⟩
theorem zl0 {D : Dk} {k : Nat} (h : zcG D) (hsh : zbf D k) (hk : k + 1 ≤ 100000) (i : Int) {s : Sec} (hs : s.length = 128) : zcG (zbu D i s) := by
 unfold zbu
 split
 ·rename_i hin
  obtain ⟨m, rfl, hm⟩ := zkP hin
  rw [Int.toNat_natCast]
  unfold zfo
  split
  ·have h2 : zcG (zcs D) := dk_V h (zco D)
   obtain ⟨v1, v2, v3⟩ := zdI h hm
   refine zkL h2 (by simp) (fun x hx => ?_) (by rw [List.length_append, List.length_singleton]; have := hsh.ver hm; omega)
   rcases List.mem_append.1 hx with hx | hx
   ·exact v2 x hx
   ·rw [List.mem_singleton.1 hx]; exact hs
  ·exact dk_V h (zco D)
 ·exact h
theorem zfl {D : Dk} (h : zcG D) : zcG (zbe D) := by
 unfold zbe
 split
 ·refine ⟨by show (D.V.map _).length ≤ 8192; rw [List.length_map]; exact h.n, fun v hv => ?_, fun v hv => ?_, fun v hv => ?_⟩
  ·obtain ⟨u, _, rfl⟩ := List.mem_map.1 hv; simp
  ·obtain ⟨u, hu, rfl⟩ := List.mem_map.1 hv
   intro s hs
   rw [List.mem_singleton.1 hs]
   exact zfZ (h.sec u hu)
  ·obtain ⟨u, _, rfl⟩ := List.mem_map.1 hv; simp
 ·exact dk_V h (zco D)
theorem zhT : ∀ (R : List Sec) {D : Dk} {k : Nat} (a : Nat), zcG D → zbf D k → k + R.length ≤ 100000 → zbV R → zcG (zaF D a R).1
 | [], D, k, a, h, _, _, _ => h
 | s :: R, D, k, a, h, hsh, hk, hR => by
  rw [List.length_cons] at hk
  have h1 := zl0 h hsh (by omega) (a : Int) (hR s (List.mem_cons_self ..))
  rw [zaF]
  split
  ·exact zhT R (a + 1) h1 (zgN hsh _ _) (by omega) fun x hx => hR x (List.mem_cons_of_mem _ hx)
  ·exact h1
theorem dk_put {D : Dk} {k : Nat} (h : zcG D) (hsh : zbf D k) (a : Nat) {R : List Sec} (hk : k + R.length ≤ 100000) (hR : zbV R) : zcG (zcO D a R).1 := by
 have h1 := zhT R a h hsh hk hR
 unfold zcO
 split
 ·exact zfl h1
 ·exact h1
theorem zle {D : Dk} {k : Nat} (h : zcG D) (hsh : zbf D k) (hk : k + 1 ≤ 100000) (c s : Nat) : zcG (zbt D c s) := by
 have h1 := zl0 h hsh hk 0 (zf7 c s)
 unfold zbt
 split
 ·exact zfl h1
 ·exact h1
theorem zjj (s : Nat) : ∀ (l : List (Nat × Pg)) {D : Dk} {k : Nat}, zcG D → zbf D k → k + 4 * l.length ≤ 100000 → (∀ p ∈ l, p.2.length = 512) → zcG (zbM s D l).1
 | [], D, k, h, _, _, _ => h
 | p :: l, D, k, h, hsh, hk, hl => by
  rw [List.length_cons] at hk
  have h1 := zhT (za8 p.2 4) (1 + s + p.1 * 4) h hsh (by rw [zbB]; omega) (zjZ (by rw [hl p (List.mem_cons_self ..)]))
  have h2 := zcZ (za8 p.2 4) D (1 + s + p.1 * 4) k hsh
  rw [zbB] at h2
  rw [zbM]
  split
  ·exact zjj s l h1 h2 (by omega) fun q hq => hl q (List.mem_cons_of_mem _ hq)
  ·exact h1
structure PlL (P : Pl) (T : List (Nat × Rec)) : Prop where
 dk : zcG P.D
 inv : Inv P.G.size P.G.count P.G.count P.G.since T (zd1 P.D P.G.size)
 num : P.G.num = T.length
 at_ : P.G.at_ = atT T
 head : zaB P.D 0 = zbO P.G.count P.G.since
 di : ∀ i, i < P.n → P.di i = zbG P.n (T.map (·.2)) i
theorem PlL.same {P Q : Pl} {T : List (Nat × Rec)} (h : PlL P T) (hD : Q.D = P.D) (hG : Q.G = P.G) (hd : Q.di = P.di) : PlL Q T := by
 have hn : Q.n = P.n := by unfold Pl.n; rw [hD, hG]
 exact ⟨by rw [hD]; exact h.dk, by rw [hD, hG]; exact h.inv, by rw [hG]; exact h.num, by rw [hG]; exact h.at_, by rw [hD, hG]; exact h.head, fun i hi => by rw [hd, hn]; exact h.di i (by rw [← hn]; exact hi)⟩
theorem PlL.settle {P : Pl} {V : Nat → Pg} {k : Nat} {T : List (Nat × Rec)} (h : PlL P T) (hi : PlI P V k) (hk : k ≤ 1000000) (hn : P.n ≤ 2048) : PlL (zaK P).2 [] := by
 obtain ⟨s1, s2, s3, s4, s5, s6, s7, s8⟩ := hi.settle hk
 obtain ⟨k1, k2, k3, k4, k5, k6, k7, k8, k9, k10⟩ := zhG hi.ok s1
 have hfit := hi.ok.lg.fit
 have hll := zhD P.di P.n 0
 obtain ⟨w1, w2, w3, w4⟩ := zdR P.G.size (zcA P.di 0 P.n) hi.al
 have wl := zef P.G.size (zcA P.di 0 P.n) P.D
 obtain ⟨f1, f2⟩ := zcK w2
 obtain ⟨a1, a2, a3, a4⟩ := zdc f2 (P.G.count + 1) (P.G.count + 1)
 have hD : (zaK P).2.D = zbt (zbe (zbM P.G.size P.D (zcA P.di 0 P.n)).1) (P.G.count + 1) (P.G.count + 1) := k10
 have hG : (zaK P).2.G = zfq P.G := s4
 have hdk := zjj P.G.size (zcA P.di 0 P.n) h.dk hi.al.short (by omega) fun p hp => hi.ok.di _ _ (zc1 hp).1
 have hlog : zd1 (zaK P).2.D P.G.size = zd1 P.D P.G.size := ze7 fun j hj => by
  rw [hD, a4 _ (by rw [zb0, wl]; omega), if_neg (by omega), zmJ f1 (by rw [wl]; omega), w3 _ (by omega) (by omega)]
 refine ⟨by rw [hD]; exact zle (zfl hdk) f2.short (by omega) _ _, ?_, by rw [hG]; rfl, by rw [hG]; rfl, ?_, fun i _ => by rw [s3]; rfl⟩
 ·rw [hG]
  show Inv P.G.size (P.G.count + 1) (P.G.count + 1) (P.G.count + 1) [] (zd1 _ P.G.size)
  rw [hlog]
  exact h.inv.trunc
 ·rw [hG, hD, a4 0 (by rw [zb0, wl]; omega), if_pos rfl]; rfl
theorem ze8 (N : Nat) (c d : PgM) : ∀ (m a : Nat), a + m ≤ N → ∀ i, zc4 N d ((zcA c a m).map fun p => ⟨p.1, p.2⟩) i = if a ≤ i ∧ i < a + m then (c i).or (d i) else d i
 | 0, a, _, i => by rw [if_neg (by omega)]; rfl
 | m + 1, a, hN, i => by
  rw [zcA]
  cases hc : c a with
  | some b =>
   have ih := ze8 N c (zdB d a (some b)) m (a + 1) (by omega) i
   have e : zc4 N d (((a, b) :: zcA c (a + 1) m).map fun p => (⟨p.1, p.2⟩ : Ch)) = zc4 N (if ((a : Nat) : Int) < (N : Int) then zdB d a (some b) else d) ((zcA c (a + 1) m).map fun p => ⟨p.1, p.2⟩) := rfl
   dsimp only
   rw [e, if_pos (by omega), ih]
   dsimp only [zdB]
   by_cases h1 : a + 1 ≤ i ∧ i < a + 1 + m
   ·rw [if_pos h1, if_neg (show ¬ i = a by omega), if_pos (show a ≤ i ∧ i < a + (m + 1) by omega)]
   ·rw [if_neg h1]
    by_cases h2 : i = a
    ·subst h2; rw [if_pos rfl, if_pos (by omega), hc]; rfl
    ·rw [if_neg h2, if_neg (by omega)]
  | none =>
   dsimp only
   rw [ze8 N c d m (a + 1) (by omega) i]
   by_cases h1 : a + 1 ≤ i ∧ i < a + 1 + m
   ·rw [if_pos h1, if_pos (by omega)]
   ·rw [if_neg h1]
    by_cases h2 : i = a
    ·subst h2; rw [if_pos (by omega), hc]; rfl
    ·rw [if_neg (by omega)]
theorem PlL.put {P : Pl} {V : Nat → Pg} {k : Nat} {T : List (Nat × Rec)} (h : PlL P T) (hi : PlI P V k) (hk : k ≤ 1000000) (hn : P.n ≤ 2048) (hR1 : ¬ (zaU P).length = 0) (hR2 : ¬ 60 < (zaU P).length) (hfit : zbK ((zaU P).length : Int) ≤ ((P.G.size - P.G.at_ : Nat) : Int)) :
  PlL { za5 (zb7 P (zaU P)) (zaU P) with ch := noP } (T ++ [(P.G.count, zaU P)]) := by
 obtain ⟨c1, c2, c3, c4, c5, c6⟩ := zeD hi hk hn hR1 hR2 hfit
 obtain ⟨d1, d2, d3, d4, d5, d6, d7, d8⟩ := zcn (zaU P) (zb7 P (zaU P))
 have hrw := ze4 P.G (R := zaU P) (by omega) (by omega)
 have hlg := hi.ok.lg
 have hat := hlg.at_
 have hfitD := hlg.fit
 have hszm := hlg.szm
 have hRok := (zgw hi.ok).1
 have hRm := zlb (P := P) (by omega) (by omega) hn
 obtain ⟨hRf, hRo⟩ := zf8 P.G hRok
 have hRl := zey P.G (zaU P)
 obtain ⟨p1, p2, p3, p4⟩ := zgy (zc3 P.G (zaU P)) (1 + P.G.at_) hi.al
 have hdk := dk_put h.dk hi.al.short (1 + P.G.at_) (R := zc3 P.G (zaU P)) (by omega) hRo
 have hcm := hlg.cm
 have hhead := h.head
 have hdi := h.di
 obtain ⟨P0, X, hB, hP, hatn, h3, h4⟩ := h.inv.ex
 have hPl := zej h.inv.ok hP
 have hBl := h.inv.len
 have hXl : X.length = 128 * (P.G.size - atT T) := by
  rw [hB, List.length_append, hPl] at hBl; omega
 have hiv := h.inv
 rw [hB] at hiv
 have hatT := h.at_
 have hnumT := h.num
 rw [hatT] at p4 hdk c5 c3
 rw [hnumT] at hRf
 refine ⟨?_, ?_, ?_, ?_, ?_, fun i hin => ?_⟩
 ·show zcG (za5 _ _).D
  rw [d1, c5]; exact hdk
 ·show Inv (za5 _ _).G.size (za5 _ _).G.count (za5 _ _).G.count (za5 _ _).G.since _ (zd1 (za5 _ _).D (za5 _ _).G.size)
  rw [d1, d2, c3, c5]
  show Inv P.G.size P.G.count P.G.count P.G.since _ (zd1 _ P.G.size)
  rw [zlR h.dk hfitD (by omega) p4 hB hPl, hRf, hRl]
  exact zlW hiv hP hXl h3 hcm hszm hRok hRm (by omega)
 ·show (za5 _ _).G.num = _
  rw [d2, c3, List.length_append, List.length_singleton, ← hnumT]
 ·show (za5 _ _).G.at_ = _
  rw [d2, c3]
  show atT T + _ = _
  rw [hRl]
  simp [atT, atS]
 ·show zaB (za5 _ _).D 0 = zbO (za5 _ _).G.count (za5 _ _).G.since
  rw [d1, d2, c3, c5, p4 0 (by omega), if_neg (by omega)]
  exact hhead
 ·have hnn : i < P.n := by
   have e : ({ za5 (zb7 P (zaU P)) (zaU P) with ch := noP } : Pl).n = P.n := d6.trans c6
   rw [e] at hin; exact hin
  have e : ({ za5 (zb7 P (zaU P)) (zaU P) with ch := noP } : Pl).n = P.n := d6.trans c6
  rw [e, List.map_append, List.map_singleton]
  show (za5 (zb7 P (zaU P)) (zaU P)).di i = zbG P.n (T.map (·.2) ++ [zaU P]) i
  have e1 : zbG P.n (T.map (·.2) ++ [zaU P]) = zc4 P.n (zbG P.n (T.map (·.2))) (zaU P) := by
   unfold zbG; rw [List.foldl_append]; rfl
  have e2 := zhN P.ch P.n 0 (zb7 P (zaU P)) i
  have e3 := ze8 P.n P.ch (zbG P.n (T.map (·.2))) P.n 0 (by omega) i
  rw [e1]
  show (za5 (zb7 P (zaU P)) ((zcA P.ch 0 P.n).map fun p => ⟨p.1, p.2⟩)).di i = zc4 P.n (zbG P.n (T.map (·.2))) ((zcA P.ch 0 P.n).map fun p => ⟨p.1, p.2⟩) i
  rw [e2, e3, if_pos (by omega), if_pos (by omega), ← hdi i hnn]
  rfl
theorem PlL.commit {P : Pl} {V : Nat → Pg} {k : Nat} {T : List (Nat × Rec)} (h : PlL P T) (hi : PlI P V k) (hk : k ≤ 900000) (hn : P.n ≤ 2048) : ∃ T', PlL (zaC P).2 T' := by
 by_cases h0 : (zaU P).length = 0
 ·have e : zaC P = (0, P) := by unfold zaC; rw [if_pos h0]
  rw [e]; exact ⟨T, h⟩
 by_cases h60 : 60 < (zaU P).length
 ·have e : zaC P = (3, P) := by unfold zaC; rw [if_neg h0, if_pos h60]
  rw [e]; exact ⟨T, h⟩
 by_cases hsz : (P.G.size : Int) < zbK ((zaU P).length : Int)
 ·have e : zaC P = (8, P) := by unfold zaC; rw [if_neg h0, if_neg h60, if_pos hsz]
  rw [e]; exact ⟨T, h⟩
 have hroom : (zbi P).1 = 0 ∧ PlI (zbi P).2 V (k + 1) ∧ zaU (zbi P).2 = zaU P ∧ zbK ((zaU P).length : Int) ≤ (((zbi P).2.G.size - (zbi P).2.G.at_ : Nat) : Int) ∧ (zbi P).2.n = P.n ∧ ∃ T2, PlL (zbi P).2 T2 := by
  unfold zbi
  split
  ·obtain ⟨s1, s2, s3, s4, s5, s6, s7, s8⟩ := hi.settle (by omega)
   refine ⟨s1, s2, by unfold zaU; rw [s5, s6], ?_, s6, [], h.settle hi (by omega) hn⟩
   rw [s4]
   show _ ≤ ((P.G.size - 0 : Nat) : Int)
   omega
  ·rename_i hr
   exact ⟨rfl, hi.up (by omega), rfl, Int.not_lt.1 hr, rfl, T, h⟩
 obtain ⟨r1, r2, r3, r4, r6, T2, hT2⟩ := hroom
 have hck := zeD r2 (by omega) (by rw [r6]; exact hn) (by rw [r3]; exact h0) (by rw [r3]; exact h60) (by rw [r3]; exact r4)
 have hpt := hT2.put r2 (by omega) (by rw [r6]; exact hn) (by rw [r3]; exact h0) (by rw [r3]; exact h60) (by rw [r3]; exact r4)
 rw [r3] at hck hpt
 have e : zaC P = (0, { za5 (zb7 (zbi P).2 (zaU P)) (zaU P) with ch := noP }) := by
  unfold zaC
  rw [if_neg h0, if_neg h60, if_neg hsz, if_pos r1, if_pos hck.1]
 rw [e]
 exact ⟨_, hpt⟩
theorem zkn {N i : Nat} (hi : N ≤ i) : ∀ (R : Rec) (c : PgM), (∀ h ∈ R, 0 ≤ h.num) → zc4 N c R i = c i
 | [], c, _ => rfl
 | h :: R, c, hR => by
  have h0 := hR h (List.mem_cons_self ..)
  have ih := zkn hi R (if h.num < (N : Int) then zdB c h.num.toNat (some h.page) else c) fun x hx => hR x (List.mem_cons_of_mem _ hx)
  show zc4 N (if h.num < (N : Int) then zdB c h.num.toNat (some h.page) else c) R i = c i
  rw [ih]
  split
  ·unfold zdB
   rw [if_neg (by omega)]
  ·rfl
theorem ziB {N i : Nat} (hi : N ≤ i) : ∀ (S : List Rec) (c : PgM), (∀ r ∈ S, ∀ h ∈ r, 0 ≤ h.num) → S.foldl (zc4 N) c i = c i
 | [], c, _ => rfl
 | r :: S, c, hS => by
  have ih := ziB hi S (zc4 N c r) fun x hx => hS x (List.mem_cons_of_mem _ hx)
  show S.foldl (zc4 N) (zc4 N c r) i = c i
  rw [ih, zkn hi r c (hS r (List.mem_cons_self ..))]
theorem zek {D D2 : Dk} (hsh : zbf D 1) {j : Nat} (hj : j < D.V.length) (hv : ver D2 j = ver D j) (p : List Int) : zaB (zbh D2 p) j = zaB D j := by
 have h1 := hsh.ver hj
 rw [ziA p (by unfold zbX; rw [hv]; exact decide_eq_false (by omega)), zaB, zaB, hv]
theorem zcp.near {D D2 : Dk} {n c cx s : Nat} {T : List (Nat × Rec)} (h : zcp D n c cx s T) (hok : zcG D2) (hlen : D2.V.length = D.V.length) (hv : ∀ j, j < 1 + n → ver D2 j = ver D j) (p : List Int) : zcp (zbh D2 p) n c cx s T := by
 have hl := h.len
 have hr : ∀ j, j < 1 + n → zaB (zbh D2 p) j = zaB D j := fun j hj => zek h.short (by omega) (hv j hj) p
 exact ⟨zfk hok p, by rw [zbZ, hlen]; exact hl, zdl hok p, by rw [hr 0 (by omega)]; exact h.head, by rw [ze7 fun j hj => hr (1 + j) (by omega)]; exact h.inv⟩
theorem zcp.near2 {D D2 : Dk} {n c cx s : Nat} {T : List (Nat × Rec)} (h : zcp D n c cx s T) (hok : zcG D2) (hlen : D2.V.length = D.V.length) (hsh : zbf D2 1) (hr : ∀ j, j < 1 + n → zaB D2 j = zaB D j) : zcp D2 n c cx s T := by
 have hl := h.len
 exact ⟨hok, by rw [hlen]; exact hl, hsh, by rw [hr 0 (by omega)]; exact h.head, by rw [ze7 fun j hj => hr (1 + j) (by omega)]; exact h.inv⟩
def zfm (D : Dk) (n N c : Nat) (V : Nat → Pg) : Prop := ∃ s T, zcp D n c (c + 1) s T ∧ 1 + n + 4 * N ≤ D.V.length ∧ ∀ i, i < N → (zbG N (T.map (·.2)) i).getD (zbP D (1 + n + i * 4)) = V i
def zdt (D : Dk) (n N cb : Nat) (VS : (Nat → Pg) → Prop) : Prop := ∀ p, ∃ c V, c ≤ cb ∧ VS V ∧ zfm (zbh D p) n N c V
theorem zgP {R : List Sec} {D : Dk} {a : Nat} (hd : D.dead = false) (hl : a + R.length ≤ D.V.length) (h2 : (zaF D a R).2 = true) : (zaF D a R).1.dead = false ∧ ∀ j, zaB (zaF D a R).1 j = if a ≤ j ∧ j < a + R.length then R.getD (j - a) zbv else zaB D j := by
 rcases zd2 R D a hd hl with ⟨e1, e2, e3⟩ | ⟨e1, _⟩
 ·refine ⟨e2, fun j => ?_⟩
  rw [zaB, e3 j]
  by_cases c : a ≤ j ∧ j < a + R.length
  ·rw [if_pos c, if_pos c]; simp [zeX]
  ·rw [if_neg c, if_neg c]; rfl
 ·rw [e1] at h2; cases h2
theorem zlf {R : List Sec} {D : Dk} {a : Nat} (hd : D.dead = false) (hl : a + R.length ≤ D.V.length) : ((zaF D a R).2 = false → (zaF D a R).1.dead = true) ∧ ∀ j, ¬ (a ≤ j ∧ j < a + R.length) → ver (zaF D a R).1 j = ver D j := by
 rcases zd2 R D a hd hl with ⟨e1, e2, e3⟩ | ⟨e1, e2, e3⟩
 ·refine ⟨fun h => ?_, fun j hj => ?_⟩
  ·rw [e1] at h; cases h
  ·rw [e3 j, if_neg hj]
 ·refine ⟨fun _ => e2, fun j hj => ?_⟩
  rcases e3 j with h | ⟨h1, h2, _⟩
  ·exact h
  ·exact absurd ⟨h1, h2⟩ hj
theorem zhU (s : Nat) : ∀ (l : List (Nat × Pg)) {D : Dk}, D.dead = false → (∀ p ∈ l, 1 + s + p.1 * 4 + 4 ≤ D.V.length) →
  ((zbM s D l).2 = true → (zbM s D l).1.dead = false) ∧ ((zbM s D l).2 = false → (zbM s D l).1.dead = true) ∧ ∀ j, (∀ p ∈ l, ¬ (1 + s + p.1 * 4 ≤ j ∧ j < 1 + s + p.1 * 4 + 4)) → ver (zbM s D l).1 j = ver D j
 | [], D, hd, _ => ⟨fun _ => hd, fun h => (nomatch h), fun _ _ => rfl⟩
 | p :: l, D, hd, hl => by
  have hp := hl p (List.mem_cons_self ..)
  have hlen := zbo (za8 p.2 4) D (1 + s + p.1 * 4)
  obtain ⟨v1, v2⟩ := zlf (R := za8 p.2 4) (a := 1 + s + p.1 * 4) hd (by rw [zbB]; omega)
  rw [zbB] at v2
  rw [zbM]
  by_cases h2 : (zaF D (1 + s + p.1 * 4) (za8 p.2 4)).2 = true
  ·rw [if_pos h2]
   have hd2 := (zgP hd (by rw [zbB]; omega) h2).1
   obtain ⟨i1, i2, i3⟩ := zhU s l hd2 fun q hq => by rw [hlen]; exact hl q (List.mem_cons_of_mem _ hq)
   exact ⟨i1, i2, fun j hj => by rw [i3 j fun q hq => hj q (List.mem_cons_of_mem _ hq), v2 j (hj p (List.mem_cons_self ..))]⟩
  ·rw [if_neg h2]
   have h3 : (zaF D (1 + s + p.1 * 4) (za8 p.2 4)).2 = false := by cases hx : (zaF D (1 + s + p.1 * 4) (za8 p.2 4)).2 with | false => rfl | true => exact absurd hx h2
   exact ⟨fun h => (nomatch h), fun _ => v1 h3, fun j hj => v2 j (hj p (List.mem_cons_self ..))⟩
theorem zhV (s : Nat) : ∀ (l : List (Nat × Pg)) {D : Dk}, D.dead = false → (∀ p ∈ l, 1 + s + p.1 * 4 + 4 ≤ D.V.length) → (l.map (·.1)).Nodup → (∀ p ∈ l, p.2.length = 512) → (zbM s D l).2 = true → ∀ p ∈ l, zbP (zbM s D l).1 (1 + s + p.1 * 4) = p.2
 | [], D, _, _, _, _, _ => fun p hp => nomatch hp
 | r :: l, D, hd, hl, hnd, h512, hok => fun p hp => by
  have hr := hl r (List.mem_cons_self ..)
  have hlen := zbo (za8 r.2 4) D (1 + s + r.1 * 4)
  rw [List.map_cons, List.nodup_cons] at hnd
  rw [zbM] at hok ⊢
  by_cases h2 : (zaF D (1 + s + r.1 * 4) (za8 r.2 4)).2 = true
  ·rw [if_pos h2] at hok ⊢
   obtain ⟨hd2, hrd⟩ := zgP hd (by rw [zbB]; omega) h2
   rw [zbB] at hrd
   have hl2 : ∀ q ∈ l, 1 + s + q.1 * 4 + 4 ≤ (zaF D (1 + s + r.1 * 4) (za8 r.2 4)).1.V.length := fun q hq => by rw [hlen]; exact hl q (List.mem_cons_of_mem _ hq)
   rcases List.mem_cons.1 hp with rfl | hp
   ·refine zgc (h512 p (List.mem_cons_self ..)) fun i hi => ?_
    have hv := (zhU s l hd2 hl2).2.2 (1 + s + p.1 * 4 + i) fun q hq hc => hnd.1 (by
     have : q.1 = p.1 := by omega
     rw [← this]; exact List.mem_map_of_mem (f := (·.1)) hq)
    rw [zaB, hv]
    have := hrd (1 + s + p.1 * 4 + i)
    rw [zaB, if_pos (by omega), show 1 + s + p.1 * 4 + i - (1 + s + p.1 * 4) = i by omega] at this
    exact this
   ·exact zhV s l hd2 hl2 hnd.2 (fun q hq => h512 q (List.mem_cons_of_mem _ hq)) hok p hp
  ·rw [if_neg h2] at hok; cases hok
structure PlJ (P : Pl) (V : Nat → Pg) (T : List (Nat × Rec)) : Prop where
 ok : zh2 P
 de : P.dead = false
 dd : P.D.dead = false
 on : zcp P.D P.G.size P.G.count P.G.count P.G.since T
 g : P.G = gOf P.G.size P.G.count P.G.since T false
 di : ∀ i, i < P.n → P.di i = zbG P.n (T.map (·.2)) i
 dn : ∀ n b, P.di n = some b → V n = b
 cl : ∀ c ∈ P.cl, ∃ n : Nat, c.num = (n : Int) ∧ P.di n = none ∧ c.page = V n
 pg : ∀ n, n < P.n → P.di n = none → zbP P.D (1 + P.G.size + n * 4) = V n
 ln : ∀ n, n < P.n → (V n).length = 512
namespace PlJ
variable {P : Pl} {V : Nat → Pg} {T : List (Nat × Rec)} {n : Nat}
theorem fitN (h : PlJ P V T) : 1 + P.G.size + 4 * P.n ≤ P.D.V.length := by
 have h4 := h.ok.n4
 obtain ⟨m, hm⟩ : ∃ m, P.n = m + 1 := ⟨P.n - 1, by omega⟩
 have := (zit h.ok (n := m) (by omega)).1
 omega
theorem near (h : PlJ P V T) {D2 : Dk} (hok : zcG D2) (hlen : D2.V.length = P.D.V.length) (hv : ∀ j, j < 1 + P.G.size → ver D2 j = ver P.D j)
  (hv2 : ∀ i, i < P.n → P.di i = none → ∀ k, k < 4 → ver D2 (1 + P.G.size + i * 4 + k) = ver P.D (1 + P.G.size + i * 4 + k)) (p : List Int) : zfm (zbh D2 p) P.G.size P.n P.G.count V := by
 have hf := h.fitN
 refine ⟨P.G.since, T, (h.on.near hok hlen hv p).up (c' := 0) (by omega), by rw [zbZ, hlen]; exact hf, fun i hi => ?_⟩
 rw [← h.di i hi]
 cases hd : P.di i with
 | some b => exact (h.dn i b hd).symm
 | none =>
  show zbP _ _ = V i
  rw [← h.pg i hi hd]
  exact zb3 fun k hk => zek h.on.short (by omega) (hv2 i hi hd k hk) p
theorem rest (h : PlJ P V T) : zfm P.D P.G.size P.n P.G.count V := by
 refine ⟨P.G.since, T, h.on.up (c' := 0) (by omega), h.fitN, fun i hi => ?_⟩
 rw [← h.di i hi]
 cases hd : P.di i with
 | some b => exact (h.dn i b hd).symm
 | none => exact h.pg i hi hd
theorem ask (h : PlJ P V T) (hn : n < P.n) : zgg P n = V n := by
 unfold zgg
 split
 ·exact (h.dn _ _ ‹_›).symm
 ·rename_i hd
  split
  ·rename_i c hc
   obtain ⟨m, h1, h2, h3⟩ := h.cl c (List.mem_of_getElem? hc)
   have h4 := zlT hc
   have : m = n := by omega
   rw [h3, this]
  ·exact h.pg n hn hd
theorem zeJ (h : PlJ P V T) (hn : n < P.n) : PlJ (zeJ P n) V T := by
 have hX := h.ask hn
 have hok : zh2 (Go.Proofs.YtielfpkjoidomaaGreat.zeJ P n) := by
  have hXl : (zgg P n).length = 512 := by rw [hX]; exact h.ln n hn
  unfold Go.Proofs.YtielfpkjoidomaaGreat.zeJ
  split
  ·exact h.ok
  ·have h2 := zkb h.ok.cl h.ok.cll n hXl
   exact ⟨h.ok.lg, h.ok.n4, h.ok.fr2, h.ok.frm, h.ok.ch, h.ok.di, h2.1, h2.2⟩
 revert hok
 unfold Go.Proofs.YtielfpkjoidomaaGreat.zeJ
 split
 ·exact fun _ => h
 ·rename_i hd
  intro hok
  refine ⟨hok, h.de, h.dd, h.on, h.g, h.di, h.dn, fun c hc => ?_, h.pg, h.ln⟩
  have hm : c ∈ without P.cl n ∨ c = ⟨n, zgg P n⟩ := by
   have h1 : c ∈ frameC P.fr P.cl n (zgg P n) := hc
   unfold frameC at h1
   split at h1
   ·have := List.mem_of_mem_drop h1
    rcases List.mem_append.1 this with h2 | h2
    ·exact .inl h2
    ·exact .inr (List.mem_singleton.1 h2)
   ·rcases List.mem_append.1 h1 with h2 | h2
    ·exact .inl h2
    ·exact .inr (List.mem_singleton.1 h2)
  rcases hm with h2 | rfl
  ·exact h.cl c (List.mem_filter.1 h2).1
  ·exact ⟨n, rfl, hd, hX⟩
theorem zfK (h : PlJ P V T) (c : PgM) (hc : ∀ i b, c i = some b → b.length = 512) : PlJ { P with ch := c } V T :=
 ⟨⟨h.ok.lg, h.ok.n4, h.ok.fr2, h.ok.frm, hc, h.ok.di, h.ok.cl, h.ok.cll⟩, h.de, h.dd, h.on, h.g, h.di, h.dn, h.cl, h.pg, h.ln⟩
theorem zjt (h : PlJ P V T) (hn : n < P.n) {X : Pg} (hX : X.length = 512) : PlJ (zjt P n X) V T := by
 refine (h.zeJ hn).zfK _ fun i b hb => ?_
 unfold zdB at hb
 split at hb
 ·split at hb
  ·cases hb
  ·rw [← Option.some.inj hb]; exact hX
 ·exact h.ok.ch i b hb
theorem zg1 (h : PlJ P V T) (hn : n < P.n) : PlJ (zg1 P n) V T := by
 unfold Go.Proofs.YtielfpkjoidomaaGreat.zg1
 split
 ·exact h
 ·exact h.zeJ hn
theorem zmD (h : PlJ P V T) (hn : n < P.n) : zmD P n = (P.ch n).getD (V n) := by
 unfold Go.Proofs.YtielfpkjoidomaaGreat.zmD
 split
 ·rename_i b hb; rw [hb]; rfl
 ·rename_i hb; rw [hb]; exact h.ask hn
end PlJ
theorem PlJ.settle {P : Pl} {V : Nat → Pg} {T : List (Nat × Rec)} (h : PlJ P V T) (hc : P.G.count < 4611686018427387904) (hn : P.n ≤ 2048) :
  ((zaK P).1 = 0 ∧ PlJ (zaK P).2 V [] ∧ (zaK P).2.di = noP ∧ (zaK P).2.G = zfq P.G) ∨
  ((zaK P).1 = 10 ∧ (zaK P).2.D.dead = true ∧ zcG (zaK P).2.D ∧ zdt (zaK P).2.D P.G.size P.n (P.G.count + 1) (· = V)) := by
 have hll := zhD P.di P.n 0
 have hf := h.fitN
 have hlfit : ∀ p ∈ zcA P.di 0 P.n, 1 + P.G.size + p.1 * 4 + 4 ≤ P.D.V.length := fun p hp => by have := zc1 hp; omega
 have h512 : ∀ p ∈ zcA P.di 0 P.n, p.2.length = 512 := fun p hp => h.ok.di _ _ (zc1 hp).1
 obtain ⟨w1, w2, w3⟩ := zhU P.G.size (zcA P.di 0 P.n) h.dd hlfit
 have wl := zef P.G.size (zcA P.di 0 P.n) P.D
 have wr := zhV P.G.size (zcA P.di 0 P.n) h.dd hlfit (zhM P.di P.n 0) h512
 have wsh := zeB P.G.size (zcA P.di 0 P.n) P.D 1 h.on.short
 have hdk := zjj P.G.size (zcA P.di 0 P.n) h.on.ok h.on.short (by omega) h512
 have hvl : ∀ j, j < 1 + P.G.size → ver (zbM P.G.size P.D (zcA P.di 0 P.n)).1 j = ver P.D j := fun j hj => w3 j fun p hp hc => by omega
 have hvp : ∀ i, i < P.n → P.di i = none → ∀ k, k < 4 → ver (zbM P.G.size P.D (zcA P.di 0 P.n)).1 (1 + P.G.size + i * 4 + k) = ver P.D (1 + P.G.size + i * 4 + k) := fun i hi hd k hk => w3 _ fun p hp hc => by
  have hm := zc1 hp
  have : p.1 = i := by omega
  rw [this, hd] at hm
  cases hm.1
 have hgd : P.G.dead = false := by rw [h.g]; rfl
 unfold zaK zbz
 generalize (zbM P.G.size P.D (zcA P.di 0 P.n)) = W at *
 obtain ⟨D1, ok1⟩ := W
 dsimp only at w1 w2 w3 wl wr wsh hdk hvl hvp ⊢
 cases ok1 with
 | false =>
  rw [if_neg (by simp)]
  exact .inr ⟨rfl, w2 rfl, hdk, fun p => ⟨P.G.count, V, by omega, rfl, h.near hdk wl hvl hvp p⟩⟩
 | true =>
  rw [if_pos rfl]
  cases hs : za3 D1 with
  | false =>
   obtain ⟨f1, f2⟩ := zlY hs
   rw [if_neg (by simp)]
   refine .inr ⟨rfl, f1, zfl hdk, fun p => ⟨P.G.count, V, by omega, rfl, h.near (zfl hdk) (by rw [zb0, wl]) (fun j hj => by rw [f2 j]; exact hvl j hj) (fun i hi hd k hk => by rw [f2]; exact hvp i hi hd k hk) p⟩⟩
  | true =>
   rw [if_pos rfl]
   obtain ⟨f1, f2, f3⟩ := zkm hs
   have hdf := zfl hdk
   have hfl : (zbe D1).V.length = P.D.V.length := by rw [zb0, wl]
   have hon2 : zcp (zbe D1) P.G.size P.G.count P.G.count P.G.since T := h.on.near2 hdf hfl f2 fun j hj => by
    have hl := h.on.len
    rw [f3 j (by omega), zaB, zaB, hvl j hj]
   have hpg2 : ∀ i, i < P.n → zbP (zbe D1) (1 + P.G.size + i * 4) = V i := fun i hi => by
    have e1 : zbP (zbe D1) (1 + P.G.size + i * 4) = zbP D1 (1 + P.G.size + i * 4) := zb3 fun k hk => f3 _ (by omega)
    rw [e1]
    cases hd : P.di i with
    | some b =>
     have := wr rfl _ (ziy hd (Nat.zero_le _) (by omega))
     exact this.trans (h.dn i b hd).symm
    | none =>
     rw [← h.pg i hi hd]
     exact zb3 fun k hk => by rw [zaB, zaB, hvp i hi hd k hk]
   have hds := zle hdf f2 (by omega) (P.G.count + 1) (P.G.count + 1)
   have hsl := zdj (zbe D1) (P.G.count + 1) (P.G.count + 1)
   have hsave := hon2.save (c' := P.G.count + 1) (cx' := P.G.count + 1) (s' := P.G.count + 1) (T' := []) f1 hds (fun p => zfk hds p) (fun hi => hi.trunc)
   obtain ⟨sp1, sp2⟩ := zjh (zbe D1) (P.G.count + 1) (P.G.count + 1)
   have hpc := ze6 [zbO (P.G.count + 1) (P.G.count + 1)] 0 f1 f2 (by have := h.on.len; simp; omega)
   rw [← sp1, ← sp2] at hpc
   unfold zcC
   rw [if_neg (by rw [hgd]; simp), if_neg (by omega)]
   rcases hsave with ⟨s1, s2, s3⟩ | ⟨s1, s2, s3⟩
   ·rw [if_pos s1]
    left
    rcases hpc with ⟨_, _, p3, p4⟩ | ⟨p1, _⟩
    ·have hpg3 : ∀ i, i < P.n → zbP (zbt (zbe D1) (P.G.count + 1) (P.G.count + 1)) (1 + P.G.size + i * 4) = V i := fun i hi => by
      rw [← hpg2 i hi]
      exact zb3 fun k hk => by rw [p4 _ (by omega), if_neg (by simp)]
     have hlg := h.ok.lg
     have hnn : ({ P with D := zbt (zbe D1) (P.G.count + 1) (P.G.count + 1), G := zfq P.G, di := noP } : Pl).n = P.n := by
      unfold Pl.n
      dsimp only
      rw [hsl, hfl]; rfl
     refine ⟨rfl, ⟨⟨⟨?_, ?_, ?_, hlg.sz4, hlg.szm, Nat.zero_le _, Nat.le_refl _, ?_⟩, by dsimp only; rw [if_pos rfl, hnn]; exact h.ok.n4, h.ok.fr2, h.ok.frm, h.ok.ch, (fun i b hb => by dsimp only at hb; rw [if_pos rfl] at hb; cases hb), h.ok.cl, h.ok.cll⟩, h.de, s2, s3, ?_, fun i hi => by dsimp only; rw [if_pos rfl]; rfl, (fun i b hb => by dsimp only at hb; rw [if_pos rfl] at hb; cases hb), ?_, ?_, ?_⟩, by dsimp only; rw [if_pos rfl], rfl⟩
     ·show 1 ≤ P.G.count + 1; omega
     ·show P.G.count + 1 ≤ P.G.count + 1; omega
     ·show P.G.count + 1 ≤ _; omega
     ·show 1 + P.G.size ≤ (zbt _ _ _).V.length
      rw [hsl, hfl]; exact hlg.fit
     ·show zfq P.G = _
      unfold zfq gOf
      rw [show ({ P.G with count := P.G.count + 1, since := P.G.count + 1, num := 0, at_ := 0 } : Lg) = ⟨P.G.count + 1, P.G.count + 1, P.G.size, 0, 0, P.G.dead⟩ from rfl, hgd]
      rfl
     ·intro c hc2
      obtain ⟨m, m1, _, m3⟩ := h.cl c hc2
      exact ⟨m, m1, by dsimp only; rw [if_pos rfl]; rfl, m3⟩
     ·intro i hi _
      dsimp only at hi
      rw [if_pos rfl, hnn] at hi
      exact hpg3 i hi
     ·intro i hi
      dsimp only at hi
      rw [if_pos rfl, hnn] at hi
      exact h.ln i hi
    ·rw [p1] at s1; cases s1
   ·rw [if_neg (by rw [s1]; simp)]
    refine .inr ⟨rfl, s2, hds, fun p => ?_⟩
    rcases hpc with ⟨p1, _⟩ | ⟨_, _, p3⟩
    ·rw [s1] at p1; cases p1
    ·have hpg3 : ∀ i, i < P.n → zbP (zbh (zbt (zbe D1) (P.G.count + 1) (P.G.count + 1)) p) (1 + P.G.size + i * 4) = V i := fun i hi => by
      rw [← hpg2 i hi]
      refine zb3 fun k hk => zek f2 (by omega) ?_ p
      rcases p3 (1 + P.G.size + i * 4 + k) with e | ⟨_, e, _⟩
      ·exact e
      ·simp at e
     have hcl : (zbh (zbt (zbe D1) (P.G.count + 1) (P.G.count + 1)) p).V.length = P.D.V.length := by rw [zbZ, hsl, hfl]
     rcases s3 p with s4 | s4
     ·refine ⟨P.G.count, V, by omega, rfl, P.G.since, T, s4.up (c' := 0) (by omega), by rw [hcl]; exact hf, fun i hi => ?_⟩
      rw [hpg3 i hi, ← h.di i hi]
      cases hd : P.di i with
      | some b => exact (h.dn i b hd).symm
      | none => rfl
     ·exact ⟨P.G.count + 1, V, Nat.le_refl _, rfl, P.G.count + 1, [], s4.up (c' := 0) (by omega), by rw [hcl]; exact hf, fun i hi => by rw [hpg3 i hi]; rfl⟩
end Go.Proofs.YtielfpkjoidomaaGreat
