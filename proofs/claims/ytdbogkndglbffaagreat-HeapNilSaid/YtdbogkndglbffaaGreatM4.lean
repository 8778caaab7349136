import Derived.Test.YtdbogkndglbffaaGreatM3
import Derived.Test.YtdbogkndglbffaaGreatM1
import Derived.Shelf.SlIterI.Nil
import Derived.Shelf.SortM.Plain
import Derived.Shelf.SortM.SortNone
import Derived.Test.YtdbogkndglbffaaGreatProg
import Derived.Test.YtdbogkndglbffaaGreatM2
namespace Go.Proofs.YtdbogkndglbffaaGreat
open Go Go.RowKit Coup
structure RdAt (w0 : World) (B x g g1 g2 cc si n : Nat) (de : Bool) (T : List Rec) (W : World) : Prop where
 rx : row W x [.int .u64 (cc : Int), .int .u64 (si : Int), .pointer (some ⟨g, 0, none⟩), .int .i64 (n : Int), .int .i64 ((T.length : Nat) : Int), .int .i64 ((atS T : Nat) : Int), .bool de] 197
 r1 : row W g1 [.pointer (some ⟨x, 0, none⟩)] 113
 ow : ∃ v vs, row W g2 [v] 143 ∧ zaB W B 114 1 v T.length vs ∧ zd0 W B v.ownBlock vs T
 kb : Kp [x] w0 W
theorem RdAt.soft {w0 W W' : World} {B B' x g g1 g2 cc si n : Nat} {de : Bool} {T : List Rec} (h : RdAt w0 B x g g1 g2 cc si n de T W) (hs : zds B' W W') (hB : w0.heap.size ≤ B') : RdAt w0 B x g g1 g2 cc si n de T W' :=
 ⟨h.rx.soft hs, h.r1.soft hs, let ⟨v, vs, h1, h2, h3⟩ := h.ow; ⟨v, vs, h1.soft hs, h2.soft hs, h3.soft hs⟩, h.kb.soft hs hB⟩
theorem all_of {w0 W : World} {B e : Nat} {p : Option Addr} {c : Nat} {vs : List Value} {o : Option Nat} {S : List Rec} (hv : zaB W B e 1 (.slice p S.length c) S.length vs) (hr : zd0 W B o vs S) (hB : w0.heap.size ≤ B) :
  zkc p S W (List.range' w0.heap.size (W.heap.size - w0.heap.size)) := by
 have hC : ∀ b, w0.heap.size ≤ b → b < W.heap.size → b ∈ List.range' w0.heap.size (W.heap.size - w0.heap.size) := fun b h1 h2 => List.mem_range'_1.2 ⟨h1, by omega⟩
 refine ⟨fun b hb => by have := List.mem_range'_1.1 hb; omega, vs, hv.sl, fun h0 b o e => ?_, fun i r hi => ?_⟩
 ·subst e
  have := hv.lt b rfl
  exact hC b (by omega) this.2
 ·obtain ⟨b, off, c, h1, h2, h3, _, _, h6⟩ := hr.at_ i r hi
  exact ⟨b, off, c, h1, h2, hC b (by omega) h3⟩
theorem znc {w : World} {base e sz m b : Nat} {v : Value} {xs : List Value} (h : zaB w base e sz v m xs) (hb : v.ownBlock = some b) : ∃ o : Obj, w.heap[b]? = some o ∧ o.isCells = true := by
 rcases h.2 with hn | ⟨g, off, cap, cur, rfl, hb', hgg, rest⟩
 ·simp [hn, Value.ownBlock] at hb
 ·cases hb; exact ⟨_, hgg, rfl⟩
theorem znd {w : World} {base e sz m c : Nat} {p : Option Addr} {xs : List Value} (h : zaB w base e sz (.slice p m c) m xs) : m ≤ c := by
 rcases h.2 with ⟨hn, _⟩ | ⟨g, off, cap, cur, he, hb', hgg, hmc, _⟩
 ·cases hn; exact Nat.le_refl _
 ·cases he; exact hmc
theorem zdL {s c k : Nat} {r : zia} {R : List zia} (h : zgJ s c k r = none) : zd1 s c k (r :: R) = [] := by rw [zd1, h]
theorem zhv {s c k : Nat} {r : zia} {R : List zia} {x : Rec} (h : zgJ s c k r = some x) : zd1 s c k (r :: R) = x :: zd1 s c (k + 1) R := by rw [zd1, h]
theorem zkZ (T : List Rec) (r : Rec) : atS (T ++ [r]) = atS T + zb2 (516 * r.length) := by simp [atS]
theorem ofR_may {b : List UInt8} {r : Rec} (h : ofR b = some r) : 1 ≤ r.length ∧ r.length ≤ 60 := by
 unfold ofR at h
 split at h
 ·rename_i hok
  cases h
  rw [ofOk, Bool.and_eq_true, Bool.and_eq_true] at hok
  have := of_decide_eq_true hok.1.2
  rwa [zka]
 ·cases h
section
variable {Y : World → List Nat → Prop} [Thing Y] {g x lo : Nat} {L : List Nat} {D : Dk} {G : Lg} {w : World}
set_option maxRecDepth 20000 in
set_option maxHeartbeats 2000000 in
theorem read52 (h : zd5 g x Y lo L D G w) (hok : LgOk D G) (h0 : G.num = 0) (h1 : G.at_ = 0) :
   Calls Tryz.prog 141 [.pointer (some ⟨x, 0, none⟩)].toArray w (Ret fun v w' => ∃ p c, v = .tuple #[.slice p (zcA D G).length c, .int .i64 0] ∧ (zcA D G).length ≤ c ∧
     zd5 g x (zkd Y (zkc p (zcA D G))) lo L D { G with num := (zcA D G).length, at_ := atS (zcA D G) } w' ∧ LoL lo L w w') := by
 have hB := Below.refl w.heap.size w
 have hx := h.rowx
 have hxl := hx.lt
 have hge := h.ge
 have hni := h.ni
 have hfit := hok.fit
 have hszm := hok.szm
 have hsz4 := hok.sz4
 have hDk := (tOk h.two).1
 have hml : maxLen = 9223372036854775807 := by decide
 have hrec : zcA D G = zd1 G.since G.count 0 (zcy G.size (zlN D G.size) G.size) := rfl
 have hTw := fun w' (hb : Below w.heap.size w w') i => tRead (h.new hb).two i
 generalize zcA D G = S at *
 obtain ⟨cc, si, sz, nu, at_, de⟩ := G
 dsimp only [lgV] at *
 subst h0 h1
 refine zas (fn := Tryz.f141) (rs := [.cell 2 143, .tmp 3]) (n := 99) Tryz.func141 rfl rfl Tryz.ntmps141 (by kernel_rfl) rfl ?_
 refine zaf (zaa ?_)
 refine zay rfl (zaU ([_]) rfl (fun g1 w1 hg1 hr1 hb1 => ?_))
 have lt_x_g1 : x < g1 := Nat.lt_of_lt_of_le hx.lt hg1
 replace hx := hx.new hb1
 replace hB := hB.acc hb1
 refine zay rfl (zar ([Value.slice none 0 0]) (by kernel_rfl) (fun g2 w2 hg2 hr2 hb2 => ?_))
 have lt_x_g2 : x < g2 := Nat.lt_of_lt_of_le hx.lt hg2
 have lt_g1_g2 : g1 < g2 := Nat.lt_of_lt_of_le hr1.lt hg2
 replace hx := hx.new hb2
 replace hr1 := hr1.new hb2
 replace hB := hB.acc hb2
 refine zad (zac) (zae (zah (zaf (zaa (zad (zac) (zae (zah (zaf (zaf (zaa ?_))))))))))
 refine zad (zax hr1) ?_
 refine zad (zak rfl) (zad (zav 3) ?_)
 refine zad (zax hx) ?_
 refine zad (zab) (zae (zah (zaE ?_)))
 have hx2 := hx.lt
 have h12 := hr1.lt
 have h22 := hr2.lt
 have hb2 := hB.size
 refine zbB (α := Nat × Value) (0, .slice none 0 0) (fun k => [(16, .int .i64 (k.1 : Nat)), (15, .int .i64 (sz : Int)), (4, k.2), (1, .pointer (some ⟨g1, 0, none⟩)), (2, .pointer (some ⟨g2, 0, none⟩))])
   (fun k w' => k.1 ≤ sz ∧ zaB w' w2.heap.size 172 128 k.2 k.1 (bv (zlN D k.1)) ∧ row w' x [.int .u64 (cc : Int), .int .u64 (si : Int), .pointer (some ⟨g, 0, none⟩), .int .i64 (sz : Int), .int .i64 ((0 : Nat) : Int), .int .i64 ((0 : Nat) : Int), .bool de] 197 ∧ row w' g1 [.pointer (some ⟨x, 0, none⟩)] 113 ∧ row w' g2 [.slice none 0 0] 143 ∧ Below w.heap.size w w' ∧ w2.heap.size ≤ w'.heap.size) (fun k => sz - k.1)
   ⟨rfl, rfl, rfl, rfl, rfl, rfl⟩ ⟨Nat.zero_le _, zbI _ _ _ _, hx, hr1, hr2, hB, Nat.le_refl _⟩ ?_
 clear hx hr1 hr2 hB
 rintro ⟨i, u⟩ f wr ⟨hi, hu, hx, hr1, hr2, hB, hsw⟩
 dsimp only at *
 have hBr := Below.refl wr.heap.size wr
 refine zaf (zaa ?_)
 refine zad (za2 rfl rfl) ?_
 refine zae (zah (zaf ?_))
 refine zbf rfl (fun hlt => ?_) (fun hlt => ?_)
 ·
  refine zau (zah (zaf (zaE (zaf (zaa (zad (zab) (zad (zac) (zae (zah (zaf (zaa ?_)))))))))))
  have hcast : ((1 + i : Nat) : Int) = 1 + (i : Int) := by omega
  have hin : inD D ((1 + i : Nat) : Int) = true := decide_eq_true (by omega)
  have hsl := zfq hDk (i := 1 + i) (by omega)
  have hlsn := zjb D i
  have hex : ∃ s, zaV D (1 + i) = s := ⟨_, rfl⟩
  obtain ⟨s, hs⟩ := hex
  rw [hs] at hsl hlsn
  refine zad (zax hr1) ?_
  refine zad (zak rfl) (zad (zav 2) ?_)
  refine zad (zax hx) ?_
  refine zad (zab) ?_
  refine zad (zaN rfl rfl (Coup.w64 (by omega))) ?_
  have hrd := hTw _ hB ((1 + i : Nat) : Int)
  rw [hin, if_pos rfl, if_pos rfl, Int.toNat_natCast, hs, hcast] at hrd
  refine zao rfl (zaj (by kernel_rfl) rfl) (hrd) ?_
  rintro _ w26 ⟨rfl, hb26⟩
  replace hx := hx.new hb26
  replace hr1 := hr1.new hb26
  replace hr2 := hr2.new hb26
  replace hB := hB.acc hb26
  replace hBr := hBr.acc hb26
  refine zad (zab) (zad (zai rfl rfl) (zad (zai rfl rfl) ?_))
  refine zay rfl (zar (List.replicate 128 (Value.int .u8 0)) (by kernel_rfl) (fun g6 w6 hg6 hr6 hb6 => ?_))
  have ge_hB_g6 := Nat.le_trans hB.size hg6
  have ge_hBr_g6 := Nat.le_trans hBr.size hg6
  have lt_x_g6 : x < g6 := Nat.lt_of_lt_of_le hx.lt hg6
  have lt_g1_g6 : g1 < g6 := Nat.lt_of_lt_of_le hr1.lt hg6
  have lt_g2_g6 : g2 < g6 := Nat.lt_of_lt_of_le hr2.lt hg6
  replace hx := hx.new hb6
  replace hr1 := hr1.new hb6
  replace hr2 := hr2.new hb6
  replace hB := hB.acc hb6
  replace hBr := hBr.acc hb6
  refine zaG rfl (zaO 128 (bv s) hr6 (fun w901 hr6 ho901 => ?_))
  replace hx := hx.only ho901 (Nat.ne_of_lt lt_x_g6)
  replace hr1 := hr1.only ho901 (Nat.ne_of_lt lt_g1_g6)
  replace hr2 := hr2.only ho901 (Nat.ne_of_lt lt_g2_g6)
  replace hB := ho901.below hB ge_hB_g6
  replace hBr := ho901.below hBr ge_hBr_g6
  refine zad (zac) (zae (zah (zaf (zaf (zaa (zad (zab) ?_))))))
  refine zad (zaM rfl rfl) ?_
  refine zae (zah ?_)
  refine zcL rfl ((by simp)) ?_
  refine zau (zah (zaa (zad (zab) ?_)))
  refine zad (zaI rfl (Ld.zbX (k := 128) hr6 (by kernel_rfl) (by kernel_rfl) (by rw [zal, hsl]))) ?_
  refine zay rfl (zdF (e := 172) (.agg (bv s).toArray) (bv s) (List.replicate 128 (Value.int .u8 0)) 128 (by kernel_rfl) (by kernel_rfl) rfl rfl (by first | rfl | (simp; done) | (simp [zal, *]; done)) ⟨by decide, by decide⟩ (fun g34 w34 hg34 hr34 hb34 => ?_))
  replace hx := hx.new hb34
  replace hr1 := hr1.new hb34
  replace hr2 := hr2.new hb34
  replace hB := hB.acc hb34
  replace hBr := hBr.acc hb34
  have hs34 := hr34.slA (m := 1) (sz := 128) (by rw [zal, hsl]) (by omega)
  replace hu := hu.new hBr
  have hbz := hBr.size
  refine zay rfl (zbq (e := 172) (sz := 128) (bytes := 128) (z := .agg (List.replicate 128 (Value.int .u8 0)).toArray) (by kernel_rfl) rfl (by kernel_rfl) rfl (by decide) rfl hu rfl hs34 (zb5 _) (by unfold maxLen; omega) (by omega) (fun hm0 => by omega) (fun v35 w35 hv35 hgr35 hfr35 => ?_))
  replace hx := hx.own hu hgr35 (by omega)
  replace hr1 := hr1.own hu hgr35 (by omega)
  replace hr2 := hr2.own hu hgr35 (by omega)
  replace hB := hB.own hu hgr35 (by omega)
  refine zad (zac) (zae (za6 (zah (zaa ?_))))
  refine zad (zaN rfl rfl (Coup.w64 (by omega))) ?_
  refine zad (zab) (zae ?_)
  rw [← zcD, ← hlsn] at hv35
  refine zbw ⟨(i + 1, v35), by show _ - (i + 1) < _ - i; omega, ⟨by go_num, rfl, rfl, rfl, rfl, rfl⟩, by show i + 1 ≤ _; omega, hv35, hx, hr1, hr2, hB, by have := hgr35.size; have := hBr.size; omega⟩
 ·
  have him : i = sz := by omega
  subst him
  have hobt := hu.form' (by omega)
  obtain ⟨ga, oa, ca, rfl, hga1, hga2, hca⟩ := hobt
  have hall := hu.sl
  refine zbm (zbW (zcr (zbt (zah (zaf (zaf (zaa (zad (zab) ?_))))))))
  refine zao rfl (zaj (by kernel_rfl) rfl) (rows73 (zlN D i) ga oa i ca wr hall (by omega) (by omega) hca) ?_
  rintro _ w38 ⟨gr, rfl, hgr, hgr2, hb38, hseq⟩
  replace hx := hx.new hb38
  replace hr1 := hr1.new hb38
  replace hr2 := hr2.new hb38
  replace hB := hB.acc hb38
  refine zae (zah (zaE ?_))
  have hRs := zgI i (zlN D i) i
  have hRl := zja i (zlN D i) i
  have hobt : ∃ R, zcy i (zlN D i) i = R := ⟨_, rfl⟩
  obtain ⟨R, hR⟩ := hobt
  rw [hR] at hseq hrec hRs hRl
  have hbs := hB.size
  have hobt : ∃ b, (w38).heap.size = b := ⟨_, rfl⟩
  obtain ⟨BB, hBB⟩ := hobt
  have hg1l := hr1.lt
  have hg2l := hr2.lt
  have hRd : RdAt w BB x g g1 g2 cc si i de [] w38 := ⟨hx, hr1, ⟨_, [], hr2, zbI _ _ _ _, zd0.nil _ _ _⟩, Kp.zcF hB⟩
  refine zi9 (ps := [39, 40]) (m := R.length) (V := RowV R) (ks := [gr, ga]) (fun _ h => h) rfl (by kernel_rfl) hseq (Below.refl _ _) (by rintro k v W ⟨r, _, sp, rfl, _⟩; rfl) (by kernel_rfl) (by simp)
    (by intro y hy; simp only [List.mem_cons, List.not_mem_nil, or_false] at hy; rcases hy with rfl | rfl <;> omega)
    (fun k W => k ≤ R.length ∧ ∃ T : List Rec, T.length = k ∧ atS T ≤ 1000 * k ∧ S = T ++ zd1 si cc k (R.drop k) ∧ RdAt w BB x g g1 g2 cc si i de T W)
    (fun c W => c = .exit 2 ∧ RdAt w BB x g g1 g2 cc si i de S W) (fun k W W' ⟨h1, T, h2, ha, h3, h4⟩ hs => ⟨h1, T, h2, ha, h3, h4.soft hs hbs⟩) (fun c W W' ⟨h1, h2⟩ hs => ⟨h1, h2.soft hs hbs⟩) ⟨Nat.zero_le _, [], rfl, Nat.le_refl _, hrec, hRd⟩ ?_ ?_ ?_
  · intro l k v W1 hkR hv hI hsz
    obtain ⟨hk, T, hTk, hat, hST, hT⟩ := hI
    obtain ⟨r, hRk, sp, rfl, hsp⟩ := hv
    have hrs := hRs r (List.mem_of_getElem? hRk)
    have hdr : R.drop k = r :: R.drop (k + 1) := by rw [List.drop_eq_getElem_cons hkR]; congr 1; exact Option.some.inj ((List.getElem?_eq_getElem hkR).symm.trans hRk)
    rw [hdr] at hST
    have hBa := Below.refl W1.heap.size W1
    refine zaf (zaa ?_)
    refine zay rfl (zar ([Value.int .u64 0, Value.int .i64 0]) (by kernel_rfl) (fun g8 w8 hg8 hr8 hb8 => ?_))
    have ge_hBa_g8 := Nat.le_trans hBa.size hg8
    replace hBa := hBa.acc hb8
    refine zaG rfl (zaO 2 ([.int .u64 (r.c : Int), .int .i64 (r.nn : Int)]) hr8 (fun w902 hr8 ho902 => ?_))
    replace hBa := ho902.below hBa ge_hBa_g8
    refine zae (zah (zaa (zad (zac) (zae ?_))))
    refine ⟨rfl, hBa, fun W2 hs => ?_⟩
    have hr8 := hr8.soft hs
    have hsp := (hsp.new hBa).soft hs
    have hsz2 := hs.size
    have hsz1 := hBa.size
    have hT2 : RdAt w BB x g g1 g2 cc si i de T W2 := RdAt.soft (w0 := w) ⟨hT.rx.new hBa, hT.r1.new hBa, let ⟨v, vs, q1, q2, q3⟩ := hT.ow; ⟨v, vs, q1.new hBa, q2.new hBa, q3.new hBa⟩, hT.kb.trans (Kp.zcF hBa)⟩ hs hbs
    obtain ⟨hx, hr1, ⟨v, vs, hr2, hu, hrl⟩, hkb⟩ := hT2
    obtain ⟨pu, cu, rfl⟩ := hu.form
    have hBi := Below.refl W2.heap.size W2
    have hof := fun w' (h : zaT w' sp r.b.length 1 (bv r.b)) => of13 r.b sp r.b.length r.b.length w' h (Nat.le_refl _) (by omega)
    cases hrb : ofR r.b with
    | none =>
      have hS2 : S = T := by rw [hST, zdL (by rw [zgJ, hrb]; split <;> rfl), List.append_nil]
      have hof2 := fun w' (h : zaT w' sp r.b.length 1 (bv r.b)) => (hof w' h).to fun v w2 h => (show v = .tuple #[.slice none 0 0, .int .i64 4] ∧ Below w'.heap.size w' w2 from ⟨h.1.elim (fun ⟨_, _, _, _, h1, _⟩ => by rw [hrb] at h1; cases h1) fun h => h.2, h.2⟩)
      refine zaE (zaf (zaa (zad (zab) ?_)))
      refine zao rfl (zaj (by kernel_rfl) rfl) (hof2 _ (hsp.new hBi)) ?_
      rintro _ w43 ⟨rfl, hb43⟩
      replace hx := hx.new hb43
      replace hr1 := hr1.new hb43
      replace hBi := hBi.acc hb43
      refine zad (zab) (zad (zai rfl rfl) (zad (zai rfl rfl) (zad (zac) (zad (zac) (zae (zah (zaf (zaf ?_))))))))
      refine za5 [] (by kernel_rfl) ?_
      intro w903 hb903 hS903
      replace hx := hx.new hb903
      replace hr1 := hr1.new hb903
      replace hBi := hBi.acc hb903
      refine zat 0 (zab) ?_
      refine zat 1 (zaM rfl rfl) ?_
      refine zat 2 (zab) ?_
      refine zlp 48 rfl ((by decide)) ?_
      refine zaF 3 (by kernel_rfl) rfl ?_
      refine zaF 4 (by kernel_rfl) rfl ?_
      refine zaF 5 (by kernel_rfl) rfl ?_
      refine zaF 6 (by kernel_rfl) rfl ?_
      refine zaF 7 (by kernel_rfl) rfl ?_
      refine zaF 8 (by kernel_rfl) rfl ?_
      refine zaF 9 (by kernel_rfl) rfl ?_
      refine zat 10 (zaA rfl) ?_
      refine zat 11 (zab) ?_
      refine zaF 12 (by kernel_rfl) rfl ?_
      refine zaF 13 (by kernel_rfl) rfl ?_
      refine zaF 14 (by kernel_rfl) rfl ?_
      refine zaF 15 (by kernel_rfl) rfl ?_
      refine zaF 16 (by kernel_rfl) rfl ?_
      refine zaF 17 (by kernel_rfl) rfl ?_
      refine zaF 18 (by kernel_rfl) rfl ?_
      refine zaF 19 (by kernel_rfl) rfl ?_
      refine zat 20 (zaA rfl) ?_
      refine zat 21 (zab) ?_
      refine zaF 22 (by kernel_rfl) rfl ?_
      refine zaF 23 (by kernel_rfl) rfl ?_
      refine zaF 24 (by kernel_rfl) rfl ?_
      refine zaF 25 (by kernel_rfl) rfl ?_
      refine zaF 26 (by kernel_rfl) rfl ?_
      refine zaF 27 (by kernel_rfl) rfl ?_
      refine zaF 28 (by kernel_rfl) rfl ?_
      refine zaF 29 (by kernel_rfl) rfl ?_
      refine zat 30 (zaA rfl) ?_
      refine zaL (by kernel_rfl) ?_
      refine zah ?_
      refine W_t rfl ?_
      refine zbm (zbW (zkA rfl ?_))
      exact ⟨zcc (M := []) (Kp.of_below hBi) (by simp), rfl, hS2 ▸ ⟨hx, hr1, ⟨_, vs, hr2.new hBi, hu.new hBi, hrl.new hBi⟩, hkb.trans (Kp.zcF hBi)⟩⟩
    | some rr =>
      have hof3 := fun w' (h : zaT w' sp r.b.length 1 (bv r.b)) => (hof w' h).to fun v w2 h => (show ∃ g o c, v = .tuple #[.slice (some ⟨g, o, none⟩) rr.length c, .int .i64 0] ∧ w'.heap.size ≤ g ∧ rr.length ≤ c ∧ zaT w2 (some ⟨g, o, none⟩) rr.length 513 (zb3 rr) ∧ Below w'.heap.size w' w2 from h.1.elim (fun ⟨r2, g, o, c, h1, h2, h3, h4, h5⟩ => by rw [hrb] at h1; cases h1; exact ⟨g, o, c, h2, h3, h4, h5, h.2⟩) fun h => by rw [hrb] at h; cases h.1)
      have hrr := ofR_may hrb
      have hnw := zi4 hrr
      have hN : zb2 (516 * rr.length) ≤ 1000 := by unfold zb2 zcM; omega
      refine zaE (zaf (zaa (zad (zab) ?_)))
      refine zao rfl (zaj (by kernel_rfl) rfl) (hof3 _ (hsp.new hBi)) ?_
      rintro _ w43 ⟨gq, oq, cq, rfl, hgq, hcq, hsq, hb43⟩
      replace hr8 := hr8.new hb43
      replace hx := hx.new hb43
      replace hr1 := hr1.new hb43
      replace hBi := hBi.acc hb43
      refine zad (zab) (zad (zai rfl rfl) (zad (zai rfl rfl) (zad (zac) (zad (zac) (zae (zah (zaf (zaf ?_))))))))
      refine za5 [] (by kernel_rfl) ?_
      intro w904 hb904 hS904
      replace hr8 := hr8.new hb904
      replace hx := hx.new hb904
      replace hr1 := hr1.new hb904
      replace hsq := hsq.new hb904
      replace hBi := hBi.acc hb904
      have hr8_d904 := hr8
      have hx_d904 := hx
      have hr1_d904 := hr1
      refine zat 0 (zab) ?_
      refine zat 1 (zaM rfl rfl) ?_
      refine zat 2 (zab) ?_
      refine zjO 48 rfl ((by simp)) ?_
      refine zat 3 (zav 1) ?_
      refine zbp 4 (fun w' hS' => zax (hr8_d904.kq hS')) ?_
      refine zbp 5 (fun w' hS' => zax (hr1_d904.kq hS')) ?_
      refine zat 6 (zak rfl) ?_
      refine zat 7 (zav 4) ?_
      refine zbp 8 (fun w' hS' => zax (hx_d904.kq hS')) ?_
      refine zat 9 (zaM rfl rfl) ?_
      refine zat 10 (zaw rfl) ?_
      refine zat 11 (zab) ?_
      refine zea 57 rfl (fun hnn => ?_) (fun hnn => ?_)
      ·
       refine zaF 12 (by kernel_rfl) rfl ?_
       refine zaF 13 (by kernel_rfl) rfl ?_
       refine zaF 14 (by kernel_rfl) rfl ?_
       refine zaF 15 (by kernel_rfl) rfl ?_
       refine zaF 16 (by kernel_rfl) rfl ?_
       refine zaF 17 (by kernel_rfl) rfl ?_
       refine zaF 18 (by kernel_rfl) rfl ?_
       refine zaF 19 (by kernel_rfl) rfl ?_
       refine zat 20 (zaA rfl) ?_
       refine zat 21 (zab) ?_
       refine zaF 22 (by kernel_rfl) rfl ?_
       refine zaF 23 (by kernel_rfl) rfl ?_
       refine zaF 24 (by kernel_rfl) rfl ?_
       refine zaF 25 (by kernel_rfl) rfl ?_
       refine zaF 26 (by kernel_rfl) rfl ?_
       refine zaF 27 (by kernel_rfl) rfl ?_
       refine zaF 28 (by kernel_rfl) rfl ?_
       refine zaF 29 (by kernel_rfl) rfl ?_
       refine zat 30 (zaA rfl) ?_
       refine zaL (by kernel_rfl) ?_
       refine zah ?_
       refine W_t rfl ?_
       refine zbm (zbW (zkA rfl ?_))
       have hS2 : S = T := by rw [hST, zdL (by rw [zgJ, if_neg (by omega)]), List.append_nil]
       exact ⟨zcc (M := []) (Kp.of_below hBi) (by simp), rfl, hS2 ▸ ⟨hx, hr1, ⟨_, vs, hr2.new hBi, hu.new hBi, hrl.new hBi⟩, hkb.trans (Kp.zcF hBi)⟩⟩
      ·
       refine zat 12 (zav 0) ?_
       refine zbp 13 (fun w' hS' => zax (hr8_d904.kq hS')) ?_
       refine zbp 14 (fun w' hS' => zax (hr1_d904.kq hS')) ?_
       refine zat 15 (zak rfl) ?_
       refine zat 16 (zav 0) ?_
       refine zat 17 (zav 1) ?_
       refine zbp 18 (fun w' hS' => zax (hx_d904.kq hS')) ?_
       refine zat 19 (za2 rfl rfl) ?_
       refine zat 20 (zaw rfl) ?_
       refine zat 21 (zab) ?_
       refine zea 67 rfl (fun hsi => ?_) (fun hsi => ?_)
       ·
        refine zaF 22 (by kernel_rfl) rfl ?_
        refine zaF 23 (by kernel_rfl) rfl ?_
        refine zaF 24 (by kernel_rfl) rfl ?_
        refine zaF 25 (by kernel_rfl) rfl ?_
        refine zaF 26 (by kernel_rfl) rfl ?_
        refine zaF 27 (by kernel_rfl) rfl ?_
        refine zaF 28 (by kernel_rfl) rfl ?_
        refine zaF 29 (by kernel_rfl) rfl ?_
        refine zat 30 (zaA rfl) ?_
        refine zaL (by kernel_rfl) ?_
        refine zah ?_
        refine W_t rfl ?_
        refine zbm (zbW (zkA rfl ?_))
        have hS2 : S = T := by rw [hST, zdL (by rw [zgJ, if_neg (by omega)]), List.append_nil]
        exact ⟨zcc (M := []) (Kp.of_below hBi) (by simp), rfl, hS2 ▸ ⟨hx, hr1, ⟨_, vs, hr2.new hBi, hu.new hBi, hrl.new hBi⟩, hkb.trans (Kp.zcF hBi)⟩⟩
       ·
        refine zat 22 (zav 0) ?_
        refine zbp 23 (fun w' hS' => zax (hr8_d904.kq hS')) ?_
        refine zbp 24 (fun w' hS' => zax (hr1_d904.kq hS')) ?_
        refine zat 25 (zak rfl) ?_
        refine zat 26 (zav 0) ?_
        refine zat 27 (zav 0) ?_
        refine zbp 28 (fun w' hS' => zax (hx_d904.kq hS')) ?_
        refine zat 29 (zbu rfl rfl) ?_
        refine zat 30 (zaw rfl) ?_
        refine zaL (by kernel_rfl) ?_
        refine zah ?_
        refine zbf rfl (fun hcc => ?_) (fun hcc => ?_)
        ·
         refine zbm (zbW (zkA rfl ?_))
         have hS2 : S = T := by rw [hST, zdL (by rw [zgJ, if_neg (by omega)]), List.append_nil]
         exact ⟨zcc (M := []) (Kp.of_below hBi) (by simp), rfl, hS2 ▸ ⟨hx, hr1, ⟨_, vs, hr2.new hBi, hu.new hBi, hrl.new hBi⟩, hkb.trans (Kp.zcF hBi)⟩⟩
        ·
         have hok2 : zgJ si cc k r = some rr := by rw [zgJ, if_pos (by omega), hrb]
         rw [zhv hok2] at hST
         have hu2 := hu
         have hsi2 := hsi
         refine zau (zah (zaf (zaa ?_)))
         replace hr2 := hr2.new hBi
         replace hu := hu.new hBi
         replace hrl := hrl.new hBi
         have hBe := hBi
         have hKx : KpB (x :: g2 :: (Value.slice pu T.length cu).ownBlock.toList) W2 w904 := ⟨Kp.zcF hBi⟩
         have hwz := hBi.size
         refine zad (zax hr2) ?_
         refine zad (zab) ?_
         refine zay rfl (zdF (e := 114) (.slice (some ⟨gq, oq, none⟩) rr.length cq) ([.slice (some ⟨gq, oq, none⟩) rr.length cq]) ([Value.slice none 0 0]) 1 (by kernel_rfl) (by kernel_rfl) rfl rfl rfl ⟨by decide, by decide⟩ (fun g79 w79 hg79 hr79 hb79 => ?_))
         replace hx := hx.new hb79
         replace hr1 := hr1.new hb79
         replace hsq := hsq.new hb79
         replace hr2 := hr2.new hb79
         replace hu := hu.new hb79
         replace hrl := hrl.new hb79
         replace hKx := hKx.new hb79
         have hs79 := hr79.slA (m := 1) (sz := 1) rfl (by omega)
         have hgq2 := (hsq.some (by omega))
         obtain ⟨_, _, hqe, hgq3⟩ := hgq2
         cases hqe
         have hwz2 := hb79.size
         refine zay rfl (zbq (e := 114) (sz := 1) (bytes := 24) (z := Value.slice none 0 0) (by kernel_rfl) rfl (by kernel_rfl) rfl (by decide) rfl hu rfl hs79 (by simp [Value.oneCell']) (by unfold maxLen; omega) (by omega) (fun hm0 => by omega) (fun v80 w80 hv80 hgr80 hfr80 => ?_))
         replace hx := hx.own hu hgr80 (by omega)
         replace hr1 := hr1.own hu hgr80 (by omega)
         replace hr2 := hr2.own hu hgr80 (by omega)
         obtain ⟨p80, c80, rfl⟩ := hv80.form
         have hne : ∀ b, (Value.slice pu T.length cu).ownBlock = some b → BB ≤ b ∧ b < W2.heap.size := hu2.lt
         have hsq2 := hsq.kpd (Kp.za8 hgr80) (fun b o e hm => by cases e; have := (hne _ (Option.mem_toList.1 hm)).2; omega)
         have hrl2 := (hrl.grow hgr80 hfr80).snoc hsq2 (Nat.lt_of_lt_of_le hgq3 hgr80.size) (fun e => (hfr80 gq e.symm).elim (fun e' => by have := (hne _ e').2; omega) (fun e' => by omega)) hcq (by omega)
         replace hKx := hKx.kpd (Kp.za8 hgr80) (fun b hb => .inl (List.mem_cons_of_mem _ (List.mem_cons_of_mem _ hb)))
         refine zaG rfl (zbg hr2 (fun w905 hr2 ho905 => ?_))
         replace hx := hx.only ho905 (Nat.ne_of_lt lt_x_g2)
         replace hr1 := hr1.only ho905 (Nat.ne_of_lt lt_g1_g2)
         replace hv80 := hv80.only ho905 (by omega)
         replace hKx := hKx.only ho905 (by first | (simp; done) | (right; omega))
         replace hrl2 := hrl2.only ho905 (by omega)
         refine zae (zah (zaf (zaa ?_)))
         refine zad (zax hr1) ?_
         refine zad (zak rfl) (zad (zav 4) ?_)
         refine zad (zax hx) ?_
         refine zad (zaN rfl rfl (Coup.w64 (by omega))) ?_
         refine zad (zak rfl) (zad (zav 4) ?_)
         refine zaG rfl (zbg hx (fun w906 hx ho906 => ?_))
         replace hr1 := hr1.only ho906 (Nat.ne_of_gt lt_x_g1)
         replace hr2 := hr2.only ho906 (Nat.ne_of_gt lt_x_g2)
         replace hv80 := hv80.only ho906 (by omega)
         replace hKx := hKx.only ho906 (by first | (simp; done) | (right; omega))
         replace hrl2 := hrl2.only ho906 (by omega)
         refine zae (zah ?_)
         have hx2 : row w906 x [.int .u64 (cc : Int), .int .u64 (si : Int), .pointer (some ⟨g, 0, none⟩), .int .i64 (i : Int), .int .i64 (((T.length : Nat) : Int) + 1), .int .i64 ((atS T : Nat) : Int), .bool de] 197 := hx
         replace hx := hx2
         clear hx2
         refine za5 [x] (by kernel_rfl) ?_
         intro w907 hb907 hS907
         replace hx := hx.new hb907
         replace hr1 := hr1.new hb907
         replace hr2 := hr2.new hb907
         replace hv80 := hv80.new hb907
         replace hKx := hKx.new hb907
         replace hrl2 := hrl2.new hb907
         have hr1_d907 := hr1
         refine zbp 0 (fun w' hS' => zax (hr1_d907.kq hS')) ?_
         refine zat 1 (zak rfl) ?_
         refine zat 2 (zav 5) ?_
         refine zat 4 (zab) ?_
         refine zat 5 (zaJ (e := 147) (sz := 513) (by kernel_rfl) rfl rfl) ?_
         refine zdA 6 (by kernel_rfl) rfl (fun _ => zaj (by kernel_rfl) rfl) (fun w' hS' => need10 rr.length w') ?_
         refine zaH 3 (by kernel_rfl) ?_
         refine zfS rfl rfl (zax hx) hS907 ?_
         refine zat 7 (zaN rfl rfl (Coup.w64 (by rw [hnw.1]; omega))) ?_
         refine zat 8 (zak rfl) ?_
         refine zat 9 (zav 5) ?_
         refine zaH 10 (by kernel_rfl) ?_
         refine zbO rfl rfl (zbg hx (fun w910 hx ho910 => ?_))
         have hS909 := hS907.aq ho910
         refine ⟨hS909, ?_⟩
         replace hr1 := hr1.only ho910 (Nat.ne_of_gt lt_x_g1)
         replace hr2 := hr2.only ho910 (Nat.ne_of_gt lt_x_g2)
         replace hv80 := hv80.only ho910 (by omega)
         replace hKx := hKx.only ho910 (by first | (simp; done) | (right; omega))
         replace hrl2 := hrl2.only ho910 (by omega)
         refine zaL (by kernel_rfl) ?_
         refine za6 ?_
         have e1 : (((T ++ [rr]).length : Nat) : Int) = ((T.length : Nat) : Int) + 1 := by rw [List.length_append]; rfl
         have e2 : ((atS (T ++ [rr]) : Nat) : Int) = ((atS T : Nat) : Int) + zdC rr.length := by rw [zkZ, hnw.1]; rfl
         refine ⟨zcc hKx.k fun b hb => ?_, fun b hb => ?_, by omega, T ++ [rr], by rw [List.length_append, List.length_singleton]; omega, by rw [zkZ]; omega, by rw [List.append_assoc]; exact hST, by rw [e1, e2]; exact hx, hr1, ⟨_, _, hr2, by rw [List.length_append]; exact hv80, hrl2⟩, ?_⟩
         ·rcases List.mem_cons.1 hb with rfl | hb
          ·left; omega
          ·rcases List.mem_cons.1 hb with rfl | hb
           ·left; omega
           ·right; exact znc hu2 (Option.mem_toList.1 hb)
         ·have hbl : b < BB ∧ b ≠ x ∧ b ≠ g2 := by
           simp only [List.mem_cons, List.not_mem_nil, or_false] at hb
           rcases hb with rfl | rfl <;> omega
          refine hKx.k.block b (by omega) fun hm => ?_
          rcases List.mem_cons.1 hm with e | hm
          ·exact hbl.2.1 e
          ·rcases List.mem_cons.1 hm with e | hm
           ·exact hbl.2.2 e
           ·have := (hne _ (Option.mem_toList.1 hm)).1; omega
         ·refine ((⟨hkb⟩ : KpB [x] w W2).kpd hKx.k fun b hm => ?_).k
          rcases List.mem_cons.1 hm with e | hm
          ·left; simp [e]
          ·rcases List.mem_cons.1 hm with e | hm
           ·right; omega
           ·have := (hne _ (Option.mem_toList.1 hm)).1; right; omega
  · intro Dd W hD hI hdef
    obtain ⟨hk, T, hTk, hat, hST, hT⟩ := hI
    rw [List.drop_length, zd1, List.append_nil] at hST
    subst hST
    obtain ⟨hx, hr1, ⟨v, vs, hr2, hu, hrl⟩, hkb⟩ := hT
    obtain ⟨pu, cu, rfl⟩ := hu.form
    refine za6 (zah (zaf (zaa ?_)))
    refine zad (zax hr2) ?_
    refine zaG rfl (zbg hr2 (fun w911 hr2 ho911 => ?_))
    have hdef2 : (w911).heap[Dd]? = some (.deferred (some [])) := ((Kp.za7 ho911).block Dd (Array.getElem?_eq_some_iff.1 hdef).1 (by simp; omega)).trans hdef
    replace hdef := hdef2
    clear hdef2
    have hput := zds.put (B := w.heap.size) (.deferred none) hdef (by omega) rfl
    have hr2n : row w911 g2 [.slice pu S.length cu] 143 := hr2
    have hr2p := hr2n.soft hput
    have hx2 := (hx.only ho911 (by omega)).soft hput
    have hu2 := (hu.only ho911 (by omega)).soft hput
    have hrl2 := (hrl.only ho911 (by omega)).soft hput
    have hk2 := ((⟨hkb⟩ : KpB [x] w W).only ho911 (by right; omega)).k.soft hput (Nat.le_refl _)
    refine zad (zac) (zae (zah (zaz ?_)))
    refine zhP [_, _] Dd hdef ⟨⟨_, rfl, Ld.zdY hr2p (by kernel_rfl) rfl⟩, rfl, trivial⟩ ?_
    exact ⟨pu, cu, rfl, znd hu2, ⟨znb h.two hk2 (fun b hb => .inr (by simp at hb; simp [hb])) (all_of hu2 hrl2 (by omega)) (fun b hb => (List.mem_range'_1.1 hb).1), hx2, hge, hni⟩, LoL.ziT hk2 (fun b hb => .inl (by simp at hb; subst hb; exact ⟨hge, hni⟩))⟩
  · intro Dd c W' hD hI hdef
    obtain ⟨rfl, hT⟩ := hI
    obtain ⟨hx, hr1, ⟨v, vs, hr2, hu, hrl⟩, hkb⟩ := hT
    obtain ⟨pu, cu, rfl⟩ := hu.form
    refine ⟨by kernel_rfl, zbm ?_⟩
    refine zbt (zah (zaf (zaa ?_)))
    refine zad (zax hr2) ?_
    refine zaG rfl (zbg hr2 (fun w912 hr2 ho912 => ?_))
    have hdef2 : (w912).heap[Dd]? = some (.deferred (some [])) := ((Kp.za7 ho912).block Dd (Array.getElem?_eq_some_iff.1 hdef).1 (by simp; omega)).trans hdef
    replace hdef := hdef2
    clear hdef2
    have hput := zds.put (B := w.heap.size) (.deferred none) hdef (by omega) rfl
    have hr2n : row w912 g2 [.slice pu S.length cu] 143 := hr2
    have hr2p := hr2n.soft hput
    have hx2 := (hx.only ho912 (by omega)).soft hput
    have hu2 := (hu.only ho912 (by omega)).soft hput
    have hrl2 := (hrl.only ho912 (by omega)).soft hput
    have hk2 := ((⟨hkb⟩ : KpB [x] w W').only ho912 (by right; omega)).k.soft hput (Nat.le_refl _)
    refine zad (zac) (zae (zah (zaz ?_)))
    refine zhP [_, _] Dd hdef ⟨⟨_, rfl, Ld.zdY hr2p (by kernel_rfl) rfl⟩, rfl, trivial⟩ ?_
    exact ⟨pu, cu, rfl, znd hu2, ⟨znb h.two hk2 (fun b hb => .inr (by simp at hb; simp [hb])) (all_of hu2 hrl2 (by omega)) (fun b hb => (List.mem_range'_1.1 hb).1), hx2, hge, hni⟩, LoL.ziT hk2 (fun b hb => .inl (by simp at hb; subst hb; exact ⟨hge, hni⟩))⟩
end
theorem zgK {P : Program} {ρ : Env} {w : World} {d : Option Nat} {ty : TypeId} {pos : String} {af : Array Edge} {gd : Option (Nat × Bool)} {t i j k : Nat} {x y z : Operand} (v u s : Value) (cs : List Value) (hx : ev ρ x = v) (hy : ev ρ y = u) (hz : ev ρ z = s) (hb : P.built t [(i, v), (j, u), (k, s)] = some cs.toArray) :
  (execOp (ev ρ) ⟨d, .build t #[(i, x), (j, y), (k, z)], ty, pos, af, gd⟩).run P w = .ok (.value (.agg cs.toArray)) w := by
 have := run_build (P := P) w t #[(i, v), (j, u), (k, s)] cs.toArray (by simpa using hb)
 simp only [execOp, List.map_toArray, List.map_cons, List.map_nil, hx, hy, hz, Sem.run_bind, this, Result.andThen_ok]
 rfl
theorem zib {X Y Z : World → List Nat → Prop} {lo : Nat} {L : List Nat} {w : World} (h : Two X (zkd Y Z) lo L w) : Two X Y lo L w := by
 obtain ⟨⟨B, _, h1, ⟨C1, C2, rfl, h2, _⟩, h3, h4⟩, h5, h6⟩ := h
 exact ⟨⟨B, C1, h1, h2, fun b hb => ⟨(h3 b hb).1, fun hm => (h3 b hb).2.1 (List.mem_append_left _ hm), (h3 b hb).2.2⟩, fun b hb => h4 b (List.mem_append_left _ hb)⟩, h5, h6⟩
def zfr (D : Dk) (n : Int) : Int := if zfp D.V.length n then (if zkW (zaV D 0) then (if hdC (zaV D 0) = 4611686018427387904 then 8 else 0) else 6) else 2
def zd2 (D : Dk) (n : Int) : Lg := ⟨hdC (zaV D 0), hdS (zaV D 0), n.toNat, 0, 0, false⟩
section
variable {Y : World → List Nat → Prop} [Thing Y] {g lo : Nat} {L : List Nat} {D : Dk} {w : World}
def noLog (e : Int) : Value := .tuple #[.pointer none, .slice none 0 0, .int .i64 e]
set_option maxRecDepth 20000 in
set_option maxHeartbeats 1000000 in
theorem openYes (h : Two (DZ g D) Y lo L w) (n : Nat) (he : zfr D n = 0) (hsh : zbE D 90000) :
    Calls Tryz.prog 89 [.pointer (some ⟨g, 0, none⟩), .int .i64 (n : Int)].toArray w (Ret fun v w' => ∃ ok D2 C s S, zdK D (C + 1) s = ok ∧ zct D (C + 1) s = D2 ∧ hdC (zaV D 0) = C ∧ hdS (zaV D 0) = s ∧ zcA D (zd2 D n) = S ∧ LoL lo L w w' ∧
      ((ok = false ∧ v = noLog 10 ∧ Two (DZ g D2) Y lo L w') ∨ (ok = true ∧ ∃ x p c, v = .tuple #[.pointer (some ⟨x, 0, none⟩), .slice p S.length c, .int .i64 0] ∧ S.length ≤ c ∧
        zd5 g x (zkd Y (zkc p S)) lo L D2 ⟨C + 1, s, n, S.length, atS S, false⟩ w'))) := by
  have hfit : zfp D.V.length n = true := Decidable.byContradiction fun hc => by
    unfold zfr at he; rw [if_neg hc] at he; cases he
  have his : zkW (zaV D 0) = true := Decidable.byContradiction fun hc => by
    unfold zfr at he; rw [if_pos hfit, if_neg hc] at he; cases he
  have hCn : hdC (zaV D 0) ≠ 4611686018427387904 := fun hc => by
    unfold zfr at he; rw [if_pos hfit, if_pos his] at he; rw [if_pos hc] at he; cases he
  have hft := of_decide_eq_true hfit
  have hi2 := his
  rw [zkW, Bool.and_eq_true, Bool.and_eq_true, Bool.and_eq_true] at hi2
  have hs1 := of_decide_eq_true hi2.1.1.2
  have hsc := of_decide_eq_true hi2.1.2
  have hcm := of_decide_eq_true hi2.2
  have hB := Below.refl w.heap.size w
  have hM := may49 h n ⟨by omega, by omega⟩
  rw [hfit] at hM
  have hpos := (tOk h).2
  have hin : inD D 0 = true := decide_eq_true ⟨by omega, by omega⟩
  have hrd := fun w' (hb : Below w.heap.size w w') => tRead (h.new hb) 0
  rw [hin, if_pos rfl, if_pos rfl] at hrd
  have hsl := zfq (tOk h).1 hpos
  have hz : (0 : Int).toNat = 0 := rfl
  rw [hz] at hrd
  have hhd := fun w' => zox (zaV D 0) w' hsl
  rw [his] at hhd
  have hHG : zd2 D n = ⟨hdC (zaV D 0), hdS (zaV D 0), n, 0, 0, false⟩ := by rw [zd2, Int.toNat_natCast]
  obtain ⟨C, hC⟩ : ∃ C, hdC (zaV D 0) = C := ⟨_, rfl⟩
  obtain ⟨s, hS⟩ : ∃ s, hdS (zaV D 0) = s := ⟨_, rfl⟩
  rw [hC, hS] at hHG hhd
  rw [hC] at hCn hsc hcm
  rw [hS] at hsc hs1
  obtain ⟨S, hR⟩ : ∃ S, zcA D (zd2 D n) = S := ⟨_, rfl⟩
  have hrec := fun (x : Nat) (w' : World) (h : zd5 g x Y lo L D ⟨C, s, n, 0, 0, false⟩ w') => read52 h ⟨hs1, hsc, hcm, by show 4 ≤ n; omega, by show n ≤ 4000; omega, Nat.zero_le _, Nat.le_refl _, by show 1 + n ≤ _; omega⟩ rfl rfl
  rw [← hHG, hR, hHG] at hrec
  dsimp only at hrec
  obtain ⟨ok, hok⟩ : ∃ ok, zdK D (C + 1) s = ok := ⟨_, rfl⟩
  obtain ⟨D2, hD2⟩ : ∃ D2, zct D (C + 1) s = D2 := ⟨_, rfl⟩
  have hnx := fun (x : Nat) (p : Option Addr) (w' : World) (h : zd5 g x (zkd Y (zkc p S)) lo L D ⟨C, s, n, S.length, atS S, false⟩ w') => next48 h s (by show C + 1 < _; omega) (by omega) hsh
  dsimp only at hnx
  rw [hok, hD2] at hnx
  generalize zaV D 0 = sc at *
  have hlo := h.lo
  have hlt := h.lt
  have hLL := LoL.refl lo L w
  have hD := h
  refine Calls.to (R := fun v w' => LoL lo L w w' ∧ ((ok = false ∧ v = noLog 10 ∧ Two (DZ g D2) Y lo L w') ∨ (ok = true ∧ ∃ x p c, v = .tuple #[.pointer (some ⟨x, 0, none⟩), .slice p S.length c, .int .i64 0] ∧ S.length ≤ c ∧
        zd5 g x (zkd Y (zkc p S)) lo L D2 ⟨C + 1, s, n, S.length, atS S, false⟩ w'))) ?_ (fun v w' hh => ⟨ok, D2, C, s, S, hok, hD2, hC, hS, hR, hh.1, hh.2⟩)
  clear he
  refine zas (fn := Tryz.f89) (rs := [.tmp 4, .tmp 5, .tmp 6]) (n := 64) Tryz.func89 rfl rfl Tryz.ntmps89 (by kernel_rfl) rfl ?_
  refine zaf (zaa (zad (zac) (zad (zac) (zad (zac) (zae (zah (zaf (zaf (zaa (zad (zab) (zad (zab) ?_)))))))))))
  refine zao rfl (zaj (by kernel_rfl) rfl) (hM) ?_
  rintro _ _ ⟨rfl, rfl⟩
  refine zad (zac) (zae (zah (zaf (zaa (zad (zab) ?_)))))
  refine zad (zaM rfl rfl) ?_
  refine zae (zah ?_)
  refine zcL rfl ((by simp)) ?_
  refine zau (zah (zaf (zaa (zad (zab) ?_))))
  refine zao rfl (zaj (by kernel_rfl) rfl) (hrd _ hB) ?_
  rintro _ w22 ⟨rfl, hb22⟩
  replace hLL := hLL.new hb22
  replace hB := hB.acc hb22
  refine zad (zab) (zad (zai rfl rfl) (zad (zai rfl rfl) ?_))
  refine zay rfl (zar (List.replicate 128 (Value.int .u8 0)) (by kernel_rfl) (fun g8 w8 hg8 hr8 hb8 => ?_))
  have ge_hB_g8 := Nat.le_trans hB.size hg8
  have sz_g8 := hLL.size
  replace hLL := hLL.new hb8
  replace hB := hB.acc hb8
  refine zaG rfl (zaO 128 (bv sc) hr8 (fun w901 hr8 ho901 => ?_))
  replace hLL := hLL.oq ho901
  replace hB := ho901.below hB ge_hB_g8
  refine zad (zac) (zae (zah (zaf (zaf (zaa (zad (zab) ?_))))))
  refine zad (zaM rfl rfl) ?_
  refine zae (zah ?_)
  refine zcL rfl ((by simp)) ?_
  refine zau (zah (zaf (zaa ?_)))
  refine zad (zaI rfl (Ld.zbX (k := 128) hr8 (by kernel_rfl) (by kernel_rfl) (by rw [zal, hsl]))) ?_
  refine zao rfl (zaj (by kernel_rfl) rfl) (hhd w901) ?_
  rintro _ w30 ⟨rfl, hb30⟩
  replace hLL := hLL.new hb30
  replace hr8 := hr8.new hb30
  replace hB := hB.acc hb30
  refine zad (zab) (zad (zai rfl rfl) (zad (zai rfl rfl) ?_))
  refine zay rfl (zar ([Value.int .u64 0, Value.int .u64 0]) (by kernel_rfl) (fun g10 w10 hg10 hr10 hb10 => ?_))
  have ge_hB_g10 := Nat.le_trans hB.size hg10
  have lt_g8_g10 : g8 < g10 := Nat.lt_of_lt_of_le hr8.lt hg10
  replace hLL := hLL.new hb10
  replace hr8 := hr8.new hb10
  replace hB := hB.acc hb10
  refine zaG rfl (zaO 2 ([.int .u64 (C : Int), .int .u64 (s : Int)]) hr10 (fun w902 hr10 ho902 => ?_))
  replace hLL := hLL.oq ho902
  replace hr8 := hr8.only ho902 (Nat.ne_of_lt lt_g8_g10)
  replace hB := ho902.below hB ge_hB_g10
  refine zad (zac) (zae (zah (zaf (zaE (zaf (zaa (zad (zab) ?_)))))))
  refine zad (zbS rfl) ?_
  refine zad (zac) (zae (zah ?_))
  refine ziw rfl (rfl) ?_
  refine zaf (zaa (zad (zav 0) ?_))
  refine zad (zax hr10) ?_
  refine zad (za9 rfl rfl) ?_
  refine zad (zac) (zae (zah ?_))
  refine zcL rfl ((by omega)) ?_
  refine zau (za6 (zah (zaf (zaa ?_))))
  refine zad (zbc 2 hr10) ?_
  refine zad (zab) (zad (zab) ?_)
  refine zad (zgK (.agg #[.int .u64 (C : Int), .int .u64 (s : Int)]) (.pointer (some ⟨g, 0, none⟩)) (.int .i64 (n : Int)) [.int .u64 (C : Int), .int .u64 (s : Int), .pointer (some ⟨g, 0, none⟩), .int .i64 (n : Int), .int .i64 0, .int .i64 0, .bool false] rfl rfl rfl (by kernel_rfl)) ?_
  have hDw := h.new hB
  refine zay rfl (zaU ([.int .u64 (C : Int), .int .u64 (s : Int), .pointer (some ⟨g, 0, none⟩), .int .i64 (n : Int), .int .i64 0, .int .i64 0, .bool false]) rfl (fun g44 w44 hg44 hr44 hb44 => ?_))
  have ge_hB_g44 := Nat.le_trans hB.size hg44
  have lt_g8_g44 : g8 < g44 := Nat.lt_of_lt_of_le hr8.lt hg44
  have lt_g10_g44 : g10 < g44 := Nat.lt_of_lt_of_le hr10.lt hg44
  replace hLL := hLL.new hb44
  replace hB := hB.acc hb44
  have hbz := hB.size
  have hG : zd5 g g44 Y lo L D ⟨C, s, n, 0, 0, false⟩ w44 := ⟨hDw.newc hb44 hg44 hr44.lt, hr44, by omega, fun hm => by have := hDw.lt _ hm; omega⟩
  refine zad (zac) (zae (zah (zaf (zaa (zad (zab) ?_)))))
  refine zao rfl (zaj (by kernel_rfl) rfl) (hrec _ w44 hG) ?_
  rintro _ w47 ⟨p, cp, rfl, hcp, hG, hb47⟩
  replace hLL := hLL.lq hb47
  refine zad (zab) (zad (zai rfl rfl) (zad (zai rfl rfl) (zad (zac) (zad (zac) (zae (zah (zaf (zaf (zaa (zad (zab) ?_))))))))))
  refine zad (za9 rfl rfl) ?_
  refine zae (zah ?_)
  refine ze6 rfl (rfl) ?_
  refine zaa (zad (zab) (zad (zab) (zad (zak rfl) (zad (zav 0) (zad (zav 1) ?_)))))
  refine zad (zaI rfl (Ld.zdY hG.rowx (by kernel_rfl) rfl)) ?_
  refine zao rfl (zaj (by kernel_rfl) rfl) (hnx _ _ w47 hG) ?_
  rintro _ w58 ⟨rfl, hG, hb58⟩
  replace hLL := hLL.lq hb58
  refine zad (zac) (zae (zah (zaf (zaf (zaa (zad (zab) ?_))))))
  refine zad (zaM rfl rfl) ?_
  refine zae (zah ?_)
  refine zbf rfl (fun hne => ?_) (fun hne => ?_)
  ·
   refine zaf (zaa (zad (zab) (zad (zac) (zad (zac) (zad (zac) (zae (zah (zaz (zaP ?_)))))))))
   refine zam [_, _, _] ⟨rfl, rfl, rfl, trivial⟩ ?_
   have hf : ok = false := by cases ok with | false => rfl | true => simp at hne
   subst hf
   exact ⟨hLL, .inl ⟨rfl, rfl, zib hG.fst⟩⟩
  ·
   have hf : ok = true := by cases ok with | true => rfl | false => simp at hne
   subst hf
   refine zau (zah (zaf (zaa (zad (zab) (zad (zab) (zad (zac) (zad (zac) (zad (zac) (zae (zah (zaz ?_)))))))))))
   refine zam [_, _, _] ⟨rfl, rfl, rfl, trivial⟩ ?_
   exact ⟨hLL, .inr ⟨rfl, _, p, cp, rfl, hcp, hG⟩⟩
end
def zfZ (n : Nat) (s : Int) : Nat := if s < 4 ∨ 4000 < s then 0 else (n - 1 - s.toNat) / 4
section
variable {Y : World → List Nat → Prop} {g lo : Nat} {L : List Nat} {D : Dk} {w : World}
set_option maxRecDepth 20000 in
theorem countP (h : Two (DZ g D) Y lo L w) (s : Int) (hs : wf64 s) : Calls Tryz.prog 86 [.pointer (some ⟨g, 0, none⟩), .int .i64 s].toArray w (Ret fun v w' => v = .int .i64 ((zfZ D.V.length s : Nat) : Int) ∧ w = w') := by
 have hS := zh2 h
 have hn8 := (tOk h).1.n
 have h1 := hs.1
 have h2 := hs.2
 refine zas (fn := Tryz.f86) (rs := [.tmp 4]) (n := 18) Tryz.func86 rfl rfl Tryz.ntmps86 (by kernel_rfl) rfl ?_
 refine zaf (zaa (zad (zac) (zae (zah (zaf (zaf (zaa (zad (zab) ?_))))))))
 refine zad (za2 rfl rfl) ?_
 refine zad (zab) ?_
 refine zb8 7 rfl (fun h3 => ?_) (fun h3 => ?_)
 ·
  refine zaK rfl rfl (zaK rfl rfl (zad (zaA rfl) (zae (zah ?_))))
  refine zin rfl (rfl) ?_
  refine zaf (zaa (zad (zac) (zae (zah (zaz (zaP ?_))))))
  refine zam [_] ⟨rfl, trivial⟩ ?_
  exact ⟨by rw [zfZ, if_pos (.inl h3)]; rfl, rfl⟩
 ·
  refine zan rfl (zad (zab) (zan rfl ?_))
  refine zad (zbu rfl rfl) ?_
  refine zad (zaw rfl) (zae (zah ?_))
  refine zbf rfl (fun h4 => ?_) (fun h4 => ?_)
  ·
   refine zaf (zaa (zad (zac) (zae (zah (zaz (zaP ?_))))))
   refine zam [_] ⟨rfl, trivial⟩ ?_
   exact ⟨by rw [zfZ, if_pos (.inr h4)]; rfl, rfl⟩
  ·
   have hobt : ∃ m : Nat, s = m := ⟨s.toNat, by omega⟩
   obtain ⟨m, rfl⟩ := hobt
   refine zau (zah (zaf (zaa (zad (zab) ?_))))
   refine zao rfl (zaj (by kernel_rfl) rfl) (hS) ?_
   rintro _ _ ⟨rfl, rfl⟩
   refine zad (zc0 rfl rfl (Coup.w64 (by omega))) ?_
   refine zad (zab) ?_
   refine zad (zc0 rfl rfl (Coup.w64 (by omega))) ?_
   refine zad (zjR rfl rfl) ?_
   refine zad (zgk rfl rfl (by omega) (by omega)) ?_
   refine zad (zac) (zae (zah (zaz ?_)))
   refine zam [_] ⟨rfl, trivial⟩ ?_
   refine ⟨?_, rfl⟩
   show Value.int .i64 (max ((D.V.length : Int) - 1 - m) 0 / 4) = _
   rw [zfZ, if_neg (by omega), Int.toNat_natCast]
   congr 1
   omega
set_option maxRecDepth 20000 in
theorem mayP (h : Two (DZ g D) Y lo L w) (s : Int) (hs : wf64 s) : Calls Tryz.prog 85 [.pointer (some ⟨g, 0, none⟩), .int .i64 s].toArray w (Ret fun v w' => v = .int .i64 (if zfZ D.V.length s < 4 then 2 else 0) ∧ w = w') := by
 have hS := zh2 h
 have hp := (tOk h).2
 have hC := countP h s hs
 refine zas (fn := Tryz.f85) (rs := [.tmp 4]) (n := 14) Tryz.func85 rfl rfl Tryz.ntmps85 (by kernel_rfl) rfl ?_
 refine zaf (zaa (zad (zac) (zae (zah (zaf (zaE (zaf (zaa (zad (zab) ?_)))))))))
 refine zao rfl (zaj (by kernel_rfl) rfl) (hS) ?_
 rintro _ _ ⟨rfl, rfl⟩
 refine zad (za9 rfl rfl) ?_
 refine zad (zac) (zae (zah ?_))
 refine zcL rfl ((by omega)) ?_
 refine zaf (zaa (zad (zab) (zad (zab) ?_)))
 refine zao rfl (zaj (by kernel_rfl) rfl) (hC) ?_
 rintro _ _ ⟨rfl, rfl⟩
 refine zad (za2 rfl rfl) ?_
 refine zad (zac) (zae (zah ?_))
 refine zbf rfl (fun h3 => ?_) (fun h3 => ?_)
 ·
  refine zaf (zaa (zad (zac) (zae (zah (zaz (zbd (zaP ?_)))))))
  refine zam [_] ⟨rfl, trivial⟩ ?_
  exact ⟨by rw [if_pos (by omega)]; rfl, rfl⟩
 ·
  refine zau (za6 (zah (zaf (zaa (zad (zac) (zae (zah (zaz ?_))))))))
  refine zam [_] ⟨rfl, trivial⟩ ?_
  exact ⟨by rw [if_neg (by omega)]; rfl, rfl⟩
end
set_option maxRecDepth 20000 in
theorem placeP (s n : Nat) (w : World) (hs : s ≤ 4000) (hn : n ≤ 8192) : Calls Tryz.prog 116 [.int .i64 (s : Int), .int .i64 (n : Int)].toArray w (Ret fun v w' => v = .int .i64 ((1 + s + n * 4 : Nat) : Int) ∧ w = w') := by
 refine zas (fn := Tryz.f116) (rs := [.tmp 4]) (n := 10) Tryz.func116 rfl rfl Tryz.ntmps116 (by kernel_rfl) rfl ?_
 refine zaf (zaa (zad (zac) (zae (zah (zaf (zaa (zad (zab) ?_)))))))
 refine zad (zaN rfl rfl (Coup.w64 (by omega))) ?_
 refine zad (zab) ?_
 refine zad (zc1 rfl rfl (Coup.w64 (by omega))) ?_
 refine zad (zaN rfl rfl (Coup.w64 (by omega))) ?_
 refine zad (zac) (zae (zah (zaz ?_)))
 refine zam [_] ⟨rfl, trivial⟩ ?_
 exact ⟨by show Value.int .i64 (1 + (s : Int) + n * 4) = _; congr 1, rfl⟩
theorem zke (b : List UInt8) {m n : Nat} (h : m ≤ n) : (za4 b n).take m = za4 b m := by
 rw [za4, za4, ← List.map_take, List.take_range, Nat.min_eq_left h]
section
variable {Y : World → List Nat → Prop} [Thing Y] {g lo : Nat} {L : List Nat} {D : Dk} {w : World}
set_option maxRecDepth 20000 in
set_option maxHeartbeats 1000000 in
theorem writeP (h : Two (DZ g D) Y lo L w) (s n : Nat) (X : List UInt8) (hX : X.length = 512) (hs : s ≤ 4000) (hn : 1 + s + n * 4 + 4 ≤ D.V.length) (hsh : zbE D 80000) :
   Calls Tryz.prog 87 [.pointer (some ⟨g, 0, none⟩), .int .i64 (s : Int), .int .i64 (n : Int), .agg (bv X).toArray].toArray w (Ret fun v w' => v = .int .i64 (if (zaS D (1 + s + n * 4) (za4 X 4)).2 then 0 else 10) ∧ Two (DZ g (zaS D (1 + s + n * 4) (za4 X 4)).1) Y lo L w' ∧ LoL lo L w w') := by
 have hD := h
 have hLL := LoL.refl lo L w
 have hn8 := (tOk hD).1.n
 have hpl := fun w' => placeP s n w' hs (by omega)
 obtain ⟨a, ha⟩ : ∃ a, 1 + s + n * 4 = a := ⟨_, rfl⟩
 rw [ha] at hpl hn ⊢
 have hXb : (bv X).length = 512 := by rw [zal]; exact hX
 refine zas (fn := Tryz.f87) (rs := [.tmp 8]) (n := 33) Tryz.func87 rfl rfl Tryz.ntmps87 (by kernel_rfl) rfl ?_
 refine zaf (zaa ?_)
 refine zay rfl (zaU (bv X) rfl (fun g7 w7 hg7 hr7 hb7 => ?_))
 replace hD := hD.newc hb7 hg7 hr7.lt
 replace hLL := hLL.new hb7
 refine zad (zac) (zae (zah (zaf (zaf (zaa (zad (zab) (zae (zah (zaE ?_)))))))))
 refine zbB (α := Nat) 0 (fun i => [(11, .int .i64 (i : Nat)), (7, .pointer (some ⟨g7, 0, none⟩)), (0, .pointer (some ⟨g, 0, none⟩)), (1, .int .i64 (s : Int)), (2, .int .i64 (n : Int))])
   (fun i w' => i ≤ 4 ∧ (zaS D a (za4 X i)).2 = true ∧ row w' g7 (bv X) 62 ∧ Two (DZ g (zaS D a (za4 X i)).1) Y lo (g7 :: L) w' ∧ LoL lo L w w') (fun i => 4 - i)
   ⟨rfl, rfl, rfl, rfl, rfl, rfl⟩ ⟨Nat.zero_le _, rfl, hr7, hD, hLL⟩ ?_
 clear hD hLL hr7
 rintro i f wr ⟨hi, hok, hr7, hD, hLL⟩
 have hshi := zdU (za4 X i) D a 80000 hsh
 have hlni := zbP (za4 X i) D a
 rw [zck] at hshi
 refine zaf (zaa ?_)
 refine zad (za2 rfl rfl) ?_
 refine zae (zah (zaf ?_))
 refine zbf rfl (fun hlt => ?_) (fun hlt => ?_)
 ·
  refine zau (zah (zaf (zaE (zaf (zaa (zad (zab) (zad (zac) (zae (zah (zaf ?_))))))))))
  have hobS : ∃ S, (X.drop (128 * i)).take 128 = S := ⟨_, rfl⟩
  obtain ⟨S, hS⟩ := hobS
  have hSb : bv S = ((bv X).drop (0 + 128 * i)).take 128 := by rw [← hS, zc9, zcP, Nat.zero_add]
  have hSl : S.length = 128 := by rw [← hS, List.length_take, List.length_drop]; omega
  have hsx := zgG X i
  rw [hS] at hsx
  have hsn := zfY (za4 X i) D a S hok
  rw [← hsx, zck] at hsn
  refine zcY (lo) ((g7 :: L)) (by kernel_rfl) ?_
  intro w901 hb901 hn901 hS901
  replace hD := hD.new hb901
  replace hLL := hLL.new hb901
  replace hr7 := hr7.new hb901
  have hr7_d901 := hr7
  refine zat 0 (zab) ?_
  refine zat 1 (zab) ?_
  refine zat 2 (zab) ?_
  refine zdA 3 (by kernel_rfl) rfl (fun _ => zaj (by kernel_rfl) rfl) (fun w' hS' => hpl w') ?_
  refine zat 4 (zab) ?_
  refine zat 5 (zaN rfl rfl (Coup.w64 (by omega))) ?_
  refine zat 6 (zab) ?_
  refine zat 7 (zc1 rfl rfl (Coup.w64 (by omega))) ?_
  refine zat 8 (zab) ?_
  refine zat 9 (zaN rfl rfl (Coup.w64 (by omega))) ?_
  refine zat 10 (zc1 rfl rfl (Coup.w64 (by omega))) ?_
  refine zat 11 (zbe (e := 5) (n := 512) (128 * i) (128 * i + 128) (512) (128) (by kernel_rfl) rfl ⟨_, _, rfl, by omega⟩ ⟨_, _, rfl, by omega⟩ rfl (by simp) (by omega) (by omega) (by omega) (by omega) (by omega)) ?_
  refine zat 12 (zhk (n := 128) (e := 5) (sz := 1) (by kernel_rfl) rfl (by omega)) ?_
  refine zbp 13 (fun w' hS' => zaI rfl (Ld.rowN (k := 128) (off := 0 + 128 * i) (hr7_d901.kL hS') (by kernel_rfl) (by kernel_rfl) (by omega))) ?_
  refine zaH 14 (by kernel_rfl) ?_
  have hw := zmX hD ((a : Int) + (i : Int)) S hSl (zbY hshi (by omega))
  rw [hSb] at hw
  refine zbb rfl rfl (zaj (by kernel_rfl) rfl) (hw) ?_
  rintro _ w28 ⟨rfl, hD, hb28⟩
  have hS902 := hS901.zgA hn901 hb28.wk
  refine ⟨hS902, ?_⟩
  replace hLL := hLL.lq hb28
  replace hr7 := hr7.kl hb28
  refine zat 15 (zac) ?_
  refine zaL (by kernel_rfl) ?_
  refine zah (zaf (zaa ?_))
  have hin : inD (zaS D a (za4 X i)).1 ((a : Int) + (i : Int)) = true := decide_eq_true (by omega)
  rw [zhs, hin, if_pos rfl]
  rw [show (a : Int) + (i : Int) = ((a + i : Nat) : Int) by omega] at hD
  refine zad (zab) ?_
  refine zad (zaM rfl rfl) ?_
  refine zae (zah ?_)
  refine zbf rfl (fun hne => ?_) (fun hne => ?_)
  ·
   refine zaf (zaa (zad (zab) (zad (zac) (zae (zah (zaz (zbd (zaP (zeL (zbd (zaP ?_)))))))))))
   refine zam [_] ⟨rfl, trivial⟩ ?_
   have hf : za1 (zaS D a (za4 X i)).1 = false := by cases hq : za1 (zaS D a (za4 X i)).1 with | false => rfl | true => simp [hq] at hne
   rw [hf] at hsn
   have hbd := zgF (za4 X (i + 1)) ((za4 X 4).drop (i + 1)) D a (by rw [hsn])
   rw [show za4 X (i + 1) ++ (za4 X 4).drop (i + 1) = za4 X 4 by rw [← zke X (show i + 1 ≤ 4 by omega), List.take_append_drop], hsn] at hbd
   rw [hbd]
   exact ⟨by rw [hf]; rfl, hD.weak (fun b hb => List.mem_cons_of_mem _ hb), hLL⟩
  ·
   have hf : za1 (zaS D a (za4 X i)).1 = true := by cases hq : za1 (zaS D a (za4 X i)).1 with | true => rfl | false => simp [hq] at hne
   refine zau (za6 (zah (zaa ?_)))
   refine zad (zaN rfl rfl (Coup.w64 (by omega))) ?_
   refine zad (zab) (zae ?_)
   refine zbw ⟨i + 1, by omega, ⟨by go_num, rfl, rfl, rfl, rfl, rfl⟩, by omega, by rw [hsn]; exact hf, hr7, by rw [hsn]; exact hD, hLL⟩
 ·
  have hi4 : i = 4 := by omega
  subst hi4
  refine zbm (zbW (zcr (zbt (zah (zaf (zaa (zad (zac) (zae (zah (zaz ?_))))))))))
  refine zam [_] ⟨rfl, trivial⟩ ?_
  exact ⟨by rw [hok]; rfl, hD.weak (fun b hb => List.mem_cons_of_mem _ hb), hLL⟩
theorem zdD : ∀ (l : List Sec) {D : Dk} {k : Nat} (a : Nat), zb1 D k → (zaS D a l).2 = true ∧ zb1 (zaS D a l).1 (k + l.length)
 | [], D, k, a, h => ⟨rfl, h⟩
 | t :: l, D, k, a, h => by
  rw [zaS, (zci h.left h.dead).1, if_pos rfl]
  obtain ⟨h1, h2⟩ := zdD l (a + 1) (h.zbC (a : Int) t).1
  exact ⟨h1, h2.weak (by rw [List.length_cons]; omega)⟩
def zbl : List UInt8 := List.replicate 512 0
def zpD (D : Dk) (s : Nat) : Nat → Dk
 | 0 => D
 | m + 1 => (zaS (zpD D s m) (1 + s + m * 4) (za4 zbl 4)).1
theorem zfs {D : Dk} {k s : Nat} (h : zb1 D k) : ∀ m, zb1 (zpD D s m) (k + m * 4) ∧ (zpD D s m).V.length = D.V.length
 | 0 => ⟨by rw [Nat.zero_mul, Nat.add_zero]; exact h, rfl⟩
 | m + 1 => by
  obtain ⟨h1, h2⟩ := zfs (s := s) h m
  refine ⟨?_, (zbP _ _ _).trans h2⟩
  exact (zdD (za4 zbl 4) (1 + s + m * 4) h1).2.weak (by rw [zck]; omega)
set_option maxRecDepth 20000 in
set_option maxHeartbeats 1000000 in
theorem formatP (h : Two (DZ g D) Y lo L w) (s : Int) (hs : wf64 s) (ha : zb1 D 60000) :
   Calls Tryz.prog 32 [.pointer (some ⟨g, 0, none⟩), .int .i64 s].toArray w (Ret fun v w' => v = .int .i64 (if zfZ D.V.length s < 4 then 2 else 0) ∧ Two (DZ g (if zfZ D.V.length s < 4 then D else fmtD (zpD D s.toNat (zfZ D.V.length s)) s.toNat)) Y lo L w' ∧ LoL lo L w w') := by
 have hD := h
 have hLL := LoL.refl lo L w
 have hM := mayP h s hs
 have hC := countP h s hs
 have hn8 := (tOk hD).1.n
 obtain ⟨c, hc⟩ : ∃ c, zfZ D.V.length s = c := ⟨_, rfl⟩
 rw [hc] at hM hC ⊢
 refine zas (fn := Tryz.f32) (rs := [.tmp 4]) (n := 32) Tryz.func32 rfl rfl Tryz.ntmps32 (by kernel_rfl) rfl ?_
 refine zaf (zaa (zad (zac) (zae (zah (zaf (zaf (zaa (zad (zab) (zad (zab) ?_)))))))))
 refine zao rfl (zaj (by kernel_rfl) rfl) (hM) ?_
 rintro _ _ ⟨rfl, rfl⟩
 refine zad (zac) (zae (zah (zaf (zaa (zad (zab) ?_)))))
 refine zad (zaM rfl rfl) ?_
 refine zae (zah ?_)
 refine zbf rfl (fun hne => ?_) (fun hne => ?_)
 ·
  refine zaf (zaa (zad (zab) (zad (zac) (zae (zah (zaz (zaP ?_)))))))
  refine zam [_] ⟨rfl, trivial⟩ ?_
  have hf : c < 4 := by
    by_cases h : c < 4
    ·exact h
    ·rw [if_neg h] at hne; simp at hne
  rw [if_pos hf, if_pos hf]
  exact ⟨rfl, hD, hLL⟩
 ·
  have hf : ¬ c < 4 := fun h => by rw [if_pos h] at hne; simp at hne
  rw [if_neg hf, if_neg hf]
  have hcn : ¬ (s < 4 ∨ 4000 < s) ∧ (D.V.length - 1 - s.toNat) / 4 = c := by
    rw [zfZ] at hc
    by_cases h : s < 4 ∨ 4000 < s
    ·rw [if_pos h] at hc; omega
    ·rw [if_neg h] at hc; exact ⟨h, hc⟩
  have hobt : ∃ m : Nat, s = m := ⟨s.toNat, by omega⟩
  obtain ⟨m, rfl⟩ := hobt
  rw [Int.toNat_natCast] at hcn ⊢
  have hZl : zbl.length = 512 := List.length_replicate ..
  have hobt : ∃ Z, zbl = Z := ⟨_, rfl⟩
  obtain ⟨Z, hZ⟩ := hobt
  have hzs := fun i => show zpD D m (i + 1) = (zaS (zpD D m i) (1 + m + i * 4) (za4 zbl 4)).1 from rfl
  have hzb : bv Z = List.replicate 512 (.int .u8 0) := by rw [← hZ]; kernel_rfl
  have hwa := fun i => (zdD (za4 zbl 4) (1 + m + i * 4) (zfs (s := m) ha i).1).1
  rw [hZ] at hzs hZl hwa
  refine zau (zah (zaf (zaf (zaa (zad (zab) (zad (zab) ?_))))))
  refine zao rfl (zaj (by kernel_rfl) rfl) (hC) ?_
  rintro _ _ ⟨rfl, rfl⟩
  refine zad (zab) (zae (zah (zaE ?_)))
  refine zbB (α := Nat) 0 (fun i => [(17, .int .i64 (i : Nat)), (16, .int .i64 (c : Int)), (0, .pointer (some ⟨g, 0, none⟩)), (1, .int .i64 (m : Int))])
    (fun i w' => i ≤ c ∧ Two (DZ g (zpD D m i)) Y lo L w' ∧ LoL lo L w w') (fun i => c - i)
    ⟨rfl, rfl, rfl, rfl, rfl⟩ ⟨Nat.zero_le _, hD, hLL⟩ ?_
  clear hD hLL
  rintro i f wr ⟨hi, hD, hLL⟩
  have hal := zfs (s := m) ha i
  refine zaf (zaa ?_)
  refine zad (za2 rfl rfl) ?_
  refine zae (zah (zaf ?_))
  refine zbf rfl (fun hlt => ?_) (fun hlt => ?_)
  ·
   refine zau (zah (zaf (zaE (zaf (zaa (zad (zab) (zad (zac) (zae (zah (zaf (zaa ?_)))))))))))
   refine zad (zab) (zad (zab) (zad (zab) ?_))
   refine zad (zbi (bv Z) (by rw [hzb]; kernel_rfl)) ?_
   have hw := writeP hD m i Z hZl (by omega) (by omega) (zbY hal.1.short (by omega))
   rw [hwa i, if_pos rfl, ← hzs] at hw
   refine zao rfl (zaj (by kernel_rfl) rfl) (hw) ?_
   rintro _ w24 ⟨rfl, hD, hb24⟩
   replace hLL := hLL.lq hb24
   refine zad (zac) (zae (zah (zaf (zaa (zad (zab) ?_)))))
   refine zad (zaM rfl rfl) ?_
   refine zae (zah ?_)
   refine zcL rfl ((by omega)) ?_
   refine zau (za6 (zah (zaa ?_)))
   refine zad (zaN rfl rfl (Coup.w64 (by omega))) ?_
   refine zad (zab) (zae ?_)
   refine zbw ⟨i + 1, by omega, ⟨by go_num, rfl, rfl, rfl, rfl⟩, by omega, hD, hLL⟩
  ·
   have him : i = c := by omega
   subst him
   refine zbm (zbW (zcr (zbt (zah (zaf (zaa (zad (zab) (zad (zab) ?_))))))))
   have hfm := zoy hD (m : Int) ⟨by omega, by omega⟩ (hal.1.weak (by omega))
   rw [hal.2, show zfp D.V.length (m : Int) = true from decide_eq_true (by omega), if_pos rfl, if_pos rfl, Int.toNat_natCast] at hfm
   refine zao rfl (zaj (by kernel_rfl) rfl) (hfm) ?_
   rintro _ w31 ⟨rfl, hD, hb31⟩
   replace hLL := hLL.lq hb31
   refine zad (zac) (zae (zah (zaz ?_)))
   refine zam [_] ⟨rfl, trivial⟩ ?_
   exact ⟨rfl, hD, hLL⟩
end
set_option maxRecDepth 20000 in
theorem isA (c : Ch) (b : Nat) (n : Int) (w : World) (hb : row w b [.int .i64 n] 3) : Calls Tryz.prog 113 [.agg (chV c).toArray, .pointer (some ⟨b, 0, none⟩)].toArray w (Ret fun v w' => v = .bool (decide (c.num = n)) ∧ Below w.heap.size w w') := by
 have hB := Below.refl w.heap.size w
 refine zas (fn := Tryz.f113) (rs := [.tmp 3]) (n := 8) Tryz.func113 rfl rfl Tryz.ntmps113 (by kernel_rfl) rfl ?_
 refine zaf (zaa ?_)
 refine zay rfl (zaU (chV c) rfl (fun g2 w2 hg2 hr2 hb2 => ?_))
 replace hb := hb.new hb2
 replace hB := hB.acc hb2
 refine zad (zac) (zae (zah (zaf (zaa (zad (zav 0) ?_)))))
 refine zad (zax hr2) ?_
 refine zad (zax hb) ?_
 refine zad (za9 rfl rfl) ?_
 refine zad (zac) (zae (zah (zaz ?_)))
 refine zam [_] ⟨rfl, trivial⟩ ?_
 exact ⟨rfl, hB⟩
set_option maxRecDepth 20000 in
theorem isB (c : Ch) (b : Nat) (n : Int) (w : World) (hb : row w b [.int .i64 n] 3) : Calls Tryz.prog 160 [.agg (chV c).toArray, .pointer (some ⟨b, 0, none⟩)].toArray w (Ret fun v w' => v = .bool (decide (c.num = n)) ∧ Below w.heap.size w w') := by
 have hB := Below.refl w.heap.size w
 refine zas (fn := Tryz.f160) (rs := [.tmp 3]) (n := 8) Tryz.func160 rfl rfl Tryz.ntmps160 (by kernel_rfl) rfl ?_
 refine zaf (zaa ?_)
 refine zay rfl (zaU (chV c) rfl (fun g2 w2 hg2 hr2 hb2 => ?_))
 replace hb := hb.new hb2
 replace hB := hB.acc hb2
 refine zad (zac) (zae (zah (zaf (zaa (zad (zav 0) ?_)))))
 refine zad (zax hr2) ?_
 refine zad (zax hb) ?_
 refine zad (za9 rfl rfl) ?_
 refine zad (zac) (zae (zah (zaz ?_)))
 refine zam [_] ⟨rfl, trivial⟩ ?_
 exact ⟨rfl, hB⟩
def zdV (R : Rec) (n : Int) : Nat := R.findIdx fun c => decide (c.num = n)
theorem zne {R : Rec} {n : Int} {i : Nat} {c : Ch} (h : R[i]? = some c) (hi : i ≤ zdV R n) (hc : c.num = n) : zdV R n = i := by
 obtain ⟨h1, h2⟩ := List.getElem?_eq_some_iff.1 h
 by_cases he : i = zdV R n
 ·exact he.symm
 ·have hlt : i < List.findIdx (fun c : Ch => decide (c.num = n)) R := by
   have : i < zdV R n := by omega
   exact this
  have := List.not_of_lt_findIdx hlt
  rw [h2] at this
  simp [hc] at this
theorem znf {R : Rec} {n : Int} {i : Nat} {c : Ch} (h : R[i]? = some c) (hi : i ≤ zdV R n) (hc : ¬ c.num = n) : i + 1 ≤ zdV R n := by
 obtain ⟨h1, h2⟩ := List.getElem?_eq_some_iff.1 h
 by_cases he : i = zdV R n
 ·exfalso
  have := List.findIdx_getElem (p := fun c : Ch => decide (c.num = n)) (xs := R) (w := by rw [← show i = List.findIdx _ R from he]; exact h1)
  have e : R[zdV R n]? = some c := by rw [← he]; exact h
  have e2 := (List.getElem?_eq_some_iff.1 e).2
  unfold zdV at e2
  rw [e2] at this
  simp [hc] at this
 ·omega
set_option maxRecDepth 20000 in
set_option maxHeartbeats 1000000 in
theorem indexA (R : Rec) (hR : zce R) (p : Option Addr) (c m : Nat) (hm : m = R.length) (b : Nat) (n : Int) (w : World) (h : zaT w p m 513 (zb3 R)) (hb : row w b [.int .i64 n] 3) :
   Calls Tryz.prog 112 [.slice p m c, .func (.func 113) #[] #[.pointer (some ⟨b, 0, none⟩)]].toArray w (Ret fun v w' => v = .int .i64 (if zdV R n < m then (zdV R n : Int) else -1) ∧ Below w.heap.size w w') := by
 have hB := Below.refl w.heap.size w
 have hml : maxLen = 9223372036854775807 := by decide
 have hmax := h.max
 refine zas (fn := Tryz.f112) (rs := [.tmp 4]) (n := 19) Tryz.func112 rfl rfl Tryz.ntmps112 (by kernel_rfl) rfl ?_
 refine zaf (zaa (zad (zac) (zae (zah (zaf (zaf (zaa (zad (zab) ?_))))))))
 refine zad (zaJ (e := 147) (sz := 513) (by kernel_rfl) rfl rfl) ?_
 refine zad (zab) (zae (zah (zaE ?_)))
 refine zbB (α := Nat) 0 (fun k => [(8, .int .i64 (k : Nat)), (7, .int .i64 (m : Nat)), (0, .slice p m c), (1, .func (.func 113) #[] #[.pointer (some ⟨b, 0, none⟩)])]) (fun k w' => k ≤ m ∧ k ≤ zdV R n ∧ Below w.heap.size w w') (fun k => m - k)
   ⟨rfl, rfl, rfl, rfl, rfl⟩ ⟨Nat.zero_le _, Nat.zero_le _, hB⟩ ?_
 rintro i f wr ⟨hi, hfr, hB⟩
 refine zaf (zaa ?_)
 refine zad (za2 rfl rfl) ?_
 refine zae (zah (zaf ?_))
 refine zbf rfl (fun hlt => ?_) (fun hlt => ?_)
 ·
  refine zau (zah (zaf (zaE (zaf (zaa (zad (zab) (zad (zac) (zae (zah (zaf ?_))))))))))
  have hci : ∃ ch, R[i]? = some ch := ⟨_, List.getElem?_eq_getElem (by omega)⟩
  obtain ⟨ch, hci⟩ := hci
  have hobt := h.some (by omega)
  obtain ⟨gp, off, rfl, hgp⟩ := hobt
  have hbB := hb.new hB
  refine zaa (zad (zab) (zad (zab) (zad (zab) ?_)))
  refine zad (zbU (e := 147) (sz := 513) (by kernel_rfl) rfl rfl (i) (by omega) (by omega)) ?_
  refine zad (zaI rfl (zot (h.below hB (Nat.le_refl _)) hR hci)) ?_
  refine zao rfl (zbL (by kernel_rfl) rfl rfl) (isA ch b n wr hbB) ?_
  rintro _ w16 ⟨rfl, hb16⟩
  replace hB := hB.acc hb16
  refine zae (zah ?_)
  refine zjB rfl (fun hq => ?_) (fun hq => ?_)
  ·
   refine zaf (zaa (zad (zab) (zad (zac) (zae (zah (zaz (zbd (zaP (zeL (zbd (zaP ?_)))))))))))
   refine zam [_] ⟨rfl, trivial⟩ ?_
   have hfi := zne hci hfr (of_decide_eq_true hq)
   refine ⟨?_, hB⟩
   rw [if_pos (by omega), hfi]; rfl
  ·
   have hfg := znf hci hfr (of_decide_eq_false hq)
   refine zau (za6 (zah (zaa ?_)))
   refine zad (zaN rfl rfl (Coup.w64 (by omega))) ?_
   refine zad (zab) (zae ?_)
   refine zbw ⟨i + 1, by omega, ⟨rfl, rfl, rfl, rfl, rfl⟩, by omega, hfg, hB⟩
 ·
  obtain rfl : i = m := by omega
  refine zbm (zbW (zcr (zbt (zah (zaf (zaa (zad (zac) (zae (zah (zaz ?_))))))))))
  refine zam [_] ⟨rfl, trivial⟩ ?_
  refine ⟨?_, hB⟩
  rw [if_neg (by omega)]; rfl
set_option maxRecDepth 20000 in
set_option maxHeartbeats 1000000 in
theorem indexB (R : Rec) (hR : zce R) (p : Option Addr) (c m : Nat) (hm : m = R.length) (b : Nat) (n : Int) (w : World) (h : zaT w p m 513 (zb3 R)) (hb : row w b [.int .i64 n] 3) :
   Calls Tryz.prog 112 [.slice p m c, .func (.func 160) #[] #[.pointer (some ⟨b, 0, none⟩)]].toArray w (Ret fun v w' => v = .int .i64 (if zdV R n < m then (zdV R n : Int) else -1) ∧ Below w.heap.size w w') := by
 have hB := Below.refl w.heap.size w
 have hml : maxLen = 9223372036854775807 := by decide
 have hmax := h.max
 refine zas (fn := Tryz.f112) (rs := [.tmp 4]) (n := 19) Tryz.func112 rfl rfl Tryz.ntmps112 (by kernel_rfl) rfl ?_
 refine zaf (zaa (zad (zac) (zae (zah (zaf (zaf (zaa (zad (zab) ?_))))))))
 refine zad (zaJ (e := 147) (sz := 513) (by kernel_rfl) rfl rfl) ?_
 refine zad (zab) (zae (zah (zaE ?_)))
 refine zbB (α := Nat) 0 (fun k => [(8, .int .i64 (k : Nat)), (7, .int .i64 (m : Nat)), (0, .slice p m c), (1, .func (.func 160) #[] #[.pointer (some ⟨b, 0, none⟩)])]) (fun k w' => k ≤ m ∧ k ≤ zdV R n ∧ Below w.heap.size w w') (fun k => m - k)
   ⟨rfl, rfl, rfl, rfl, rfl⟩ ⟨Nat.zero_le _, Nat.zero_le _, hB⟩ ?_
 rintro i f wr ⟨hi, hfr, hB⟩
 refine zaf (zaa ?_)
 refine zad (za2 rfl rfl) ?_
 refine zae (zah (zaf ?_))
 refine zbf rfl (fun hlt => ?_) (fun hlt => ?_)
 ·
  refine zau (zah (zaf (zaE (zaf (zaa (zad (zab) (zad (zac) (zae (zah (zaf ?_))))))))))
  have hci : ∃ ch, R[i]? = some ch := ⟨_, List.getElem?_eq_getElem (by omega)⟩
  obtain ⟨ch, hci⟩ := hci
  have hobt := h.some (by omega)
  obtain ⟨gp, off, rfl, hgp⟩ := hobt
  have hbB := hb.new hB
  refine zaa (zad (zab) (zad (zab) (zad (zab) ?_)))
  refine zad (zbU (e := 147) (sz := 513) (by kernel_rfl) rfl rfl (i) (by omega) (by omega)) ?_
  refine zad (zaI rfl (zot (h.below hB (Nat.le_refl _)) hR hci)) ?_
  refine zao rfl (zbL (by kernel_rfl) rfl rfl) (isB ch b n wr hbB) ?_
  rintro _ w16 ⟨rfl, hb16⟩
  replace hB := hB.acc hb16
  refine zae (zah ?_)
  refine zjB rfl (fun hq => ?_) (fun hq => ?_)
  ·
   refine zaf (zaa (zad (zab) (zad (zac) (zae (zah (zaz (zbd (zaP (zeL (zbd (zaP ?_)))))))))))
   refine zam [_] ⟨rfl, trivial⟩ ?_
   have hfi := zne hci hfr (of_decide_eq_true hq)
   refine ⟨?_, hB⟩
   rw [if_pos (by omega), hfi]; rfl
  ·
   have hfg := znf hci hfr (of_decide_eq_false hq)
   refine zau (za6 (zah (zaa ?_)))
   refine zad (zaN rfl rfl (Coup.w64 (by omega))) ?_
   refine zad (zab) (zae ?_)
   refine zbw ⟨i + 1, by omega, ⟨rfl, rfl, rfl, rfl, rfl⟩, by omega, hfg, hB⟩
 ·
  obtain rfl : i = m := by omega
  refine zbm (zbW (zcr (zbt (zah (zaf (zaa (zad (zac) (zae (zah (zaz ?_))))))))))
  refine zam [_] ⟨rfl, trivial⟩ ?_
  refine ⟨?_, hB⟩
  rw [if_neg (by omega)]; rfl
end Go.Proofs.YtdbogkndglbffaaGreat
namespace Coup
open Go Go.RowKit Go.Maps
section
variable {P : Program} {ρ : Env} {w : World} {d : Option Nat} {ty : TypeId} {pos : String} {af : Array Edge} {gd : Option (Nat × Bool)} {K : Value → World → Prop}
theorem zkf {t k e : TypeId} {x : Operand} {m N : Nat} {f : Nat → Option Value} (ht : P.underlying t = some (.map k e)) (hm : MapAt P k w m N f) (hx : ev ρ x = .map (some m))
  (h : ∀ w', MapAt P k w' m N (fun _ => none) → Only m w w' → K (.tuple #[]) w') : Mk P ρ w ⟨d, .call ⟨.builtin .clear, #[x], #[t]⟩, ty, pos, af, gd⟩ K := by
 obtain ⟨es, clock, hb, F, hs, hD⟩ := hm
 have hlt := (Array.getElem?_eq_some_iff.1 hb).1
 refine ⟨.tuple #[], Go.ChangeMaps.setBlock w m (.map #[] clock), ?_, h _ ⟨#[], clock, ?_, ⟨by simp, Go.MapKept.stamped_empty clock, by simp⟩, Nat.zero_le _, by rw [zhY]; rfl⟩ (zeR ⟨es, clock, #[], clock, hb, rfl⟩)⟩
 ·have h1 := Go.MapKept.run_getObj_map (P := P) hb
  have h2 := Go.MapKept.run_setObj_map (P := P) (.map #[] clock) hb
  simp [execOp, resolve, invoke, builtin, Builtin.clear_, hx, run_underlying ht, h1, h2, Result.andThen, Go.ChangeMaps.setBlock]
 ·simp [Go.ChangeMaps.setBlock, hlt]
theorem zhw {g o : Nat} {base e sz m c : Nat} {xs : List Value} (vs : List Value) (j : Nat) (hown : zed w base e sz g o m c xs) (hfit : j + vs.length ≤ xs.length) :
  ∃ cur, row w g cur e ∧ o + j + vs.length ≤ cur.length ∧ ∀ w', row w' g (splice cur (o + j) vs) e → zed w' base e sz g o m c (splice xs j vs) := by
 have hlen := hown.1
 rcases hown.2 with ⟨hn, _⟩ | ⟨g', off, cap, cur, he, hb, hg, hmc, hmx, hsz, hcur⟩
 ·cases hn
 ·cases he
  have hrow : row w g cur.toList e := by unfold row; simpa using hg
  have hle : m * sz ≤ c * sz := Nat.mul_le_mul_right _ hmc
  have hcl : cur.toList.length = cur.size := by simp
  refine ⟨cur.toList, hrow, by omega, fun w' hr => ⟨?_, Or.inr ⟨g, o, c, (splice cur.toList (o + j) vs).toArray, rfl, hb, hr, hmc, hmx, ?_, ?_⟩⟩⟩
  ·simp only [splice, List.length_append, List.length_take, List.length_drop]; omega
  ·simp only [splice, List.size_toArray, List.length_append, List.length_take, List.length_drop]; omega
  ·rw [← hcur]
   have hm2 : ((cur.toList.drop o).take (m * sz)).length = m * sz := by rw [List.length_take, List.length_drop]; omega
   refine List.ext_getElem? fun i => ?_
   rw [List.getElem?_take, List.getElem?_drop, zet (by omega), zet (by rw [hm2]; omega), List.getElem?_take, List.getElem?_drop]
   by_cases hi : i < m * sz
   ·rw [if_pos hi]
    by_cases h2 : i < j
    ·rw [if_pos (by omega), if_pos h2, if_pos hi]
    ·rw [if_neg (by omega), if_neg h2]
     by_cases h3 : i < j + vs.length
     ·rw [if_pos (by omega), if_pos h3]; congr 1; omega
     ·rw [if_neg (by omega), if_neg h3, if_pos hi]
   ·rw [if_neg hi, if_neg (by omega), if_neg (by omega), if_neg hi]
theorem zic {z : Array Value} (hz : ∀ v ∈ z.toList, v.oneCell' = true) (n : Nat) : ∀ v ∈ (Builtin.zeroCells z n).toList, v.oneCell' = true := fun v hv => by
 unfold Builtin.zeroCells at hv
 rw [Array.toList_map, List.mem_map] at hv
 obtain ⟨i, hi, rfl⟩ := hv
 have hi2 : i < n * z.size := by simpa using hi
 have hp : 0 < z.size := Nat.pos_of_ne_zero fun h0 => by rw [h0, Nat.mul_zero] at hi2; omega
 have hlt := Nat.mod_lt i hp
 rw [getElem!_pos z (i % z.size) hlt]
 exact hz _ (by simp)
theorem zjc {t e0 : TypeId} {x : Operand} {z : Value} {g o base e sz m c k cc : Nat} {xs : List Value} (j : Nat) (ht : P.underlying t = some (.slice e0)) (hz : ∀ w, (zeroValue e0).run P w = .ok z w) (hzs : z.cells.size = sz)
  (hz1 : ∀ v ∈ z.cells.toList, v.oneCell' = true) (hown : zed w base e sz g o m c xs) (hx : ev ρ x = .slice (some ⟨g, o + j * sz, none⟩) k cc) (hfit : j + k ≤ m)
  (h : ∀ w' zs, zs.length = k * sz → zed w' base e sz g o m c (splice xs (j * sz) zs) → Only g w w' → K (.tuple #[]) w') : Mk P ρ w ⟨d, .call ⟨.builtin .clear, #[x], #[t]⟩, ty, pos, af, gd⟩ K := by
 have hlen := hown.1
 have hle : (j + k) * sz ≤ m * sz := Nat.mul_le_mul_right _ hfit
 rw [Nat.add_mul] at hle
 cases k with
 | zero =>
  refine ⟨.tuple #[], w, ?_, h w [] (by simp) ?_ ⟨rfl, rfl, rfl, rfl, fun _ _ => rfl⟩⟩
  ·simp [execOp, resolve, invoke, builtin, Builtin.clear_, hx, run_underlying ht, Result.andThen]
  ·have : splice xs (j * sz) [] = xs := by simp [splice]
   rw [this]; exact hown
 | succ k =>
  have hzl : (Builtin.zeroCells z.cells (k + 1)).toList.length = (k + 1) * sz := by rw [Array.length_toList, size_zeroCells, hzs]
  have hf2 : j * sz + (Builtin.zeroCells z.cells (k + 1)).toList.length ≤ xs.length := by rw [hzl]; omega
  obtain ⟨cur, hr, hf, hafter⟩ := zhw (Builtin.zeroCells z.cells (k + 1)).toList (j * sz) hown hf2
  have hst := run_storeCells_at P g (o + j * sz) e (Builtin.zeroCells z.cells (k + 1)).toList 0 cur.toArray w hr (by simpa using hf) (zic hz1 _)
  refine ⟨.tuple #[], _, ?_, h (w.setRow g (splice cur (o + j * sz) (Builtin.zeroCells z.cells (k + 1)).toList).toArray) _ hzl (hafter _ (setRow_heap w g _ _ e _ hr)) (Only.setRow _)⟩
  simp only [Nat.add_zero] at hst
  have hst2 : (storeCells ⟨g, o + j * sz, none⟩ (Builtin.zeroCells z.cells (k + 1)).toList).run P w = .ok () (w.setRow g (splice cur (o + j * sz) (Builtin.zeroCells z.cells (k + 1)).toList).toArray) := by simpa [splice] using hst
  simp [execOp, resolve, invoke, builtin, Builtin.clear_, hx, run_underlying ht, hz, hst2, Result.andThen]
theorem zlO {t t' e base sz g o m n cap k c g1 o1 : Nat} {s x : Operand} {ys news : List Value} (ht : P.underlying t = some (.slice e)) (ht' : t' = t) (hsz : zcm P e sz = true) (hs : ev ρ s = .slice (some ⟨g, o, none⟩) n cap)
  (hown : zed w base e sz g o m cap ys) (hx : ev ρ x = .slice (some ⟨g1, o1, none⟩) k c) (hsrc : zaT w (some ⟨g1, o1, none⟩) k sz news) (h1 : ∀ u ∈ news, u.oneCell' = true) (hroom : n + k ≤ m)
  (h : ∀ w', zed w' base e sz g o m cap (splice ys (n * sz) news) → Only g w w' → K (.slice (some ⟨g, o, none⟩) (n + k) cap) w') : Mk P ρ w ⟨d, .call ⟨.builtin .append, #[s, x], #[t, t']⟩, ty, pos, af, gd⟩ K := by
 subst ht'
 obtain ⟨i, hq, hi⟩ := zca hsz
 subst hi
 have hl := hsrc.len
 have hlen := hown.1
 have hle : (n + k) * i.size ≤ m * i.size := Nat.mul_le_mul_right _ hroom
 rw [Nat.add_mul] at hle
 have hmc : m ≤ cap := by
  rcases hown.2 with ⟨hn, _⟩ | ⟨g', off, cap', cur, he, hb, hg, hmc, _⟩
  ·cases hn
  ·cases he; exact hmc
 obtain ⟨cur, hr, hf, hafter⟩ := zhw news (n * i.size) hown (by omega)
 have hrun := zdp (P := P) w t' ty e i ht hq g o n cap cur.toArray hr ⟨g1, o1, none⟩ k c news hl (fun j u hu => by rw [Addr.add_lit]; exact hsrc.cell j hu) h1 (by omega) (by simpa using hf)
 have hrun2 : (Builtin.append_ #[t', t'] ty #[.slice (some ⟨g, o, none⟩) n cap, .slice (some ⟨g1, o1, none⟩) k c]).run P w = .ok (.slice (some ⟨g, o, none⟩) (n + k) cap) (w.setRow g (splice cur (o + n * i.size) news).toArray) := by simpa [splice] using hrun
 refine ⟨_, w.setRow g (splice cur (o + n * i.size) news).toArray, ?_, h _ (hafter _ (setRow_heap w g _ _ e _ hr)) (Only.setRow _)⟩
 simp [execOp, resolve, invoke, builtin, hs, hx, hrun2, Result.andThen]
end
end Coup
namespace Go.Proofs.YtdbogkndglbffaaGreat
open Go Go.RowKit Coup
theorem zjd {w : World} {base e sz g o m n c : Nat} {xs : List Value} (h : zed w base e sz g o m c xs) (hn : n ≤ m) : zed w base e sz g o n c (xs.take (n * sz)) := by
 have hlen := h.1
 have hle : n * sz ≤ m * sz := Nat.mul_le_mul_right _ hn
 refine ⟨by rw [List.length_take]; omega, ?_⟩
 rcases h.2 with ⟨hn, _⟩ | ⟨g', off, cap, cur, he, hb, hg, hmc, hmx, hsz, hcur⟩
 ·cases hn
 ·cases he
  exact .inr ⟨g, o, c, cur, rfl, hb, hg, Nat.le_trans hn hmc, hmx, hsz, by rw [← hcur, List.take_take, Nat.min_eq_left hle]⟩
theorem zje {R : Rec} (h : zce R) (k : Nat) : (zb3 R).take (k * 513) = zb3 (R.take k) := by
 by_cases hk : k ≤ R.length
 ·have h1 : zce (R.take k) := fun c hc => h c (List.mem_of_mem_take hc)
  have e : zb3 R = zb3 (R.take k) ++ zb3 (R.drop k) := by
   rw [zb3, zb3, zb3, ← List.flatMap_append, List.take_append_drop]
  have hl := zb0 h1
  rw [List.length_take, Nat.min_eq_left hk] at hl
  rw [e, List.take_left' hl]
 ·rw [List.take_of_length_le (l := R) (by omega), List.take_of_length_le]
  rw [zb0 h]
  exact Nat.mul_le_mul_right _ (by omega)
theorem zoB {R : Rec} (h : zce R) {i : Nat} {c : Ch} (hi : i < R.length) (hc : c.page.length = 512) : splice (zb3 R) (i * 513) (chV c) = zb3 (R.set i c) := by
 have h1 : zce (R.take i) := fun c hc => h c (List.mem_of_mem_take hc)
 have hl := zb0 h1
 rw [List.length_take, Nat.min_eq_left (by omega)] at hl
 have hcl := zej hc
 have hd : ∀ k, (zb3 R).drop (k * 513) = zb3 (R.drop k) := fun k => by
  by_cases hk : k ≤ R.length
  ·have h2 : zce (R.take k) := fun c hc => h c (List.mem_of_mem_take hc)
   have e : zb3 R = zb3 (R.take k) ++ zb3 (R.drop k) := by
    rw [zb3, zb3, zb3, ← List.flatMap_append, List.take_append_drop]
   have hl := zb0 h2
   rw [List.length_take, Nat.min_eq_left hk] at hl
   rw [e, List.drop_left' hl]
  ·rw [List.drop_of_length_le (l := R) (by omega), List.drop_of_length_le]
   ·rfl
   ·rw [zb0 h]
    exact Nat.mul_le_mul_right _ (by omega)
 have e2 : R.set i c = R.take i ++ (c :: R.drop (i + 1)) := List.set_eq_take_append_cons_drop.trans (by rw [if_pos hi])
 unfold splice
 rw [zje h, hcl, show i * 513 + 513 = (i + 1) * 513 by omega, hd, e2]
 simp [zb3]
def without (R : Rec) (n : Int) : Rec := R.filter fun c => !decide (c.num = n)
theorem zjf {R : Rec} {n : Int} (h : ¬ zdV R n < R.length) : without R n = R := by
 refine List.filter_eq_self.2 fun c hc => ?_
 have h2 : ¬ ∃ x ∈ R, decide (x.num = n) = true := fun he => h (List.findIdx_lt_length.2 he)
 cases hd : decide (c.num = n) with
 | false => rfl
 | true => exact absurd ⟨c, hc, hd⟩ h2
theorem zid {R : Rec} {n : Int} (h : zdV R n < R.length) : R.take (zdV R n) = without (R.take (zdV R n + 1)) n := by
 have hp : decide ((R[zdV R n]).num = n) = true := List.findIdx_getElem (p := fun c : Ch => decide (c.num = n)) (xs := R) (w := h)
 rw [List.take_add_one, List.getElem?_eq_getElem h, without, List.filter_append]
 have h1 : (R.take (zdV R n)).filter (fun c => !decide (c.num = n)) = R.take (zdV R n) := by
  refine List.filter_eq_self.2 fun c hc => ?_
  obtain ⟨i, hi, rfl⟩ := List.mem_take_iff_getElem.1 hc
  have hlt : i < List.findIdx (fun c : Ch => decide (c.num = n)) R := by
   have : i < zdV R n := by omega
   exact this
  have h3 := List.not_of_lt_findIdx hlt
  rw [h3]; rfl
 rw [h1, Option.toList_some, List.filter_cons, hp]
 simp
theorem zjg {R : Rec} {n : Int} {j : Nat} {c : Ch} (h : R[j]? = some c) : without (R.take (j + 1)) n = if c.num = n then without (R.take j) n else without (R.take j) n ++ [c] := by
 rw [List.take_add_one, h, without, List.filter_append, Option.toList_some]
 by_cases hc : c.num = n
 ·rw [if_pos hc]; simp [without, hc]
 ·rw [if_neg hc]; simp [without, hc]
theorem zeroCh (w : World) : (zeroValue 147).run Tryz.prog w = .ok (.agg (chV ⟨0, List.replicate 512 0⟩).toArray) w := by kernel_rfl
theorem zf0 {xs zs : List Value} (a : Nat) (h : a ≤ xs.length) : (splice xs a zs).take a = xs.take a := by
 unfold splice
 first
  | rw [List.take_left' (by rw [List.length_take]; omega)]
  | rw [List.append_assoc, List.take_left' (by rw [List.length_take]; omega)]
theorem own_le {w : World} {base e sz g o m c : Nat} {xs : List Value} (h : zed w base e sz g o m c xs) : m ≤ c := by
 rcases h.2 with ⟨hn, _⟩ | ⟨g', off, cap, cur, he, hb, hg, hmc, _⟩
 ·cases hn
 ·cases he; exact hmc
set_option maxRecDepth 20000 in
set_option maxHeartbeats 2000000 in
theorem deleteB (R : Rec) (hR : zce R) (g o m c base : Nat) (hm : m = R.length) (b : Nat) (n : Int) (w : World) (h : zed w base 147 513 g o m c (zb3 R)) (hb : row w b [.int .i64 n] 3) (hbg : b ≠ g) :
   Calls Tryz.prog 159 [.slice (some ⟨g, o, none⟩) m c, .func (.func 160) #[] #[.pointer (some ⟨b, 0, none⟩)]].toArray w (Ret fun v w' => v = .slice (some ⟨g, o, none⟩) (without R n).length c ∧ zed w' base 147 513 g o (without R n).length c (zb3 (without R n)) ∧ KpB [g] w w') := by
 have hK := KpB.refl [g] w
 have hml : maxLen = 9223372036854775807 := by decide
 have hmx := h.sl.max
 obtain ⟨q, hq⟩ : ∃ q : Int, (if zdV R n < m then (zdV R n : Int) else -1) = q := ⟨_, rfl⟩
 have hix := fun w' (h : zaT w' (some ⟨g, o, none⟩) m 513 (zb3 R)) (hb : row w' b [.int .i64 n] 3) => indexB R hR (some ⟨g, o, none⟩) c m hm b n w' h hb
 simp only [hq] at hix
 have hgl := h.lt
 have hcap := own_le h
 have hbl := hb.lt
 refine zas (fn := Tryz.f159) (rs := [.tmp 4]) (n := 42) Tryz.func159 rfl rfl Tryz.ntmps159 (by kernel_rfl) rfl ?_
 refine zaf (zaa (zad (zac) (zae (zah (zaf (zaa (zad (zab) (zad (zab) ?_))))))))
 refine zao rfl (zaj (by kernel_rfl) rfl) (hix w h.sl hb) ?_
 rintro _ w10 ⟨rfl, hb10⟩
 replace hK := hK.new hb10
 replace h := h.new hb10
 replace hb := hb.new hb10
 refine zad (zac) (zae (zah (zaf (zaf (zaa (zad (zab) ?_))))))
 refine zad (za9 rfl rfl) ?_
 refine zae (zah ?_)
 refine zbf rfl (fun hne => ?_) (fun hne => ?_)
 ·
  refine zaf (zaa (zad (zab) (zad (zac) (zae (zah (zaz (zaP ?_)))))))
  refine zam [_] ⟨rfl, trivial⟩ ?_
  have hni : ¬ zdV R n < R.length := fun hl => by rw [if_pos (by omega)] at hq; omega
  rw [zjf hni, ← hm]
  exact ⟨rfl, h, hK⟩
 ·
  have hil : zdV R n < R.length := by
    by_cases hl : zdV R n < R.length
    ·exact hl
    ·rw [if_neg (by omega)] at hq; exact absurd hq.symm hne
  rw [if_pos (by omega)] at hq
  subst hq
  refine zau (zah (zaf (zaf (zaa (zad (zab) ?_)))))
  refine zad (zaN rfl rfl (Coup.w64 (by omega))) ?_
  refine zad (zac) (zae (zah (zaE ?_)))
  refine zbB (α := Nat × Nat × Rec) (zdV R n, zdV R n + 1, R) (fun a => [(5, .int .i64 (a.1 : Nat)), (6, .int .i64 (a.2.1 : Nat)), (0, .slice (some ⟨g, o, none⟩) m c), (1, .func (.func 160) #[] #[.pointer (some ⟨b, 0, none⟩)])])
    (fun a w' => a.1 < a.2.1 ∧ a.2.1 ≤ m ∧ a.2.2.length = m ∧ zce a.2.2 ∧ (∀ k, a.2.1 ≤ k → a.2.2[k]? = R[k]?) ∧ a.2.2.take a.1 = without (R.take a.2.1) n ∧ zed w' base 147 513 g o m c (zb3 a.2.2) ∧ row w' b [.int .i64 n] 3 ∧ KpB [g] w w') (fun a => m - a.2.1)
    ⟨rfl, rfl, rfl, rfl, rfl⟩ ⟨Nat.lt_succ_self _, by show zdV R n + 1 ≤ m; omega, hm.symm, hR, fun _ _ => rfl, zid hil, h, hb, hK⟩ ?_
  clear h hb hK
  rintro ⟨i, j, T⟩ f wr ⟨hij, hj, hTl, hT, hTR, hTw, h, hb, hK⟩
  dsimp only at *
  refine zaf (zaf (zaa (zad (zab) (zad (zab) ?_))))
  refine zad (zaJ (e := 147) (sz := 513) (by kernel_rfl) rfl rfl) ?_
  refine zad (za2 rfl rfl) ?_
  refine zae (zah ?_)
  refine zbf rfl (fun hlt => ?_) (fun hlt => ?_)
  ·
   refine zau (zah (zaf (zaE (zaf ?_))))
   have hob : ∃ ch, R[j]? = some ch := ⟨_, List.getElem?_eq_getElem (by omega)⟩
   obtain ⟨ch, hch⟩ := hob
   have hTj := (hTR j (Nat.le_refl _)).trans hch
   have hcl := hR ch (List.mem_of_getElem? hch)
   have hws := zjg (n := n) hch
   have hcl2 := zej hcl
   have hco := zeU ch
   have hKs := hK.k.size
   refine zaa (zad (zab) (zad (zab) ?_))
   refine zad (zbU (e := 147) (sz := 513) (by kernel_rfl) rfl rfl (j) (by omega) (by omega)) ?_
   refine zad (zaI rfl (zot h.sl hT hTj)) ?_
   refine zay rfl (zar (([Value.int .i64 0]) ++ (List.replicate 512 (Value.int .u8 0))) (by kernel_rfl) (fun g7 w7 hg7 hr7 hb7 => ?_))
   have lt_g_g7 : g < g7 := Nat.lt_of_lt_of_le h.lt hg7
   have lt_b_g7 : b < g7 := Nat.lt_of_lt_of_le hb.lt hg7
   replace hK := hK.new hb7
   replace h := h.new hb7
   replace hb := hb.new hb7
   refine zaG rfl (zaO 513 (chV ch) hr7 (fun w901 hr7 ho901 => ?_))
   replace hK := hK.only ho901 (by first | (simp; done) | (right; omega))
   replace h := h.only ho901 (Nat.ne_of_lt lt_g_g7)
   replace hb := hb.only ho901 (Nat.ne_of_lt lt_b_g7)
   refine zae (zah (zaf (zaa (zad (zab) ?_))))
   refine zad (zbc 513 hr7) ?_
   refine zao rfl (zbL (by kernel_rfl) rfl rfl) (isB ch b n w901 hb) ?_
   rintro _ w28 ⟨rfl, hb28⟩
   replace hK := hK.new hb28
   replace h := h.new hb28
   replace hb := hb.new hb28
   replace hr7 := hr7.new hb28
   refine zad (zbS rfl) ?_
   refine zae (zah ?_)
   refine W_ifnb rfl (fun hnot => ?_) (fun hnot => ?_)
   ·
    refine zaf ?_
    have hne2 : ¬ ch.num = n := by simpa using hnot
    rw [if_neg hne2] at hws
    have hTl2 := zb0 hT
    have hTs := zoB hT (i := i) (c := ch) (by omega) hcl
    refine zaa (zad (zab) (zad (zab) ?_))
    refine zad (zbc 513 hr7) ?_
    refine zad (zbU (e := 147) (sz := 513) (by kernel_rfl) rfl rfl (i) (by omega) (by omega)) ?_
    refine zaG rfl (zgl (chV ch) (i * 513) h rfl rfl (by rw [hcl2]; kernel_rfl) (by first | (simp only [zal]; omega) | omega) hco (fun w902 h ho902 => ?_))
    replace hK := hK.only ho902 (by first | (simp; done) | (right; omega))
    replace hb := hb.only ho902 (by omega)
    rw [hTs] at h
    refine zae (zah (zaa (zad (zab) ?_)))
    refine zad (zaN rfl rfl (Coup.w64 (by omega))) ?_
    refine zad (zac) (zae (za6 (zah (zaa (zad (zab) ?_)))))
    refine zad (zaN rfl rfl (Coup.w64 (by omega))) ?_
    refine zad (zac) (zae ?_)
    refine zbw ⟨(i + 1, j + 1, T.set i ch), by show m - (j + 1) < m - j; omega, ⟨by go_num, by go_num, rfl, rfl, rfl⟩, by show i + 1 < j + 1; omega, by show j + 1 ≤ m; omega, by show (T.set i ch).length = m; rw [List.length_set]; exact hTl, ?_, ?_, ?_, h, hb, hK⟩
    ·intro c hc
     rcases List.mem_or_eq_of_mem_set hc with e | e
     ·exact hT c e
     ·rw [e]; exact hcl
    ·intro k hk
     show (T.set i ch)[k]? = _
     rw [List.getElem?_set, if_neg (by have : j + 1 ≤ k := hk; omega)]
     exact hTR k (Nat.le_trans (Nat.le_succ _) hk)
    ·show (T.set i ch).take (i + 1) = without (R.take (j + 1)) n
     rw [hws, ← hTw, List.take_add_one, List.getElem?_set, if_pos rfl, if_pos (by omega), List.take_set_of_le (Nat.le_refl _)]; rfl
   ·
    have hne2 : ch.num = n := by simpa using hnot
    rw [if_pos hne2] at hws
    refine zau (za6 (zah (zaa (zad (zab) ?_))))
    refine zad (zaN rfl rfl (Coup.w64 (by omega))) ?_
    refine zad (zac) (zae ?_)
    refine zbw ⟨(i, j + 1, T), by show m - (j + 1) < m - j; omega, ⟨rfl, by go_num, rfl, rfl, rfl⟩, by show i < j + 1; omega, by show j + 1 ≤ m; omega, hTl, hT, fun k hk => hTR k (Nat.le_trans (Nat.le_succ _) hk), hTw.trans hws.symm, h, hb, hK⟩
  ·
   obtain rfl : j = m := by omega
   rw [List.take_of_length_le (l := R) (by omega)] at hTw
   have hln : (without R n).length = i := by rw [← hTw, List.length_take]; omega
   have hzo := zeU ⟨0, List.replicate 512 0⟩
   refine zbm (zbW (zcr (zbt (zah (zaf (zaa (zad (zab) (zad (zab) ?_))))))))
   refine zad (zcv (e := 147) (sz := 513) (i) (j) (c) (j - i) (by kernel_rfl) rfl ⟨_, _, rfl, by omega⟩ rfl rfl (by simp) (by omega) (by omega) (by omega) (by omega) (by omega)) ?_
   refine zay rfl (zjc (e0 := 147) (i) (by kernel_rfl) zeroCh (by kernel_rfl) hzo h rfl (by omega) (fun w903 zs903 hzs903 h ho903 => ?_))
   replace hK := hK.only ho903 (by first | (simp; done) | (right; omega))
   refine zae (zah (zaf (zaa (zad (zab) (zad (zab) ?_)))))
   refine zad (zcv (e := 147) (sz := 513) (0) (i) (c) (i) (by kernel_rfl) rfl rfl ⟨_, _, rfl, by omega⟩ rfl (by simp) (by omega) (by omega) (by omega) (by omega) (by omega)) ?_
   refine zad (zac) (zae (zah (zaz ?_)))
   refine zam [_] ⟨rfl, trivial⟩ ?_
   have hsh := zjd h (n := i) (by omega)
   rw [zf0 _ (by rw [zb0 hT]; exact Nat.mul_le_mul_right _ (by omega)), zje hT, hTw] at hsh
   rw [hln]
   exact ⟨rfl, hsh, hK⟩
theorem zng {R : Rec} (h : zce R) (k : Nat) : (zb3 R).drop (k * 513) = zb3 (R.drop k) := by
 by_cases hk : k ≤ R.length
 ·have h2 : zce (R.take k) := fun c hc => h c (List.mem_of_mem_take hc)
  have e : zb3 R = zb3 (R.take k) ++ zb3 (R.drop k) := by
   rw [zb3, zb3, zb3, ← List.flatMap_append, List.take_append_drop]
  have hl := zb0 h2
  rw [List.length_take, Nat.min_eq_left hk] at hl
  rw [e, List.drop_left' hl]
 ·rw [List.drop_of_length_le (l := R) (by omega), List.drop_of_length_le]
  ·rfl
  ·rw [zb0 h]
   exact Nat.mul_le_mul_right _ (by omega)
theorem zjh {l n : List Value} : (splice l 0 n).take n.length = n := by simp [splice]
theorem zkg {l n : List Value} (h : n.length ≤ l.length) : (splice l (0 * 513) n).length = l.length := by
 simp [splice]; omega
set_option maxRecDepth 20000 in
set_option maxHeartbeats 2000000 in
theorem deleteF (R : Rec) (hR : zce R) (g o m c base : Nat) (hm : m = R.length) (h2 : 2 ≤ m) (w : World) (h : zed w base 147 513 g o m c (zb3 R)) :
  Calls Tryz.prog 148 [.slice (some ⟨g, o, none⟩) m c, .int .i64 0, .int .i64 1].toArray w (Ret fun v w' => v = .slice (some ⟨g, o, none⟩) (R.drop 1).length c ∧ zed w' base 147 513 g o (R.drop 1).length c (zb3 (R.drop 1)) ∧ KpB [g] w w') := by
 have hK := KpB.refl [g] w
 have hml : maxLen = 9223372036854775807 := by decide
 have hmx := h.sl.max
 have hgl := h.lt
 have hcap := own_le h
 have hsr := fun w' (h : zed w' base 147 513 g o m c (zb3 R)) => (show zaT w' (some ⟨g, o + 1 * 513, none⟩) (m - 1) 513 (zb3 (R.drop 1)) from by
  have h1 := h.sl.sub 1 (m - 1) (by omega)
  rw [zng hR 1, List.take_of_length_le] at h1
  ·exact h1
  ·rw [zb0 (fun c hc => hR c (List.mem_of_mem_drop hc)), List.length_drop, ← hm]; exact Nat.le_refl _)
 have hdl : (R.drop 1).length = m - 1 := by rw [List.length_drop, hm]
 have hd1 := zos (R.drop 1)
 have hzo := zeU ⟨0, List.replicate 512 0⟩
 refine zas (fn := Tryz.f148) (rs := [.tmp 6]) (n := 33) Tryz.func148 rfl rfl Tryz.ntmps148 (by kernel_rfl) rfl ?_
 refine zaf (zaa (zad (zac) (zae (zah (zaf (zaa (zad (zab) (zad (zab) (zad (zab) (zad (zab) ?_))))))))))
 refine zad (zaJ (e := 147) (sz := 513) (by kernel_rfl) rfl rfl) ?_
 refine zad (zcv (e := 147) (sz := 513) (0) (1) (m) (1) (by kernel_rfl) rfl ⟨_, _, rfl, by omega⟩ ⟨_, _, rfl, by omega⟩ ⟨_, _, rfl, by omega⟩ (by simp) (by omega) (by omega) (by omega) (by omega) (by omega)) ?_
 refine zae (zah (zaf (zaf (zaa (zad (zab) (zad (zab) ?_))))))
 refine zad (za9 rfl rfl) ?_
 refine zae (zah ?_)
 refine zcL rfl ((by omega)) ?_
 refine zau (zah (zaf (zaa (zad (zab) ?_))))
 refine zad (zaJ (e := 147) (sz := 513) (by kernel_rfl) rfl rfl) ?_
 refine zad (zac) (zae (zah (zaf ?_)))
 refine za5 [g] (by kernel_rfl) ?_
 intro w901 hb901 hS901
 replace hK := hK.new hb901
 replace h := h.new hb901
 refine zat 0 (zab) ?_
 refine zat 1 (zab) ?_
 refine zat 2 (zcv (e := 147) (sz := 513) (0) (0) (c) (0) (by kernel_rfl) rfl rfl ⟨_, _, rfl, by omega⟩ rfl (by simp) (by omega) (by omega) (by omega) (by omega) (by omega)) ?_
 refine zat 3 (zab) ?_
 refine zat 4 (zab) ?_
 refine zat 5 (zcv (e := 147) (sz := 513) (1) (m) (c) (m - 1) (by kernel_rfl) rfl ⟨_, _, rfl, by omega⟩ rfl rfl (by simp) (by omega) (by omega) (by omega) (by omega) (by omega)) ?_
 refine zaH 6 (by kernel_rfl) ?_
 refine zco rfl rfl (zlO (e := 147) (sz := 513) (by kernel_rfl) rfl (by kernel_rfl) rfl h rfl (hsr _ h) hd1 (by omega) (fun w26 h ho26 => ?_))
 have hS902 := hS901.aq ho26
 refine ⟨hS902, ?_⟩
 replace hK := hK.only ho26 (by first | (simp; done) | (right; omega))
 refine zat 7 (zac) ?_
 refine zaL (by kernel_rfl) ?_
 refine zah (zaf (zaa (zad (zab) (zad (zab) ?_))))
 refine zad (zaJ (e := 147) (sz := 513) (by kernel_rfl) rfl rfl) ?_
 refine zad (zab) ?_
 refine zad (zcv (e := 147) (sz := 513) (m - 1) (m) (c) (1) (by kernel_rfl) rfl ⟨_, _, rfl, by omega⟩ ⟨_, _, rfl, by omega⟩ rfl (by simp) (by omega) (by omega) (by omega) (by omega) (by omega)) ?_
 refine zay rfl (zjc (e0 := 147) ((m - 1)) (by kernel_rfl) zeroCh (by kernel_rfl) hzo h rfl (by omega) (fun w903 zs903 hzs903 h ho903 => ?_))
 replace hK := hK.only ho903 (by first | (simp; done) | (right; omega))
 refine zae (zah (zaf (zaa (zad (zab) (zad (zac) (zae (zah (zaz ?_))))))))
 refine zam [_] ⟨rfl, trivial⟩ ?_
 have hsh := zjd h (n := m - 1) (by omega)
 have hld := zb0 (fun c hc => hR c (List.mem_of_mem_drop hc) : zce (R.drop 1))
 rw [hdl] at hld
 have hlR := zb0 hR
 rw [zf0 _ (by rw [zkg (by omega)]; omega), Nat.zero_mul, Nat.add_zero, Nat.sub_zero, ← hld, zjh] at hsh
 rw [hdl]
 exact ⟨by show Value.slice (some ⟨g, o + 0 * 513, none⟩) (0 + (m - 1)) (c - 0) = _; rw [Nat.zero_mul, Nat.add_zero, Nat.zero_add, Nat.sub_zero], hsh, hK⟩
end Go.Proofs.YtdbogkndglbffaaGreat
namespace Go.Proofs
open Go.Shelf
def Tryz.zji : Go.Shelf.Ren := ⟨fun | 7 => 179 | 10 => 191 | n => n, fun | 23 => 84 | 26 => 3 | 3 => 62 | 28 => 231 | 0 => 0 | 27 => 230 | 33 => 126 | 4 => 4 | n => n, fun | n => n⟩
theorem Tryz.zie : Go.Proofs.SlLaysZI.n7 Tryz.prog Tryz.zji := {
 mixed := by kernel_rfl
 f7 := ⟨Tryz.f179.name, by decide, Tryz.func179.trans (congrArg some (by kernel_rfl))⟩
 f10 := ⟨Tryz.f191.name, by decide, Tryz.func191.trans (congrArg some (by kernel_rfl))⟩
 t0 := Tryz.underlying0
 a0 := Tryz.isAgg0
 z0 := Tryz.sizeOf0
 v0 := Tryz.zeroValue0
 t4 := Tryz.underlying4
 a4 := Tryz.isAgg4
 z4 := Tryz.sizeOf4
 v4 := Tryz.zeroValue4
 t23 := Tryz.underlying84
 a23 := Tryz.isAgg84
 z23 := Tryz.sizeOf84
 v23 := Tryz.zeroValue84
 t26 := Tryz.underlying3
 a26 := Tryz.isAgg3
 z26 := Tryz.sizeOf3
 v26 := Tryz.zeroValue3
 t27 := Tryz.underlying230
 a27 := Tryz.isAgg230
 z27 := Tryz.sizeOf230
 v27 := Tryz.zeroValue230
 t28 := Tryz.underlying231
 a28 := Tryz.isAgg231
 z28 := Tryz.sizeOf231
 v28 := Tryz.zeroValue231
 t33 := Tryz.underlying126
 a33 := Tryz.isAgg126
 z33 := Tryz.sizeOf126
 v33 := Tryz.zeroValue126 }
end Go.Proofs
namespace Go.Proofs.YtdbogkndglbffaaGreat
open Go Go.RowKit Go.Maps Go.Sort Go.Shelf Coup
theorem keysCP (mb : Option Nat) (w : World) : Calls Tryz.prog 179 [.map mb].toArray w (Ret fun v w' => v = .func (.func 191) #[] #[.pointer (some ⟨w.heap.size, 0, none⟩)] ∧ w' = w.alloc (.cells #[.map mb] 84) ∧ Below w.heap.size w w') := by
 have h : CallsIn Fence.wide 5 Tryz.prog 179 #[.map mb] w fun e w' => e = .returned (.func (.func 191) #[] #[.pointer (some ⟨w.heap.size, 0, none⟩)]) ∧ w' = w.alloc (.cells #[.map mb] 84) := AnyZI.keys_in Tryz.zie Fence.wide 5 trivial rfl mb w
 refine (callsIn_wide.1 h).mono ?_
 rintro e w' ⟨rfl, rfl⟩
 exact ⟨_, rfl, rfl, rfl, (Below.refl _ w).alloc (Nat.le_refl _) _⟩
theorem zoC {b N : Nat} {f : Nat → Option Value} (w W : World) (hW : W = w.alloc (.cells #[.map (some b)] 84)) (h : MapAt Tryz.prog 3 w b N f) (hN : N ≤ 1000000) :
  Calls Tryz.prog 178 [.func (.func 191) #[] #[.pointer (some ⟨w.heap.size, 0, none⟩)]].toArray W (Ret fun v w' => ∃ p c, v = .slice p (keysOf f 0 N).length c ∧ zaT w' p (keysOf f 0 N).length 1 (iv (keysOf f 0 N)) ∧ (∀ b o, p = some ⟨b, o, none⟩ → W.heap.size ≤ b) ∧ Below W.heap.size W w') := by
 subst hW
 have hbl := h.lt
 have hle := zhV f N 0
 have hml : maxLen = 9223372036854775807 := by decide
 have hsz : Maps.size (DataW.map (kvL f 0 N)) ≤ N := hle
 have hown : (w.alloc (.cells #[.map (some b)] 84)).ownsMap Tryz.prog 3 RH b N (.map (kvL f 0 N)) := by
  obtain ⟨es, clock, hb, Ft, hs, hD⟩ := h
  exact ⟨es, clock, (Below.heap_alloc _ _ b hbl).trans hb, Ft, hs, hD⟩
 have hseq : SeqGives Fence.wide 2 Tryz.prog 191 #[.pointer (some ⟨w.heap.size, 0, none⟩)] encZ (fun ss => ss.Perm (intKeys (DataW.map (kvL f 0 N)))) (Maps.size (DataW.map (kvL f 0 N))) (w.alloc (.cells #[.map (some b)] 84)) :=
  AnyZI.keys_gives (ρ := Tryz.zji) { Tryz.zie with } Fence.wide _ trivial rfl (by omega) w.heap.size b N _ _ (by simp) (by simp) hown
 have cS := AnyZI.sorted_in Tryz.zmM Fence.wide 5 trivial trivial trivial trivial rfl (by omega) (sortsA _) (enters_of Tryz.func190 (by kernel_rfl) rfl) 191 #[.pointer (some ⟨w.heap.size, 0, none⟩)] trivial (enters_of Tryz.func191 (by kernel_rfl) rfl) _ _ (by omega) (by omega) _ hseq
 change CallsIn _ _ Tryz.prog 178 _ _ _ at cS
 refine (callsIn_wide.1 cS).mono ?_
 rintro e w' ⟨v, ss, rfl, hS, hrow, hnil, hb⟩
 have hlen : ss.length = (keysOf f 0 N).length := by rw [← zew, hS.length_eq]
 rw [zfi f N 0 hS, hlen] at hrow
 have ho := zc5 hrow
 obtain ⟨p, c, rfl⟩ := ho.form
 exact ⟨_, rfl, p, c, rfl, ho.sl, fun b o e => (ho.lt b (by rw [e]; rfl)).1, hb⟩
end Go.Proofs.YtdbogkndglbffaaGreat
namespace Go.Proofs.YtdbogkndglbffaaGreat
open Go Go.RowKit Coup
set_option maxRecDepth 20000 in
theorem keysF {m N : Nat} {f : Nat → Option Value} (w : World) (h : MapAt Tryz.prog 3 w m N f) (hN : N ≤ 1000000) :
  Calls Tryz.prog 151 [.map (some m)].toArray w (Ret fun v w' => (∃ p c, v = .slice p (keysOf f 0 N).length c ∧ zaT w' p (keysOf f 0 N).length 1 (iv (keysOf f 0 N)) ∧ ∀ b o, p = some ⟨b, o, none⟩ → w.heap.size ≤ b) ∧ Below w.heap.size w w') := by
 have hB := Below.refl w.heap.size w
 have hS := fun w' W hW (h' : MapAt Tryz.prog 3 w' m N f) => zoC w' W hW h' hN
 refine zas (fn := Tryz.f151) (rs := [.tmp 2]) (n := 6) Tryz.func151 rfl rfl Tryz.ntmps151 (by kernel_rfl) rfl ?_
 refine zaf (zaa (zad (zac) (zae (zah (zaf (zaa (zad (zab) ?_)))))))
 refine zao rfl (zaj (by kernel_rfl) rfl) (keysCP (some m) w) ?_
 rintro _ w4 ⟨rfl, hkw, hb4⟩
 replace hB := hB.acc hb4
 have hsz := hB.size
 refine zao rfl (zaj (by kernel_rfl) rfl) (hS w w4 hkw h) ?_
 rintro _ w5 ⟨p, c, rfl, hsl, hpb, hb5⟩
 replace hB := hB.acc hb5
 refine zad (zac) (zae (zah (zaz ?_)))
 refine zam [_] ⟨rfl, trivial⟩ ?_
 exact ⟨⟨p, c, rfl, hsl, fun b o e => Nat.le_trans hsz (hpb b o e)⟩, hB⟩
abbrev Pg := List UInt8
abbrev PgM := Nat → Option Pg
def pgV (b : Pg) : Value := .agg (bv b).toArray
def zdl (c : PgM) : Nat → Option Value := fun i => (c i).map pgV
def zeW (c : PgM) (i : Nat) (v : Option Pg) : PgM := fun j => if j = i then v else c j
def noP : PgM := fun _ => none
theorem zk0 (c : PgM) (i : Nat) (v : Option Pg) : zg1 (zdl c) i (v.map pgV) = zdl (zeW c i v) := by
 funext j
 unfold zg1 zdl zeW
 split <;> rfl
theorem zgL (c : PgM) (i : Nat) (b : Pg) : zg1 (zdl c) i (some (.agg (bv b).toArray)) = zdl (zeW c i (some b)) := zk0 c i (some b)
theorem znh (c : PgM) (i : Nat) : zg1 (zdl c) i none = zdl (zeW c i none) := zk0 c i none
structure Pl where
 D : Dk
 G : Lg
 fr : Nat
 ch : PgM
 di : PgM
 cl : Rec
 dead : Bool
def Pl.n (P : Pl) : Nat := zfZ P.D.V.length P.G.size
structure zjF (P : Pl) : Prop where
 lg : LgOk P.D P.G
 n4 : 4 ≤ P.n
 fr2 : 2 ≤ P.fr
 frm : P.fr ≤ 100
 ch : ∀ i b, P.ch i = some b → b.length = 512
 di : ∀ i b, P.di i = some b → b.length = 512
 cl : zce P.cl
 cll : P.cl.length ≤ P.fr
def plV (g x s f mc md : Nat) (rv : Value) (dead : Bool) : List Value := [.pointer (some ⟨g, 0, none⟩), .pointer (some ⟨x, 0, none⟩), .int .i64 (s : Int), .int .i64 (f : Int), .map (some mc), .map (some md), rv, .bool dead]
structure zbs (g x q mc md : Nat) (rv cv : Value) (Y : World → List Nat → Prop) (lo : Nat) (L : List Nat) (P : Pl) (w : World) : Prop where
 lg : zd5 g x Y lo (cv.ownBlock.toList ++ q :: mc :: md :: L) P.D P.G w
 row : row w q (plV g x P.G.size P.fr mc md rv P.dead) 116
 mch : MapAt Tryz.prog 3 w mc P.n (zdl P.ch)
 mdi : MapAt Tryz.prog 3 w md P.n (zdl P.di)
 own : zaB w 0 147 513 cv P.cl.length (zb3 P.cl)
 qm : q ≠ mc
 qd : q ≠ md
 md' : mc ≠ md
 cq : ∀ b ∈ cv.ownBlock.toList, b ≠ q ∧ b ≠ mc ∧ b ≠ md ∧ lo ≤ b ∧ b ∉ L
 ql : lo ≤ q ∧ q ∉ L
 mcl : lo ≤ mc ∧ mc ∉ L
 mdl : lo ≤ md ∧ md ∉ L
def PZ (q : Nat) (P : Pl) : World → List Nat → Prop := fun w B => ∃ g x mc md cv BD, B = BD ++ (x :: (cv.ownBlock.toList ++ [q, mc, md])) ∧ DkX w g BD P.D ∧ Coup.row w x (lgV g P.G) 197 ∧
 Coup.row w q (plV g x P.G.size P.fr mc md cv P.dead) 116 ∧ MapAt Tryz.prog 3 w mc P.n (zdl P.ch) ∧ MapAt Tryz.prog 3 w md P.n (zdl P.di) ∧ zaB w 0 147 513 cv P.cl.length (zb3 P.cl) ∧
 (∀ b ∈ BD, b ∉ (x :: (cv.ownBlock.toList ++ [q, mc, md]))) ∧ x ∉ cv.ownBlock.toList ++ [q, mc, md] ∧ q ≠ mc ∧ q ≠ md ∧ mc ≠ md ∧ ∀ b ∈ cv.ownBlock.toList, b ≠ q ∧ b ≠ mc ∧ b ≠ md
instance (q : Nat) (P : Pl) : Thing (PZ q P) :=
 ⟨fun {w w' B M} ⟨g, x, mc, md, cv, BD, e, h1, h2, h3, h4, h5, h6, h7⟩ k hM => by
   subst e
   exact ⟨g, x, mc, md, cv, BD, rfl, h1.kpd k fun b hb => hM b (by simp [hb]), h2.kpd k (hM x (by simp)), h3.kpd k (hM q (by simp)), h4.kpd k (hM mc (by simp)), h5.kpd k (hM md (by simp)), h6.kpd k (fun b hb e => hM b (by simp [e]) hb), h7⟩,
  fun {w B} ⟨g, x, mc, md, cv, BD, e, h1, h2, h3, h4, h5, h6, h7⟩ b hb => by
   subst e
   simp only [List.mem_append, List.mem_cons, List.not_mem_nil, or_false] at hb
   rcases hb with hb | rfl | hb | rfl | rfl | rfl
   ·exact h1.lt b hb
   ·exact h2.lt
   ·exact (h6.lt b (Option.mem_toList.1 hb)).2
   ·exact h3.lt
   ·exact h4.lt
   ·exact h5.lt⟩
section
variable {Y : World → List Nat → Prop} {g x q mc md lo gc : Nat} {rv cv cv2 : Value} {L L2 M : List Nat} {P : Pl} {w w' : World}
theorem zfK (h : Two (PZ q P) Y lo L w) : ∃ g x mc md cv, zbs g x q mc md cv cv Y lo L P w := by
 obtain ⟨⟨B, C, ⟨g, x, mc, md, cv, BD, e, h1, h2, h3, h4, h5, h6, h7, h8, h9, h10, h11, h12⟩, hC, hB, hC2⟩, hl, hL⟩ := h
 subst e
 have hBx := hB x (by simp)
 have hBq := hB q (by simp)
 have hBm := hB mc (by simp)
 have hBd := hB md (by simp)
 have hBc := fun b (hb : b ∈ cv.ownBlock.toList) => hB b (by simp [hb])
 refine ⟨g, x, mc, md, cv, ⟨⟨⟨BD, C, h1, hC, fun b hb => ⟨(hB b (by simp [hb])).1, (hB b (by simp [hb])).2.1, fun hm => ?_⟩, fun b hb => ⟨(hC2 b hb).1, fun hm => ?_⟩⟩, hl, fun b hm => ?_⟩, h2, hBx.1, fun hm => ?_⟩, h3, h4, h5, h6, h9, h10, h11, fun b hb => ⟨(h12 b hb).1, (h12 b hb).2.1, (h12 b hb).2.2, (hBc b hb).1, (hBc b hb).2.2⟩, ⟨hBq.1, hBq.2.2⟩, ⟨hBm.1, hBm.2.2⟩, ⟨hBd.1, hBd.2.2⟩⟩
 ·have h7b := h7 b hb
  have hbL := (hB b (by simp [hb])).2.2
  simp only [List.mem_cons, List.mem_append, List.not_mem_nil, or_false, not_or] at h7b hm
  rcases hm with rfl | hm | rfl | rfl | rfl | hm
  ·exact h7b.1 rfl
  ·exact h7b.2.1 hm
  ·exact h7b.2.2.1 rfl
  ·exact h7b.2.2.2.1 rfl
  ·exact h7b.2.2.2.2 rfl
  ·exact hbL hm
 ·simp only [List.mem_cons, List.mem_append] at hm
  rcases hm with rfl | hm | rfl | rfl | rfl | hm
  ·exact hBx.2.1 hb
  ·exact (hBc b hm).2.1 hb
  ·exact hBq.2.1 hb
  ·exact hBm.2.1 hb
  ·exact hBd.2.1 hb
  ·exact (hC2 b hb).2 hm
 ·simp only [List.mem_cons, List.mem_append] at hm
  rcases hm with rfl | hm | rfl | rfl | rfl | hm
  ·exact h2.lt
  ·exact (h6.lt b (Option.mem_toList.1 hm)).2
  ·exact h3.lt
  ·exact h4.lt
  ·exact h5.lt
  ·exact hL b hm
 ·simp only [List.mem_cons, List.mem_append, List.not_mem_nil, or_false, not_or] at h8 hm
  rcases hm with hm | rfl | rfl | rfl | hm
  ·exact h8.1 hm
  ·exact h8.2.1 rfl
  ·exact h8.2.2.1 rfl
  ·exact h8.2.2.2 rfl
  ·exact hBx.2.2 hm
theorem zk1 (h : zbs g x q mc md cv cv Y lo L P w) : Two (PZ q P) Y lo L w := by
 obtain ⟨⟨⟨⟨BD, C, h1, hC, hB, hC2⟩, hl, hL⟩, h2, h2l, h2n⟩, h3, h4, h5, h6, h9, h10, h11, h12, hq, hm, hd⟩ := h
 have hn : ∀ b, b ∈ C → b ∉ x :: (cv.ownBlock.toList ++ q :: mc :: md :: L) := fun b hb => (hC2 b hb).2
 have hx2 : x ∉ cv.ownBlock.toList ++ [q, mc, md] ∧ x ∉ L := by
  simp only [List.mem_append, List.mem_cons, not_or] at h2n
  simp only [List.mem_append, List.mem_cons, not_or, List.not_mem_nil, not_false_eq_true, and_true]
  exact ⟨⟨h2n.1, h2n.2.1, h2n.2.2.1, h2n.2.2.2.1⟩, h2n.2.2.2.2⟩
 refine ⟨⟨_, C, ⟨g, x, mc, md, cv, BD, rfl, h1, h2, h3, h4, h5, h6, fun b hb hm => (hB b hb).2.2 ?_, hx2.1, h9, h10, h11, fun b hb => ⟨(h12 b hb).1, (h12 b hb).2.1, (h12 b hb).2.2.1⟩⟩, hC, fun b hb => ?_, fun b hb => ⟨(hC2 b hb).1, fun hm => hn b hb (by simp [hm])⟩⟩, hl, fun b hb => hL b (by simp [hb])⟩
 ·simp only [List.mem_append, List.mem_cons, List.not_mem_nil, or_false] at hm ⊢
  rcases hm with hm | hm | hm | hm | hm
  ·exact .inl hm
  ·exact .inr (.inl hm)
  ·exact .inr (.inr (.inl hm))
  ·exact .inr (.inr (.inr (.inl hm)))
  ·exact .inr (.inr (.inr (.inr (.inl hm))))
 ·have hc : ∀ b, b ∈ x :: (cv.ownBlock.toList ++ q :: mc :: md :: L) → b ∉ C := fun b hm hc => hn b hc hm
  simp only [List.mem_append, List.mem_cons, List.not_mem_nil, or_false] at hb
  rcases hb with hb | rfl | hb | rfl | rfl | rfl
  ·exact ⟨(hB b hb).1, (hB b hb).2.1, fun hm => (hB b hb).2.2 (by simp [hm])⟩
  ·exact ⟨h2l, hc _ (by simp), hx2.2⟩
  ·exact ⟨(h12 b hb).2.2.2.1, hc _ (by simp [hb]), (h12 b hb).2.2.2.2⟩
  ·exact ⟨hq.1, hc _ (by simp), hq.2⟩
  ·exact ⟨hm.1, hc _ (by simp), hm.2⟩
  ·exact ⟨hd.1, hc _ (by simp), hd.2⟩
namespace zbs
theorem lo' (h : zbs g x q mc md rv cv Y lo L P w) : lo ≤ w.heap.size := h.lg.two.lo
theorem lts (h : zbs g x q mc md rv cv Y lo L P w) : q < w.heap.size ∧ mc < w.heap.size ∧ md < w.heap.size := ⟨h.row.lt, h.mch.lt, h.mdi.lt⟩
theorem ltL (h : zbs g x q mc md rv cv Y lo L P w) : ∀ b ∈ L, b < w.heap.size := fun b hb => h.lg.two.lt b (by simp [hb])
theorem kpd [hY : Thing Y] (h : zbs g x q mc md rv cv Y lo L P w) (k : Kp M w w') (hM : ∀ b ∈ M, b < lo ∨ b ∈ L) : zbs g x q mc md rv cv Y lo L P w' := by
 have hn : ∀ b, lo ≤ b ∧ b ∉ L → b ∉ M := fun b hb hm => (hM b hm).elim (fun hl => absurd hb.1 (Nat.not_le.2 hl)) hb.2
 exact ⟨h.lg.kpd k fun b hb => (hM b hb).imp id fun hm => by simp [hm], h.row.kpd k (hn q h.ql), h.mch.kpd k (hn mc h.mcl), h.mdi.kpd k (hn md h.mdl), h.own.kpd k fun b hb e => hn b (h.cq b (by simp [e])).2.2.2 hb, h.qm, h.qd, h.md', h.cq, h.ql, h.mcl, h.mdl⟩
theorem new [hY : Thing Y] (h : zbs g x q mc md rv cv Y lo L P w) (hb : Below w.heap.size w w') : zbs g x q mc md rv cv Y lo L P w' := h.kpd (M := []) (Kp.of_below hb) (by simp)
theorem only [hY : Thing Y] (h : zbs g x q mc md rv cv Y lo L P w) (ho : Only gc w w') (hg : gc < lo ∨ gc ∈ L) : zbs g x q mc md rv cv Y lo L P w' := h.kpd (Kp.za7 ho) fun b hb => by rw [List.mem_singleton.1 hb]; exact hg
theorem weak (h : zbs g x q mc md rv cv Y lo L P w) (h2 : ∀ b ∈ L2, b ∈ L) : zbs g x q mc md rv cv Y lo L2 P w :=
 ⟨h.lg.weak fun b hb => by
  simp only [List.mem_append, List.mem_cons] at hb ⊢
  rcases hb with hm | hm | hm | hm | hm
  ·exact .inl hm
  ·exact .inr (.inl hm)
  ·exact .inr (.inr (.inl hm))
  ·exact .inr (.inr (.inr (.inl hm)))
  ·exact .inr (.inr (.inr (.inr (h2 b hm)))), h.row, h.mch, h.mdi, h.own, h.qm, h.qd, h.md', fun b hb => ⟨(h.cq b hb).1, (h.cq b hb).2.1, (h.cq b hb).2.2.1, (h.cq b hb).2.2.2.1, fun hm => (h.cq b hb).2.2.2.2 (h2 b hm)⟩, ⟨h.ql.1, fun hm => h.ql.2 (h2 _ hm)⟩, ⟨h.mcl.1, fun hm => h.mcl.2 (h2 _ hm)⟩, ⟨h.mdl.1, fun hm => h.mdl.2 (h2 _ hm)⟩⟩
theorem newc [hY : Thing Y] (h : zbs g x q mc md rv cv Y lo L P w) (hb : Below w.heap.size w w') (hg : w.heap.size ≤ gc) (hg' : gc < w'.heap.size) : zbs g x q mc md rv cv Y lo (gc :: L) P w' := by
 have h2 := h.new hb
 have hlt := h.lts
 refine ⟨(h.lg.newc hb hg hg').weak fun b hb => ?_, h2.row, h2.mch, h2.mdi, h2.own, h.qm, h.qd, h.md', fun b hb => ⟨(h.cq b hb).1, (h.cq b hb).2.1, (h.cq b hb).2.2.1, (h.cq b hb).2.2.2.1, fun hm => ?_⟩, ⟨h.ql.1, fun hm => ?_⟩, ⟨h.mcl.1, fun hm => ?_⟩, ⟨h.mdl.1, fun hm => ?_⟩⟩
 ·simp only [List.mem_append, List.mem_cons] at hb ⊢
  rcases hb with hm | hm | hm | hm | hm | hm
  ·exact .inr (.inl hm)
  ·exact .inr (.inr (.inl hm))
  ·exact .inr (.inr (.inr (.inl hm)))
  ·exact .inr (.inr (.inr (.inr (.inl hm))))
  ·exact .inl hm
  ·exact .inr (.inr (.inr (.inr (.inr hm))))
 ·rcases List.mem_cons.1 hm with rfl | hm
  ·have := (h.own.lt b (Option.mem_toList.1 hb)).2; omega
  ·exact (h.cq b hb).2.2.2.2 hm
 ·rcases List.mem_cons.1 hm with rfl | hm
  ·omega
  ·exact h.ql.2 hm
 ·rcases List.mem_cons.1 hm with rfl | hm
  ·omega
  ·exact h.mcl.2 hm
 ·rcases List.mem_cons.1 hm with rfl | hm
  ·omega
  ·exact h.mdl.2 hm
theorem xne (h : zbs g x q mc md rv cv Y lo L P w) : x ≠ q ∧ x ≠ mc ∧ x ≠ md ∧ x ∉ cv.ownBlock.toList ∧ x ∉ L := by
 have h2n := h.lg.ni
 simp only [List.mem_append, List.mem_cons, not_or] at h2n
 exact ⟨h2n.2.1, h2n.2.2.1, h2n.2.2.2.1, h2n.1, h2n.2.2.2.2⟩
theorem setRow [hY : Thing Y] {rv2 : Value} {b : Bool} (h : zbs g x q mc md rv cv Y lo L P w) (hr : Coup.row w' q (plV g x P.G.size P.fr mc md rv2 b) 116) (ho : Only q w w') : zbs g x q mc md rv2 cv Y lo L { P with dead := b } w' :=
 ⟨h.lg.only ho (.inr (by simp)), hr, h.mch.only ho (Ne.symm h.qm), h.mdi.only ho (Ne.symm h.qd), h.own.kpd (Kp.za7 ho) (fun b hb e => by rw [List.mem_singleton.1 hb] at e; exact (h.cq q (by simp [e])).1 rfl), h.qm, h.qd, h.md', h.cq, h.ql, h.mcl, h.mdl⟩
theorem zjj [hY : Thing Y] {c : PgM} (h : zbs g x q mc md rv cv Y lo L P w) (hr : MapAt Tryz.prog 3 w' mc P.n (zdl c)) (ho : Only mc w w') : zbs g x q mc md rv cv Y lo L { P with ch := c } w' :=
 ⟨h.lg.only ho (.inr (by simp)), h.row.only ho h.qm, hr, h.mdi.only ho (Ne.symm h.md'), h.own.kpd (Kp.za7 ho) (fun b hb e => by rw [List.mem_singleton.1 hb] at e; exact (h.cq mc (by simp [e])).2.1 rfl), h.qm, h.qd, h.md', h.cq, h.ql, h.mcl, h.mdl⟩
theorem setDi [hY : Thing Y] {c : PgM} (h : zbs g x q mc md rv cv Y lo L P w) (hr : MapAt Tryz.prog 3 w' md P.n (zdl c)) (ho : Only md w w') : zbs g x q mc md rv cv Y lo L { P with di := c } w' :=
 ⟨h.lg.only ho (.inr (by simp)), h.row.only ho h.qd, h.mch.only ho h.md', hr, h.own.kpd (Kp.za7 ho) (fun b hb e => by rw [List.mem_singleton.1 hb] at e; exact (h.cq md (by simp [e])).2.2.1 rfl), h.qm, h.qd, h.md', h.cq, h.ql, h.mcl, h.mdl⟩
theorem zk2 [hY : Thing Y] {R : Rec} (h : zbs g x q mc md rv cv Y lo L P w) (hv : zaB w' 0 147 513 cv2 R.length (zb3 R)) (k : Kp cv.ownBlock.toList w w') (hf : ∀ b, cv2.ownBlock = some b → cv.ownBlock = some b ∨ w.heap.size ≤ b) : zbs g x q mc md rv cv2 Y lo L { P with cl := R } w' := by
 have hlt := h.lts
 have hx := h.xne
 have hloz := h.lo'
 have hLl := h.ltL
 have hG := h.lg.kpd k fun b hb => .inr (by simp [hb])
 have hS : ∀ b ∈ cv2.ownBlock.toList, b ∈ cv.ownBlock.toList ∨ w.heap.size ≤ b := fun b hb => (hf b (Option.mem_toList.1 hb)).imp (fun e => Option.mem_toList.2 e) id
 have hc2 : ∀ b ∈ cv2.ownBlock.toList, b ≠ q ∧ b ≠ mc ∧ b ≠ md ∧ lo ≤ b ∧ b ∉ L := fun b hb => (hS b hb).elim (h.cq b) fun hs => ⟨by omega, by omega, by omega, by omega, fun hm => by have := hLl b hm; omega⟩
 obtain ⟨⟨⟨B, C, h1, h2, h3, h4⟩, h5, h6⟩, h7, h8, h9⟩ := h.lg
 have hDl := fun b hb => (inferInstance : Thing (DZ g P.D)).lt h1 b hb
 have hYl := fun b hb => hY.lt h2 b hb
 refine ⟨⟨⟨⟨B, C, ?_, ?_, fun b hb => ⟨(h3 b hb).1, (h3 b hb).2.1, fun hm => ?_⟩, fun b hb => ⟨(h4 b hb).1, fun hm => ?_⟩⟩, Nat.le_trans h5 k.size, fun b hm => ?_⟩, hG.rowx, h8, fun hm => ?_⟩, h.row.kpd k fun hm => (h.cq q hm).1 rfl, h.mch.kpd k fun hm => (h.cq mc hm).2.1 rfl, h.mdi.kpd k fun hm => (h.cq md hm).2.2.1 rfl, hv, h.qm, h.qd, h.md', hc2, h.ql, h.mcl, h.mdl⟩
 ·exact (inferInstance : Thing (DZ g P.D)).kpd h1 k fun b hb hm => (h3 b hb).2.2 (by simp [hm])
 ·exact hY.kpd h2 k fun b hb hm => (h4 b hb).2 (by simp [hm])
 ·have h3b := (h3 b hb).2.2
  simp only [List.mem_cons, List.mem_append, not_or] at h3b hm
  rcases hm with hm | hm | hm | hm | hm | hm
  ·exact h3b.1 hm
  ·exact (hS b hm).elim h3b.2.1 fun hs => by have := hDl b hb; omega
  ·exact h3b.2.2.1 hm
  ·exact h3b.2.2.2.1 hm
  ·exact h3b.2.2.2.2.1 hm
  ·exact h3b.2.2.2.2.2 hm
 ·have h4b := (h4 b hb).2
  simp only [List.mem_cons, List.mem_append, not_or] at h4b hm
  rcases hm with hm | hm | hm | hm | hm | hm
  ·exact h4b.1 hm
  ·exact (hS b hm).elim h4b.2.1 fun hs => by have := hYl b hb; omega
  ·exact h4b.2.2.1 hm
  ·exact h4b.2.2.2.1 hm
  ·exact h4b.2.2.2.2.1 hm
  ·exact h4b.2.2.2.2.2 hm
 ·simp only [List.mem_cons, List.mem_append] at hm
  rcases hm with hm | hm | hm | hm | hm | hm
  ·exact Nat.lt_of_lt_of_le (h6 b (by simp [hm])) k.size
  ·exact (hv.lt b (Option.mem_toList.1 hm)).2
  ·exact Nat.lt_of_lt_of_le (h6 b (by simp [hm])) k.size
  ·exact Nat.lt_of_lt_of_le (h6 b (by simp [hm])) k.size
  ·exact Nat.lt_of_lt_of_le (h6 b (by simp [hm])) k.size
  ·exact Nat.lt_of_lt_of_le (h6 b (by simp [hm])) k.size
 ·simp only [List.mem_append, List.mem_cons] at hm
  rcases hm with hm | hm | hm | hm | hm
  ·refine (hS x hm).elim hx.2.2.2.1 fun hs => ?_
   have := h7.lt; omega
  ·exact hx.1 hm
  ·exact hx.2.1 hm
  ·exact hx.2.2.1 hm
  ·exact hx.2.2.2.2 hm
theorem setLg {D : Dk} {G : Lg} (h : zbs g x q mc md rv cv Y lo L P w) (hG : zd5 g x Y lo (cv.ownBlock.toList ++ q :: mc :: md :: L) D G w') (k : LoL lo (cv.ownBlock.toList ++ q :: mc :: md :: L) w w') (hs : G.size = P.G.size) (hD : D.V.length = P.D.V.length) : zbs g x q mc md rv cv Y lo L { P with D := D, G := G } w' := by
 have hn : ({ P with D := D, G := G } : Pl).n = P.n := by unfold Pl.n; dsimp only; rw [hs, hD]
 refine ⟨hG, ?_, ?_, ?_, h.own.kpd k.kp fun b hb e => zaq (.inr (by simp [e])) hb, h.qm, h.qd, h.md', h.cq, h.ql, h.mcl, h.mdl⟩
 ·dsimp only; rw [hs]; exact h.row.kpd k.kp (zaq (.inr (by simp)))
 ·rw [hn]; exact h.mch.kpd k.kp (zaq (.inr (by simp)))
 ·rw [hn]; exact h.mdi.kpd k.kp (zaq (.inr (by simp)))
theorem outLo (h : zbs g x q mc md rv cv Y lo L P w) (k : LoL lo (cv.ownBlock.toList ++ q :: mc :: md :: L) w w') : LoL lo L w w' := k.weak (Nat.le_refl _) fun b hb => by simp [hb]
theorem outC (h : zbs g x q mc md rv cv Y lo L P w) (k : Kp cv.ownBlock.toList w w') : LoL lo L w w' := LoL.ziT k fun b hb => .inl (h.cq b hb).2.2.2
end zbs
theorem zni [hY : Thing Y] {Pr : Program} {f : FuncId} {args : Array Value} {R : Value → Prop} {P' : Pl} (h : Two (PZ q P) Y lo L w)
  (hc : ∀ g x mc md cv, zbs g x q mc md cv cv Y lo L P w → Calls Pr f args w (Ret fun v w' => R v ∧ (∃ cv', zbs g x q mc md cv' cv' Y lo L P' w') ∧ LoL lo L w w')) : Calls Pr f args w (Ret fun v w' => R v ∧ Two (PZ q P') Y lo L w' ∧ LoL lo L w w') := by
 obtain ⟨g, x, mc, md, cv, hP⟩ := zfK h
 exact (hc g x mc md cv hP).to fun v w' ⟨h1, ⟨cv', h2⟩, h3⟩ => ⟨h1, zk1 h2, h3⟩
end
set_option maxRecDepth 20000 in
theorem deleteN (b : Nat) (n : Int) (w : World) (hb : row w b [.int .i64 n] 3) :
  Calls Tryz.prog 159 [.slice none 0 0, .func (.func 160) #[] #[.pointer (some ⟨b, 0, none⟩)]].toArray w (Ret fun v w' => v = .slice none 0 0 ∧ Below w.heap.size w w') := by
 have hB := Below.refl w.heap.size w
 have hs0 : zaT w none 0 513 (zb3 []) := (zbI w 0 147 513).sl
 have hix := fun w' (h : zaT w' none 0 513 (zb3 [])) (hb : row w' b [.int .i64 n] 3) => indexB [] (fun _ h => nomatch h) none 0 0 rfl b n w' h hb
 rw [if_neg (by simp)] at hix
 refine zas (fn := Tryz.f159) (rs := [.tmp 4]) (n := 42) Tryz.func159 rfl rfl Tryz.ntmps159 (by kernel_rfl) rfl ?_
 refine zaf (zaa (zad (zac) (zae (zah (zaf (zaa (zad (zab) (zad (zab) ?_))))))))
 refine zao rfl (zaj (by kernel_rfl) rfl) (hix w hs0 hb) ?_
 rintro _ w10 ⟨rfl, hb10⟩
 replace hB := hB.acc hb10
 refine zad (zac) (zae (zah (zaf (zaf (zaa (zad (zab) ?_))))))
 refine zad (za9 rfl rfl) ?_
 refine zae (zah ?_)
 refine ze6 rfl (rfl) ?_
 refine zaf (zaa (zad (zab) (zad (zac) (zae (zah (zaz (zaP ?_)))))))
 refine zam [_] ⟨rfl, trivial⟩ ?_
 exact ⟨rfl, hB⟩
section
variable {Y : World → List Nat → Prop} [Thing Y] {g x q mc md lo : Nat} {rv cv : Value} {L : List Nat} {P : Pl} {w : World}
set_option maxRecDepth 20000 in
theorem pagesP (h : zbs g x q mc md rv cv Y lo L P w) (hsz : P.G.size ≤ 4000) : Calls Tryz.prog 36 [.pointer (some ⟨q, 0, none⟩)].toArray w (Ret fun v w' => v = .int .i64 (P.n : Int) ∧ Below w.heap.size w w') := by
 have hB := Below.refl w.heap.size w
 have hC := fun w' (h' : zbs g x q mc md rv cv Y lo L P w') => countP h'.lg.fst (P.G.size : Int) ⟨by omega, by omega⟩
 have hq := h.row
 unfold plV at hq
 unfold Pl.n
 refine zas (fn := Tryz.f36) (rs := [.tmp 2]) (n := 21) Tryz.func36 rfl rfl Tryz.ntmps36 (by kernel_rfl) rfl ?_
 refine zaf (zaa (zad (zac) (zae (zah (zaf (zaf (zaa (zad (zab) ?_))))))))
 refine zad (zch (by kernel_rfl) rfl rfl) ?_
 refine zad (zab) ?_
 refine zn3 5 rfl (rfl) ?_
 refine zan rfl (zad (zab) (zan rfl (zad (zak rfl) (zan rfl (zad (zav 0) (zan rfl ?_))))))
 refine zad (zax hq) ?_
 refine zan rfl ?_
 refine zad (zch (by kernel_rfl) rfl rfl) ?_
 refine zad (zaw rfl) (zae (zah ?_))
 refine zjC rfl (rfl) ?_
 refine zau (zah (zaf ?_))
 refine za5 [] (by kernel_rfl) ?_
 intro w901 hb901 hS901
 replace h := h.new hb901
 replace hq := hq.new hb901
 replace hB := hB.acc hb901
 have h_d901 := h
 have hq_d901 := hq
 refine zat 0 (zab) ?_
 refine zat 1 (zak rfl) ?_
 refine zat 2 (zav 0) ?_
 refine zbp 3 (fun w' hS' => zax (hq_d901.kq hS')) ?_
 refine zat 4 (zab) ?_
 refine zat 5 (zak rfl) ?_
 refine zat 6 (zav 2) ?_
 refine zbp 7 (fun w' hS' => zax (hq_d901.kq hS')) ?_
 refine zdA 8 (by kernel_rfl) rfl (fun _ => zaj (by kernel_rfl) rfl) (fun w' hS' => hC w' (h_d901.kpd hS' (by first | (simp; done) | (simp; omega) | (simp [*]; done) | exact zaq (Or.inl (by omega)) | exact zaq (Or.inr (by simp)) | exact fun g hm => Nat.le_trans (by omega) (zcs hm).1 | (intro b o e; cases e; exact zaq (Or.inl (by omega))) | (intro b hm; have := (hu.lt b (Option.mem_toList.1 hm)).1; omega) | (intro b o e; cases e; intro hm; have := (hu.lt _ (Option.mem_toList.1 hm)).1; omega) | assumption))) ?_
 refine zat 9 (zac) ?_
 refine zaL (by kernel_rfl) ?_
 refine zah (zaz ?_)
 refine zam [_] ⟨rfl, trivial⟩ ?_
 exact ⟨rfl, hB⟩
def zcX (P : Pl) (n : Int) : Int := if P.dead then 10 else if 0 ≤ n ∧ n < (P.n : Int) then 0 else 2
set_option maxRecDepth 20000 in
theorem zjk (h : zbs g x q mc md rv cv Y lo L P w) (hsz : P.G.size ≤ 4000) (n : Int) : Calls Tryz.prog 66 [.pointer (some ⟨q, 0, none⟩), .int .i64 n].toArray w (Ret fun v w' => v = .int .i64 (zcX P n) ∧ Below w.heap.size w w') := by
 have hB := Below.refl w.heap.size w
 have hC := fun w' (h' : zbs g x q mc md rv cv Y lo L P w') => pagesP h' hsz
 have hq := h.row
 obtain ⟨de, hde⟩ : ∃ de, P.dead = de := ⟨_, rfl⟩
 obtain ⟨N, hN⟩ : ∃ N, P.n = N := ⟨_, rfl⟩
 unfold plV at hq
 unfold zcX
 rw [hde] at hq ⊢
 rw [hN] at hC ⊢
 refine zas (fn := Tryz.f66) (rs := [.tmp 4]) (n := 29) Tryz.func66 rfl rfl Tryz.ntmps66 (by kernel_rfl) rfl ?_
 refine zaf (zaa (zad (zac) (zae (zah (zaf (zaE (zaf (zaa (zad (zab) ?_)))))))))
 refine zad (zch (by kernel_rfl) rfl rfl) ?_
 refine zad (zab) ?_
 refine zn3 8 rfl (rfl) ?_
 refine zan rfl (zad (zab) (zan rfl (zad (zak rfl) (zan rfl (zad (zav 0) (zan rfl ?_))))))
 refine zad (zax hq) ?_
 refine zan rfl ?_
 refine zad (zch (by kernel_rfl) rfl rfl) ?_
 refine zad (zaw rfl) (zad (zac) (zae (zah ?_)))
 refine zjC rfl (rfl) ?_
 refine zaf (zaa (zad (zab) (zad (zak rfl) (zad (zav 7) ?_))))
 refine zad (zax hq) ?_
 refine zad (zac) (zae (zah ?_))
 refine zjB rfl (fun hd => ?_) (fun hd => ?_)
 ·
  refine zaf (zaa (zad (zac) (zae (zah (zaz (zbd (zaP ?_)))))))
  refine zam [_] ⟨rfl, trivial⟩ ?_
  subst hd
  exact ⟨rfl, hB⟩
 ·
  have hf : de = false := by cases de with | false => rfl | true => cases hd
  subst hf
  refine zaf (zaa (zad (zab) ?_))
  refine zad (za2 rfl rfl) ?_
  refine zad (zab) ?_
  refine zb8 23 rfl (fun hlt => ?_) (fun hlt => ?_)
  ·
   refine zaK rfl rfl (zaK rfl rfl (zaK rfl rfl (zaK rfl rfl (zad (zaA rfl) (zad (zac) (zae (zah ?_)))))))
   refine zin rfl (rfl) ?_
   refine zaf (zaa (zad (zac) (zae (zah (zaz (zbd (zaP ?_)))))))
   refine zam [_] ⟨rfl, trivial⟩ ?_
   exact ⟨by rw [if_neg (by simp), if_neg (by omega)]; rfl, hB⟩
  ·
   refine zan rfl (zad (zab) (zan rfl (zad (zab) (zan rfl ?_))))
   refine zao rfl (zaj (by kernel_rfl) rfl) (hC w h) ?_
   rintro _ w26 ⟨rfl, hb26⟩
   replace hB := hB.acc hb26
   refine zan rfl ?_
   refine zad (zc2 rfl rfl) ?_
   refine zad (zaw rfl) (zad (zac) (zae (zah ?_)))
   refine zbf rfl (fun hge => ?_) (fun hge => ?_)
   ·
    refine zaf (zaa (zad (zac) (zae (zah (zaz (zbd (zaP ?_)))))))
    refine zam [_] ⟨rfl, trivial⟩ ?_
    exact ⟨by rw [if_neg (by simp), if_neg (by omega)]; rfl, hB⟩
   ·
    refine zau (za6 (zah (zaf (zaa (zad (zac) (zae (zah (zaz ?_))))))))
    refine zam [_] ⟨rfl, trivial⟩ ?_
    exact ⟨by rw [if_neg (by simp), if_pos (by omega)]; rfl, hB⟩
set_option maxRecDepth 20000 in
theorem keepP (h : zbs g x q mc md rv cv Y lo L P w) (e : Int) : Calls Tryz.prog 117 [.pointer (some ⟨q, 0, none⟩), .int .i64 e].toArray w (Ret fun v w' => v = .int .i64 e ∧ zbs g x q mc md rv cv Y lo L { P with dead := P.dead || decide (e = 10) } w' ∧ LoL lo L w w') := by
 have hLL := LoL.refl lo L w
 have hq := h.row
 obtain ⟨hql, hqL⟩ := h.ql
 obtain ⟨D, G, fr, ch, di, cl, de⟩ := P
 unfold plV at hq
 dsimp only at hq ⊢
 refine zas (fn := Tryz.f117) (rs := [.tmp 4]) (n := 17) Tryz.func117 rfl rfl Tryz.ntmps117 (by kernel_rfl) rfl ?_
 refine zaf (zaa (zad (zac) (zae (zah (zaf (zaa (zad (zab) (zad (zab) (zad (zak rfl) (zad (zav 7) ?_))))))))))
 refine zad (zax hq) ?_
 refine zad (zab) ?_
 refine zep 10 rfl (fun hd => ?_) (fun hd => ?_)
 ·
  refine zaK rfl rfl (zaK rfl rfl ?_)
  subst hd
  refine zad (zaA rfl) (zad (zak rfl) (zad (zav 7) ?_))
  refine zaG rfl (zbg hq (fun w901 hq ho901 => ?_))
  replace hLL := hLL.oq ho901
  have hP := h.setRow hq ho901
  refine zae (zah (zaf (zaa (zad (zab) (zad (zac) (zae (zah (zaz ?_))))))))
  refine zam [_] ⟨rfl, trivial⟩ ?_
  exact ⟨rfl, hP, hLL⟩
 ·
  have hf : de = false := by cases de with | false => rfl | true => cases hd
  subst hf
  refine zan rfl (zad (zab) (zan rfl ?_))
  refine zad (za9 rfl rfl) ?_
  refine zad (zaw rfl) (zad (zak rfl) (zad (zav 7) ?_))
  refine zaG rfl (zbg hq (fun w902 hq ho902 => ?_))
  replace hLL := hLL.oq ho902
  have hP := h.setRow hq ho902
  refine zae (zah (zaf (zaa (zad (zab) (zad (zac) (zae (zah (zaz ?_))))))))
  refine zam [_] ⟨rfl, trivial⟩ ?_
  exact ⟨rfl, hP, hLL⟩
set_option maxRecDepth 20000 in
theorem forgetN (h : zbs g x q mc md cv cv Y lo L P w) (hcv : cv = .slice none 0 0) (h0 : P.cl.length = 0) (n : Int) : Calls Tryz.prog 123 [.pointer (some ⟨q, 0, none⟩), .int .i64 n].toArray w (Ret fun v w' => v = .tuple #[] ∧ (∃ cv', zbs g x q mc md cv' cv' Y lo L { P with cl := without P.cl n } w') ∧ LoL lo L w w') := by
 have hLL := LoL.refl lo L w
 have hq := h.row
 obtain ⟨hql, hqL⟩ := h.ql
 unfold plV at hq
 subst hcv
 have hcl : P.cl = [] := List.eq_nil_of_length_eq_zero h0
 have hwo : without P.cl n = P.cl := by rw [hcl]; rfl
 rw [hwo]
 refine zas (fn := Tryz.f123) (rs := []) (n := 13) Tryz.func123 rfl rfl Tryz.ntmps123 (by kernel_rfl) rfl ?_
 refine zaf (zaa ?_)
 refine zay rfl (zaU ([_]) rfl (fun g3 w3 hg3 hr3 hb3 => ?_))
 replace h := h.newc hb3 hg3 hr3.lt
 replace hLL := hLL.new hb3
 replace hq := hq.new hb3
 refine zae (zah (zaa (zad (zab) (zad (zab) (zad (zak rfl) (zad (zav 6) ?_))))))
 refine zad (zax hq) ?_
 refine zad (zaW) ?_
 refine zao rfl (zaj (by kernel_rfl) rfl) (deleteN _ n w3 hr3) ?_
 rintro _ w10 ⟨rfl, hb10⟩
 replace h := h.new hb10
 replace hLL := hLL.new hb10
 replace hq := hq.new hb10
 refine zad (zak rfl) (zad (zav 6) ?_)
 refine zaG rfl (zbg hq (fun w901 hq ho901 => ?_))
 replace hLL := hLL.oq ho901
 have hP := h.setRow hq ho901
 refine zae ?_
 refine zbr [] trivial ?_
 exact ⟨rfl, ⟨_, hP.weak (fun b hb => List.mem_cons_of_mem _ hb)⟩, hLL⟩
set_option maxRecDepth 20000 in
theorem forgetO {gc o c : Nat} (h : zbs g x q mc md cv cv Y lo L P w) (hcv : cv = .slice (some ⟨gc, o, none⟩) P.cl.length c) (hR : zce P.cl) (n : Int) : Calls Tryz.prog 123 [.pointer (some ⟨q, 0, none⟩), .int .i64 n].toArray w (Ret fun v w' => v = .tuple #[] ∧ (∃ cv', zbs g x q mc md cv' cv' Y lo L { P with cl := without P.cl n } w') ∧ LoL lo L w w') := by
 have hLL := LoL.refl lo L w
 have hq := h.row
 obtain ⟨hql, hqL⟩ := h.ql
 unfold plV at hq
 subst hcv
 have hgl : gc < w.heap.size := zed.lt h.own
 have hcq := h.cq gc (List.mem_cons_self ..)
 have hgL : ∀ b ∈ [gc], (lo ≤ b ∧ b ∉ L) ∨ w.heap.size ≤ b := fun b hb => .inl (by rw [List.mem_singleton.1 hb]; exact ⟨hcq.2.2.2.1, hcq.2.2.2.2⟩)
 have hqg : q ≠ gc := Ne.symm hcq.1
 refine zas (fn := Tryz.f123) (rs := []) (n := 13) Tryz.func123 rfl rfl Tryz.ntmps123 (by kernel_rfl) rfl ?_
 refine zaf (zaa ?_)
 refine zay rfl (zaU ([_]) rfl (fun g3 w3 hg3 hr3 hb3 => ?_))
 replace h := h.newc hb3 hg3 hr3.lt
 replace hLL := hLL.new hb3
 replace hq := hq.new hb3
 refine zae (zah (zaa (zad (zab) (zad (zab) (zad (zak rfl) (zad (zav 6) ?_))))))
 refine zad (zax hq) ?_
 refine zad (zaW) ?_
 refine zao rfl (zaj (by kernel_rfl) rfl) (deleteB P.cl hR gc o P.cl.length c 0 rfl _ n w3 h.own hr3 (by omega)) ?_
 rintro _ w10 ⟨rfl, hown, hb10⟩
 replace h := h.zk2 hown hb10.k (fun b e => Or.inl e)
 replace hLL := hLL.kpd hb10.k hgL
 replace hq := hq.kpd hb10.k (by first | (simp; done) | (simp; omega))
 refine zad (zak rfl) (zad (zav 6) ?_)
 refine zaG rfl (zbg hq (fun w901 hq ho901 => ?_))
 replace hLL := hLL.oq ho901
 have hP := h.setRow hq ho901
 refine zae ?_
 refine zbr [] trivial ?_
 exact ⟨rfl, ⟨_, hP.weak (fun b hb => List.mem_cons_of_mem _ hb)⟩, hLL⟩
theorem forgetP (h : zbs g x q mc md cv cv Y lo L P w) (hR : zce P.cl) (n : Int) : Calls Tryz.prog 123 [.pointer (some ⟨q, 0, none⟩), .int .i64 n].toArray w (Ret fun v w' => v = .tuple #[] ∧ (∃ cv', zbs g x q mc md cv' cv' Y lo L { P with cl := without P.cl n } w') ∧ LoL lo L w w') := by
 rcases h.own.2 with ⟨hcv, h0⟩ | ⟨gc, o, c, cur, hcv, _⟩
 ·exact forgetN h hcv h0 n
 ·exact forgetO h hcv hR n
end
end Go.Proofs.YtdbogkndglbffaaGreat
namespace Coup
open Go Go.RowKit Go.Maps
open Go.WideElems (Fit rd rg pl rd_val elemAt)
section
variable {P : Program} {ρ : Env} {w : World} {d : Option Nat} {ty : TypeId} {pos : String} {af : Array Edge} {gd : Option (Nat × Bool)} {K : Value → World → Prop}
theorem znj {t k e : TypeId} {x : Operand} {m N : Nat} {f : Nat → Option Value} (ht : P.underlying t = some (.map k e)) (hm : MapAt P k w m N f) (hx : ev ρ x = .map (some m)) :
  (execOp (ev ρ) ⟨d, .call ⟨.builtin .len, #[x], #[t]⟩, ty, pos, af, gd⟩).run P w = .ok (.value (.int .i64 ((kvL f 0 N).length : Int))) w := by
 obtain ⟨es, clock, hb, F, hs, hD⟩ := hm
 have h1 := Go.MapKept.run_getObj_map (P := P) hb
 have he : (kvL f 0 N).length = es.size := by
  have h2 : kvL f 0 N = (es.toList.map (rg P k RH)).foldr DataW.insert [] := by injection hD
  rw [h2, length_read]
 rw [he]
 simp [execOp, resolve, invoke, builtin, Builtin.len_, hx, run_underlying ht, h1, goInt, Result.andThen]
theorem zcS {t k e : TypeId} {x y : Operand} {m N : Nat} {f : Nat → Option Value} {a : Int} (z : Value) (o : Option Value) (ht : P.underlying t = some (.map k e)) (hk : P.underlying k = some (.int .i64)) (hz : ∀ w, (zeroValue e).run P w = .ok z w)
  (hm : MapAt P k w m N f) (hx : ev ρ x = .map (some m)) (hy : ev ρ y = .int .i64 a) (i : Nat) (ha : a = (i : Int)) (hi : i < N) (hN : N ≤ 1000000) (hf : f i = o) :
  (execOp (ev ρ) ⟨d, .lookup t x y true, ty, pos, af, gd⟩).run P w = .ok (.value (.tuple #[o.getD z, .bool o.isSome])) w := by
 subst ha
 subst hf
 obtain ⟨es, clock, hb, F, hs, hD⟩ := hm
 have hkey := keyOf_int_mk hk (zkP (i := i) (by omega))
 have hat : ∀ zd : DataW Value, DataW.atKey (.map (kvL f 0 N)) (.int .i64 (i : Int)) zd = ((f i).map DataW.held).getD zd := fun zd => by
  unfold DataW.atKey
  simp only [zf7 N 0 (Nat.zero_le _) (by omega : i < 0 + N)]
  cases f i <;> rfl
 rw [hD] at hat
 rcases Maps.fit_look true (int_keyed hk) ht (hz w) hb F hkey with ⟨hrun, _, hat2⟩ | ⟨e0, y, _, _, hrun, hRv, hat2, _⟩
 ·have hn : f i = none := by
   cases hfi : f i with
   | none => rfl
   | some v =>
    have h1 := (hat (.held (.bool true))).symm.trans (hat2 (.held (.bool true)))
    have h2 := (hat (.held (.bool false))).symm.trans (hat2 (.held (.bool false)))
    rw [hfi] at h1 h2
    have h3 : DataW.held (H := Value) (.bool true) = .held (.bool false) := h1.symm.trans h2
    injection h3 with h3
    injection h3 with h3
    cases h3
  rw [hn]
  simp [execOp, hx, hy, hrun, Result.andThen]
 ·have hn : f i = some e0.val := by
   have hy1 : y = (.held e0.val, []) := by
    have h1 : some (DataW.held e0.val, ([] : List MemPlace)) = some y := hRv
    injection h1 with h1
    exact h1.symm
   have h1 := fun zd => (hat zd).symm.trans (hat2 zd)
   rw [hy1] at h1
   cases hfi : f i with
   | none =>
    rw [hfi] at h1
    have h2 : DataW.held (H := Value) (.bool true) = .held (.bool false) := (h1 (.held (.bool true))).trans (h1 (.held (.bool false))).symm
    injection h2 with h2
    injection h2 with h2
    cases h2
   | some v =>
    rw [hfi] at h1
    have h2 : DataW.held (H := Value) v = .held e0.val := h1 (.held v)
    injection h2 with h2
    rw [h2]
  rw [hn]
  simp [execOp, hx, hy, hrun, Result.andThen]
theorem znk {t i0 i1 i2 i3 i4 i5 : Nat} {x0 x1 x2 x3 x4 x5 : Operand} (v0 v1 v2 v3 v4 v5 : Value) (cs : List Value) (h0 : ev ρ x0 = v0) (h1 : ev ρ x1 = v1) (h2 : ev ρ x2 = v2) (h3 : ev ρ x3 = v3) (h4 : ev ρ x4 = v4) (h5 : ev ρ x5 = v5)
  (hb : P.built t [(i0, v0), (i1, v1), (i2, v2), (i3, v3), (i4, v4), (i5, v5)] = some cs.toArray) :
  (execOp (ev ρ) ⟨d, .build t #[(i0, x0), (i1, x1), (i2, x2), (i3, x3), (i4, x4), (i5, x5)], ty, pos, af, gd⟩).run P w = .ok (.value (.agg cs.toArray)) w := by
 have := run_build (P := P) w t #[(i0, v0), (i1, v1), (i2, v2), (i3, v3), (i4, v4), (i5, v5)] cs.toArray (by simpa using hb)
 simp only [execOp, List.map_toArray, List.map_cons, List.map_nil, h0, h1, h2, h3, h4, h5, Sem.run_bind, this, Result.andThen_ok]
 rfl
end
end Coup
namespace Go.Proofs.YtdbogkndglbffaaGreat
open Go Go.RowKit Coup
def zie (c : PgM) (n : Nat) : List Int := keysOf (zdl c) 0 n
def numsP (R : Rec) : List Int := R.map (·.num)
theorem znl (n : Nat) (s : Int) : 4 * zfZ n s ≤ n := by
 unfold zfZ
 split <;> omega
def NewI (w : World) (l : List Int) (v : Value) (w' : World) : Prop := ∃ p c, v = .slice p l.length c ∧ zaT w' p l.length 1 (iv l) ∧ ∀ b o, p = some ⟨b, o, none⟩ → w.heap.size ≤ b
section
variable {Y : World → List Nat → Prop} [Thing Y] {g x q mc md lo : Nat} {rv cv : Value} {L : List Nat} {P : Pl} {w : World}
omit [Thing Y] in
theorem zbs.nle (h : zbs g x q mc md rv cv Y lo L P w) : P.n ≤ 2048 ∧ P.D.V.length ≤ 8192 := by
 have h1 := (tOk h.lg.fst).1.n
 have h2 := znl P.D.V.length P.G.size
 unfold Pl.n
 exact ⟨by omega, h1⟩
set_option maxRecDepth 20000 in
theorem dirtyP (h : zbs g x q mc md rv cv Y lo L P w) : Calls Tryz.prog 153 [.pointer (some ⟨q, 0, none⟩)].toArray w (Ret fun v w' => NewI w (zie P.di P.n) v w' ∧ Below w.heap.size w w') := by
 have hB := Below.refl w.heap.size w
 have hN := h.nle.1
 have hq := h.row
 unfold plV at hq
 refine zas (fn := Tryz.f153) (rs := [.tmp 2]) (n := 10) Tryz.func153 rfl rfl Tryz.ntmps153 (by kernel_rfl) rfl ?_
 refine zaf (zaa (zad (zac) (zae (zah (zaf (zaf (zaa (zad (zab) ?_))))))))
 refine zad (zch (by kernel_rfl) rfl rfl) ?_
 refine zae (zah ?_)
 refine zjC rfl (rfl) ?_
 refine zau (zah (zaf (zaa (zad (zab) (zad (zak rfl) (zad (zav 5) ?_))))))
 refine zad (zax hq) ?_
 refine zao rfl (zaj (by kernel_rfl) rfl) (keysF w h.mdi (by omega)) ?_
 rintro _ w9 ⟨⟨p, c, rfl, hsl, hpb⟩, hb9⟩
 replace h := h.new hb9
 replace hq := hq.new hb9
 replace hB := hB.acc hb9
 refine zad (zac) (zae (zah (zaz ?_)))
 refine zam [_] ⟨rfl, trivial⟩ ?_
 exact ⟨⟨p, c, rfl, hsl, hpb⟩, hB⟩
set_option maxRecDepth 20000 in
omit [Thing Y] in
theorem deadP (h : zbs g x q mc md rv cv Y lo L P w) : Calls Tryz.prog 91 [.pointer (some ⟨q, 0, none⟩)].toArray w (Ret fun v w' => v = .bool P.dead ∧ w = w') := by
 have hq := h.row
 unfold plV at hq
 refine zas (fn := Tryz.f91) (rs := [.tmp 2]) (n := 11) Tryz.func91 rfl rfl Tryz.ntmps91 (by kernel_rfl) rfl ?_
 refine zaf (zaa (zad (zac) (zae (zah (zaf (zaa (zad (zab) ?_)))))))
 refine zad (zog (by kernel_rfl) rfl rfl) ?_
 refine zad (zab) ?_
 refine WR_tb 5 rfl (rfl) ?_
 refine zan rfl (zad (zab) (zan rfl (zad (zak rfl) (zan rfl (zad (zav 7) (zan rfl ?_))))))
 refine zad (zax hq) ?_
 refine zad (zaA rfl) (zad (zac) (zae (zah (zaz ?_))))
 refine zam [_] ⟨rfl, trivial⟩ ?_
 exact ⟨rfl, rfl⟩
omit [Thing Y] in
theorem zbs.cvIs (h : zbs g x q mc md rv cv Y lo L P w) : ∃ p c, cv = .slice p P.cl.length c ∧ zaT w p P.cl.length 513 (zb3 P.cl) := by
 have ho := h.own
 rcases h.own.2 with ⟨rfl, h0⟩ | ⟨gc, o, c, cur, hcv, _⟩
 ·rw [h0] at ho ⊢; exact ⟨none, 0, rfl, ho.sl⟩
 ·subst hcv; exact ⟨_, c, rfl, ho.sl⟩
end
def frameC (fr : Nat) (R : Rec) (n : Int) (X : Pg) : Rec := if fr < (without R n ++ ([⟨n, X⟩] : Rec)).length then (without R n ++ ([⟨n, X⟩] : Rec)).drop 1 else without R n ++ [⟨n, X⟩]
theorem zfL {R : Rec} (h : zce R) (n : Int) : zce (without R n) := fun c hc => h c (List.mem_filter.1 hc).1
theorem zeX (R : Rec) (n : Int) : (without R n).length ≤ R.length := List.length_filter_le _ _
theorem znm {R : Rec} (h : zce R) {n : Int} {X : Pg} (hX : X.length = 512) : zce (R ++ [⟨n, X⟩]) := fun c hc => by
 rcases List.mem_append.1 hc with hc | hc
 ·exact h c hc
 ·rw [List.mem_singleton.1 hc]; exact hX
theorem znn {fr : Nat} {R : Rec} (h : zce R) (hl : R.length ≤ fr) (n : Int) {X : Pg} (hX : X.length = 512) : zce (frameC fr R n X) ∧ (frameC fr R n X).length ≤ fr := by
 have h1 := znm (zfL h n) (n := n) hX
 have h2 := zeX R n
 unfold frameC
 split
 ·exact ⟨fun c hc => h1 c (List.mem_of_mem_drop hc), by rw [List.length_drop, List.length_append, List.length_singleton]; omega⟩
 ·exact ⟨h1, by omega⟩
section
variable {Y : World → List Nat → Prop} [Thing Y] {g x q mc md lo : Nat} {rv cv : Value} {L : List Nat} {P : Pl} {w : World}
omit [Thing Y] in
theorem zbs.zoD (h : zbs g x q mc md rv cv Y lo L P w) (h0 : 0 < P.cl.length) : ∃ gc o c, cv = .slice (some ⟨gc, o, none⟩) P.cl.length c ∧ zed w 0 147 513 gc o P.cl.length c (zb3 P.cl) := by
 have ho := h.own
 rcases h.own.2 with ⟨_, h1⟩ | ⟨gc, o, c, cur, hcv, _⟩
 ·omega
 ·subst hcv; exact ⟨gc, o, c, rfl, ho⟩
theorem zoE (R : Rec) (hR : zce R) (g o c : Nat) (h2 : 2 ≤ R.length) (w : World) (h : zed w 0 147 513 g o R.length c (zb3 R)) :
 Calls Tryz.prog 148 [.slice (some ⟨g, o, none⟩) R.length c, .int .i64 0, .int .i64 1].toArray w (Ret fun v w' => v = .slice (some ⟨g, o, none⟩) (R.drop 1).length c ∧ zed w' 0 147 513 g o (R.drop 1).length c (zb3 (R.drop 1)) ∧ KpB [g] w w') := deleteF R hR g o R.length c 0 rfl h2 w h
set_option maxRecDepth 20000 in
set_option maxHeartbeats 1000000 in
theorem frameP (h : zbs g x q mc md cv cv Y lo L P w) (hR : zce P.cl) (hl : P.cl.length ≤ P.fr) (hf2 : 2 ≤ P.fr) (hfm : P.fr ≤ 100) (n : Int) (X : Pg) (hX : X.length = 512) :
   Calls Tryz.prog 114 [.pointer (some ⟨q, 0, none⟩), .int .i64 n, .agg (bv X).toArray].toArray w (Ret fun v w' => v = .tuple #[] ∧ (∃ cv', zbs g x q mc md cv' cv' Y lo L { P with cl := frameC P.fr P.cl n X } w') ∧ LoL lo L w w') := by
 have hLL := LoL.refl lo L w
 have hml : maxLen = 9223372036854775807 := by decide
 obtain ⟨hql, hqL⟩ := h.ql
 have hXb : (bv X).length = 512 := by rw [zal]; exact hX
 have hchl : (chV ⟨n, X⟩).length = 1 * 513 := zej hX
 have hch1 := zeU ⟨n, X⟩
 have hRw := zfL hR n
 have hwl := zeX P.cl n
 have hfg := fun L' w' (h' : zbs g x q mc md cv cv Y lo L' P w') => forgetP h' hR n
 unfold frameC
 obtain ⟨T, hT⟩ : ∃ T, without P.cl n = T := ⟨_, rfl⟩
 simp only [hT] at hfg hRw hwl ⊢
 have hRs := znm hRw (n := n) hX
 have hTl : (T ++ [(⟨n, X⟩ : Ch)]).length = T.length + 1 := by rw [List.length_append, List.length_singleton]
 have hTp : 0 < (T ++ [(⟨n, X⟩ : Ch)]).length := by omega
 refine zas (fn := Tryz.f114) (rs := []) (n := 39) Tryz.func114 rfl rfl Tryz.ntmps114 (by kernel_rfl) rfl ?_
 refine zaf (zaa ?_)
 refine zay rfl (zaU (bv X) rfl (fun g5 w5 hg5 hr5 hb5 => ?_))
 replace h := h.newc hb5 hg5 hr5.lt
 replace hLL := hLL.new hb5
 refine zae (zah (zaf (zaa (zad (zab) (zad (zab) ?_)))))
 refine zao rfl (zaj (by kernel_rfl) rfl) (hfg _ w5 h) ?_
 rintro _ w8 ⟨rfl, ⟨cv2, h⟩, hb8⟩
 replace hLL := hLL.lq hb8
 replace hr5 := hr5.kl hb8
 refine zae (zah ?_)
 refine zmf (fun _ : Unit => [(0, .pointer (some ⟨q, 0, none⟩))]) (fun _ w' => (∃ cv3, zbs g x q mc md cv3 cv3 Y lo (g5 :: L) { P with cl := T ++ [⟨n, X⟩] } w') ∧ LoL lo L w w') ?_ ?_
 ·
  have hq := h.row
  have hown := h.own
  unfold plV at hq
  dsimp only at hq hown
  have hg5c : g5 ∉ cv2.ownBlock.toList := fun hm => (h.cq g5 hm).2.2.2.2 (List.mem_cons_self ..)
  have hg5q : g5 ≠ q := fun e => h.ql.2 (e ▸ List.mem_cons_self ..)
  refine za5 ((q :: cv2.ownBlock.toList)) (by kernel_rfl) ?_
  intro w901 hb901 hS901
  replace h := h.new hb901
  replace hLL := hLL.new hb901
  replace hr5 := hr5.new hb901
  replace hq := hq.new hb901
  replace hown := hown.new hb901
  have hr5_d901 := hr5
  refine zat 0 (zab) ?_
  refine zat 1 (zab) ?_
  refine zat 2 (zak rfl) ?_
  refine zat 3 (zav 6) ?_
  refine zat 5 (zab) ?_
  refine zbp 6 (fun w' hS' => zbc 512 (hr5_d901.kq hS')) ?_
  refine zat 7 (zht hX rfl rfl rfl) ?_
  refine zd9 4 8 (by kernel_rfl) ?_ ?_
  ·
   refine zfS rfl rfl (zax hq) hS901 ?_
   refine zaH 8 (by kernel_rfl) ?_
   refine zco rfl rfl (zdF (e := 147) (.agg (chV ⟨n, X⟩).toArray) (chV ⟨n, X⟩) (([Value.int .i64 0]) ++ (List.replicate 512 (Value.int .u8 0))) 513 (by kernel_rfl) (by kernel_rfl) rfl rfl (by first | rfl | (simp; done) | (simp [zal, *]; done)) ⟨by decide, by decide⟩ (fun g17 w17 hg17 hr17 hb17 => ?_))
   have hS903 := hS901.add0 hb17
   refine ⟨hS903, ?_⟩
   replace h := h.newc hb17 hg17 hr17.lt
   replace hLL := hLL.new hb17
   replace hq := hq.new hb17
   replace hown := hown.new hb17
   refine zaH 9 (by kernel_rfl) ?_
   have hs17 := hr17.slA (m := 1) (sz := 513) hchl (by omega)
   refine zco rfl rfl (zbq (v := cv2) (e := 147) (sz := 513) (bytes := 520) (z := .agg (([Value.int .i64 0]) ++ (List.replicate 512 (Value.int .u8 0))).toArray) (by kernel_rfl) rfl (by kernel_rfl) rfl (by decide) rfl hown rfl hs17 hch1 (by omega) (by omega) (fun hm0 => Nat.zero_le _) (fun v18 w18 hv18 hgr18 hfr18 => ?_))
   rw [← zgE, ← hTl] at hv18
   have hgr : w17.grownBy w18 cv2.ownBlock := hgr18
   have hfr : ∀ g, v18.ownBlock = some g → cv2.ownBlock = some g ∨ w17.heap.size ≤ g := hfr18
   clear hgr18 hfr18
   have hk18 := (Kp.za8 hgr).weak (N := q :: cv2.ownBlock.toList) (fun _ _ hm => List.mem_cons_of_mem _ hm)
   have hl18 := h.outC (Kp.za8 hgr)
   have h2 : zbs g x q mc md cv2 v18 Y lo (g17 :: g5 :: L) { P with cl := T ++ [⟨n, X⟩] } w18 := h.zk2 hv18 (Kp.za8 hgr) hfr
   clear h
   have h := h2
   clear h2
   have hvi := h.zoD hTp
   obtain ⟨gn, on, cn, hvn, hown2⟩ := hvi
   subst hvn
   replace hLL := hLL.ll (hl18.weak (L2 := L) (Nat.le_refl _) (fun b hb => by simp [hb])) (fun b hb => hb)
   replace hq := h.row
   unfold plV at hq
   have hS904 := hS903.trans hk18
   refine ⟨hS904, ?_⟩
   refine zat 10 (zak rfl) ?_
   refine zat 11 (zav 6) ?_
   refine zaH 12 (by kernel_rfl) ?_
   refine zbO rfl rfl (zbg hq (fun w906 hq ho906 => ?_))
   have hS905 := hS904.aq ho906
   refine ⟨hS905, ?_⟩
   replace hLL := hLL.oq ho906
   have hP := h.setRow hq ho906
   refine zaL (by kernel_rfl) ?_
   refine zbw ⟨(), ⟨rfl, rfl⟩, ⟨_, hP.weak (fun b hb => List.mem_cons_of_mem _ hb)⟩, hLL⟩
  ·
   refine zco rfl rfl (zdF (e := 147) (.agg (chV ⟨n, X⟩).toArray) (chV ⟨n, X⟩) (([Value.int .i64 0]) ++ (List.replicate 512 (Value.int .u8 0))) 513 (by kernel_rfl) (by kernel_rfl) rfl rfl (by first | rfl | (simp; done) | (simp [zal, *]; done)) ⟨by decide, by decide⟩ (fun g17 w17 hg17 hr17 hb17 => ?_))
   have hS907 := hS901.add0 hb17
   refine ⟨hS907, ?_⟩
   replace h := h.newc hb17 hg17 hr17.lt
   replace hLL := hLL.new hb17
   replace hq := hq.new hb17
   replace hown := hown.new hb17
   refine zaH 4 (by kernel_rfl) ?_
   refine zfS rfl rfl (zax hq) hS907 ?_
   refine zaH 9 (by kernel_rfl) ?_
   have hs17 := hr17.slA (m := 1) (sz := 513) hchl (by omega)
   refine zco rfl rfl (zbq (v := cv2) (e := 147) (sz := 513) (bytes := 520) (z := .agg (([Value.int .i64 0]) ++ (List.replicate 512 (Value.int .u8 0))).toArray) (by kernel_rfl) rfl (by kernel_rfl) rfl (by decide) rfl hown rfl hs17 hch1 (by omega) (by omega) (fun hm0 => Nat.zero_le _) (fun v18 w18 hv18 hgr18 hfr18 => ?_))
   rw [← zgE, ← hTl] at hv18
   have hgr : w17.grownBy w18 cv2.ownBlock := hgr18
   have hfr : ∀ g, v18.ownBlock = some g → cv2.ownBlock = some g ∨ w17.heap.size ≤ g := hfr18
   clear hgr18 hfr18
   have hk18 := (Kp.za8 hgr).weak (N := q :: cv2.ownBlock.toList) (fun _ _ hm => List.mem_cons_of_mem _ hm)
   have hl18 := h.outC (Kp.za8 hgr)
   have h2 : zbs g x q mc md cv2 v18 Y lo (g17 :: g5 :: L) { P with cl := T ++ [⟨n, X⟩] } w18 := h.zk2 hv18 (Kp.za8 hgr) hfr
   clear h
   have h := h2
   clear h2
   have hvi := h.zoD hTp
   obtain ⟨gn, on, cn, hvn, hown2⟩ := hvi
   subst hvn
   replace hLL := hLL.ll (hl18.weak (L2 := L) (Nat.le_refl _) (fun b hb => by simp [hb])) (fun b hb => hb)
   replace hq := h.row
   unfold plV at hq
   have hS909 := hS907.trans hk18
   refine ⟨hS909, ?_⟩
   refine zat 10 (zak rfl) ?_
   refine zat 11 (zav 6) ?_
   refine zaH 12 (by kernel_rfl) ?_
   refine zbO rfl rfl (zbg hq (fun w911 hq ho911 => ?_))
   have hS910 := hS909.aq ho911
   refine ⟨hS910, ?_⟩
   replace hLL := hLL.oq ho911
   have hP := h.setRow hq ho911
   refine zaL (by kernel_rfl) ?_
   refine zbw ⟨(), ⟨rfl, rfl⟩, ⟨_, hP.weak (fun b hb => List.mem_cons_of_mem _ hb)⟩, hLL⟩
 ·
  clear h hLL
  rintro _ f2 w2 ⟨⟨cv3, h⟩, hLL⟩
  have hq := h.row
  unfold plV at hq
  dsimp only at hq
  have hobt := h.zoD (by dsimp only; omega)
  obtain ⟨gc, o, c, hcv, hown⟩ := hobt
  subst hcv
  dsimp only at hown
  have hcq := h.cq gc (List.mem_cons_self ..)
  have hgL : ∀ b ∈ [gc], (lo ≤ b ∧ b ∉ L) ∨ w.heap.size ≤ b := fun b hb => .inl (by rw [List.mem_singleton.1 hb]; exact ⟨hcq.2.2.2.1, fun hm => hcq.2.2.2.2 (List.mem_cons_of_mem _ hm)⟩)
  have hqg : q ≠ gc := Ne.symm hcq.1
  refine zaf ?_
  refine za5 [] (by kernel_rfl) ?_
  intro w912 hb912 hS912
  replace h := h.new hb912
  replace hLL := hLL.new hb912
  replace hq := hq.new hb912
  have hq_d912 := hq
  refine zat 0 (zab) ?_
  refine zat 1 (zak rfl) ?_
  refine zat 2 (zav 6) ?_
  refine zbp 3 (fun w' hS' => zax (hq_d912.kq hS')) ?_
  refine zat 4 (zaJ (e := 147) (sz := 513) (by kernel_rfl) rfl rfl) ?_
  refine zat 5 (zab) ?_
  refine zat 6 (zak rfl) ?_
  refine zat 7 (zav 3) ?_
  refine zbp 8 (fun w' hS' => zax (hq_d912.kq hS')) ?_
  refine zat 9 (zbu rfl rfl) ?_
  refine zaL (by kernel_rfl) ?_
  refine zah ?_
  refine zbf rfl (fun hgt => ?_) (fun hgt => ?_)
  ·
   have hT2 : 2 ≤ (T ++ [(⟨n, X⟩ : Ch)]).length := by rw [hTl]; dsimp only at hgt; omega
   have hT3 : P.fr < (T ++ [(⟨n, X⟩ : Ch)]).length := by rw [hTl]; dsimp only at hgt; omega
   rw [if_pos hT3]
   refine zaa (zad (zab) (zad (zab) (zad (zak rfl) (zad (zav 6) ?_))))
   refine zad (zax hq) ?_
   have hown3 : zed w912 0 147 513 gc o (T ++ [(⟨n, X⟩ : Ch)]).length c (zb3 (T ++ [⟨n, X⟩])) := h.own
   refine zao rfl (zaj (by kernel_rfl) rfl) (zoE _ hRs gc o c hT2 w912 hown3) ?_
   rintro _ w36 ⟨rfl, hown, hb36⟩
   replace h := h.zk2 hown hb36.k (fun b e => Or.inl e)
   replace hLL := hLL.kpd hb36.k hgL
   replace hq := hq.kpd hb36.k (by first | (simp; done) | (simp; omega))
   refine zad (zak rfl) (zad (zav 6) ?_)
   refine zaG rfl (zbg hq (fun w913 hq ho913 => ?_))
   replace hLL := hLL.oq ho913
   have hP := h.setRow hq ho913
   refine zae ?_
   refine zbr [] trivial ?_
   exact ⟨rfl, ⟨_, hP.weak (fun b hb => List.mem_cons_of_mem _ hb)⟩, hLL⟩
  ·
   rw [if_neg (by rw [hTl]; dsimp only at hgt; omega)]
   refine zau ?_
   refine zbr [] trivial ?_
   exact ⟨rfl, ⟨_, h.weak (fun b hb => List.mem_cons_of_mem _ hb)⟩, hLL⟩
end
def zc7 (D : Dk) (a : Nat) : Pg := ((List.range 4).map fun i => zaV D (a + i)).flatten
theorem zhx {D : Dk} {a : Nat} (h : ziO D) (hn : a + 4 ≤ D.V.length) : (zc7 D a).length = 512 ∧ ∀ i, i < 4 → ((zc7 D a).drop (128 * i)).take 128 = zaV D (a + i) := by
 have hs : zc3 ((List.range 4).map fun i => zaV D (a + i)) := fun s hs => by
  obtain ⟨i, hi, rfl⟩ := List.mem_map.1 hs
  exact zfq h (by have := List.mem_range.1 hi; omega)
 refine ⟨by rw [zc7, zf8 hs]; simp, fun i hi => ?_⟩
 have := zmO hs (i := i) (s := zaV D (a + i)) (by rw [List.getElem?_map, List.getElem?_range hi]; rfl)
 rw [Nat.mul_comm 128 i]
 exact this
def zg3 (P : Pl) (n : Nat) : Pg := match P.di n with
 | some b => b
 | none => match P.cl[zdV P.cl n]? with
  | some c => c.page
  | none => zc7 P.D (1 + P.G.size + n * 4)
def zfz (P : Pl) (n : Nat) : Pl := match P.di n with
 | some _ => P
 | none => { P with cl := frameC P.fr P.cl n (zg3 P n) }
theorem zjl {P : Pl} (hok : zjF P) {n : Nat} (hn : n < P.n) : 1 + P.G.size + n * 4 + 4 ≤ P.D.V.length ∧ 4 ≤ P.G.size ∧ P.G.size ≤ 4000 := by
 unfold Pl.n zfZ at hn
 split at hn
 ·omega
 ·rw [Int.toNat_natCast] at hn; omega
theorem zk3 {P : Pl} (hok : zjF P) (hD : ziO P.D) {n : Nat} (hn : n < P.n) : (zg3 P n).length = 512 := by
 unfold zg3
 split
 ·exact hok.di _ _ ‹_›
 ·split
  ·exact hok.cl _ (List.mem_of_getElem? ‹_›)
  ·exact (zhx hD (zjl hok hn).1).1
theorem ld_pg {w : World} {g o n : Nat} {R : Rec} (h : zaT w (some ⟨g, o, none⟩) n 513 (zb3 R)) (hR : zce R) {i : Nat} {c : Ch} (hc : R[i]? = some c) : Ld Tryz.prog w 62 ⟨g, o + i * 513 + 1, none⟩ (.agg (bv c.page).toArray) := by
 have hi := (List.getElem?_eq_some_iff.1 hc).1
 have hl := zb0 hR
 have h1 := Ld.slN (P := Tryz.prog) (t := 62) (j := i * 513 + 1) (k := 512) h (by kernel_rfl) (by kernel_rfl) (by omega)
 have h2 := zm6 hR hc
 have hp := hR c (List.mem_of_getElem? hc)
 have e : ((zb3 R).drop (i * 513 + 1)).take 512 = bv c.page := by
  have e1 : (((zb3 R).drop (i * 513)).take 513).drop 1 = bv c.page := by rw [h2]; rfl
  rw [List.drop_take, List.drop_drop] at e1
  exact e1
 rw [e] at h1
 exact h1
def zP : List Value := List.replicate 512 (.int .u8 0)
theorem zkh (w : World) : (zeroValue 62).run Tryz.prog w = .ok (.agg zP.toArray) w := by kernel_rfl
def zel (X : Pg) (i : Nat) : Pg := X.take (128 * i) ++ List.replicate (512 - 128 * i) 0
theorem partP_0 (X : Pg) : bv (zel X 0) = zP := by
 rw [zel, Nat.mul_zero, List.take_zero, List.nil_append, bv, List.map_replicate]
 rfl
theorem partP_4 {X : Pg} (h : X.length = 512) : zel X 4 = X := by
 rw [zel, List.take_of_length_le (by omega), show 512 - 128 * 4 = 0 from rfl, List.replicate_zero, List.append_nil]
theorem zno {X : Pg} (h : X.length = 512) {i : Nat} (hi : i ≤ 4) : (zel X i).length = 512 := by
 rw [zel, List.length_append, List.length_take, List.length_replicate]; omega
theorem zlP {X S : Pg} (h : X.length = 512) {i : Nat} (hi : i < 4) (hS : (X.drop (128 * i)).take 128 = S) : splice (bv (zel X i)) (128 * i) (bv S) = bv (zel X (i + 1)) := by
 have hl : (X.take (128 * i)).length = 128 * i := by rw [List.length_take]; omega
 have hSl : S.length = 128 := by rw [← hS, List.length_take, List.length_drop]; omega
 have e : splice (bv (zel X i)) (128 * i) (bv S) = bv ((zel X i).take (128 * i) ++ S ++ (zel X i).drop (128 * i + 128)) := by
  simp only [splice, bv, List.map_append, List.map_take, List.map_drop, List.length_map, hSl, List.append_assoc]
 have e2 : (X.take (128 * i) ++ List.replicate (512 - 128 * i) (0 : UInt8)).drop (128 * i + 128) = List.replicate (512 - (128 * i + 128)) 0 := by
  rw [List.drop_append, hl, List.drop_of_length_le (by rw [hl]; omega), List.nil_append, List.drop_replicate, show 512 - 128 * i - (128 * i + 128 - 128 * i) = 512 - (128 * i + 128) by omega]
 rw [e, zel, List.take_left' hl, e2, zel, show 128 * (i + 1) = 128 * i + 128 by omega, List.take_add, hS]
section
variable {Y : World → List Nat → Prop} [Thing Y] {g x q mc md lo : Nat} {rv cv : Value} {L : List Nat} {P : Pl} {w : World}
set_option maxRecDepth 20000 in
theorem zlQ (h : zbs g x q mc md cv cv Y lo L P w) (hok : zjF P) (n : Nat) (hn : n < P.n) {b : Pg} (hb : P.di n = some b) :
  Calls Tryz.prog 67 [.pointer (some ⟨q, 0, none⟩), .int .i64 (n : Int)].toArray w (Ret fun v w' => v = .tuple #[.agg (bv b).toArray, .int .i64 0] ∧ (∃ cv', zbs g x q mc md cv' cv' Y lo L P w') ∧ LoL lo L w w') := by
 have hLL := LoL.refl lo L w
 have hnl := h.nle.1
 have hbl : (bv b).length = 512 := by rw [zal]; exact hok.di n b hb
 have hmv : zdl P.di n = some (.agg (bv b).toArray) := by unfold zdl; rw [hb]; rfl
 have hq := h.row
 unfold plV at hq
 have hd := h.mdi
 have hz : zP.length = 512 := List.length_replicate
 have hz1 : ∀ v ∈ zP, Value.oneCell' v = true := fun v hv => by rw [(List.mem_replicate.1 hv).2]; rfl
 refine zas (fn := Tryz.f67) (rs := [.cell 4 62, .tmp 5]) (n := 80) Tryz.func67 rfl rfl Tryz.ntmps67 (by kernel_rfl) rfl ?_
 refine zaf (zaa ?_)
 refine zay rfl (zaU ([_]) rfl (fun g3 w3 hg3 hr3 hb3 => ?_))
 have sz_g3 := hLL.size
 have lt_q_g3 : q < g3 := Nat.lt_of_lt_of_le hq.lt hg3
 have lt_md_g3 : md < g3 := Nat.lt_of_lt_of_le hd.lt hg3
 replace h := h.newc hb3 hg3 hr3.lt
 replace hLL := hLL.new hb3
 replace hq := hq.new hb3
 replace hd := hd.new hb3
 refine zay rfl (zar (List.replicate 512 (Value.int .u8 0)) (by kernel_rfl) (fun g4 w4 hg4 hr4 hb4 => ?_))
 have lt_q_g4 : q < g4 := Nat.lt_of_lt_of_le hq.lt hg4
 have lt_md_g4 : md < g4 := Nat.lt_of_lt_of_le hd.lt hg4
 have lt_g3_g4 : g3 < g4 := Nat.lt_of_lt_of_le hr3.lt hg4
 replace h := h.newc hb4 hg4 hr4.lt
 replace hLL := hLL.new hb4
 replace hq := hq.new hb4
 replace hd := hd.new hb4
 replace hr3 := hr3.new hb4
 refine zad (zac) (zae (zah (zaf (zaf ?_))))
 refine za5 [] (by kernel_rfl) ?_
 intro w901 hb901 hS901
 replace h := h.new hb901
 replace hLL := hLL.new hb901
 replace hq := hq.new hb901
 replace hd := hd.new hb901
 replace hr3 := hr3.new hb901
 replace hr4 := hr4.new hb901
 have h_d901 := h
 have hLL_d901 := hLL
 have hq_d901 := hq
 have hd_d901 := hd
 have hr3_d901 := hr3
 have hr4_d901 := hr4
 refine zat 0 (zab) ?_
 refine zat 1 (zak rfl) ?_
 refine zat 2 (zav 5) ?_
 refine zbp 3 (fun w' hS' => zax (hq_d901.kq hS')) ?_
 refine zbp 4 (fun w' hS' => zax (hr3_d901.kq hS')) ?_
 refine zbp 5 (fun w' hS' => zcS (k := 3) (e := 62) (.agg zP.toArray) (some (.agg (bv b).toArray)) (by kernel_rfl) (by kernel_rfl) zkh (hd_d901.kpd hS' (by first | (simp; done) | (simp; omega) | (simp [*]; done) | exact zaq (Or.inl (by omega)) | exact zaq (Or.inr (by simp)) | exact fun g hm => Nat.le_trans (by omega) (zcs hm).1 | (intro b o e; cases e; exact zaq (Or.inl (by omega))) | (intro b hm; have := (hu.lt b (Option.mem_toList.1 hm)).1; omega) | (intro b o e; cases e; intro hm; have := (hu.lt _ (Option.mem_toList.1 hm)).1; omega) | assumption)) rfl rfl n rfl hn (by omega) hmv) ?_
 refine zat 6 (zab) ?_
 refine zat 7 (zai rfl rfl) ?_
 refine zat 8 (zai rfl rfl) ?_
 refine zaH 9 (by kernel_rfl) ?_
 refine zco rfl rfl (zar (List.replicate 512 (Value.int .u8 0)) (by kernel_rfl) (fun g6 w6 hg6 hr6 hb6 => ?_))
 have hS902 := hS901.add0 hb6
 refine ⟨hS902, ?_⟩
 have ge_hS901_g6 := Nat.le_trans hS901.size hg6
 have lt_q_g6 : q < g6 := Nat.lt_of_lt_of_le hq.lt hg6
 have lt_md_g6 : md < g6 := Nat.lt_of_lt_of_le hd.lt hg6
 have lt_g3_g6 : g3 < g6 := Nat.lt_of_lt_of_le hr3.lt hg6
 have lt_g4_g6 : g4 < g6 := Nat.lt_of_lt_of_le hr4.lt hg6
 replace h := h.newc hb6 hg6 hr6.lt
 replace hLL := hLL.new hb6
 replace hq := hq.new hb6
 replace hd := hd.new hb6
 replace hr3 := hr3.new hb6
 replace hr4 := hr4.new hb6
 refine zaH 10 (by kernel_rfl) ?_
 refine zbO rfl rfl (zaO 512 (bv b) hr6 (fun w904 hr6 ho904 => ?_))
 have hS903 := hS902.aq ho904
 refine ⟨hS903, ?_⟩
 replace h := h.only ho904 (by first | (right; simp; done) | (left; omega) | (right; simp [*]; done))
 replace hLL := hLL.oq ho904
 replace hq := hq.only ho904 (Nat.ne_of_lt lt_q_g6)
 replace hd := hd.only ho904 (Nat.ne_of_lt lt_md_g6)
 replace hr3 := hr3.only ho904 (Nat.ne_of_lt lt_g3_g6)
 replace hr4 := hr4.only ho904 (Nat.ne_of_lt lt_g4_g6)
 refine zat 11 (zac) ?_
 refine zaL (by kernel_rfl) ?_
 refine zah (zaf (zaa (zad (zab) (zae (zah ?_)))))
 refine zin rfl (rfl) ?_
 refine zaf (zaa ?_)
 refine zad (zbc 512 hr6) ?_
 refine zaG rfl (zaO 512 (bv b) hr4 (fun w905 hr4 ho905 => ?_))
 replace h := h.only ho905 (by first | (right; simp; done) | (left; omega) | (right; simp [*]; done))
 replace hLL := hLL.oq ho905
 replace hq := hq.only ho905 (Nat.ne_of_lt lt_q_g4)
 replace hd := hd.only ho905 (Nat.ne_of_lt lt_md_g4)
 replace hr3 := hr3.only ho905 (Nat.ne_of_lt lt_g3_g4)
 replace hr6 := hr6.only ho905 (Nat.ne_of_gt lt_g4_g6)
 refine zad (zac) (zae (zah (zaz (zaP ?_))))
 refine zam [_, _] ⟨⟨_, rfl, Ld.zbX (k := 512) hr4 (by kernel_rfl) (by kernel_rfl) (by first | (simp; done) | (simp [zal, *]; done) | assumption)⟩, rfl, trivial⟩ ?_
 exact ⟨rfl, ⟨_, h.weak (fun b hb => by simp [hb])⟩, hLL⟩
set_option maxRecDepth 20000 in
theorem zlR (h : zbs g x q mc md cv cv Y lo L P w) (hok : zjF P) (n : Nat) (hn : n < P.n) (hb : P.di n = none) {c : Ch} (hc : P.cl[zdV P.cl n]? = some c) :
  Calls Tryz.prog 67 [.pointer (some ⟨q, 0, none⟩), .int .i64 (n : Int)].toArray w (Ret fun v w' => v = .tuple #[.agg (bv c.page).toArray, .int .i64 0] ∧ (∃ cv', zbs g x q mc md cv' cv' Y lo L { P with cl := frameC P.fr P.cl n c.page } w') ∧ LoL lo L w w') := by
 have hLL := LoL.refl lo L w
 have hnl := h.nle.1
 have hil := (List.getElem?_eq_some_iff.1 hc).1
 have hcl := hok.cl c (List.mem_of_getElem? hc)
 have hbl : (bv c.page).length = 512 := by rw [zal]; exact hcl
 have hmv : zdl P.di n = none := by unfold zdl; rw [hb]; rfl
 have hq := h.row
 unfold plV at hq
 have hd := h.mdi
 have hz : zP.length = 512 := List.length_replicate
 have hz1 : ∀ v ∈ zP, Value.oneCell' v = true := fun v hv => by rw [(List.mem_replicate.1 hv).2]; rfl
 have hix := fun p cc w' (h : zaT w' p P.cl.length 513 (zb3 P.cl)) b (hb : row w' b [.int .i64 (n : Int)] 3) => indexA P.cl hok.cl p cc P.cl.length rfl b n w' h hb
 simp only [if_pos hil] at hix
 obtain ⟨gc, oc, cc, hcv, hown0⟩ := h.zoD (by omega)
 subst hcv
 refine zas (fn := Tryz.f67) (rs := [.cell 4 62, .tmp 5]) (n := 80) Tryz.func67 rfl rfl Tryz.ntmps67 (by kernel_rfl) rfl ?_
 refine zaf (zaa ?_)
 refine zay rfl (zaU ([_]) rfl (fun g3 w3 hg3 hr3 hb3 => ?_))
 replace h := h.newc hb3 hg3 hr3.lt
 replace hLL := hLL.new hb3
 replace hq := hq.new hb3
 replace hd := hd.new hb3
 refine zay rfl (zar (List.replicate 512 (Value.int .u8 0)) (by kernel_rfl) (fun g4 w4 hg4 hr4 hb4 => ?_))
 have lt_g3_g4 : g3 < g4 := Nat.lt_of_lt_of_le hr3.lt hg4
 replace h := h.newc hb4 hg4 hr4.lt
 replace hLL := hLL.new hb4
 replace hq := hq.new hb4
 replace hd := hd.new hb4
 replace hr3 := hr3.new hb4
 refine zad (zac) (zae (zah (zaf (zaf ?_))))
 refine za5 [] (by kernel_rfl) ?_
 intro w901 hb901 hS901
 replace h := h.new hb901
 replace hLL := hLL.new hb901
 replace hq := hq.new hb901
 replace hd := hd.new hb901
 replace hr3 := hr3.new hb901
 replace hr4 := hr4.new hb901
 have hq_d901 := hq
 have hd_d901 := hd
 have hr3_d901 := hr3
 refine zat 0 (zab) ?_
 refine zat 1 (zak rfl) ?_
 refine zat 2 (zav 5) ?_
 refine zbp 3 (fun w' hS' => zax (hq_d901.kq hS')) ?_
 refine zbp 4 (fun w' hS' => zax (hr3_d901.kq hS')) ?_
 refine zbp 5 (fun w' hS' => zcS (k := 3) (e := 62) (.agg zP.toArray) none (by kernel_rfl) (by kernel_rfl) zkh (hd_d901.kpd hS' (by first | (simp; done) | (simp; omega) | (simp [*]; done) | exact zaq (Or.inl (by omega)) | exact zaq (Or.inr (by simp)) | exact fun g hm => Nat.le_trans (by omega) (zcs hm).1 | (intro b o e; cases e; exact zaq (Or.inl (by omega))) | (intro b hm; have := (hu.lt b (Option.mem_toList.1 hm)).1; omega) | (intro b o e; cases e; intro hm; have := (hu.lt _ (Option.mem_toList.1 hm)).1; omega) | assumption)) rfl rfl n rfl hn (by omega) hmv) ?_
 refine zat 6 (zab) ?_
 refine zat 7 (zai rfl rfl) ?_
 refine zat 8 (zai rfl rfl) ?_
 refine zaH 9 (by kernel_rfl) ?_
 refine zco rfl rfl (zar (List.replicate 512 (Value.int .u8 0)) (by kernel_rfl) (fun g6 w6 hg6 hr6 hb6 => ?_))
 have hS902 := hS901.add0 hb6
 refine ⟨hS902, ?_⟩
 have lt_q_g6 : q < g6 := Nat.lt_of_lt_of_le hq.lt hg6
 have lt_g3_g6 : g3 < g6 := Nat.lt_of_lt_of_le hr3.lt hg6
 have lt_g4_g6 : g4 < g6 := Nat.lt_of_lt_of_le hr4.lt hg6
 replace h := h.newc hb6 hg6 hr6.lt
 replace hLL := hLL.new hb6
 replace hq := hq.new hb6
 replace hr3 := hr3.new hb6
 replace hr4 := hr4.new hb6
 refine zaH 10 (by kernel_rfl) ?_
 refine zbO rfl rfl (zaO 512 (zP) hr6 (fun w904 hr6 ho904 => ?_))
 have hS903 := hS902.aq ho904
 refine ⟨hS903, ?_⟩
 replace h := h.only ho904 (by first | (right; simp; done) | (left; omega) | (right; simp [*]; done))
 replace hLL := hLL.oq ho904
 replace hq := hq.only ho904 (Nat.ne_of_lt lt_q_g6)
 replace hr3 := hr3.only ho904 (Nat.ne_of_lt lt_g3_g6)
 replace hr4 := hr4.only ho904 (Nat.ne_of_lt lt_g4_g6)
 refine zat 11 (zac) ?_
 refine zaL (by kernel_rfl) ?_
 refine zah (zaf (zaa (zad (zab) (zae (zah ?_)))))
 refine zjC rfl (rfl) ?_
 refine zau (zah (zaf (zaf (zaa (zad (zab) (zad (zak rfl) (zad (zav 6) ?_)))))))
 refine zad (zax hq) ?_
 refine zad (zaW) ?_
 refine zao rfl (zaj (by kernel_rfl) rfl) (hix _ _ w904 h.own.sl _ hr3) ?_
 rintro _ w28 ⟨rfl, hb28⟩
 replace h := h.new hb28
 replace hLL := hLL.new hb28
 replace hq := hq.new hb28
 replace hr3 := hr3.new hb28
 replace hr4 := hr4.new hb28
 refine zad (zac) (zae (zah (zaf (zaa (zad (zab) ?_)))))
 refine zad (zc2 rfl rfl) ?_
 refine zae (zah ?_)
 refine ze6 rfl ((by omega)) ?_
 refine zaf (zaa (zad (zab) (zad (zak rfl) (zad (zav 6) ?_))))
 refine zad (zax hq) ?_
 refine zad (zab) ?_
 refine zad (zbU (e := 147) (sz := 513) (by kernel_rfl) rfl rfl (zdV P.cl n) (by omega) (by omega)) ?_
 refine zad (zav 1) ?_
 refine zad (zaI rfl (ld_pg h.own.sl hok.cl hc)) ?_
 refine zaG rfl (zaO 512 (bv c.page) hr4 (fun w905 hr4 ho905 => ?_))
 replace h := h.only ho905 (by first | (right; simp; done) | (left; omega) | (right; simp [*]; done))
 replace hLL := hLL.oq ho905
 replace hr3 := hr3.only ho905 (Nat.ne_of_lt lt_g3_g4)
 refine zae (zah (zaf (zaa (zad (zab) ?_))))
 refine zad (zax hr3) ?_
 refine zad (zbc 512 hr4) ?_
 refine zao rfl (zaj (by kernel_rfl) rfl) (frameP h hok.cl hok.cll hok.fr2 hok.frm n c.page hcl) ?_
 rintro _ w42 ⟨rfl, ⟨cv2, h⟩, hb42⟩
 replace hLL := hLL.lq hb42
 replace hr4 := hr4.kl hb42
 refine zae (zah (zaf (zaa ?_)))
 refine zad (zbc 512 hr4) ?_
 refine zaG rfl (zaO 512 (bv c.page) hr4 (fun w906 hr4 ho906 => ?_))
 replace h := h.only ho906 (by first | (right; simp; done) | (left; omega) | (right; simp [*]; done))
 replace hLL := hLL.oq ho906
 refine zad (zac) (zae (zah (zaz (zaP ?_))))
 refine zam [_, _] ⟨⟨_, rfl, Ld.zbX (k := 512) hr4 (by kernel_rfl) (by kernel_rfl) (by first | (simp; done) | (simp [zal, *]; done) | assumption)⟩, rfl, trivial⟩ ?_
 exact ⟨rfl, ⟨_, h.weak (fun b hb => by simp [hb])⟩, hLL⟩
set_option maxRecDepth 20000 in
theorem zlS (h : zbs g x q mc md cv cv Y lo L P w) (hok : zjF P) (n : Nat) (hn : n < P.n) (hb : P.di n = none) (hc : P.cl[zdV P.cl n]? = none) :
   Calls Tryz.prog 67 [.pointer (some ⟨q, 0, none⟩), .int .i64 (n : Int)].toArray w (Ret fun v w' => v = .tuple #[.agg (bv (zc7 P.D (1 + P.G.size + n * 4))).toArray, .int .i64 0] ∧ (∃ cv', zbs g x q mc md cv' cv' Y lo L { P with cl := frameC P.fr P.cl n (zc7 P.D (1 + P.G.size + n * 4)) } w') ∧ LoL lo L w w') := by
 have hLL := LoL.refl lo L w
 have hnl := h.nle
 have hml : maxLen = 9223372036854775807 := by decide
 have hil := List.getElem?_eq_none_iff.1 hc
 have hmv : zdl P.di n = none := by unfold zdl; rw [hb]; rfl
 have hq := h.row
 unfold plV at hq
 have hd := h.mdi
 have hz : zP.length = 512 := List.length_replicate
 have hz1 : ∀ v ∈ zP, Value.oneCell' v = true := fun v hv => by rw [(List.mem_replicate.1 hv).2]; rfl
 have hix := fun p cc w' (h : zaT w' p P.cl.length 513 (zb3 P.cl)) b (hb : row w' b [.int .i64 (n : Int)] 3) => indexA P.cl hok.cl p cc P.cl.length rfl b n w' h hb
 simp only [if_neg (show ¬ zdV P.cl n < P.cl.length by omega)] at hix
 obtain ⟨hrm, hs4, hsm⟩ := zjl hok hn
 have hpl := fun w' => placeP P.G.size n w' hsm (by omega)
 obtain ⟨a, ha⟩ : ∃ a, 1 + P.G.size + n * 4 = a := ⟨_, rfl⟩
 rw [ha] at hpl hrm ⊢
 have hDk := (tOk h.lg.fst).1
 obtain ⟨hXl, hXs⟩ := zhx hDk hrm
 have hrd := fun (i : Nat) (hi : i < 4) L' w' (h' : zbs g x q mc md cv cv Y lo L' P w') => tRead h'.lg.fst ((a : Int) + (i : Int))
 obtain ⟨pc, cc, hcv, hcs⟩ := h.cvIs
 subst hcv
 obtain ⟨X, hX⟩ : ∃ X, zc7 P.D a = X := ⟨_, rfl⟩
 rw [hX] at hXl hXs ⊢
 have hXb : (bv X).length = 512 := by rw [zal]; exact hXl
 refine zas (fn := Tryz.f67) (rs := [.cell 4 62, .tmp 5]) (n := 80) Tryz.func67 rfl rfl Tryz.ntmps67 (by kernel_rfl) rfl ?_
 refine zaf (zaa ?_)
 refine zay rfl (zaU ([_]) rfl (fun g3 w3 hg3 hr3 hb3 => ?_))
 have sz_g3 := hLL.size
 have lt_q_g3 : q < g3 := Nat.lt_of_lt_of_le hq.lt hg3
 have lt_md_g3 : md < g3 := Nat.lt_of_lt_of_le hd.lt hg3
 replace h := h.newc hb3 hg3 hr3.lt
 replace hLL := hLL.new hb3
 replace hq := hq.new hb3
 replace hd := hd.new hb3
 refine zay rfl (zar (List.replicate 512 (Value.int .u8 0)) (by kernel_rfl) (fun g4 w4 hg4 hr4 hb4 => ?_))
 have lt_q_g4 : q < g4 := Nat.lt_of_lt_of_le hq.lt hg4
 have lt_md_g4 : md < g4 := Nat.lt_of_lt_of_le hd.lt hg4
 have lt_g3_g4 : g3 < g4 := Nat.lt_of_lt_of_le hr3.lt hg4
 replace h := h.newc hb4 hg4 hr4.lt
 replace hLL := hLL.new hb4
 replace hq := hq.new hb4
 replace hd := hd.new hb4
 replace hr3 := hr3.new hb4
 refine zad (zac) (zae (zah (zaf (zaf ?_))))
 refine za5 [] (by kernel_rfl) ?_
 intro w901 hb901 hS901
 replace h := h.new hb901
 replace hLL := hLL.new hb901
 replace hq := hq.new hb901
 replace hd := hd.new hb901
 replace hr3 := hr3.new hb901
 replace hr4 := hr4.new hb901
 have hq_d901 := hq
 have hd_d901 := hd
 have hr3_d901 := hr3
 refine zat 0 (zab) ?_
 refine zat 1 (zak rfl) ?_
 refine zat 2 (zav 5) ?_
 refine zbp 3 (fun w' hS' => zax (hq_d901.kq hS')) ?_
 refine zbp 4 (fun w' hS' => zax (hr3_d901.kq hS')) ?_
 refine zbp 5 (fun w' hS' => zcS (k := 3) (e := 62) (.agg zP.toArray) none (by kernel_rfl) (by kernel_rfl) zkh (hd_d901.kpd hS' (by first | (simp; done) | (simp; omega) | (simp [*]; done) | exact zaq (Or.inl (by omega)) | exact zaq (Or.inr (by simp)) | exact fun g hm => Nat.le_trans (by omega) (zcs hm).1 | (intro b o e; cases e; exact zaq (Or.inl (by omega))) | (intro b hm; have := (hu.lt b (Option.mem_toList.1 hm)).1; omega) | (intro b o e; cases e; intro hm; have := (hu.lt _ (Option.mem_toList.1 hm)).1; omega) | assumption)) rfl rfl n rfl hn (by omega) hmv) ?_
 refine zat 6 (zab) ?_
 refine zat 7 (zai rfl rfl) ?_
 refine zat 8 (zai rfl rfl) ?_
 refine zaH 9 (by kernel_rfl) ?_
 refine zco rfl rfl (zar (List.replicate 512 (Value.int .u8 0)) (by kernel_rfl) (fun g6 w6 hg6 hr6 hb6 => ?_))
 have hS902 := hS901.add0 hb6
 refine ⟨hS902, ?_⟩
 have ge_hS901_g6 := Nat.le_trans hS901.size hg6
 have lt_q_g6 : q < g6 := Nat.lt_of_lt_of_le hq.lt hg6
 have lt_md_g6 : md < g6 := Nat.lt_of_lt_of_le hd.lt hg6
 have lt_g3_g6 : g3 < g6 := Nat.lt_of_lt_of_le hr3.lt hg6
 have lt_g4_g6 : g4 < g6 := Nat.lt_of_lt_of_le hr4.lt hg6
 replace h := h.newc hb6 hg6 hr6.lt
 replace hLL := hLL.new hb6
 replace hq := hq.new hb6
 replace hd := hd.new hb6
 replace hr3 := hr3.new hb6
 replace hr4 := hr4.new hb6
 refine zaH 10 (by kernel_rfl) ?_
 refine zbO rfl rfl (zaO 512 (zP) hr6 (fun w904 hr6 ho904 => ?_))
 have hS903 := hS902.aq ho904
 refine ⟨hS903, ?_⟩
 replace h := h.only ho904 (by first | (right; simp; done) | (left; omega) | (right; simp [*]; done))
 replace hLL := hLL.oq ho904
 replace hq := hq.only ho904 (Nat.ne_of_lt lt_q_g6)
 replace hd := hd.only ho904 (Nat.ne_of_lt lt_md_g6)
 replace hr3 := hr3.only ho904 (Nat.ne_of_lt lt_g3_g6)
 replace hr4 := hr4.only ho904 (Nat.ne_of_lt lt_g4_g6)
 refine zat 11 (zac) ?_
 refine zaL (by kernel_rfl) ?_
 refine zah (zaf (zaa (zad (zab) (zae (zah ?_)))))
 refine zjC rfl (rfl) ?_
 refine zau (zah (zaf (zaf (zaa (zad (zab) (zad (zak rfl) (zad (zav 6) ?_)))))))
 refine zad (zax hq) ?_
 refine zad (zaW) ?_
 refine zao rfl (zaj (by kernel_rfl) rfl) (hix _ _ w904 h.own.sl _ hr3) ?_
 rintro _ w28 ⟨rfl, hb28⟩
 replace h := h.new hb28
 replace hLL := hLL.new hb28
 replace hq := hq.new hb28
 replace hd := hd.new hb28
 replace hr3 := hr3.new hb28
 replace hr4 := hr4.new hb28
 refine zad (zac) (zae (zah (zaf (zaa (zad (zab) ?_)))))
 refine zad (zc2 rfl rfl) ?_
 refine zae (zah ?_)
 refine zcL rfl ((by omega)) ?_
 refine zau (zah (zaf (zaf (zaa (zad (zab) (zae (zah (zaE ?_))))))))
 have hr4z : row w28 g4 (bv (zel X 0)) 62 := by rw [partP_0]; exact hr4
 refine zbB (α := Nat) 0 (fun i => [(44, .int .i64 (i : Nat)), (0, .pointer (some ⟨q, 0, none⟩)), (3, .pointer (some ⟨g3, 0, none⟩)), (4, .pointer (some ⟨g4, 0, none⟩))])
   (fun i w' => i ≤ 4 ∧ row w' g4 (bv (zel X i)) 62 ∧ row w' g3 [.int .i64 (n : Int)] 3 ∧ zbs g x q mc md (.slice pc P.cl.length cc) (.slice pc P.cl.length cc) Y lo (g4 :: g3 :: L) P w' ∧ LoL lo L w w') (fun i => 4 - i)
   ⟨rfl, rfl, rfl, rfl, rfl⟩ ⟨Nat.zero_le _, hr4z, hr3, h.weak (fun b hb => by simp at hb; simp [hb]), hLL⟩ ?_
 clear h hLL hq hd hr3 hr4 hr4z
 rintro i f wr ⟨hi, hr4, hr3, h, hLL⟩
 have hq := h.row
 unfold plV at hq
 refine zaf (zaa ?_)
 refine zad (za2 rfl rfl) ?_
 refine zae (zah (zaf ?_))
 refine zbf rfl (fun hlt => ?_) (fun hlt => ?_)
 ·
  refine zau (zah (zaf (zaE (zaf ?_))))
  have hobS : ∃ S, (X.drop (128 * i)).take 128 = S := ⟨_, rfl⟩
  obtain ⟨S, hS⟩ := hobS
  have hin : inD P.D ((a : Int) + (i : Int)) = true := decide_eq_true (by omega)
  have hrdi := hrd i (by omega)
  rw [hin, if_pos rfl, if_pos rfl, show ((a : Int) + (i : Int)).toNat = a + i by omega, ← hXs i (by omega), hS] at hrdi
  have hSl : S.length = 128 := by rw [← hS, List.length_take, List.length_drop]; omega
  have hSb : (bv S).length = 128 := by rw [zal]; exact hSl
  have hst := zlP hXl (by omega) hS
  have hpb := zno hXl (i := i) (by omega)
  have hpb2 : (bv (zel X i)).length = 512 := by rw [zal]; exact hpb
  have hg3l := hr3.lt
  have hg4l := hr4.lt
  refine zaa (zad (zab) (zad (zac) (zae (zah ?_))))
  refine zmf (fun g10 : Nat => [(44, .int .i64 (i : Nat)), (9, .int .i64 (i : Nat)), (10, .pointer (some ⟨g10, 0, none⟩)), (11, .int .i64 0), (0, .pointer (some ⟨q, 0, none⟩)), (3, .pointer (some ⟨g3, 0, none⟩)), (4, .pointer (some ⟨g4, 0, none⟩))]) (fun g10 w' => row w' g10 (bv S) 172 ∧ row w' g4 (bv (zel X i)) 62 ∧ row w' g3 [.int .i64 (n : Int)] 3 ∧ zbs g x q mc md (.slice pc P.cl.length cc) (.slice pc P.cl.length cc) Y lo (g10 :: g4 :: g3 :: L) P w' ∧ LoL lo L w w' ∧ g4 < g10 ∧ g3 < g10) ?_ ?_
  ·
   refine za5 [] (by kernel_rfl) ?_
   intro w905 hb905 hS905
   replace h := h.new hb905
   replace hLL := hLL.new hb905
   replace hq := hq.new hb905
   replace hr3 := hr3.new hb905
   replace hr4 := hr4.new hb905
   have hq_d905 := hq
   have hr3_d905 := hr3
   refine zat 0 (zab) ?_
   refine zat 1 (zak rfl) ?_
   refine zat 2 (zav 0) ?_
   refine zbp 3 (fun w' hS' => zax (hq_d905.kq hS')) ?_
   refine zat 4 (zab) ?_
   refine zat 5 (zak rfl) ?_
   refine zat 6 (zav 2) ?_
   refine zbp 7 (fun w' hS' => zax (hq_d905.kq hS')) ?_
   refine zbp 8 (fun w' hS' => zax (hr3_d905.kq hS')) ?_
   refine zdA 9 (by kernel_rfl) rfl (fun _ => zaj (by kernel_rfl) rfl) (fun w' hS' => hpl w') ?_
   refine zat 10 (zab) ?_
   refine zat 11 (zaN rfl rfl (Coup.w64 (by omega))) ?_
   refine zd9 12 16 (by kernel_rfl) ?_ ?_
   ·
    refine zbb rfl rfl (zaj (by kernel_rfl) rfl) (hrdi _ w905 h) ?_
    rintro _ w60 ⟨rfl, hb60⟩
    have hS906 := hS905.add0 hb60
    refine ⟨hS906, ?_⟩
    replace h := h.new hb60
    replace hLL := hLL.new hb60
    replace hq := hq.new hb60
    replace hr3 := hr3.new hb60
    replace hr4 := hr4.new hb60
    refine zat 13 (zab) ?_
    refine zat 14 (zai rfl rfl) ?_
    refine zat 15 (zai rfl rfl) ?_
    refine zaH 16 (by kernel_rfl) ?_
    refine zco rfl rfl (zar (List.replicate 128 (Value.int .u8 0)) (by kernel_rfl) (fun g10 w10 hg10 hr10 hb10 => ?_))
    have hS907 := hS906.add0 hb10
    refine ⟨hS907, ?_⟩
    have ge_hS906_g10 := Nat.le_trans hS906.size hg10
    have lt_q_g10 : q < g10 := Nat.lt_of_lt_of_le hq.lt hg10
    have lt_g3_g10 : g3 < g10 := Nat.lt_of_lt_of_le hr3.lt hg10
    have lt_g4_g10 : g4 < g10 := Nat.lt_of_lt_of_le hr4.lt hg10
    replace h := h.newc hb10 hg10 hr10.lt
    replace hLL := hLL.new hb10
    replace hr3 := hr3.new hb10
    replace hr4 := hr4.new hb10
    refine zaH 17 (by kernel_rfl) ?_
    refine zbO rfl rfl (zaO 128 (bv S) hr10 (fun w909 hr10 ho909 => ?_))
    have hS908 := hS907.aq ho909
    refine ⟨hS908, ?_⟩
    replace h := h.only ho909 (by first | (right; simp; done) | (left; omega) | (right; simp [*]; done))
    replace hLL := hLL.oq ho909
    replace hr3 := hr3.only ho909 (Nat.ne_of_lt lt_g3_g10)
    replace hr4 := hr4.only ho909 (Nat.ne_of_lt lt_g4_g10)
    refine zat 18 (zac) ?_
    refine zaL (by kernel_rfl) ?_
    refine zbw ⟨g10, ⟨rfl, rfl, rfl, rfl, rfl, rfl, rfl, rfl⟩, hr10, hr4, hr3, h, hLL, by omega, by omega⟩
   ·
    refine zco rfl rfl (zar (List.replicate 128 (Value.int .u8 0)) (by kernel_rfl) (fun g10 w10 hg10 hr10 hb10 => ?_))
    have hS910 := hS905.add0 hb10
    refine ⟨hS910, ?_⟩
    have ge_hS905_g10 := Nat.le_trans hS905.size hg10
    have lt_q_g10 : q < g10 := Nat.lt_of_lt_of_le hq.lt hg10
    have lt_g3_g10 : g3 < g10 := Nat.lt_of_lt_of_le hr3.lt hg10
    have lt_g4_g10 : g4 < g10 := Nat.lt_of_lt_of_le hr4.lt hg10
    replace h := h.newc hb10 hg10 hr10.lt
    replace hLL := hLL.new hb10
    replace hr3 := hr3.new hb10
    replace hr4 := hr4.new hb10
    refine zaH 12 (by kernel_rfl) ?_
    refine zbb rfl rfl (zaj (by kernel_rfl) rfl) (hrdi _ w10 h) ?_
    rintro _ w60 ⟨rfl, hb60⟩
    have hS911 := hS910.add0 hb60
    refine ⟨hS911, ?_⟩
    replace h := h.new hb60
    replace hLL := hLL.new hb60
    replace hr3 := hr3.new hb60
    replace hr4 := hr4.new hb60
    replace hr10 := hr10.new hb60
    refine zat 13 (zab) ?_
    refine zat 14 (zai rfl rfl) ?_
    refine zat 15 (zai rfl rfl) ?_
    refine zaH 17 (by kernel_rfl) ?_
    refine zbO rfl rfl (zaO 128 (bv S) hr10 (fun w913 hr10 ho913 => ?_))
    have hS912 := hS911.aq ho913
    refine ⟨hS912, ?_⟩
    replace h := h.only ho913 (by first | (right; simp; done) | (left; omega) | (right; simp [*]; done))
    replace hLL := hLL.oq ho913
    replace hr3 := hr3.only ho913 (Nat.ne_of_lt lt_g3_g10)
    replace hr4 := hr4.only ho913 (Nat.ne_of_lt lt_g4_g10)
    refine zat 18 (zac) ?_
    refine zaL (by kernel_rfl) ?_
    refine zbw ⟨g10, ⟨rfl, rfl, rfl, rfl, rfl, rfl, rfl, rfl⟩, hr10, hr4, hr3, h, hLL, by omega, by omega⟩
  ·
   clear h hLL hr3 hr4
   rintro g10 f2 w2 ⟨hr10, hr4, hr3, h, hLL, hl4, hl3⟩
   refine zaf (zaf (zaa (zad (zab) ?_)))
   refine zad (zaM rfl rfl) ?_
   refine zae (zah ?_)
   refine zcL rfl ((by simp)) ?_
   refine zau (zah ?_)
   refine za5 [g4] (by kernel_rfl) ?_
   intro w914 hb914 hS914
   replace h := h.new hb914
   replace hLL := hLL.new hb914
   replace hr3 := hr3.new hb914
   replace hr4 := hr4.new hb914
   replace hr10 := hr10.new hb914
   refine zat 0 (zab) ?_
   refine zat 1 (zc1 rfl rfl (Coup.w64 (by omega))) ?_
   refine zat 2 (zbe (e := 5) (n := 512) (128 * i) (512) (512) (512 - 128 * i) (by kernel_rfl) rfl ⟨_, _, rfl, by omega⟩ rfl rfl (by simp) (by omega) (by omega) (by omega) (by omega) (by omega)) ?_
   refine zat 3 (zbe (e := 5) (n := 128) (0) (128) (128) (128) (by kernel_rfl) rfl rfl rfl rfl (by simp) (by omega) (by omega) (by omega) (by omega) (by omega)) ?_
   refine zaH 4 (by kernel_rfl) ?_
   refine zco rfl rfl (zmq (e := 5) (by kernel_rfl) (by kernel_rfl) rfl rfl g4 ((0 + 128 * i)) hr4 (bv S) (by rw [hSb]; exact (Nat.min_eq_left (by omega)).symm) (fun _ => ⟨rfl, _, rfl, fun j v hv => by rw [Addr.add_lit]; exact (hr10.slA (m := 128) (sz := 1) hSb (by omega)).cell j hv⟩) (by rw [hSb]; omega) (zb5 _) (fun w73 hr4 ho73 => ?_))
   have hS915 := hS914.aq ho73
   refine ⟨hS915, ?_⟩
   replace h := h.only ho73 (by first | (right; simp; done) | (left; omega) | (right; simp [*]; done))
   replace hLL := hLL.oq ho73
   replace hr3 := hr3.only ho73 (Nat.ne_of_lt lt_g3_g4)
   refine zaL (by kernel_rfl) ?_
   refine za6 (zah (zaa ?_))
   refine zad (zaN rfl rfl (Coup.w64 (by omega))) ?_
   refine zad (zab) (zae ?_)
   rw [Nat.zero_add, hst] at hr4
   refine zbw ⟨i + 1, by omega, ⟨by go_num, rfl, rfl, rfl, rfl⟩, by omega, hr4, hr3, h.weak (fun b hb => List.mem_cons_of_mem _ hb), hLL⟩
 ·
  have hi4 : i = 4 := by omega
  subst hi4
  rw [partP_4 hXl] at hr4
  refine zbm (zbW (zcr (zbt (zah (zaf (zaa (zad (zab) ?_)))))))
  refine zad (zax hr3) ?_
  refine zad (zbc 512 hr4) ?_
  refine zao rfl (zaj (by kernel_rfl) rfl) (frameP h hok.cl hok.cll hok.fr2 hok.frm n X hXl) ?_
  rintro _ w78 ⟨rfl, ⟨cv2, h⟩, hb78⟩
  replace hLL := hLL.lq hb78
  replace hr4 := hr4.kl hb78
  refine zae (zah (zaf (zaa ?_)))
  refine zad (zbc 512 hr4) ?_
  refine zaG rfl (zaO 512 (bv X) hr4 (fun w916 hr4 ho916 => ?_))
  replace h := h.only ho916 (by first | (right; simp; done) | (left; omega) | (right; simp [*]; done))
  replace hLL := hLL.oq ho916
  refine zad (zac) (zae (zah (zaz ?_)))
  refine zam [_, _] ⟨⟨_, rfl, Ld.zbX (k := 512) hr4 (by kernel_rfl) (by kernel_rfl) (by first | (simp; done) | (simp [zal, *]; done) | assumption)⟩, rfl, trivial⟩ ?_
  exact ⟨rfl, ⟨_, h.weak (fun b hb => by simp [hb])⟩, hLL⟩
theorem zhy (h : zbs g x q mc md cv cv Y lo L P w) (hok : zjF P) (n : Nat) (hn : n < P.n) :
  Calls Tryz.prog 67 [.pointer (some ⟨q, 0, none⟩), .int .i64 (n : Int)].toArray w (Ret fun v w' => v = .tuple #[.agg (bv (zg3 P n)).toArray, .int .i64 0] ∧ (∃ cv', zbs g x q mc md cv' cv' Y lo L (zfz P n) w') ∧ LoL lo L w w') := by
 cases hb : P.di n with
 | some b =>
  have e1 : zg3 P n = b := by unfold zg3; rw [hb]
  have e2 : zfz P n = P := by unfold zfz; rw [hb]
  rw [e1, e2]
  exact zlQ h hok n hn hb
 | none =>
  have e2 : zfz P n = { P with cl := frameC P.fr P.cl n (zg3 P n) } := by unfold zfz; rw [hb]
  cases hc : P.cl[zdV P.cl n]? with
  | some c =>
   have e1 : zg3 P n = c.page := by unfold zg3; rw [hb, hc]
   rw [e2, e1]
   exact zlR h hok n hn hb hc
  | none =>
   have e1 : zg3 P n = zc7 P.D (1 + P.G.size + n * 4) := by unfold zg3; rw [hb, hc]
   rw [e2, e1]
   exact zlS h hok n hn hb hc
end
theorem zem (P : Pl) (n : Nat) : (zfz P n).D = P.D ∧ (zfz P n).G = P.G ∧ (zfz P n).fr = P.fr ∧ (zfz P n).ch = P.ch ∧ (zfz P n).di = P.di ∧ (zfz P n).dead = P.dead ∧ (zfz P n).n = P.n := by
 unfold zfz
 split <;> exact ⟨rfl, rfl, rfl, rfl, rfl, rfl, rfl⟩
def getX (P : Pl) (n : Nat) : Pg := match P.ch n with
 | some b => b
 | none => zg3 P n
def zjm (P : Pl) (n : Nat) : Pl := match P.ch n with
 | some _ => P
 | none => zfz P n
def zma (P : Pl) (n : Nat) (X : Pg) : Pl := { zfz P n with ch := zeW P.ch n (if X = zg3 P n then none else some X) }
theorem zoF (c : PgM) (i : Nat) (a b : Option Pg) : zeW (zeW c i a) i b = zeW c i b := by
 funext j
 unfold zeW
 split <;> rfl
section
variable {Y : World → List Nat → Prop} [Thing Y] {g x q mc md lo : Nat} {rv cv : Value} {L : List Nat} {P : Pl} {w : World}
set_option maxRecDepth 20000 in
theorem getNo (h : zbs g x q mc md rv cv Y lo L P w) (hsz : P.G.size ≤ 4000) (n : Int) (hne : zcX P n ≠ 0) : Calls Tryz.prog 100 [.pointer (some ⟨q, 0, none⟩), .int .i64 n].toArray w (Ret fun v w' => v = .tuple #[.agg zP.toArray, .int .i64 (zcX P n)] ∧ Below w.heap.size w w') := by
 have hB := Below.refl w.heap.size w
 have hrd := fun w' (h' : zbs g x q mc md rv cv Y lo L P w') => zjk h' hsz n
 have hz : zP.length = 512 := List.length_replicate
 have hz1 : ∀ v ∈ zP, Value.oneCell' v = true := fun v hv => by rw [(List.mem_replicate.1 hv).2]; rfl
 obtain ⟨e, he⟩ : ∃ e, zcX P n = e := ⟨_, rfl⟩
 rw [he] at hrd hne ⊢
 have hw := fun w' (hb : Below w.heap.size w w') => h.new hb
 refine zas (fn := Tryz.f100) (rs := [.cell 4 62, .tmp 5]) (n := 32) Tryz.func100 rfl rfl Tryz.ntmps100 (by kernel_rfl) rfl ?_
 refine zaf (zaa ?_)
 refine zay rfl (zar (List.replicate 512 (Value.int .u8 0)) (by kernel_rfl) (fun g4 w4 hg4 hr4 hb4 => ?_))
 have ge_hB_g4 := Nat.le_trans hB.size hg4
 replace hB := hB.acc hb4
 refine zad (zac) (zae (zah (zaf (zaf (zaa (zad (zab) (zad (zab) ?_)))))))
 refine zao rfl (zaj (by kernel_rfl) rfl) (hrd w4 (hw _ hB)) ?_
 rintro _ w11 ⟨rfl, hb11⟩
 replace hr4 := hr4.new hb11
 replace hB := hB.acc hb11
 refine zad (zac) (zae (zah (zaf (zaa (zad (zab) ?_)))))
 refine zad (zaM rfl rfl) ?_
 refine zae (zah ?_)
 refine ze6 rfl (hne) ?_
 refine zaf (zaa ?_)
 refine zad (zbi (List.replicate 512 (Value.int .u8 0)) (by kernel_rfl)) ?_
 refine zad (zab) ?_
 refine zaG rfl (zaO 512 (zP) hr4 (fun w901 hr4 ho901 => ?_))
 replace hB := ho901.below hB ge_hB_g4
 refine zad (zac) (zae (zah (zaz (zaP ?_))))
 refine zam [_, _] ⟨⟨_, rfl, Ld.zbX (k := 512) hr4 (by kernel_rfl) (by kernel_rfl) (by first | (simp; done) | (simp [zal, *]; done) | assumption)⟩, rfl, trivial⟩ ?_
 exact ⟨rfl, hB⟩
set_option maxRecDepth 20000 in
theorem getYes (h : zbs g x q mc md cv cv Y lo L P w) (hok : zjF P) (hde : P.dead = false) (n : Nat) (hn : n < P.n) : Calls Tryz.prog 100 [.pointer (some ⟨q, 0, none⟩), .int .i64 (n : Int)].toArray w (Ret fun v w' => v = .tuple #[.agg (bv (getX P n)).toArray, .int .i64 0] ∧ (∃ cv', zbs g x q mc md cv' cv' Y lo L (zjm P n) w') ∧ LoL lo L w w') := by
 have hLL := LoL.refl lo L w
 have hnl := h.nle.1
 have hDk := (tOk h.lg.fst).1
 have hre : zcX P n = 0 := by unfold zcX; rw [hde, if_neg (by simp), if_pos (by omega)]
 have hrd := fun L' w' (h' : zbs g x q mc md cv cv Y lo L' P w') => zjk h' hok.lg.szm n
 rw [hre] at hrd
 have hX0 := zk3 hok hDk hn
 have hcm := fun L' w' (h' : zbs g x q mc md cv cv Y lo L' P w') => zhy h' hok n hn
 obtain ⟨X0, hX⟩ : ∃ X0, zg3 P n = X0 := ⟨_, rfl⟩
 rw [hX] at hX0
 simp only [hX] at hcm
 have hX0b : (bv X0).length = 512 := by rw [zal]; exact hX0
 have hz : zP.length = 512 := List.length_replicate
 have hz1 : ∀ v ∈ zP, Value.oneCell' v = true := fun v hv => by rw [(List.mem_replicate.1 hv).2]; rfl
 obtain ⟨o, ho⟩ : ∃ o, zdl P.ch n = o := ⟨_, rfl⟩
 have hq := h.row
 unfold plV at hq
 have hm := h.mch
 unfold getX zjm
 cases hch : P.ch n with
 | some b =>
 have hbl : (bv b).length = 512 := by rw [zal]; exact hok.ch n b hch
 have ho2 : o = some (.agg (bv b).toArray) := by rw [← ho]; unfold zdl; rw [hch]; rfl
 subst ho2
 dsimp only
 refine zas (fn := Tryz.f100) (rs := [.cell 4 62, .tmp 5]) (n := 32) Tryz.func100 rfl rfl Tryz.ntmps100 (by kernel_rfl) rfl ?_
 refine zaf (zaa ?_)
 refine zay rfl (zar (List.replicate 512 (Value.int .u8 0)) (by kernel_rfl) (fun g4 w4 hg4 hr4 hb4 => ?_))
 have lt_q_g4 : q < g4 := Nat.lt_of_lt_of_le hq.lt hg4
 have lt_mc_g4 : mc < g4 := Nat.lt_of_lt_of_le hm.lt hg4
 replace h := h.newc hb4 hg4 hr4.lt
 replace hLL := hLL.new hb4
 replace hq := hq.new hb4
 replace hm := hm.new hb4
 refine zad (zac) (zae (zah (zaf (zaf (zaa (zad (zab) (zad (zab) ?_)))))))
 refine zao rfl (zaj (by kernel_rfl) rfl) (hrd _ w4 h) ?_
 rintro _ w11 ⟨rfl, hb11⟩
 replace h := h.new hb11
 replace hLL := hLL.new hb11
 replace hq := hq.new hb11
 replace hm := hm.new hb11
 replace hr4 := hr4.new hb11
 refine zad (zac) (zae (zah (zaf (zaa (zad (zab) ?_)))))
 refine zad (zaM rfl rfl) ?_
 refine zae (zah ?_)
 refine zcL rfl ((by simp)) ?_
 refine zau (zah (zaf (zaf (zaa (zad (zab) (zad (zak rfl) (zad (zav 4) ?_)))))))
 refine zad (zax hq) ?_
 refine zad (zab) ?_
 refine zad (zcS (k := 3) (e := 62) (.agg zP.toArray) (some (.agg (bv b).toArray)) (by kernel_rfl) (by kernel_rfl) zkh hm rfl rfl n rfl hn (by omega) ho) ?_
 refine zad (zab) (zad (zai rfl rfl) (zad (zai rfl rfl) ?_))
 refine zay rfl (zar (List.replicate 512 (Value.int .u8 0)) (by kernel_rfl) (fun g7 w7 hg7 hr7 hb7 => ?_))
 have lt_q_g7 : q < g7 := Nat.lt_of_lt_of_le hq.lt hg7
 have lt_mc_g7 : mc < g7 := Nat.lt_of_lt_of_le hm.lt hg7
 have lt_g4_g7 : g4 < g7 := Nat.lt_of_lt_of_le hr4.lt hg7
 replace h := h.newc hb7 hg7 hr7.lt
 replace hLL := hLL.new hb7
 replace hq := hq.new hb7
 replace hm := hm.new hb7
 replace hr4 := hr4.new hb7
 refine zaG rfl (zaO 512 (bv b) hr7 (fun w901 hr7 ho901 => ?_))
 replace h := h.only ho901 (by first | (right; simp; done) | (left; omega) | (right; simp [*]; done))
 replace hLL := hLL.oq ho901
 replace hq := hq.only ho901 (Nat.ne_of_lt lt_q_g7)
 replace hm := hm.only ho901 (Nat.ne_of_lt lt_mc_g7)
 replace hr4 := hr4.only ho901 (Nat.ne_of_lt lt_g4_g7)
 refine zad (zac) (zae (zah (zaf (zaa (zad (zab) (zae (zah ?_)))))))
 refine zin rfl (rfl) ?_
 refine zaf (zaa ?_)
 refine zad (zbc 512 hr7) ?_
 refine zaG rfl (zaO 512 (bv b) hr4 (fun w902 hr4 ho902 => ?_))
 replace h := h.only ho902 (by first | (right; simp; done) | (left; omega) | (right; simp [*]; done))
 replace hLL := hLL.oq ho902
 replace hq := hq.only ho902 (Nat.ne_of_lt lt_q_g4)
 replace hm := hm.only ho902 (Nat.ne_of_lt lt_mc_g4)
 replace hr7 := hr7.only ho902 (Nat.ne_of_gt lt_g4_g7)
 refine zad (zac) (zae (zah (zaz (zaP ?_))))
 refine zam [_, _] ⟨⟨_, rfl, Ld.zbX (k := 512) hr4 (by kernel_rfl) (by kernel_rfl) (by first | (simp; done) | (simp [zal, *]; done) | assumption)⟩, rfl, trivial⟩ ?_
 exact ⟨rfl, ⟨_, h.weak (fun b hb => by simp [hb])⟩, hLL⟩
 | none =>
 have ho2 : o = none := by rw [← ho]; unfold zdl; rw [hch]; rfl
 subst ho2
 dsimp only
 rw [hX]
 refine zas (fn := Tryz.f100) (rs := [.cell 4 62, .tmp 5]) (n := 32) Tryz.func100 rfl rfl Tryz.ntmps100 (by kernel_rfl) rfl ?_
 refine zaf (zaa ?_)
 refine zay rfl (zar (List.replicate 512 (Value.int .u8 0)) (by kernel_rfl) (fun g4 w4 hg4 hr4 hb4 => ?_))
 replace h := h.newc hb4 hg4 hr4.lt
 replace hLL := hLL.new hb4
 replace hq := hq.new hb4
 replace hm := hm.new hb4
 refine zad (zac) (zae (zah (zaf (zaf (zaa (zad (zab) (zad (zab) ?_)))))))
 refine zao rfl (zaj (by kernel_rfl) rfl) (hrd _ w4 h) ?_
 rintro _ w11 ⟨rfl, hb11⟩
 replace h := h.new hb11
 replace hLL := hLL.new hb11
 replace hq := hq.new hb11
 replace hm := hm.new hb11
 replace hr4 := hr4.new hb11
 refine zad (zac) (zae (zah (zaf (zaa (zad (zab) ?_)))))
 refine zad (zaM rfl rfl) ?_
 refine zae (zah ?_)
 refine zcL rfl ((by simp)) ?_
 refine zau (zah (zaf (zaf (zaa (zad (zab) (zad (zak rfl) (zad (zav 4) ?_)))))))
 refine zad (zax hq) ?_
 refine zad (zab) ?_
 refine zad (zcS (k := 3) (e := 62) (.agg zP.toArray) none (by kernel_rfl) (by kernel_rfl) zkh hm rfl rfl n rfl hn (by omega) ho) ?_
 refine zad (zab) (zad (zai rfl rfl) (zad (zai rfl rfl) ?_))
 refine zay rfl (zar (List.replicate 512 (Value.int .u8 0)) (by kernel_rfl) (fun g7 w7 hg7 hr7 hb7 => ?_))
 have lt_g4_g7 : g4 < g7 := Nat.lt_of_lt_of_le hr4.lt hg7
 replace h := h.newc hb7 hg7 hr7.lt
 replace hLL := hLL.new hb7
 replace hr4 := hr4.new hb7
 refine zaG rfl (zaO 512 (zP) hr7 (fun w901 hr7 ho901 => ?_))
 replace h := h.only ho901 (by first | (right; simp; done) | (left; omega) | (right; simp [*]; done))
 replace hLL := hLL.oq ho901
 replace hr4 := hr4.only ho901 (Nat.ne_of_lt lt_g4_g7)
 refine zad (zac) (zae (zah (zaf (zaa (zad (zab) (zae (zah ?_)))))))
 refine zjC rfl (rfl) ?_
 refine zau (zah (zaf (zaa (zad (zab) (zad (zab) ?_)))))
 refine zao rfl (zaj (by kernel_rfl) rfl) (hcm _ w901 h) ?_
 rintro _ w29 ⟨rfl, ⟨cv2, h⟩, hb29⟩
 replace hLL := hLL.lq hb29
 replace hr4 := hr4.kl hb29
 refine zad (zai rfl rfl) (zad (zai rfl rfl) ?_)
 refine zaG rfl (zaO 512 (bv X0) hr4 (fun w902 hr4 ho902 => ?_))
 replace h := h.only ho902 (by first | (right; simp; done) | (left; omega) | (right; simp [*]; done))
 replace hLL := hLL.oq ho902
 refine zad (zac) (zae (zah (zaz ?_)))
 refine zam [_, _] ⟨⟨_, rfl, Ld.zbX (k := 512) hr4 (by kernel_rfl) (by kernel_rfl) (by first | (simp; done) | (simp [zal, *]; done) | assumption)⟩, rfl, trivial⟩ ?_
 exact ⟨rfl, ⟨_, h.weak (fun b hb => by simp [hb])⟩, hLL⟩
set_option maxRecDepth 20000 in
theorem putNo (h : zbs g x q mc md rv cv Y lo L P w) (hsz : P.G.size ≤ 4000) (n : Int) (X : Pg) (hne : zcX P n ≠ 0) : Calls Tryz.prog 23 [.pointer (some ⟨q, 0, none⟩), .int .i64 n, .agg (bv X).toArray].toArray w (Ret fun v w' => v = .int .i64 (zcX P n) ∧ Below w.heap.size w w') := by
 have hB := Below.refl w.heap.size w
 have hrd := fun w' (h' : zbs g x q mc md rv cv Y lo L P w') => zjk h' hsz n
 obtain ⟨e, he⟩ : ∃ e, zcX P n = e := ⟨_, rfl⟩
 rw [he] at hrd hne ⊢
 have hw := fun w' (hb : Below w.heap.size w w') => h.new hb
 refine zas (fn := Tryz.f23) (rs := [.tmp 6]) (n := 39) Tryz.func23 rfl rfl Tryz.ntmps23 (by kernel_rfl) rfl ?_
 refine zaf (zaa ?_)
 refine zay rfl (zaU (bv X) rfl (fun g5 w5 hg5 hr5 hb5 => ?_))
 replace hB := hB.acc hb5
 refine zad (zac) (zae (zah (zaf (zaf (zaa (zad (zab) (zad (zab) ?_)))))))
 refine zao rfl (zaj (by kernel_rfl) rfl) (hrd w5 (hw _ hB)) ?_
 rintro _ w12 ⟨rfl, hb12⟩
 replace hB := hB.acc hb12
 refine zad (zac) (zae (zah (zaf (zaa (zad (zab) ?_)))))
 refine zad (zaM rfl rfl) ?_
 refine zae (zah ?_)
 refine ze6 rfl (hne) ?_
 refine zaf (zaa (zad (zab) (zad (zac) (zae (zah (zaz (zaP ?_)))))))
 refine zam [_] ⟨rfl, trivial⟩ ?_
 exact ⟨rfl, hB⟩
set_option maxRecDepth 20000 in
theorem putYes (h : zbs g x q mc md cv cv Y lo L P w) (hok : zjF P) (hde : P.dead = false) (n : Nat) (hn : n < P.n) (X : Pg) (hX : X.length = 512) : Calls Tryz.prog 23 [.pointer (some ⟨q, 0, none⟩), .int .i64 (n : Int), .agg (bv X).toArray].toArray w (Ret fun v w' => v = .int .i64 0 ∧ (∃ cv', zbs g x q mc md cv' cv' Y lo L (zma P n X) w') ∧ LoL lo L w w') := by
 have hLL := LoL.refl lo L w
 have hnl := h.nle.1
 have hDk := (tOk h.lg.fst).1
 have hre : zcX P n = 0 := by unfold zcX; rw [hde, if_neg (by simp), if_pos (by omega)]
 have hrd := fun L' w' (h' : zbs g x q mc md cv cv Y lo L' P w') => zjk h' hok.lg.szm n
 rw [hre] at hrd
 have hX0 := zk3 hok hDk hn
 have hcm := fun L' w' (h' : zbs g x q mc md cv cv Y lo L' P w') => zhy h' hok n hn
 obtain ⟨X0, hX0e⟩ : ∃ X0, zg3 P n = X0 := ⟨_, rfl⟩
 rw [hX0e] at hX0
 simp only [hX0e] at hcm
 obtain ⟨e1, e2, e3, e4, e5, e6, e7⟩ := zem P n
 unfold zma
 rw [hX0e]
 obtain ⟨P2, hP2⟩ : ∃ P2, zfz P n = P2 := ⟨_, rfl⟩
 rw [hP2] at e1 e2 e3 e4 e5 e6 e7 ⊢
 simp only [hP2] at hcm
 rw [← e4]
 rw [← e7] at hn hnl
 have hX0b : (bv X0).length = 512 := by rw [zal]; exact hX0
 have hXb : (bv X).length = 512 := by rw [zal]; exact hX
 obtain ⟨hml, hmL⟩ := h.mcl
 have hqm := h.qm
 refine zas (fn := Tryz.f23) (rs := [.tmp 6]) (n := 39) Tryz.func23 rfl rfl Tryz.ntmps23 (by kernel_rfl) rfl ?_
 refine zaf (zaa ?_)
 refine zay rfl (zaU (bv X) rfl (fun g5 w5 hg5 hr5 hb5 => ?_))
 replace h := h.newc hb5 hg5 hr5.lt
 replace hLL := hLL.new hb5
 refine zad (zac) (zae (zah (zaf (zaf (zaa (zad (zab) (zad (zab) ?_)))))))
 refine zao rfl (zaj (by kernel_rfl) rfl) (hrd _ w5 h) ?_
 rintro _ w12 ⟨rfl, hb12⟩
 replace h := h.new hb12
 replace hLL := hLL.new hb12
 replace hr5 := hr5.new hb12
 refine zad (zac) (zae (zah (zaf (zaa (zad (zab) ?_)))))
 refine zad (zaM rfl rfl) ?_
 refine zae (zah ?_)
 refine zcL rfl ((by simp)) ?_
 refine zau (zah (zaf (zaa (zad (zab) (zad (zab) ?_)))))
 refine zao rfl (zaj (by kernel_rfl) rfl) (hcm _ w12 h) ?_
 rintro _ w19 ⟨rfl, ⟨cv2, h⟩, hb19⟩
 replace hLL := hLL.lq hb19
 replace hr5 := hr5.kl hb19
 refine zad (zab) (zad (zai rfl rfl) (zad (zai rfl rfl) ?_))
 refine zay rfl (zar (List.replicate 512 (Value.int .u8 0)) (by kernel_rfl) (fun g8 w8 hg8 hr8 hb8 => ?_))
 have lt_g5_g8 : g5 < g8 := Nat.lt_of_lt_of_le hr5.lt hg8
 replace h := h.newc hb8 hg8 hr8.lt
 replace hLL := hLL.new hb8
 replace hr5 := hr5.new hb8
 refine zaG rfl (zaO 512 (bv X0) hr8 (fun w901 hr8 ho901 => ?_))
 replace h := h.only ho901 (by first | (right; simp; done) | (left; omega) | (right; simp [*]; done))
 replace hLL := hLL.oq ho901
 replace hr5 := hr5.only ho901 (Nat.ne_of_lt lt_g5_g8)
 refine zad (zac) (zae (zah (zaf (zaf (zaa (zad (zab) ?_))))))
 refine zad (zaM rfl rfl) ?_
 refine zae (zah ?_)
 refine zcL rfl ((by simp)) ?_
 refine zau (zah (zaf ?_))
 have hq := h.row
 unfold plV at hq
 refine zaa (zad (zab) (zad (zak rfl) (zad (zav 4) ?_)))
 refine zad (zax hq) ?_
 refine zad (zab) ?_
 have hm := h.mch
 have hg5m : g5 ≠ mc := fun e => h.mcl.2 (by rw [e]; simp)
 have hg8m : g8 ≠ mc := fun e => h.mcl.2 (by rw [e]; simp)
 refine zay rfl (ziM (k := 3) (e := 62) (by kernel_rfl) (by kernel_rfl) hm rfl rfl (n) (by first | rfl | omega) (by omega) (by omega) (fun w902 hm ho902 => ?_))
 replace hLL := hLL.oq ho902
 replace hr5 := hr5.only ho902 (by omega)
 replace hr8 := hr8.only ho902 (by omega)
 replace hq := hq.only ho902 (by omega)
 rw [znh] at hm
 replace h := h.zjj hm ho902
 refine zae (zah (zaf (zaf (zaa ?_))))
 refine zad (zbc 512 hr5) ?_
 refine zad (zbc 512 hr8) ?_
 refine zad (zhS (n := 512) (by kernel_rfl) rfl rfl hX hX0) ?_
 refine zae (zah ?_)
 refine W_ifn rfl (fun hne => ?_) (fun hne => ?_)
 ·
  have hm : MapAt Tryz.prog 3 w902 mc P2.n (zdl (zeW P2.ch n none)) := h.mch
  have hh := h
  refine za5 [mc] (by kernel_rfl) ?_
  intro w903 hb903 hS903
  replace hLL := hLL.new hb903
  replace hr5 := hr5.new hb903
  replace hq := hq.new hb903
  replace hm := hm.new hb903
  replace hh := hh.new hb903
  have hr5_d903 := hr5
  have hq_d903 := hq
  have hm_d903 := hm
  refine zat 0 (zab) ?_
  refine zat 1 (zak rfl) ?_
  refine zat 2 (zav 4) ?_
  refine zbp 3 (fun w' hS' => zaI rfl (Ld.zdY (hq_d903.kpd hS' (by first | (simp; done) | (simp; omega) | (simp [*]; done) | exact zaq (Or.inl (by omega)) | exact zaq (Or.inr (by simp)) | exact fun g (hm_d903.kpd hS' (by first | (simp; done) | (simp; omega) | (simp [*]; done) | exact zaq (Or.inl (by omega)) | exact zaq (Or.inr (by simp)) | exact fun g hm => Nat.le_trans (by omega) (zcs hm).1 | (intro b o e; cases e; exact zaq (Or.inl (by omega))) | (intro b hm; have := (hu.lt b (Option.mem_toList.1 hm)).1; omega) | (intro b o e; cases e; intro hm; have := (hu.lt _ (Option.mem_toList.1 hm)).1; omega) | assumption)) => Nat.le_trans (by omega) (zcs (hm_d903.kpd hS' (by first | (simp; done) | (simp; omega) | (simp [*]; done) | exact zaq (Or.inl (by omega)) | exact zaq (Or.inr (by simp)) | exact fun g hm => Nat.le_trans (by omega) (zcs hm).1 | (intro b o e; cases e; exact zaq (Or.inl (by omega))) | (intro b hm; have := (hu.lt b (Option.mem_toList.1 hm)).1; omega) | (intro b o e; cases e; intro hm; have := (hu.lt _ (Option.mem_toList.1 hm)).1; omega) | assumption))).1 | (intro b o e; cases e; exact zaq (Or.inl (by omega))) | (intro b (hm_d903.kpd hS' (by first | (simp; done) | (simp; omega) | (simp [*]; done) | exact zaq (Or.inl (by omega)) | exact zaq (Or.inr (by simp)) | exact fun g hm => Nat.le_trans (by omega) (zcs hm).1 | (intro b o e; cases e; exact zaq (Or.inl (by omega))) | (intro b hm; have := (hu.lt b (Option.mem_toList.1 hm)).1; omega) | (intro b o e; cases e; intro hm; have := (hu.lt _ (Option.mem_toList.1 hm)).1; omega) | assumption)); have := (hu.lt b (Option.mem_toList.1 (hm_d903.kpd hS' (by first | (simp; done) | (simp; omega) | (simp [*]; done) | exact zaq (Or.inl (by omega)) | exact zaq (Or.inr (by simp)) | exact fun g hm => Nat.le_trans (by omega) (zcs hm).1 | (intro b o e; cases e; exact zaq (Or.inl (by omega))) | (intro b hm; have := (hu.lt b (Option.mem_toList.1 hm)).1; omega) | (intro b o e; cases e; intro hm; have := (hu.lt _ (Option.mem_toList.1 hm)).1; omega) | assumption)))).1; omega) | (intro b o e; cases e; intro (hm_d903.kpd hS' (by first | (simp; done) | (simp; omega) | (simp [*]; done) | exact zaq (Or.inl (by omega)) | exact zaq (Or.inr (by simp)) | exact fun g hm => Nat.le_trans (by omega) (zcs hm).1 | (intro b o e; cases e; exact zaq (Or.inl (by omega))) | (intro b hm; have := (hu.lt b (Option.mem_toList.1 hm)).1; omega) | (intro b o e; cases e; intro hm; have := (hu.lt _ (Option.mem_toList.1 hm)).1; omega) | assumption)); have := (hu.lt _ (Option.mem_toList.1 (hm_d903.kpd hS' (by first | (simp; done) | (simp; omega) | (simp [*]; done) | exact zaq (Or.inl (by omega)) | exact zaq (Or.inr (by simp)) | exact fun g hm => Nat.le_trans (by omega) (zcs hm).1 | (intro b o e; cases e; exact zaq (Or.inl (by omega))) | (intro b hm; have := (hu.lt b (Option.mem_toList.1 hm)).1; omega) | (intro b o e; cases e; intro hm; have := (hu.lt _ (Option.mem_toList.1 hm)).1; omega) | assumption)))).1; omega) | assumption)) (by kernel_rfl) rfl)) ?_
  refine zat 4 (zab) ?_
  refine zbp 5 (fun w' hS' => zaI rfl (Ld.zbX (k := 512) (hr5_d903.kpd hS' (by first | (simp; done) | (simp; omega) | (simp [*]; done) | exact zaq (Or.inl (by omega)) | exact zaq (Or.inr (by simp)) | exact fun g (hm_d903.kpd hS' (by first | (simp; done) | (simp; omega) | (simp [*]; done) | exact zaq (Or.inl (by omega)) | exact zaq (Or.inr (by simp)) | exact fun g hm => Nat.le_trans (by omega) (zcs hm).1 | (intro b o e; cases e; exact zaq (Or.inl (by omega))) | (intro b hm; have := (hu.lt b (Option.mem_toList.1 hm)).1; omega) | (intro b o e; cases e; intro hm; have := (hu.lt _ (Option.mem_toList.1 hm)).1; omega) | assumption)) => Nat.le_trans (by omega) (zcs (hm_d903.kpd hS' (by first | (simp; done) | (simp; omega) | (simp [*]; done) | exact zaq (Or.inl (by omega)) | exact zaq (Or.inr (by simp)) | exact fun g hm => Nat.le_trans (by omega) (zcs hm).1 | (intro b o e; cases e; exact zaq (Or.inl (by omega))) | (intro b hm; have := (hu.lt b (Option.mem_toList.1 hm)).1; omega) | (intro b o e; cases e; intro hm; have := (hu.lt _ (Option.mem_toList.1 hm)).1; omega) | assumption))).1 | (intro b o e; cases e; exact zaq (Or.inl (by omega))) | (intro b (hm_d903.kpd hS' (by first | (simp; done) | (simp; omega) | (simp [*]; done) | exact zaq (Or.inl (by omega)) | exact zaq (Or.inr (by simp)) | exact fun g hm => Nat.le_trans (by omega) (zcs hm).1 | (intro b o e; cases e; exact zaq (Or.inl (by omega))) | (intro b hm; have := (hu.lt b (Option.mem_toList.1 hm)).1; omega) | (intro b o e; cases e; intro hm; have := (hu.lt _ (Option.mem_toList.1 hm)).1; omega) | assumption)); have := (hu.lt b (Option.mem_toList.1 (hm_d903.kpd hS' (by first | (simp; done) | (simp; omega) | (simp [*]; done) | exact zaq (Or.inl (by omega)) | exact zaq (Or.inr (by simp)) | exact fun g hm => Nat.le_trans (by omega) (zcs hm).1 | (intro b o e; cases e; exact zaq (Or.inl (by omega))) | (intro b hm; have := (hu.lt b (Option.mem_toList.1 hm)).1; omega) | (intro b o e; cases e; intro hm; have := (hu.lt _ (Option.mem_toList.1 hm)).1; omega) | assumption)))).1; omega) | (intro b o e; cases e; intro (hm_d903.kpd hS' (by first | (simp; done) | (simp; omega) | (simp [*]; done) | exact zaq (Or.inl (by omega)) | exact zaq (Or.inr (by simp)) | exact fun g hm => Nat.le_trans (by omega) (zcs hm).1 | (intro b o e; cases e; exact zaq (Or.inl (by omega))) | (intro b hm; have := (hu.lt b (Option.mem_toList.1 hm)).1; omega) | (intro b o e; cases e; intro hm; have := (hu.lt _ (Option.mem_toList.1 hm)).1; omega) | assumption)); have := (hu.lt _ (Option.mem_toList.1 (hm_d903.kpd hS' (by first | (simp; done) | (simp; omega) | (simp [*]; done) | exact zaq (Or.inl (by omega)) | exact zaq (Or.inr (by simp)) | exact fun g hm => Nat.le_trans (by omega) (zcs hm).1 | (intro b o e; cases e; exact zaq (Or.inl (by omega))) | (intro b hm; have := (hu.lt b (Option.mem_toList.1 hm)).1; omega) | (intro b o e; cases e; intro hm; have := (hu.lt _ (Option.mem_toList.1 hm)).1; omega) | assumption)))).1; omega) | assumption)) (by kernel_rfl) (by kernel_rfl) (by first | (simp; done) | (simp [zal, *]; done) | assumption))) ?_
  refine zaH 6 (by kernel_rfl) ?_
  refine zbO rfl rfl (zeh (k := 3) (e := 62) (.agg (bv X).toArray) (by kernel_rfl) (by kernel_rfl) hm rfl rfl rfl (n) (by first | rfl | omega) (by omega) (by omega) (fun w905 hm ho905 => ?_))
  have hS904 := hS903.aq ho905
  refine ⟨hS904, ?_⟩
  replace hLL := hLL.oq ho905
  rw [zgL, zoF] at hm
  have h2 := hh.zjj hm ho905
  refine zaL (by kernel_rfl) ?_
  refine zah (zaf (zaa (zad (zac) (zae (zah (zaz ?_))))))
  refine zam [_] ⟨rfl, trivial⟩ ?_
  have hXn : ¬ X = X0 := hne
  rw [if_neg hXn]
  exact ⟨rfl, ⟨_, h2.weak (fun b hb => by simp [hb])⟩, hLL⟩
 ·
  have hXn : X = X0 := hne
  rw [if_pos hXn]
  refine zau (zah (zaf (zaa (zad (zac) (zae (zah (zaz ?_)))))))
  refine zam [_] ⟨rfl, trivial⟩ ?_
  exact ⟨rfl, ⟨_, h.weak (fun b hb => by simp [hb])⟩, hLL⟩
end
def zeY (c : PgM) : Nat → Nat → List (Nat × Pg)
 | _, 0 => []
 | a, m + 1 => match c a with
  | some b => (a, b) :: zeY c (a + 1) m
  | none => zeY c (a + 1) m
theorem zk4 (c : PgM) : ∀ (m a : Nat), keysOf (zdl c) a m = (zeY c a m).map fun p => (p.1 : Int)
 | 0, a => rfl
 | m + 1, a => by
  have ih := zk4 c m (a + 1)
  rw [keysOf, zeY, ih]
  unfold zdl
  cases c a <;> rfl
theorem zeZ {c : PgM} : ∀ {m a : Nat} {p : Nat × Pg}, p ∈ zeY c a m → c p.1 = some p.2 ∧ a ≤ p.1 ∧ p.1 < a + m
 | 0, a, p, h => nomatch h
 | m + 1, a, p, h => by
  rw [zeY] at h
  split at h
  ·rcases List.mem_cons.1 h with rfl | h
   ·exact ⟨‹_›, Nat.le_refl _, by omega⟩
   ·have := zeZ h; exact ⟨this.1, by omega, by omega⟩
  ·have := zeZ h; exact ⟨this.1, by omega, by omega⟩
theorem znp (c : PgM) : ∀ (m a : Nat), (zeY c a m).length ≤ m
 | 0, a => Nat.le_refl _
 | m + 1, a => by
  have := znp c m (a + 1)
  rw [zeY]
  split
  ·rw [List.length_cons]; omega
  ·omega
def zb4 (s : Nat) : Dk → List (Nat × Pg) → Dk × Bool
 | D, [] => (D, true)
 | D, p :: l => if (zaS D (1 + s + p.1 * 4) (za4 p.2 4)).2 then zb4 s (zaS D (1 + s + p.1 * 4) (za4 p.2 4)).1 l else ((zaS D (1 + s + p.1 * 4) (za4 p.2 4)).1, false)
theorem zgM (s : Nat) : ∀ (l m : List (Nat × Pg)) (D : Dk), zb4 s D (l ++ m) = if (zb4 s D l).2 then zb4 s (zb4 s D l).1 m else zb4 s D l
 | [], m, D => rfl
 | p :: l, m, D => by
  rw [List.cons_append, zb4, zb4]
  by_cases h : (zaS D (1 + s + p.1 * 4) (za4 p.2 4)).2 = true
  ·rw [if_pos h, if_pos h]; exact zgM s l m _
  ·rw [if_neg h, if_neg h]; rfl
theorem zft (s : Nat) : ∀ (l : List (Nat × Pg)) (D : Dk), (zb4 s D l).1.V.length = D.V.length
 | [], D => rfl
 | p :: l, D => by
  rw [zb4]
  split
  ·rw [zft s l, zbP]
  ·exact zbP _ _ _
theorem ze0 (s : Nat) : ∀ (l : List (Nat × Pg)) (D : Dk) (k : Nat), zbE D k → zbE (zb4 s D l).1 (k + 4 * l.length)
 | [], D, k, h => h
 | p :: l, D, k, h => by
  have h1 := zdU (za4 p.2 4) D (1 + s + p.1 * 4) k h
  rw [zck] at h1
  rw [zb4, List.length_cons]
  split
  ·exact zbY (ze0 s l _ _ h1) (by omega)
  ·exact zbY h1 (by omega)
def zcN (D : Dk) (G : Lg) : Int × Dk × Lg :=
 if G.dead then (10, D, G) else if G.count = 4611686018427387904 then (8, D, G)
 else if zdK D (G.count + 1) (G.count + 1) then (0, zct D (G.count + 1) (G.count + 1), zi8 G) else (10, zct D (G.count + 1) (G.count + 1), { G with dead := true })
theorem zfu (D : Dk) (c s : Nat) : (zct D c s).V.length = D.V.length := by
 unfold zct
 split
 ·rw [zcW, zfI]
 ·exact zfI _ _ _
theorem ze1 (D : Dk) (G : Lg) : (zcN D G).2.1.V.length = D.V.length ∧ (zcN D G).2.2.size = G.size := by
 unfold zcN
 split
 ·exact ⟨rfl, rfl⟩
 ·split
  ·exact ⟨rfl, rfl⟩
  ·split <;> exact ⟨zfu _ _ _, rfl⟩
def zbo (P : Pl) : Dk × Bool := zb4 P.G.size P.D (zeY P.di 0 P.n)
def zaZ (P : Pl) : Int × Pl :=
 if (zbo P).2 then
  if za1 (zbo P).1 then
   ((zcN (zbk (zbo P).1) P.G).1, { P with D := (zcN (zbk (zbo P).1) P.G).2.1, G := (zcN (zbk (zbo P).1) P.G).2.2, di := if (zcN (zbk (zbo P).1) P.G).1 = 0 then noP else P.di })
  else (10, { P with D := zbk (zbo P).1 })
 else (10, { P with D := (zbo P).1 })
section
variable {Y : World → List Nat → Prop} [Thing Y] {g x q mc md lo : Nat} {rv cv : Value} {L : List Nat} {P : Pl} {w w' : World}
omit [Thing Y] in
theorem zbs.setDz {D : Dk} (h : zbs g x q mc md rv cv Y lo L P w) (h2 : Two (DZ g D) Y lo (x :: (cv.ownBlock.toList ++ q :: mc :: md :: L)) w') (k : LoL lo (x :: (cv.ownBlock.toList ++ q :: mc :: md :: L)) w w') (hD : D.V.length = P.D.V.length) :
  zbs g x q mc md rv cv Y lo L { P with D := D } w' ∧ LoL lo (q :: md :: L) w w' := by
 have k2 : LoL lo (cv.ownBlock.toList ++ q :: mc :: md :: L) w w' := k.weak (Nat.le_refl _) fun b hb => List.mem_cons_of_mem _ hb
 exact ⟨h.setLg ⟨h2, h.lg.rowx.kpd k.kp (zaq (.inr (List.mem_cons_self ..))), h.lg.ge, h.lg.ni⟩ k2 rfl hD, k.weak (Nat.le_refl _) fun b hb => by
  simp only [List.mem_cons] at hb
  rcases hb with hb | hb | hb <;> simp [hb]⟩
theorem writePl (h : zbs g x q mc md rv cv Y lo L P w) (n : Nat) (X : Pg) (hX : X.length = 512) (hs : P.G.size ≤ 4000) (hn : 1 + P.G.size + n * 4 + 4 ≤ P.D.V.length) (hsh : zbE P.D 80000) :
  Calls Tryz.prog 87 [.pointer (some ⟨g, 0, none⟩), .int .i64 (P.G.size : Int), .int .i64 (n : Int), .agg (bv X).toArray].toArray w (Ret fun v w' => v = .int .i64 (if (zaS P.D (1 + P.G.size + n * 4) (za4 X 4)).2 then 0 else 10) ∧ zbs g x q mc md rv cv Y lo L { P with D := (zaS P.D (1 + P.G.size + n * 4) (za4 X 4)).1 } w' ∧ LoL lo (q :: md :: L) w w') :=
 (writeP h.lg.two P.G.size n X hX hs hn hsh).to fun v w' ⟨e, h2, k⟩ => ⟨e, h.setDz h2 k (zbP _ _ _)⟩
theorem flushPl (h : zbs g x q mc md rv cv Y lo L P w) :
  Calls Tryz.prog 138 [.pointer (some ⟨g, 0, none⟩)].toArray w (Ret fun v w' => v = .int .i64 (if za1 P.D then 0 else 10) ∧ zbs g x q mc md rv cv Y lo L { P with D := zbk P.D } w' ∧ LoL lo (q :: md :: L) w w') :=
 (zmY h.lg.two).to fun v w' ⟨e, h2, k⟩ => ⟨e, h.setDz h2 k zcW⟩
theorem truncPl (h : zbs g x q mc md rv cv Y lo L P w) (hc : P.G.count ≤ 4611686018427387904) (hsh : zbE P.D 90000) :
  Calls Tryz.prog 154 [.pointer (some ⟨x, 0, none⟩)].toArray w (Ret fun v w' => v = .int .i64 (zcN P.D P.G).1 ∧ zbs g x q mc md rv cv Y lo L { P with D := (zcN P.D P.G).2.1, G := (zcN P.D P.G).2.2 } w' ∧ LoL lo L w w') := by
 refine (trunc18 h.lg hc hsh).to fun v w' ⟨e, hv, k, hh⟩ => ?_
 have hr : e = (zcN P.D P.G).1 ∧ zd5 g x Y lo (cv.ownBlock.toList ++ q :: mc :: md :: L) (zcN P.D P.G).2.1 (zcN P.D P.G).2.2 w' := by
  unfold zcN
  rcases hh with ⟨h1, h2, h3⟩ | ⟨h1, h2, h3, h4⟩ | ⟨h1, h2, h3, h4, h5⟩ | ⟨h1, h2, h3, h4, h5⟩
  ·rw [if_pos h1]; exact ⟨h2, h3⟩
  ·rw [if_neg (by rw [h1]; simp), if_pos h2]; exact ⟨h3, h4⟩
  ·rw [if_neg (by rw [h1]; simp), if_neg (by omega), if_neg (by rw [h3]; simp)]; exact ⟨h4, h5⟩
  ·rw [if_neg (by rw [h1]; simp), if_neg (by omega), if_pos h3]; exact ⟨h4, h5⟩
 have hs := ze1 P.D P.G
 exact ⟨by rw [hv, hr.1], h.setLg hr.2 k hs.2 hs.1, h.outLo k⟩
theorem zbs.sl {p : Option Addr} {m sz : Nat} {cs : List Value} (h : zbs g x q mc md rv cv Y lo L P w) (hb : Below w.heap.size w w') (hs : zaT w' p m sz cs) (hsz : 0 < sz) (hf : ∀ b o, p = some ⟨b, o, none⟩ → w.heap.size ≤ b) :
  ∃ L2, (∀ b ∈ L, b ∈ L2) ∧ (0 < m → ∀ b o, p = some ⟨b, o, none⟩ → b ∈ L2) ∧ zbs g x q mc md rv cv Y lo L2 P w' := by
 by_cases h0 : 0 < m
 ·obtain ⟨gp, op, rfl, hl⟩ := hs.some (Nat.mul_pos h0 hsz)
  exact ⟨gp :: L, fun b hb => List.mem_cons_of_mem _ hb, fun _ b o e => by cases e; exact List.mem_cons_self .., h.newc hb (hf gp op rfl) hl⟩
 ·exact ⟨L, fun b hb => hb, fun h1 => absurd h1 h0, h.new hb⟩
set_option maxRecDepth 20000 in
set_option maxHeartbeats 1000000 in
theorem settleP (h : zbs g x q mc md cv cv Y lo L P w) (hok : zjF P) (hsh : zbE P.D 70000) :
   Calls Tryz.prog 121 [.pointer (some ⟨q, 0, none⟩)].toArray w (Ret fun v w' => v = .int .i64 (zaZ P).1 ∧ zbs g x q mc md cv cv Y lo L (zaZ P).2 w' ∧ LoL lo L w w') := by
 have hnl := h.nle.1
 have hml : maxLen = 9223372036854775807 := by decide
 have hsm := hok.lg.szm
 have hrm := fun n (hn : n < P.n) => (zjl hok hn).1
 have hkp : zie P.di P.n = (zeY P.di 0 P.n).map fun p => (p.1 : Int) := zk4 P.di P.n 0
 have hcm := hok.lg.cm
 have hDi := dirtyP h
 have hmem := fun (p : Nat × Pg) (hp : p ∈ zeY P.di 0 P.n) => zeZ hp
 have hll := znp P.di P.n 0
 obtain ⟨R, hR⟩ : ∃ R, zaZ P = R := ⟨_, rfl⟩
 rw [hR]
 unfold zaZ zbo at hR
 obtain ⟨l, hl⟩ : ∃ l, zeY P.di 0 P.n = l := ⟨_, rfl⟩
 rw [hl] at hkp hmem hll
 simp only [hl] at hR
 have hkl : (zie P.di P.n).length = l.length := by rw [hkp, List.length_map]
 obtain ⟨ks, hks⟩ : ∃ ks, zie P.di P.n = ks := ⟨_, rfl⟩
 rw [hks] at hkp hDi hkl
 have hsl := ze0 P.G.size l P.D 70000 hsh
 have hB0 := Below.refl w.heap.size w
 refine zas (fn := Tryz.f121) (rs := [.tmp 2]) (n := 55) Tryz.func121 rfl rfl Tryz.ntmps121 (by kernel_rfl) rfl ?_
 refine zaf (zaa (zad (zac) (zae (zah (zaf (zaf (zaa (zad (zab) ?_))))))))
 refine zao rfl (zaj (by kernel_rfl) rfl) (hDi) ?_
 rintro _ w9 ⟨⟨p, c, rfl, hks1, hpb⟩, hb9⟩
 replace hB0 := hB0.acc hb9
 refine zad (zaJ (e := 3) (sz := 1) (by kernel_rfl) rfl rfl) ?_
 refine zad (zab) (zae (zah (zaE ?_)))
 have hN := h.sl hB0 hks1 (by omega) hpb
 obtain ⟨L2, hL12, hpL, hP⟩ := hN
 have hLL := LoL.refl lo L2 w9
 have hlt0 := hP.ltL
 refine zbB (α := Nat) 0 (fun i => [(11, .int .i64 (i : Nat)), (10, .int .i64 (ks.length : Int)), (9, .slice p ks.length c), (0, .pointer (some ⟨q, 0, none⟩))])
   (fun i w' => i ≤ l.length ∧ (zb4 P.G.size P.D (l.take i)).2 = true ∧ zbs g x q mc md cv cv Y lo L2 { P with D := (zb4 P.G.size P.D (l.take i)).1 } w' ∧ zaT w' p ks.length 1 (iv ks) ∧ LoL lo L2 w9 w') (fun i => l.length - i)
   ⟨rfl, rfl, rfl, rfl, rfl⟩ ⟨Nat.zero_le _, rfl, hP, hks1, hLL⟩ ?_
 clear hP hks1 hLL
 rintro i f wr ⟨hi, hwok, hP, hks1, hLL⟩
 have hwl := zft P.G.size (l.take i) P.D
 have hws := ze0 P.G.size (l.take i) P.D 70000 hsh
 rw [List.length_take] at hws
 refine zaf (zaa ?_)
 refine zad (za2 rfl rfl) ?_
 refine zae (zah (zaf ?_))
 refine zbf rfl (fun hlt => ?_) (fun hlt => ?_)
 ·
  refine zau (zah (zaf (zaE (zaf ?_))))
  have hob : ∃ pr, l[i]? = some pr := ⟨_, List.getElem?_eq_getElem (by omega)⟩
  obtain ⟨⟨n, X⟩, hpr⟩ := hob
  have hki : ks[i]? = some (n : Int) := by rw [hkp, List.getElem?_map, hpr]; rfl
  have hm3 := hmem _ (List.mem_of_getElem? hpr)
  dsimp only at hm3
  have hXl := hok.di n X hm3.1
  have hnN : n < P.n := by omega
  have hrn := hrm n hnN
  have hobg := hks1.some (by omega)
  obtain ⟨gp, op, hgp, hgpl⟩ := hobg
  subst hgp
  have hgpL : gp ∈ L2 := hpL (by omega) gp op rfl
  have htk : l.take (i + 1) = l.take i ++ [(n, X)] := by rw [List.take_add_one, hpr]; rfl
  have hap := zgM P.G.size (l.take i) [(n, X)] P.D
  rw [← htk, if_pos hwok] at hap
  have hvv : (zdl P.di n).getD (.agg zP.toArray) = .agg (bv X).toArray := by unfold zdl; rw [hm3.1]; rfl
  have hq := hP.row
  unfold plV at hq
  have hd : MapAt Tryz.prog 3 wr md P.n (zdl P.di) := by
    have h1 := hP.mdi
    unfold Pl.n at h1 ⊢
    dsimp only at h1
    rw [hwl] at h1
    exact h1
  refine zaa ?_
  refine zad (zaX (e := 3) (by kernel_rfl) rfl rfl (i) (by omega) (by omega)) ?_
  refine zad (zaI rfl (Ld.sl1 hks1 (by kernel_rfl) (iv_some hki))) ?_
  refine zad (zac) (zae (zah (zaf ?_)))
  refine zcY (lo) ((q :: md :: L2)) (by kernel_rfl) ?_
  intro w901 hb901 hn901 hS901
  replace hP := hP.new hb901
  replace hLL := hLL.new hb901
  replace hks1 := hks1.new hb901
  replace hq := hq.new hb901
  replace hd := hd.new hb901
  have hq_d901 := hq
  have hd_d901 := hd
  refine zat 0 (zab) ?_
  refine zat 1 (zak rfl) ?_
  refine zat 2 (zav 0) ?_
  refine zbp 3 (fun w' hS' => zax (hq_d901.kL hS')) ?_
  refine zat 4 (zab) ?_
  refine zat 5 (zak rfl) ?_
  refine zat 6 (zav 2) ?_
  refine zbp 7 (fun w' hS' => zax (hq_d901.kL hS')) ?_
  refine zat 8 (zab) ?_
  refine zat 9 (zab) ?_
  refine zat 10 (zak rfl) ?_
  refine zat 11 (zav 5) ?_
  refine zbp 12 (fun w' hS' => zax (hq_d901.kL hS')) ?_
  refine zat 13 (zab) ?_
  refine zbp 14 (fun w' hS' => zeu (k := 3) (e := 62) ((.agg zP.toArray)) (by kernel_rfl) (by kernel_rfl) (by intro w; first | kernel_rfl | rfl) (hd_d901.kpd hS' (by first | (simp; done) | (simp; omega) | (simp [*]; done) | exact zaq (Or.inl (by omega)) | exact zaq (Or.inr (by simp)) | exact fun g hm => Nat.le_trans (by omega) (zcs hm).1 | (intro b o e; cases e; exact zaq (Or.inl (by omega))) | (intro b hm; have := (hu.lt b (Option.mem_toList.1 hm)).1; omega) | (intro b o e; cases e; intro hm; have := (hu.lt _ (Option.mem_toList.1 hm)).1; omega) | assumption)) rfl rfl (n) (by first | rfl | omega) (by omega) (by omega) hvv) ?_
  refine zaH 15 (by kernel_rfl) ?_
  have hwp := writePl hP n X hXl hsm (by dsimp only; omega) (zbY hws (by omega))
  dsimp only at hwp
  refine zbb rfl rfl (zaj (by kernel_rfl) rfl) (hwp) ?_
  rintro _ w30 ⟨rfl, hP, hb30⟩
  have hS902 := hS901.zgA hn901 hb30.wk
  refine ⟨hS902, ?_⟩
  replace hLL := hLL.lq hb30
  replace hks1 := hks1.kpd hb30.kp (by first | (refine zaq ?_; left; omega) | (refine zaq ?_; right; simp; done) | (intro b o e; cases e; first | (refine zaq ?_; left; omega) | (refine zaq ?_; right; simp; done) | (refine zaq ?_; right; simp [*]; done)) | (intro b hb; refine zaq ?_; left; omega) | (intro b hb e; cases e; exact zaq (by right; simp [*]) hb))
  refine zat 16 (zac) ?_
  refine zaL (by kernel_rfl) ?_
  refine zah (zaf (zaa (zad (zab) ?_)))
  refine zad (zaM rfl rfl) ?_
  refine zae (zah ?_)
  refine zbf rfl (fun hne => ?_) (fun hne => ?_)
  ·
   refine zaf (zaa (zad (zab) (zad (zac) (zae (zah (zaz (zbd (zaP (zeL (zbd (zaP ?_)))))))))))
   refine zam [_] ⟨rfl, trivial⟩ ?_
   have hf : (zaS (zb4 P.G.size P.D (l.take i)).1 (1 + P.G.size + n * 4) (za4 X 4)).2 = false := by cases hq : (zaS (zb4 P.G.size P.D (l.take i)).1 (1 + P.G.size + n * 4) (za4 X 4)).2 with | false => rfl | true => simp [hq] at hne
   have hbad : zb4 P.G.size P.D l = ((zaS (zb4 P.G.size P.D (l.take i)).1 (1 + P.G.size + n * 4) (za4 X 4)).1, false) := by
     have h1 := zgM P.G.size (l.take (i + 1)) (l.drop (i + 1)) P.D
     have h2 : zb4 P.G.size P.D (l.take (i + 1)) = ((zaS (zb4 P.G.size P.D (l.take i)).1 (1 + P.G.size + n * 4) (za4 X 4)).1, false) := by
      rw [hap, zb4, if_neg (by rw [hf]; simp)]
     rw [List.take_append_drop, h2, if_neg (by simp)] at h1
     exact h1
   rw [hbad, if_neg (by simp)] at hR
   subst hR
   refine ⟨by rw [hf]; rfl, hP.weak hL12, ?_⟩
   exact (LoL.of_below hB0).ll hLL hL12
  ·
   have hf : (zaS (zb4 P.G.size P.D (l.take i)).1 (1 + P.G.size + n * 4) (za4 X 4)).2 = true := by cases hq : (zaS (zb4 P.G.size P.D (l.take i)).1 (1 + P.G.size + n * 4) (za4 X 4)).2 with | true => rfl | false => simp [hq] at hne
   rw [zb4, if_pos hf, zb4] at hap
   refine zau (za6 (zah (zaa ?_)))
   refine zad (zaN rfl rfl (Coup.w64 (by omega))) ?_
   refine zad (zab) (zae ?_)
   refine zbw ⟨i + 1, by omega, ⟨by go_num, rfl, rfl, rfl, rfl⟩, by omega, by rw [hap], by rw [hap]; exact hP, hks1, hLL⟩
 ·
  have hil : i = l.length := by omega
  subst hil
  rw [List.take_length] at hP hwok
  rw [List.take_length] at hwl
  rw [if_pos hwok] at hR
  have hobt : ∃ D1, (zb4 P.G.size P.D l).1 = D1 := ⟨_, rfl⟩
  obtain ⟨D1, hD1⟩ := hobt
  rw [hD1] at hP hwl hsl hR
  have hfl := flushPl hP
  dsimp only at hfl
  have hq := hP.row
  unfold plV at hq
  obtain ⟨hdl, hdL⟩ := hP.mdl
  refine zbm (zbW (zcr (zbt (zah (zaf (zaf (zaa (zad (zab) (zad (zak rfl) (zad (zav 0) ?_))))))))))
  refine zad (zax hq) ?_
  refine zao rfl (zaj (by kernel_rfl) rfl) (hfl) ?_
  rintro _ w39 ⟨rfl, hP, hb39⟩
  replace hLL := hLL.lq hb39
  refine zad (zac) (zae (zah (zaf (zaa (zad (zab) ?_)))))
  refine zad (zaM rfl rfl) ?_
  refine zae (zah ?_)
  refine zbf rfl (fun hne => ?_) (fun hne => ?_)
  ·
   refine zaf (zaa (zad (zab) (zad (zac) (zae (zah (zaz (zaP ?_)))))))
   refine zam [_] ⟨rfl, trivial⟩ ?_
   have hf : za1 D1 = false := by cases hq : za1 D1 with | false => rfl | true => simp [hq] at hne
   rw [if_neg (by rw [hf]; simp)] at hR
   subst hR
   exact ⟨by rw [hf]; rfl, hP.weak hL12, (LoL.of_below hB0).ll hLL hL12⟩
  ·
   have hf : za1 D1 = true := by cases hq : za1 D1 with | true => rfl | false => simp [hq] at hne
   rw [if_pos hf] at hR
   have htr := truncPl hP hcm (fun v hv => by
     rw [zbk, if_pos hf] at hv
     obtain ⟨u, _, rfl⟩ := List.mem_map.1 hv
     show 1 ≤ 90000
     omega)
   dsimp only at htr
   have htl := ze1 (zbk D1) P.G
   have hobt : ∃ t, zcN (zbk D1) P.G = t := ⟨_, rfl⟩
   obtain ⟨⟨te, tD, tG⟩, htR⟩ := hobt
   simp only [htR] at htr htl hR
   have hq := hP.row
   unfold plV at hq
   refine zau (zah (zaf (zaf (zaa (zad (zab) (zad (zak rfl) (zad (zav 1) ?_)))))))
   refine zad (zax hq) ?_
   refine zao rfl (zaj (by kernel_rfl) rfl) (htr) ?_
   rintro _ w47 ⟨rfl, hP, hb47⟩
   replace hLL := hLL.lq hb47
   refine zad (zac) (zae (zah (zaf (zaa (zad (zab) ?_)))))
   refine zad (zaM rfl rfl) ?_
   refine zae (zah ?_)
   refine zbf rfl (fun hne => ?_) (fun hne => ?_)
   ·
    refine zaf (zaa (zad (zab) (zad (zac) (zae (zah (zaz (zaP ?_)))))))
    refine zam [_] ⟨rfl, trivial⟩ ?_
    have hf2 : ¬ te = 0 := hne
    rw [if_neg hf2] at hR
    subst hR
    exact ⟨rfl, hP.weak hL12, (LoL.of_below hB0).ll hLL hL12⟩
   ·
    have hf2 : te = 0 := by simpa using hne
    rw [if_pos hf2] at hR
    subst hR
    have hq := hP.row
    unfold plV at hq
    refine zau (zah (zaf (zaa (zad (zab) (zad (zak rfl) (zad (zav 5) ?_))))))
    refine zad (zax hq) ?_
    have hd := hP.mdi
    refine zay rfl (zkf (k := 3) (e := 62) (by kernel_rfl) hd rfl (fun w903 hd ho903 => ?_))
    replace hLL := hLL.oq ho903
    have hP2 := hP.setDi (c := noP) hd ho903
    refine zae (zah (zaf (zaa (zad (zac) (zae (zah (zaz ?_)))))))
    refine zam [_] ⟨rfl, trivial⟩ ?_
    exact ⟨by rw [hf2]; rfl, hP2.weak hL12, (LoL.of_below hB0).ll hLL hL12⟩
end
end Go.Proofs.YtdbogkndglbffaaGreat
