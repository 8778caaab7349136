/- The mixture of rows: the law's own function. -/
import Derived.Test.YtnlocpldghpfcaaHalfW
import Derived.Test.YtnlocpldghpfcaaVm10
namespace Go.Proofs.Ytnlocpldghpfcaa
open Go Go.RowKit Coup

theorem halves19F (c nn : Nat) (b : List UInt8) (p : Option Addr) (n cp : Nat) (w : World) (h : SlAt w p n 1 (bv b)) (hn : n ≤ 1000000) (hc : c < 18446744073709551616) (hnn : nn < 9223372036854775808) :
    Calls Try.prog 19 [.agg #[.int .u64 c, .int .i64 nn], .slice p n cp].toArray w
      (Ret fun v w' => ∃ vs g o cq, v = .slice (some ⟨g, o, none⟩) (manyN b.length) cq ∧ SlAt w' (some ⟨g, o, none⟩) (manyN b.length) 1 vs ∧ SlsAt w' w.heap.size (some g) vs (halvesL c nn b) ∧ w.heap.size ≤ g ∧ g < w'.heap.size ∧ manyN b.length ≤ cq ∧ Below w.heap.size w w') :=
  (halves19 c nn b p n cp w h hn hc hnn).to fun v w' ⟨vs, h1, h2, h3⟩ => by
    obtain ⟨g, o, cq, rfl, h4, h5, h6⟩ := h1.form' (manyN_pos _)
    exact ⟨vs, g, o, cq, rfl, h1.sl, h2, h4, h5, h6, h3⟩
theorem mostR_snoc (R : List RowD) (x : RowD) : mostR (R ++ [x]) = max (mostR R) (manyN x.2.2.length) := by simp [mostR, List.foldl_append]
theorem mostR_le : ∀ (R : List RowD) (m : Nat), (∀ x, x ∈ R → manyN x.2.2.length ≤ 63) → m ≤ 63 → R.foldl (fun m x => max m (manyN x.2.2.length)) m ≤ 63
  | [], m, _, hm => hm
  | x :: R, m, h, hm => mostR_le R _ (fun y hy => h y (by simp [hy])) (Nat.max_le.2 ⟨hm, h x (by simp)⟩)
theorem Good.most {R : List RowD} (h : Good R) : mostR R ≤ 63 := mostR_le R 0 (fun x hx => by have := (h.mem hx).2; unfold manyN; omega) (by omega)
/-- What a place has, where a pick names a row that has one there. -/
theorem mixAt_yes (R : List RowD) (picks : List Int) (i r : Nat) (x : RowD) (hp : picks[i]? = some ((r : Int) + 1)) (hx : R[r]? = some x) (hi : i < manyN x.2.2.length) : (halvesR x)[i]? = some (mixAt R picks i) := by
  have hr := (List.getElem?_eq_some_iff.1 hx).1
  have h1 := halvesR_get x i hi
  rw [h1]
  unfold mixAt
  rw [hp]
  simp only
  rw [if_pos (by omega), show ((r : Int) + 1).toNat - 1 = r by omega, hx]
  simp [h1]
theorem mixAt_no (R : List RowD) (picks : List Int) (i : Nat) (h : ∀ (r : Nat) (x : RowD), picks[i]? = some ((r : Int) + 1) → R[r]? = some x → manyN x.2.2.length ≤ i) : mixAt R picks i = zerosB 64 := by
  rcases mixAt_cases R picks i with h1 | ⟨r, x, h1, h2, h3, _⟩
  · exact h1
  · have := h r x h1 h2; omega
/-- What the place's test comes to. -/
def pickB (R : List RowD) (picks : List Int) (i : Nat) : Prop := ∃ (r : Nat) (x : RowD), picks[i]? = some ((r : Int) + 1) ∧ R[r]? = some x ∧ i < manyN x.2.2.length

theorem mix_take (R : List RowD) (picks : List Int) (i : Nat) (hi : i < mostR R) : (mixL R picks).take (i + 1) = (mixL R picks).take i ++ [mixAt R picks i] := by
  rw [List.take_add_one, mixL, List.getElem?_map, List.getElem?_range hi]; rfl

set_option maxHeartbeats 2000000 in
theorem mixedC (p : Option Addr) (n cp : Nat) (R : List RowD) (p2 : Option Addr) (n2 cp2 : Nat) (picks : List Int) (w : World) (h : RowsAt w p n R) (hG : Good R) (hp : SlAt w p2 n2 1 (iv picks)) (hok : okI picks) :
    Calls Try.prog 18 [.slice p n cp, .slice p2 n2 cp2].toArray w (Ret fun v w' => ownsAt w' w.heap.size 48 128 v ((mostR R + 1) / 2) (bv (secs (mixL R picks))) ∧ Below w.heap.size w w') := by
  have hB := Below.refl w.heap.size w
  have hRl := h.1
  have hfew := hG.few
  have hpl : picks.length = n2 := by simpa [iv_length] using hp.len
  have hpm := hp.max
  have hml : maxLen = 9223372036854775807 := by decide
  refine calls_W (fn := Try.f18) (rs := [.tmp 4]) (n := 93) Try.func18 rfl rfl Try.ntmps18 (by kernel_rfl) rfl ?_
  refine W_seq ?_
  refine W_region ?_
  refine WR_val rfl (rn_assign) ?_
  refine WR_nil ?_
  refine thenN ?_
  refine W_seq ?_
  refine W_region ?_
  refine WR_val rfl (rn_assign) ?_
  refine WR_nil ?_
  refine thenN ?_
  refine W_seq ?_
  refine W_region ?_
  refine WR_val rfl (rn_assign) ?_
  refine WR_nil ?_
  refine thenN ?_
  refine W_seq ?_
  refine W_seq ?_
  refine W_region ?_
  refine WR_val rfl (rn_assign) ?_
  refine WR_nil ?_
  refine thenN ?_
  refine W_block ?_
  refine W_loop (α := Nat × Value × List Value) (0, .slice none 0 0, []) (fun k => [(7, .int .i64 (k.1 : Nat)), (6, .int .i64 (mostR (R.take k.1) : Nat)), (5, k.2.1), (1, .slice p2 n2 cp2), (0, .slice p n cp)])
    (fun k w' => k.1 ≤ n ∧ ownsAt w' w.heap.size 44 1 k.2.1 k.1 k.2.2 ∧ AllAt w' k.2.1.ownBlock k.2.2 (R.take k.1) ∧ Below w.heap.size w w') (fun k => n - k.1)
    ⟨rfl, rfl, rfl, rfl, rfl, rfl⟩ ⟨Nat.zero_le _, ownsAt_nil _ _ _ _, AllAt.nil _ _, hB⟩ ?_
  rintro ⟨i, v5, vs⟩ f wr ⟨hi, hv5, hall, hB⟩
  simp only at hi hv5 hall
  dsimp only
  have hBi := Below.refl wr.heap.size wr
  have hszr := hB.size
  refine W_seq ?_
  refine W_seq ?_
  refine W_region ?_
  refine WR_val rfl (rn_move) ?_
  refine WR_val rfl (rn_move) ?_
  refine WR_val rfl (rn_lenSl (e := 40) (sz := 3) (by kernel_rfl) rfl rfl) ?_
  refine WR_val rfl (rn_lss rfl rfl) ?_
  refine WR_nil ?_
  refine thenN ?_
  refine W_ifp rfl (fun hlt => ?_) (fun hlt => ?_)
  ·
    refine W_skip ?_
    refine thenN ?_
    refine W_seq ?_
    refine W_block ?_
    refine W_seq ?_
    have hobt := h.get (i := i) (by omega)
    obtain ⟨c, k, l, hx⟩ := hobt
    have hobt := h.some (by omega)
    obtain ⟨g, o, rfl, hg⟩ := hobt
    have hobt := h.ldS hx
    obtain ⟨q, qc, hld, hq⟩ := hobt
    have hobt := hG.ok i _ hx
    obtain ⟨hm, hl3⟩ := hobt
    simp only at hm hl3
    have hmb := may_bounds hm
    have hobt : ∃ z : Nat, c = z := ⟨c.toNat, by omega⟩
    obtain ⟨c', rfl⟩ := hobt
    have hobt : ∃ z : Nat, k = z := ⟨k.toNat, by omega⟩
    obtain ⟨k', rfl⟩ := hobt
    have hlt5 := hv5.lt
    refine W_draw' [] (by kernel_rfl) ?_
    intro w901 hb901 hS901
    replace hB := hB.acc hb901
    replace hBi := hBi.acc hb901
    have hB_d901 := hB
    have hBi_d901 := hBi
    refine WA_take 0 (by kernel_rfl) rfl (fun _ _ => rn_move) ?_
    refine WA_take 1 (by kernel_rfl) rfl (fun _ _ => rn_move) ?_
    refine WA_take 2 (by kernel_rfl) rfl (fun _ _ => rn_indexSl (e := 40) (sz := 3) (by kernel_rfl) rfl rfl (i) (by omega) (by omega)) ?_
    refine WA_take 3 (by kernel_rfl) rfl (fun _ _ => rn_fieldAddr (off := 0) (by kernel_rfl) rfl) ?_
    refine WA_take 4 (by kernel_rfl) rfl (fun w' hS' => rn_load rfl ((h.below (hB_d901.kpd hS' (by first | (simp; done) | (simp; omega)))).ldT hx)) ?_
    refine WA_take 5 (by kernel_rfl) rfl (fun _ _ => rn_move) ?_
    refine WA_take 6 (by kernel_rfl) rfl (fun _ _ => rn_move) ?_
    refine WA_take 7 (by kernel_rfl) rfl (fun _ _ => rn_indexSl (e := 40) (sz := 3) (by kernel_rfl) rfl rfl (i) (by omega) (by omega)) ?_
    refine WA_take 8 (by kernel_rfl) rfl (fun _ _ => rn_fieldAddr (off := 2) (by kernel_rfl) rfl) ?_
    refine WA_take 9 (by kernel_rfl) rfl (fun w' hS' => rn_load rfl (hld _ (hB_d901.kpd hS' (by first | (simp; done) | (simp; omega))))) ?_
    refine WA_one 10 (by kernel_rfl) ?_
    have hszk := hBi.size
    refine WO_ent rfl rfl (rn_call (by kernel_rfl) rfl) (halves19F c' k' l q l.length qc w901 (hq.below hB (Nat.le_refl _)) (by omega) (by omega) (by omega)) ?_
    rintro _ w28 ⟨ws, gh, oh, ch, rfl, hsw, hslw, hgh, hghl, hch, hb28⟩
    have hS902 := hS901.add0 hb28
    refine ⟨hS902, ?_⟩
    replace hB := hB.acc hb28
    replace hBi := hBi.acc hb28
    refine WA_take 11 (by kernel_rfl) rfl (fun _ _ => rn_assign) ?_
    refine WA_done (by kernel_rfl) ?_
    refine thenN ?_
    refine W_seq ?_
    refine W_region ?_
    refine WR_val rfl (rn_move) ?_
    refine WR_val rfl (rn_move) ?_
    refine WR_mk rfl (mk_one (e := 44) (Value.slice (some ⟨gh, oh, none⟩) (manyN l.length) ch) ([Value.slice (some ⟨gh, oh, none⟩) (manyN l.length) ch]) ([Value.slice none 0 0]) 1 (by kernel_rfl) (by kernel_rfl) rfl rfl rfl ⟨by decide, by decide⟩ (fun g31 w31 hg31 hr31 hb31 => ?_))
    have ge_hB_g31 := Nat.le_trans hB.size hg31
    have ge_hBi_g31 := Nat.le_trans hBi.size hg31
    replace hB := hB.acc hb31
    replace hBi := hBi.acc hb31
    have hs31 := hr31.slA (m := 1) (sz := 1) rfl (by unfold maxLen; omega)
    have hsw := hsw.new hb31
    have hslw := hslw.new hb31
    have hv5 := hv5.new hBi
    have hall := hall.new hBi
    have hszi := hBi.size
    have hsz31 := hb31.size
    have sz_hB_32 := hB.size
    refine WR_mk rfl (mk_append (e := 44) (sz := 1) (bytes := 24) (z := Value.slice none 0 0) (by kernel_rfl) rfl (by kernel_rfl) rfl (by decide) rfl hv5 rfl hs31 (by simp [Value.oneCell']) (by unfold maxLen; omega) (by omega) (fun hm0 => by omega) (fun v32 w32 hv32 hgr32 hfr32 => ?_))
    replace hB := hB.own hv5 hgr32 (by omega)
    refine WR_val rfl (rn_assign) ?_
    refine WR_nil ?_
    refine thenN ?_
    refine W_region ?_
    refine WR_val rfl (rn_move) ?_
    refine WR_val rfl (rn_move) ?_
    refine WR_val rfl (rn_lenSl (e := 25) (sz := 1) (by kernel_rfl) rfl rfl) ?_
    refine WR_val rfl (rn_max2 rfl rfl) ?_
    refine WR_val rfl (rn_assign) ?_
    refine WR_nil ?_
    refine blockN ?_
    refine thenN ?_
    refine W_region ?_
    refine WR_val rfl (rn_move) ?_
    refine WR_val rfl (rn_add rfl rfl (Coup.w64 (by omega))) ?_
    refine WR_val rfl (rn_assign) ?_
    refine WR_nil ?_
    have htk : R.take (i + 1) = R.take i ++ [((c' : Int), (k' : Int), l)] := by rw [List.take_add_one, hx]; rfl
    have hne : some gh ≠ v5.ownBlock := fun e => by have := (hlt5 gh e.symm).2; omega
    have hsw2 := hsw.kpd (Kp.of_grown hgr32) (fun b' o' e hm => by
      cases e
      simp only [Option.mem_toList] at hm
      exact hne hm.symm)
    have hsl2 := ((SlsAt_apart hslw (o' := v5.ownBlock) (fun g' e => by have := (hlt5 g' e).2; omega)).mono (lo' := 0) (Nat.zero_le _)).grow hgr32 hfr32
    have hal2 := (hall.grow hgr32 hfr32).snoc (x := ((c' : Int), (k' : Int), l)) (cp := ch) hsw2 (by have := hgr32.size; omega) (fun e => (hfr32 gh e.symm).elim (fun e' => hne e'.symm) (fun e' => by omega)) hsl2
    have hmo : ((mostR (R.take (i + 1)) : Nat) : Int) = max (mostR (R.take i) : Int) (manyN l.length : Int) := by rw [htk, mostR_snoc]; simp only; omega
    refine loopN ⟨(i + 1, v32, vs ++ [.slice (some ⟨gh, oh, none⟩) (manyN l.length) ch]), by simp only; omega, ⟨rfl, (congrArg (Value.int .i64) hmo).symm, rfl, rfl, rfl, rfl⟩, by simp only; omega, hv32, ?_, hB⟩
    simp only
    rw [htk]
    exact hal2
  ·
    obtain rfl : i = n := by omega
    rw [List.take_of_length_le (by omega)] at *
    have hMost := hG.most
    have hlt5 := hv5.lt
    obtain ⟨q5, c5, rfl⟩ := hv5.form
    have hq5 : 0 < i → ∃ g o, q5 = some ⟨g, o, none⟩ := fun h0 => by
      obtain ⟨g, o, c, e, -⟩ := hv5.form' h0
      cases e
      exact ⟨_, _, rfl⟩
    refine W_exit ?_
    refine thenX ?_
    refine loopX ?_
    refine blockX ?_
    refine thenN ?_
    refine W_seq ?_
    refine W_region ?_
    refine WR_val rfl (rn_assign) ?_
    refine WR_nil ?_
    refine thenN ?_
    refine W_seq ?_
    refine W_seq ?_
    refine W_region ?_
    refine WR_val rfl (rn_assign) ?_
    refine WR_nil ?_
    refine thenN ?_
    refine W_block ?_
    refine W_loop (α := Nat × Value × List Value) (0, .slice none 0 0, []) (fun k => [(10, .int .i64 (k.1 : Nat)), (9, k.2.1), (6, .int .i64 (mostR R : Nat)), (5, .slice q5 i c5), (1, .slice p2 n2 cp2), (0, .slice p i cp)])
      (fun k w' => k.1 ≤ mostR R ∧ ownsAt w' wr.heap.size 25 1 k.2.1 k.1 k.2.2 ∧ SlsAt w' 0 k.2.1.ownBlock k.2.2 ((mixL R picks).take k.1) ∧ Below wr.heap.size wr w') (fun k => mostR R - k.1)
      ⟨rfl, rfl, rfl, rfl, rfl, rfl, rfl⟩ ⟨Nat.zero_le _, ownsAt_nil _ _ _ _, SlsAt.nil _ _ _, hBi⟩ ?_
    rintro ⟨j, v9, us⟩ f2 wz ⟨hj, hv9, hsl9, hBz⟩
    simp only at hj hv9 hsl9
    dsimp only
    have hBj := Below.refl wz.heap.size wz
    have hszz := hBz.size
    refine W_seq ?_
    refine W_seq ?_
    refine W_region ?_
    refine WR_val rfl (rn_move) ?_
    refine WR_val rfl (rn_move) ?_
    refine WR_val rfl (rn_lss rfl rfl) ?_
    refine WR_nil ?_
    refine thenN ?_
    refine W_ifp rfl (fun hlt2 => ?_) (fun hlt2 => ?_)
    ·
      refine W_skip ?_
      refine thenN ?_
      refine W_seq ?_
      refine W_block ?_
      refine W_seq ?_
      refine W_region ?_
      refine WR_mk rfl (mk_make (e := 5) 64 [byteV 0] 1 1 (byteV 0) (by kernel_rfl) (by kernel_rfl) ⟨_, rfl, rfl⟩ ⟨_, rfl, rfl⟩ (by simp) (by simp) (by omega) (by omega) (fun g42 w42 hg42 hr42 hb42 => ?_))
      have ge_hBz_g42 := Nat.le_trans hBz.size hg42
      have ge_hBj_g42 := Nat.le_trans hBj.size hg42
      replace hBz := hBz.acc hb42
      replace hBj := hBj.acc hb42
      have hr42 : row w42 g42 (bv (zerosB 64)) 5 := by rw [bv_zeros]; exact hr42
      refine WR_val rfl (rn_assign) ?_
      refine WR_nil ?_
      refine thenN ?_
      refine W_seq ?_
      refine W_cut (fun b : Bool => [(75, .bool b), (11, .slice (some ⟨g42, 0, none⟩) 64 64), (10, .int .i64 (j : Nat)), (9, v9), (6, .int .i64 (mostR R : Nat)), (5, .slice q5 i c5), (1, .slice p2 n2 cp2), (0, .slice p i cp)]) (fun b w' => w' = w42 ∧ (b = true → pickB R picks j) ∧ (b = false → ¬ pickB R picks j)) ?_ ?_
      ·
        refine W_region ?_
        refine WR_val rfl (rn_move) ?_
        refine WR_val rfl (rn_move) ?_
        refine WR_val rfl (rn_lenSl (e := 3) (sz := 1) (by kernel_rfl) rfl rfl) ?_
        refine WR_val rfl (rn_lss rfl rfl) ?_
        refine WR_val rfl (rn_move) ?_
        refine WR_part 47 rfl (fun hjl => ?_) (fun hjl => ?_)
        ·
          refine WR_yes rfl ?_
          refine WR_val rfl (rn_move) ?_
          refine WR_yes rfl ?_
          refine WR_val rfl (rn_move) ?_
          refine WR_yes rfl ?_
          have hobt := slAt_getI hp (i := j) (by omega)
          obtain ⟨x, hx⟩ := hobt
          have hobt := hp.some (by omega)
          obtain ⟨gp, op, rfl, hgp⟩ := hobt
          have hpz := (hp.below hB (Nat.le_refl _)).below hBz (Nat.le_refl _)
          have hxb := hok.at_ hx
          refine WR_val rfl (rn_indexSl1 (e := 3) (by kernel_rfl) rfl rfl (j) (by omega) (by omega)) ?_
          refine WR_yes rfl ?_
          refine WR_val rfl (rn_load rfl (Ld.sl1 hpz (by kernel_rfl) (iv_some hx))) ?_
          refine WR_yes rfl ?_
          refine WR_val rfl (rn_gtr rfl rfl) ?_
          refine WR_val rfl (rn_pick_t rfl) ?_
          refine WR_val rfl (rn_move) ?_
          refine WR_part 54 rfl (fun hx0 => ?_) (fun hx0 => ?_)
          ·
            refine WR_yes rfl ?_
            refine WR_val rfl (rn_move) ?_
            refine WR_yes rfl ?_
            refine WR_val rfl (rn_move) ?_
            refine WR_yes rfl ?_
            refine WR_val rfl (rn_indexSl1 (e := 3) (by kernel_rfl) rfl rfl (j) (by omega) (by omega)) ?_
            refine WR_yes rfl ?_
            refine WR_val rfl (rn_load rfl (Ld.sl1 hpz (by kernel_rfl) (iv_some hx))) ?_
            refine WR_yes rfl ?_
            refine WR_val rfl (rn_move) ?_
            refine WR_yes rfl ?_
            refine WR_val rfl (rn_lenSl (e := 44) (sz := 1) (by kernel_rfl) rfl rfl) ?_
            refine WR_yes rfl ?_
            refine WR_val rfl (rn_leq rfl rfl) ?_
            refine WR_val rfl (rn_pick_t rfl) ?_
            refine WR_val rfl (rn_move) ?_
            refine WR_part 63 rfl (fun hxn => ?_) (fun hxn => ?_)
            ·
              refine WR_yes rfl ?_
              refine WR_val rfl (rn_move) ?_
              refine WR_yes rfl ?_
              refine WR_val rfl (rn_move) ?_
              refine WR_yes rfl ?_
              refine WR_val rfl (rn_move) ?_
              refine WR_yes rfl ?_
              refine WR_val rfl (rn_move) ?_
              refine WR_yes rfl ?_
              have hobt : ∃ r : Nat, x = (r : Int) + 1 := ⟨x.toNat - 1, by omega⟩
              obtain ⟨r, rfl⟩ := hobt
              have hobt : ∃ y, R[r]? = some y := ⟨_, List.getElem?_eq_getElem (by omega)⟩
              obtain ⟨y, hy⟩ := hobt
              have hobt := hq5 (by omega)
              obtain ⟨g5, o5, rfl⟩ := hobt
              have hobt := hall.at_ r y hy
              obtain ⟨bh, oh, ch, ws, hvr, hws, hbh, -, hsw⟩ := hobt
              have hsv := hv5.sl
              refine WR_val rfl (rn_indexSl1 (e := 3) (by kernel_rfl) rfl rfl (j) (by omega) (by omega)) ?_
              refine WR_yes rfl ?_
              refine WR_val rfl (rn_load rfl (Ld.sl1 hpz (by kernel_rfl) (iv_some hx))) ?_
              refine WR_yes rfl ?_
              refine WR_val rfl (rn_sub rfl rfl (Coup.w64 (by omega))) ?_
              refine WR_yes rfl ?_
              refine WR_val rfl (rn_indexSl1 (e := 44) (by kernel_rfl) rfl rfl (r) (by omega) (by omega)) ?_
              refine WR_yes rfl ?_
              refine WR_val rfl (rn_load rfl (Ld.sl1 (hsv.below hBz (Nat.le_refl _)) (by kernel_rfl) hvr)) ?_
              refine WR_yes rfl ?_
              refine WR_val rfl (rn_lenSl (e := 25) (sz := 1) (by kernel_rfl) rfl rfl) ?_
              refine WR_yes rfl ?_
              refine WR_val rfl (rn_lss rfl rfl) ?_
              refine WR_val rfl (rn_pick_t rfl) ?_
              refine WR_nil ?_
              refine loopN ⟨decide ((j : Int) < (manyN y.2.2.length : Nat)), ⟨rfl, rfl, rfl, rfl, rfl, rfl, rfl, rfl, rfl⟩, rfl, fun q => ⟨r, y, hx, hy, by have := of_decide_eq_true q; omega⟩, fun q => ?_⟩
              rintro ⟨r', y', h1, h2, h3⟩
              rw [hx] at h1
              have h4 := Option.some.inj h1
              obtain rfl : r' = r := by omega
              rw [hy] at h2; cases h2
              have := of_decide_eq_false q
              omega
            ·
              refine WR_no rfl rfl ?_
              refine WR_no rfl rfl ?_
              refine WR_no rfl rfl ?_
              refine WR_no rfl rfl ?_
              refine WR_no rfl rfl ?_
              refine WR_no rfl rfl ?_
              refine WR_no rfl rfl ?_
              refine WR_no rfl rfl ?_
              refine WR_no rfl rfl ?_
              refine WR_no rfl rfl ?_
              refine WR_no rfl rfl ?_
              refine WR_val rfl (rn_pick_f rfl) ?_
              refine WR_nil ?_
              refine loopN ⟨_, ⟨rfl, rfl, rfl, rfl, rfl, rfl, rfl, rfl, rfl⟩, rfl, ?_, ?_⟩
              · intro q; cases q
              · rintro - ⟨r, y, h1, h2, -⟩
                rw [hx] at h1; cases h1
                have := (List.getElem?_eq_some_iff.1 h2).1
                omega
          ·
            refine WR_no rfl rfl ?_
            refine WR_no rfl rfl ?_
            refine WR_no rfl rfl ?_
            refine WR_no rfl rfl ?_
            refine WR_no rfl rfl ?_
            refine WR_no rfl rfl ?_
            refine WR_no rfl rfl ?_
            refine WR_val rfl (rn_pick_f rfl) ?_
            refine WR_val rfl (rn_move) ?_
            refine WR_no rfl rfl ?_
            refine WR_no rfl rfl ?_
            refine WR_no rfl rfl ?_
            refine WR_no rfl rfl ?_
            refine WR_no rfl rfl ?_
            refine WR_no rfl rfl ?_
            refine WR_no rfl rfl ?_
            refine WR_no rfl rfl ?_
            refine WR_no rfl rfl ?_
            refine WR_no rfl rfl ?_
            refine WR_no rfl rfl ?_
            refine WR_val rfl (rn_pick_f rfl) ?_
            refine WR_nil ?_
            refine loopN ⟨_, ⟨rfl, rfl, rfl, rfl, rfl, rfl, rfl, rfl, rfl⟩, rfl, ?_, ?_⟩
            · intro q; cases q
            · rintro - ⟨r, y, h1, -, -⟩
              rw [hx] at h1; cases h1
              omega
        ·
          refine WR_no rfl rfl ?_
          refine WR_no rfl rfl ?_
          refine WR_no rfl rfl ?_
          refine WR_no rfl rfl ?_
          refine WR_no rfl rfl ?_
          refine WR_val rfl (rn_pick_f rfl) ?_
          refine WR_val rfl (rn_move) ?_
          refine WR_no rfl rfl ?_
          refine WR_no rfl rfl ?_
          refine WR_no rfl rfl ?_
          refine WR_no rfl rfl ?_
          refine WR_no rfl rfl ?_
          refine WR_no rfl rfl ?_
          refine WR_no rfl rfl ?_
          refine WR_val rfl (rn_pick_f rfl) ?_
          refine WR_val rfl (rn_move) ?_
          refine WR_no rfl rfl ?_
          refine WR_no rfl rfl ?_
          refine WR_no rfl rfl ?_
          refine WR_no rfl rfl ?_
          refine WR_no rfl rfl ?_
          refine WR_no rfl rfl ?_
          refine WR_no rfl rfl ?_
          refine WR_no rfl rfl ?_
          refine WR_no rfl rfl ?_
          refine WR_no rfl rfl ?_
          refine WR_no rfl rfl ?_
          refine WR_val rfl (rn_pick_f rfl) ?_
          refine WR_nil ?_
          refine loopN ⟨_, ⟨rfl, rfl, rfl, rfl, rfl, rfl, rfl, rfl, rfl⟩, rfl, ?_, ?_⟩
          · intro q; cases q
          · rintro - ⟨r, y, h1, -, -⟩
            have := (List.getElem?_eq_some_iff.1 h1).1
            omega
      ·
        rintro b f3 _ ⟨rfl, hyes, hno⟩
        refine W_if rfl (fun hb => ?_) (fun hb => ?_)
        ·
          have hobt := hyes hb
          obtain ⟨r, y, hx, hy, hjy⟩ := hobt
          have hrl := (List.getElem?_eq_some_iff.1 hy).1
          have hjl := (List.getElem?_eq_some_iff.1 hx).1
          have hobt := hp.some (by omega)
          obtain ⟨gp, op, rfl, hgp⟩ := hobt
          have hpz := (hp.below hB (Nat.le_refl _)).below hBz (Nat.le_refl _)
          have hobt := hall.at_ r y hy
          obtain ⟨bh, oh, ch, ws, hvr, hws, hbh, -, hsw⟩ := hobt
          have hobt := hq5 (by omega)
          obtain ⟨g5, o5, rfl⟩ := hobt
          have hsv := hv5.sl
          have hmix := mixAt_yes R picks j r y hx hy hjy
          have hm64 := mixAt_len R picks j
          have hobt := hsw.at_ j _ hmix
          obtain ⟨bm, om, cm, hwm, hsm, hbm, -, hcm, -⟩ := hobt
          rw [hm64] at hwm hsm hcm
          refine W_region ?_
          refine WR_val rfl (rn_move) ?_
          refine WR_val rfl (rn_move) ?_
          refine WR_val rfl (rn_move) ?_
          refine WR_val rfl (rn_indexSl1 (e := 3) (by kernel_rfl) rfl rfl (j) (by omega) (by omega)) ?_
          refine WR_val rfl (rn_load rfl (Ld.sl1 hpz (by kernel_rfl) (iv_some hx))) ?_
          refine WR_val rfl (rn_sub rfl rfl (Coup.w64 (by omega))) ?_
          refine WR_val rfl (rn_indexSl1 (e := 44) (by kernel_rfl) rfl rfl (r) (by omega) (by omega)) ?_
          refine WR_val rfl (rn_load rfl (Ld.sl1 (hsv.below hBz (Nat.le_refl _)) (by kernel_rfl) hvr)) ?_
          refine WR_val rfl (rn_move) ?_
          refine WR_val rfl (rn_indexSl1 (e := 25) (by kernel_rfl) rfl rfl (j) (by omega) (by omega)) ?_
          refine WR_val rfl (rn_load rfl (Ld.sl1 (hws.below hBz (Nat.le_refl _)) (by kernel_rfl) hwm)) ?_
          refine WR_val rfl (rn_assign) ?_
          refine WR_nil ?_
          refine thenN ?_
          refine W_region ?_
          refine WR_val rfl (rn_move) ?_
          refine WR_val rfl (rn_move) ?_
          refine WR_mk rfl (mk_one (e := 25) (Value.slice (some ⟨bm, om, none⟩) 64 cm) ([Value.slice (some ⟨bm, om, none⟩) 64 cm]) ([Value.slice none 0 0]) 1 (by kernel_rfl) (by kernel_rfl) rfl rfl rfl ⟨by decide, by decide⟩ (fun g89 w89 hg89 hr89 hb89 => ?_))
          have ge_hBz_g89 := Nat.le_trans hBz.size hg89
          have ge_hBj_g89 := Nat.le_trans hBj.size hg89
          have lt_g42_g89 : g42 < g89 := Nat.lt_of_lt_of_le hr42.lt hg89
          replace hr42 := hr42.new hb89
          replace hBz := hBz.acc hb89
          replace hBj := hBj.acc hb89
          have hs89 := hr89.slA (m := 1) (sz := 1) rfl (by unfold maxLen; omega)
          have hlt9 := hv9.lt
          have hv9 := hv9.new hBj
          have hsl9 := hsl9.new hBj
          have hszj := hBj.size
          have sz_hBz_90 := hBz.size
          refine WR_mk rfl (mk_append (e := 25) (sz := 1) (bytes := 24) (z := Value.slice none 0 0) (by kernel_rfl) rfl (by kernel_rfl) rfl (by decide) rfl hv9 rfl hs89 (by simp [Value.oneCell']) (by unfold maxLen; omega) (by omega) (fun hm0 => by omega) (fun v90 w90 hv90 hgr90 hfr90 => ?_))
          replace hBz := hBz.own hv9 hgr90 (by omega)
          refine WR_val rfl (rn_assign) ?_
          refine WR_nil ?_
          refine blockN ?_
          refine thenN ?_
          refine W_region ?_
          refine WR_val rfl (rn_move) ?_
          refine WR_val rfl (rn_add rfl rfl (Coup.w64 (by omega))) ?_
          refine WR_val rfl (rn_assign) ?_
          refine WR_nil ?_
          have hsm2 := hsm.below hBz (Nat.le_refl _)
          have hsl2 := (hsl9.grow hgr90 hfr90).snoc (c := cm) (l := mixAt R picks j) (by rw [hm64]; exact hsm2) (by have := hgr90.size; omega) (fun e => (hfr90 _ e.symm).elim (fun e' => by have := (hlt9 _ e').1; omega) (fun e' => by omega)) (by omega) (Nat.zero_le _)
          refine loopN ⟨(j + 1, v90, us ++ [.slice (some ⟨bm, om, none⟩) 64 cm]), by simp only; omega, ⟨rfl, rfl, rfl, rfl, rfl, rfl, rfl⟩, by simp only; omega, hv90, ?_, hBz⟩
          simp only
          rw [mix_take R picks j (by omega)]
          rw [hm64] at hsl2
          exact hsl2
        ·
          have hmz := mixAt_no R picks j fun r x h1 h2 => Nat.not_lt.1 fun h3 => hno hb ⟨r, x, h1, h2, h3⟩
          refine W_skip ?_
          refine thenN ?_
          refine W_region ?_
          refine WR_val rfl (rn_move) ?_
          refine WR_val rfl (rn_move) ?_
          refine WR_mk rfl (mk_one (e := 25) (Value.slice (some ⟨g42, 0, none⟩) 64 64) ([Value.slice (some ⟨g42, 0, none⟩) 64 64]) ([Value.slice none 0 0]) 1 (by kernel_rfl) (by kernel_rfl) rfl rfl rfl ⟨by decide, by decide⟩ (fun g89 w89 hg89 hr89 hb89 => ?_))
          have ge_hBz_g89 := Nat.le_trans hBz.size hg89
          have ge_hBj_g89 := Nat.le_trans hBj.size hg89
          have lt_g42_g89 : g42 < g89 := Nat.lt_of_lt_of_le hr42.lt hg89
          replace hr42 := hr42.new hb89
          replace hBz := hBz.acc hb89
          replace hBj := hBj.acc hb89
          have hs89 := hr89.slA (m := 1) (sz := 1) rfl (by unfold maxLen; omega)
          have hlt9 := hv9.lt
          have hv9 := hv9.new hBj
          have hsl9 := hsl9.new hBj
          have hszj := hBj.size
          have sz_hBz_90 := hBz.size
          refine WR_mk rfl (mk_append (e := 25) (sz := 1) (bytes := 24) (z := Value.slice none 0 0) (by kernel_rfl) rfl (by kernel_rfl) rfl (by decide) rfl hv9 rfl hs89 (by simp [Value.oneCell']) (by unfold maxLen; omega) (by omega) (fun hm0 => by omega) (fun v90 w90 hv90 hgr90 hfr90 => ?_))
          replace hBz := hBz.own hv9 hgr90 (by omega)
          refine WR_val rfl (rn_assign) ?_
          refine WR_nil ?_
          refine blockN ?_
          refine thenN ?_
          refine W_region ?_
          refine WR_val rfl (rn_move) ?_
          refine WR_val rfl (rn_add rfl rfl (Coup.w64 (by omega))) ?_
          refine WR_val rfl (rn_assign) ?_
          refine WR_nil ?_
          have hs42 := ((hr42.slA (m := 64) (sz := 1) (by simp [bv_length, zerosB]) (by unfold maxLen; omega))).kpd (Kp.of_grown hgr90) (fun b' o' e hm => by
            cases e
            simp only [Option.mem_toList] at hm
            have := (hlt9 _ hm).2
            omega)
          have hl42 : (zerosB 64).length = 64 := by simp [zerosB]
          have hsl2 := (hsl9.grow hgr90 hfr90).snoc (c := 64) (l := zerosB 64) (by rw [hl42]; exact hs42) (by have := hgr90.size; have := hr42.lt; omega) (fun e => (hfr90 _ e.symm).elim (fun e' => by have := (hlt9 _ e').2; omega) (fun e' => by have := hr42.lt; omega)) (by omega) (Nat.zero_le _)
          refine loopN ⟨(j + 1, v90, us ++ [.slice (some ⟨g42, 0, none⟩) 64 64]), by simp only; omega, ⟨rfl, rfl, rfl, rfl, rfl, rfl, rfl⟩, by simp only; omega, hv90, ?_, hBz⟩
          simp only
          rw [mix_take R picks j (by omega)]
          rw [hl42] at hsl2
          rw [hmz]
          exact hsl2
    ·
      obtain ⟨q9, c9, rfl⟩ := hv9.form
      have hs9 := hv9.sl
      obtain rfl : j = mostR R := by omega
      rw [List.take_of_length_le (by rw [mixL_len]; omega)] at hsl9
      refine W_exit ?_
      refine thenX ?_
      refine loopX ?_
      refine blockX ?_
      refine thenN ?_
      refine W_seq ?_
      refine W_region ?_
      refine WR_val rfl (rn_move) ?_
      refine WR_ent rfl (rn_call (by kernel_rfl) rfl) ((sectors29 (mixL R picks) (mixL_64 R picks) _ us q9 (mostR R) c9 wz hs9 hsl9 (mixL_len R picks) (by omega))) ?_
      rintro _ w92 ⟨hv, hb92⟩
      replace hBz := hBz.acc hb92
      replace hBj := hBj.acc hb92
      refine WR_val rfl (rn_assign) ?_
      refine WR_nil ?_
      refine thenN ?_
      refine W_ret ?_
      refine ret_ret [_] ⟨rfl, trivial⟩ ?_
      exact ⟨hv.mono (by omega), hB.acc hBz⟩
end Go.Proofs.Ytnlocpldghpfcaa
