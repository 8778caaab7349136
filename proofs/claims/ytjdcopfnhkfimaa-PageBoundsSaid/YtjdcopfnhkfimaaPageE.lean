/- A view's page. -/
import Derived.Test.YtjdcopfnhkfimaaPageD
namespace Go.Proofs.Ytjdcopfnhkfimaa
open Go Go.RowKit Coup

theorem u8_wrap (n : Nat) : IntKind.u8.wrap (n : Int) = ((u8 n).toNat : Int) := by
  rw [IntKind.wrap_u8, u8, UInt8.toNat_ofNat']; omega
theorem shrI (n : Nat) {b : Int} (s : Nat) (hb : b = (s : Int)) (hs : s ≤ 64) : (n : Int).fdiv (2 ^ (min b.toNat IntKind.i64.bits)) = ((n / 2 ^ s : Nat) : Int) := by
  have := shrN (a := (n : Int)) s hb hs
  rw [Int.natCast_ediv, Int.natCast_pow]
  exact this
theorem u8_mod (n : Nat) : u8 (n % 256) = u8 n := by
  refine UInt8.toNat_inj.1 ?_
  unfold u8
  rw [UInt8.toNat_ofNat', UInt8.toNat_ofNat']; omega
theorem shrJ {a b : Int} (n s : Nat) (ha : a = (n : Int)) (hb : b = (s : Int)) (hs : s ≤ 64) : a.fdiv (2 ^ (min b.toNat IntKind.i64.bits)) = ((n / 2 ^ s : Nat) : Int) := by
  subst ha; exact shrI n s hb hs
theorem u8_wrapJ {a : Int} (n : Nat) (ha : a = (n : Int)) : IntKind.u8.wrap a = ((u8 n).toNat : Int) := by
  subst ha; exact u8_wrap n
theorem row_z {w : World} {g k : Nat} {l : List Value} {v : Value} {t : TypeId} (h : row w g (l.set (0 + k) v) t) : row w g (l.set k v) t := by rw [Nat.zero_add] at h; exact h
theorem splice_or (L r : List UInt8) (j k : Nat) (h : r.length = 0 ∨ j = k) : splice (bv L) j (bv r) = splice (bv L) k (bv r) := by
  rcases h with h | rfl
  · have : r = [] := List.eq_nil_of_length_eq_zero h
    subst this
    simp [splice, bv]
  · rfl
/-- The next one's four bytes, laid one by one. -/
def setN (L : List UInt8) (n : Nat) : Nat → List UInt8
  | 0 => L
  | k + 1 => (setN L n k).set (8 + k) (u8 (n / 2 ^ (24 - 8 * k)))
theorem setN_len (L : List UInt8) (n : Nat) : ∀ k, (setN L n k).length = L.length
  | 0 => rfl
  | k + 1 => by rw [setN, List.length_set, setN_len L n k]
def zeroP : List UInt8 := List.replicate 512 0
theorem bv_splice1 {l : List UInt8} {i : Nat} {b : UInt8} (h : i < l.length) : (bv l).set i (.int .u8 (b.toNat : Int)) = bv (l.set i b) := by
  simp only [bv, List.map_set]; rfl
theorem bv_zeroP : List.replicate 512 (Value.int .u8 0) = bv zeroP := by
  rw [zeroP, bv, List.map_replicate]; rfl
theorem front_made (V : View) : setN (((zeroP.set 0 (u8 V.kind)).set 2 (u8 (V.slots.length / 2 ^ 8))).set 3 (u8 V.slots.length)) V.next 4 = partB V [0, 0] [] := by
  have e : zeroP = [0, 0, 0, 0, 0, 0, 0, 0, 0, 0, 0, 0] ++ List.replicate 500 0 := by
    rw [zeroP, show (512 : Nat) = 12 + 500 from rfl, ← List.replicate_append_replicate]; rfl
  have e2 : partB V [0, 0] [] = frontB V [0, 0] ++ List.replicate 500 0 := by
    simp only [partB, dirB, tailB, lenS, List.append_nil, List.length_nil, Nat.mul_zero, Nat.sub_zero]
  rw [e, e2]
  generalize List.replicate 500 (0 : UInt8) = T
  have m : ∀ n : Nat, u8 (n % 256) = u8 n := fun n => by
    refine UInt8.toNat_inj.1 ?_
    unfold u8
    rw [UInt8.toNat_ofNat', UInt8.toNat_ofNat']; omega
  have h1 : V.next / 2 ^ (24 - 8 * 0) = V.next / 16777216 := rfl
  have h2 : V.next / 2 ^ (24 - 8 * 1) = V.next / 65536 := rfl
  have h3 : V.next / 2 ^ (24 - 8 * 2) = V.next / 256 := rfl
  have h4 : V.next / 2 ^ (24 - 8 * 3) = V.next := by rw [show 24 - 8 * 3 = 0 from rfl, Nat.pow_zero, Nat.div_one]
  simp only [setN, h1, h2, h3, h4, frontB, be2, be4, m]
  rfl
set_option maxHeartbeats 2000000 in
theorem page21 (V : View) (p : Option Addr) (c : Nat) (vs : List Value) (w : World) (lo : Nat) (o : List Nat) (h : SlAt w p V.slots.length 1 vs) (hs : SltsAt w lo o vs V.slots) (hk : V.kind < 256) (hn : V.next < 2147483648) (hz : sizeV V ≤ 512) :
    Calls Try.prog 21 [.agg #[.int .i64 (V.kind : Int), .int .i64 (V.next : Int), .slice p V.slots.length c]].toArray w (Ret fun v w' => v = .agg (bv (bytesV V)).toArray ∧ Below w.heap.size w w') := by
  have hB := Below.refl w.heap.size w
  have hml : maxLen = 9223372036854775807 := by decide
  obtain ⟨Z, hZ⟩ : ∃ Z, zeroP = Z := ⟨_, rfl⟩
  have hZl : Z.length = 512 := by rw [← hZ, zeroP, List.length_replicate]
  refine calls_W (fn := Try.f21) (rs := [.cell 2 23]) (n := 90) Try.func21 rfl rfl Try.ntmps21 (by kernel_rfl) rfl ?_
  refine W_seq ?_
  refine W_region ?_
  refine WR_mk rfl (mk_box ([_, _, _]) rfl (fun g1 w1 hg1 hr1 hb1 => ?_))
  have ge_hB_g1 := Nat.le_trans hB.size hg1
  replace hB := hB.acc hb1
  refine WR_mk rfl (mk_alloc (List.replicate 512 (Value.int .u8 0)) (by kernel_rfl) (fun g2 w2 hg2 hr2 hb2 => ?_))
  have ge_hB_g2 := Nat.le_trans hB.size hg2
  have lt_g1_g2 : g1 < g2 := Nat.lt_of_lt_of_le hr1.lt hg2
  replace hr1 := hr1.new hb2
  replace hB := hB.acc hb2
  rw [bv_zeroP, hZ] at hr2
  refine WR_nil ?_
  refine thenN ?_
  refine W_seq ?_
  refine W_region ?_
  refine WR_val rfl (rn_fieldAddr (off := 0) (by kernel_rfl) rfl) ?_
  refine WR_val rfl (rn_load rfl (Ld.row1 hr1 (by kernel_rfl) rfl)) ?_
  refine WR_val rfl (rn_conv (k := .u8) (by kernel_rfl) (by kernel_rfl) rfl (u8_wrap V.kind)) ?_
  refine WR_val rfl (rn_indexAr1 (e := 5) (m := 512) (by kernel_rfl) rfl rfl (0) rfl (by omega)) ?_
  refine WR_sk rfl (sk_store1 rfl rfl rfl rfl hr2 (by kernel_rfl) (by first | (simp only [List.length_replicate]; omega) | (simp only [iv_length]; omega) | (simp only [bv_length, List.length_set]; omega) | simp) (fun w901 hr2 ho901 => ?_))
  replace hr1 := hr1.only ho901 (Nat.ne_of_lt lt_g1_g2)
  replace hB := ho901.below hB ge_hB_g2
  replace hr2 : row w901 g2 ((bv Z).set 0 (.int .u8 ((u8 V.kind).toNat : Int))) 23 := hr2
  rw [bv_splice1 (by omega)] at hr2
  refine WR_nil ?_
  refine thenN ?_
  refine W_seq ?_
  refine W_draw' [g2] (by kernel_rfl) ?_
  intro w902 hb902 hS902
  replace hr1 := hr1.new hb902
  replace hr2 := hr2.new hb902
  replace hB := hB.acc hb902
  have hr1_d902 := hr1
  have hr2_d902 := hr2
  have hB_d902 := hB
  refine WA_take 0 (by kernel_rfl) rfl (fun _ _ => rn_fieldAddr (off := 2) (by kernel_rfl) rfl) ?_
  refine WA_take 1 (by kernel_rfl) rfl (fun w' hS' => rn_load rfl (Ld.row1 (hr1_d902.kpd hS' (by first | (simp; done) | (simp; omega) | (simp [*]; done))) (by kernel_rfl) rfl)) ?_
  refine WA_take 2 (by kernel_rfl) rfl (fun _ _ => rn_lenSl (e := 29) (sz := 1) (by kernel_rfl) rfl rfl) ?_
  refine WA_take 3 (by kernel_rfl) rfl (fun _ _ => rn_shr rfl rfl (by omega) (shrI V.slots.length 8 rfl (by omega))) ?_
  refine WA_take 4 (by kernel_rfl) rfl (fun _ _ => rn_conv (k := .u8) (by kernel_rfl) (by kernel_rfl) rfl (u8_wrap (V.slots.length / 2 ^ 8))) ?_
  refine WA_take 5 (by kernel_rfl) rfl (fun _ _ => rn_fieldAddr (off := 2) (by kernel_rfl) rfl) ?_
  refine WA_take 6 (by kernel_rfl) rfl (fun w' hS' => rn_load rfl (Ld.row1 (hr1_d902.kpd hS' (by first | (simp; done) | (simp; omega) | (simp [*]; done))) (by kernel_rfl) rfl)) ?_
  refine WA_take 7 (by kernel_rfl) rfl (fun _ _ => rn_lenSl (e := 29) (sz := 1) (by kernel_rfl) rfl rfl) ?_
  refine WA_take 8 (by kernel_rfl) rfl (fun _ _ => rn_conv (k := .u8) (by kernel_rfl) (by kernel_rfl) rfl (u8_wrap V.slots.length)) ?_
  refine WA_take 9 (by kernel_rfl) rfl (fun _ _ => rn_indexAr1 (e := 5) (m := 512) (by kernel_rfl) rfl rfl (2) rfl (by omega)) ?_
  refine WA_one 10 (by kernel_rfl) ?_
  refine WO_sk rfl rfl (sk_store1 rfl rfl rfl rfl hr2 (by kernel_rfl) (by first | (simp only [List.length_replicate]; omega) | (simp only [iv_length]; omega) | (simp only [bv_length, List.length_set]; omega) | simp) (fun w904 hr2 ho904 => ?_))
  have hS903 := hS902.add1 ho904 (by first | (left; omega) | (right; simp; done) | (right; simp; omega))
  refine ⟨hS903, ?_⟩
  replace hr1 := hr1.only ho904 (Nat.ne_of_lt lt_g1_g2)
  replace hB := ho904.below hB ge_hB_g2
  replace hr2 : row w904 g2 ((bv (Z.set 0 (u8 V.kind))).set 2 (.int .u8 ((u8 (V.slots.length / 2 ^ 8)).toNat : Int))) 23 := hr2
  rw [bv_splice1 (by rw [List.length_set]; omega)] at hr2
  refine WA_take 11 (by kernel_rfl) rfl (fun _ _ => rn_indexAr1 (e := 5) (m := 512) (by kernel_rfl) rfl rfl (3) rfl (by omega)) ?_
  refine WA_one 12 (by kernel_rfl) ?_
  refine WO_sk rfl rfl (sk_store1 rfl rfl rfl rfl hr2 (by kernel_rfl) (by first | (simp only [List.length_replicate]; omega) | (simp only [iv_length]; omega) | (simp only [bv_length, List.length_set]; omega) | simp) (fun w906 hr2 ho906 => ?_))
  have hS905 := hS903.add1 ho906 (by first | (left; omega) | (right; simp; done) | (right; simp; omega))
  refine ⟨hS905, ?_⟩
  replace hr1 := hr1.only ho906 (Nat.ne_of_lt lt_g1_g2)
  replace hB := ho906.below hB ge_hB_g2
  replace hr2 : row w906 g2 ((bv ((Z.set 0 (u8 V.kind)).set 2 (u8 (V.slots.length / 2 ^ 8)))).set 3 (.int .u8 ((u8 V.slots.length).toNat : Int))) 23 := hr2
  rw [bv_splice1 (by rw [List.length_set, List.length_set]; omega)] at hr2
  refine WA_done (by kernel_rfl) ?_
  refine thenN ?_
  refine W_seq ?_
  refine W_seq ?_
  refine W_region ?_
  refine WR_val rfl (rn_move) ?_
  refine WR_nil ?_
  refine thenN ?_
  refine W_block ?_
  obtain ⟨L1, hL1⟩ : ∃ L, ((Z.set 0 (u8 V.kind)).set 2 (u8 (V.slots.length / 2 ^ 8))).set 3 (u8 V.slots.length) = L := ⟨_, rfl⟩
  have hL1l : L1.length = 512 := by rw [← hL1, List.length_set, List.length_set, List.length_set]; exact hZl
  rw [hL1] at hr2
  refine W_loop (α := Nat) 0 (fun k => [(23, .int .i64 (k : Nat)), (1, .pointer (some ⟨g1, 0, none⟩)), (2, .pointer (some ⟨g2, 0, none⟩))])
    (fun k w' => k ≤ 4 ∧ row w' g1 [.int .i64 (V.kind : Int), .int .i64 (V.next : Int), .slice p V.slots.length c] 48 ∧ row w' g2 (bv (setN L1 V.next k)) 23 ∧ Below w.heap.size w w') (fun k => 4 - k)
    ⟨rfl, rfl, rfl, rfl⟩ ⟨Nat.zero_le _, hr1, hr2, hB⟩ ?_
  clear hr1 hr2 hB
  have hw1 : w.heap.size ≤ g1 := by omega
  have hw2 : w.heap.size ≤ g2 := by omega
  rintro i f wr ⟨hi, hr1, hr2, hB⟩
  have hNl := setN_len L1 V.next i
  refine W_seq ?_
  refine W_region ?_
  refine WR_val rfl (rn_lss rfl rfl) ?_
  refine WR_nil ?_
  refine thenN ?_
  refine W_seq ?_
  refine W_ifp rfl (fun hlt => ?_) (fun hlt => ?_)
  ·
    refine W_skip ?_
    refine thenN ?_
    refine W_seq ?_
    refine W_block ?_
    refine W_seq ?_
    refine W_region ?_
    refine WR_val rfl (rn_move) ?_
    refine WR_val rfl (rn_assign) ?_
    refine WR_nil ?_
    refine thenN ?_
    refine W_region ?_
    refine WR_val rfl (rn_move) ?_
    refine WR_val rfl (rn_add rfl rfl (Coup.w64 (by omega))) ?_
    refine WR_val rfl (rn_fieldAddr (off := 1) (by kernel_rfl) rfl) ?_
    refine WR_val rfl (rn_load rfl (Ld.row1 hr1 (by kernel_rfl) rfl)) ?_
    refine WR_val rfl (rn_move) ?_
    refine WR_val rfl (rn_mul rfl rfl (Coup.w64 (by omega))) ?_
    refine WR_val rfl (rn_sub rfl rfl (Coup.w64 (by omega))) ?_
    refine WR_val rfl (rn_shr rfl rfl (by omega) (shrI V.next (24 - 8 * i) (by omega) (by omega))) ?_
    refine WR_val rfl (rn_conv (k := .u8) (by kernel_rfl) (by kernel_rfl) rfl (u8_wrap (V.next / 2 ^ (24 - 8 * i)))) ?_
    refine WR_val rfl (rn_indexAr1 (e := 5) (m := 512) (by kernel_rfl) rfl rfl (8 + i) (by omega) (by omega)) ?_
    refine WR_sk rfl (sk_store1 rfl rfl rfl rfl hr2 (by kernel_rfl) (by first | (simp only [List.length_replicate]; omega) | (simp only [iv_length]; omega) | (simp only [bv_length, List.length_set]; omega) | simp) (fun w907 hr2 ho907 => ?_))
    replace hr1 := hr1.only ho907 (Nat.ne_of_lt lt_g1_g2)
    replace hB := ho907.below hB ge_hB_g2
    replace hr2 : row w907 g2 ((bv (setN L1 V.next i)).set (8 + i) (.int .u8 ((u8 (V.next / 2 ^ (24 - 8 * i))).toNat : Int))) 23 := row_z hr2
    rw [bv_splice1 (by omega)] at hr2
    refine WR_nil ?_
    refine blockN ?_
    refine thenN ?_
    refine W_region ?_
    refine WR_val rfl (rn_add rfl rfl (Coup.w64 (by omega))) ?_
    refine WR_val rfl (rn_move) ?_
    refine WR_nil ?_
    refine loopN ⟨i + 1, by omega, ⟨rfl, rfl, rfl, rfl⟩, by omega, hr1, ?_, hB⟩
    exact hr2
  ·
    obtain rfl : i = 4 := by omega
    have hF : setN L1 V.next 4 = partB V [0, 0] [] := by
      rw [← hL1, ← hZ]
      exact front_made V
    rw [hF] at hr2
    refine W_exit ?_
    refine thenX ?_
    refine loopX ?_
    refine blockX ?_
    refine thenN ?_
    refine W_seq ?_
    refine W_region ?_
    refine WR_val rfl (rn_assign) ?_
    refine WR_nil ?_
    refine thenN ?_
    refine W_seq ?_
    refine W_seq ?_
    refine W_region ?_
    refine WR_val rfl (rn_fieldAddr (off := 2) (by kernel_rfl) rfl) ?_
    refine WR_val rfl (rn_load rfl (Ld.row1 hr1 (by kernel_rfl) rfl)) ?_
    refine WR_val rfl (rn_lenSl (e := 29) (sz := 1) (by kernel_rfl) rfl rfl) ?_
    refine WR_val rfl (rn_move) ?_
    refine WR_nil ?_
    refine thenN ?_
    refine W_block ?_
    refine W_loop (α := Nat) 0 (fun k => [(40, .int .i64 (k : Nat)), (39, .int .i64 (V.slots.length : Nat)), (38, .slice p V.slots.length c), (4, .int .i64 ((512 - lenS (V.slots.take k) : Nat) : Int)), (1, .pointer (some ⟨g1, 0, none⟩)), (2, .pointer (some ⟨g2, 0, none⟩))])
      (fun k w' => k ≤ V.slots.length ∧ row w' g2 (bv (partB V [0, 0] (V.slots.take k))) 23 ∧ Below w.heap.size w w') (fun k => V.slots.length - k)
      ⟨rfl, rfl, rfl, vi (by simp [lenS]), rfl, rfl, rfl⟩ ⟨Nat.zero_le _, hr2, hB⟩ ?_
    clear hr1 hr2 hB
    rintro i f wr ⟨hi, hr2, hB⟩
    have hlt1 := lenS_take V.slots i
    unfold sizeV at hz
    refine W_seq ?_
    refine W_region ?_
    refine WR_val rfl (rn_lss rfl rfl) ?_
    refine WR_nil ?_
    refine thenN ?_
    refine W_seq ?_
    refine W_ifp rfl (fun hlt => ?_) (fun hlt => ?_)
    ·
      refine W_skip ?_
      refine thenN ?_
      refine W_seq ?_
      refine W_block ?_
      refine W_seq ?_
      have hobt : ∃ s, V.slots[i]? = some s := ⟨_, List.getElem?_eq_getElem (by omega)⟩
      obtain ⟨s, hsi⟩ := hobt
      have hvv := hs.val hsi
      obtain ⟨q, cq, hv, hq, hqn⟩ := hvv
      have hobt := h.some (by omega)
      obtain ⟨g, off, rfl, hg⟩ := hobt
      have hsn := lenS_snoc hsi
      have hlt2 := lenS_take V.slots (i + 1)
      have hts : V.slots.take (i + 1) = V.slots.take i ++ [s] := by rw [List.take_add_one, hsi]; rfl
      have htl : (V.slots.take i).length = i := by rw [List.length_take]; omega
      refine W_region ?_
      refine WR_val rfl (rn_move) ?_
      refine WR_val rfl (rn_indexSl1 (e := 29) (by kernel_rfl) rfl rfl (i) (by omega) (by omega)) ?_
      refine WR_val rfl (rn_load rfl (Ld.sl1 (h.below hB (Nat.le_refl _)) (by kernel_rfl) hv)) ?_
      refine WR_val rfl (rn_assign) ?_
      refine WR_val rfl (rn_assign) ?_
      refine WR_nil ?_
      refine thenN ?_
      refine W_seq ?_
      refine W_seq ?_
      refine W_region ?_
      refine WR_val rfl (rn_move) ?_
      refine WR_val rfl (rn_eqlNil (e := 5) (by kernel_rfl) rfl rfl) ?_
      refine WR_nil ?_
      refine thenN ?_
      refine W_if rfl (fun hq0 => ?_) (fun hq0 => ?_)
      ·
        refine W_exit ?_
        refine thenX ?_
        refine blockX ?_
        refine thenN ?_
        refine W_region ?_
        refine WR_val rfl (rn_add rfl rfl (Coup.w64 (by omega))) ?_
        refine WR_val rfl (rn_move) ?_
        refine WR_nil ?_
        have hs0 : s = none := by rw [hqn]; cases q with | none => rfl | some a => simp at hq0
        subst hs0
        rw [show (bod none).length = 0 from rfl] at hsn
        have hpn := partB_none V [0, 0] (V.slots.take i) (by rw [htl]; omega)
        rw [← hts] at hpn
        rw [← hpn] at hr2
        refine loopN ⟨i + 1, by omega, ⟨rfl, rfl, rfl, vi (by omega), rfl, rfl, rfl⟩, by omega, hr2, hB⟩
      ·
        obtain ⟨r, rfl⟩ : ∃ r, s = some r := by
          cases s with
          | none => rw [hqn.1 rfl] at hq0; simp at hq0
          | some r => exact ⟨r, rfl⟩
        obtain ⟨b, ob, cb, hv1, hsb, hbl, -⟩ := hs.yes i r hsi
        obtain ⟨rfl, -, rfl⟩ : q = some ⟨b, ob, none⟩ ∧ (bod (some r)).length = r.length ∧ cq = cb := by
          have := Option.some.inj (hv.symm.trans hv1)
          injection this with e1 e2 e3
          exact ⟨e1, e2, e3⟩
        rw [show (bod (some r)).length = r.length from rfl] at hsn ⊢
        obtain ⟨E, hE⟩ : ∃ E, 512 - lenS (V.slots.take i) - r.length = E := ⟨_, rfl⟩
        have hmid := partB_mid V [0, 0] rfl (V.slots.take i) r (by rw [htl]; omega)
        have hmidl := mid_len V [0, 0] rfl (V.slots.take i) r (by rw [htl]; omega)
        have hset := partB_some V [0, 0] rfl (V.slots.take i) r (by rw [htl]; omega) (u8 (E / 2 ^ 8)) (u8 E) (u8 (r.length / 2 ^ 8)) (u8 r.length) (by rw [← u8_mod E, ← u8_mod r.length, ← hE]; rfl)
        rw [hE] at hmid
        rw [htl, ← hts] at hset
        have hpl : (partB V [0, 0] (V.slots.take i)).length = 512 := partB_len rfl (by rw [htl]; omega)
        generalize midB V [0, 0] (V.slots.take i) r = M at hmid hmidl hset
        refine W_skip ?_
        refine thenN ?_
        refine W_seq ?_
        refine W_region ?_
        refine WR_val rfl (rn_move) ?_
        refine WR_val rfl (rn_move) ?_
        refine WR_val rfl (rn_lenSl (e := 5) (sz := 1) (by kernel_rfl) rfl rfl) ?_
        refine WR_val rfl (rn_sub rfl rfl (Coup.w64 (by omega))) ?_
        refine WR_val rfl (rn_assign) ?_
        refine WR_nil ?_
        refine thenN ?_
        refine W_seq ?_
        refine W_region ?_
        refine WR_val rfl (rn_move) ?_
        refine WR_val rfl (rn_sliceArz (e := 5) E 512 512 (512 - E) (by kernel_rfl) rfl ⟨_, _, rfl, by omega⟩ rfl rfl (by simp) (by omega) (by omega) (by omega) rfl) ?_
        have hobt : ∃ O, (if 512 = E then 0 else 0 + E) = O := ⟨_, rfl⟩
        obtain ⟨O, hO⟩ := hobt
        have hO2 : r.length = 0 ∨ O = E := by rw [← hO]; split <;> omega
        have hO3 : O + r.length ≤ 512 := by rw [← hO]; split <;> omega
        rw [hO]
        refine WR_val rfl (rn_move) ?_
        refine WR_mk rfl (mk_copy (e := 5) (by kernel_rfl) (by kernel_rfl) rfl rfl g2 (O) hr2 (bv r) (by rw [bv_length]; simp [Nat.min_def]; omega) (fun _ => ⟨rfl, _, rfl, fun j v hv => by rw [Addr.add_lit]; exact (hsb.below hB (Nat.le_refl _)).cell j hv⟩) (by rw [bv_length, bv_length, hpl]; exact hO3) (bv_one _) (fun w54 hr2 ho54 => ?_))
        replace hB := ho54.below hB ge_hB_g2
        rw [splice_or _ _ _ _ hO2, splice_bv, hmid] at hr2
        refine WR_nil ?_
        refine thenN ?_
        refine W_seq ?_
        refine W_region ?_
        refine WR_val rfl (rn_move) ?_
        refine WR_val rfl (rn_mul rfl rfl (Coup.w64 (by omega))) ?_
        refine WR_val rfl (rn_add rfl rfl (Coup.w64 (by omega))) ?_
        refine WR_val rfl (rn_assign) ?_
        refine WR_nil ?_
        refine thenN ?_
        refine W_region ?_
        refine WR_val rfl (rn_move) ?_
        refine WR_val rfl (rn_move) ?_
        refine WR_val rfl (rn_add rfl rfl (Coup.w64 (by omega))) ?_
        refine WR_val rfl (rn_move) ?_
        refine WR_val rfl (rn_add rfl rfl (Coup.w64 (by omega))) ?_
        refine WR_val rfl (rn_move) ?_
        refine WR_val rfl (rn_add rfl rfl (Coup.w64 (by omega))) ?_
        refine WR_val rfl (rn_move) ?_
        refine WR_val rfl (rn_shr rfl rfl (by omega) (shrJ E 8 (by omega) rfl (by omega))) ?_
        refine WR_val rfl (rn_conv (k := .u8) (by kernel_rfl) (by kernel_rfl) rfl (u8_wrap (E / 2 ^ 8))) ?_
        refine WR_val rfl (rn_move) ?_
        refine WR_val rfl (rn_conv (k := .u8) (by kernel_rfl) (by kernel_rfl) rfl (u8_wrapJ E (by omega))) ?_
        refine WR_val rfl (rn_move) ?_
        refine WR_val rfl (rn_lenSl (e := 5) (sz := 1) (by kernel_rfl) rfl rfl) ?_
        refine WR_val rfl (rn_shr rfl rfl (by omega) (shrI r.length 8 rfl (by omega))) ?_
        refine WR_val rfl (rn_conv (k := .u8) (by kernel_rfl) (by kernel_rfl) rfl (u8_wrap (r.length / 2 ^ 8))) ?_
        refine WR_val rfl (rn_move) ?_
        refine WR_val rfl (rn_lenSl (e := 5) (sz := 1) (by kernel_rfl) rfl rfl) ?_
        refine WR_val rfl (rn_conv (k := .u8) (by kernel_rfl) (by kernel_rfl) rfl (u8_wrap r.length)) ?_
        refine WR_val rfl (rn_indexAr1 (e := 5) (m := 512) (by kernel_rfl) rfl rfl (12 + 4 * i) (by omega) (by omega)) ?_
        refine WR_sk rfl (sk_store1 rfl rfl rfl rfl hr2 (by kernel_rfl) (by first | (simp only [List.length_replicate]; omega) | (simp only [iv_length]; omega) | (simp only [bv_length, List.length_set]; omega) | simp) (fun w908 hr2 ho908 => ?_))
        replace hB := ho908.below hB ge_hB_g2
        replace hr2 : row w908 g2 ((bv M).set (12 + 4 * i) (.int .u8 ((u8 (E / 2 ^ 8)).toNat : Int))) 23 := row_z hr2
        rw [bv_splice1 (by omega)] at hr2
        refine WR_val rfl (rn_indexAr1 (e := 5) (m := 512) (by kernel_rfl) rfl rfl (12 + 4 * i + 1) (by omega) (by omega)) ?_
        refine WR_sk rfl (sk_store1 rfl rfl rfl rfl hr2 (by kernel_rfl) (by first | (simp only [List.length_replicate]; omega) | (simp only [iv_length]; omega) | (simp only [bv_length, List.length_set]; omega) | simp) (fun w909 hr2 ho909 => ?_))
        replace hB := ho909.below hB ge_hB_g2
        replace hr2 : row w909 g2 ((bv (M.set (12 + 4 * i) (u8 (E / 2 ^ 8)))).set (12 + 4 * i + 1) (.int .u8 ((u8 E).toNat : Int))) 23 := row_z hr2
        rw [bv_splice1 (by rw [List.length_set]; omega)] at hr2
        refine WR_val rfl (rn_indexAr1 (e := 5) (m := 512) (by kernel_rfl) rfl rfl (12 + 4 * i + 2) (by omega) (by omega)) ?_
        refine WR_sk rfl (sk_store1 rfl rfl rfl rfl hr2 (by kernel_rfl) (by first | (simp only [List.length_replicate]; omega) | (simp only [iv_length]; omega) | (simp only [bv_length, List.length_set]; omega) | simp) (fun w910 hr2 ho910 => ?_))
        replace hB := ho910.below hB ge_hB_g2
        replace hr2 : row w910 g2 ((bv ((M.set (12 + 4 * i) (u8 (E / 2 ^ 8))).set (12 + 4 * i + 1) (u8 E))).set (12 + 4 * i + 2) (.int .u8 ((u8 (r.length / 2 ^ 8)).toNat : Int))) 23 := row_z hr2
        rw [bv_splice1 (by rw [List.length_set, List.length_set]; omega)] at hr2
        refine WR_val rfl (rn_indexAr1 (e := 5) (m := 512) (by kernel_rfl) rfl rfl (12 + 4 * i + 3) (by omega) (by omega)) ?_
        refine WR_sk rfl (sk_store1 rfl rfl rfl rfl hr2 (by kernel_rfl) (by first | (simp only [List.length_replicate]; omega) | (simp only [iv_length]; omega) | (simp only [bv_length, List.length_set]; omega) | simp) (fun w911 hr2 ho911 => ?_))
        replace hB := ho911.below hB ge_hB_g2
        replace hr2 : row w911 g2 ((bv (((M.set (12 + 4 * i) (u8 (E / 2 ^ 8))).set (12 + 4 * i + 1) (u8 E)).set (12 + 4 * i + 2) (u8 (r.length / 2 ^ 8)))).set (12 + 4 * i + 3) (.int .u8 ((u8 r.length).toNat : Int))) 23 := row_z hr2
        rw [bv_splice1 (by rw [List.length_set, List.length_set, List.length_set]; omega), hset] at hr2
        refine WR_nil ?_
        refine blockN ?_
        refine thenN ?_
        refine W_region ?_
        refine WR_val rfl (rn_add rfl rfl (Coup.w64 (by omega))) ?_
        refine WR_val rfl (rn_move) ?_
        refine WR_nil ?_
        refine loopN ⟨i + 1, by omega, ⟨rfl, rfl, rfl, vi (by omega), rfl, rfl, rfl⟩, by omega, hr2, hB⟩
    ·
      obtain rfl : i = V.slots.length := by omega
      rw [List.take_of_length_le (Nat.le_refl _)] at hr2 ⊢
      have hpl : (partB V [0, 0] V.slots).length = 512 := partB_len rfl (by omega)
      have hend := partB_end V V.slots (u8 ((512 - lenS V.slots) / 2 ^ 8)) (u8 (512 - lenS V.slots))
      have hend2 : partB V [u8 ((512 - lenS V.slots) / 2 ^ 8), u8 (512 - lenS V.slots)] V.slots = bytesV V := by
        rw [bytesV, ← u8_mod (512 - lenS V.slots)]; rfl
      rw [hend2] at hend
      have hbl : (bytesV V).length = 512 := partB_len rfl (by omega)
      generalize bytesV V = Q at hend hbl ⊢
      generalize partB V [0, 0] V.slots = M at hend hpl hr2
      refine W_exit ?_
      refine thenX ?_
      refine loopX ?_
      refine blockX ?_
      refine thenN ?_
      refine W_seq ?_
      refine W_region ?_
      refine WR_val rfl (rn_move) ?_
      refine WR_val rfl (rn_shr rfl rfl (by omega) (shrI (512 - lenS V.slots) 8 rfl (by omega))) ?_
      refine WR_val rfl (rn_conv (k := .u8) (by kernel_rfl) (by kernel_rfl) rfl (u8_wrap ((512 - lenS V.slots) / 2 ^ 8))) ?_
      refine WR_val rfl (rn_move) ?_
      refine WR_val rfl (rn_conv (k := .u8) (by kernel_rfl) (by kernel_rfl) rfl (u8_wrap (512 - lenS V.slots))) ?_
      refine WR_val rfl (rn_indexAr1 (e := 5) (m := 512) (by kernel_rfl) rfl rfl (4) rfl (by omega)) ?_
      refine WR_sk rfl (sk_store1 rfl rfl rfl rfl hr2 (by kernel_rfl) (by first | (simp only [List.length_replicate]; omega) | (simp only [iv_length]; omega) | (simp only [bv_length, List.length_set]; omega) | simp) (fun w912 hr2 ho912 => ?_))
      replace hB := ho912.below hB ge_hB_g2
      replace hr2 : row w912 g2 ((bv M).set 4 (.int .u8 ((u8 ((512 - lenS V.slots) / 2 ^ 8)).toNat : Int))) 23 := hr2
      rw [bv_splice1 (by omega)] at hr2
      refine WR_val rfl (rn_indexAr1 (e := 5) (m := 512) (by kernel_rfl) rfl rfl (5) rfl (by omega)) ?_
      refine WR_sk rfl (sk_store1 rfl rfl rfl rfl hr2 (by kernel_rfl) (by first | (simp only [List.length_replicate]; omega) | (simp only [iv_length]; omega) | (simp only [bv_length, List.length_set]; omega) | simp) (fun w913 hr2 ho913 => ?_))
      replace hB := ho913.below hB ge_hB_g2
      replace hr2 : row w913 g2 ((bv (M.set 4 (u8 ((512 - lenS V.slots) / 2 ^ 8)))).set 5 (.int .u8 ((u8 (512 - lenS V.slots)).toNat : Int))) 23 := hr2
      rw [bv_splice1 (by rw [List.length_set]; omega), hend] at hr2
      refine WR_nil ?_
      refine thenN ?_
      refine W_seq ?_
      refine W_region ?_
      refine WR_val rfl (rn_load rfl (Ld.rowA (k := 512) hr2 (by kernel_rfl) (by kernel_rfl) (by first | (simp; done) | (simp [bv_length, *]; done) | assumption))) ?_
      refine WR_sk rfl (sk_storeA 512 (_) rfl rfl hr2 (by kernel_rfl) (by first | assumption | (simp; done) | (simp [bv_length, *]; done)) (by first | assumption | (simp; done) | (simp [bv_length, *]; done) | rfl) (by first | exact bv_one _ | assumption | (simp [Value.oneCell']; done)) (fun w914 hr2 ho914 => ?_))
      replace hB := ho914.below hB ge_hB_g2
      refine WR_nil ?_
      refine thenN ?_
      refine W_ret ?_
      refine ret_ret [_] ⟨⟨_, rfl, Ld.rowA (k := 512) hr2 (by kernel_rfl) (by kernel_rfl) (by first | (simp; done) | (simp [bv_length, *]; done) | assumption)⟩, trivial⟩ ?_
      exact ⟨rfl, hB⟩
end Go.Proofs.Ytjdcopfnhkfimaa
