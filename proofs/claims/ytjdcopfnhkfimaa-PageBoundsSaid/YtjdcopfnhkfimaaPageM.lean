/- The reference's pages: has a slot a record, may a page be, its bytes. -/
import Derived.Test.YtjdcopfnhkfimaaPageL
namespace Go.Proofs.Ytjdcopfnhkfimaa
open Go Go.RowKit Coup

set_option maxHeartbeats 1000000 in
theorem rhas31 (V : View) (p : Option Addr) (c : Nat) (fl : List Value) (k : Int) (w : World) (o : List Nat) (h : SlAt w p V.slots.length 2 fl) (hs : RsAt w o fl V.slots) :
    Calls Try.prog 31 [.agg #[.int .i64 (V.kind : Int), .int .i64 (V.next : Int), .slice p V.slots.length c], .int .i64 k].toArray w (Ret fun v w' => v = .bool (hasV V.slots k) ∧ Below w.heap.size w w') := by
  have hB := Below.refl w.heap.size w
  obtain ⟨S, hS⟩ : ∃ S, V.slots = S := ⟨_, rfl⟩
  rw [hS] at h hs ⊢
  refine calls_W (fn := Try.f31) (rs := [.tmp 4]) (n := 22) Try.func31 rfl rfl Try.ntmps31 (by kernel_rfl) rfl ?_
  refine W_seq ?_
  refine W_region ?_
  refine WR_mk rfl (mk_box ([_, _, _]) rfl (fun g2 w2 hg2 hr2 hb2 => ?_))
  have ge_hB_g2 := Nat.le_trans hB.size hg2
  replace hB := hB.acc hb2
  refine WR_val rfl (rn_assign) ?_
  refine WR_nil ?_
  refine thenN ?_
  refine W_seq ?_
  refine W_region ?_
  refine WR_val rfl (rn_move) ?_
  refine WR_val rfl (rn_geq rfl rfl) ?_
  refine WR_val rfl (rn_move) ?_
  refine WR_part 7 rfl (fun h0 => ?_) (fun h0 => ?_)
  ·
    refine WR_yes rfl ?_
    refine WR_val rfl (rn_move) ?_
    refine WR_yes rfl ?_
    refine WR_val rfl (rn_fieldAddr (off := 2) (by kernel_rfl) rfl) ?_
    refine WR_yes rfl ?_
    refine WR_val rfl (rn_load rfl (Ld.row1 hr2 (by kernel_rfl) rfl)) ?_
    refine WR_yes rfl ?_
    refine WR_val rfl (rn_lenSl (e := 69) (sz := 2) (by kernel_rfl) rfl rfl) ?_
    refine WR_yes rfl ?_
    refine WR_val rfl (rn_lss rfl rfl) ?_
    refine WR_val rfl (rn_pick_t rfl) ?_
    refine WR_val rfl (rn_move) ?_
    refine WR_part 14 rfl (fun h1 => ?_) (fun h1 => ?_)
    ·
      refine WR_yes rfl ?_
      refine WR_val rfl (rn_fieldAddr (off := 2) (by kernel_rfl) rfl) ?_
      refine WR_yes rfl ?_
      refine WR_val rfl (rn_load rfl (Ld.row1 hr2 (by kernel_rfl) rfl)) ?_
      refine WR_yes rfl ?_
      refine WR_val rfl (rn_move) ?_
      refine WR_yes rfl ?_
      have hobt : ∃ i : Nat, k = i := ⟨k.toNat, by omega⟩
      obtain ⟨i, rfl⟩ := hobt
      have hobt : ∃ s, S[i]? = some s := ⟨_, List.getElem?_eq_getElem (by omega)⟩
      obtain ⟨s, hsi⟩ := hobt
      have hvv := (hs.at_ i s hsi).1
      have hobt := h.some (by omega)
      obtain ⟨g, off, rfl, hg⟩ := hobt
      refine WR_val rfl (rn_indexSl (e := 69) (sz := 2) (by kernel_rfl) rfl rfl (i) (by omega) (by omega)) ?_
      refine WR_yes rfl ?_
      refine WR_val rfl (rn_fieldAddr (off := 0) (by kernel_rfl) rfl) ?_
      refine WR_yes rfl ?_
      refine WR_val rfl (rn_load rfl (Ld.sl1 (off := off) (j := i * 2) (h.below hB (Nat.le_refl _)) (by kernel_rfl) hvv)) ?_
      refine WR_val rfl (rn_pick_t rfl) ?_
      refine WR_val rfl (rn_assign) ?_
      refine WR_nil ?_
      refine thenN ?_
      refine W_ret ?_
      refine ret_ret [_] ⟨rfl, trivial⟩ ?_
      refine ⟨vb ?_, hB⟩
      rw [hasV, Int.toNat_natCast, List.getD_eq_getElem?_getD, hsi, decide_eq_true (by omega)]
      rfl
    ·
      refine WR_no rfl rfl ?_
      refine WR_no rfl rfl ?_
      refine WR_no rfl rfl ?_
      refine WR_no rfl rfl ?_
      refine WR_no rfl rfl ?_
      refine WR_no rfl rfl ?_
      refine WR_val rfl (rn_pick_f rfl) ?_
      refine WR_val rfl (rn_assign) ?_
      refine WR_nil ?_
      refine thenN ?_
      refine W_ret ?_
      refine ret_ret [_] ⟨rfl, trivial⟩ ?_
      refine ⟨vb ?_, hB⟩
      rw [hasV, List.getD_eq_getElem?_getD, List.getElem?_eq_none (by omega)]
      simp
  ·
    refine WR_no rfl rfl ?_
    refine WR_no rfl rfl ?_
    refine WR_no rfl rfl ?_
    refine WR_no rfl rfl ?_
    refine WR_no rfl rfl ?_
    refine WR_val rfl (rn_pick_f rfl) ?_
    refine WR_val rfl (rn_move) ?_
    refine WR_no rfl rfl ?_
    refine WR_no rfl rfl ?_
    refine WR_no rfl rfl ?_
    refine WR_no rfl rfl ?_
    refine WR_no rfl rfl ?_
    refine WR_no rfl rfl ?_
    refine WR_val rfl (rn_pick_f rfl) ?_
    refine WR_val rfl (rn_assign) ?_
    refine WR_nil ?_
    refine thenN ?_
    refine W_ret ?_
    refine ret_ret [_] ⟨rfl, trivial⟩ ?_
    refine ⟨vb ?_, hB⟩
    rw [hasV, decide_eq_false (by omega)]; rfl
theorem get38 (L : List UInt8) (i m : Nat) (k : Int) (w : World) (hL : L.length = 512) (h2 : At2 L i m) (hk : k = (i : Int)) :
    Calls Try.prog 38 [.agg (bv L).toArray, .int .i64 k].toArray w (Ret fun v w' => v = .int .i64 (m : Int) ∧ Below w.heap.size w w') := by
  subst hk
  have hB := Below.refl w.heap.size w
  have hf := h2.fst
  have hg := h2.snd
  have hn := At2.num h2.1
  have hi := h2.2.1
  have hbl : (bv L).length = 512 := by rw [bv_length]; exact hL
  have ha := (u8 (m / 256)).toNat_lt
  have hb := (u8 (m % 256)).toNat_lt
  refine calls_W (fn := Try.f38) (rs := [.tmp 4]) (n := 16) Try.func38 rfl rfl Try.ntmps38 (by kernel_rfl) rfl ?_
  refine W_seq ?_
  refine W_region ?_
  refine WR_mk rfl (mk_box ((bv L)) rfl (fun g2 w2 hg2 hr2 hb2 => ?_))
  have ge_hB_g2 := Nat.le_trans hB.size hg2
  replace hB := hB.acc hb2
  refine WR_val rfl (rn_assign) ?_
  refine WR_nil ?_
  refine thenN ?_
  refine W_seq ?_
  refine W_draw' [] (by kernel_rfl) ?_
  intro w901 hb901 hS901
  replace hr2 := hr2.new hb901
  replace hB := hB.acc hb901
  have hr2_d901 := hr2
  have hB_d901 := hB
  refine WA_take 0 (by kernel_rfl) rfl (fun _ _ => rn_move) ?_
  refine WA_take 1 (by kernel_rfl) rfl (fun _ _ => rn_indexAr1 (e := 5) (m := 512) (by kernel_rfl) rfl rfl (i) (by omega) (by omega)) ?_
  refine WA_take 2 (by kernel_rfl) rfl (fun w' hS' => rn_load rfl (Ld.row1 (hr2_d901.kpd hS' (by first | (simp; done) | (simp; omega) | (simp [*]; done))) (by kernel_rfl) (show (bv L)[0 + i]? = some (.int .u8 ((u8 (m / 256)).toNat : Int)) by rw [Nat.zero_add, bv, List.getElem?_map, hf]; rfl))) ?_
  refine WA_take 3 (by kernel_rfl) rfl (fun _ _ => rn_conv (k := .i64) (by kernel_rfl) (by kernel_rfl) rfl (Coup.w64 (by omega))) ?_
  refine WA_take 4 (by kernel_rfl) rfl (fun _ _ => rn_mul rfl rfl (Coup.w64 (by omega))) ?_
  refine WA_take 5 (by kernel_rfl) rfl (fun _ _ => rn_move) ?_
  refine WA_take 6 (by kernel_rfl) rfl (fun _ _ => rn_add rfl rfl (Coup.w64 (by omega))) ?_
  refine WA_take 7 (by kernel_rfl) rfl (fun _ _ => rn_indexAr1 (e := 5) (m := 512) (by kernel_rfl) rfl rfl (i + 1) (by omega) (by omega)) ?_
  refine WA_take 8 (by kernel_rfl) rfl (fun w' hS' => rn_load rfl (Ld.row1 (hr2_d901.kpd hS' (by first | (simp; done) | (simp; omega) | (simp [*]; done))) (by kernel_rfl) (show (bv L)[0 + (i + 1)]? = some (.int .u8 ((u8 (m % 256)).toNat : Int)) by rw [Nat.zero_add, bv, List.getElem?_map, hg]; rfl))) ?_
  refine WA_take 9 (by kernel_rfl) rfl (fun _ _ => rn_conv (k := .i64) (by kernel_rfl) (by kernel_rfl) rfl (Coup.w64 (by omega))) ?_
  refine WA_take 10 (by kernel_rfl) rfl (fun _ _ => rn_add rfl rfl (Coup.w64 (by omega))) ?_
  refine WA_take 11 (by kernel_rfl) rfl (fun _ _ => rn_assign) ?_
  refine WA_done (by kernel_rfl) ?_
  refine thenN ?_
  refine W_ret ?_
  refine ret_ret [_] ⟨rfl, trivial⟩ ?_
  refine ⟨vi ?_, hB⟩
  exact hn
def set2 (L : List UInt8) (i n : Nat) : List UInt8 := (L.set i (u8 (n / 256))).set (i + 1) (u8 (n % 256))
theorem set2_len (L : List UInt8) (i n : Nat) : (set2 L i n).length = L.length := by rw [set2, List.length_set, List.length_set]
theorem set40 (L : List UInt8) (g : Nat) (a k : Int) (i n : Nat) (w : World) (h : row w g (bv L) 23) (hL : L.length = 512) (hi : i + 1 < 512) (ha : a = (i : Int)) (hk : k = (n : Int)) (hn : n < 1000000) :
    Calls Try.prog 40 [.pointer (some ⟨g, 0, none⟩), .int .i64 a, .int .i64 k].toArray w (Ret fun _ w' => row w' g (bv (set2 L i n)) 23 ∧ Kp [g] w w') := by
  subst ha hk
  have hr3 := h
  have hgw := h.lt
  refine calls_W (fn := Try.f40) (rs := []) (n := 21) Try.func40 rfl rfl Try.ntmps40 (by kernel_rfl) rfl ?_
  refine W_draw' [g] (by kernel_rfl) ?_
  intro w901 hb901 hS901
  replace hr3 := hr3.new hb901
  have hr3_d901 := hr3
  refine WA_take 0 (by kernel_rfl) rfl (fun _ _ => rn_move) ?_
  refine WA_take 1 (by kernel_rfl) rfl (fun _ _ => rn_move) ?_
  refine WA_take 2 (by kernel_rfl) rfl (fun _ _ => rn_move) ?_
  refine WA_take 3 (by kernel_rfl) rfl (fun _ _ => rn_move) ?_
  refine WA_take 4 (by kernel_rfl) rfl (fun _ _ => rn_add rfl rfl (Coup.w64 (by omega))) ?_
  refine WA_take 5 (by kernel_rfl) rfl (fun _ _ => rn_move) ?_
  refine WA_take 6 (by kernel_rfl) rfl (fun _ _ => rn_quo0 rfl rfl (by omega) (by omega)) ?_
  refine WA_take 7 (by kernel_rfl) rfl (fun _ _ => rn_conv (k := .u8) (by kernel_rfl) (by kernel_rfl) rfl (u8_wrapJ (n / 256) (by omega))) ?_
  refine WA_take 8 (by kernel_rfl) rfl (fun _ _ => rn_move) ?_
  refine WA_take 9 (by kernel_rfl) rfl (fun _ _ => rn_rem0 rfl rfl (by omega) (by omega)) ?_
  refine WA_take 10 (by kernel_rfl) rfl (fun _ _ => rn_conv (k := .u8) (by kernel_rfl) (by kernel_rfl) rfl (u8_wrapJ (n % 256) (by omega))) ?_
  refine WA_take 11 (by kernel_rfl) rfl (fun _ _ => rn_nilCheckP rfl) ?_
  refine WA_take 12 (by kernel_rfl) rfl (fun _ _ => rn_indexAr1 (e := 5) (m := 512) (by kernel_rfl) rfl rfl (i) (by omega) (by omega)) ?_
  refine WA_take 14 (by kernel_rfl) rfl (fun _ _ => rn_nilCheckP rfl) ?_
  refine WA_one 13 (by kernel_rfl) ?_
  refine WO_sk rfl rfl (sk_store1 rfl rfl rfl rfl hr3 (by kernel_rfl) (by first | (simp only [List.length_replicate]; omega) | (simp only [iv_length]; omega) | (simp only [bv_length, List.length_set]; omega) | simp) (fun w903 hr3 ho903 => ?_))
  have hS902 := hS901.add1 ho903 (by first | (left; omega) | (right; simp; done) | (right; simp; omega))
  refine ⟨hS902, ?_⟩
  replace hr3 : row w903 g ((bv L).set i (.int .u8 ((u8 (n / 256)).toNat : Int))) 23 := row_z hr3
  rw [bv_splice1 (by omega)] at hr3
  refine WA_take 15 (by kernel_rfl) rfl (fun _ _ => rn_indexAr1 (e := 5) (m := 512) (by kernel_rfl) rfl rfl (i + 1) (by omega) (by omega)) ?_
  refine WA_one 16 (by kernel_rfl) ?_
  refine WO_sk rfl rfl (sk_store1 rfl rfl rfl rfl hr3 (by kernel_rfl) (by first | (simp only [List.length_replicate]; omega) | (simp only [iv_length]; omega) | (simp only [bv_length, List.length_set]; omega) | simp) (fun w905 hr3 ho905 => ?_))
  have hS904 := hS902.add1 ho905 (by first | (left; omega) | (right; simp; done) | (right; simp; omega))
  refine ⟨hS904, ?_⟩
  replace hr3 : row w905 g ((bv (L.set i (u8 (n / 256)))).set (i + 1) (.int .u8 ((u8 (n % 256)).toNat : Int))) 23 := row_z hr3
  rw [bv_splice1 (by rw [List.length_set]; omega)] at hr3
  refine WA_done (by kernel_rfl) ?_
  refine ret_normal [] trivial ?_
  exact ⟨hr3, (Kp.of_below hb901).trans (by assumption)⟩
theorem front2 (V : View) : set2 (set2 (set2 (zeroP.set 0 (u8 V.kind)) 2 V.slots.length) 8 (V.next / 65536)) 10 (V.next % 65536) = partB V [0, 0] [] := by
  have e : zeroP = [0, 0, 0, 0, 0, 0, 0, 0, 0, 0, 0, 0] ++ List.replicate 500 0 := by
    rw [zeroP, show (512 : Nat) = 12 + 500 from rfl, ← List.replicate_append_replicate]; rfl
  have e2 : partB V [0, 0] [] = frontB V [0, 0] ++ List.replicate 500 0 := by
    simp only [partB, dirB, tailB, lenS, List.append_nil, List.length_nil, Nat.mul_zero, Nat.sub_zero]
  rw [e, e2]
  generalize List.replicate 500 (0 : UInt8) = T
  have h1 : V.next / 65536 / 256 = V.next / 16777216 := by rw [Nat.div_div_eq_div_mul]
  have h2 : u8 (V.next % 65536 / 256) = u8 (V.next / 256 % 256) := by congr 1; omega
  have h3 : u8 (V.next % 65536 % 256) = u8 (V.next % 256) := by congr 1; omega
  simp only [set2, h1, h2, h3, frontB, be2, be4]
  rfl
/-- A page's records, byte by byte. -/
def cpB (L r : List UInt8) (E k : Nat) : List UInt8 := L.take E ++ (r.take k ++ L.drop (E + k))
theorem cpB_len {L r : List UInt8} {E k : Nat} (h : E + k ≤ L.length) (hk : k ≤ r.length) : (cpB L r E k).length = L.length := by
  rw [cpB, List.length_append, List.length_append, List.length_take, List.length_take, List.length_drop]; omega
theorem cpB_set {L r : List UInt8} {E k : Nat} {b : UInt8} (h : E + k < L.length) (hb : r[k]? = some b) : (cpB L r E k).set (E + k) b = cpB L r E (k + 1) := by
  have hk := (List.getElem?_eq_some_iff.1 hb).1
  have h1 : (L.take E).length = E := by rw [List.length_take]; omega
  have h2 : (r.take k).length = k := by rw [List.length_take]; omega
  rw [cpB, List.set_append_right _ _ (by omega), h1, Nat.add_sub_cancel_left, List.set_append_right _ _ (by omega), h2, Nat.sub_self, cpB,
    List.drop_eq_getElem_cons h, List.set_cons_zero, List.take_add_one, hb]
  simp only [Option.toList_some, List.append_assoc, List.cons_append, List.nil_append, Nat.add_assoc]
set_option maxHeartbeats 1000000 in
theorem rbytes34 (V : View) (p : Option Addr) (c : Nat) (fl : List Value) (w : World) (o : List Nat) (h : SlAt w p V.slots.length 2 fl) (hs : RsAt w o fl V.slots) (hk : V.kind < 256) (hn : V.next < 2147483648) (hz : sizeV V ≤ 512) :
    Calls Try.prog 34 [.agg #[.int .i64 (V.kind : Int), .int .i64 (V.next : Int), .slice p V.slots.length c]].toArray w (Ret fun v w' => v = .agg (bv (bytesV V)).toArray ∧ Below w.heap.size w w') := by
  have hB := Below.refl w.heap.size w
  have hml : maxLen = 9223372036854775807 := by decide
  have hz2 := hz
  unfold sizeV at hz2
  obtain ⟨Z, hzz, hzb, hzl⟩ := zeroQ
  have hzl2 : Z.length = 512 := by rwa [bv_length] at hzl
  have hfr := front2 V
  rw [hzz] at hfr
  refine calls_W (fn := Try.f34) (rs := [.cell 2 23]) (n := 89) Try.func34 rfl rfl Try.ntmps34 (by kernel_rfl) rfl ?_
  refine W_seq ?_
  refine W_region ?_
  refine WR_mk rfl (mk_box ([_, _, _]) rfl (fun g1 w1 hg1 hr1 hb1 => ?_))
  have ge_hB_g1 := Nat.le_trans hB.size hg1
  replace hB := hB.acc hb1
  refine WR_mk rfl (mk_alloc (List.replicate 512 (Value.int .u8 0)) (by kernel_rfl) (fun g2 w2 hg2 hr2 hb2 => ?_))
  have ge_hB_g2 := Nat.le_trans hB.size hg2
  have lt_g1_g2 : g1 < g2 := Nat.lt_of_lt_of_le hr1.lt hg2
  replace hr1 := hr1.new hb2
  replace hB := hB.acc hb2
  rw [hzb] at hr2
  refine WR_nil ?_
  refine thenN ?_
  refine W_seq ?_
  refine W_region ?_
  refine WR_mk rfl (mk_alloc (List.replicate 512 (Value.int .u8 0)) (by kernel_rfl) (fun g3 w3 hg3 hr3 hb3 => ?_))
  have ge_hB_g3 := Nat.le_trans hB.size hg3
  have lt_g1_g3 : g1 < g3 := Nat.lt_of_lt_of_le hr1.lt hg3
  have lt_g2_g3 : g2 < g3 := Nat.lt_of_lt_of_le hr2.lt hg3
  replace hr1 := hr1.new hb3
  replace hr2 := hr2.new hb3
  replace hB := hB.acc hb3
  rw [hzb] at hr3
  refine WR_nil ?_
  refine thenN ?_
  refine W_seq ?_
  refine W_region ?_
  refine WR_val rfl (rn_fieldAddr (off := 0) (by kernel_rfl) rfl) ?_
  refine WR_val rfl (rn_load rfl (Ld.row1 hr1 (by kernel_rfl) rfl)) ?_
  refine WR_val rfl (rn_conv (k := .u8) (by kernel_rfl) (by kernel_rfl) rfl (u8_wrap V.kind)) ?_
  refine WR_val rfl (rn_indexAr1 (e := 5) (m := 512) (by kernel_rfl) rfl rfl (0) rfl (by omega)) ?_
  refine WR_sk rfl (sk_store1 rfl rfl rfl rfl hr3 (by kernel_rfl) (by first | (simp only [List.length_replicate]; omega) | (simp only [iv_length]; omega) | (simp only [bv_length, List.length_set]; omega) | simp) (fun w901 hr3 ho901 => ?_))
  replace hr1 := hr1.only ho901 (Nat.ne_of_lt lt_g1_g3)
  replace hr2 := hr2.only ho901 (Nat.ne_of_lt lt_g2_g3)
  replace hB := ho901.below hB ge_hB_g3
  replace hr3 : row w901 g3 ((bv Z).set 0 (.int .u8 ((u8 V.kind).toNat : Int))) 23 := hr3
  rw [bv_splice1 (by omega)] at hr3
  have l1 : (Z.set 0 (u8 V.kind)).length = 512 := by rw [List.length_set]; exact hzl2
  refine WR_nil ?_
  refine thenN ?_
  refine W_seq ?_
  refine W_region ?_
  refine WR_val rfl (rn_fieldAddr (off := 2) (by kernel_rfl) rfl) ?_
  refine WR_val rfl (rn_load rfl (Ld.row1 hr1 (by kernel_rfl) rfl)) ?_
  refine WR_val rfl (rn_lenSl (e := 69) (sz := 2) (by kernel_rfl) rfl rfl) ?_
  refine WR_ent rfl (rn_call (by kernel_rfl) rfl) (set40 _ g3 _ _ 2 V.slots.length w901 hr3 l1 (by omega) rfl rfl (by omega)) ?_
  rintro _ w14 ⟨hr3, hb14⟩
  replace hr1 := hr1.kpd hb14 (by first | (simp; done) | (simp; omega))
  replace hr2 := hr2.kpd hb14 (by first | (simp; done) | (simp; omega))
  replace hB := hB.kpd hb14 (by first | (simp; done) | (simp; omega))
  refine WR_nil ?_
  refine thenN ?_
  refine W_seq ?_
  refine W_region ?_
  refine WR_val rfl (rn_fieldAddr (off := 1) (by kernel_rfl) rfl) ?_
  refine WR_val rfl (rn_load rfl (Ld.row1 hr1 (by kernel_rfl) rfl)) ?_
  refine WR_val rfl (rn_quo0 rfl rfl (by omega) (by omega)) ?_
  refine WR_ent rfl (rn_call (by kernel_rfl) rfl) (set40 _ g3 _ _ 8 (V.next / 65536) w14 hr3 (by rw [set2_len]; exact l1) (by omega) rfl (by omega) (by omega)) ?_
  rintro _ w18 ⟨hr3, hb18⟩
  replace hr1 := hr1.kpd hb18 (by first | (simp; done) | (simp; omega))
  replace hr2 := hr2.kpd hb18 (by first | (simp; done) | (simp; omega))
  replace hB := hB.kpd hb18 (by first | (simp; done) | (simp; omega))
  refine WR_nil ?_
  refine thenN ?_
  refine W_seq ?_
  refine W_region ?_
  refine WR_val rfl (rn_fieldAddr (off := 1) (by kernel_rfl) rfl) ?_
  refine WR_val rfl (rn_load rfl (Ld.row1 hr1 (by kernel_rfl) rfl)) ?_
  refine WR_val rfl (rn_rem0 rfl rfl (by omega) (by omega)) ?_
  refine WR_ent rfl (rn_call (by kernel_rfl) rfl) (set40 _ g3 _ _ 10 (V.next % 65536) w18 hr3 (by rw [set2_len, set2_len]; exact l1) (by omega) rfl (by omega) (by omega)) ?_
  rintro _ w22 ⟨hr3, hb22⟩
  replace hr1 := hr1.kpd hb22 (by first | (simp; done) | (simp; omega))
  replace hr2 := hr2.kpd hb22 (by first | (simp; done) | (simp; omega))
  replace hB := hB.kpd hb22 (by first | (simp; done) | (simp; omega))
  refine WR_nil ?_
  refine thenN ?_
  refine W_seq ?_
  refine W_region ?_
  refine WR_val rfl (rn_assign) ?_
  refine WR_nil ?_
  refine thenN ?_
  refine W_seq ?_
  refine W_seq ?_
  refine W_region ?_
  refine WR_val rfl (rn_assign) ?_
  refine WR_nil ?_
  refine thenN ?_
  refine W_block ?_
  rw [hfr] at hr3
  refine W_loop (α := Nat) 0 (fun k => [(5, .int .i64 (k : Nat)), (4, .int .i64 ((512 - lenS (V.slots.take k) : Nat) : Int)), (1, .pointer (some ⟨g1, 0, none⟩)), (2, .pointer (some ⟨g2, 0, none⟩)), (3, .pointer (some ⟨g3, 0, none⟩))])
    (fun k w' => k ≤ V.slots.length ∧ row w' g1 [.int .i64 (V.kind : Int), .int .i64 (V.next : Int), .slice p V.slots.length c] 57 ∧ row w' g2 (bv Z) 23 ∧ row w' g3 (bv (partB V [0, 0] (V.slots.take k))) 23 ∧ Below w.heap.size w w') (fun k => V.slots.length - k)
    ⟨rfl, vi (by simp [lenS]), rfl, rfl, rfl, rfl⟩ ⟨Nat.zero_le _, hr1, hr2, hr3, hB⟩ ?_
  clear hr1 hr2 hr3 hB
  have hw3 : w.heap.size ≤ g3 := by omega
  rintro i f wr ⟨hi, hr1, hr2, hr3, hB⟩
  have hlt1 := lenS_take V.slots i
  refine W_seq ?_
  refine W_seq ?_
  refine W_region ?_
  refine WR_val rfl (rn_move) ?_
  refine WR_val rfl (rn_fieldAddr (off := 2) (by kernel_rfl) rfl) ?_
  refine WR_val rfl (rn_load rfl (Ld.row1 hr1 (by kernel_rfl) rfl)) ?_
  refine WR_val rfl (rn_lenSl (e := 69) (sz := 2) (by kernel_rfl) rfl rfl) ?_
  refine WR_val rfl (rn_lss rfl rfl) ?_
  refine WR_nil ?_
  refine thenN ?_
  refine W_ifp rfl (fun hlt => ?_) (fun hlt => ?_)
  ·
    refine W_skip ?_
    refine thenN ?_
    refine W_seq ?_
    refine W_block ?_
    refine W_seq ?_
    refine W_seq ?_
    have hobt : ∃ s, V.slots[i]? = some s := ⟨_, List.getElem?_eq_getElem (by omega)⟩
    obtain ⟨s, hsi⟩ := hobt
    have hvv := hs.at_ i s hsi
    obtain ⟨his, q, cq, hv, hq, _⟩ := hvv
    have hobt := h.some (by omega)
    obtain ⟨g, off, rfl, hg⟩ := hobt
    have hsn := lenS_snoc hsi
    have hlt2 := lenS_take V.slots (i + 1)
    have hts : V.slots.take (i + 1) = V.slots.take i ++ [s] := by rw [List.take_add_one, hsi]; rfl
    have htl : (V.slots.take i).length = i := by rw [List.length_take]; omega
    refine W_region ?_
    refine WR_val rfl (rn_fieldAddr (off := 2) (by kernel_rfl) rfl) ?_
    refine WR_val rfl (rn_load rfl (Ld.row1 hr1 (by kernel_rfl) rfl)) ?_
    refine WR_val rfl (rn_move) ?_
    refine WR_val rfl (rn_indexSl (e := 69) (sz := 2) (by kernel_rfl) rfl rfl (i) (by omega) (by omega)) ?_
    refine WR_val rfl (rn_fieldAddr (off := 0) (by kernel_rfl) rfl) ?_
    refine WR_val rfl (rn_load rfl (Ld.sl1 (off := off) (j := i * 2) (h.below hB (Nat.le_refl _)) (by kernel_rfl) his)) ?_
    refine WR_val rfl (rn_not rfl) ?_
    refine WR_nil ?_
    refine thenN ?_
    refine W_ifnb rfl (fun hq0 => ?_) (fun hq0 => ?_)
    ·
      refine W_exit ?_
      refine thenX ?_
      refine blockX ?_
      refine thenN ?_
      refine W_region ?_
      refine WR_val rfl (rn_move) ?_
      refine WR_val rfl (rn_add rfl rfl (Coup.w64 (by omega))) ?_
      refine WR_val rfl (rn_assign) ?_
      refine WR_nil ?_
      have hs0 : s = none := by cases s with | none => rfl | some r => cases hq0
      subst hs0
      rw [show (bod none).length = 0 from rfl] at hsn
      have hpn := partB_none V [0, 0] (V.slots.take i) (by rw [htl]; omega)
      rw [← hts] at hpn
      rw [← hpn] at hr3
      refine loopN ⟨i + 1, by omega, ⟨by go_num, vi (by omega), rfl, rfl, rfl, rfl⟩, by omega, hr1, hr2, hr3, hB⟩
    ·
      obtain ⟨r, rfl⟩ := Option.isSome_iff_exists.1 hq0
      rw [show (bod (some r)).length = r.length from rfl] at hsn hv hq
      rw [show bod (some r) = r from rfl] at hq
      obtain ⟨E, hE⟩ : ∃ E, 512 - lenS (V.slots.take i) - r.length = E := ⟨_, rfl⟩
      have hmid := partB_mid V [0, 0] rfl (V.slots.take i) r (by rw [htl]; omega)
      have hmidl := mid_len V [0, 0] rfl (V.slots.take i) r (by rw [htl]; omega)
      have hset := partB_some V [0, 0] rfl (V.slots.take i) r (by rw [htl]; omega) (u8 (E / 256)) (u8 (E % 256)) (u8 (r.length / 256)) (u8 (r.length % 256)) (by rw [← hE]; rfl)
      rw [hE] at hmid
      rw [htl, ← hts] at hset
      have hpl : (partB V [0, 0] (V.slots.take i)).length = 512 := partB_len rfl (by rw [htl]; omega)
      have hmc : cpB (partB V [0, 0] (V.slots.take i)) r E r.length = midB V [0, 0] (V.slots.take i) r := by rw [cpB, List.take_of_length_le (Nat.le_refl _), hmid]
      have hm0 : cpB (partB V [0, 0] (V.slots.take i)) r E 0 = partB V [0, 0] (V.slots.take i) := by rw [cpB, List.take_zero, List.nil_append, Nat.add_zero, List.take_append_drop]
      clear hmid
      generalize midB V [0, 0] (V.slots.take i) r = M at hmc hmidl hset
      rw [← hm0] at hr3
      generalize partB V [0, 0] (V.slots.take i) = D at hmc hm0 hpl hr3
      refine W_skip ?_
      refine thenN ?_
      refine W_seq ?_
      refine W_region ?_
      refine WR_val rfl (rn_move) ?_
      refine WR_val rfl (rn_fieldAddr (off := 2) (by kernel_rfl) rfl) ?_
      refine WR_val rfl (rn_load rfl (Ld.row1 hr1 (by kernel_rfl) rfl)) ?_
      refine WR_val rfl (rn_move) ?_
      refine WR_val rfl (rn_indexSl (e := 69) (sz := 2) (by kernel_rfl) rfl rfl (i) (by omega) (by omega)) ?_
      refine WR_val rfl (rn_fieldAddr (off := 1) (by kernel_rfl) rfl) ?_
      refine WR_val rfl (rn_load rfl (Ld.sl1 (off := off) (j := i * 2 + 1) (h.below hB (Nat.le_refl _)) (by kernel_rfl) hv)) ?_
      refine WR_val rfl (rn_lenSl (e := 5) (sz := 1) (by kernel_rfl) rfl rfl) ?_
      refine WR_val rfl (rn_sub rfl rfl (Coup.w64 (by omega))) ?_
      refine WR_val rfl (rn_assign) ?_
      refine WR_nil ?_
      refine thenN ?_
      refine W_seq ?_
      refine W_seq ?_
      refine W_region ?_
      refine WR_val rfl (rn_assign) ?_
      refine WR_nil ?_
      refine thenN ?_
      refine W_block ?_
      refine W_loop (α := Nat) 0 (fun k => [(6, .int .i64 (k : Nat)), (5, .int .i64 (i : Nat)), (4, .int .i64 (E : Nat)), (1, .pointer (some ⟨g1, 0, none⟩)), (2, .pointer (some ⟨g2, 0, none⟩)), (3, .pointer (some ⟨g3, 0, none⟩))])
        (fun k w' => k ≤ r.length ∧ row w' g1 [.int .i64 (V.kind : Int), .int .i64 (V.next : Int), .slice (some ⟨g, off, none⟩) V.slots.length c] 57 ∧ row w' g2 (bv Z) 23 ∧ row w' g3 (bv (cpB D r E k)) 23 ∧ Below w.heap.size w w') (fun k => r.length - k)
        ⟨rfl, rfl, vi (by omega), rfl, rfl, rfl, rfl⟩ ⟨Nat.zero_le _, hr1, hr2, hr3, hB⟩ ?_
      clear hr1 hr2 hr3 hB
      rintro k f2 wz ⟨hkr, hr1, hr2, hr3, hB⟩
      have hcl := cpB_len (L := D) (r := r) (E := E) (k := k) (by omega) hkr
      refine W_seq ?_
      refine W_seq ?_
      refine W_region ?_
      refine WR_val rfl (rn_move) ?_
      refine WR_val rfl (rn_fieldAddr (off := 2) (by kernel_rfl) rfl) ?_
      refine WR_val rfl (rn_load rfl (Ld.row1 hr1 (by kernel_rfl) rfl)) ?_
      refine WR_val rfl (rn_move) ?_
      refine WR_val rfl (rn_indexSl (e := 69) (sz := 2) (by kernel_rfl) rfl rfl (i) (by omega) (by omega)) ?_
      refine WR_val rfl (rn_fieldAddr (off := 1) (by kernel_rfl) rfl) ?_
      refine WR_val rfl (rn_load rfl (Ld.sl1 (off := off) (j := i * 2 + 1) (h.below hB (Nat.le_refl _)) (by kernel_rfl) hv)) ?_
      refine WR_val rfl (rn_lenSl (e := 5) (sz := 1) (by kernel_rfl) rfl rfl) ?_
      refine WR_val rfl (rn_lss rfl rfl) ?_
      refine WR_nil ?_
      refine thenN ?_
      refine W_ifp rfl (fun hlk => ?_) (fun hlk => ?_)
      ·
        refine W_skip ?_
        refine thenN ?_
        refine W_seq ?_
        refine W_block ?_
        have hqs := hq.some (by omega)
        obtain ⟨gq, oq, rfl, hgq⟩ := hqs
        have hobt : ∃ b, r[k]? = some b := ⟨_, List.getElem?_eq_getElem (by omega)⟩
        obtain ⟨b, hb⟩ := hobt
        refine W_region ?_
        refine WR_val rfl (rn_move) ?_
        refine WR_val rfl (rn_move) ?_
        refine WR_val rfl (rn_add rfl rfl (Coup.w64 (by omega))) ?_
        refine WR_val rfl (rn_fieldAddr (off := 2) (by kernel_rfl) rfl) ?_
        refine WR_val rfl (rn_load rfl (Ld.row1 hr1 (by kernel_rfl) rfl)) ?_
        refine WR_val rfl (rn_move) ?_
        refine WR_val rfl (rn_indexSl (e := 69) (sz := 2) (by kernel_rfl) rfl rfl (i) (by omega) (by omega)) ?_
        refine WR_val rfl (rn_fieldAddr (off := 1) (by kernel_rfl) rfl) ?_
        refine WR_val rfl (rn_load rfl (Ld.sl1 (off := off) (j := i * 2 + 1) (h.below hB (Nat.le_refl _)) (by kernel_rfl) hv)) ?_
        refine WR_val rfl (rn_move) ?_
        refine WR_val rfl (rn_indexSl1 (e := 5) (by kernel_rfl) rfl rfl (k) (by omega) (by omega)) ?_
        refine WR_val rfl (rn_load rfl (Ld.sl1 (hq.below hB (Nat.le_refl _)) (by kernel_rfl) (show (bv r)[k]? = some (.int .u8 (b.toNat : Int)) by rw [bv, List.getElem?_map, hb]; rfl))) ?_
        refine WR_val rfl (rn_indexAr1 (e := 5) (m := 512) (by kernel_rfl) rfl rfl (E + k) (by omega) (by omega)) ?_
        refine WR_sk rfl (sk_store1 rfl rfl rfl rfl hr3 (by kernel_rfl) (by first | (simp only [List.length_replicate]; omega) | (simp only [iv_length]; omega) | (simp only [bv_length, List.length_set]; omega) | simp) (fun w902 hr3 ho902 => ?_))
        replace hr1 := hr1.only ho902 (Nat.ne_of_lt lt_g1_g3)
        replace hr2 := hr2.only ho902 (Nat.ne_of_lt lt_g2_g3)
        replace hB := ho902.below hB ge_hB_g3
        replace hr3 : row w902 g3 ((bv (cpB D r E k)).set (E + k) (.int .u8 (b.toNat : Int))) 23 := row_z hr3
        rw [bv_splice1 (by omega), cpB_set (by omega) hb] at hr3
        refine WR_nil ?_
        refine blockN ?_
        refine thenN ?_
        refine W_region ?_
        refine WR_val rfl (rn_move) ?_
        refine WR_val rfl (rn_add rfl rfl (Coup.w64 (by omega))) ?_
        refine WR_val rfl (rn_assign) ?_
        refine WR_nil ?_
        refine loopN ⟨k + 1, by omega, ⟨by go_num, rfl, rfl, rfl, rfl, rfl, rfl⟩, by omega, hr1, hr2, hr3, hB⟩
      ·
        obtain rfl : k = r.length := by omega
        rw [hmc] at hr3
        refine W_exit ?_
        refine thenX ?_
        refine loopX ?_
        refine blockX ?_
        refine thenN ?_
        refine W_seq ?_
        refine W_region ?_
        refine WR_val rfl (rn_move) ?_
        refine WR_val rfl (rn_mul rfl rfl (Coup.w64 (by omega))) ?_
        refine WR_val rfl (rn_add rfl rfl (Coup.w64 (by omega))) ?_
        refine WR_val rfl (rn_move) ?_
        refine WR_ent rfl (rn_call (by kernel_rfl) rfl) (set40 M g3 _ _ (12 + 4 * i) E wz hr3 hmidl (by omega) (by omega) rfl (by omega)) ?_
        rintro _ w74 ⟨hr3, hb74⟩
        replace hr1 := hr1.kpd hb74 (by first | (simp; done) | (simp; omega))
        replace hr2 := hr2.kpd hb74 (by first | (simp; done) | (simp; omega))
        replace hB := hB.kpd hb74 (by first | (simp; done) | (simp; omega))
        refine WR_nil ?_
        refine thenN ?_
        refine W_region ?_
        refine WR_val rfl (rn_move) ?_
        refine WR_val rfl (rn_mul rfl rfl (Coup.w64 (by omega))) ?_
        refine WR_val rfl (rn_add rfl rfl (Coup.w64 (by omega))) ?_
        refine WR_val rfl (rn_fieldAddr (off := 2) (by kernel_rfl) rfl) ?_
        refine WR_val rfl (rn_load rfl (Ld.row1 hr1 (by kernel_rfl) rfl)) ?_
        refine WR_val rfl (rn_move) ?_
        refine WR_val rfl (rn_indexSl (e := 69) (sz := 2) (by kernel_rfl) rfl rfl (i) (by omega) (by omega)) ?_
        refine WR_val rfl (rn_fieldAddr (off := 1) (by kernel_rfl) rfl) ?_
        refine WR_val rfl (rn_load rfl (Ld.sl1 (off := off) (j := i * 2 + 1) (h.below hB (Nat.le_refl _)) (by kernel_rfl) hv)) ?_
        refine WR_val rfl (rn_lenSl (e := 5) (sz := 1) (by kernel_rfl) rfl rfl) ?_
        refine WR_ent rfl (rn_call (by kernel_rfl) rfl) (set40 _ g3 _ _ (12 + 4 * i + 2) r.length w74 hr3 (by rw [set2_len]; exact hmidl) (by omega) (by omega) rfl (by omega)) ?_
        rintro _ w85 ⟨hr3, hb85⟩
        replace hr1 := hr1.kpd hb85 (by first | (simp; done) | (simp; omega))
        replace hr2 := hr2.kpd hb85 (by first | (simp; done) | (simp; omega))
        replace hB := hB.kpd hb85 (by first | (simp; done) | (simp; omega))
        replace hr3 : row w85 g3 (bv (((((M.set (12 + 4 * i) (u8 (E / 256))).set (12 + 4 * i + 1) (u8 (E % 256))).set (12 + 4 * i + 2) (u8 (r.length / 256))).set (12 + 4 * i + 3) (u8 (r.length % 256))))) 23 := hr3
        rw [hset] at hr3
        refine WR_nil ?_
        refine blockN ?_
        refine thenN ?_
        refine W_region ?_
        refine WR_val rfl (rn_move) ?_
        refine WR_val rfl (rn_add rfl rfl (Coup.w64 (by omega))) ?_
        refine WR_val rfl (rn_assign) ?_
        refine WR_nil ?_
        refine loopN ⟨i + 1, by omega, ⟨by go_num, vi (by omega), rfl, rfl, rfl, rfl⟩, by omega, hr1, hr2, hr3, hB⟩
  ·
    obtain rfl : i = V.slots.length := by omega
    rw [List.take_of_length_le (Nat.le_refl _)] at hr3 ⊢
    have hpl : (partB V [0, 0] V.slots).length = 512 := partB_len rfl (by omega)
    have hend : set2 (partB V [0, 0] V.slots) 4 (512 - lenS V.slots) = bytesV V := partB_end V V.slots (u8 ((512 - lenS V.slots) / 256)) (u8 ((512 - lenS V.slots) % 256))
    have hbl : (bv (bytesV V)).length = 512 := by rw [bv_length]; exact partB_len rfl (by omega)
    generalize bytesV V = Q at hend hbl ⊢
    generalize partB V [0, 0] V.slots = M at hend hpl hr3
    refine W_exit ?_
    refine thenX ?_
    refine loopX ?_
    refine blockX ?_
    refine thenN ?_
    refine W_seq ?_
    refine W_region ?_
    refine WR_val rfl (rn_move) ?_
    refine WR_ent rfl (rn_call (by kernel_rfl) rfl) (set40 M g3 _ _ 4 (512 - lenS V.slots) wr hr3 hpl (by omega) rfl rfl (by omega)) ?_
    rintro _ w87 ⟨hr3, hb87⟩
    replace hr1 := hr1.kpd hb87 (by first | (simp; done) | (simp; omega))
    replace hr2 := hr2.kpd hb87 (by first | (simp; done) | (simp; omega))
    replace hB := hB.kpd hb87 (by first | (simp; done) | (simp; omega))
    rw [hend] at hr3
    refine WR_nil ?_
    refine thenN ?_
    refine W_seq ?_
    refine W_region ?_
    refine WR_val rfl (rn_load rfl (Ld.rowA (k := 512) hr3 (by kernel_rfl) (by kernel_rfl) (by first | (simp; done) | (simp [bv_length, *]; done) | assumption))) ?_
    refine WR_sk rfl (sk_storeA 512 (bv Q) rfl rfl hr2 (by kernel_rfl) (by first | assumption | (simp; done) | (simp [bv_length, *]; done)) (by first | assumption | (simp; done) | (simp [bv_length, *]; done) | rfl) (by first | exact bv_one _ | assumption | (simp [Value.oneCell']; done)) (fun w903 hr2 ho903 => ?_))
    replace hr1 := hr1.only ho903 (Nat.ne_of_lt lt_g1_g2)
    replace hr3 := hr3.only ho903 (Nat.ne_of_gt lt_g2_g3)
    replace hB := ho903.below hB ge_hB_g2
    refine WR_nil ?_
    refine thenN ?_
    refine W_ret ?_
    refine ret_ret [_] ⟨⟨_, rfl, Ld.rowA (k := 512) hr2 (by kernel_rfl) (by kernel_rfl) (by first | (simp; done) | (simp [bv_length, *]; done) | assumption)⟩, trivial⟩ ?_
    exact ⟨rfl, hB⟩
end Go.Proofs.Ytjdcopfnhkfimaa
