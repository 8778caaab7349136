/- A disk: Read, Fuse, Dead, Open, settle. -/
import Derived.Test.YtpndhildmfmcgaaDiskB
namespace Go.Proofs.Ytpndhildmfmcgaa
open Go Go.RowKit Coup

theorem bv_zeroS : List.replicate 128 (Value.int .u8 0) = bv zeroS := by
  rw [zeroS, bv, List.map_replicate]; rfl
theorem zeroSQ : ∃ Z, zeroS = Z ∧ List.replicate 128 (Value.int .u8 0) = bv Z ∧ (bv Z).length = 128 := ⟨_, rfl, bv_zeroS, by rw [bv_length, zeroS, List.length_replicate]⟩
def inD (D : Dk) (i : Int) : Bool := decide (0 ≤ i ∧ i < D.V.length)
theorem read23a {w : World} {g : Nat} {i : Int} {S Z : Sec} (hzb : List.replicate 128 (Value.int .u8 0) = bv Z) (hzl : (bv Z).length = 128) (hSl : (bv S).length = 128)
    (hA : ∀ w', Below w.heap.size w w' → Calls Try.prog 39 [.pointer (some ⟨g, 0, none⟩), .int .i64 i].toArray w' (Ret fun v w2 => v = .int .i64 0 ∧ w' = w2))
    (hN : ∀ w', Below w.heap.size w w' → Calls Try.prog 38 [.pointer (some ⟨g, 0, none⟩), .int .i64 i].toArray w' (Ret fun v w2 => v = .agg (bv S).toArray ∧ Below w'.heap.size w' w2)) :
    Calls Try.prog 23 [.pointer (some ⟨g, 0, none⟩), .int .i64 i].toArray w (Ret fun v w' => v = .tuple #[.agg (bv S).toArray, .int .i64 0] ∧ Below w.heap.size w w') := by
  have hB := Below.refl w.heap.size w
  refine calls_W (fn := Try.f23) (rs := [.cell 4 34, .tmp 5]) (n := 17) Try.func23 rfl rfl Try.ntmps23 (by kernel_rfl) rfl ?_
  refine W_seq ?_
  refine W_region ?_
  refine WR_mk rfl (mk_alloc (List.replicate 128 (Value.int .u8 0)) (by kernel_rfl) (fun g4 w4 hg4 hr4 hb4 => ?_))
  have ge_hB_g4 := Nat.le_trans hB.size hg4
  replace hB := hB.acc hb4
  rw [hzb] at hr4
  refine WR_val rfl (rn_assign) ?_
  refine WR_nil ?_
  refine thenN ?_
  refine W_seq ?_
  refine W_seq ?_
  refine W_region ?_
  refine WR_val rfl (rn_move) ?_
  refine WR_val rfl (rn_move) ?_
  refine WR_ent rfl (rn_call (by kernel_rfl) rfl) (hA w4 hB) ?_
  rintro _ _ ⟨rfl, rfl⟩
  refine WR_val rfl (rn_assign) ?_
  refine WR_nil ?_
  refine thenN ?_
  refine W_seq ?_
  refine W_region ?_
  refine WR_val rfl (rn_move) ?_
  refine WR_val rfl (rn_neq rfl rfl) ?_
  refine WR_nil ?_
  refine thenN ?_
  refine W_fp rfl ((by omega)) ?_
  refine W_skip ?_
  refine thenN ?_
  refine W_seq ?_
  refine W_region ?_
  refine WR_val rfl (rn_move) ?_
  refine WR_val rfl (rn_move) ?_
  refine WR_ent rfl (rn_call (by kernel_rfl) rfl) (hN w4 hB) ?_
  rintro _ w16 ⟨rfl, hb16⟩
  replace hr4 := hr4.new hb16
  replace hB := hB.acc hb16
  refine WR_sk rfl (sk_storeA 128 (bv S) rfl rfl hr4 (by kernel_rfl) (by first | assumption | (simp; done) | (simp [bv_length, *]; done)) (by first | assumption | (simp; done) | (simp [bv_length, *]; done) | rfl) (by first | exact bv_one _ | assumption | (simp [Value.oneCell']; done)) (fun w901 hr4 ho901 => ?_))
  replace hB := ho901.below hB ge_hB_g4
  refine WR_val rfl (rn_assign) ?_
  refine WR_nil ?_
  refine thenN ?_
  refine W_ret ?_
  refine ret_ret [_, _] ⟨⟨_, rfl, Ld.rowA (k := 128) hr4 (by kernel_rfl) (by kernel_rfl) (by first | (simp; done) | (simp [bv_length, *]; done) | assumption)⟩, rfl, trivial⟩ ?_
  exact ⟨rfl, hB⟩
theorem read23b {w : World} {g : Nat} {i : Int} {Z : Sec} (hzb : List.replicate 128 (Value.int .u8 0) = bv Z) (hzl : (bv Z).length = 128)
    (hA : ∀ w', Below w.heap.size w w' → Calls Try.prog 39 [.pointer (some ⟨g, 0, none⟩), .int .i64 i].toArray w' (Ret fun v w2 => v = .int .i64 2 ∧ w' = w2)) :
    Calls Try.prog 23 [.pointer (some ⟨g, 0, none⟩), .int .i64 i].toArray w (Ret fun v w' => v = .tuple #[.agg (bv Z).toArray, .int .i64 2] ∧ Below w.heap.size w w') := by
  have hB := Below.refl w.heap.size w
  refine calls_W (fn := Try.f23) (rs := [.cell 4 34, .tmp 5]) (n := 17) Try.func23 rfl rfl Try.ntmps23 (by kernel_rfl) rfl ?_
  refine W_seq ?_
  refine W_region ?_
  refine WR_mk rfl (mk_alloc (List.replicate 128 (Value.int .u8 0)) (by kernel_rfl) (fun g4 w4 hg4 hr4 hb4 => ?_))
  have ge_hB_g4 := Nat.le_trans hB.size hg4
  replace hB := hB.acc hb4
  rw [hzb] at hr4
  refine WR_val rfl (rn_assign) ?_
  refine WR_nil ?_
  refine thenN ?_
  refine W_seq ?_
  refine W_seq ?_
  refine W_region ?_
  refine WR_val rfl (rn_move) ?_
  refine WR_val rfl (rn_move) ?_
  refine WR_ent rfl (rn_call (by kernel_rfl) rfl) (hA w4 hB) ?_
  rintro _ _ ⟨rfl, rfl⟩
  refine WR_val rfl (rn_assign) ?_
  refine WR_nil ?_
  refine thenN ?_
  refine W_seq ?_
  refine W_region ?_
  refine WR_val rfl (rn_move) ?_
  refine WR_val rfl (rn_neq rfl rfl) ?_
  refine WR_nil ?_
  refine thenN ?_
  refine W_tp rfl ((by omega)) ?_
  refine W_seq ?_
  refine W_region ?_
  refine WR_val rfl (rn_zeroed (bv Z) (by rw [← hzb]; kernel_rfl)) ?_
  refine WR_val rfl (rn_move) ?_
  refine WR_sk rfl (sk_storeA 128 (bv Z) rfl rfl hr4 (by kernel_rfl) (by first | assumption | (simp; done) | (simp [bv_length, *]; done)) (by first | assumption | (simp; done) | (simp [bv_length, *]; done) | rfl) (by first | exact bv_one _ | assumption | (simp [Value.oneCell']; done)) (fun w901 hr4 ho901 => ?_))
  replace hB := ho901.below hB ge_hB_g4
  refine WR_val rfl (rn_assign) ?_
  refine WR_nil ?_
  refine thenN ?_
  refine W_ret ?_
  refine thenR ?_
  refine ret_ret [_, _] ⟨⟨_, rfl, Ld.rowA (k := 128) hr4 (by kernel_rfl) (by kernel_rfl) (by first | (simp; done) | (simp [bv_length, *]; done) | assumption)⟩, rfl, trivial⟩ ?_
  exact ⟨rfl, hB⟩
theorem read23 {w : World} {g pl m : Nat} {G : List Nat} {D : Dk} {ol cl : Nat} {st : Int} {fu : Bool} {sv : Nat → Value} (h : DkM w g pl m G D ol cl st fu sv) (i : Int) :
    Calls Try.prog 23 [.pointer (some ⟨g, 0, none⟩), .int .i64 i].toArray w (Ret fun v w' => v = .tuple #[.agg (bv (if inD D i then readD D i.toNat else zeroS)).toArray, .int .i64 (if inD D i then 0 else 2)] ∧ Below w.heap.size w w') := by
  have hB := Below.refl w.heap.size w
  obtain ⟨Z, hzz, hzb, hzl⟩ := zeroSQ
  rw [hzz]
  by_cases hi : 0 ≤ i ∧ i < D.V.length
  · obtain ⟨k, rfl⟩ : ∃ k : Nat, i = k := ⟨i.toNat, by omega⟩
    have hin : inD D (k : Int) = true := decide_eq_true hi
    rw [hin, if_pos rfl, if_pos rfl, Int.toNat_natCast]
    have hv := ver_ok h.ok (i := k) (by omega)
    have hSl : (bv (readD D k)).length = 128 := by rw [bv_length]; exact lastS_ok hv.2.1
    have hA := fun w' (hb : Below w.heap.size w w') => at39 (h.new hb) (k : Int)
    have hN := fun w' (hb : Below w.heap.size w w') => now38 (h.new hb) k (by omega)
    rw [if_pos hi] at hA
    generalize readD D k = S at hN hSl ⊢
    exact read23a hzb hzl hSl hA hN
  · have hin : inD D i = false := decide_eq_false hi
    rw [hin]
    have hA := fun w' (hb : Below w.heap.size w w') => at39 (h.new hb) i
    rw [if_neg hi] at hA
    exact read23b hzb hzl hA
theorem dead18 {w : World} {g pl m : Nat} {G : List Nat} {D : Dk} {ol cl : Nat} {st : Int} {fu : Bool} {sv : Nat → Value} (h : DkM w g pl m G D ol cl st fu sv) :
    Calls Try.prog 18 [.pointer (some ⟨g, 0, none⟩)].toArray w (Ret fun v w' => v = .bool D.dead ∧ w = w') := by
  have hr := h.row
  refine calls_W (fn := Try.f18) (rs := [.tmp 2]) (n := 11) Try.func18 rfl rfl Try.ntmps18 (by kernel_rfl) rfl ?_
  refine W_seq ?_
  refine W_region ?_
  refine WR_val rfl (rn_assign) ?_
  refine WR_nil ?_
  refine thenN ?_
  refine W_seq ?_
  refine W_region ?_
  refine WR_val rfl (rn_move) ?_
  refine WR_val rfl (rn_neqP1 (by kernel_rfl) rfl rfl) ?_
  refine WR_val rfl (rn_move) ?_
  refine WR_tb 5 rfl (rfl) ?_
  refine WR_yes rfl ?_
  refine WR_val rfl (rn_move) ?_
  refine WR_yes rfl ?_
  refine WR_val rfl (rn_nilCheckP rfl) ?_
  refine WR_yes rfl ?_
  refine WR_val rfl (rn_fieldAddr (off := 4) (by kernel_rfl) rfl) ?_
  refine WR_yes rfl ?_
  refine WR_val rfl (rn_load rfl (Ld.row1 hr (by kernel_rfl) rfl)) ?_
  refine WR_val rfl (rn_pick_t rfl) ?_
  refine WR_val rfl (rn_assign) ?_
  refine WR_nil ?_
  refine thenN ?_
  refine W_ret ?_
  refine ret_ret [_] ⟨rfl, trivial⟩ ?_
  exact ⟨rfl, rfl⟩
theorem fuse15 {w : World} {g pl m : Nat} {G : List Nat} {D : Dk} {ol cl : Nat} {st : Int} {fu : Bool} {sv : Nat → Value} (h : DkM w g pl m G D ol cl st fu sv) (k : Int) (hk : k ≤ 9223372036854775807) :
    Calls Try.prog 15 [.pointer (some ⟨g, 0, none⟩), .int .i64 k].toArray w (Ret fun v w' => v = .int .i64 (if 0 ≤ k then 0 else 2) ∧ (∃ st' fu', DkM w' g pl m G (if 0 ≤ k then { D with left := k } else D) ol cl st' fu' sv) ∧ Only g w w') := by
  have hr := h.row
  have hS := sectors27 h
  have hp := h.pos
  refine calls_W (fn := Try.f15) (rs := [.tmp 4]) (n := 19) Try.func15 rfl rfl Try.ntmps15 (by kernel_rfl) rfl ?_
  refine W_seq ?_
  refine W_region ?_
  refine WR_val rfl (rn_assign) ?_
  refine WR_nil ?_
  refine thenN ?_
  refine W_seq ?_
  refine W_block ?_
  refine W_seq ?_
  refine W_region ?_
  refine WR_val rfl (rn_move) ?_
  refine WR_ent rfl (rn_call (by kernel_rfl) rfl) (hS) ?_
  rintro _ _ ⟨rfl, rfl⟩
  refine WR_val rfl (rn_eql rfl rfl) ?_
  refine WR_val rfl (rn_assign) ?_
  refine WR_nil ?_
  refine thenN ?_
  refine W_fp rfl ((by omega)) ?_
  refine W_seq ?_
  refine W_region ?_
  refine WR_val rfl (rn_move) ?_
  refine WR_val rfl (rn_lss rfl rfl) ?_
  refine WR_val rfl (rn_assign) ?_
  refine WR_nil ?_
  refine thenN ?_
  refine W_ifp rfl (fun h0 => ?_) (fun h0 => ?_)
  ·
    refine W_seq ?_
    refine W_region ?_
    refine WR_val rfl (rn_assign) ?_
    refine WR_nil ?_
    refine thenN ?_
    refine W_ret ?_
    refine blockR ?_
    refine thenR ?_
    refine ret_ret [_] ⟨rfl, trivial⟩ ?_
    refine ⟨by rw [if_neg (by omega)]; rfl, ⟨st, fu, ?_⟩, Only.refl _ _⟩
    rw [if_neg (by omega)]
    exact h
  ·
    refine W_skip ?_
    refine blockN ?_
    refine thenN ?_
    refine W_seq ?_
    refine W_region ?_
    refine WR_val rfl (rn_move) ?_
    refine WR_val rfl (rn_move) ?_
    refine WR_val rfl (rn_move) ?_
    refine WR_val rfl (rn_nilCheckP rfl) ?_
    refine WR_val rfl (rn_fieldAddr (off := 2) (by kernel_rfl) rfl) ?_
    refine WR_sk rfl (sk_store1 rfl rfl rfl rfl hr (by kernel_rfl) (by first | (simp only [List.length_replicate]; omega) | (simp only [iv_length]; omega) | (simp only [bv_length, List.length_set]; omega) | simp) (fun w901 hr ho901 => ?_))
    have ho1 := ho901
    refine WR_val rfl (rn_nilCheckP rfl) ?_
    refine WR_val rfl (rn_fieldAddr (off := 3) (by kernel_rfl) rfl) ?_
    refine WR_sk rfl (sk_store1 rfl rfl rfl rfl hr (by kernel_rfl) (by first | (simp only [List.length_replicate]; omega) | (simp only [iv_length]; omega) | (simp only [bv_length, List.length_set]; omega) | simp) (fun w902 hr ho902 => ?_))
    refine WR_nil ?_
    refine thenN ?_
    refine W_seq ?_
    refine W_region ?_
    refine WR_val rfl (rn_assign) ?_
    refine WR_nil ?_
    refine thenN ?_
    refine W_ret ?_
    refine ret_ret [_] ⟨rfl, trivial⟩ ?_
    have ho2 := Only.trans ho1 ho902
    have ht := h.turn ho2 (left' := k) (dead' := D.dead) (fu' := true) hr ⟨by omega, hk, rfl⟩
    refine ⟨by rw [if_pos (by omega)]; rfl, ⟨k, true, ?_⟩, ho2⟩
    rw [if_pos (by omega)]
    exact ht
/-! ### Open -/
theorem keysOf_since (D : Dk) (sv : Nat → Value) : ∀ (m a : Nat), keysOf (since D sv) a m = ((List.range' a m).filter (openB D)).map (fun i : Nat => (i : Int))
  | 0, a => rfl
  | m + 1, a => by
    have ih := keysOf_since D sv m (a + 1)
    rw [keysOf, List.range'_succ]
    by_cases h : openB D a = true
    · rw [if_pos (by unfold since; rw [if_pos h]; rfl), ih, List.filter_cons_of_pos h]; rfl
    · rw [if_neg (by unfold since; rw [if_neg h]; simp), ih, List.filter_cons_of_neg h]
theorem keysOf_opN (D : Dk) (sv : Nat → Value) : keysOf (since D sv) 0 D.V.length = (opN D).map (fun i : Nat => (i : Int)) := by
  rw [keysOf_since, opN, List.range_eq_range']
def opI (D : Dk) : List Int := (opN D).map (fun i : Nat => (i : Int))
theorem open22 {w : World} {g pl m : Nat} {G : List Nat} {D : Dk} {ol cl : Nat} {st : Int} {fu : Bool} {sv : Nat → Value} (h : DkM w g pl m G D ol cl st fu sv) :
    Calls Try.prog 22 [.pointer (some ⟨g, 0, none⟩)].toArray w (Ret fun v w' => ∃ p c, v = .slice p (opI D).length c ∧ SlAt w' p (opI D).length 1 (iv (opI D)) ∧ (∀ b o, p = some ⟨b, o, none⟩ → w.heap.size ≤ b) ∧ Below w.heap.size w w') := by
  have hB := Below.refl w.heap.size w
  have hr := h.row
  have hn8 := h.ok.n
  have hmap := h.map
  have hko := keysOf_opN D sv
  have hS := fun w' W hW (h' : MapAt Try.prog 3 w' m D.V.length (since D sv)) => sortedC w' W hW h' (by omega)
  rw [hko] at hS
  change ∀ w' (W : World) hW h', Calls _ _ _ _ (Ret fun v w2 => ∃ p c, v = .slice p (opI D).length c ∧ SlAt w2 p (opI D).length 1 (iv (opI D)) ∧ (∀ b o, p = some ⟨b, o, none⟩ → W.heap.size ≤ b) ∧ Below _ _ _) at hS
  refine calls_W (fn := Try.f22) (rs := [.tmp 2]) (n := 11) Try.func22 rfl rfl Try.ntmps22 (by kernel_rfl) rfl ?_
  refine W_seq ?_
  refine W_region ?_
  refine WR_val rfl (rn_assign) ?_
  refine WR_nil ?_
  refine thenN ?_
  refine W_seq ?_
  refine W_seq ?_
  refine W_region ?_
  refine WR_val rfl (rn_move) ?_
  refine WR_val rfl (rn_eqlP1 (by kernel_rfl) rfl rfl) ?_
  refine WR_nil ?_
  refine thenN ?_
  refine W_fb rfl (rfl) ?_
  refine W_skip ?_
  refine thenN ?_
  refine W_seq ?_
  refine W_region ?_
  refine WR_val rfl (rn_move) ?_
  refine WR_val rfl (rn_nilCheckP rfl) ?_
  refine WR_val rfl (rn_fieldAddr (off := 1) (by kernel_rfl) rfl) ?_
  refine WR_val rfl (rn_load rfl (Ld.row1 hr (by kernel_rfl) rfl)) ?_
  refine WR_ent rfl (rn_call (by kernel_rfl) rfl) (keysC (some m) w) ?_
  rintro _ w9 ⟨rfl, hkw, hb9⟩
  replace hr := hr.new hb9
  replace hB := hB.acc hb9
  have hsz := hB.size
  refine WR_ent rfl (rn_call (by kernel_rfl) rfl) (hS w w9 hkw hmap) ?_
  rintro _ w10 ⟨p, c, rfl, hsl, hpb, hb10⟩
  replace hr := hr.new hb10
  replace hB := hB.acc hb10
  refine WR_val rfl (rn_assign) ?_
  refine WR_nil ?_
  refine thenN ?_
  refine W_ret ?_
  refine ret_ret [_] ⟨rfl, trivial⟩ ?_
  exact ⟨p, c, rfl, hsl, fun b o e => Nat.le_trans hsz (hpb b o e), hB⟩
end Go.Proofs.Ytpndhildmfmcgaa
