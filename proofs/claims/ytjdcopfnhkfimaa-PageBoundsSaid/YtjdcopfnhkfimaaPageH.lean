/- What is told of a page, and done to it. -/
import Derived.Test.YtjdcopfnhkfimaaPageG
namespace Go.Proofs.Ytjdcopfnhkfimaa
open Go Go.RowKit Coup

def withP (V : View) (i : Nat) (r : List UInt8) : List UInt8 := if 512 < sizeV (withV V i r) then zeroP else bytesV (withV V i r)
def withE (V : View) (i : Nat) (r : List UInt8) : Nat := if 512 < sizeV (withV V i r) then 8 else 0
theorem withP_len (V : View) (i : Nat) (r : List UInt8) : (bv (withP V i r)).length = 512 := by
  unfold withP
  split
  · exact zeroP_len
  · rw [bv_length]; exact bytesV_len _ (by omega)
theorem with24' (V : View) (p pr : Option Addr) (c cr i B : Nat) (vs : List Value) (r : List UInt8) (w : World) (hown : ownsAt w B 29 1 (.slice p V.slots.length c) V.slots.length vs) (hs : SltsAt w B (Value.ownBlock (.slice p V.slots.length c)).toList vs V.slots)
    (hBw : B ≤ w.heap.size) (hr : ∀ w', Below B w w' → SlAt w' pr r.length 1 (bv r)) (hi : i ≤ V.slots.length) (hr4 : r.length ≤ 400) (hV : Good V) :
    Calls Try.prog 24 [viewV V p V.slots.length c, .int .i64 (i : Int), .slice pr r.length cr].toArray w
      (Ret fun v w' => v = .tuple #[.agg (bv (withP V i r)).toArray, .int .i64 (withE V i r : Nat)] ∧ Below B w w') := by
  have h := with24 V p pr c cr i B vs r w hown hs hBw hr hi hr4 hV.size (by have := hV.kind; omega) hV.next
  refine h.to fun v w' ⟨h1, h2⟩ => ⟨?_, h2⟩
  rw [h1, withP, withE]
  split <;> rfl
theorem bytes_len {V : View} (hV : Good V) : (bv (bytesV V)).length = 512 := by rw [bv_length]; exact bytesV_len V hV.size
def getR (S : List (Option (List UInt8))) (k : Int) : List UInt8 := if hasV S k then bod (S.getD k.toNat none) else []
set_option maxHeartbeats 1000000 in
theorem new7 (k : Int) (w : World) : Calls Try.prog 7 [.int .i64 k].toArray w (Ret fun v w' => v = (if 0 ≤ k ∧ k ≤ 4 then .tuple #[.agg (bv (bytesV ⟨k.toNat, 0, []⟩)).toArray, .int .i64 0] else .tuple #[.agg (bv zeroP).toArray, .int .i64 2]) ∧ Below w.heap.size w w') := by
  have hB := Below.refl w.heap.size w
  have hzl := zeroP_len
  refine calls_W (fn := Try.f7) (rs := [.cell 2 23, .tmp 3]) (n := 14) Try.func7 rfl rfl Try.ntmps7 (by kernel_rfl) rfl ?_
  refine W_seq ?_
  refine W_region ?_
  refine WR_mk rfl (mk_alloc (List.replicate 512 (Value.int .u8 0)) (by kernel_rfl) (fun g2 w2 hg2 hr2 hb2 => ?_))
  have ge_hB_g2 := Nat.le_trans hB.size hg2
  replace hB := hB.acc hb2
  rw [bv_zeroP] at hr2
  refine WR_val rfl (rn_assign) ?_
  refine WR_nil ?_
  refine thenN ?_
  refine W_seq ?_
  refine W_seq ?_
  refine W_region ?_
  refine WR_val rfl (rn_move) ?_
  refine WR_val rfl (rn_lss rfl rfl) ?_
  refine WR_val rfl (rn_move) ?_
  refine WR_part 6 rfl (fun h0 => ?_) (fun h0 => ?_)
  ·
    refine WR_no rfl rfl ?_
    refine WR_no rfl rfl ?_
    refine WR_val rfl (rn_pick_t rfl) ?_
    refine WR_nil ?_
    refine thenN ?_
    refine W_t rfl ?_
    refine W_seq ?_
    refine W_region ?_
    refine WR_val rfl (rn_zeroed (bv zeroP) (by rw [← bv_zeroP]; kernel_rfl)) ?_
    refine WR_sk rfl (sk_storeA 512 (bv zeroP) rfl rfl hr2 (by kernel_rfl) (by first | assumption | (simp; done) | (simp [bv_length, *]; done)) (by first | assumption | (simp; done) | (simp [bv_length, *]; done) | rfl) (by first | exact bv_one _ | assumption | (simp [Value.oneCell']; done)) (fun w901 hr2 ho901 => ?_))
    replace hB := ho901.below hB ge_hB_g2
    refine WR_val rfl (rn_assign) ?_
    refine WR_nil ?_
    refine thenN ?_
    refine W_ret ?_
    refine thenR ?_
    refine ret_ret [_, _] ⟨⟨_, rfl, Ld.rowA (k := 512) hr2 (by kernel_rfl) (by kernel_rfl) (by first | (simp; done) | (simp [bv_length, *]; done) | assumption)⟩, rfl, trivial⟩ ?_
    exact ⟨by rw [if_neg (by omega)]; rfl, hB⟩
  ·
    refine WR_yes rfl ?_
    refine WR_val rfl (rn_move) ?_
    refine WR_yes rfl ?_
    refine WR_val rfl (rn_gtr rfl rfl) ?_
    refine WR_val rfl (rn_pick_f rfl) ?_
    refine WR_nil ?_
    refine thenN ?_
    refine W_ifp rfl (fun h1 => ?_) (fun h1 => ?_)
    ·
      refine W_seq ?_
      refine W_region ?_
      refine WR_val rfl (rn_zeroed (bv zeroP) (by rw [← bv_zeroP]; kernel_rfl)) ?_
      refine WR_sk rfl (sk_storeA 512 (bv zeroP) rfl rfl hr2 (by kernel_rfl) (by first | assumption | (simp; done) | (simp [bv_length, *]; done)) (by first | assumption | (simp; done) | (simp [bv_length, *]; done) | rfl) (by first | exact bv_one _ | assumption | (simp [Value.oneCell']; done)) (fun w902 hr2 ho902 => ?_))
      replace hB := ho902.below hB ge_hB_g2
      refine WR_val rfl (rn_assign) ?_
      refine WR_nil ?_
      refine thenN ?_
      refine W_ret ?_
      refine thenR ?_
      refine ret_ret [_, _] ⟨⟨_, rfl, Ld.rowA (k := 512) hr2 (by kernel_rfl) (by kernel_rfl) (by first | (simp; done) | (simp [bv_length, *]; done) | assumption)⟩, rfl, trivial⟩ ?_
      exact ⟨by rw [if_neg (by omega)]; rfl, hB⟩
    ·
      obtain ⟨m, rfl⟩ : ∃ m : Nat, k = m := ⟨k.toNat, by omega⟩
      rw [Int.toNat_natCast, if_pos (by omega)]
      have hPg := fun w' => page21 ⟨m, 0, []⟩ none 0 [] w' 0 [] (SlAt.nil _ _ _) (SltsAt.nil _ _ _) (by show m < 256; omega) (by show 0 < 2147483648; omega) (by simp [sizeV, lenS])
      have hpl : (bv (bytesV ⟨m, 0, []⟩)).length = 512 := by rw [bv_length]; exact bytesV_len _ (by simp [sizeV, lenS])
      generalize bytesV ⟨m, 0, []⟩ = Q at hPg hpl ⊢
      refine W_skip ?_
      refine thenN ?_
      refine W_seq ?_
      refine W_region ?_
      refine WR_val rfl (rn_move) ?_
      refine WR_val rfl (rn_built1 (.int .i64 (m : Int)) [.int .i64 (m : Int), .int .i64 0, .slice none 0 0] rfl (by kernel_rfl)) ?_
      refine WR_ent rfl (rn_call (by kernel_rfl) rfl) (hPg w2) ?_
      rintro _ w13 ⟨rfl, hb13⟩
      replace hr2 := hr2.new hb13
      replace hB := hB.acc hb13
      refine WR_sk rfl (sk_storeA 512 (bv Q) rfl rfl hr2 (by kernel_rfl) (by first | assumption | (simp; done) | (simp [bv_length, *]; done)) (by first | assumption | (simp; done) | (simp [bv_length, *]; done) | rfl) (by first | exact bv_one _ | assumption | (simp [Value.oneCell']; done)) (fun w903 hr2 ho903 => ?_))
      replace hB := ho903.below hB ge_hB_g2
      refine WR_val rfl (rn_assign) ?_
      refine WR_nil ?_
      refine thenN ?_
      refine W_ret ?_
      refine ret_ret [_, _] ⟨⟨_, rfl, Ld.rowA (k := 512) hr2 (by kernel_rfl) (by kernel_rfl) (by first | (simp; done) | (simp [bv_length, *]; done) | assumption)⟩, rfl, trivial⟩ ?_
      exact ⟨rfl, hB⟩
abbrev vw (V : View) (p : Option Addr) (c : Nat) : List Value := [.int .i64 (V.kind : Int), .int .i64 (V.next : Int), .slice p V.slots.length c]
/-- A view's slots in memory, all its own, and not in the blocks of the list. -/
structure Vw (w : World) (lo : Nat) (av : List Nat) (p : Option Addr) (n c : Nat) (vs : List Value) (S : List (Option (List UInt8))) : Prop where
  own : ownsAt w lo 29 1 (.slice p n c) n vs
  slts : SltsAt w lo ((Value.ownBlock (.slice p n c)).toList ++ av) vs S
  ne : ∀ g, g ∈ av → Value.ownBlock (.slice p n c) ≠ some g
namespace Vw
variable {w w' : World} {lo : Nat} {av : List Nat} {p : Option Addr} {n c : Nat} {vs : List Value} {S : List (Option (List UInt8))}
theorem of (h : OwV w lo p n c vs S) : Vw w lo [] p n c vs S := ⟨h.1, by rw [List.append_nil]; exact h.2, fun g h => by simp at h⟩
theorem new (h : Vw w lo av p n c vs S) (hb : Below w.heap.size w w') : Vw w' lo av p n c vs S := ⟨h.own.new hb, h.slts.new hb, h.ne⟩
theorem kpd {M : List Nat} (h : Vw w lo av p n c vs S) (k : Kp M w w') (hM : ∀ g, g ∈ M → g ∈ av) : Vw w' lo av p n c vs S :=
  ⟨h.own.kpd k fun g hm => h.ne g (hM g hm), h.slts.kpd k fun g hm => Or.inr (List.mem_append_right _ (hM g hm)), h.ne⟩
theorem only {g : Nat} (h : Vw w lo av p n c vs S) (ho : Only g w w') (hg : g ∈ av) : Vw w' lo av p n c vs S := h.kpd (Kp.of_only ho) fun g' hm => by
  have : g' = g := by simpa using hm
  rw [this]; exact hg
theorem cons {g : Nat} (h : Vw w lo av p n c vs S) (hg : w.heap.size ≤ g) : Vw w lo (g :: av) p n c vs S := by
  refine ⟨h.own, h.slts.avoid fun g' hm => ?_, fun g' hm e => ?_⟩
  · rcases List.mem_append.1 hm with e | e
    · exact Or.inl (List.mem_append_left _ e)
    · rcases List.mem_cons.1 e with rfl | e
      · exact Or.inr (Or.inl hg)
      · exact Or.inl (List.mem_append_right _ e)
  · rcases List.mem_cons.1 hm with rfl | e'
    · have := (h.own.lt g' e).2; omega
    · exact h.ne g' e' e
theorem out (h : Vw w lo av p n c vs S) : SltsAt w lo (Value.ownBlock (.slice p n c)).toList vs S := h.slts.avoid fun g hm => Or.inl (List.mem_append_left _ hm)
theorem len (h : Vw w lo av p n c vs S) : vs.length = n := by have := h.own.1; omega
theorem some (h : Vw w lo av p n c vs S) (hn : 0 < n) : ∃ g o, p = Option.some ⟨g, o, none⟩ ∧ lo ≤ g ∧ g < w.heap.size := by
  obtain ⟨g, o, cc, e0, h1, h2, _⟩ := h.own.form' hn
  injection e0 with e1 e2 e3
  exact ⟨g, o, e1, h1, h2⟩
end Vw
theorem read22' (V : View) (w : World) (hV : Good V) :
    Calls Try.prog 22 [.agg (bv (bytesV V)).toArray].toArray w (Ret fun v w' => ∃ p c vs, v = .tuple #[viewV V p V.slots.length c, .bool true] ∧ Vw w' w.heap.size [] p V.slots.length c vs V.slots ∧ Below w.heap.size w w') :=
  (read22 V w hV).to fun v w' ⟨p, c, vs, h1, h2, h3⟩ => ⟨p, c, vs, h1, Vw.of h2, h3⟩
theorem kind19 (V : View) (w : World) (hV : Good V) : Calls Try.prog 19 [.agg (bv (bytesV V)).toArray].toArray w (Ret fun v w' => v = .int .i64 (V.kind : Int) ∧ Below w.heap.size w w') := by
  have hB := Below.refl w.heap.size w
  have hbl := bytes_len hV
  refine calls_W (fn := Try.f19) (rs := [.tmp 2]) (n := 12) Try.func19 rfl rfl Try.ntmps19 (by kernel_rfl) rfl ?_
  refine W_seq ?_
  refine W_region ?_
  refine WR_mk rfl (mk_box ((bv (bytesV V))) rfl (fun g1 w1 hg1 hr1 hb1 => ?_))
  have ge_hB_g1 := Nat.le_trans hB.size hg1
  replace hB := hB.acc hb1
  refine WR_val rfl (rn_assign) ?_
  refine WR_nil ?_
  refine thenN ?_
  refine W_seq ?_
  refine W_region ?_
  refine WR_val rfl (rn_load rfl (Ld.rowA (k := 512) hr1 (by kernel_rfl) (by kernel_rfl) (by first | (simp; done) | (simp [bv_length, *]; done) | assumption))) ?_
  refine WR_ent rfl (rn_call (by kernel_rfl) rfl) (read22' V w1 hV) ?_
  rintro _ w7 ⟨p, c, vs, rfl, hv, hb7⟩
  replace hr1 := hr1.new hb7
  replace hB := hB.acc hb7
  refine WR_val rfl (rn_move) ?_
  refine WR_val rfl (rn_extract rfl rfl) ?_
  refine WR_val rfl (rn_extract rfl rfl) ?_
  have hv0 := hv
  refine WR_mk rfl (mk_alloc ([Value.int .i64 0, Value.int .i64 0, Value.slice none 0 0]) (by kernel_rfl) (fun g3 w3 hg3 hr3 hb3 => ?_))
  have ge_hB_g3 := Nat.le_trans hB.size hg3
  have lt_g1_g3 : g1 < g3 := Nat.lt_of_lt_of_le hr1.lt hg3
  replace hr1 := hr1.new hb3
  replace hv := hv.new hb3
  replace hB := hB.acc hb3
  replace hv := (hv0.cons hg3).new hb3
  refine WR_sk rfl (sk_storeA 3 (vw V p c) rfl rfl hr3 (by kernel_rfl) (by first | assumption | (simp; done) | (simp [bv_length, *]; done)) (by first | assumption | (simp; done) | (simp [bv_length, *]; done) | rfl) (by first | exact bv_one _ | assumption | (simp [Value.oneCell']; done)) (fun w901 hr3 ho901 => ?_))
  replace hr1 := hr1.only ho901 (Nat.ne_of_lt lt_g1_g3)
  replace hv := hv.only ho901 (by simp)
  replace hB := ho901.below hB ge_hB_g3
  refine WR_val rfl (rn_assign) ?_
  refine WR_nil ?_
  refine thenN ?_
  refine W_seq ?_
  refine W_region ?_
  refine WR_val rfl (rn_fieldAddr (off := 0) (by kernel_rfl) rfl) ?_
  refine WR_val rfl (rn_load rfl (Ld.row1 hr3 (by kernel_rfl) rfl)) ?_
  refine WR_val rfl (rn_assign) ?_
  refine WR_nil ?_
  refine thenN ?_
  refine W_ret ?_
  refine ret_ret [_] ⟨rfl, trivial⟩ ?_
  exact ⟨rfl, hB⟩
theorem next20 (V : View) (w : World) (hV : Good V) : Calls Try.prog 20 [.agg (bv (bytesV V)).toArray].toArray w (Ret fun v w' => v = .int .i64 (V.next : Int) ∧ Below w.heap.size w w') := by
  have hB := Below.refl w.heap.size w
  have hbl := bytes_len hV
  refine calls_W (fn := Try.f20) (rs := [.tmp 2]) (n := 12) Try.func20 rfl rfl Try.ntmps20 (by kernel_rfl) rfl ?_
  refine W_seq ?_
  refine W_region ?_
  refine WR_mk rfl (mk_box ((bv (bytesV V))) rfl (fun g1 w1 hg1 hr1 hb1 => ?_))
  have ge_hB_g1 := Nat.le_trans hB.size hg1
  replace hB := hB.acc hb1
  refine WR_val rfl (rn_assign) ?_
  refine WR_nil ?_
  refine thenN ?_
  refine W_seq ?_
  refine W_region ?_
  refine WR_val rfl (rn_load rfl (Ld.rowA (k := 512) hr1 (by kernel_rfl) (by kernel_rfl) (by first | (simp; done) | (simp [bv_length, *]; done) | assumption))) ?_
  refine WR_ent rfl (rn_call (by kernel_rfl) rfl) (read22' V w1 hV) ?_
  rintro _ w7 ⟨p, c, vs, rfl, hv, hb7⟩
  replace hr1 := hr1.new hb7
  replace hB := hB.acc hb7
  refine WR_val rfl (rn_move) ?_
  refine WR_val rfl (rn_extract rfl rfl) ?_
  refine WR_val rfl (rn_extract rfl rfl) ?_
  have hv0 := hv
  refine WR_mk rfl (mk_alloc ([Value.int .i64 0, Value.int .i64 0, Value.slice none 0 0]) (by kernel_rfl) (fun g3 w3 hg3 hr3 hb3 => ?_))
  have ge_hB_g3 := Nat.le_trans hB.size hg3
  have lt_g1_g3 : g1 < g3 := Nat.lt_of_lt_of_le hr1.lt hg3
  replace hr1 := hr1.new hb3
  replace hv := hv.new hb3
  replace hB := hB.acc hb3
  replace hv := (hv0.cons hg3).new hb3
  refine WR_sk rfl (sk_storeA 3 (vw V p c) rfl rfl hr3 (by kernel_rfl) (by first | assumption | (simp; done) | (simp [bv_length, *]; done)) (by first | assumption | (simp; done) | (simp [bv_length, *]; done) | rfl) (by first | exact bv_one _ | assumption | (simp [Value.oneCell']; done)) (fun w901 hr3 ho901 => ?_))
  replace hr1 := hr1.only ho901 (Nat.ne_of_lt lt_g1_g3)
  replace hv := hv.only ho901 (by simp)
  replace hB := ho901.below hB ge_hB_g3
  refine WR_val rfl (rn_assign) ?_
  refine WR_nil ?_
  refine thenN ?_
  refine W_seq ?_
  refine W_region ?_
  refine WR_val rfl (rn_fieldAddr (off := 1) (by kernel_rfl) rfl) ?_
  refine WR_val rfl (rn_load rfl (Ld.row1 hr3 (by kernel_rfl) rfl)) ?_
  refine WR_val rfl (rn_assign) ?_
  refine WR_nil ?_
  refine thenN ?_
  refine W_ret ?_
  refine ret_ret [_] ⟨rfl, trivial⟩ ?_
  exact ⟨rfl, hB⟩
theorem may18 (V : View) (w : World) (hV : Good V) : Calls Try.prog 18 [.agg (bv (bytesV V)).toArray].toArray w (Ret fun v w' => v = .bool true ∧ Below w.heap.size w w') := by
  have hB := Below.refl w.heap.size w
  have hbl := bytes_len hV
  refine calls_W (fn := Try.f18) (rs := [.tmp 2]) (n := 11) Try.func18 rfl rfl Try.ntmps18 (by kernel_rfl) rfl ?_
  refine W_seq ?_
  refine W_region ?_
  refine WR_mk rfl (mk_box ((bv (bytesV V))) rfl (fun g1 w1 hg1 hr1 hb1 => ?_))
  have ge_hB_g1 := Nat.le_trans hB.size hg1
  replace hB := hB.acc hb1
  refine WR_val rfl (rn_assign) ?_
  refine WR_nil ?_
  refine thenN ?_
  refine W_seq ?_
  refine W_region ?_
  refine WR_val rfl (rn_load rfl (Ld.rowA (k := 512) hr1 (by kernel_rfl) (by kernel_rfl) (by first | (simp; done) | (simp [bv_length, *]; done) | assumption))) ?_
  refine WR_ent rfl (rn_call (by kernel_rfl) rfl) (read22' V w1 hV) ?_
  rintro _ w7 ⟨p, c, vs, rfl, hv, hb7⟩
  replace hr1 := hr1.new hb7
  replace hB := hB.acc hb7
  refine WR_val rfl (rn_move) ?_
  refine WR_val rfl (rn_extract rfl rfl) ?_
  refine WR_val rfl (rn_extract rfl rfl) ?_
  have hv0 := hv
  refine WR_mk rfl (mk_alloc ([Value.int .i64 0, Value.int .i64 0, Value.slice none 0 0]) (by kernel_rfl) (fun g3 w3 hg3 hr3 hb3 => ?_))
  have ge_hB_g3 := Nat.le_trans hB.size hg3
  have lt_g1_g3 : g1 < g3 := Nat.lt_of_lt_of_le hr1.lt hg3
  replace hr1 := hr1.new hb3
  replace hv := hv.new hb3
  replace hB := hB.acc hb3
  replace hv := (hv0.cons hg3).new hb3
  refine WR_sk rfl (sk_storeA 3 (vw V p c) rfl rfl hr3 (by kernel_rfl) (by first | assumption | (simp; done) | (simp [bv_length, *]; done)) (by first | assumption | (simp; done) | (simp [bv_length, *]; done) | rfl) (by first | exact bv_one _ | assumption | (simp [Value.oneCell']; done)) (fun w901 hr3 ho901 => ?_))
  replace hr1 := hr1.only ho901 (Nat.ne_of_lt lt_g1_g3)
  replace hv := hv.only ho901 (by simp)
  replace hB := ho901.below hB ge_hB_g3
  refine WR_val rfl (rn_assign) ?_
  refine WR_nil ?_
  refine thenN ?_
  refine W_seq ?_
  refine W_region ?_
  refine WR_val rfl (rn_move) ?_
  refine WR_val rfl (rn_assign) ?_
  refine WR_nil ?_
  refine thenN ?_
  refine W_ret ?_
  refine ret_ret [_] ⟨rfl, trivial⟩ ?_
  exact ⟨rfl, hB⟩
theorem slots12 (V : View) (w : World) (hV : Good V) : Calls Try.prog 12 [.agg (bv (bytesV V)).toArray].toArray w (Ret fun v w' => v = .int .i64 (V.slots.length : Int) ∧ Below w.heap.size w w') := by
  have hB := Below.refl w.heap.size w
  have hbl := bytes_len hV
  refine calls_W (fn := Try.f12) (rs := [.tmp 2]) (n := 13) Try.func12 rfl rfl Try.ntmps12 (by kernel_rfl) rfl ?_
  refine W_seq ?_
  refine W_region ?_
  refine WR_mk rfl (mk_box ((bv (bytesV V))) rfl (fun g1 w1 hg1 hr1 hb1 => ?_))
  have ge_hB_g1 := Nat.le_trans hB.size hg1
  replace hB := hB.acc hb1
  refine WR_val rfl (rn_assign) ?_
  refine WR_nil ?_
  refine thenN ?_
  refine W_seq ?_
  refine W_region ?_
  refine WR_val rfl (rn_load rfl (Ld.rowA (k := 512) hr1 (by kernel_rfl) (by kernel_rfl) (by first | (simp; done) | (simp [bv_length, *]; done) | assumption))) ?_
  refine WR_ent rfl (rn_call (by kernel_rfl) rfl) (read22' V w1 hV) ?_
  rintro _ w7 ⟨p, c, vs, rfl, hv, hb7⟩
  replace hr1 := hr1.new hb7
  replace hB := hB.acc hb7
  refine WR_val rfl (rn_move) ?_
  refine WR_val rfl (rn_extract rfl rfl) ?_
  refine WR_val rfl (rn_extract rfl rfl) ?_
  have hv0 := hv
  refine WR_mk rfl (mk_alloc ([Value.int .i64 0, Value.int .i64 0, Value.slice none 0 0]) (by kernel_rfl) (fun g3 w3 hg3 hr3 hb3 => ?_))
  have ge_hB_g3 := Nat.le_trans hB.size hg3
  have lt_g1_g3 : g1 < g3 := Nat.lt_of_lt_of_le hr1.lt hg3
  replace hr1 := hr1.new hb3
  replace hv := hv.new hb3
  replace hB := hB.acc hb3
  replace hv := (hv0.cons hg3).new hb3
  refine WR_sk rfl (sk_storeA 3 (vw V p c) rfl rfl hr3 (by kernel_rfl) (by first | assumption | (simp; done) | (simp [bv_length, *]; done)) (by first | assumption | (simp; done) | (simp [bv_length, *]; done) | rfl) (by first | exact bv_one _ | assumption | (simp [Value.oneCell']; done)) (fun w901 hr3 ho901 => ?_))
  replace hr1 := hr1.only ho901 (Nat.ne_of_lt lt_g1_g3)
  replace hv := hv.only ho901 (by simp)
  replace hB := ho901.below hB ge_hB_g3
  refine WR_val rfl (rn_assign) ?_
  refine WR_nil ?_
  refine thenN ?_
  refine W_seq ?_
  refine W_region ?_
  refine WR_val rfl (rn_fieldAddr (off := 2) (by kernel_rfl) rfl) ?_
  refine WR_val rfl (rn_load rfl (Ld.row1 hr3 (by kernel_rfl) rfl)) ?_
  refine WR_val rfl (rn_lenSl (e := 29) (sz := 1) (by kernel_rfl) rfl rfl) ?_
  refine WR_val rfl (rn_assign) ?_
  refine WR_nil ?_
  refine thenN ?_
  refine W_ret ?_
  refine ret_ret [_] ⟨rfl, trivial⟩ ?_
  exact ⟨rfl, hB⟩
end Go.Proofs.Ytjdcopfnhkfimaa
