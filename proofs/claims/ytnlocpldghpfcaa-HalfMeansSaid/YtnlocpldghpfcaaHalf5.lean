/- A half as it is read by the code. -/
import Derived.Test.YtnlocpldghpfcaaHalf4
import Derived.Deep.RegionHeld3
namespace Go.Proofs.Ytnlocpldghpfcaa
open Go Go.RowKit Coup

/-- A half's parts, as they are read. -/
def hCount (h : List UInt8) : Nat := numB (h.take 8)
def hNum (h : List UInt8) : Nat := numB ((h.drop 8).take 4)
def hPlace (h : List UInt8) : Nat := numB ((h.drop 12).take 2)
def hMany (h : List UInt8) : Nat := numB ((h.drop 14).take 2)
def hBody (h : List UInt8) : List UInt8 := h.drop 16
/-- A piece by value. -/
def pieceL (c n p m : Int) (b : List UInt8) : List Value := [.int .u64 c, .int .i64 n, .int .i64 p, .int .i64 m] ++ bv b
theorem pieceL_one (c n p m : Int) (b : List UInt8) : ∀ v ∈ pieceL c n p m b, v.oneCell' = true := by
  intro v hv
  simp only [pieceL, List.mem_append] at hv
  rcases hv with hv | hv
  · simp at hv; rcases hv with rfl | rfl | rfl | rfl <;> rfl
  · exact bv_one b v hv
theorem pieceL_length (c n p m : Int) (b : List UInt8) : (pieceL c n p m b).length = 4 + b.length := by simp [pieceL, bv_length]; omega
theorem zero_cells61 : (Try.prog.info? 61).map (fun i => i.zero.map (·.cells)) = some (some (pieceL 0 0 0 0 (zerosB 48)).toArray) := by kernel_rfl
theorem size61 : (Try.prog.info? 61).map (·.size) = some 52 := by kernel_rfl
theorem size58 : (Try.prog.info? 58).map (·.size) = some 48 := by kernel_rfl
theorem size24 : (Try.prog.info? 24).map (·.size) = some 2 := by kernel_rfl
theorem row61 : (Try.prog.underlying 61).any (·.isRow) = true := by kernel_rfl
theorem row58 : (Try.prog.underlying 58).any (·.isRow) = true := by kernel_rfl
theorem row24 : (Try.prog.underlying 24).any (·.isRow) = true := by kernel_rfl
theorem numB_lt_of (l : List UInt8) (k : Nat) (h : l.length ≤ k) : numB l < 256 ^ k := Nat.lt_of_lt_of_le (numB_lt l) (Nat.pow_le_pow_right (by omega) h)

theorem results_cell_slot {fn : Func} {p q : Tmp} {ty : TypeId} (h : fn.results = #[.cell p ty, .tmp q]) {P : Program} (tmps : Array Value) (w : World) (g : Nat) (t : TypeId) (cs : List Value) (hp : tmps.getD p undef = .pointer (some ⟨g, 0, none⟩))
    (hg : row w g cs t) (hu : (P.underlying ty).any (·.isRow) = true) (hi : (P.info? ty).map (·.size) = some cs.length) : (results fn tmps).run P w = .ok (.tuple #[.agg cs.toArray, tmps.getD q undef]) w := by
  cases hd : P.underlying ty with
  | none => simp [hd] at hu
  | some d =>
    have hr : d.isRow = true := by simpa [hd] using hu
    have hp' : tmps[p]?.getD undef = .pointer (some ⟨g, 0, none⟩) := by simpa using hp
    have hc : w.rangeAt g 0 cs := hg.range 0 cs fun j v hv => by simpa using hv
    simp [results, h, hp', asAddr, run_loadVar_mid w g 0 ty cs d hc hd hr hi]

theorem piece_set0 (c n p m x : Int) (b : List UInt8) : (pieceL c n p m b).set 0 (.int .u64 x) = pieceL x n p m b := rfl
theorem piece_set1 (c n p m x : Int) (b : List UInt8) : (pieceL c n p m b).set 1 (.int .i64 x) = pieceL c x p m b := rfl
theorem piece_set2 (c n p m x : Int) (b : List UInt8) : (pieceL c n p m b).set 2 (.int .i64 x) = pieceL c n x m b := rfl
theorem piece_set3 (c n p m x : Int) (b : List UInt8) : (pieceL c n p m b).set 3 (.int .i64 x) = pieceL c n p x b := rfl
theorem piece_body (c n p m : Int) (b b' : List UInt8) (h : b.length = b'.length) : splice (pieceL c n p m b) 4 (bv b') = pieceL c n p m b' := by
  have : (bv b').length = (bv b).length := by simp [bv_length, h]
  simp [splice, pieceL, this]
  omega

/-- A struct's fields, as the table has them. -/
def structFields (P : Program) (t : TypeId) : Array Field := match P.underlying t with | some (.struct fs) => fs | _ => #[]

set_option maxHeartbeats 2000000 in
theorem read31 (hb : List UInt8) (hl : hb.length = 64) (w : World) :
    Calls Try.prog 31 #[.agg (bv hb).toArray] w fun e w' => e = .returned (.tuple #[.agg (pieceL (hCount hb) (hNum hb) (hPlace hb) (hMany hb) (hBody hb)).toArray, .bool (mayT (hCount hb) (hNum hb))]) ∧ Below w.heap.size w w' := by
  obtain ⟨c, hc⟩ : ∃ c, c = hCount hb := ⟨_, rfl⟩
  obtain ⟨n, hn⟩ : ∃ n, n = hNum hb := ⟨_, rfl⟩
  obtain ⟨pl, hpl⟩ : ∃ pl, pl = hPlace hb := ⟨_, rfl⟩
  obtain ⟨m, hm⟩ : ∃ m, m = hMany hb := ⟨_, rfl⟩
  have hcb : c < 18446744073709551616 := by rw [hc]; exact numB_lt_of _ 8 (by simp; omega)
  have hnb : n < 4294967296 := by rw [hn]; exact numB_lt_of _ 4 (by simp; omega)
  have hpb : pl < 65536 := by rw [hpl]; exact numB_lt_of _ 2 (by simp; omega)
  have hmb : m < 65536 := by rw [hm]; exact numB_lt_of _ 2 (by simp; omega)
  have sl : ∀ (o k : Nat), o + k ≤ 64 → k ≤ 8 → ∀ (g : Nat) (w' : World), row w' g (bv hb) 59 → SlAt w' (some ⟨g, o, none⟩) k 1 (bv ((hb.drop o).take k)) := fun o k hok hk g w' hr => by
    have := hr.slAt o k 1 (by rw [bv_length]; omega) (by unfold maxLen; omega)
    rwa [← bv_drop, Nat.mul_one, ← bv_take] at this
  have c1 : ∀ (g : Nat) (w' : World), row w' g (bv hb) 59 → Calls Try.prog 33 #[.slice (some ⟨g, 0, none⟩) 8 8] w' fun e w2 => e = .returned (.int .u64 c) ∧ w' = w2 := fun g w' hr => by
    have := number33 (some ⟨g, 0, none⟩) 8 8 _ w' (sl 0 8 (by omega) (by omega) g w' hr) (by omega)
    rwa [hc]
  have c2 : ∀ (g : Nat) (w' : World), row w' g (bv hb) 59 → Calls Try.prog 33 #[.slice (some ⟨g, 8, none⟩) 4 4] w' fun e w2 => e = .returned (.int .u64 n) ∧ w' = w2 := fun g w' hr => by
    have := number33 (some ⟨g, 8, none⟩) 4 4 _ w' (sl 8 4 (by omega) (by omega) g w' hr) (by omega)
    rwa [hn]
  have c3 : ∀ (g : Nat) (w' : World), row w' g (bv hb) 59 → Calls Try.prog 33 #[.slice (some ⟨g, 12, none⟩) 2 2] w' fun e w2 => e = .returned (.int .u64 pl) ∧ w' = w2 := fun g w' hr => by
    have := number33 (some ⟨g, 12, none⟩) 2 2 _ w' (sl 12 2 (by omega) (by omega) g w' hr) (by omega)
    rwa [hpl]
  have c4 : ∀ (g : Nat) (w' : World), row w' g (bv hb) 59 → Calls Try.prog 33 #[.slice (some ⟨g, 14, none⟩) 2 2] w' fun e w2 => e = .returned (.int .u64 m) ∧ w' = w2 := fun g w' hr => by
    have := number33 (some ⟨g, 14, none⟩) 2 2 _ w' (sl 14 2 (by omega) (by omega) g w' hr) (by omega)
    rwa [hm]
  rw [← hc, ← hn, ← hpl, ← hm]
  have C1 := Lib.hid c1
  have C2 := Lib.hid c2
  have C3 := Lib.hid c3
  have C4 := Lib.hid c4
  have HL := Lib.hid hl
  have wn : IntKind.i64.wrap (n : Int) = n := by rw [IntKind.wrap_i64]; omega
  have wp : IntKind.i64.wrap (pl : Int) = pl := by rw [IntKind.wrap_i64]; omega
  have wm : IntKind.i64.wrap (m : Int) = m := by rw [IntKind.wrap_i64]; omega
  have hap := run_arrayAt (P := Try.prog) 58 5 48 (by kernel_rfl)
  clear c1 c2 c3 c4 sl hc hn hpl hm hl
  have hz : (pieceL 0 0 0 0 (zerosB 48)).length = 52 := by rw [pieceL_length]; simp [zerosB]
  have HZ := Lib.hid hz
  clear hz
  go_enter Try.func31, Try.ntmps31
  go_wp2_with (first
    | (with_reducible refine at_op (.box 59 _) ?_; refine wpList_box_row rfl 59 _ rfl (bv hb) rfl ?_; intro g1 w1 hg1 hr1 hb1)
    | (with_reducible refine at_op (.alloc 61) ?_; refine wpList_alloc_row rfl 61 rfl _ zero_cells61 ?_; intro g2 w2 hg2 hr2 hb2))
  have hne : g1 ≠ g2 := by have := hr1.lt; omega
  have hS : HS g1 (bv hb) 59 g2 52 w2 := ⟨hr1.new hb2, by have := hr2.there; rwa [HZ.out] at this⟩
  have k1 : ∀ (j : Nat), j < 52 → ∀ w', HS g1 (bv hb) 59 g2 52 w' → w'.cell? ⟨g2, j, none⟩ = some (cellOf w' ⟨g2, j, none⟩) := HS.cell
  have k2 : ∀ (j : Nat), j < 52 → ∀ w', HS g1 (bv hb) 59 g2 52 w' → w'.frozen? ⟨g2, j, none⟩ = false := HS.frozen
  go_region_held3 (HS g1 (bv hb) 59 g2 52) (first | assumption | (exact HS.drew (by assumption)) | (exact HS.setc (by assumption) hne _ _) | (exact HS.setc (HS.setc (by assumption) hne _ _) hne _ _))
    (first
      | (go_at_call_of 33 (Value.slice (some ⟨g1, 0, none⟩) 8 8); refine (C1.out _ _ (HS.out1 (by assumption))).mono ?_; rintro e w' ⟨rfl, rfl⟩)
      | (go_at_call_of 33 (Value.slice (some ⟨g1, 8, none⟩) 4 4); refine (C2.out _ _ (HS.out1 (by assumption))).mono ?_; rintro e w' ⟨rfl, rfl⟩))
  have hr3 := ((hr2.setc 0 (.int .u64 c)).setc 1 (.int .i64 n)).drew
  rw [piece_set0, piece_set1] at hr3
  have ho3 := ((Only.setCell w2 g2 0 (.int .u64 c)).trans (Only.setCell _ g2 1 (.int .i64 n))).drew
  obtain ⟨w3, hw3⟩ : ∃ x, x = ((w2.setCell ⟨g2, 0, none⟩ (Value.int .u64 c)).setCell ⟨g2, 1, none⟩ (.int .i64 n)).drew := ⟨_, rfl⟩
  rw [← hw3] at hr3 ho3 ⊢
  have hS3 : HS g1 (bv hb) 59 g2 52 w3 := by rw [hw3]; exact ((hS.setc hne _ _).setc hne _ _).drew
  clear hw3
  go_wp2
  go_region_held3 (HS g1 (bv hb) 59 g2 52) (first | assumption | (exact HS.drew (by assumption)) | (exact HS.setc (by assumption) hne _ _) | (exact HS.setc (HS.setc (by assumption) hne _ _) hne _ _))
    (first
      | (go_at_call_of 33 (Value.slice (some ⟨g1, 12, none⟩) 2 2); refine (C3.out _ _ (HS.out1 (by assumption))).mono ?_; rintro e w' ⟨rfl, rfl⟩)
      | (go_at_call_of 33 (Value.slice (some ⟨g1, 14, none⟩) 2 2); refine (C4.out _ _ (HS.out1 (by assumption))).mono ?_; rintro e w' ⟨rfl, rfl⟩))
  have hr4 := ((hr3.setc 2 (.int .i64 pl)).setc 3 (.int .i64 m)).drew
  rw [piece_set2, piece_set3] at hr4
  have ho4 := ((Only.setCell w3 g2 2 (.int .i64 pl)).trans (Only.setCell _ g2 3 (.int .i64 m))).drew
  obtain ⟨w4, hw4⟩ : ∃ x, x = ((w3.setCell ⟨g2, 2, none⟩ (Value.int .i64 pl)).setCell ⟨g2, 3, none⟩ (.int .i64 m)).drew := ⟨_, rfl⟩
  rw [← hw4] at hr4 ho4 ⊢
  have hS4 : HS g1 (bv hb) 59 g2 52 w4 := by rw [hw4]; exact ((hS3.setc hne _ _).setc hne _ _).drew
  clear hw4 hS3 hS
  have hbl : (hBody hb).length = 48 := by rw [hBody, List.length_drop, HL.out]
  have hrb : w4.rangeAt g1 16 (bv (hBody hb)) := by
    refine hS4.1.range 16 _ fun j v hv => ?_
    rw [hBody, bv_drop, List.getElem?_drop] at hv
    exact hv
  have HB := Lib.hid hbl
  have HRB := Lib.hid hrb
  clear hbl hrb
  go_wp2_with (first
    | (with_reducible refine at_op (.load 58 _) ?_; refine wpList_load_rng rfl 58 _ rfl g1 16 rfl (bv (hBody hb)) HRB.out row58 (by rw [bv_length, HB.out]; exact size58) ?_)
    | (with_reducible refine at_op (.store 58 _ _) ?_; refine wpList_store_at rfl 58 _ _ rfl g2 4 rfl (bv (hBody hb)) rfl _ 61 hr4 (by rw [bv_length, HB.out]; exact size58) (by rw [pieceL_length, bv_length, HB.out, zerosB, List.length_replicate]; omega) (bv_one _) ?_; intro l5 w5 HL5 hr5 ho5))
  have h5 : l5 = pieceL c n pl m (hBody hb) := by rw [HL5.out, piece_body _ _ _ _ _ _ (by rw [HB.out, zerosB, List.length_replicate])]
  have hp : ∀ v ∈ l5, v.oneCell' = true := by rw [h5]; exact pieceL_one _ _ _ _ _
  have h52 : l5.length = 52 := by rw [h5, pieceL_length, HB.out]
  have H5 := Lib.hid h5
  have ht : ∀ w', row w' g2 l5 61 → w'.rangeAt g2 0 [.int .u64 c, .int .i64 n] := fun w' h => h.range 0 _ fun j v hv => by
    rw [h5]
    rcases j with _ | _ | j
    · exact hv
    · exact hv
    · simp at hv
  refine wp_region_held_drew (S := fun w' => row w' g2 l5 61) (by kernel_rfl) (row.drew hr5) (fun hH => ?_)
  refine wpAnyH_take (i := 1) (v := .pointer (some ⟨g2, 0, none⟩)) rfl (by kernel_rfl) (by kernel_rfl) (by kernel_rfl) (fun _ _ _ h => h) (Or.inl ⟨by rfl, fun w _ => by go_simp⟩) hH ?_
  refine wpAnyH_take (i := 0) (v := .agg l5.toArray) rfl (by kernel_rfl) (by kernel_rfl) (by kernel_rfl) (fun _ _ _ h => h) (Or.inl ⟨by rfl, fun w h => run_load_rng _ 61 _ rfl g2 0 rfl l5 h.range_all row61 (by rw [h52]; exact size61)⟩) hH ?_
  refine wpAnyH_take (i := 2) (v := .agg #[.int .u64 c, .int .i64 n]) rfl (by kernel_rfl) (by kernel_rfl) (by kernel_rfl) (fun _ _ _ h => h) (Or.inl ⟨by rfl, fun w h => run_load_rng _ 24 _ rfl g2 0 rfl [.int .u64 c, .int .i64 n] (ht w h) row24 size24⟩) hH ?_
  refine wpAnyH_ready (rs := [3]) (by kernel_rfl) (by simp) ?_
  have call10 : ∀ w', (callFunc 10 (#[] ++ #[Value.agg #[.int .u64 c, .int .i64 n]] ++ #[])).run Try.prog w' = .ok (.enter 10 #[.agg #[.int .u64 c, .int .i64 n]]) w' := fun w' => by go_simp
  refine AllReadyH.cons rfl (fun K hK => ?_) AllReadyH.nil
  refine step_call_fn rfl 10 _ _ rfl [.agg #[.int .u64 c, .int .i64 n]] rfl (call10 _) ((may10 c n _).mono ?_)
  rintro e w6 ⟨rfl, hb6⟩
  refine ⟨_, rfl, hK.out _ _ (row.new hH hb6) (fun hH6 => ?_)⟩
  refine wpAnyH_ready (rs := [4]) (by kernel_rfl) (by simp) ?_
  refine AllReadyH.cons rfl (fun K hK => ?_) AllReadyH.nil
  refine step_store_at rfl 61 _ _ rfl g2 0 rfl l5 rfl l5 61 hH6 (by rw [h52]; exact size61) (by omega) hp ?_
  intro l7 w7 HL7 hr7 ho7
  rw [show l7 = l5 by rw [HL7.out, splice_all _ _ rfl]] at hr7
  refine hK.out _ _ hr7 (fun hH7 => ?_)
  refine wpAnyH_take (i := 5) (v := .bool (mayT c n)) rfl (by kernel_rfl) (by kernel_rfl) (by kernel_rfl) (fun _ _ _ h => h) (Or.inl ⟨by rfl, fun w _ => by rfl⟩) hH7 ?_
  refine wpAnyH_done (by kernel_rfl) ?_ _
  go_wp2
  refine bodyPost_ret (results_cell_slot rfl _ _ g2 61 _ rfl hr7 row61 (by rw [h52]; exact size61)) rfl ?_
  rw [H5.out]
  refine ⟨rfl, ?_⟩
  have e1 := hb1.trans (hb2.mono hb1.size)
  have hg : w.heap.size ≤ g2 := Nat.le_trans hb1.size hg2
  have e2 := ho5.below (ho4.below (ho3.below e1 hg) hg) hg
  exact ho7.below (e2.drew.trans (hb6.mono e2.size)) hg
end Go.Proofs.Ytnlocpldghpfcaa
