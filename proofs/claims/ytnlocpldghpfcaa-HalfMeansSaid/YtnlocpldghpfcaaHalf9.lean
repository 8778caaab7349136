/- The tag of a sector's first half; the answer of what is no row. -/
import Derived.Test.YtnlocpldghpfcaaHalf8
namespace Go.Proofs.Ytnlocpldghpfcaa
open Go Go.RowKit Coup

/-- The tag of a half; noughts, where none may be. -/
def tagC (h : List UInt8) : Nat := bif mayT (hCount h) (hNum h) then hCount h else 0
def tagN (h : List UInt8) : Nat := bif mayT (hCount h) (hNum h) then hNum h else 0
theorem zero_cells24 : (Try.prog.info? 24).map (fun i => i.zero.map (·.cells)) = some (some [Value.int .u64 0, .int .i64 0].toArray) := by kernel_rfl

theorem info48 : (Try.prog.info? 48).map (fun i => (i.zero.map (·.cells), i.size)) = some (some (bv (zerosB 128)).toArray, 128) := by kernel_rfl

theorem two_cells {l : List Value} {a b : Value} (h0 : l[0]? = some a) (h1 : l[1]? = some b) : ∀ j v, [a, b][j]? = some v → l[0 + j]? = some v := by
  intro j v hv
  rcases j with _ | _ | j
  · rw [h0]; simpa using hv
  · rw [Nat.zero_add, h1]; simpa using hv
  · simp at hv

theorem tag21 (s : List UInt8) (hs : s.length = 128) (w : World) : Calls Try.prog 21 #[.agg (bv s).toArray] w fun e w' => e = .returned (.agg #[.int .u64 (tagC (s.take 64)), .int .i64 (tagN (s.take 64))]) ∧ Below w.heap.size w w' := by
  obtain ⟨hd, hh⟩ : ∃ hd, hd = s.take 64 := ⟨_, rfl⟩
  have hl : hd.length = 64 := by rw [hh, List.length_take, hs]; rfl
  have hat : halfAt s 0 = hd := by rw [halfAt, hh]; rfl
  have hbs : (bv s).length = 128 := by rw [bv_length, hs]
  rw [← hh]
  have HAT := Lib.hid hat
  have HL := Lib.hid hl
  have HBS := Lib.hid hbs
  have hpl : (pieceL (hCount hd) (hNum hd) (hPlace hd) (hMany hd) (hBody hd)).length = 52 := by rw [pieceL_length, hBody, List.length_drop, hl]
  have HPL := Lib.hid hpl
  have hc : ∀ w', Calls Try.prog 31 #[.agg (bv hd).toArray] w' fun e w2 => e = .returned (.tuple #[.agg (pieceL (hCount hd) (hNum hd) (hPlace hd) (hMany hd) (hBody hd)).toArray, .bool (mayT (hCount hd) (hNum hd))]) ∧ Below w'.heap.size w' w2 := fun w' => read31 hd hl w'
  have HC := Lib.hid hc
  clear hat hl hh hbs hs hpl hc
  obtain ⟨L, hL⟩ : ∃ L, L = pieceL (hCount hd) (hNum hd) (hPlace hd) (hMany hd) (hBody hd) := ⟨_, rfl⟩
  rw [← hL] at HC HPL
  have hz0 : L[0]? = some (.int .u64 (hCount hd)) := by rw [hL]; rfl
  have hz1 : L[1]? = some (.int .i64 (hNum hd)) := by rw [hL]; rfl
  have hone : ∀ v ∈ L, v.oneCell' = true := by rw [hL]; exact pieceL_one _ _ _ _ _
  have HONE := Lib.hid hone
  have H0 := Lib.hid hz0
  have H1 := Lib.hid hz1
  clear hL hz0 hz1 hone
  have hT1 : ∀ b, mayT (hCount hd) (hNum hd) = b → Hid (tagC hd = bif b then hCount hd else 0) ∧ Hid (tagN hd = bif b then hNum hd else 0) := fun b hb => ⟨by show _ = _; rw [tagC, hb], by show _ = _; rw [tagN, hb]⟩
  rcases hm : mayT (hCount hd) (hNum hd) with _ | _
  all_goals
    obtain ⟨T1, T2'⟩ := hT1 _ hm
    rw [hm] at HC
    clear hT1 hm
    go_enter Try.func21, Try.ntmps21
    go_wp2_with (first
      | (with_reducible refine at_op (.box 48 _) ?_; refine wpList_box_row rfl 48 _ rfl (bv s) rfl ?_; intro g1 w1 hg1 hr1 hb1)
      | (with_reducible refine at_op (.alloc 24) ?_; refine wpList_alloc_row rfl 24 rfl _ zero_cells24 ?_; intro g2 w2 hg2 hr2 hb2
         have k2 := hr2.lt
         have k1 := hr1.lt
         have hr1' := hr1.new hb2)
      | (with_reducible refine at_op (.load 48 _) ?_; refine wpList_load_rng rfl 48 _ rfl g1 0 rfl (bv s) hr1'.range_all row48 (by rw [HBS.out]; exact size48) ?_)
      | (with_reducible refine at_op (.buildSlice 27 1 _) ?_
         refine wpList_buildSlice_seq rfl 27 48 1 _ rfl [(0, .agg (bv s).toArray)] rfl (by kernel_rfl) 128 (bv (zerosB 128)).toArray info48 (by omega) (by omega) (by intro i hi; simp at hi; subst hi; exact ⟨rfl, HBS.out⟩) (by simp [Value.cells, HBS.out]) ?_
         intro g3 w3 hg3 hr3 hb3
         have hr3' : row w3 g3 (bv s) 48 := by simpa [Value.cells] using hr3
         have hsl : SlAt w3 (some ⟨g3, 0, none⟩) 1 128 (bv s) := by have := hr3'.slAt 0 1 128 (by rw [HBS.out]; omega) (by unfold maxLen; omega); rwa [List.drop_zero, List.take_of_length_le (by rw [HBS.out]; omega)] at this)
      | (go_at_call 32; refine (half32 _ 1 _ s 0 _ hsl (by omega) (by omega)).mono ?_; rintro e w4 ⟨rfl, hb4⟩; rw [HAT.out]; have q4 := hb4.size)
      | (go_at_call 31; refine (HC.out _).mono ?_; rintro e w5 ⟨rfl, hb5⟩; have q5 := hb5.size)
      | (with_reducible refine at_op (.alloc 61) ?_; refine wpList_alloc_row rfl 61 rfl _ zero_cells61 ?_; intro g6 w6 hg6 hr6 hb6)
      | (with_reducible refine at_op (.store 61 _ _) ?_; refine wpList_store_at rfl 61 _ _ rfl g6 0 rfl L rfl _ 61 hr6 (by rw [HPL.out]; exact size61) (by rw [HPL.out, pieceL_length, zerosB, List.length_replicate]; omega) HONE.out ?_; intro l7 w7 HL7 hr7 ho7
         have t2 := ((((hr2.new hb3).new hb4).new hb5).new hb6).only ho7 (by have := hb3.size; have := hb4.size; have := hb5.size; omega)
         have bT := ho7.below ((((hb1.trans (hb2.mono hb1.size)).trans (hb3.mono (Nat.le_trans hb1.size hb2.size))).trans (hb4.mono (by have := hb1.size; have := hb2.size; have := hb3.size; omega))).trans ((hb5.trans (hb6.mono hb5.size)).mono (by have := hb1.size; have := hb2.size; have := hb3.size; have := hb4.size; omega))) (by have := hb1.size; have := hb2.size; have := hb3.size; have := hb4.size; have := hb5.size; omega)
         have rT : w7.rangeAt g6 0 [.int .u64 (hCount hd), .int .i64 (hNum hd)] := by
           rw [HL7.out, splice_all _ _ (by rw [HPL.out, pieceL_length, zerosB, List.length_replicate])] at hr7
           exact hr7.range 0 _ (two_cells H0.out H1.out)
         have RT := Lib.hid rT
         have T2 := Lib.hid t2
         have BT := Lib.hid bT
         clear rT t2 bT hr7 ho7 HL7)
      | (with_reducible refine at_op (.load 24 _) ?_; refine wpList_load_rng rfl 24 _ rfl g6 0 rfl _ RT.out row24 (by kernel_rfl) ?_)
      | (with_reducible refine at_op (.store 24 _ (.tmp 14)) ?_; refine wpList_store_at rfl 24 _ _ rfl g2 0 rfl [.int .u64 0, .int .i64 0] rfl _ 24 T2.out (by kernel_rfl) (by simp) (by simp [Value.oneCell']) ?_; intro l8 w8 HL8 hr8 ho8)
      | (with_reducible refine at_op (.store 24 _ (.tmp 16)) ?_; refine wpList_store_at rfl 24 _ _ rfl g2 0 rfl [.int .u64 (hCount hd), .int .i64 (hNum hd)] rfl _ 24 T2.out (by kernel_rfl) (by simp) (by simp [Value.oneCell']) ?_; intro l8 w8 HL8 hr8 ho8))
    rw [show l8 = _ from HL8.out.trans (splice_all _ _ rfl)] at hr8
    rw [T1.out, T2'.out]
    refine bodyPost_ret (results_cell_rng rfl _ _ g2 24 _ rfl hr8 row24 (by kernel_rfl)) rfl ?_
    exact ⟨rfl, ho8.below BT.out (Nat.le_trans hb1.size hg2)⟩

/-- The answer where there is no row. -/
def noneV : Value := .tuple #[.agg #[.int .u64 0, .int .i64 0], .slice none 0 0, .int .i64 0, .int .i64 4]
theorem results_cell3 {fn : Func} {p q r s : Tmp} {ty : TypeId} (h : fn.results = #[.cell p ty, .tmp q, .tmp r, .tmp s]) {P : Program} (tmps : Array Value) (w : World) (g : Nat) (t : TypeId) (cs : List Value) (hp : tmps.getD p undef = .pointer (some ⟨g, 0, none⟩))
    (hg : row w g cs t) (hu : (P.underlying ty).any (·.isRow) = true) (hi : (P.info? ty).map (·.size) = some cs.length) : (results fn tmps).run P w = .ok (.tuple #[.agg cs.toArray, tmps.getD q undef, tmps.getD r undef, tmps.getD s undef]) w := by
  cases hd : P.underlying ty with
  | none => simp [hd] at hu
  | some d =>
    have hr : d.isRow = true := by simpa [hd] using hu
    have hp' : tmps[p]?.getD undef = .pointer (some ⟨g, 0, none⟩) := by simpa using hp
    have hc : w.rangeAt g 0 cs := hg.range 0 cs fun j v hv => by simpa using hv
    simp [results, h, hp', asAddr, run_loadVar_mid w g 0 ty cs d hc hd hr hi]
theorem none30 (w : World) : Calls Try.prog 30 #[] w fun e w' => e = .returned (.tuple #[.agg #[.int .u64 0, .int .i64 0], .slice none 0 0, .int .i64 0, .int .i64 4]) ∧ Below w.heap.size w w' := by
  go_enter Try.func30, Try.ntmps30
  go_wp2_with (first
    | (with_reducible refine at_op (.alloc 24) ?_; refine wpList_alloc_row rfl 24 rfl _ zero_cells24 ?_; intro g2 w2 hg2 hr2 hb2)
    | (with_reducible refine at_op (.store 24 _ _) ?_; refine wpList_store_at rfl 24 _ _ rfl g2 0 rfl [.int .u64 0, .int .i64 0] rfl _ 24 hr2 (by kernel_rfl) (by simp) (by simp [Value.oneCell']) ?_; intro l8 w8 HL8 hr8 ho8))
  rw [show l8 = _ from HL8.out.trans (splice_all _ _ rfl)] at hr8
  refine bodyPost_ret (results_cell3 rfl _ _ g2 24 _ rfl hr8 row24 (by kernel_rfl)) rfl ?_
  exact ⟨rfl, ho8.below hb2 hg2⟩
end Go.Proofs.Ytnlocpldghpfcaa
