/- Torn sectors; a sector's tag. -/
import Derived.Test.YtnlocpldghpfcaaHalf7
namespace Go.Proofs.Ytnlocpldghpfcaa
open Go Go.RowKit Coup

def tornB (a b : List UInt8) : List UInt8 := a.take 64 ++ b.drop 64
theorem tornB_length (a b : List UInt8) (ha : a.length = 128) (hb : b.length = 128) : (tornB a b).length = 128 := by simp [tornB]; omega

theorem torn23 (a b : List UInt8) (ha : a.length = 128) (hb : b.length = 128) (w : World) : Calls Try.prog 23 #[.agg (bv a).toArray, .agg (bv b).toArray] w fun e w' => e = .returned (.agg (bv (tornB a b)).toArray) ∧ Below w.heap.size w w' := by
  have HA := Lib.hid ha
  have HB := Lib.hid hb
  clear ha hb
  go_enter Try.func23, Try.ntmps23
  go_wp2_with (first
    | (with_reducible refine at_op (.box 48 (.tmp 0)) ?_; refine wpList_box_row rfl 48 _ rfl (bv a) rfl ?_; intro g1 w1 hg1 hr1 hb1)
    | (with_reducible refine at_op (.box 48 (.tmp 1)) ?_; refine wpList_box_row rfl 48 _ rfl (bv b) rfl ?_; intro g2 w2 hg2 hr2 hb2)
    | (with_reducible refine at_op (.alloc 48) ?_; refine wpList_alloc_row rfl 48 rfl _ zero_cells48 ?_; intro g3 w3 hg3 hr3 hb3))
  have h1 := (hr1.new hb2).new hb3
  have h2 := hr2.new hb3
  have o12 : g1 < g2 := by have := hr1.lt; omega
  have o23 : g2 < g3 := by have := hr2.lt; omega
  have hbb := (hb1.trans (hb2.mono hb1.size)).trans (hb3.mono (Nat.le_trans hb1.size hb2.size))
  have hsrc : ∀ j v, (bv (a.take 64))[j]? = some v → w3.drew.cell? ((⟨g1, 0, none⟩ : Addr).add j) = some v := fun j v hv => by
    rw [Addr.add_lit]
    rw [bv_take, List.getElem?_take] at hv
    split at hv
    · exact h1.drew.cell (0 + j) (by rwa [Nat.zero_add])
    · cases hv
  have HS := Lib.hid hsrc
  have hl64 : (bv (a.take 64)).length = 64 := by rw [bv_length, List.length_take, HA.out]; rfl
  have H64 := Lib.hid hl64
  clear hsrc hl64
  go_region_held3 (fun _ => True) (exact trivial)
    (first
      | (refine step_copy_at rfl _ _ _ _ rfl 5 (by kernel_rfl) (by kernel_rfl) _ _ _ _ _ _ rfl rfl g2 0 (bv b) 48 h2.drew (bv (a.take 64)) (by rw [H64.out]; rfl) (fun _ => ⟨rfl, _, rfl, HS.out⟩) (by rw [H64.out, bv_length, HB.out]; omega) (bv_one _) ?_; intro l9 w9 HL9 hr9 ho9))
  have h9 : l9 = bv (tornB a b) := by
    rw [HL9.out, splice, H64.out, tornB, bv_append, bv_drop]
    simp
  rw [h9] at hr9
  have h128 : (bv (tornB a b)).length = 128 := by rw [bv_length, tornB_length _ _ HA.out HB.out]
  have hr39 := hr3.drew.only ho9 (by omega)
  have hb9 := ho9.below hbb.drew (by omega)
  have HR := Lib.hid hr9
  have H128 := Lib.hid h128
  clear h9 HL9 hr9 h128 HS
  go_wp2_with (first
    | (with_reducible refine at_op (.load 48 _) ?_; refine wpList_load_rng rfl 48 _ rfl g2 0 rfl (bv (tornB a b)) HR.out.range_all row48 (by rw [H128.out]; exact size48) ?_)
    | (with_reducible refine at_op (.store 48 _ _) ?_; refine wpList_store_at rfl 48 _ _ rfl g3 0 rfl (bv (tornB a b)) rfl _ 48 hr39 (by rw [H128.out]; exact size48) (by rw [H128.out, bv_length, zerosB, List.length_replicate]; omega) (bv_one _) ?_; intro l10 w10 HL10 hr10 ho10))
  rw [show l10 = bv (tornB a b) by rw [HL10.out, splice_all _ _ (by rw [H128.out, bv_length, zerosB, List.length_replicate])]] at hr10
  refine bodyPost_ret (results_cell_rng rfl _ _ g3 48 _ rfl hr10 row48 (by rw [H128.out]; exact size48)) rfl ?_
  exact ⟨rfl, ho10.below hb9 (by have := hb1.size; have := hb2.size; omega)⟩
end Go.Proofs.Ytnlocpldghpfcaa
