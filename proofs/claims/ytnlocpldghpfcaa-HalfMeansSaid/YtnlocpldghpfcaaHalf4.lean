/- One of sectors' halves, as the code takes it. -/
import Derived.Test.YtnlocpldghpfcaaHalf3
namespace Go.Proofs.Ytnlocpldghpfcaa
open Go Go.RowKit Coup

def zerosB (n : Nat) : List UInt8 := List.replicate n 0
theorem bv_zeros (n : Nat) : bv (zerosB n) = List.replicate n (byteV 0) := by simp [bv, zerosB]
/-- Half i of flat sectors. -/
def halfAt (l : List UInt8) (i : Nat) : List UInt8 := (l.drop (64 * i)).take 64
theorem halfAt_length (l : List UInt8) (i : Nat) (h : 64 * i + 64 ≤ l.length) : (halfAt l i).length = 64 := by simp [halfAt]; omega
/-- Sector k of flat sectors. -/
def secAt (l : List UInt8) (k : Nat) : List UInt8 := (l.drop (128 * k)).take 128
theorem secAt_length (l : List UInt8) (k : Nat) (h : 128 * k + 128 ≤ l.length) : (secAt l k).length = 128 := by simp [secAt]; omega
theorem half_of_sec (l : List UInt8) (q r : Nat) (hr : r < 2) : ((secAt l q).drop (64 * r)).take 64 = halfAt l (2 * q + r) := by
  unfold secAt halfAt
  rw [List.drop_take, List.take_take, List.drop_drop]
  congr 1
  · omega
  · congr 1; omega
theorem splice_all {α : Type} (l m : List α) (h : l.length = m.length) : splice l 0 m = m := by
  simp [splice, ← h]
theorem zero_cells59 : (Try.prog.info? 59).map (fun i => i.zero.map (·.cells)) = some (some (bv (zerosB 64)).toArray) := by kernel_rfl
theorem zero_cells48 : (Try.prog.info? 48).map (fun i => i.zero.map (·.cells)) = some (some (bv (zerosB 128)).toArray) := by kernel_rfl
theorem size59 : (Try.prog.info? 59).map (·.size) = some 64 := by kernel_rfl
theorem size48 : (Try.prog.info? 48).map (·.size) = some 128 := by kernel_rfl
theorem row48 : (Try.prog.underlying 48).any (·.isRow) = true := by kernel_rfl
theorem row59 : (Try.prog.underlying 59).any (·.isRow) = true := by kernel_rfl
theorem _root_.Coup.SlAt.range {w : World} {b off n sz : Nat} {cs : List Value} (h : SlAt w (some ⟨b, off, none⟩) n sz cs) (o m : Nat) (ho : o + m ≤ n * sz) : w.rangeAt b (off + o) ((cs.drop o).take m) := by
  intro j v hv
  have hj : j < m := by
    have := (List.getElem?_eq_some_iff.1 hv).1
    simp at this; omega
  obtain ⟨b', off', he, _, hc⟩ := h.at_ (by omega)
  cases he
  rw [List.getElem?_take, if_pos hj, List.getElem?_drop] at hv
  rw [Nat.add_assoc, hc _ (by omega), hv]

theorem half32 (p : Option Addr) (n c : Nat) (l : List UInt8) (i : Nat) (w : World) (h : SlAt w p n 128 (bv l)) (hi : i / 2 < n) (hn : n ≤ 1000000) :
    Calls Try.prog 32 #[.slice p n c, .int .i64 i] w fun e w' => e = .returned (.agg (bv (halfAt l i)).toArray) ∧ Below w.heap.size w w' := by
  obtain ⟨q, hq⟩ : ∃ q, q = i / 2 := ⟨_, rfl⟩
  have hlen : l.length = n * 128 := by simpa [bv_length] using h.len
  obtain ⟨b, off, rfl, hbs, hc⟩ := h.at_ (by omega)
  have hrg : ∀ w1, Below w.heap.size w w1 → w1.rangeAt b (off + q * 128) (bv (secAt l q)) := fun w1 hb => by
    have := (h.below hb (Nat.le_refl _)).range (q * 128) 128 (by omega)
    rwa [← bv_drop, ← bv_take, Nat.mul_comm q 128, show (l.drop (128 * q)).take 128 = secAt l q from rfl, Nat.mul_comm 128 q] at this
  have hqi : (i : Int) / 2 = (q : Int) := by omega
  have hqn : q < n := by omega
  have hlq : (bv (secAt l q)).length = 128 := by rw [bv_length, secAt_length l q (by omega)]
  have HQ := Lib.hid hq
  have HC := Lib.hid hc
  have HH := Lib.hid h
  have HR := Lib.hid hrg
  have HL := Lib.hid hlen
  have HLQ := Lib.hid hlq
  clear hq hc h hrg hlen hi hlq
  have main : ∀ r : Nat, r < 2 → (i : Int) % 2 = r → i = 2 * q + r → Calls Try.prog 32 #[.slice (some ⟨b, off, none⟩) n c, .int .i64 i] w fun e w' => e = .returned (.agg (bv (halfAt l i)).toArray) ∧ Below w.heap.size w w' := by
    intro r hr hri hiq
    have HI := Lib.hid hiq
    have hrng : ∀ (g2 : Nat) (w3 : World) (l3 : List Value), Hid (l3 = splice (bv (zerosB 128)) 0 (bv (secAt l q))) → row w3 g2 l3 48 → w3.rangeAt g2 (64 * r) (bv (halfAt l i)) := fun g2 w3 l3 HL3 hr3 => by
      rw [HL3.out, splice_all _ _ (by rw [HLQ.out, bv_length, zerosB]; simp)] at hr3
      have := hr3.range_drop (64 * r) 64
      rwa [← bv_drop, ← bv_take, half_of_sec _ _ _ hr, ← hiq] at this
    have hl64 : (bv (halfAt l i)).length = 64 := by rw [bv_length, halfAt_length l i (by have := HL.out; omega)]
    have HR3 := Lib.hid hrng
    have H64 := Lib.hid hl64
    clear hiq hrng hl64
    have hap := run_arrayAt (P := Try.prog) 59 5 64 (by kernel_rfl)
    rcases (by omega : r = 0 ∨ r = 1) with rfl | rfl
    all_goals
      go_enter Try.func32, Try.ntmps32
      go_wp2_with (first
        | (with_reducible refine at_op (.alloc 59) ?_; refine wpList_alloc_row rfl 59 rfl _ zero_cells59 ?_; intro g w1 hg hr1 hb1)
        | (with_reducible refine at_op (.load 48 _) ?_; refine wpList_load_rng rfl 48 _ rfl b (off + q * 128) rfl (bv (secAt l q)) (HR.out _ hb1) row48 (by rw [HLQ.out]; exact size48) ?_)
        | (with_reducible refine at_op (.alloc 48) ?_; refine wpList_alloc_row rfl 48 rfl _ zero_cells48 ?_; intro g2 w2 hg2 hr2 hb2)
        | (with_reducible refine at_op (.store 48 _ _) ?_; refine wpList_store_at rfl 48 _ _ rfl g2 0 rfl (bv (secAt l q)) rfl _ 48 hr2 (by rw [HLQ.out]; exact size48) (by rw [HLQ.out, bv_length, zerosB]; simp) (bv_one _) ?_; intro l3 w3 HL3 hr3 ho3)
        | (with_reducible refine at_op (.load 59 _) ?_; refine wpList_load_rng rfl 59 _ rfl g2 _ rfl (bv (halfAt l i)) (HR3.out g2 _ _ HL3 hr3) row59 (by rw [H64.out]; exact size59) ?_)
        | (with_reducible refine at_op (.store 59 _ _) ?_; refine wpList_store_at rfl 59 _ _ rfl g 0 rfl (bv (halfAt l i)) rfl _ 59 ((hr1.new hb2).only ho3 (by have := hr1.lt; omega)) (by rw [H64.out]; exact size59) (by rw [H64.out, bv_length, zerosB]; simp) (bv_one _) ?_; intro l4 w4 HL4 hr4 ho4))
      have h4 : l4 = bv (halfAt l i) := by rw [HL4.out, splice_all _ _ (by rw [H64.out, bv_length, zerosB]; simp)]
      subst h4
      refine bodyPost_ret (results_cell_rng rfl _ _ g 59 _ rfl hr4 row59 (by rw [H64.out]; exact size59)) rfl ?_
      exact ⟨rfl, ho4.below (ho3.below (hb1.trans (hb2.mono hb1.size)) (Nat.le_trans hb1.size hg2)) hg⟩
  rcases Nat.mod_two_eq_zero_or_one i with e | e
  · exact main 0 (by omega) (by omega) (by have := HQ.out; omega)
  · exact main 1 (by omega) (by omega) (by have := HQ.out; omega)
end Go.Proofs.Ytnlocpldghpfcaa
