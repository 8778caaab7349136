/- A half's bytes, as the code writes them. -/
import Derived.Test.YtnlocpldghpfcaaHalf5
import Derived.RegionTactic
import Derived.Laws.ShiftsVarLaws
namespace Go.Proofs.Ytnlocpldghpfcaa
open Go Go.RowKit Coup

theorem beB_get (m x i : Nat) (h : i < m) : (beB m x)[i]? = some (UInt8.ofNat (x / 256 ^ (m - 1 - i))) := by
  induction m generalizing i with
  | zero => omega
  | succ m ih =>
    rw [beB_cons]
    rcases i with _ | i
    · simp
    · rw [List.getElem?_cons_succ, ih i (by omega), show m - 1 - i = m + 1 - 1 - (i + 1) by omega]
theorem splice_step (l : List Value) (off : Nat) (m x i : Nat) (h : i < m) (hl : off + m ≤ l.length) :
    (splice l off (bv ((beB m x).take i))).set (off + i) (byteV (UInt8.ofNat (x / 256 ^ (m - 1 - i)))) = splice l off (bv ((beB m x).take (i + 1))) := by
  have e : (beB m x).take (i + 1) = (beB m x).take i ++ [UInt8.ofNat (x / 256 ^ (m - 1 - i))] := by rw [List.take_add_one, beB_get _ _ _ h]; rfl
  have hlen : (bv ((beB m x).take i)).length = i := by rw [bv_length, List.length_take, beB_length]; omega
  have hlen2 : (bv ((beB m x).take (i + 1))).length = i + 1 := by rw [bv_length, List.length_take, beB_length]; omega
  rw [splice, splice, hlen2, hlen, e, bv_append, List.set_append_right _ _ (by simp; omega), List.set_append_right _ _ (by simp; omega)]
  rw [List.length_take, Nat.min_eq_left (by omega), hlen, Nat.add_sub_cancel_left, Nat.sub_self]
  have : l.drop (off + i) = l[off + i]'(by omega) :: l.drop (off + i + 1) := List.drop_eq_getElem_cons (by omega)
  rw [this]
  simp [bv, Nat.add_assoc]

theorem shr_byte (x k : Nat) : Value.int .u8 ((x : Int) / 2 ^ (8 * k) % 256) = byteV (UInt8.ofNat (x / 256 ^ k)) := by
  have h : (256 : Nat) ^ k = 2 ^ (8 * k) := by rw [show 256 = 2 ^ 8 by rfl, ← Nat.pow_mul]
  rw [byteV, h]
  congr 1

theorem put38 (x m : Nat) (hm : m ≤ 8) (gh ga : Nat) (l : List Value) (at_ : Nat) (w : World) (hr : row w gh l 59) (hl : l.length = 64) (ha : row w ga [.int .i64 at_] 3) (hat : at_ + m ≤ 64) (hne : gh ≠ ga) :
    Calls Try.prog 38 #[.int .u64 x, .int .i64 m, .pointer (some ⟨gh, 0, none⟩), .pointer (some ⟨ga, 0, none⟩)] w fun e w' => e = .returned (.tuple #[]) ∧ row w' gh (splice l at_ (bv (beB m x))) 59 ∧ row w' ga [.int .i64 (at_ + m : Nat)] 3 ∧
      ∀ B, B ≤ gh → B ≤ ga → Below B w w' := by
  go_enter Try.func38, Try.ntmps38
  go_wp2
  go_loopw [8] (fun i wr => ∃ k : Nat, k ≤ m ∧ i = .int .i64 k ∧ row wr gh (splice l at_ (bv ((beB m x).take k))) 59 ∧ row wr ga [.int .i64 at_] 3 ∧ ∀ B, B ≤ gh → B ≤ ga → Below B w wr) (fun i _ => m - (intOf i).toNat)
  case atStart => exact ⟨0, by omega, rfl, by simpa [splice, bv] using hr, ha, fun B _ _ => Below.refl B w⟩
  case round =>
    obtain ⟨k, hk, rfl, hr2, ha2, hb2⟩ := hrel
    by_cases hlt : k < m
    · have hc := ha2.cell 0 (v := .int .i64 at_) rfl
      have hlen : (splice l at_ (bv ((beB m x).take k))).length = 64 := by rw [length_splice _ _ _ (by rw [bv_length, List.length_take, beB_length]; omega), hl]
      obtain ⟨u, hu⟩ : ∃ u, (splice l at_ (bv ((beB m x).take k)))[at_ + k]? = some u := ⟨_, List.getElem?_eq_getElem (by omega)⟩
      have hd := hr2.cell (at_ + k) hu
      have hf := hr2.frozen (at_ + k)
      have H2 := Lib.hid hr2
      have A2 := Lib.hid ha2
      have B2 := Lib.hid hb2
      have HL := Lib.hid hl
      clear hr2 ha2 hb2 hlen hu hr ha hl
      go_wp2
      go_region
      go_wp2
      go_roundw
      case rel =>
        refine ⟨k + 1, by omega, by go_num, ?_, ?_, ?_⟩
        · have := (H2.out.setc (at_ + k) (byteV (UInt8.ofNat (x / 256 ^ (m - 1 - k))))).drew
          rw [splice_step _ _ _ _ _ hlt (by rw [HL.out]; omega)] at this
          rw [shr_byte]
          exact this
        · exact (A2.out.only (Only.setCell _ gh _ _) (by omega)).drew
        · exact fun B h1 h2 => ((Only.setCell _ gh _ _).below (B2.out B h1 h2) h1).drew
      case measure => simp [intOf] <;> omega
    · obtain rfl : k = m := by omega
      have hc := ha2.cell 0 (v := .int .i64 at_) rfl
      have hf := ha2.frozen 0
      have hfull : (beB k x).take k = beB k x := List.take_of_length_le (by rw [beB_length]; omega)
      rw [hfull] at hr2
      have H2 := Lib.hid hr2
      have A2 := Lib.hid ha2
      have B2 := Lib.hid hb2
      clear hr2 ha2 hb2 hr ha hl hfull
      go_wp2
      go_end0
      refine ⟨rfl, H2.out.only (Only.setCell _ ga _ _) hne, ?_, fun B h1 h2 => (Only.setCell _ ga _ _).below (B2.out B h1 h2) h2⟩
      have := A2.out.setc 0 (.int .i64 (at_ + k : Nat))
      simpa using this
end Go.Proofs.Ytnlocpldghpfcaa
