/- Numbers out of bytes. -/
import Derived.Test.YtnlocpldghpfcaaHalf2
import Derived.Laws.Bits64b
namespace Go.Proofs.Ytnlocpldghpfcaa
open Go Go.RowKit Coup

theorem or_step (a : Nat) (b : UInt8) : (256 * a) ||| b.toNat = 256 * a + b.toNat := by
  have := Nat.two_pow_add_eq_or_of_lt (i := 8) (b := b.toNat) (by have := b.toNat_lt; omega) a
  simpa using this.symm
theorem take_num (l : List UInt8) (k : Nat) (b : UInt8) (h : l[k]? = some b) : numB (l.take (k + 1)) = 256 * numB (l.take k) + b.toNat := by
  rw [List.take_add_one, h, Option.toList_some, numB_snoc]
theorem num_small (l : List UInt8) (k : Nat) (hk : k ≤ 7) : numB (l.take k) < 72057594037927936 := by
  have h := numB_lt (l.take k)
  have : 256 ^ (l.take k).length ≤ 256 ^ 7 := Nat.pow_le_pow_right (by omega) (by simp; omega)
  omega

theorem number33 (p : Option Addr) (n c : Nat) (l : List UInt8) (w : World) (h : SlAt w p n 1 (bv l)) (hn : n ≤ 8) : Calls Try.prog 33 #[.slice p n c] w fun e w' => e = .returned (.int .u64 (numB l)) ∧ w = w' := by
  obtain ⟨h1, h2, h3⟩ := h
  have H1 : l.length = n := by simpa [bv_length] using h1
  clear h1 h2
  have HL := Lib.hid H1; clear H1
  go_enter Try.func33, Try.ntmps33
  go_wp2
  go_loop [2, 7] (fun a i => ∃ k : Nat, k ≤ n ∧ i = .int .i64 k ∧ a = .int .u64 (numB (l.take k))) (fun _ i => n - (intOf i).toNat)
  case atStart => exact ⟨0, by omega, rfl, by simp [numB]⟩
  case round =>
    obtain ⟨k, hk, rfl, rfl⟩ := hrel
    by_cases hlt : k < n
    · obtain ⟨b, off, rfl, hbs, hc⟩ := h3 (by omega)
      have hl := HL.out
      obtain ⟨x, hx⟩ : ∃ x, l[k]? = some x := ⟨_, List.getElem?_eq_getElem (by omega)⟩
      have h1 := hc k (by omega)
      rw [bv_get, hx] at h1
      clear hc h3 hl
      obtain ⟨a, ha⟩ : ∃ a, a = numB (l.take k) := ⟨_, rfl⟩
      have ha' : a < 72057594037927936 := by rw [ha]; exact num_small l k (by omega)
      rw [← ha]
      have HA := Lib.hid ha; clear ha
      have HX := Lib.hid hx; clear hx
      simp only [Option.map_some, byteV] at h1
      go_wp2
      go_round
      case rel =>
        refine ⟨k + 1, by omega, by go_num, ?_⟩
        have hb := x.toNat_lt
        rw [take_num l k x HX.out, ← HA.out, show (a : Int) * 256 = ((256 * a : Nat) : Int) by omega, show IntKind.u64.wrap (x.toNat : Int) = ((x.toNat : Nat) : Int) by rw [IntKind.wrap_u64]; omega,
          bits_or_u64_nat _ _ (by omega) (by omega), or_step]
      case measure => simp [intOf] <;> omega
    · go_wp2
      go_ret
      refine ⟨?_, rfl⟩
      have := HL.out
      rw [List.take_of_length_le (by omega)]
      rfl

theorem get36 (p : Option Addr) (n c : Nat) (l : List UInt8) (w : World) (h : SlAt w p n 1 (bv l)) (hn : n ≤ 8) : Calls Try.prog 36 #[.slice p n c] w fun e w' => e = .returned (.int .u64 (numB l)) ∧ w = w' := by
  obtain ⟨h1, h2, h3⟩ := h
  have H1 : l.length = n := by simpa [bv_length] using h1
  clear h1 h2
  have HL := Lib.hid H1; clear H1
  go_enter Try.func36, Try.ntmps36
  go_wp2
  go_loop [3, 4] (fun a i => ∃ k : Nat, k ≤ n ∧ i = .int .i64 k ∧ a = .int .u64 (numB (l.take k))) (fun _ i => n - (intOf i).toNat)
  case atStart => exact ⟨0, by omega, rfl, by simp [numB]⟩
  case round =>
    obtain ⟨k, hk, rfl, rfl⟩ := hrel
    by_cases hlt : k < n
    · obtain ⟨b, off, rfl, hbs, hc⟩ := h3 (by omega)
      have hl := HL.out
      obtain ⟨x, hx⟩ : ∃ x, l[k]? = some x := ⟨_, List.getElem?_eq_getElem (by omega)⟩
      have h1 := hc k (by omega)
      rw [bv_get, hx] at h1
      clear hc h3 hl
      obtain ⟨a, ha⟩ : ∃ a, a = numB (l.take k) := ⟨_, rfl⟩
      have ha' : a < 72057594037927936 := by rw [ha]; exact num_small l k (by omega)
      rw [← ha]
      have HA := Lib.hid ha; clear ha
      have HX := Lib.hid hx; clear hx
      have hb := x.toNat_lt
      simp only [Option.map_some, byteV] at h1
      go_wp2
      go_round
      case rel =>
        refine ⟨k + 1, by omega, by go_num, ?_⟩
        rw [take_num l k x HX.out, ← HA.out]
        congr 1
      case measure => simp [intOf] <;> omega
    · go_wp2
      go_ret
      refine ⟨?_, rfl⟩
      have := HL.out
      rw [List.take_of_length_le (by omega)]
      rfl

theorem beB_cons (k n : Nat) : beB (k + 1) n = UInt8.ofNat (n / 256 ^ k) :: beB k n := by
  induction k generalizing n with
  | zero => simp [beB]
  | succ k ih => rw [beB, ih, beB, Nat.div_div_eq_div_mul, Nat.pow_succ, Nat.mul_comm 256]; rfl
theorem splice_zero (m k n : Nat) (z : Value) : splice (List.replicate (m + 1) z ++ bv (beB k n)) m [byteV (UInt8.ofNat (n / 256 ^ k))] = List.replicate m z ++ bv (beB (k + 1) n) := by
  rw [beB_cons, splice, List.take_append_of_le_length (by simp), List.take_replicate, Nat.min_eq_left (by omega)]
  rw [List.drop_append]
  simp [bv]

theorem put34 (x : Nat) (hx : x < 18446744073709551616) (n : Nat) (hn : n ≤ 8) (w : World) : Calls Try.prog 34 #[.int .u64 x, .int .i64 n] w fun e w' => ∃ g, e = .returned (.slice (some ⟨g, 0, none⟩) n n) ∧ w.heap.size ≤ g ∧ row w' g (bv (beB n x)) 5 ∧ Below w.heap.size w w' := by
  go_enter Try.func34, Try.ntmps34
  go_wp2_with (first | (refine wpList_make_rows rfl 25 5 _ _ rfl n rfl rfl [byteV 0] 1 1 rfl (by kernel_rfl) (by omega) (by omega) (byteV 0) (by simp) (by simp) ?_; intro g w1 hg hr1 hb1))
  go_loopw [0, 6] (fun a i wr => ∃ j : Nat, j ≤ n ∧ i = .int .i64 ((n : Int) - 1 - j) ∧ a = .int .u64 ((x / 256 ^ j : Nat) : Int) ∧ row wr g (List.replicate (n - j) (byteV 0) ++ bv (beB j x)) 5 ∧ Below w.heap.size w wr) (fun _ i _ => (intOf i + 1).toNat)
  case atStart => exact ⟨0, by omega, by simp, by simp, by simpa [beB, bv] using hr1, hb1⟩
  case round =>
    obtain ⟨j, hj, rfl, rfl, hr, hb⟩ := hrel
    by_cases hlt : j < n
    · obtain ⟨y, hy⟩ : ∃ y, y = x / 256 ^ j := ⟨_, rfl⟩
      have hy' : y < 18446744073709551616 := by rw [hy]; exact Nat.lt_of_le_of_lt (Nat.div_le_self _ _) hx
      rw [← hy]
      have HY := Lib.hid hy; clear hy
      obtain ⟨i, hi⟩ : ∃ i, n = i + 1 + j := ⟨n - 1 - j, by omega⟩
      have hin : i < n := by omega
      have hi2 : (n : Int) - 1 - j = (i : Int) := by omega
      rw [hi2]
      have hr2 : row wr g (List.replicate (i + 1) (byteV 0) ++ bv (beB j x)) 5 := by rwa [show n - j = i + 1 by omega] at hr
      have HI := Lib.hid hi
      clear hr hr1 hi hi2
      have hv : (Value.int .u8 ((y : Int) % 256)).cells = [byteV (UInt8.ofNat y)].toArray := by simp [Value.cells, byteV]
      go_wp2_with (first
        | (refine wpList_store_at rfl 5 _ _ rfl g i rfl [byteV (UInt8.ofNat y)] hv _ 5 hr2 (by kernel_rfl) (by simp <;> omega) (by simp [byteV, Value.oneCell']) ?_; intro l' w2 HL hr3 ho3))
      go_roundw
      case rel =>
        have hi := HI.out
        refine ⟨j + 1, by omega, by go_num, ?_, ?_, ho3.below hb hg⟩
        · have := HY.out
          rw [Nat.pow_succ, ← Nat.div_div_eq_div_mul, ← this]
          simp
        · have := HL.out
          rw [HY.out, splice_zero] at this
          rw [show n - (j + 1) = i by omega, ← this]
          exact hr3
      case measure => simp [intOf] <;> omega
    · obtain rfl : j = n := by omega
      have hr2 : row wr g (bv (beB j x)) 5 := by simpa using hr
      go_wp2
      go_ret
      exact ⟨g, rfl, hg, hr2, hb⟩
end Go.Proofs.Ytnlocpldghpfcaa
