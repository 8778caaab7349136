import Derived.Test.YtkkgahgpemepeaaGreatM1
import Derived.Laws.Bits64b
import Derived.Deep.RegionHeld3
import Derived.RegionTactic
import Derived.Laws.ShiftsVarLaws
import Derived.Test.YtkkgahgpemepeaaGreatM0
namespace Go.Proofs.YtkkgahgpemepeaaGreat
open Go Go.RowKit Coup
theorem or_step (a : Nat) (b : UInt8) : (256 * a) ||| b.toNat = 256 * a + b.toNat := by
  have := Nat.two_pow_add_eq_or_of_lt (i := 8) (b := b.toNat) (by have := b.toNat_lt; omega) a
  simpa using this.symm
theorem take_num (l : List UInt8) (k : Nat) (b : UInt8) (h : l[k]? = some b) : numB (l.take (k + 1)) = 256 * numB (l.take k) + b.toNat := by
  rw [List.take_add_one, h, Option.toList_some, numB_snoc]
theorem num_small (l : List UInt8) (k : Nat) (hk : k ≤ 7) : numB (l.take k) < 72057594037927936 := by
  have h := numB_lt (l.take k)
  have : 256 ^ (l.take k).length ≤ 256 ^ 7 := Nat.pow_le_pow_right (by omega) (by simp; omega)
  omega
theorem number33 (p : Option Addr) (n c : Nat) (l : List UInt8) (w : World) (h : SlAt w p n 1 (bv l)) (hn : n ≤ 8) : Calls Tryz.prog 98 #[.slice p n c] w fun e w' => e = .returned (.int .u64 (numB l)) ∧ w = w' := by
  obtain ⟨h1, h2, h3⟩ := h
  have H1 : l.length = n := by simpa [bv_length] using h1
  clear h1 h2
  have HL := Lib.hid H1; clear H1
  go_enter Tryz.func98, Tryz.ntmps98
  go_wp2
  go_loop [2, 7] (fun a i => ∃ k : Nat, k ≤ n ∧ i = .int .i64 k ∧ a = .int .u64 (numB (l.take k))) (fun _ i => n - (intOf i).toNat)
  case atStart => exact ⟨0, by omega, rfl, by simp [numB]⟩
  case round =>
    obtain ⟨k, hk, rfl, rfl⟩ := hrel
    by_cases hlt : k < n
    · obtain ⟨b, off, rfl, hbs, hc⟩ := h3 (by omega)
      have hl := HL.out
      obtain ⟨x, hx⟩ : ∃ x, l[k]? = some x := ⟨_, List.getElem?_eq_getElem (by omega)⟩
      have h1 := hc k (by omega)
      rw [bv_get, hx] at h1
      clear hc h3 hl
      obtain ⟨a, ha⟩ : ∃ a, a = numB (l.take k) := ⟨_, rfl⟩
      have ha' : a < 72057594037927936 := by rw [ha]; exact num_small l k (by omega)
      rw [← ha]
      have HA := Lib.hid ha; clear ha
      have HX := Lib.hid hx; clear hx
      simp only [Option.map_some, byteV] at h1
      go_wp2
      go_round
      case rel =>
        refine ⟨k + 1, by omega, by go_num, ?_⟩
        have hb := x.toNat_lt
        rw [take_num l k x HX.out, ← HA.out, show (a : Int) * 256 = ((256 * a : Nat) : Int) by omega, show IntKind.u64.wrap (x.toNat : Int) = ((x.toNat : Nat) : Int) by rw [IntKind.wrap_u64]; omega,
          bits_or_u64_nat _ _ (by omega) (by omega), or_step]
      case measure => simp [intOf] <;> omega
    · go_wp2
      go_ret
      refine ⟨?_, rfl⟩
      have := HL.out
      rw [List.take_of_length_le (by omega)]
      rfl
theorem get36 (p : Option Addr) (n c : Nat) (l : List UInt8) (w : World) (h : SlAt w p n 1 (bv l)) (hn : n ≤ 8) : Calls Tryz.prog 75 #[.slice p n c] w fun e w' => e = .returned (.int .u64 (numB l)) ∧ w = w' := by
  obtain ⟨h1, h2, h3⟩ := h
  have H1 : l.length = n := by simpa [bv_length] using h1
  clear h1 h2
  have HL := Lib.hid H1; clear H1
  go_enter Tryz.func75, Tryz.ntmps75
  go_wp2
  go_loop [3, 4] (fun a i => ∃ k : Nat, k ≤ n ∧ i = .int .i64 k ∧ a = .int .u64 (numB (l.take k))) (fun _ i => n - (intOf i).toNat)
  case atStart => exact ⟨0, by omega, rfl, by simp [numB]⟩
  case round =>
    obtain ⟨k, hk, rfl, rfl⟩ := hrel
    by_cases hlt : k < n
    · obtain ⟨b, off, rfl, hbs, hc⟩ := h3 (by omega)
      have hl := HL.out
      obtain ⟨x, hx⟩ : ∃ x, l[k]? = some x := ⟨_, List.getElem?_eq_getElem (by omega)⟩
      have h1 := hc k (by omega)
      rw [bv_get, hx] at h1
      clear hc h3 hl
      obtain ⟨a, ha⟩ : ∃ a, a = numB (l.take k) := ⟨_, rfl⟩
      have ha' : a < 72057594037927936 := by rw [ha]; exact num_small l k (by omega)
      rw [← ha]
      have HA := Lib.hid ha; clear ha
      have HX := Lib.hid hx; clear hx
      have hb := x.toNat_lt
      simp only [Option.map_some, byteV] at h1
      go_wp2
      go_round
      case rel =>
        refine ⟨k + 1, by omega, by go_num, ?_⟩
        rw [take_num l k x HX.out, ← HA.out]
        congr 1
      case measure => simp [intOf] <;> omega
    · go_wp2
      go_ret
      refine ⟨?_, rfl⟩
      have := HL.out
      rw [List.take_of_length_le (by omega)]
      rfl
theorem beB_cons (k n : Nat) : beB (k + 1) n = UInt8.ofNat (n / 256 ^ k) :: beB k n := by
  induction k generalizing n with
  | zero => simp [beB]
  | succ k ih => rw [beB, ih, beB, Nat.div_div_eq_div_mul, Nat.pow_succ, Nat.mul_comm 256]; rfl
theorem splice_zero (m k n : Nat) (z : Value) : splice (List.replicate (m + 1) z ++ bv (beB k n)) m [byteV (UInt8.ofNat (n / 256 ^ k))] = List.replicate m z ++ bv (beB (k + 1) n) := by
  rw [beB_cons, splice, List.take_append_of_le_length (by simp), List.take_replicate, Nat.min_eq_left (by omega)]
  rw [List.drop_append]
  simp [bv]
theorem put34 (x : Nat) (hx : x < 18446744073709551616) (n : Nat) (hn : n ≤ 8) (w : World) : Calls Tryz.prog 48 #[.int .u64 x, .int .i64 n] w fun e w' => ∃ g, e = .returned (.slice (some ⟨g, 0, none⟩) n n) ∧ w.heap.size ≤ g ∧ row w' g (bv (beB n x)) 5 ∧ Below w.heap.size w w' := by
  go_enter Tryz.func48, Tryz.ntmps48
  go_wp2_with (first | (refine wpList_make_rows rfl 67 5 _ _ rfl n rfl rfl [byteV 0] 1 1 (by kernel_rfl) (by kernel_rfl) (by omega) (by omega) (byteV 0) (by simp) (by simp) ?_; intro g w1 hg hr1 hb1))
  go_loopw [0, 6] (fun a i wr => ∃ j : Nat, j ≤ n ∧ i = .int .i64 ((n : Int) - 1 - j) ∧ a = .int .u64 ((x / 256 ^ j : Nat) : Int) ∧ row wr g (List.replicate (n - j) (byteV 0) ++ bv (beB j x)) 5 ∧ Below w.heap.size w wr) (fun _ i _ => (intOf i + 1).toNat)
  case atStart => exact ⟨0, by omega, by simp, by simp, by simpa [beB, bv] using hr1, hb1⟩
  case round =>
    obtain ⟨j, hj, rfl, rfl, hr, hb⟩ := hrel
    by_cases hlt : j < n
    · obtain ⟨y, hy⟩ : ∃ y, y = x / 256 ^ j := ⟨_, rfl⟩
      have hy' : y < 18446744073709551616 := by rw [hy]; exact Nat.lt_of_le_of_lt (Nat.div_le_self _ _) hx
      rw [← hy]
      have HY := Lib.hid hy; clear hy
      obtain ⟨i, hi⟩ : ∃ i, n = i + 1 + j := ⟨n - 1 - j, by omega⟩
      have hin : i < n := by omega
      have hi2 : (n : Int) - 1 - j = (i : Int) := by omega
      rw [hi2]
      have hr2 : row wr g (List.replicate (i + 1) (byteV 0) ++ bv (beB j x)) 5 := by rwa [show n - j = i + 1 by omega] at hr
      have HI := Lib.hid hi
      clear hr hr1 hi hi2
      have hv : (Value.int .u8 ((y : Int) % 256)).cells = [byteV (UInt8.ofNat y)].toArray := by simp [Value.cells, byteV]
      go_wp2_with (first
        | (refine wpList_store_at rfl 5 _ _ rfl g i rfl [byteV (UInt8.ofNat y)] hv _ 5 hr2 (by kernel_rfl) (by simp <;> omega) (by simp [byteV, Value.oneCell']) ?_; intro l' w2 HL hr3 ho3))
      go_roundw
      case rel =>
        have hi := HI.out
        refine ⟨j + 1, by omega, by go_num, ?_, ?_, ho3.below hb hg⟩
        · have := HY.out
          rw [Nat.pow_succ, ← Nat.div_div_eq_div_mul, ← this]
          simp
        · have := HL.out
          rw [HY.out, splice_zero] at this
          rw [show n - (j + 1) = i by omega, ← this]
          exact hr3
      case measure => simp [intOf] <;> omega
    · obtain rfl : j = n := by omega
      have hr2 : row wr g (bv (beB j x)) 5 := by simpa using hr
      go_wp2
      go_ret
      exact ⟨g, rfl, hg, hr2, hb⟩
end Go.Proofs.YtkkgahgpemepeaaGreat
namespace Go.Proofs.YtkkgahgpemepeaaGreat
open Go Go.RowKit Coup
def zerosB (n : Nat) : List UInt8 := List.replicate n 0
theorem bv_zeros (n : Nat) : bv (zerosB n) = List.replicate n (byteV 0) := by simp [bv, zerosB]
def halfAt (l : List UInt8) (i : Nat) : List UInt8 := (l.drop (64 * i)).take 64
theorem halfAt_length (l : List UInt8) (i : Nat) (h : 64 * i + 64 ≤ l.length) : (halfAt l i).length = 64 := by simp [halfAt]; omega
def secAt (l : List UInt8) (k : Nat) : List UInt8 := (l.drop (128 * k)).take 128
theorem secAt_length (l : List UInt8) (k : Nat) (h : 128 * k + 128 ≤ l.length) : (secAt l k).length = 128 := by simp [secAt]; omega
theorem half_of_sec (l : List UInt8) (q r : Nat) (hr : r < 2) : ((secAt l q).drop (64 * r)).take 64 = halfAt l (2 * q + r) := by
  unfold secAt halfAt
  rw [List.drop_take, List.take_take, List.drop_drop]
  congr 1
  · omega
  · congr 1; omega
theorem splice_all {α : Type} (l m : List α) (h : l.length = m.length) : splice l 0 m = m := by
  simp [splice, ← h]
theorem zero_cells59 : (Tryz.prog.info? 142).map (fun i => i.zero.map (·.cells)) = some (some (bv (zerosB 64)).toArray) := by kernel_rfl
theorem zero_cells48 : (Tryz.prog.info? 45).map (fun i => i.zero.map (·.cells)) = some (some (bv (zerosB 128)).toArray) := by kernel_rfl
theorem size59 : (Tryz.prog.info? 142).map (·.size) = some 64 := by kernel_rfl
theorem size48 : (Tryz.prog.info? 45).map (·.size) = some 128 := by kernel_rfl
theorem row48 : (Tryz.prog.underlying 45).any (·.isRow) = true := by kernel_rfl
theorem row59 : (Tryz.prog.underlying 142).any (·.isRow) = true := by kernel_rfl
theorem _root_.Coup.SlAt.range {w : World} {b off n sz : Nat} {cs : List Value} (h : SlAt w (some ⟨b, off, none⟩) n sz cs) (o m : Nat) (ho : o + m ≤ n * sz) : w.rangeAt b (off + o) ((cs.drop o).take m) := by
  intro j v hv
  have hj : j < m := by
    have := (List.getElem?_eq_some_iff.1 hv).1
    simp at this; omega
  obtain ⟨b', off', he, _, hc⟩ := h.at_ (by omega)
  cases he
  rw [List.getElem?_take, if_pos hj, List.getElem?_drop] at hv
  rw [Nat.add_assoc, hc _ (by omega), hv]
theorem half32 (p : Option Addr) (n c : Nat) (l : List UInt8) (i : Nat) (w : World) (h : SlAt w p n 128 (bv l)) (hi : i / 2 < n) (hn : n ≤ 1000000) :
    Calls Tryz.prog 97 #[.slice p n c, .int .i64 i] w fun e w' => e = .returned (.agg (bv (halfAt l i)).toArray) ∧ Below w.heap.size w w' := by
  obtain ⟨q, hq⟩ : ∃ q, q = i / 2 := ⟨_, rfl⟩
  have hlen : l.length = n * 128 := by simpa [bv_length] using h.len
  obtain ⟨b, off, rfl, hbs, hc⟩ := h.at_ (by omega)
  have hrg : ∀ w1, Below w.heap.size w w1 → w1.rangeAt b (off + q * 128) (bv (secAt l q)) := fun w1 hb => by
    have := (h.below hb (Nat.le_refl _)).range (q * 128) 128 (by omega)
    rwa [← bv_drop, ← bv_take, Nat.mul_comm q 128, show (l.drop (128 * q)).take 128 = secAt l q from rfl, Nat.mul_comm 128 q] at this
  have hqi : (i : Int) / 2 = (q : Int) := by omega
  have hqn : q < n := by omega
  have hlq : (bv (secAt l q)).length = 128 := by rw [bv_length, secAt_length l q (by omega)]
  have HQ := Lib.hid hq
  have HC := Lib.hid hc
  have HH := Lib.hid h
  have HR := Lib.hid hrg
  have HL := Lib.hid hlen
  have HLQ := Lib.hid hlq
  clear hq hc h hrg hlen hi hlq
  have main : ∀ r : Nat, r < 2 → (i : Int) % 2 = r → i = 2 * q + r → Calls Tryz.prog 97 #[.slice (some ⟨b, off, none⟩) n c, .int .i64 i] w fun e w' => e = .returned (.agg (bv (halfAt l i)).toArray) ∧ Below w.heap.size w w' := by
    intro r hr hri hiq
    have HI := Lib.hid hiq
    have hrng : ∀ (g2 : Nat) (w3 : World) (l3 : List Value), Hid (l3 = splice (bv (zerosB 128)) 0 (bv (secAt l q))) → row w3 g2 l3 45 → w3.rangeAt g2 (64 * r) (bv (halfAt l i)) := fun g2 w3 l3 HL3 hr3 => by
      rw [HL3.out, splice_all _ _ (by rw [HLQ.out, bv_length, zerosB]; simp)] at hr3
      have := hr3.range_drop (64 * r) 64
      rwa [← bv_drop, ← bv_take, half_of_sec _ _ _ hr, ← hiq] at this
    have hl64 : (bv (halfAt l i)).length = 64 := by rw [bv_length, halfAt_length l i (by have := HL.out; omega)]
    have HR3 := Lib.hid hrng
    have H64 := Lib.hid hl64
    clear hiq hrng hl64
    have hap := run_arrayAt (P := Tryz.prog) 142 5 64 (by kernel_rfl)
    rcases (by omega : r = 0 ∨ r = 1) with rfl | rfl
    all_goals
      go_enter Tryz.func97, Tryz.ntmps97
      go_wp2_with (first
        | (with_reducible refine at_op (.alloc 142) ?_; refine wpList_alloc_row rfl 142 rfl _ zero_cells59 ?_; intro g w1 hg hr1 hb1)
        | (with_reducible refine at_op (.load 45 _) ?_; refine wpList_load_rng rfl 45 _ rfl b (off + q * 128) rfl (bv (secAt l q)) (HR.out _ hb1) row48 (by rw [HLQ.out]; exact size48) ?_)
        | (with_reducible refine at_op (.alloc 45) ?_; refine wpList_alloc_row rfl 45 rfl _ zero_cells48 ?_; intro g2 w2 hg2 hr2 hb2)
        | (with_reducible refine at_op (.store 45 _ _) ?_; refine wpList_store_at rfl 45 _ _ rfl g2 0 rfl (bv (secAt l q)) rfl _ 45 hr2 (by rw [HLQ.out]; exact size48) (by rw [HLQ.out, bv_length, zerosB]; simp) (bv_one _) ?_; intro l3 w3 HL3 hr3 ho3)
        | (with_reducible refine at_op (.load 142 _) ?_; refine wpList_load_rng rfl 142 _ rfl g2 _ rfl (bv (halfAt l i)) (HR3.out g2 _ _ HL3 hr3) row59 (by rw [H64.out]; exact size59) ?_)
        | (with_reducible refine at_op (.store 142 _ _) ?_; refine wpList_store_at rfl 142 _ _ rfl g 0 rfl (bv (halfAt l i)) rfl _ 142 ((hr1.new hb2).only ho3 (by have := hr1.lt; omega)) (by rw [H64.out]; exact size59) (by rw [H64.out, bv_length, zerosB]; simp) (bv_one _) ?_; intro l4 w4 HL4 hr4 ho4))
      have h4 : l4 = bv (halfAt l i) := by rw [HL4.out, splice_all _ _ (by rw [H64.out, bv_length, zerosB]; simp)]
      subst h4
      refine bodyPost_ret (results_cell_rng rfl _ _ g 142 _ rfl hr4 row59 (by rw [H64.out]; exact size59)) rfl ?_
      exact ⟨rfl, ho4.below (ho3.below (hb1.trans (hb2.mono hb1.size)) (Nat.le_trans hb1.size hg2)) hg⟩
  rcases Nat.mod_two_eq_zero_or_one i with e | e
  · exact main 0 (by omega) (by omega) (by have := HQ.out; omega)
  · exact main 1 (by omega) (by omega) (by have := HQ.out; omega)
end Go.Proofs.YtkkgahgpemepeaaGreat
namespace Go.Proofs.YtkkgahgpemepeaaGreat
open Go Go.RowKit Coup
def hCount (h : List UInt8) : Nat := numB (h.take 8)
def hNum (h : List UInt8) : Nat := numB ((h.drop 8).take 4)
def hPlace (h : List UInt8) : Nat := numB ((h.drop 12).take 2)
def hMany (h : List UInt8) : Nat := numB ((h.drop 14).take 2)
def hBody (h : List UInt8) : List UInt8 := h.drop 16
def pieceL (c n p m : Int) (b : List UInt8) : List Value := [.int .u64 c, .int .i64 n, .int .i64 p, .int .i64 m] ++ bv b
theorem pieceL_one (c n p m : Int) (b : List UInt8) : ∀ v ∈ pieceL c n p m b, v.oneCell' = true := by
  intro v hv
  simp only [pieceL, List.mem_append] at hv
  rcases hv with hv | hv
  · simp at hv; rcases hv with rfl | rfl | rfl | rfl <;> rfl
  · exact bv_one b v hv
theorem pieceL_length (c n p m : Int) (b : List UInt8) : (pieceL c n p m b).length = 4 + b.length := by simp [pieceL, bv_length]; omega
theorem zero_cells61 : (Tryz.prog.info? 144).map (fun i => i.zero.map (·.cells)) = some (some (pieceL 0 0 0 0 (zerosB 48)).toArray) := by kernel_rfl
theorem size61 : (Tryz.prog.info? 144).map (·.size) = some 52 := by kernel_rfl
theorem size58 : (Tryz.prog.info? 141).map (·.size) = some 48 := by kernel_rfl
theorem size24 : (Tryz.prog.info? 86).map (·.size) = some 2 := by kernel_rfl
theorem row61 : (Tryz.prog.underlying 144).any (·.isRow) = true := by kernel_rfl
theorem row58 : (Tryz.prog.underlying 141).any (·.isRow) = true := by kernel_rfl
theorem row24 : (Tryz.prog.underlying 86).any (·.isRow) = true := by kernel_rfl
theorem numB_lt_of (l : List UInt8) (k : Nat) (h : l.length ≤ k) : numB l < 256 ^ k := Nat.lt_of_lt_of_le (numB_lt l) (Nat.pow_le_pow_right (by omega) h)
theorem results_cell_slot {fn : Func} {p q : Tmp} {ty : TypeId} (h : fn.results = #[.cell p ty, .tmp q]) {P : Program} (tmps : Array Value) (w : World) (g : Nat) (t : TypeId) (cs : List Value) (hp : tmps.getD p undef = .pointer (some ⟨g, 0, none⟩))
    (hg : row w g cs t) (hu : (P.underlying ty).any (·.isRow) = true) (hi : (P.info? ty).map (·.size) = some cs.length) : (results fn tmps).run P w = .ok (.tuple #[.agg cs.toArray, tmps.getD q undef]) w := by
  cases hd : P.underlying ty with
  | none => simp [hd] at hu
  | some d =>
    have hr : d.isRow = true := by simpa [hd] using hu
    have hp' : tmps[p]?.getD undef = .pointer (some ⟨g, 0, none⟩) := by simpa using hp
    have hc : w.rangeAt g 0 cs := hg.range 0 cs fun j v hv => by simpa using hv
    simp [results, h, hp', asAddr, run_loadVar_mid w g 0 ty cs d hc hd hr hi]
theorem piece_set0 (c n p m x : Int) (b : List UInt8) : (pieceL c n p m b).set 0 (.int .u64 x) = pieceL x n p m b := rfl
theorem piece_set1 (c n p m x : Int) (b : List UInt8) : (pieceL c n p m b).set 1 (.int .i64 x) = pieceL c x p m b := rfl
theorem piece_set2 (c n p m x : Int) (b : List UInt8) : (pieceL c n p m b).set 2 (.int .i64 x) = pieceL c n x m b := rfl
theorem piece_set3 (c n p m x : Int) (b : List UInt8) : (pieceL c n p m b).set 3 (.int .i64 x) = pieceL c n p x b := rfl
theorem piece_body (c n p m : Int) (b b' : List UInt8) (h : b.length = b'.length) : splice (pieceL c n p m b) 4 (bv b') = pieceL c n p m b' := by
  have : (bv b').length = (bv b).length := by simp [bv_length, h]
  simp [splice, pieceL, this]
  omega
def structFields (P : Program) (t : TypeId) : Array Field := match P.underlying t with | some (.struct fs) => fs | _ => #[]
set_option maxHeartbeats 2000000 in
set_option maxRecDepth 20000 in
theorem read31 (hb : List UInt8) (hl : hb.length = 64) (w : World) :
    Calls Tryz.prog 96 #[.agg (bv hb).toArray] w fun e w' => e = .returned (.tuple #[.agg (pieceL (hCount hb) (hNum hb) (hPlace hb) (hMany hb) (hBody hb)).toArray, .bool (mayT (hCount hb) (hNum hb))]) ∧ Below w.heap.size w w' := by
  obtain ⟨c, hc⟩ : ∃ c, c = hCount hb := ⟨_, rfl⟩
  obtain ⟨n, hn⟩ : ∃ n, n = hNum hb := ⟨_, rfl⟩
  obtain ⟨pl, hpl⟩ : ∃ pl, pl = hPlace hb := ⟨_, rfl⟩
  obtain ⟨m, hm⟩ : ∃ m, m = hMany hb := ⟨_, rfl⟩
  have hcb : c < 18446744073709551616 := by rw [hc]; exact numB_lt_of _ 8 (by simp; omega)
  have hnb : n < 4294967296 := by rw [hn]; exact numB_lt_of _ 4 (by simp; omega)
  have hpb : pl < 65536 := by rw [hpl]; exact numB_lt_of _ 2 (by simp; omega)
  have hmb : m < 65536 := by rw [hm]; exact numB_lt_of _ 2 (by simp; omega)
  have sl : ∀ (o k : Nat), o + k ≤ 64 → k ≤ 8 → ∀ (g : Nat) (w' : World), row w' g (bv hb) 142 → SlAt w' (some ⟨g, o, none⟩) k 1 (bv ((hb.drop o).take k)) := fun o k hok hk g w' hr => by
    have := hr.slAt o k 1 (by rw [bv_length]; omega) (by unfold maxLen; omega)
    rwa [← bv_drop, Nat.mul_one, ← bv_take] at this
  have c1 : ∀ (g : Nat) (w' : World), row w' g (bv hb) 142 → Calls Tryz.prog 98 #[.slice (some ⟨g, 0, none⟩) 8 8] w' fun e w2 => e = .returned (.int .u64 c) ∧ w' = w2 := fun g w' hr => by
    have := number33 (some ⟨g, 0, none⟩) 8 8 _ w' (sl 0 8 (by omega) (by omega) g w' hr) (by omega)
    rwa [hc]
  have c2 : ∀ (g : Nat) (w' : World), row w' g (bv hb) 142 → Calls Tryz.prog 98 #[.slice (some ⟨g, 8, none⟩) 4 4] w' fun e w2 => e = .returned (.int .u64 n) ∧ w' = w2 := fun g w' hr => by
    have := number33 (some ⟨g, 8, none⟩) 4 4 _ w' (sl 8 4 (by omega) (by omega) g w' hr) (by omega)
    rwa [hn]
  have c3 : ∀ (g : Nat) (w' : World), row w' g (bv hb) 142 → Calls Tryz.prog 98 #[.slice (some ⟨g, 12, none⟩) 2 2] w' fun e w2 => e = .returned (.int .u64 pl) ∧ w' = w2 := fun g w' hr => by
    have := number33 (some ⟨g, 12, none⟩) 2 2 _ w' (sl 12 2 (by omega) (by omega) g w' hr) (by omega)
    rwa [hpl]
  have c4 : ∀ (g : Nat) (w' : World), row w' g (bv hb) 142 → Calls Tryz.prog 98 #[.slice (some ⟨g, 14, none⟩) 2 2] w' fun e w2 => e = .returned (.int .u64 m) ∧ w' = w2 := fun g w' hr => by
    have := number33 (some ⟨g, 14, none⟩) 2 2 _ w' (sl 14 2 (by omega) (by omega) g w' hr) (by omega)
    rwa [hm]
  rw [← hc, ← hn, ← hpl, ← hm]
  have C1 := Lib.hid c1
  have C2 := Lib.hid c2
  have C3 := Lib.hid c3
  have C4 := Lib.hid c4
  have HL := Lib.hid hl
  have wn : IntKind.i64.wrap (n : Int) = n := by rw [IntKind.wrap_i64]; omega
  have wp : IntKind.i64.wrap (pl : Int) = pl := by rw [IntKind.wrap_i64]; omega
  have wm : IntKind.i64.wrap (m : Int) = m := by rw [IntKind.wrap_i64]; omega
  have hap := run_arrayAt (P := Tryz.prog) 141 5 48 (by kernel_rfl)
  clear c1 c2 c3 c4 sl hc hn hpl hm hl
  have hz : (pieceL 0 0 0 0 (zerosB 48)).length = 52 := by rw [pieceL_length]; simp [zerosB]
  have HZ := Lib.hid hz
  clear hz
  go_enter Tryz.func96, Tryz.ntmps96
  go_wp2_with (first
    | (with_reducible refine at_op (.box 142 _) ?_; refine wpList_box_row rfl 142 _ rfl (bv hb) rfl ?_; intro g1 w1 hg1 hr1 hb1)
    | (with_reducible refine at_op (.alloc 144) ?_; refine wpList_alloc_row rfl 144 rfl _ zero_cells61 ?_; intro g2 w2 hg2 hr2 hb2))
  have hne : g1 ≠ g2 := by have := hr1.lt; omega
  have hS : HS g1 (bv hb) 142 g2 52 w2 := ⟨hr1.new hb2, by have := hr2.there; rwa [HZ.out] at this⟩
  have k1 : ∀ (j : Nat), j < 52 → ∀ w', HS g1 (bv hb) 142 g2 52 w' → w'.cell? ⟨g2, j, none⟩ = some (cellOf w' ⟨g2, j, none⟩) := HS.cell
  have k2 : ∀ (j : Nat), j < 52 → ∀ w', HS g1 (bv hb) 142 g2 52 w' → w'.frozen? ⟨g2, j, none⟩ = false := HS.frozen
  go_region_held3 (HS g1 (bv hb) 142 g2 52) (first | assumption | (exact HS.drew (by assumption)) | (exact HS.setc (by assumption) hne _ _) | (exact HS.setc (HS.setc (by assumption) hne _ _) hne _ _))
    (first
      | (go_at_call_of 98 (Value.slice (some ⟨g1, 0, none⟩) 8 8); refine (C1.out _ _ (HS.out1 (by assumption))).mono ?_; rintro e w' ⟨rfl, rfl⟩)
      | (go_at_call_of 98 (Value.slice (some ⟨g1, 8, none⟩) 4 4); refine (C2.out _ _ (HS.out1 (by assumption))).mono ?_; rintro e w' ⟨rfl, rfl⟩))
  have hr3 := ((hr2.setc 0 (.int .u64 c)).setc 1 (.int .i64 n)).drew
  rw [piece_set0, piece_set1] at hr3
  have ho3 := ((Only.setCell w2 g2 0 (.int .u64 c)).trans (Only.setCell _ g2 1 (.int .i64 n))).drew
  obtain ⟨w3, hw3⟩ : ∃ x, x = ((w2.setCell ⟨g2, 0, none⟩ (Value.int .u64 c)).setCell ⟨g2, 1, none⟩ (.int .i64 n)).drew := ⟨_, rfl⟩
  rw [← hw3] at hr3 ho3 ⊢
  have hS3 : HS g1 (bv hb) 142 g2 52 w3 := by rw [hw3]; exact ((hS.setc hne _ _).setc hne _ _).drew
  clear hw3
  go_wp2
  go_region_held3 (HS g1 (bv hb) 142 g2 52) (first | assumption | (exact HS.drew (by assumption)) | (exact HS.setc (by assumption) hne _ _) | (exact HS.setc (HS.setc (by assumption) hne _ _) hne _ _))
    (first
      | (go_at_call_of 98 (Value.slice (some ⟨g1, 12, none⟩) 2 2); refine (C3.out _ _ (HS.out1 (by assumption))).mono ?_; rintro e w' ⟨rfl, rfl⟩)
      | (go_at_call_of 98 (Value.slice (some ⟨g1, 14, none⟩) 2 2); refine (C4.out _ _ (HS.out1 (by assumption))).mono ?_; rintro e w' ⟨rfl, rfl⟩))
  have hr4 := ((hr3.setc 2 (.int .i64 pl)).setc 3 (.int .i64 m)).drew
  rw [piece_set2, piece_set3] at hr4
  have ho4 := ((Only.setCell w3 g2 2 (.int .i64 pl)).trans (Only.setCell _ g2 3 (.int .i64 m))).drew
  obtain ⟨w4, hw4⟩ : ∃ x, x = ((w3.setCell ⟨g2, 2, none⟩ (Value.int .i64 pl)).setCell ⟨g2, 3, none⟩ (.int .i64 m)).drew := ⟨_, rfl⟩
  rw [← hw4] at hr4 ho4 ⊢
  have hS4 : HS g1 (bv hb) 142 g2 52 w4 := by rw [hw4]; exact ((hS3.setc hne _ _).setc hne _ _).drew
  clear hw4 hS3 hS
  have hbl : (hBody hb).length = 48 := by rw [hBody, List.length_drop, HL.out]
  have hrb : w4.rangeAt g1 16 (bv (hBody hb)) := by
    refine hS4.1.range 16 _ fun j v hv => ?_
    rw [hBody, bv_drop, List.getElem?_drop] at hv
    exact hv
  have HB := Lib.hid hbl
  have HRB := Lib.hid hrb
  clear hbl hrb
  go_wp2_with (first
    | (with_reducible refine at_op (.load 141 _) ?_; refine wpList_load_rng rfl 141 _ rfl g1 16 rfl (bv (hBody hb)) HRB.out row58 (by rw [bv_length, HB.out]; exact size58) ?_)
    | (with_reducible refine at_op (.store 141 _ _) ?_; refine wpList_store_at rfl 141 _ _ rfl g2 4 rfl (bv (hBody hb)) rfl _ 144 hr4 (by rw [bv_length, HB.out]; exact size58) (by rw [pieceL_length, bv_length, HB.out, zerosB, List.length_replicate]; omega) (bv_one _) ?_; intro l5 w5 HL5 hr5 ho5))
  have h5 : l5 = pieceL c n pl m (hBody hb) := by rw [HL5.out, piece_body _ _ _ _ _ _ (by rw [HB.out, zerosB, List.length_replicate])]
  have hp : ∀ v ∈ l5, v.oneCell' = true := by rw [h5]; exact pieceL_one _ _ _ _ _
  have h52 : l5.length = 52 := by rw [h5, pieceL_length, HB.out]
  have H5 := Lib.hid h5
  have ht : ∀ w', row w' g2 l5 144 → w'.rangeAt g2 0 [.int .u64 c, .int .i64 n] := fun w' h => h.range 0 _ fun j v hv => by
    rw [h5]
    rcases j with _ | _ | j
    · exact hv
    · exact hv
    · simp at hv
  refine wp_region_held_drew (S := fun w' => row w' g2 l5 144) (by kernel_rfl) (row.drew hr5) (fun hH => ?_)
  refine wpAnyH_take (i := 1) (v := .pointer (some ⟨g2, 0, none⟩)) rfl (by kernel_rfl) (by kernel_rfl) (by kernel_rfl) (fun _ _ _ h => h) (Or.inl ⟨by rfl, fun w _ => by go_simp⟩) hH ?_
  refine wpAnyH_take (i := 0) (v := .agg l5.toArray) rfl (by kernel_rfl) (by kernel_rfl) (by kernel_rfl) (fun _ _ _ h => h) (Or.inl ⟨by rfl, fun w h => run_load_rng _ 144 _ rfl g2 0 rfl l5 h.range_all row61 (by rw [h52]; exact size61)⟩) hH ?_
  refine wpAnyH_take (i := 2) (v := .agg #[.int .u64 c, .int .i64 n]) rfl (by kernel_rfl) (by kernel_rfl) (by kernel_rfl) (fun _ _ _ h => h) (Or.inl ⟨by rfl, fun w h => run_load_rng _ 86 _ rfl g2 0 rfl [.int .u64 c, .int .i64 n] (ht w h) row24 size24⟩) hH ?_
  refine wpAnyH_ready (rs := [3]) (by kernel_rfl) (by simp) ?_
  have call10 : ∀ w', (callFunc 85 (#[] ++ #[Value.agg #[.int .u64 c, .int .i64 n]] ++ #[])).run Tryz.prog w' = .ok (.enter 85 #[.agg #[.int .u64 c, .int .i64 n]]) w' := fun w' => by go_simp
  refine AllReadyH.cons rfl (fun K hK => ?_) AllReadyH.nil
  refine step_call_fn rfl 85 _ _ rfl [.agg #[.int .u64 c, .int .i64 n]] rfl (call10 _) ((may10 c n _).mono ?_)
  rintro e w6 ⟨rfl, hb6⟩
  refine ⟨_, rfl, hK.out _ _ (row.new hH hb6) (fun hH6 => ?_)⟩
  refine wpAnyH_ready (rs := [4]) (by kernel_rfl) (by simp) ?_
  refine AllReadyH.cons rfl (fun K hK => ?_) AllReadyH.nil
  refine step_store_at rfl 144 _ _ rfl g2 0 rfl l5 rfl l5 144 hH6 (by rw [h52]; exact size61) (by omega) hp ?_
  intro l7 w7 HL7 hr7 ho7
  rw [show l7 = l5 by rw [HL7.out, splice_all _ _ rfl]] at hr7
  refine hK.out _ _ hr7 (fun hH7 => ?_)
  refine wpAnyH_take (i := 5) (v := .bool (mayT c n)) rfl (by kernel_rfl) (by kernel_rfl) (by kernel_rfl) (fun _ _ _ h => h) (Or.inl ⟨by rfl, fun w _ => by rfl⟩) hH7 ?_
  refine wpAnyH_done (by kernel_rfl) ?_ _
  go_wp2
  refine bodyPost_ret (results_cell_slot rfl _ _ g2 144 _ rfl hr7 row61 (by rw [h52]; exact size61)) rfl ?_
  rw [H5.out]
  refine ⟨rfl, ?_⟩
  have e1 := hb1.trans (hb2.mono hb1.size)
  have hg : w.heap.size ≤ g2 := Nat.le_trans hb1.size hg2
  have e2 := ho5.below (ho4.below (ho3.below e1 hg) hg) hg
  exact ho7.below (e2.drew.trans (hb6.mono e2.size)) hg
end Go.Proofs.YtkkgahgpemepeaaGreat
namespace Go.Proofs.YtkkgahgpemepeaaGreat
open Go Go.RowKit Coup
theorem beB_get (m x i : Nat) (h : i < m) : (beB m x)[i]? = some (UInt8.ofNat (x / 256 ^ (m - 1 - i))) := by
  induction m generalizing i with
  | zero => omega
  | succ m ih =>
    rw [beB_cons]
    rcases i with _ | i
    · simp
    · rw [List.getElem?_cons_succ, ih i (by omega), show m - 1 - i = m + 1 - 1 - (i + 1) by omega]
theorem splice_step (l : List Value) (off : Nat) (m x i : Nat) (h : i < m) (hl : off + m ≤ l.length) :
    (splice l off (bv ((beB m x).take i))).set (off + i) (byteV (UInt8.ofNat (x / 256 ^ (m - 1 - i)))) = splice l off (bv ((beB m x).take (i + 1))) := by
  have e : (beB m x).take (i + 1) = (beB m x).take i ++ [UInt8.ofNat (x / 256 ^ (m - 1 - i))] := by rw [List.take_add_one, beB_get _ _ _ h]; rfl
  have hlen : (bv ((beB m x).take i)).length = i := by rw [bv_length, List.length_take, beB_length]; omega
  have hlen2 : (bv ((beB m x).take (i + 1))).length = i + 1 := by rw [bv_length, List.length_take, beB_length]; omega
  rw [splice, splice, hlen2, hlen, e, bv_append, List.set_append_right _ _ (by simp; omega), List.set_append_right _ _ (by simp; omega)]
  rw [List.length_take, Nat.min_eq_left (by omega), hlen, Nat.add_sub_cancel_left, Nat.sub_self]
  have : l.drop (off + i) = l[off + i]'(by omega) :: l.drop (off + i + 1) := List.drop_eq_getElem_cons (by omega)
  rw [this]
  simp [bv, Nat.add_assoc]
theorem shr_byte (x k : Nat) : Value.int .u8 ((x : Int) / 2 ^ (8 * k) % 256) = byteV (UInt8.ofNat (x / 256 ^ k)) := by
  have h : (256 : Nat) ^ k = 2 ^ (8 * k) := by rw [show 256 = 2 ^ 8 by rfl, ← Nat.pow_mul]
  rw [byteV, h]
  congr 1
theorem put38 (x m : Nat) (hm : m ≤ 8) (gh ga : Nat) (l : List Value) (at_ : Nat) (w : World) (hr : row w gh l 142) (hl : l.length = 64) (ha : row w ga [.int .i64 at_] 3) (hat : at_ + m ≤ 64) (hne : gh ≠ ga) :
    Calls Tryz.prog 94 #[.int .u64 x, .int .i64 m, .pointer (some ⟨gh, 0, none⟩), .pointer (some ⟨ga, 0, none⟩)] w fun e w' => e = .returned (.tuple #[]) ∧ row w' gh (splice l at_ (bv (beB m x))) 142 ∧ row w' ga [.int .i64 (at_ + m : Nat)] 3 ∧
      ∀ B, B ≤ gh → B ≤ ga → Below B w w' := by
  go_enter Tryz.func94, Tryz.ntmps94
  go_wp2
  go_loopw [8] (fun i wr => ∃ k : Nat, k ≤ m ∧ i = .int .i64 k ∧ row wr gh (splice l at_ (bv ((beB m x).take k))) 142 ∧ row wr ga [.int .i64 at_] 3 ∧ ∀ B, B ≤ gh → B ≤ ga → Below B w wr) (fun i _ => m - (intOf i).toNat)
  case atStart => exact ⟨0, by omega, rfl, by simpa [splice, bv] using hr, ha, fun B _ _ => Below.refl B w⟩
  case round =>
    obtain ⟨k, hk, rfl, hr2, ha2, hb2⟩ := hrel
    by_cases hlt : k < m
    · have hc := ha2.cell 0 (v := .int .i64 at_) rfl
      have hlen : (splice l at_ (bv ((beB m x).take k))).length = 64 := by rw [length_splice _ _ _ (by rw [bv_length, List.length_take, beB_length]; omega), hl]
      obtain ⟨u, hu⟩ : ∃ u, (splice l at_ (bv ((beB m x).take k)))[at_ + k]? = some u := ⟨_, List.getElem?_eq_getElem (by omega)⟩
      have hd := hr2.cell (at_ + k) hu
      have hf := hr2.frozen (at_ + k)
      have H2 := Lib.hid hr2
      have A2 := Lib.hid ha2
      have B2 := Lib.hid hb2
      have HL := Lib.hid hl
      clear hr2 ha2 hb2 hlen hu hr ha hl
      go_wp2
      go_region
      go_wp2
      go_roundw
      case rel =>
        refine ⟨k + 1, by omega, by go_num, ?_, ?_, ?_⟩
        · have := (H2.out.setc (at_ + k) (byteV (UInt8.ofNat (x / 256 ^ (m - 1 - k))))).drew
          rw [splice_step _ _ _ _ _ hlt (by rw [HL.out]; omega)] at this
          rw [shr_byte]
          exact this
        · exact (A2.out.only (Only.setCell _ gh _ _) (by omega)).drew
        · exact fun B h1 h2 => ((Only.setCell _ gh _ _).below (B2.out B h1 h2) h1).drew
      case measure => simp [intOf] <;> omega
    · obtain rfl : k = m := by omega
      have hc := ha2.cell 0 (v := .int .i64 at_) rfl
      have hf := ha2.frozen 0
      have hfull : (beB k x).take k = beB k x := List.take_of_length_le (by rw [beB_length]; omega)
      rw [hfull] at hr2
      have H2 := Lib.hid hr2
      have A2 := Lib.hid ha2
      have B2 := Lib.hid hb2
      clear hr2 ha2 hb2 hr ha hl hfull
      go_wp2
      go_end0
      refine ⟨rfl, H2.out.only (Only.setCell _ ga _ _) hne, ?_, fun B h1 h2 => (Only.setCell _ ga _ _).below (B2.out B h1 h2) h2⟩
      have := A2.out.setc 0 (.int .i64 (at_ + k : Nat))
      simpa using this
end Go.Proofs.YtkkgahgpemepeaaGreat
namespace Go.Proofs.YtkkgahgpemepeaaGreat
open Go Go.RowKit Coup
def halfB (c n p m : Nat) (b : List UInt8) : List UInt8 := beB 8 c ++ (beB 4 n ++ (beB 2 p ++ (beB 2 m ++ b)))
theorem halfB_length (c n p m : Nat) (b : List UInt8) : (halfB c n p m b).length = 16 + b.length := by simp [halfB, beB_length]; omega
theorem splice_head {α : Type} (pre x y post : List α) (h : x.length = y.length) : splice (pre ++ (x ++ post)) pre.length y = pre ++ (y ++ post) := by
  rw [splice, List.take_left, ← h, ← List.drop_drop, List.drop_left, List.drop_left]
theorem bytes_steps (c n p m : Nat) (b : List UInt8) (hb : b.length = 48) :
    splice (splice (splice (splice (splice (bv (zerosB 64)) 0 (bv (beB 8 c))) 8 (bv (beB 4 n))) 12 (bv (beB 2 p))) 14 (bv (beB 2 m))) 16 (bv b) = bv (halfB c n p m b) := by
  have z : bv (zerosB 64) = [] ++ (bv (zerosB 8) ++ (bv (zerosB 4) ++ (bv (zerosB 2) ++ (bv (zerosB 2) ++ bv (zerosB 48))))) := by simp only [← bv_append, List.nil_append]; rfl
  have l8 : (bv (zerosB 8)).length = (bv (beB 8 c)).length := by rw [bv_length, bv_length, beB_length]; rfl
  have l4 : (bv (zerosB 4)).length = (bv (beB 4 n)).length := by rw [bv_length, bv_length, beB_length]; rfl
  have l2 : (bv (zerosB 2)).length = (bv (beB 2 p)).length := by rw [bv_length, bv_length, beB_length]; rfl
  have l2' : (bv (zerosB 2)).length = (bv (beB 2 m)).length := by rw [bv_length, bv_length, beB_length]; rfl
  have l48 : (bv (zerosB 48)).length = (bv b).length := by rw [bv_length, bv_length, hb]; rfl
  have k8 : (bv (beB 8 c)).length = 8 := by rw [bv_length, beB_length]
  have k12 : (bv (beB 8 c) ++ bv (beB 4 n)).length = 12 := by rw [List.length_append, bv_length, bv_length, beB_length, beB_length]
  have k14 : ((bv (beB 8 c) ++ bv (beB 4 n)) ++ bv (beB 2 p)).length = 14 := by rw [List.length_append, k12, bv_length, beB_length]
  have k16 : (((bv (beB 8 c) ++ bv (beB 4 n)) ++ bv (beB 2 p)) ++ bv (beB 2 m)).length = 16 := by rw [List.length_append, k14, bv_length, beB_length]
  rw [z]
  have s1 := splice_head [] (bv (zerosB 8)) (bv (beB 8 c)) (bv (zerosB 4) ++ (bv (zerosB 2) ++ (bv (zerosB 2) ++ bv (zerosB 48)))) l8
  simp only [List.length_nil] at s1
  rw [s1, List.nil_append]
  have s2 := splice_head (bv (beB 8 c)) (bv (zerosB 4)) (bv (beB 4 n)) (bv (zerosB 2) ++ (bv (zerosB 2) ++ bv (zerosB 48))) l4
  rw [k8] at s2
  rw [s2, ← List.append_assoc]
  have s3 := splice_head (bv (beB 8 c) ++ bv (beB 4 n)) (bv (zerosB 2)) (bv (beB 2 p)) (bv (zerosB 2) ++ bv (zerosB 48)) l2
  rw [k12] at s3
  rw [s3, ← List.append_assoc]
  have s4 := splice_head ((bv (beB 8 c) ++ bv (beB 4 n)) ++ bv (beB 2 p)) (bv (zerosB 2)) (bv (beB 2 m)) (bv (zerosB 48)) l2'
  rw [k14] at s4
  rw [s4, ← List.append_assoc]
  have s5 := splice_head (((bv (beB 8 c) ++ bv (beB 4 n)) ++ bv (beB 2 p)) ++ bv (beB 2 m)) (bv (zerosB 48)) (bv b) [] l48
  rw [k16, List.append_nil, List.append_nil] at s5
  rw [s5, halfB]
  simp only [bv_append, List.append_assoc]
structure BI (B g1 g2 ga : Nat) (L l : List Value) (x : Int) (w0 w : World) : Prop where
  p : row w g1 L 144
  h : row w g2 l 142
  a : row w ga [.int .i64 x] 3
  b : Below B w0 w
  o1 : g1 < g2
  o2 : g2 < ga
  o3 : B ≤ g1
  len : l.length = 64
theorem put_call {B g1 g2 ga : Nat} {L l : List Value} {x : Nat} {w0 w : World} (h : BI B g1 g2 ga L l x w0 w) (v m : Nat) (hm : m ≤ 8) (hx : x + m ≤ 64) :
    Calls Tryz.prog 94 #[.int .u64 v, .int .i64 m, .pointer (some ⟨g2, 0, none⟩), .pointer (some ⟨ga, 0, none⟩)] w fun e w' => e = .returned (.tuple #[]) ∧ BI B g1 g2 ga L (splice l x (bv (beB m v))) ((x + m : Nat) : Int) w0 w' := by
  have := h.o2
  refine (put38 v m hm g2 ga l x w h.h h.len h.a hx (by omega)).mono ?_
  rintro e w' ⟨rfl, h1, h2, h3⟩
  have hb := h3 g2 (Nat.le_refl _) (by omega)
  exact ⟨rfl, h.p.below hb h.o1, h1, h2, h.b.trans (hb.mono (by have := h.o1; have := h.o3; omega)), h.o1, h.o2, h.o3, by rw [length_splice _ _ _ (by rw [bv_length, beB_length, h.len]; omega), h.len]⟩
theorem BI.c0 {B g1 g2 ga : Nat} {c n p m : Int} {b : List UInt8} {l : List Value} {x : Int} {w0 w : World} (h : BI B g1 g2 ga (pieceL c n p m b) l x w0 w) : w.cell? ⟨g1, 0, none⟩ = some (.int .u64 c) := h.p.cell 0 rfl
theorem BI.c1 {B g1 g2 ga : Nat} {c n p m : Int} {b : List UInt8} {l : List Value} {x : Int} {w0 w : World} (h : BI B g1 g2 ga (pieceL c n p m b) l x w0 w) : w.cell? ⟨g1, 1, none⟩ = some (.int .i64 n) := h.p.cell 1 rfl
theorem BI.c2 {B g1 g2 ga : Nat} {c n p m : Int} {b : List UInt8} {l : List Value} {x : Int} {w0 w : World} (h : BI B g1 g2 ga (pieceL c n p m b) l x w0 w) : w.cell? ⟨g1, 2, none⟩ = some (.int .i64 p) := h.p.cell 2 rfl
theorem BI.c3 {B g1 g2 ga : Nat} {c n p m : Int} {b : List UInt8} {l : List Value} {x : Int} {w0 w : World} (h : BI B g1 g2 ga (pieceL c n p m b) l x w0 w) : w.cell? ⟨g1, 3, none⟩ = some (.int .i64 m) := h.p.cell 3 rfl
theorem BI.start {L : List Value} {w : World} {g1 g2 ga : Nat} {w1 w2 w3 w4 : World} {l4 : List Value} (a1 : w.heap.size ≤ g1) (a2 : row w1 g1 L 144) (a3 : Below w.heap.size w w1) (b1 : w1.heap.size ≤ g2) (b2 : row w2 g2 (bv (zerosB 64)) 142) (b3 : Below w1.heap.size w1 w2)
    (c1 : w2.heap.size ≤ ga) (_c2 : row w3 ga [.int .i64 0] 3) (c3 : Below w2.heap.size w2 w3) (d1 : Hid (l4 = splice [.int .i64 0] 0 [.int .i64 0])) (d2 : row w4 ga l4 3) (d3 : Only ga w3 w4) : BI w.heap.size g1 g2 ga L (bv (zerosB 64)) ((0 : Nat) : Int) w w4 := by
  have e1 := a2.lt
  have e2 := b2.lt
  have e3 := a3.size
  have e4 := b3.size
  rw [show l4 = [.int .i64 0] from d1.out] at d2
  exact ⟨((a2.new b3).new c3).only d3 (by omega), (b2.new c3).only d3 (by omega), d2, d3.below ((a3.trans (b3.mono e3)).trans (c3.mono (by omega))) (by omega), by omega, by omega, a1, by rw [bv_length]; rfl⟩
theorem bytes27 (c n p m : Nat) (b : List UInt8) (hb : b.length = 48) (_hc : c < 18446744073709551616) (hn : n < 4294967296) (hp : p < 65536) (hm : m < 65536) (w : World) :
    Calls Tryz.prog 87 #[.agg (pieceL c n p m b).toArray] w fun e w' => e = .returned (.agg (bv (halfB c n p m b)).toArray) ∧ Below w.heap.size w w' := by
  have HB := Lib.hid hb
  clear hb
  have wn : IntKind.u64.wrap (n : Int) = n := by rw [IntKind.wrap_u64]; omega
  have wp : IntKind.u64.wrap (p : Int) = p := by rw [IntKind.wrap_u64]; omega
  have wm : IntKind.u64.wrap (m : Int) = m := by rw [IntKind.wrap_u64]; omega
  have hz3 : (Tryz.prog.info? 3).map (fun i => i.zero.map (·.cells)) = some (some [Value.int .i64 0].toArray) := by kernel_rfl
  go_enter Tryz.func87, Tryz.ntmps87
  go_wp2_with (first
    | (with_reducible refine at_op (.box 144 _) ?_; refine wpList_box_row rfl 144 _ rfl (pieceL c n p m b) rfl ?_; intro g1 w1 hg1 hr1 hb1)
    | (with_reducible refine at_op (.alloc 142) ?_; refine wpList_alloc_row rfl 142 rfl _ zero_cells59 ?_; intro g2 w2 hg2 hr2 hb2)
    | (with_reducible refine at_op (.alloc 3) ?_; refine wpList_alloc_row rfl 3 rfl _ hz3 ?_; intro ga w3 hga ha3 hb3)
    | (with_reducible refine at_op (.store 3 _ _) ?_; refine wpList_store_at rfl 3 _ _ rfl ga 0 rfl [.int .i64 0] rfl _ 3 ha3 (by kernel_rfl) (by simp) (by simp [Value.oneCell']) ?_; intro l4 w4 HL4 hr4 ho4
       have I0 := BI.start hg1 hr1 hb1 hg2 hr2 hb2 hga ha3 hb3 HL4 hr4 ho4
       clear hg1 hr1 hb1 hg2 hr2 hb2 hga ha3 hb3 HL4 hr4 ho4
       have q0 := I0.c0)
    | (go_at_call_of 94 (Value.int .u64 (c : Int)); refine (put_call I0 c 8 (by omega) (by omega)).mono ?_; rintro e w5 ⟨rfl, I1⟩; clear I0 q0; have q1 := I1.c1)
    | (go_at_call_of 94 (Value.int .u64 (n : Int)); refine (put_call I1 n 4 (by omega) (by omega)).mono ?_; rintro e w6 ⟨rfl, I2⟩; clear I1 q1; have q2 := I2.c2)
    | (go_at_call_of 94 (Value.int .u64 (p : Int)); refine (put_call I2 p 2 (by omega) (by omega)).mono ?_; rintro e w7 ⟨rfl, I3⟩; clear I2 q2; have q3 := I3.c3)
    | (go_at_call_of 94 (Value.int .u64 (m : Int)); refine (put_call I3 m 2 (by omega) (by omega)).mono ?_; rintro e w8 ⟨rfl, I4⟩; clear I3 q3))
  have hx : row w8 ga [.int .i64 16] 3 := I4.a
  have hg2 := I4.h
  rw [show ((0 + 8 + 4 : Nat) + 2 : Nat) = 14 from rfl, show ((0 + 8 : Nat) + 4 : Nat) = 12 from rfl, show (0 + 8 : Nat) = 8 from rfl] at hg2
  have hlen := I4.len
  rw [show ((0 + 8 + 4 : Nat) + 2 : Nat) = 14 from rfl, show ((0 + 8 : Nat) + 4 : Nat) = 12 from rfl, show (0 + 8 : Nat) = 8 from rfl] at hlen
  have hst := bytes_steps c n p m b HB.out
  generalize splice (splice (splice (splice (bv (zerosB 64)) 0 (bv (beB 8 c))) 8 (bv (beB 4 n))) 12 (bv (beB 2 p))) 14 (bv (beB 2 m)) = l8 at hg2 hlen hst
  have hp1 := I4.p
  have hob := I4.b
  have o2 := I4.o2
  have o1 := I4.o1
  have o3 := I4.o3
  clear I4
  have hx0 := hx.cell 0 (v := .int .i64 16) rfl
  have hsrc : ∀ j v, (bv b)[j]? = some v → w8.drew.cell? ((⟨g1, 4, none⟩ : Addr).add j) = some v := fun j v hv => by
    rw [Addr.add_lit]
    exact hp1.drew.cell (4 + j) (by rw [pieceL, List.getElem?_append_right (by simp)]; simpa using hv)
  have HS := Lib.hid hsrc
  have HST := Lib.hid hst
  have HL := Lib.hid hlen
  clear hsrc hst hlen
  go_region_held3 (fun w' => w'.cell? ⟨ga, 0, none⟩ = some (.int .i64 16)) (first | assumption | go_keep)
    (first
      | (refine step_copy_at rfl _ _ _ _ rfl 5 (by kernel_rfl) (by kernel_rfl) _ _ _ _ _ _ rfl rfl g2 16 l8 142 hg2.drew (bv b) (by rw [bv_length, HB.out]; rfl) (fun _ => ⟨rfl, _, rfl, HS.out⟩) (by rw [bv_length, HB.out, HL.out]; omega) (bv_one b) ?_; intro l9 w9 HL9 hr9 ho9
         have hx9 : w9.cell? ⟨ga, 0, none⟩ = some (.int .i64 16) := (hx.drew.only ho9 (by omega)).cell 0 rfl))
  have h9 : l9 = bv (halfB c n p m b) := by rw [HL9.out]; exact HST.out
  have h64 : (bv (halfB c n p m b)).length = 64 := by rw [bv_length, halfB_length, HB.out]
  have hb9 := ho9.below hob.drew (by omega)
  rw [h9] at hr9
  have HR9 := Lib.hid hr9
  have H64 := Lib.hid h64
  have HB9 := Lib.hid hb9
  clear h9 HL9 hr9 h64 hb9 hx9 hg2 ho9 HST HS hob hp1 hx hx0
  go_wp2_with (first
    | (with_reducible refine at_op (.load 142 _) ?_; refine wpList_load_rng rfl 142 _ rfl g2 0 rfl (bv (halfB c n p m b)) HR9.out.range_all row59 (by rw [H64.out]; exact size59) ?_)
    | (with_reducible refine at_op (.store 142 _ _) ?_; refine wpList_store_at rfl 142 _ _ rfl g2 0 rfl (bv (halfB c n p m b)) rfl _ 142 HR9.out (by rw [H64.out]; exact size59) (by rw [H64.out]; omega) (bv_one _) ?_; intro l10 w10 HL10 hr10 ho10))
  rw [show l10 = bv (halfB c n p m b) by rw [HL10.out, splice_all _ _ rfl]] at hr10
  refine bodyPost_ret (results_cell_rng rfl _ _ g2 142 _ rfl hr10 row59 (by rw [H64.out]; exact size59)) rfl ?_
  exact ⟨rfl, ho10.below HB9.out (by omega)⟩
end Go.Proofs.YtkkgahgpemepeaaGreat
namespace Go.Proofs.YtkkgahgpemepeaaGreat
open Go Go.RowKit Coup
def tornB (a b : List UInt8) : List UInt8 := a.take 64 ++ b.drop 64
theorem tornB_length (a b : List UInt8) (ha : a.length = 128) (hb : b.length = 128) : (tornB a b).length = 128 := by simp [tornB]; omega
theorem torn23 (a b : List UInt8) (ha : a.length = 128) (hb : b.length = 128) (w : World) : Calls Tryz.prog 67 #[.agg (bv a).toArray, .agg (bv b).toArray] w fun e w' => e = .returned (.agg (bv (tornB a b)).toArray) ∧ Below w.heap.size w w' := by
  have HA := Lib.hid ha
  have HB := Lib.hid hb
  clear ha hb
  go_enter Tryz.func67, Tryz.ntmps67
  go_wp2_with (first
    | (with_reducible refine at_op (.box 45 (.tmp 0)) ?_; refine wpList_box_row rfl 45 _ rfl (bv a) rfl ?_; intro g1 w1 hg1 hr1 hb1)
    | (with_reducible refine at_op (.box 45 (.tmp 1)) ?_; refine wpList_box_row rfl 45 _ rfl (bv b) rfl ?_; intro g2 w2 hg2 hr2 hb2)
    | (with_reducible refine at_op (.alloc 45) ?_; refine wpList_alloc_row rfl 45 rfl _ zero_cells48 ?_; intro g3 w3 hg3 hr3 hb3))
  have h1 := (hr1.new hb2).new hb3
  have h2 := hr2.new hb3
  have o12 : g1 < g2 := by have := hr1.lt; omega
  have o23 : g2 < g3 := by have := hr2.lt; omega
  have hbb := (hb1.trans (hb2.mono hb1.size)).trans (hb3.mono (Nat.le_trans hb1.size hb2.size))
  have hsrc : ∀ j v, (bv (a.take 64))[j]? = some v → w3.drew.cell? ((⟨g1, 0, none⟩ : Addr).add j) = some v := fun j v hv => by
    rw [Addr.add_lit]
    rw [bv_take, List.getElem?_take] at hv
    split at hv
    · exact h1.drew.cell (0 + j) (by rwa [Nat.zero_add])
    · cases hv
  have HS := Lib.hid hsrc
  have hl64 : (bv (a.take 64)).length = 64 := by rw [bv_length, List.length_take, HA.out]; rfl
  have H64 := Lib.hid hl64
  clear hsrc hl64
  go_region_held3 (fun _ => True) (exact trivial)
    (first
      | (refine step_copy_at rfl _ _ _ _ rfl 5 (by kernel_rfl) (by kernel_rfl) _ _ _ _ _ _ rfl rfl g2 0 (bv b) 45 h2.drew (bv (a.take 64)) (by rw [H64.out]; rfl) (fun _ => ⟨rfl, _, rfl, HS.out⟩) (by rw [H64.out, bv_length, HB.out]; omega) (bv_one _) ?_; intro l9 w9 HL9 hr9 ho9))
  have h9 : l9 = bv (tornB a b) := by
    rw [HL9.out, splice, H64.out, tornB, bv_append, bv_drop]
    simp
  rw [h9] at hr9
  have h128 : (bv (tornB a b)).length = 128 := by rw [bv_length, tornB_length _ _ HA.out HB.out]
  have hr39 := hr3.drew.only ho9 (by omega)
  have hb9 := ho9.below hbb.drew (by omega)
  have HR := Lib.hid hr9
  have H128 := Lib.hid h128
  clear h9 HL9 hr9 h128 HS
  go_wp2_with (first
    | (with_reducible refine at_op (.load 45 _) ?_; refine wpList_load_rng rfl 45 _ rfl g2 0 rfl (bv (tornB a b)) HR.out.range_all row48 (by rw [H128.out]; exact size48) ?_)
    | (with_reducible refine at_op (.store 45 _ _) ?_; refine wpList_store_at rfl 45 _ _ rfl g3 0 rfl (bv (tornB a b)) rfl _ 45 hr39 (by rw [H128.out]; exact size48) (by rw [H128.out, bv_length, zerosB, List.length_replicate]; omega) (bv_one _) ?_; intro l10 w10 HL10 hr10 ho10))
  rw [show l10 = bv (tornB a b) by rw [HL10.out, splice_all _ _ (by rw [H128.out, bv_length, zerosB, List.length_replicate])]] at hr10
  refine bodyPost_ret (results_cell_rng rfl _ _ g3 45 _ rfl hr10 row48 (by rw [H128.out]; exact size48)) rfl ?_
  exact ⟨rfl, ho10.below hb9 (by have := hb1.size; have := hb2.size; omega)⟩
end Go.Proofs.YtkkgahgpemepeaaGreat
namespace Go.Proofs.YtkkgahgpemepeaaGreat
open Go Go.RowKit Coup
def tagC (h : List UInt8) : Nat := bif mayT (hCount h) (hNum h) then hCount h else 0
def tagN (h : List UInt8) : Nat := bif mayT (hCount h) (hNum h) then hNum h else 0
theorem zero_cells24 : (Tryz.prog.info? 86).map (fun i => i.zero.map (·.cells)) = some (some [Value.int .u64 0, .int .i64 0].toArray) := by kernel_rfl
theorem two_cells {l : List Value} {a b : Value} (h0 : l[0]? = some a) (h1 : l[1]? = some b) : ∀ j v, [a, b][j]? = some v → l[0 + j]? = some v := by
  intro j v hv
  rcases j with _ | _ | j
  · rw [h0]; simpa using hv
  · rw [Nat.zero_add, h1]; simpa using hv
  · simp at hv
def noneV : Value := .tuple #[.agg #[.int .u64 0, .int .i64 0], .slice none 0 0, .int .i64 0, .int .i64 4]
theorem results_cell3 {fn : Func} {p q r s : Tmp} {ty : TypeId} (h : fn.results = #[.cell p ty, .tmp q, .tmp r, .tmp s]) {P : Program} (tmps : Array Value) (w : World) (g : Nat) (t : TypeId) (cs : List Value) (hp : tmps.getD p undef = .pointer (some ⟨g, 0, none⟩))
    (hg : row w g cs t) (hu : (P.underlying ty).any (·.isRow) = true) (hi : (P.info? ty).map (·.size) = some cs.length) : (results fn tmps).run P w = .ok (.tuple #[.agg cs.toArray, tmps.getD q undef, tmps.getD r undef, tmps.getD s undef]) w := by
  cases hd : P.underlying ty with
  | none => simp [hd] at hu
  | some d =>
    have hr : d.isRow = true := by simpa [hd] using hu
    have hp' : tmps[p]?.getD undef = .pointer (some ⟨g, 0, none⟩) := by simpa using hp
    have hc : w.rangeAt g 0 cs := hg.range 0 cs fun j v hv => by simpa using hv
    simp [results, h, hp', asAddr, run_loadVar_mid w g 0 ty cs d hc hd hr hi]
theorem none30 (w : World) : Calls Tryz.prog 95 #[] w fun e w' => e = .returned (.tuple #[.agg #[.int .u64 0, .int .i64 0], .slice none 0 0, .int .i64 0, .int .i64 4]) ∧ Below w.heap.size w w' := by
  go_enter Tryz.func95, Tryz.ntmps95
  go_wp2_with (first
    | (with_reducible refine at_op (.alloc 86) ?_; refine wpList_alloc_row rfl 86 rfl _ zero_cells24 ?_; intro g2 w2 hg2 hr2 hb2)
    | (with_reducible refine at_op (.store 86 _ _) ?_; refine wpList_store_at rfl 86 _ _ rfl g2 0 rfl [.int .u64 0, .int .i64 0] rfl _ 86 hr2 (by kernel_rfl) (by simp) (by simp [Value.oneCell']) ?_; intro l8 w8 HL8 hr8 ho8))
  rw [show l8 = _ from HL8.out.trans (splice_all _ _ rfl)] at hr8
  refine bodyPost_ret (results_cell3 rfl _ _ g2 86 _ rfl hr8 row24 (by kernel_rfl)) rfl ?_
  exact ⟨rfl, ho8.below hb2 hg2⟩
end Go.Proofs.YtkkgahgpemepeaaGreat
namespace Go.Proofs.YtkkgahgpemepeaaGreat
open Go Go.RowKit Coup
def allB (b : List UInt8) : List UInt8 := beB 4 b.length ++ b ++ zerosB (48 * manyN b.length - (4 + b.length))
def pieceB (b : List UInt8) (i : Nat) : List UInt8 := ((allB b).drop (48 * i)).take 48
def halvesL (c n : Nat) (b : List UInt8) : List (List UInt8) := (List.range (manyN b.length)).map fun i => halfB c n i (manyN b.length) (pieceB b i)
theorem manyN_le (n : Nat) : 4 + n ≤ 48 * manyN n := by unfold manyN; omega
theorem allB_length (b : List UInt8) : (allB b).length = 48 * manyN b.length := by
  have := manyN_le b.length
  simp [allB, beB_length, zerosB]; omega
theorem pieceB_length (b : List UInt8) (i : Nat) (h : i < manyN b.length) : (pieceB b i).length = 48 := by
  simp [pieceB, allB_length]; omega
theorem put34r (x : Nat) (hx : x < 18446744073709551616) (n : Nat) (hn : n ≤ 8) (w : World) : Calls Tryz.prog 48 [.int .u64 x, .int .i64 n].toArray w (Ret fun v w' => ∃ g, v = .slice (some ⟨g, 0, none⟩) n n ∧ w.heap.size ≤ g ∧ row w' g (bv (beB n x)) 5 ∧ Below w.heap.size w w') :=
  (put34 x hx n hn w).mono (by rintro e w' ⟨g, rfl, h⟩; exact ⟨_, rfl, g, rfl, h⟩)
theorem many28r (n : Nat) (hn : n ≤ 1000000) (w : World) : Calls Tryz.prog 77 [.int .i64 n].toArray w (Ret fun v w' => v = .int .i64 (manyN n) ∧ w = w') := calls_ret (many28 n hn w)
theorem lenV (n : Nat) (x : Nat) : (bv (beB n x)).length = n * 1 := by simp [bv_length, beB_length]
set_option maxRecDepth 20000 in
theorem halves19 (c nn : Nat) (b : List UInt8) (p : Option Addr) (n cp : Nat) (w : World) (h : SlAt w p n 1 (bv b)) (hn : n ≤ 1000000) (hc : c < 18446744073709551616) (hnn : nn < 9223372036854775808) :
    Calls Tryz.prog 72 [.agg [.int .u64 c, .int .i64 nn].toArray, .slice p n cp].toArray w
      (Ret fun v w' => ∃ vs, ownsAt w' w.heap.size 67 1 v (manyN b.length) vs ∧ SlsAt w' w.heap.size v.ownBlock vs (halvesL c nn b) ∧ Below w.heap.size w w') := by
  have hl : b.length = n := by simpa [bv_length] using h.len
  have hB := Below.refl w.heap.size w
  have hm1 := manyN_le n
  have hm2 : 48 * manyN n ≤ n + 51 := by unfold manyN; omega
  refine calls_W (fn := Tryz.f72) (rs := [.tmp 4]) (n := 62) Tryz.func72 rfl rfl Tryz.ntmps72 (by kernel_rfl) rfl ?_
  refine W_seq ?_
  refine W_region ?_
  refine WR_mk rfl (mk_box ([.int .u64 c, .int .i64 nn]) rfl (fun g2 w2 hg2 hr2 hb2 => ?_))
  have ge_hB_g2 := Nat.le_trans hB.size hg2
  replace hB := hB.acc hb2
  refine WR_val rfl (rn_assign) ?_
  refine WR_nil ?_
  refine thenN ?_
  refine W_seq ?_
  refine W_region ?_
  refine WR_val rfl (rn_move) ?_
  refine WR_val rfl (rn_lenSl (e := 5) (sz := 1) (by kernel_rfl) rfl rfl) ?_
  refine WR_val rfl (rn_conv (k := .u64) (by kernel_rfl) (by kernel_rfl) rfl (wu64 (by omega))) ?_
  refine WR_ent rfl (rn_call (by kernel_rfl) rfl) (put34r n (by omega) 4 (by omega) w2) ?_
  rintro _ w13 ⟨g13, rfl, hg13, hr13, hb13⟩
  have ge_hB_g13 := Nat.le_trans hB.size hg13
  have lt_g2_g13 : g2 < g13 := Nat.lt_of_lt_of_le hr2.lt hg13
  replace hr2 := hr2.new hb13
  replace hB := hB.acc hb13
  refine WR_val rfl (rn_move) ?_
  have hv13 := hr13.owns (base := g13) (m := 4) (sz := 1) (Nat.le_refl _) (lenV 4 n) (by unfold maxLen; omega)
  have q13 := hr13.lt
  have sz_hB_15 := hB.size
  refine WR_mk rfl (mk_append (e := 5) (sz := 1) (bytes := 1) (z := Value.int .u8 0) (by kernel_rfl) rfl (by kernel_rfl) rfl (by decide) rfl hv13 rfl (h.below hB (Nat.le_refl _)) (bv_one _) (by unfold maxLen; omega) (by omega) (fun hm0 => by omega) (fun v15 w15 hv15 hgr15 hfr15 => ?_))
  replace hr2 := hr2.own hv13 hgr15 (by omega)
  replace hB := hB.own hv13 hgr15 (by omega)
  refine WR_val rfl (rn_assign) ?_
  refine WR_nil ?_
  refine thenN ?_
  refine W_seq ?_
  refine W_region ?_
  refine WR_val rfl (rn_move) ?_
  refine WR_val rfl (rn_lenSl (e := 5) (sz := 1) (by kernel_rfl) rfl rfl) ?_
  refine WR_ent rfl (rn_call (by kernel_rfl) rfl) (many28r n hn w15) ?_
  rintro _ _ ⟨rfl, rfl⟩
  refine WR_val rfl (rn_assign) ?_
  refine WR_nil ?_
  refine thenN ?_
  refine W_seq ?_
  refine W_block ?_
  refine W_loop (α := Nat × Value) (0, v15) (fun k => [(5, k.2), (6, .int .i64 (manyN n : Nat)), (2, .pointer (some ⟨g2, 0, none⟩))])
    (fun k w' => 4 + n + k.1 ≤ 48 * manyN n ∧ ownsAt w' g13 5 1 k.2 (4 + n + k.1) (bv (beB 4 n ++ b ++ zerosB k.1)) ∧ row w' g2 [.int .u64 c, .int .i64 nn] 86 ∧ Below w.heap.size w w' ∧ g13 < w'.heap.size) (fun k => 48 * manyN n - k.1)
    ⟨rfl, rfl, rfl, rfl⟩ ⟨by omega, by simpa [zerosB, bv_append] using hv15, hr2, hB, by have := hgr15.size; omega⟩ ?_
  rintro ⟨k, v5⟩ ρ' w4 ⟨hk, hv5, hr2, hB, q13⟩
  simp only at hk hv5
  obtain ⟨p5, c5, rfl⟩ := hv5.form
  refine W_seq ?_
  refine W_seq ?_
  refine W_region ?_
  refine WR_val rfl (rn_move) ?_
  refine WR_val rfl (rn_lenSl (e := 5) (sz := 1) (by kernel_rfl) rfl rfl) ?_
  refine WR_val rfl (rn_move) ?_
  refine WR_val rfl (rn_mul rfl rfl (w64 (by omega))) ?_
  refine WR_val rfl (rn_lss rfl rfl) ?_
  refine WR_nil ?_
  refine thenN ?_
  refine W_ifp rfl (fun hlt => ?_) (fun hlt => ?_)
  ·
    refine W_skip ?_
    refine thenN ?_
    refine W_block ?_
    refine W_region ?_
    refine WR_val rfl (rn_move) ?_
    refine WR_mk rfl (mk_one (e := 5) (Value.int .u8 0) ([Value.int .u8 0]) ([Value.int .u8 0]) 1 (by kernel_rfl) (by kernel_rfl) rfl rfl rfl ⟨by decide, by decide⟩ (fun g25 w25 hg25 hr25 hb25 => ?_))
    have ge_hB_g25 := Nat.le_trans hB.size hg25
    have lt_g2_g25 : g2 < g25 := Nat.lt_of_lt_of_le hr2.lt hg25
    replace hr2 := hr2.new hb25
    replace hB := hB.acc hb25
    have hs25 := hr25.slA (m := 1) (sz := 1) rfl (by unfold maxLen; omega)
    replace hv5 := hv5.new hb25
    have sz_hB_26 := hB.size
    refine WR_mk rfl (mk_append (e := 5) (sz := 1) (bytes := 1) (z := Value.int .u8 0) (by kernel_rfl) rfl (by kernel_rfl) rfl (by decide) rfl hv5 rfl hs25 (by simp [Value.oneCell']) (by unfold maxLen; omega) (by omega) (fun hm0 => by omega) (fun v26 w26 hv26 hgr26 hfr26 => ?_))
    replace hr2 := hr2.own hv5 hgr26 (by omega)
    replace hB := hB.own hv5 hgr26 (by omega)
    refine WR_val rfl (rn_assign) ?_
    refine WR_nil ?_
    refine blockN ?_
    refine loopN ⟨(k + 1, v26), by simp only; omega, ⟨rfl, rfl, rfl, rfl⟩, by simp only; omega, ?_, hr2, hB, by have := hgr26.size; have := hb25.size; omega⟩
    have e : bv (beB 4 n ++ b ++ zerosB (k + 1)) = bv (beB 4 n ++ b ++ zerosB k) ++ [.int .u8 0] := by
      simp [bv, zerosB, List.replicate_succ', byteV]
    rw [e]
    exact hv26
  ·
    refine W_exit ?_
    refine thenX ?_
    refine loopX ?_
    refine blockX ?_
    refine thenN ?_
    refine W_seq ?_
    refine W_region ?_
    refine WR_val rfl (rn_assign) ?_
    refine WR_nil ?_
    refine thenN ?_
    refine W_seq ?_
    refine W_seq ?_
    refine W_region ?_
    refine WR_val rfl (rn_assign) ?_
    refine WR_nil ?_
    refine thenN ?_
    refine W_block ?_
    obtain rfl : k = 48 * manyN n - (4 + n) := by omega
    have hall : beB 4 n ++ b ++ zerosB (48 * manyN n - (4 + n)) = allB b := by rw [allB, hl]
    rw [hall] at hv5
    have hn4 : 4 + n + (48 * manyN n - (4 + n)) = 48 * manyN n := by omega
    rw [hn4] at hv5 ⊢
    have hobt := hv5.form' (by omega)
    obtain ⟨g5, o5, cap5, he5, hg5, hs5, hc5⟩ := hobt
    cases he5
    have ha5 := hv5.sl
    refine W_loop (α := Nat × Value × List Value) (0, .slice none 0 0, []) (fun k => [(7, k.2.1), (8, .int .i64 (k.1 : Nat)), (5, .slice (some ⟨g5, o5, none⟩) (48 * manyN n) c5), (6, .int .i64 (manyN n : Nat)), (2, .pointer (some ⟨g2, 0, none⟩))])
      (fun k w' => k.1 ≤ manyN n ∧ ownsAt w' w4.heap.size 67 1 k.2.1 k.1 k.2.2 ∧ SlsAt w' w4.heap.size k.2.1.ownBlock k.2.2 ((halvesL c nn b).take k.1) ∧ Below w4.heap.size w4 w') (fun k => manyN n - k.1)
      ⟨rfl, rfl, rfl, rfl, rfl, rfl⟩ ⟨Nat.zero_le _, ownsAt_nil _ _ _ _, SlsAt.nil _ _ _, Below.refl _ _⟩ ?_
    rintro ⟨i, v7, vs⟩ ρ2 w6 ⟨hi, hv7, hsl, hB6⟩
    simp only at hi hv7 hsl
    have hBi := Below.refl w6.heap.size w6
    have hr2i := hr2.new hB6
    have ha5i := ha5.new hB6
    have qq := hr2i.lt
    refine W_seq ?_
    refine W_seq ?_
    refine W_region ?_
    refine WR_val rfl (rn_move) ?_
    refine WR_val rfl (rn_move) ?_
    refine WR_val rfl (rn_lss rfl rfl) ?_
    refine WR_nil ?_
    refine thenN ?_
    refine W_ifp rfl (fun hlt => ?_) (fun hlt => ?_)
    ·
      refine W_skip ?_
      refine thenN ?_
      refine W_seq ?_
      refine W_block ?_
      refine W_seq ?_
      refine W_draw' [] (by kernel_rfl) ?_
      intro w901 hb901 hS901
      replace hBi := hBi.acc hb901
      have hBi_d901 := hBi
      refine WA_take 0 (by kernel_rfl) rfl (fun _ _ => rn_fieldAddr (off := 0) (by kernel_rfl) rfl) ?_
      refine WA_take 1 (by kernel_rfl) rfl (fun w' hS' => rn_load rfl (Ld.row1 (hr2i.new (hBi_d901.kpd hS' (by first | (simp; done) | (simp; omega) | (simp [*]; done) | exact notLL (Or.inl (by omega)) | exact notLL (Or.inr (by simp)) | exact fun g hm => Nat.le_trans (by omega) (inLL hm).1 | (intro b o e; cases e; exact notLL (Or.inl (by omega))) | (intro b hm; have := (hu.lt b (Option.mem_toList.1 hm)).1; omega) | (intro b o e; cases e; intro hm; have := (hu.lt _ (Option.mem_toList.1 hm)).1; omega)))) (by kernel_rfl) rfl)) ?_
      refine WA_take 3 (by kernel_rfl) rfl (fun _ _ => rn_fieldAddr (off := 1) (by kernel_rfl) rfl) ?_
      refine WA_take 4 (by kernel_rfl) rfl (fun w' hS' => rn_load rfl (Ld.row1 (hr2i.new (hBi_d901.kpd hS' (by first | (simp; done) | (simp; omega) | (simp [*]; done) | exact notLL (Or.inl (by omega)) | exact notLL (Or.inr (by simp)) | exact fun g hm => Nat.le_trans (by omega) (inLL hm).1 | (intro b o e; cases e; exact notLL (Or.inl (by omega))) | (intro b hm; have := (hu.lt b (Option.mem_toList.1 hm)).1; omega) | (intro b o e; cases e; intro hm; have := (hu.lt _ (Option.mem_toList.1 hm)).1; omega)))) (by kernel_rfl) rfl)) ?_
      refine WA_take 5 (by kernel_rfl) rfl (fun _ _ => rn_conv (k := .u64) (by kernel_rfl) (by kernel_rfl) rfl (wu64 (by omega))) ?_
      refine WA_one 2 (by kernel_rfl) ?_
      refine WO_ent rfl rfl (rn_call (by kernel_rfl) rfl) (put34r c (by omega) 8 (by omega) w901) ?_
      rintro _ w34 ⟨g34, rfl, hg34, hr34, hb34⟩
      have ge_hS901_g34 := Nat.le_trans hS901.size hg34
      have ge_hBi_g34 := Nat.le_trans hBi.size hg34
      have hS902 := hS901.add0 hb34
      refine ⟨hS902, ?_⟩
      replace hBi := hBi.acc hb34
      refine WA_one 6 (by kernel_rfl) ?_
      refine WO_ent rfl rfl (rn_call (by kernel_rfl) rfl) (put34r nn (by omega) 4 (by omega) w34) ?_
      rintro _ w38 ⟨g38, rfl, hg38, hr38, hb38⟩
      have ge_hS902_g38 := Nat.le_trans hS902.size hg38
      have ge_hBi_g38 := Nat.le_trans hBi.size hg38
      have lt_g34_g38 : g34 < g38 := Nat.lt_of_lt_of_le hr34.lt hg38
      have hS903 := hS902.add0 hb38
      refine ⟨hS903, ?_⟩
      replace hr34 := hr34.new hb38
      replace hBi := hBi.acc hb38
      refine WA_one 7 (by kernel_rfl) ?_
      have hv34 := hr34.owns (base := g34) (m := 8) (sz := 1) (Nat.le_refl _) (lenV 8 c) (by unfold maxLen; omega)
      have hs38 := hr38.slA (m := 4) (sz := 1) (lenV 4 nn) (by unfold maxLen; omega)
      have q34 := hr34.lt
      have sz_hBi_39 := hBi.size
      refine WO_mk rfl rfl (mk_append (e := 5) (sz := 1) (bytes := 1) (z := Value.int .u8 0) (by kernel_rfl) rfl (by kernel_rfl) rfl (by decide) rfl hv34 rfl hs38 (bv_one _) (by unfold maxLen; omega) (by omega) (fun hm0 => by omega) (fun v39 w39 hv39 hgr39 hfr39 => ?_))
      have hS904 := hS903.add (Kp.of_grown hgr39) (fun g hm => by first | exact Or.inr hm | exact Or.inr (List.mem_cons_of_mem _ hm) | (have := (hv34.lt g (Option.mem_toList.1 hm)).1; left; omega) | exact (hfr34 g (Option.mem_toList.1 hm)).elim (fun e => Or.inr (Option.mem_toList.2 e)) (fun e => Or.inl (by omega)) | exact (hfr34 g (Option.mem_toList.1 hm)).elim (fun e => Or.inr (List.mem_cons_of_mem _ (Option.mem_toList.2 e))) (fun e => Or.inl (by omega)))
      refine ⟨hS904, ?_⟩
      replace hBi := hBi.own hv34 hgr39 (by omega)
      refine WA_take 8 (by kernel_rfl) rfl (fun _ _ => rn_assign) ?_
      refine WA_done (by kernel_rfl) ?_
      refine thenN ?_
      refine W_seq ?_
      refine W_region ?_
      refine WR_val rfl (rn_move) ?_
      refine WR_val rfl (rn_move) ?_
      refine WR_val rfl (rn_conv (k := .u64) (by kernel_rfl) (by kernel_rfl) rfl (wu64 (by omega))) ?_
      have l39 := hv39.form' (by omega)
      obtain ⟨ga, oa, ca, ea, -, la, -⟩ := l39
      refine WR_ent rfl (rn_call (by kernel_rfl) rfl) (put34r i (by omega) 2 (by omega) w39) ?_
      rintro _ w43 ⟨g43, rfl, hg43, hr43, hb43⟩
      have ge_hBi_g43 := Nat.le_trans hBi.size hg43
      replace hv39 := hv39.new hb43
      replace hBi := hBi.acc hb43
      have hs43 := hr43.slA (m := 2) (sz := 1) (lenV 2 i) (by unfold maxLen; omega)
      have sz_hBi_44 := hBi.size
      refine WR_mk rfl (mk_append (e := 5) (sz := 1) (bytes := 1) (z := Value.int .u8 0) (by kernel_rfl) rfl (by kernel_rfl) rfl (by decide) rfl hv39 rfl hs43 (bv_one _) (by unfold maxLen; omega) (by omega) (fun hm0 => by omega) (fun v44 w44 hv44 hgr44 hfr44 => ?_))
      replace hBi := hBi.own hv39 hgr44 (by omega)
      refine WR_val rfl (rn_move) ?_
      refine WR_val rfl (rn_conv (k := .u64) (by kernel_rfl) (by kernel_rfl) rfl (wu64 (by omega))) ?_
      refine WR_ent rfl (rn_call (by kernel_rfl) rfl) (put34r (manyN n) (by omega) 2 (by omega) w44) ?_
      rintro _ w47 ⟨g47, rfl, hg47, hr47, hb47⟩
      have ge_hBi_g47 := Nat.le_trans hBi.size hg47
      replace hv44 := hv44.new hb47
      replace hBi := hBi.acc hb47
      have hs47 := hr47.slA (m := 2) (sz := 1) (lenV 2 (manyN n)) (by unfold maxLen; omega)
      have sz_hBi_48 := hBi.size
      refine WR_mk rfl (mk_append (e := 5) (sz := 1) (bytes := 1) (z := Value.int .u8 0) (by kernel_rfl) rfl (by kernel_rfl) rfl (by decide) rfl hv44 rfl hs47 (bv_one _) (by unfold maxLen; omega) (by omega) (fun hm0 => by omega) (fun v48 w48 hv48 hgr48 hfr48 => ?_))
      replace hBi := hBi.own hv44 hgr48 (by omega)
      refine WR_val rfl (rn_assign) ?_
      refine WR_nil ?_
      refine thenN ?_
      refine W_region ?_
      refine WR_val rfl (rn_move) ?_
      refine WR_val rfl (rn_move) ?_
      refine WR_val rfl (rn_move) ?_
      refine WR_val rfl (rn_move) ?_
      refine WR_val rfl (rn_mul rfl rfl (Coup.w64 (by omega))) ?_
      refine WR_val rfl (rn_move) ?_
      refine WR_val rfl (rn_mul rfl rfl (Coup.w64 (by omega))) ?_
      refine WR_val rfl (rn_add rfl rfl (Coup.w64 (by omega))) ?_
      refine WR_val rfl (rn_sliceSl1' (e := 5) (48 * i) (48 * i + 48) (_) (48) (by kernel_rfl) rfl ⟨_, _, rfl, by omega⟩ ⟨_, _, rfl, by omega⟩ rfl (by simp) (by omega) (by omega) (by omega) (by omega) (by omega)) ?_
      have hs57 := (ha5i.new hBi).subB (48 * i) 48 (by omega)
      have sz_hBi_58 := hBi.size
      refine WR_mk rfl (mk_append (e := 5) (sz := 1) (bytes := 1) (z := Value.int .u8 0) (by kernel_rfl) rfl (by kernel_rfl) rfl (by decide) rfl hv48 rfl hs57 (bv_one _) (by unfold maxLen; omega) (by omega) (fun hm0 => by omega) (fun v58 w58 hv58 hgr58 hfr58 => ?_))
      replace hBi := hBi.own hv48 hgr58 (by omega)
      have hobt := hv58.form' (by omega)
      obtain ⟨g58, o58, c58, rfl, b58, l58, hc58⟩ := hobt
      have hx58 := hv58.sl
      refine WR_mk rfl (mk_one (e := 67) (Value.slice (some ⟨g58, o58, none⟩) (8 + 4 + 2 + 2 + 48) c58) ([Value.slice (some ⟨g58, o58, none⟩) (8 + 4 + 2 + 2 + 48) c58]) ([Value.slice none 0 0]) 1 (by kernel_rfl) (by kernel_rfl) rfl rfl rfl ⟨by decide, by decide⟩ (fun g59 w59 hg59 hr59 hb59 => ?_))
      have ge_hBi_g59 := Nat.le_trans hBi.size hg59
      replace hv58 := hv58.new hb59
      replace hBi := hBi.acc hb59
      have hs59 := hr59.slA (m := 1) (sz := 1) rfl (by unfold maxLen; omega)
      have hx58 := hx58.new hb59
      have hy7 := hv7.new hBi
      have hsl1 := hsl.new hBi
      have hlt7 := hv7.lt
      have hln := hBi.size
      have hl6 := hB6.size
      have hB7 := hB6.acc hBi
      have sz_hB7_60 := hB7.size
      refine WR_mk rfl (mk_append (e := 67) (sz := 1) (bytes := 24) (z := Value.slice none 0 0) (by kernel_rfl) rfl (by kernel_rfl) rfl (by decide) rfl hy7 rfl hs59 (by simp [Value.oneCell']) (by unfold maxLen; omega) (by omega) (fun hm0 => by omega) (fun v60 w60 hv60 hgr60 hfr60 => ?_))
      replace hB7 := hB7.own hy7 hgr60 (by omega)
      refine WR_val rfl (rn_assign) ?_
      refine WR_nil ?_
      refine blockN ?_
      refine thenN ?_
      refine W_region ?_
      refine WR_val rfl (rn_move) ?_
      refine WR_val rfl (rn_add rfl rfl (Coup.w64 (by omega))) ?_
      refine WR_val rfl (rn_assign) ?_
      refine WR_nil ?_
      have hne : some g58 ≠ v7.ownBlock := fun e => by have := (hlt7 g58 e.symm).2; omega
      have hpi := pieceB_length b i (by rw [hl]; omega)
      have hz : bv (beB 8 c) ++ bv (beB 4 nn) ++ bv (beB 2 i) ++ bv (beB 2 (manyN n)) ++ bv (((allB b).drop (48 * i)).take 48) = bv (halfB c nn i (manyN n) (pieceB b i)) := by
        simp only [halfB, bv_append, pieceB, List.append_assoc]
      rw [hz] at hx58
      have hlz : (halfB c nn i (manyN n) (pieceB b i)).length = 8 + 4 + 2 + 2 + 48 := by rw [halfB_length, hpi]
      rw [← hlz] at hx58
      have hx58' := hx58.kpd (Kp.of_grown hgr60) (fun b' o' e hm => by
        cases e
        simp only [Option.mem_toList] at hm
        exact hne hm.symm)
      have hsl2 := (hsl1.grow hgr60 hfr60).snoc (c := c58) hx58' (by have := hgr60.size; have := hb59.size; omega) (fun e => (hfr60 g58 e.symm).elim (fun e' => hne e'.symm) (fun e' => by have := hb59.size; omega)) (by omega) (by omega)
      refine loopN ⟨(i + 1, v60, vs ++ [.slice (some ⟨g58, o58, none⟩) (8 + 4 + 2 + 2 + 48) c58]), by simp only; omega, ⟨rfl, by go_num, rfl, rfl, rfl, rfl⟩, by simp only; omega, hv60, ?_, hB7⟩
      have htk : (halvesL c nn b).take (i + 1) = (halvesL c nn b).take i ++ [halfB c nn i (manyN n) (pieceB b i)] := by
        rw [List.take_add_one, halvesL, hl, List.getElem?_map, List.getElem?_range (by omega)]
        rfl
      rw [htk, ← hlz]
      exact hsl2
    ·
      refine W_exit ?_
      refine thenX ?_
      refine loopX ?_
      refine blockX ?_
      refine thenN ?_
      refine W_seq ?_
      refine W_region ?_
      refine WR_val rfl (rn_move) ?_
      refine WR_val rfl (rn_assign) ?_
      refine WR_nil ?_
      refine thenN ?_
      refine W_ret ?_
      refine ret_ret [_] ⟨rfl, trivial⟩ ?_
      obtain rfl : i = manyN n := by omega
      refine ⟨vs, ?_, ?_, hB.acc hB6⟩
      · rw [hl]; exact hv7.mono hB.size
      · rw [List.take_of_length_le (by simp [halvesL, hl])] at hsl; exact hsl.mono hB.size
end Go.Proofs.YtkkgahgpemepeaaGreat
namespace Go.Proofs.YtkkgahgpemepeaaGreat
open Go Go.RowKit Coup
theorem halves26r (n : Nat) (hn : n ≤ 1000000) (w : World) : Calls Tryz.prog 83 [.int .i64 n].toArray w (Ret fun v w' => v = .int .i64 (manyN n) ∧ w = w') := calls_ret (halves26 n hn w)
def pieceV (b : List UInt8) (i : Nat) : List Value := [.int .i64 i, .agg (bv (pieceB b i)).toArray]
def piecesV (b : List UInt8) : List (List Value) := (List.range (manyN b.length)).map (pieceV b)
theorem piece_splice (b : List UInt8) (i : Nat) (hi : i < manyN b.length) : splice (List.replicate 48 (byteV 0)) 0 (bv (((beB 4 b.length ++ b).drop (48 * i)).take 48)) = bv (pieceB b i) := by
  have h1 := allB_length b
  have h2 := manyN_le b.length
  have hal : allB b = (beB 4 b.length ++ b) ++ zerosB (48 * manyN b.length - (4 + b.length)) := by simp [allB]
  obtain ⟨A, hA⟩ : ∃ A, A = beB 4 b.length ++ b := ⟨_, rfl⟩
  have hl : A.length = 4 + b.length := by rw [hA]; simp [beB_length]
  rw [pieceB, hal, ← hA]
  have hz : List.replicate 48 (byteV 0) = bv (zerosB 48) := (bv_zeros 48).symm
  rw [hz, List.drop_append, List.take_append]
  have h3 : ((A.drop (48 * i)).take 48).length = min 48 (A.length - 48 * i) := by simp
  rw [splice, List.take_zero, List.nil_append, Nat.zero_add, bv_length, h3, bv_append, ← bv_drop]
  congr 2
  simp only [zerosB, List.drop_replicate, List.take_replicate, List.length_drop]
  congr 1
  have : manyN b.length ≤ (b.length + 51) / 48 := Nat.le_refl _
  omega
theorem bytes4 (n : Nat) : [Value.int .u8 (IntKind.u8.wrap ((n : Int).fdiv (2 ^ 24))), .int .u8 (IntKind.u8.wrap ((n : Int).fdiv (2 ^ 16))), .int .u8 (IntKind.u8.wrap ((n : Int).fdiv (2 ^ 8))), .int .u8 (IntKind.u8.wrap (n : Int))] = bv (beB 4 n) := by
  simp only [beB, bv, List.map_append, List.map_cons, List.map_nil, List.nil_append, List.cons_append, byteV, Int.fdiv_eq_ediv_of_nonneg _ (by omega : (0 : Int) ≤ 2 ^ 24), Int.fdiv_eq_ediv_of_nonneg _ (by omega : (0 : Int) ≤ 2 ^ 16), Int.fdiv_eq_ediv_of_nonneg _ (by omega : (0 : Int) ≤ 2 ^ 8), IntKind.wrap_u8]
  simp
  omega
set_option maxRecDepth 20000 in
set_option maxHeartbeats 1000000 in
theorem piecesSeq (b : List UInt8) (g3 g4 ga oa n c : Nat) (w : World) (hl : b.length = n) (hn : n ≤ 40000) (r3 : row w g3 [.int .i64 n] 3) (r4 : row w g4 [.slice (some ⟨ga, oa, none⟩) (4 + n) c] 67)
    (hs : SlAt w (some ⟨ga, oa, none⟩) (4 + n) 1 (bv (beB 4 n ++ b))) (hcap : 4 + n ≤ c) : SeqT Tryz.prog 93 [.pointer (some ⟨g3, 0, none⟩), .pointer (some ⟨g4, 0, none⟩)] (piecesV b) [g3, g4, ga] w := by
  intro l J Jx W hbW hJ hJx hy h0
  have r3W := r3.new hbW
  have r4W := r4.new hbW
  have hsW := hs.new hbW
  have hgaW := hsW.some (by omega)
  obtain ⟨_, _, heq, hgaW⟩ := hgaW
  cases heq
  have hB := Below.refl W.heap.size W
  refine calls_W (fn := Tryz.f93) (rs := []) (n := 23) Tryz.func93 rfl rfl Tryz.ntmps93 (by kernel_rfl) rfl ?_
  refine W_seq ?_
  refine W_region ?_
  refine WR_val rfl (rn_load rfl (Ld.row1 r3W (by kernel_rfl) rfl)) ?_
  refine WR_ent rfl (rn_call (by kernel_rfl) rfl) (halves26r n (by omega) W) ?_
  rintro _ _ ⟨rfl, rfl⟩
  refine WR_val rfl (rn_move) ?_
  refine WR_nil ?_
  refine thenN ?_
  refine W_block ?_
  refine W_loop (0 : Nat) (fun k => [(0, .func (.yield l) #[] #[]), (1, .pointer (some ⟨g3, 0, none⟩)), (2, .pointer (some ⟨g4, 0, none⟩)), (7, .int .i64 (manyN n : Nat)), (8, .int .i64 (k : Nat))])
    (fun k w' => k ≤ manyN n ∧ J k w' ∧ (∀ x, x ∈ [g3, g4, ga] → w'.heap[x]? = W.heap[x]?) ∧ W.heap.size ≤ w'.heap.size) (fun k => manyN n - k) ⟨rfl, rfl, rfl, rfl, rfl, rfl⟩ ⟨Nat.zero_le _, h0, fun _ _ => rfl, Nat.le_refl _⟩ ?_
  rintro k f wr ⟨hk, hJk, hkp, hsz⟩
  have hBr := Below.refl wr.heap.size wr
  have r4r : row wr g4 [.slice (some ⟨ga, oa, none⟩) (4 + n) c] 67 := (hkp g4 (by simp)).trans r4W
  have hsr := hsW.blk (hkp ga (by simp)) hsz
  have hm2 : 48 * manyN n ≤ n + 51 := by unfold manyN; omega
  refine W_seq ?_
  refine W_region ?_
  refine WR_val rfl (rn_lss rfl rfl) ?_
  refine WR_nil ?_
  refine thenN ?_
  refine W_seq ?_
  refine W_ifp rfl (fun hlt => ?_) (fun hlt => ?_)
  ·
    refine W_skip ?_
    refine thenN ?_
    refine W_seq ?_
    refine W_block ?_
    refine W_seq ?_
    refine W_region ?_
    refine WR_val rfl (rn_move) ?_
    refine WR_val rfl (rn_assign) ?_
    refine WR_nil ?_
    refine thenN ?_
    refine W_seq ?_
    refine W_region ?_
    refine WR_mk rfl (mk_alloc (List.replicate 48 (byteV 0)) (by kernel_rfl) (fun g5 w5 hg5 hr5 hb5 => ?_))
    have ge_hBr_g5 := Nat.le_trans hBr.size hg5
    replace hBr := hBr.acc hb5
    refine WR_nil ?_
    refine thenN ?_
    refine W_seq ?_
    refine W_draw' [g5] (by kernel_rfl) ?_
    intro w901 hb901 hS901
    replace hr5 := hr5.new hb901
    replace hBr := hBr.acc hb901
    have hr5_d901 := hr5
    have hBr_d901 := hBr
    refine WA_take 0 (by kernel_rfl) rfl (fun _ _ => rn_sliceAr1' (e := 5) (n := 48) (0) (48) (48) (48) (by kernel_rfl) rfl rfl rfl rfl (by simp) (by omega) (by omega) (by omega) (by omega) (by omega)) ?_
    refine WA_take 1 (by kernel_rfl) rfl (fun w' hS' => rn_load rfl (Ld.row1 (r4r.new (hBr_d901.kpd hS' (by first | (simp; done) | (simp; omega) | (simp [*]; done) | exact notLL (Or.inl (by omega)) | exact notLL (Or.inr (by simp)) | exact fun g hm => Nat.le_trans (by omega) (inLL hm).1 | (intro b o e; cases e; exact notLL (Or.inl (by omega))) | (intro b hm; have := (hu.lt b (Option.mem_toList.1 hm)).1; omega) | (intro b o e; cases e; intro hm; have := (hu.lt _ (Option.mem_toList.1 hm)).1; omega)))) (by kernel_rfl) rfl)) ?_
    refine WA_take 2 (by kernel_rfl) rfl (fun _ _ => rn_move) ?_
    refine WA_take 3 (by kernel_rfl) rfl (fun _ _ => rn_mul rfl rfl (w64 (by omega))) ?_
    refine WA_take 4 (by kernel_rfl) rfl (fun _ _ => rn_sliceSl1' (e := 5) (48 * k) (_) (_) (_) (by kernel_rfl) rfl ⟨_, _, rfl, by omega⟩ rfl rfl (by simp) (by omega) (by omega) (by omega) (by omega) rfl) ?_
    refine WA_one 5 (by kernel_rfl) ?_
    have hcl : (bv (((beB 4 n ++ b).drop (48 * k)).take 48)).length = Nat.min (4 + n - 48 * k) 48 := by rw [bv_length, List.length_take, List.length_drop, List.length_append, beB_length, hl, Nat.min_comm]
    have hkb : k < manyN b.length := by rw [hl]; omega
    refine WO_mk rfl rfl (mk_copy (e := 5) (by kernel_rfl) (by kernel_rfl) rfl rfl g5 (0) hr5 (bv (((beB 4 n ++ b).drop (48 * k)).take 48)) hcl (fun _ => ⟨rfl, _, rfl, (hsr.new hBr).src (48 * k) 48⟩) (by rw [bv_length, List.length_take, List.length_replicate]; omega) (bv_one _) (fun w16 hr5 ho16 => ?_))
    have hS902 := hS901.add1 ho16 (by first | (left; omega) | (right; simp; done) | (right; simp; omega))
    refine ⟨hS902, ?_⟩
    replace hBr := ho16.below hBr ge_hBr_g5
    have hps := piece_splice b k hkb
    rw [hl] at hps
    rw [hps] at hr5
    refine WA_done (by kernel_rfl) ?_
    refine thenN ?_
    refine W_seq ?_
    refine W_region ?_
    refine WR_val rfl (rn_move) ?_
    refine WR_val rfl (rn_move) ?_
    refine WR_val rfl (rn_load rfl (Ld.rowA hr5 (by kernel_rfl) (by kernel_rfl) (by rw [bv_length, pieceB_length b k hkb]))) ?_
    have hv : (piecesV b)[k]? = some (pieceV b k) := by
      rw [piecesV, List.getElem?_map, List.getElem?_range hkb]; rfl
    have hYk := hy k (pieceV b k) w16 hv (hJ _ _ _ hJk hBr)
    refine WR_yield (vl := pieceV b k) rfl rfl hYk ?_
    rintro e wy (⟨rfl, hJy, hky, hsy⟩ | ⟨rfl, hJxy⟩)
    · refine ⟨_, rfl, ?_⟩
      refine WR_val rfl (rn_not rfl) ?_
      refine WR_nil ?_
      refine thenN ?_
      refine W_f rfl ?_
      refine W_skip ?_
      refine blockN ?_
      refine thenN ?_
      refine W_region ?_
      refine WR_val rfl (rn_add rfl rfl (Coup.w64 (by omega))) ?_
      refine WR_val rfl (rn_move) ?_
      refine WR_nil ?_
      refine loopN ⟨k + 1, by omega, ⟨rfl, rfl, rfl, rfl, by go_num, rfl⟩, by omega, hJy, fun x hx => ?_, by have := hBr.size; omega⟩
      have hxx : x < wr.heap.size := by
        have h1 := r4r.lt
        simp only [List.mem_cons, List.not_mem_nil, or_false] at hx
        rcases hx with rfl | rfl | rfl
        · exact Nat.lt_of_lt_of_le r3W.lt hsz
        · exact h1
        · omega
      rw [hky x hx, hBr.block x hxx, hkp x hx]
    · refine ⟨_, rfl, ?_⟩
      refine WR_val rfl (rn_not rfl) ?_
      refine WR_nil ?_
      refine thenN ?_
      refine W_t rfl ?_
      refine W_ret ?_
      refine blockR ?_
      refine thenR ?_
      refine loopR ?_
      refine blockR ?_
      refine ret_ret [] trivial ?_
      exact Or.inr hJxy
  ·
    refine W_exit ?_
    refine thenX ?_
    refine loopX ?_
    refine blockX ?_
    refine ret_normal [] trivial ?_
    obtain rfl : k = manyN n := by omega
    refine Or.inl ?_
    rw [piecesV, List.length_map, List.length_range, hl]
    exact hJk
set_option maxRecDepth 20000 in
theorem pieces25 (b : List UInt8) (p : Option Addr) (n cp : Nat) (w : World) (h : SlAt w p n 1 (bv b)) (hn : n ≤ 40000) :
    Calls Tryz.prog 86 [.slice p n cp].toArray w (Ret fun v w' => ∃ g3 g4 ga, v = .func (.func 93) #[] [.pointer (some ⟨g3, 0, none⟩), .pointer (some ⟨g4, 0, none⟩)].toArray ∧ g3 < w'.heap.size ∧ g4 < w'.heap.size ∧ ga < w'.heap.size ∧ w.heap.size ≤ g3 ∧ w.heap.size ≤ g4 ∧ w.heap.size ≤ ga ∧
      Below w.heap.size w w' ∧ SeqT Tryz.prog 93 [.pointer (some ⟨g3, 0, none⟩), .pointer (some ⟨g4, 0, none⟩)] (piecesV b) [g3, g4, ga] w') := by
  have hl : b.length = n := by simpa [bv_length] using h.len
  have hB := Below.refl w.heap.size w
  refine calls_W (fn := Tryz.f86) (rs := [.tmp 2]) (n := 22) Tryz.func86 rfl rfl Tryz.ntmps86 (by kernel_rfl) rfl ?_
  refine W_seq ?_
  refine W_region ?_
  refine WR_val rfl (rn_assign) ?_
  refine WR_nil ?_
  refine thenN ?_
  refine W_seq ?_
  refine W_region ?_
  refine WR_val rfl (rn_move) ?_
  refine WR_val rfl (rn_lenSl (e := 5) (sz := 1) (by kernel_rfl) rfl rfl) ?_
  refine WR_mk rfl (mk_alloc ([Value.int .i64 0]) (by kernel_rfl) (fun g3 w3 hg3 hr3 hb3 => ?_))
  have ge_hB_g3 := Nat.le_trans hB.size hg3
  replace hB := hB.acc hb3
  refine WR_sk rfl (sk_store1 rfl rfl rfl rfl hr3 (by kernel_rfl) (by first | (simp only [List.length_replicate]; omega) | (simp only [iv_length]; omega) | (simp only [bv_length, List.length_set]; omega) | simp) (fun w901 hr3 ho901 => ?_))
  replace hB := ho901.below hB ge_hB_g3
  refine WR_nil ?_
  refine thenN ?_
  refine W_seq ?_
  refine W_region ?_
  refine WR_val rfl (rn_load rfl (Ld.row1 hr3 (by kernel_rfl) rfl)) ?_
  refine WR_val rfl (rn_shr rfl rfl (by omega) rfl) ?_
  refine WR_val rfl (rn_conv (k := .u8) (by kernel_rfl) (by kernel_rfl) rfl rfl) ?_
  refine WR_val rfl (rn_load rfl (Ld.row1 hr3 (by kernel_rfl) rfl)) ?_
  refine WR_val rfl (rn_shr rfl rfl (by omega) rfl) ?_
  refine WR_val rfl (rn_conv (k := .u8) (by kernel_rfl) (by kernel_rfl) rfl rfl) ?_
  refine WR_val rfl (rn_load rfl (Ld.row1 hr3 (by kernel_rfl) rfl)) ?_
  refine WR_val rfl (rn_shr rfl rfl (by omega) rfl) ?_
  refine WR_val rfl (rn_conv (k := .u8) (by kernel_rfl) (by kernel_rfl) rfl rfl) ?_
  refine WR_val rfl (rn_load rfl (Ld.row1 hr3 (by kernel_rfl) rfl)) ?_
  refine WR_val rfl (rn_conv (k := .u8) (by kernel_rfl) (by kernel_rfl) rfl rfl) ?_
  refine WR_mk rfl (mk_buildSlice (e := 5) [(0, .int .u8 (IntKind.u8.wrap ((n : Int).fdiv (2 ^ 24)))), (1, .int .u8 (IntKind.u8.wrap ((n : Int).fdiv (2 ^ 16)))), (2, .int .u8 (IntKind.u8.wrap ((n : Int).fdiv (2 ^ 8)))), (3, .int .u8 (IntKind.u8.wrap (n : Int)))] [.int .u8 0] 1 (by kernel_rfl) (by kernel_rfl) rfl (by omega) (by omega) (by intro i hi; rcases i with _ | _ | _ | _ | i <;> first | (simp [Value.cells]; done) | (exfalso; simp only [List.length_cons, List.length_nil] at hi; omega)) (by simp [Value.cells]) (fun g18 w18 hg18 hr18 hb18 => ?_))
  have ge_hB_g18 := Nat.le_trans hB.size hg18
  have lt_g3_g18 : g3 < g18 := Nat.lt_of_lt_of_le hr3.lt hg18
  replace hr3 := hr3.new hb18
  replace hB := hB.acc hb18
  replace hr18 : row w18 g18 (bv (beB 4 n)) 5 := by rw [← bytes4 n]; exact hr18
  refine WR_val rfl (rn_move) ?_
  have hv18 := hr18.owns (base := g18) (m := 4) (sz := 1) (Nat.le_refl _) (lenV 4 n) (by unfold maxLen; omega)
  have sz_hB_20 := hB.size
  refine WR_mk rfl (mk_append (e := 5) (sz := 1) (bytes := 1) (z := Value.int .u8 0) (by kernel_rfl) rfl (by kernel_rfl) rfl (by decide) rfl hv18 rfl (h.below hB (Nat.le_refl _)) (bv_one _) (by unfold maxLen; omega) (by omega) (fun hm0 => by omega) (fun v20 w20 hv20 hgr20 hfr20 => ?_))
  replace hr3 := hr3.own hv18 hgr20 (by omega)
  replace hB := hB.own hv18 hgr20 (by omega)
  have hobt := hv20.form' (by omega)
  obtain ⟨ga, oa, ca, rfl, hga1, hga2, hca⟩ := hobt
  have hs20 := hv20.sl
  rw [← bv_append] at hs20
  refine WR_mk rfl (mk_alloc ([Value.slice none 0 0]) (by kernel_rfl) (fun g4 w4 hg4 hr4 hb4 => ?_))
  have ge_hB_g4 := Nat.le_trans hB.size hg4
  have lt_g3_g4 : g3 < g4 := Nat.lt_of_lt_of_le hr3.lt hg4
  replace hr3 := hr3.new hb4
  replace hs20 := hs20.new hb4
  replace hB := hB.acc hb4
  refine WR_sk rfl (sk_store1 rfl rfl rfl rfl hr4 (by kernel_rfl) (by first | (simp only [List.length_replicate]; omega) | (simp only [iv_length]; omega) | (simp only [bv_length, List.length_set]; omega) | simp) (fun w902 hr4 ho902 => ?_))
  replace hr3 := hr3.only ho902 (Nat.ne_of_lt lt_g3_g4)
  replace hs20 := hs20.only ho902 (by omega)
  replace hB := ho902.below hB ge_hB_g4
  refine WR_nil ?_
  refine thenN ?_
  refine W_seq ?_
  refine W_region ?_
  refine WR_val rfl (rn_makeFunc) ?_
  refine WR_val rfl (rn_assign) ?_
  refine WR_nil ?_
  refine thenN ?_
  refine W_ret ?_
  refine ret_ret [_] ⟨rfl, trivial⟩ ?_
  refine ⟨g3, g4, ga, rfl, hr3.lt, hr4.lt, ?_, by omega, by omega, by omega, hB, ?_⟩
  · obtain ⟨_, _, he, h1⟩ := hs20.some (by omega); cases he; exact h1
  · exact piecesSeq b g3 g4 ga oa n ca _ hl hn hr3 hr4 hs20 hca
end Go.Proofs.YtkkgahgpemepeaaGreat
namespace Go.Proofs.YtkkgahgpemepeaaGreat
open Go Go.RowKit Coup
theorem may10r (c n : Int) (w : World) : Calls Tryz.prog 85 [.agg #[.int .u64 c, .int .i64 n]].toArray w (Ret fun v w' => v = .bool (mayT c n) ∧ Below w.heap.size w w') := calls_ret (may10 c n w)
theorem need12r (n : Int) (w : World) : Calls Tryz.prog 60 [.int .i64 n].toArray w (Ret fun v w' => v = .int .i64 (needZ n) ∧ w = w') := calls_ret (need12 n w)
theorem bytes27r (c n p m : Nat) (b : List UInt8) (hb : b.length = 48) (hc : c < 18446744073709551616) (hn : n < 4294967296) (hp : p < 65536) (hm : m < 65536) (w : World) :
    Calls Tryz.prog 87 [.agg (pieceL c n p m b).toArray].toArray w (Ret fun v w' => v = .agg (bv (halfB c n p m b)).toArray ∧ Below w.heap.size w w') := calls_ret (bytes27 c n p m b hb hc hn hp hm w)
def needN (n : Nat) : Nat := (manyN n + 1) / 2
def rowB (c n : Nat) (b : List UInt8) : List UInt8 := (halvesL c n b).flatten ++ zerosB (128 * needN b.length - 64 * manyN b.length)
def rowTo (c n : Nat) (b : List UInt8) (k : Nat) : List UInt8 := ((halvesL c n b).take k).flatten ++ zerosB (128 * needN b.length - 64 * k)
theorem halvesL_get (c n : Nat) (b : List UInt8) (k : Nat) (hk : k < manyN b.length) : (halvesL c n b)[k]? = some (halfB c n k (manyN b.length) (pieceB b k)) := by
  rw [halvesL, List.getElem?_map, List.getElem?_range hk]; rfl
theorem hflat_len (c n : Nat) (b : List UInt8) : ∀ k, k ≤ manyN b.length → ((halvesL c n b).take k).flatten.length = 64 * k
  | 0, _ => rfl
  | k + 1, h => by
    rw [List.take_add_one, halvesL_get c n b k (by omega), List.flatten_append, List.length_append, hflat_len c n b k (by omega)]
    simp [halfB_length, pieceB_length b k (by omega)]
    omega
theorem rowTo_len (c n : Nat) (b : List UInt8) (k : Nat) (h : k ≤ manyN b.length) : (rowTo c n b k).length = 128 * needN b.length := by
  rw [rowTo, List.length_append, hflat_len c n b k h, zerosB, List.length_replicate]
  unfold needN; omega
theorem rowTo_step (c n : Nat) (b : List UInt8) (k : Nat) (h : k < manyN b.length) : splice (bv (rowTo c n b k)) (64 * k) (bv (halfB c n k (manyN b.length) (pieceB b k))) = bv (rowTo c n b (k + 1)) := by
  have h1 := hflat_len c n b k (by omega)
  have h2 : (halfB c n k (manyN b.length) (pieceB b k)).length = 64 := by rw [halfB_length, pieceB_length b k h]
  have h3 : zerosB (128 * needN b.length - 64 * k) = zerosB 64 ++ zerosB (128 * needN b.length - 64 * (k + 1)) := by
    rw [zerosB, zerosB, zerosB, List.replicate_append_replicate]
    congr 1
    unfold needN; omega
  have h4 : (halvesL c n b).take (k + 1) = (halvesL c n b).take k ++ [halfB c n k (manyN b.length) (pieceB b k)] := by
    rw [List.take_add_one, halvesL_get c n b k h]; rfl
  have h5 : bv (rowTo c n b k) = bv ((halvesL c n b).take k).flatten ++ (bv (zerosB 64) ++ bv (zerosB (128 * needN b.length - 64 * (k + 1)))) := by rw [rowTo, h3]; simp only [bv_append]
  have h6 : bv (rowTo c n b (k + 1)) = bv ((halvesL c n b).take k).flatten ++ (bv (halfB c n k (manyN b.length) (pieceB b k)) ++ bv (zerosB (128 * needN b.length - 64 * (k + 1)))) := by
    rw [rowTo, h4]; simp [bv_append]
  rw [h5, h6]
  have h7 : (bv ((halvesL c n b).take k).flatten).length = 64 * k := by rw [bv_length, h1]
  have := splice_head (bv ((halvesL c n b).take k).flatten) (bv (zerosB 64)) (bv (halfB c n k (manyN b.length) (pieceB b k))) (bv (zerosB (128 * needN b.length - 64 * (k + 1)))) (by rw [bv_length, bv_length, h2]; rfl)
  rw [h7] at this
  exact this
theorem rn_piece {ρ : Env} {w : World} {d : Option Nat} {ty : TypeId} {pos : String} {af : Array Edge} {gd : Option (Nat × Bool)} {x0 x1 x2 x3 : Operand} {c n p m : Int} {b : List UInt8} (hb : b.length = 48)
    (h0 : ev ρ x0 = .agg #[.int .u64 c, .int .i64 n]) (h1 : ev ρ x1 = .int .i64 p) (h2 : ev ρ x2 = .int .i64 m) (h3 : ev ρ x3 = .agg (bv b).toArray) :
    (execOp (ev ρ) ⟨d, .build 144 #[(0, x0), (1, x1), (2, x2), (3, x3)], ty, pos, af, gd⟩).run Tryz.prog w = .ok (.value (.agg (pieceL c n p m b).toArray)) w := by
  have hl : (bv b).length = 48 := by rw [bv_length, hb]
  have := rn_build (P := Tryz.prog) (ρ := ρ) (w := w) (d := d) (ty := ty) (pos := pos) (af := af) (gd := gd) (t := 144) (parts := [(0, x0), (1, x1), (2, x2), (3, x3)]) (k := 52) [(0, .agg #[.int .u64 c, .int .i64 n]), (1, .int .i64 p), (2, .int .i64 m), (3, .agg (bv b).toArray)]
    [(0, 2), (2, 1), (3, 1), (4, 48)] (by kernel_rfl) (by kernel_rfl) (by simp [h0, h1, h2, h3])
    (by intro i hi; rcases i with _ | _ | _ | _ | i <;> first | (simp [Value.cells, hl]; done) | (exfalso; simp only [List.length_cons, List.length_nil] at hi; omega)) (by simp [Value.cells, hl])
  have e : (([(0, Value.agg #[Value.int IntKind.u64 c, Value.int IntKind.i64 n]), (1, Value.int IntKind.i64 p), (2, Value.int IntKind.i64 m), (3, Value.agg (bv b).toArray)] : List (Nat × Value)).map fun q => q.2.cells.toList).flatten = pieceL c n p m b := by simp [Value.cells, pieceL]
  rw [e] at this
  exact this
theorem may_bounds {c nn : Int} (h : mayT c nn = true) : 1 ≤ c ∧ c ≤ 4611686018427387904 ∧ 0 ≤ nn ∧ nn < 2147483648 := by
  rcases may_cases c nn with ⟨HM, _⟩ | ⟨HM, _⟩ | ⟨HM, _⟩ | ⟨HM, _⟩ | ⟨_, h1⟩
  · rw [HM.out] at h; cases h
  · rw [HM.out] at h; cases h
  · rw [HM.out] at h; cases h
  · rw [HM.out] at h; cases h
  · exact h1
set_option maxRecDepth 20000 in
set_option maxHeartbeats 1000000 in
theorem split_yes (c nn : Nat) (hm : mayT c nn = true) (b : List UInt8) (p : Option Addr) (n cp : Nat) (w : World) (h : SlAt w p n 1 (bv b)) (hn : n ≤ 32768) :
    Calls Tryz.prog 62 [.agg #[.int .u64 c, .int .i64 nn], .slice p n cp].toArray w
      (Ret fun v w' => ∃ g, v = .tuple #[.slice (some ⟨g, 0, none⟩) (needN n) (needN n), .int .i64 0] ∧ w.heap.size ≤ g ∧ row w' g (bv (rowB c nn b)) 45 ∧ Below w.heap.size w w') := by
  have hB := Below.refl w.heap.size w
  have hl : b.length = n := by simpa [bv_length] using h.len
  have hnz : needZ n = (needN n : Nat) := needZ_nat hn
  have hmb := may_bounds hm
  have hnb : needN n ≤ 1000 := by unfold needN manyN; omega
  have hnn : needN n = (manyN n + 1) / 2 := rfl
  refine calls_W (fn := Tryz.f62) (rs := [.tmp 4, .tmp 5]) (n := 45) Tryz.func62 rfl rfl Tryz.ntmps62 (by kernel_rfl) rfl ?_
  refine W_seq ?_
  refine W_region ?_
  refine WR_mk rfl (mk_box ([.int .u64 c, .int .i64 nn]) rfl (fun g2 w2 hg2 hr2 hb2 => ?_))
  have ge_hB_g2 := Nat.le_trans hB.size hg2
  replace hB := hB.acc hb2
  refine WR_mk rfl (mk_box ([.slice p n cp]) rfl (fun g3 w3 hg3 hr3 hb3 => ?_))
  have ge_hB_g3 := Nat.le_trans hB.size hg3
  have lt_g2_g3 : g2 < g3 := Nat.lt_of_lt_of_le hr2.lt hg3
  replace hr2 := hr2.new hb3
  replace hB := hB.acc hb3
  refine WR_val rfl (rn_assign) ?_
  refine WR_val rfl (rn_assign) ?_
  refine WR_nil ?_
  refine thenN ?_
  refine W_seq ?_
  refine W_block ?_
  refine W_seq ?_
  refine W_region ?_
  refine WR_val rfl (rn_load rfl (Ld.rowA (k := 2) hr2 (by kernel_rfl) (by kernel_rfl) (by first | (simp; done) | (simp [bv_length, *]; done) | assumption))) ?_
  refine WR_ent rfl (rn_call (by kernel_rfl) rfl) (may10r c nn w3) ?_
  rintro _ w12 ⟨rfl, hb12⟩
  replace hr2 := hr2.new hb12
  replace hr3 := hr3.new hb12
  replace hB := hB.acc hb12
  refine WR_val rfl (rn_not rfl) ?_
  refine WR_val rfl (rn_assign) ?_
  refine WR_nil ?_
  refine thenN ?_
  refine W_fnb rfl (hm) ?_
  refine W_seq ?_
  refine W_region ?_
  refine WR_val rfl (rn_load rfl (Ld.row1 hr3 (by kernel_rfl) rfl)) ?_
  refine WR_val rfl (rn_lenSl (e := 5) (sz := 1) (by kernel_rfl) rfl rfl) ?_
  refine WR_val rfl (rn_gtr rfl rfl) ?_
  refine WR_val rfl (rn_assign) ?_
  refine WR_nil ?_
  refine thenN ?_
  refine W_fp rfl ((by omega)) ?_
  refine W_skip ?_
  refine blockN ?_
  refine thenN ?_
  refine W_seq ?_
  refine W_region ?_
  refine WR_val rfl (rn_load rfl (Ld.row1 hr3 (by kernel_rfl) rfl)) ?_
  refine WR_val rfl (rn_lenSl (e := 5) (sz := 1) (by kernel_rfl) rfl rfl) ?_
  refine WR_ent rfl (rn_call (by kernel_rfl) rfl) (need12r n w12) ?_
  rintro _ _ ⟨rfl, rfl⟩
  refine WR_mk rfl (mk_make (e := 45) (needN n) (bv (zerosB 128)) 128 128 (byteV 0) (by kernel_rfl) (by kernel_rfl) ⟨_, rfl, hnz⟩ ⟨_, rfl, hnz⟩ (by rw [bv_zeros]; intro u hu; exact (List.mem_replicate.1 hu).2) (by rw [bv_zeros]; simp) (by omega) (by omega) (fun g21 w21 hg21 hr21 hb21 => ?_))
  have ge_hB_g21 := Nat.le_trans hB.size hg21
  have lt_g2_g21 : g2 < g21 := Nat.lt_of_lt_of_le hr2.lt hg21
  have lt_g3_g21 : g3 < g21 := Nat.lt_of_lt_of_le hr3.lt hg21
  replace hr2 := hr2.new hb21
  replace hr3 := hr3.new hb21
  replace hB := hB.acc hb21
  refine WR_mk rfl (mk_alloc ([Value.slice none 0 0]) (by kernel_rfl) (fun g6 w6 hg6 hr6 hb6 => ?_))
  have ge_hB_g6 := Nat.le_trans hB.size hg6
  have lt_g2_g6 : g2 < g6 := Nat.lt_of_lt_of_le hr2.lt hg6
  have lt_g3_g6 : g3 < g6 := Nat.lt_of_lt_of_le hr3.lt hg6
  have lt_g21_g6 : g21 < g6 := Nat.lt_of_lt_of_le hr21.lt hg6
  replace hr2 := hr2.new hb6
  replace hr3 := hr3.new hb6
  replace hr21 := hr21.new hb6
  replace hB := hB.acc hb6
  refine WR_sk rfl (sk_store1 rfl rfl rfl rfl hr6 (by kernel_rfl) (by first | (simp only [List.length_replicate]; omega) | (simp only [iv_length]; omega) | (simp only [bv_length, List.length_set]; omega) | simp) (fun w901 hr6 ho901 => ?_))
  replace hr2 := hr2.only ho901 (Nat.ne_of_lt lt_g2_g6)
  replace hr3 := hr3.only ho901 (Nat.ne_of_lt lt_g3_g6)
  replace hr21 := hr21.only ho901 (Nat.ne_of_lt lt_g21_g6)
  replace hB := ho901.below hB ge_hB_g6
  refine WR_nil ?_
  refine thenN ?_
  refine W_seq ?_
  refine W_seq ?_
  refine W_region ?_
  refine WR_val rfl (rn_load rfl (Ld.row1 hr3 (by kernel_rfl) rfl)) ?_
  have z21 := hr21.lt
  have z2 := hr2.lt
  have z3 := hr3.lt
  have z6 := hr6.lt
  refine WR_ent rfl (rn_call (by kernel_rfl) rfl) (pieces25 b p n cp w901 (h.below hB (Nat.le_refl _)) (by omega)) ?_
  rintro _ w23 ⟨g3p, g4p, ga, rfl, l3p, l4p, la, b3p, b4p, ba, hb23, hseq⟩
  replace hr2 := hr2.new hb23
  replace hr3 := hr3.new hb23
  replace hr21 := hr21.new hb23
  replace hr6 := hr6.new hb23
  replace hB := hB.acc hb23
  refine WR_nil ?_
  refine thenN ?_
  refine W_block ?_
  have hro := hr21
  have q21 := hr21.lt
  have q2 := hr2.lt
  have q3 := hr3.lt
  have q6 := hr6.lt
  rw [show List.replicate (needN n * 128) (byteV 0) = bv (rowTo c nn b 0) by rw [rowTo, List.take_zero, List.flatten_nil, List.nil_append, bv_zeros, hl]; congr 1; omega] at hro
  refine W_rangeFunc (ps := [24, 25]) (xs := piecesV b) (ks := [g3p, g4p, ga]) (fun _ h => h) rfl (by kernel_rfl) hseq (Below.refl _ _) (by intro v hv; rw [piecesV, List.mem_map] at hv; obtain ⟨i, _, rfl⟩ := hv; rfl) (by kernel_rfl) (by simp)
    (by intro x hx; simp only [List.mem_cons, List.not_mem_nil, or_false] at hx; rcases hx with rfl | rfl | rfl <;> assumption)
    (fun k W => k ≤ manyN n ∧ row W g2 [.int .u64 c, .int .i64 nn] 86 ∧ row W g3 [.slice p n cp] 67 ∧ row W g6 [.slice (some ⟨g21, 0, none⟩) (needN n) (needN n)] 33 ∧ row W g21 (bv (rowTo c nn b k)) 45 ∧ Below w.heap.size w W)
    (fun _ _ => False) (fun k W W' ⟨h1, h2, h3, h4, h5, h6⟩ hs => ⟨h1, h2.soft hs, h3.soft hs, h4.soft hs, h5.soft hs, h6.soft hs hB.size⟩) (fun _ _ _ h _ => h.elim) ⟨Nat.zero_le _, hr2, hr3, hr6, hro, hB⟩ ?_ ?_ (fun _ _ _ _ h _ => h.elim)
  · intro l k v W1 hv hI hsz
    obtain ⟨hk, i2, i3, i6, io, iB⟩ := hI
    have hkb : k < manyN b.length := by
      have := (List.getElem?_eq_some_iff.1 hv).1
      rw [piecesV, List.length_map, List.length_range] at this; exact this
    have hkm : k < manyN n := by rw [← hl]; exact hkb
    obtain rfl : v = pieceV b k := by
      rw [piecesV, List.getElem?_map, List.getElem?_range hkb] at hv; exact (Option.some.inj hv).symm
    have hBa := Below.refl W1.heap.size W1
    have hpl := pieceB_length b k hkb
    have hmn : manyN n ≤ 700 := by unfold manyN; omega
    have hhl : (halfB c nn k (manyN n) (pieceB b k)).length = 64 := by rw [halfB_length, hpl]
    refine W_seq ?_
    refine W_region ?_
    refine WR_val rfl (rn_assign) ?_
    refine WR_nil ?_
    refine thenN ?_
    refine W_region ?_
    refine WR_mk rfl (mk_alloc (List.replicate 48 (byteV 0)) (by kernel_rfl) (fun g8 w8 hg8 hr8 hb8 => ?_))
    have ge_hBa_g8 := Nat.le_trans hBa.size hg8
    replace hBa := hBa.acc hb8
    refine WR_sk rfl (sk_storeA 48 (bv (pieceB b k)) rfl rfl hr8 (by kernel_rfl) (by first | assumption | (simp; done) | (simp [bv_length, *]; done)) (by first | assumption | (simp; done) | (simp [bv_length, *]; done) | rfl) (by first | exact bv_one _ | assumption | (simp [Value.oneCell']; done)) (fun w902 hr8 ho902 => ?_))
    replace hBa := ho902.below hBa ge_hBa_g8
    refine WR_nil ?_
    refine ⟨rfl, hBa, fun W2 hs => ?_⟩
    have hr8 := hr8.soft hs
    have j2 := (i2.new hBa).soft hs
    have j3 := (i3.new hBa).soft hs
    have j6 := (i6.new hBa).soft hs
    have jo := (io.new hBa).soft hs
    have jB := (iB.acc hBa).soft hs hB.size
    have hBi := Below.refl W2.heap.size W2
    have hs1 := hs.size
    have hs2 := hBa.size
    have u2 := j2.lt
    have u3 := j3.lt
    have u6 := j6.lt
    have uo := jo.lt
    have v2 := i2.lt
    have v6 := i6.lt
    have v21 := io.lt
    have v3 := i3.lt
    refine W_block ?_
    refine W_seq ?_
    refine W_draw' [] (by kernel_rfl) ?_
    intro w903 hb903 hS903
    replace hr8 := hr8.new hb903
    replace hBi := hBi.acc hb903
    have hr8_d903 := hr8
    have hBi_d903 := hBi
    refine WA_take 0 (by kernel_rfl) rfl (fun w' hS' => rn_load rfl (Ld.rowA (k := 2) (j2.new (hBi_d903.kpd hS' (by first | (simp; done) | (simp; omega) | (simp [*]; done) | exact notLL (Or.inl (by omega)) | exact notLL (Or.inr (by simp)) | exact fun g hm => Nat.le_trans (by omega) (inLL hm).1 | (intro b o e; cases e; exact notLL (Or.inl (by omega))) | (intro b hm; have := (hu.lt b (Option.mem_toList.1 hm)).1; omega) | (intro b o e; cases e; intro hm; have := (hu.lt _ (Option.mem_toList.1 hm)).1; omega)))) (by kernel_rfl) (by kernel_rfl) rfl)) ?_
    refine WA_take 1 (by kernel_rfl) rfl (fun _ _ => rn_move) ?_
    refine WA_take 2 (by kernel_rfl) rfl (fun w' hS' => rn_load rfl (Ld.row1 (j3.new (hBi_d903.kpd hS' (by first | (simp; done) | (simp; omega) | (simp [*]; done) | exact notLL (Or.inl (by omega)) | exact notLL (Or.inr (by simp)) | exact fun g hm => Nat.le_trans (by omega) (inLL hm).1 | (intro b o e; cases e; exact notLL (Or.inl (by omega))) | (intro b hm; have := (hu.lt b (Option.mem_toList.1 hm)).1; omega) | (intro b o e; cases e; intro hm; have := (hu.lt _ (Option.mem_toList.1 hm)).1; omega)))) (by kernel_rfl) rfl)) ?_
    refine WA_take 3 (by kernel_rfl) rfl (fun _ _ => rn_lenSl (e := 5) (sz := 1) (by kernel_rfl) rfl rfl) ?_
    refine WA_call 4 (by kernel_rfl) rfl (fun _ => rn_call (by kernel_rfl) rfl) (fun w' hS' => halves26r n (by omega) w') ?_
    refine WA_take 5 (by kernel_rfl) rfl (fun w' hS' => rn_load rfl (Ld.rowA (k := 48) (hr8_d903.kpd hS' (by first | (simp; done) | (simp; omega) | (simp [*]; done) | exact notLL (Or.inl (by omega)) | exact notLL (Or.inr (by simp)) | exact fun g hm => Nat.le_trans (by omega) (inLL hm).1 | (intro b o e; cases e; exact notLL (Or.inl (by omega))) | (intro b hm; have := (hu.lt b (Option.mem_toList.1 hm)).1; omega) | (intro b o e; cases e; intro hm; have := (hu.lt _ (Option.mem_toList.1 hm)).1; omega))) (by kernel_rfl) (by kernel_rfl) (by rw [bv_length, hpl]))) ?_
    refine WA_take 6 (by kernel_rfl) rfl (fun _ _ => rn_piece hpl rfl rfl rfl rfl) ?_
    refine WA_two 7 8 (by kernel_rfl) ?_ ?_
    ·
      refine WO_ent rfl rfl (rn_call (by kernel_rfl) rfl) (bytes27r c nn k (manyN n) (pieceB b k) hpl (by omega) (by omega) (by omega) (by omega) w903) ?_
      rintro _ w33 ⟨rfl, hb33⟩
      have hS904 := hS903.add0 hb33
      refine ⟨hS904, ?_⟩
      replace hr8 := hr8.new hb33
      replace hBi := hBi.acc hb33
      refine WA_one 8 (by kernel_rfl) ?_
      refine WO_mk rfl rfl (mk_alloc (List.replicate 64 (byteV 0)) (by kernel_rfl) (fun g9 w9 hg9 hr9 hb9 => ?_))
      have hS905 := hS904.add0 hb9
      refine ⟨hS905, ?_⟩
      have ge_hS904_g9 := Nat.le_trans hS904.size hg9
      have ge_hBi_g9 := Nat.le_trans hBi.size hg9
      have lt_g8_g9 : g8 < g9 := Nat.lt_of_lt_of_le hr8.lt hg9
      replace hr8 := hr8.new hb9
      replace hBi := hBi.acc hb9
      refine WA_one 9 (by kernel_rfl) ?_
      refine WO_sk rfl rfl (sk_storeA 64 (bv (halfB c nn k (manyN n) (pieceB b k))) rfl rfl hr9 (by kernel_rfl) (by first | assumption | (simp; done) | (simp [bv_length, *]; done)) (by first | assumption | (simp; done) | (simp [bv_length, *]; done) | rfl) (by first | exact bv_one _ | assumption | (simp [Value.oneCell']; done)) (fun w907 hr9 ho907 => ?_))
      have hS906 := hS905.add1 ho907 (by first | (left; omega) | (right; simp; done) | (right; simp; omega))
      refine ⟨hS906, ?_⟩
      replace hr8 := hr8.only ho907 (Nat.ne_of_lt lt_g8_g9)
      replace hBi := ho907.below hBi ge_hBi_g9
      refine WA_done (by kernel_rfl) ?_
      refine thenN ?_
      have jo := jo.new hBi
      have j6 := j6.new hBi
      have hBd := hBi
      have n69 : g6 ≠ g9 := by omega
      refine W_draw' [g21] (by kernel_rfl) ?_
      intro w908 hb908 hS908
      replace hr8 := hr8.new hb908
      replace hr9 := hr9.new hb908
      replace jo := jo.new hb908
      replace j6 := j6.new hb908
      replace hBd := hBd.acc hb908
      have hr8_d908 := hr8
      have hr9_d908 := hr9
      have jo_d908 := jo
      have j6_d908 := j6
      have hBd_d908 := hBd
      refine WA_take 0 (by kernel_rfl) rfl (fun w' hS' => rn_load rfl (Ld.row1 (j6_d908.kpd hS' (by first | (simp; done) | (simp; omega) | (simp [*]; done) | exact notLL (Or.inl (by omega)) | exact notLL (Or.inr (by simp)) | exact fun g hm => Nat.le_trans (by omega) (inLL hm).1 | (intro b o e; cases e; exact notLL (Or.inl (by omega))) | (intro b hm; have := (hu.lt b (Option.mem_toList.1 hm)).1; omega) | (intro b o e; cases e; intro hm; have := (hu.lt _ (Option.mem_toList.1 hm)).1; omega))) (by kernel_rfl) rfl)) ?_
      refine WA_take 1 (by kernel_rfl) rfl (fun _ _ => rn_move) ?_
      refine WA_take 2 (by kernel_rfl) rfl (fun _ _ => rn_quo0 rfl rfl (by omega) (by omega)) ?_
      refine WA_take 3 (by kernel_rfl) rfl (fun _ _ => rn_indexSl (e := 45) (sz := 128) (by kernel_rfl) rfl rfl (k / 2) (by omega) (by omega)) ?_
      refine WA_take 4 (by kernel_rfl) rfl (fun _ _ => rn_move) ?_
      refine WA_take 5 (by kernel_rfl) rfl (fun _ _ => rn_rem0 rfl rfl (by omega) (by omega)) ?_
      refine WA_take 6 (by kernel_rfl) rfl (fun _ _ => rn_mul rfl rfl (w64 (by omega))) ?_
      refine WA_take 7 (by kernel_rfl) rfl (fun _ _ => rn_sliceAr1' (e := 5) (n := 128) (k % 2 * 64) (128) (128) (_) (by kernel_rfl) rfl ⟨_, _, rfl, by omega⟩ rfl rfl (by simp) (by omega) (by omega) (by omega) (by omega) rfl) ?_
      refine WA_take 8 (by kernel_rfl) rfl (fun _ _ => rn_sliceAr1' (e := 5) (n := 64) (0) (64) (64) (64) (by kernel_rfl) rfl rfl rfl rfl (by simp) (by omega) (by omega) (by omega) (by omega) (by omega)) ?_
      refine WA_one 9 (by kernel_rfl) ?_
      have hBe := hBd
      refine WO_mk rfl rfl (mk_copy (e := 5) (by kernel_rfl) (by kernel_rfl) rfl rfl g21 ((0 + k / 2 * 128 + k % 2 * 64)) jo (bv (halfB c nn k (manyN n) (pieceB b k))) (by rw [bv_length, halfB_length, hpl]; simp [Nat.min_def]; omega) (fun _ => ⟨rfl, _, rfl, fun j v hv => by rw [Addr.add_lit, Nat.zero_add]; exact hr9.cell j hv⟩) (by rw [bv_length, halfB_length, hpl, bv_length, rowTo_len c nn b k (by omega), hl]; unfold needN; omega) (bv_one _) (fun w43 jo ho43 => ?_))
      have hS909 := hS908.add1 ho43 (by first | (left; omega) | (right; simp; done) | (right; simp; omega))
      refine ⟨hS909, ?_⟩
      replace hr8 := hr8.only ho43 (by omega)
      replace hr9 := hr9.only ho43 (by omega)
      replace j6 := j6.only ho43 (Nat.ne_of_gt lt_g21_g6)
      refine WA_done (by kernel_rfl) ?_
      refine blockN ?_
      have hkp : Kp [g21] W2 w43 := (Kp.of_below hBe).add (N := [g21]) (Kp.of_only ho43) (by simp)
      rw [show 0 + k / 2 * 128 + k % 2 * 64 = 64 * k by omega, ← hl, rowTo_step c nn b k hkb] at jo
      exact ⟨keepsFrom_of_kp hkp (by simp; left; omega), fun x hx => hkp.block x (by simp at hx; rcases hx with rfl | rfl | rfl <;> omega) (by simp at hx ⊢; rcases hx with rfl | rfl | rfl <;> omega), by omega, j2.kp hkp (by simp; omega), j3.kp hkp (by simp; omega), j6, jo, jB.kpd hkp (by simp; omega)⟩
    ·
      refine WO_mk rfl rfl (mk_alloc (List.replicate 64 (byteV 0)) (by kernel_rfl) (fun g9 w9 hg9 hr9 hb9 => ?_))
      have hS910 := hS903.add0 hb9
      refine ⟨hS910, ?_⟩
      have ge_hS903_g9 := Nat.le_trans hS903.size hg9
      have ge_hBi_g9 := Nat.le_trans hBi.size hg9
      have lt_g8_g9 : g8 < g9 := Nat.lt_of_lt_of_le hr8.lt hg9
      replace hr8 := hr8.new hb9
      replace hBi := hBi.acc hb9
      refine WA_one 7 (by kernel_rfl) ?_
      refine WO_ent rfl rfl (rn_call (by kernel_rfl) rfl) (bytes27r c nn k (manyN n) (pieceB b k) hpl (by omega) (by omega) (by omega) (by omega) w9) ?_
      rintro _ w33 ⟨rfl, hb33⟩
      have hS911 := hS910.add0 hb33
      refine ⟨hS911, ?_⟩
      replace hr8 := hr8.new hb33
      replace hr9 := hr9.new hb33
      replace hBi := hBi.acc hb33
      refine WA_one 9 (by kernel_rfl) ?_
      refine WO_sk rfl rfl (sk_storeA 64 (bv (halfB c nn k (manyN n) (pieceB b k))) rfl rfl hr9 (by kernel_rfl) (by first | assumption | (simp; done) | (simp [bv_length, *]; done)) (by first | assumption | (simp; done) | (simp [bv_length, *]; done) | rfl) (by first | exact bv_one _ | assumption | (simp [Value.oneCell']; done)) (fun w913 hr9 ho913 => ?_))
      have hS912 := hS911.add1 ho913 (by first | (left; omega) | (right; simp; done) | (right; simp; omega))
      refine ⟨hS912, ?_⟩
      replace hr8 := hr8.only ho913 (Nat.ne_of_lt lt_g8_g9)
      replace hBi := ho913.below hBi ge_hBi_g9
      refine WA_done (by kernel_rfl) ?_
      refine thenN ?_
      have jo := jo.new hBi
      have j6 := j6.new hBi
      have hBd := hBi
      have n69 : g6 ≠ g9 := by omega
      refine W_draw' [g21] (by kernel_rfl) ?_
      intro w914 hb914 hS914
      replace hr8 := hr8.new hb914
      replace hr9 := hr9.new hb914
      replace jo := jo.new hb914
      replace j6 := j6.new hb914
      replace hBd := hBd.acc hb914
      have hr8_d914 := hr8
      have hr9_d914 := hr9
      have jo_d914 := jo
      have j6_d914 := j6
      have hBd_d914 := hBd
      refine WA_take 0 (by kernel_rfl) rfl (fun w' hS' => rn_load rfl (Ld.row1 (j6_d914.kpd hS' (by first | (simp; done) | (simp; omega) | (simp [*]; done) | exact notLL (Or.inl (by omega)) | exact notLL (Or.inr (by simp)) | exact fun g hm => Nat.le_trans (by omega) (inLL hm).1 | (intro b o e; cases e; exact notLL (Or.inl (by omega))) | (intro b hm; have := (hu.lt b (Option.mem_toList.1 hm)).1; omega) | (intro b o e; cases e; intro hm; have := (hu.lt _ (Option.mem_toList.1 hm)).1; omega))) (by kernel_rfl) rfl)) ?_
      refine WA_take 1 (by kernel_rfl) rfl (fun _ _ => rn_move) ?_
      refine WA_take 2 (by kernel_rfl) rfl (fun _ _ => rn_quo0 rfl rfl (by omega) (by omega)) ?_
      refine WA_take 3 (by kernel_rfl) rfl (fun _ _ => rn_indexSl (e := 45) (sz := 128) (by kernel_rfl) rfl rfl (k / 2) (by omega) (by omega)) ?_
      refine WA_take 4 (by kernel_rfl) rfl (fun _ _ => rn_move) ?_
      refine WA_take 5 (by kernel_rfl) rfl (fun _ _ => rn_rem0 rfl rfl (by omega) (by omega)) ?_
      refine WA_take 6 (by kernel_rfl) rfl (fun _ _ => rn_mul rfl rfl (w64 (by omega))) ?_
      refine WA_take 7 (by kernel_rfl) rfl (fun _ _ => rn_sliceAr1' (e := 5) (n := 128) (k % 2 * 64) (128) (128) (_) (by kernel_rfl) rfl ⟨_, _, rfl, by omega⟩ rfl rfl (by simp) (by omega) (by omega) (by omega) (by omega) rfl) ?_
      refine WA_take 8 (by kernel_rfl) rfl (fun _ _ => rn_sliceAr1' (e := 5) (n := 64) (0) (64) (64) (64) (by kernel_rfl) rfl rfl rfl rfl (by simp) (by omega) (by omega) (by omega) (by omega) (by omega)) ?_
      refine WA_one 9 (by kernel_rfl) ?_
      have hBe := hBd
      refine WO_mk rfl rfl (mk_copy (e := 5) (by kernel_rfl) (by kernel_rfl) rfl rfl g21 ((0 + k / 2 * 128 + k % 2 * 64)) jo (bv (halfB c nn k (manyN n) (pieceB b k))) (by rw [bv_length, halfB_length, hpl]; simp [Nat.min_def]; omega) (fun _ => ⟨rfl, _, rfl, fun j v hv => by rw [Addr.add_lit, Nat.zero_add]; exact hr9.cell j hv⟩) (by rw [bv_length, halfB_length, hpl, bv_length, rowTo_len c nn b k (by omega), hl]; unfold needN; omega) (bv_one _) (fun w43 jo ho43 => ?_))
      have hS915 := hS914.add1 ho43 (by first | (left; omega) | (right; simp; done) | (right; simp; omega))
      refine ⟨hS915, ?_⟩
      replace hr8 := hr8.only ho43 (by omega)
      replace hr9 := hr9.only ho43 (by omega)
      replace j6 := j6.only ho43 (Nat.ne_of_gt lt_g21_g6)
      refine WA_done (by kernel_rfl) ?_
      refine blockN ?_
      have hkp : Kp [g21] W2 w43 := (Kp.of_below hBe).add (N := [g21]) (Kp.of_only ho43) (by simp)
      rw [show 0 + k / 2 * 128 + k % 2 * 64 = 64 * k by omega, ← hl, rowTo_step c nn b k hkb] at jo
      exact ⟨keepsFrom_of_kp hkp (by simp; left; omega), fun x hx => hkp.block x (by simp at hx; rcases hx with rfl | rfl | rfl <;> omega) (by simp at hx ⊢; rcases hx with rfl | rfl | rfl <;> omega), by omega, j2.kp hkp (by simp; omega), j3.kp hkp (by simp; omega), j6, jo, jB.kpd hkp (by simp; omega)⟩
  · intro D W hD hI hdef
    obtain ⟨hk, i2, i3, i6, io, iB⟩ := hI
    have hxl : (piecesV b).length = manyN b.length := by rw [piecesV, List.length_map, List.length_range]
    rw [hxl, show rowTo c nn b (manyN b.length) = rowB c nn b by rw [rowTo, rowB, List.take_of_length_le (by simp [halvesL])]] at io
    refine blockN ?_
    refine thenN ?_
    refine W_seq ?_
    refine W_region ?_
    refine WR_val rfl (rn_load rfl (Ld.row1 i6 (by kernel_rfl) rfl)) ?_
    refine WR_val rfl (rn_assign) ?_
    refine WR_val rfl (rn_assign) ?_
    refine WR_nil ?_
    refine thenN ?_
    refine W_ret ?_
    refine ret_mark [_, _] D hdef ⟨rfl, rfl, trivial⟩ ?_
    have hs := Soft.put (B := w.heap.size) (.deferred none) hdef (by have := hB.size; omega) rfl
    exact ⟨g21, rfl, by omega, io.soft hs, iB.soft hs (Nat.le_refl _)⟩
end Go.Proofs.YtkkgahgpemepeaaGreat
namespace Go.Proofs.YtkkgahgpemepeaaGreat
open Go Go.RowKit Coup
def secs : List (List UInt8) → List UInt8
  | [] => []
  | [a] => a ++ zerosB 64
  | a :: b :: r => (a ++ b) ++ secs r
theorem secs_step : ∀ (k : Nat) (L : List (List UInt8)), 2 * k < L.length → secs (L.take (2 * (k + 1))) = secs (L.take (2 * k)) ++ (L.getD (2 * k) [] ++ L.getD (2 * k + 1) (zerosB 64))
  | 0, [], h => by simp at h
  | 0, [a], _ => by simp [secs]
  | 0, a :: b :: r, _ => by simp [secs]
  | k + 1, [], h => by simp at h
  | k + 1, [a], h => by simp at h
  | k + 1, a :: b :: r, h => by
    have ih := secs_step k r (by simp at h; omega)
    have e1 : (a :: b :: r).take (2 * (k + 1 + 1)) = a :: b :: r.take (2 * (k + 1)) := by rw [show 2 * (k + 1 + 1) = 2 * (k + 1) + 1 + 1 by omega]; rfl
    have e2 : (a :: b :: r).take (2 * (k + 1)) = a :: b :: r.take (2 * k) := by rw [show 2 * (k + 1) = 2 * k + 1 + 1 by omega]; rfl
    have e3 : (a :: b :: r).getD (2 * (k + 1)) [] = r.getD (2 * k) [] := by rw [show 2 * (k + 1) = 2 * k + 1 + 1 by omega]; rfl
    have e4 : (a :: b :: r).getD (2 * (k + 1) + 1) (zerosB 64) = r.getD (2 * k + 1) (zerosB 64) := by rw [show 2 * (k + 1) + 1 = 2 * k + 1 + 1 + 1 by omega]; rfl
    rw [e1, e2, e3, e4, secs, secs, ih]
    simp only [List.append_assoc]
theorem secs_flat : ∀ (L : List (List UInt8)), (∀ l, l ∈ L → l.length = 64) → secs L = L.flatten ++ zerosB (128 * ((L.length + 1) / 2) - 64 * L.length)
  | [], _ => rfl
  | [a], _ => by simp [secs]
  | a :: b :: r, h => by
    have ih := secs_flat r fun l hl => h l (by simp [hl])
    rw [secs, ih, List.flatten_cons, List.flatten_cons, List.length_cons, List.length_cons]
    rw [show 128 * ((r.length + 1 + 1 + 1) / 2) - 64 * (r.length + 1 + 1) = 128 * ((r.length + 1) / 2) - 64 * r.length by omega]
    simp only [List.append_assoc]
theorem flat64 : ∀ (L : List (List UInt8)), (∀ l, l ∈ L → l.length = 64) → L.flatten.length = 64 * L.length
  | [], _ => rfl
  | a :: L, h => by rw [List.flatten_cons, List.length_append, flat64 L (fun l hl => h l (by simp [hl])), h a (by simp), List.length_cons]; omega
theorem halvesL_len (c n : Nat) (b : List UInt8) : (halvesL c n b).length = manyN b.length := by simp [halvesL]
theorem halvesL_64 (c n : Nat) (b : List UInt8) : ∀ l, l ∈ halvesL c n b → l.length = 64 := by
  intro l hl
  obtain ⟨i, hi⟩ := List.mem_iff_getElem?.1 hl
  have hi' : i < manyN b.length := by
    have := (List.getElem?_eq_some_iff.1 hi).1
    rwa [halvesL_len] at this
  rw [halvesL_get c n b i hi'] at hi
  cases hi
  rw [halfB_length, pieceB_length b i hi']
theorem rowB_secs (c n : Nat) (b : List UInt8) : rowB c n b = secs (halvesL c n b) := by
  rw [secs_flat _ (halvesL_64 c n b), halvesL_len, rowB, needN]
theorem _root_.Coup.SlsAt.get {w : World} {lo : Nat} {o : Option Nat} {vs : List Value} {L : List (List UInt8)} (h : SlsAt w lo o vs L) (i : Nat) {l : List UInt8} (hl : L[i]? = some l) : ∃ b off c, vs[i]? = some (.slice (some ⟨b, off, none⟩) l.length c) ∧ SlAt w (some ⟨b, off, none⟩) l.length 1 (bv l) ∧ b < w.heap.size ∧ l.length ≤ c := by
  obtain ⟨b, off, c, h1, h2, h3, _, h5, _⟩ := h.at_ i l hl
  exact ⟨b, off, c, h1, h2, h3, h5⟩
theorem splice_first (a : List UInt8) (ha : a.length = 64) : splice (List.replicate 128 (byteV 0)) 0 (bv a) = bv (a ++ zerosB 64) := by
  rw [splice, List.take_zero, List.nil_append, bv_append, bv_length, ha, bv_zeros, List.drop_replicate]
theorem splice_second (a b : List UInt8) (ha : a.length = 64) (hb : b.length = 64) : splice (bv (a ++ zerosB 64)) 64 (bv b) = bv (a ++ b) := by
  have h1 := splice_head (bv a) (bv (zerosB 64)) (bv b) [] (by rw [bv_length, bv_length, hb, zerosB, List.length_replicate])
  rw [bv_length, ha, List.append_nil, List.append_nil] at h1
  rw [bv_append, bv_append, h1]
set_option maxRecDepth 20000 in
set_option maxHeartbeats 1000000 in
theorem sectors29 (L : List (List UInt8)) (hL : ∀ l, l ∈ L → l.length = 64) {lo : Nat} (o : Option Nat) (vs : List Value) (p : Option Addr) (m cp : Nat) (w : World) (h : SlAt w p m 1 vs) (hs : SlsAt w lo o vs L) (hm : L.length = m) (hmax : m ≤ 100000) :
    Calls Tryz.prog 71 [.slice p m cp].toArray w (Ret fun v w' => ownsAt w' w.heap.size 45 128 v ((m + 1) / 2) (bv (secs L)) ∧ Below w.heap.size w w') := by
  have hB := Below.refl w.heap.size w
  have hvl : vs.length = m := by rw [hs.len, hm]
  refine calls_W (fn := Tryz.f71) (rs := [.tmp 2]) (n := 35) Tryz.func71 rfl rfl Tryz.ntmps71 (by kernel_rfl) rfl ?_
  refine W_seq ?_
  refine W_region ?_
  refine WR_val rfl (rn_assign) ?_
  refine WR_nil ?_
  refine thenN ?_
  refine W_seq ?_
  refine W_region ?_
  refine WR_val rfl (rn_assign) ?_
  refine WR_nil ?_
  refine thenN ?_
  refine W_seq ?_
  refine W_seq ?_
  refine W_region ?_
  refine WR_val rfl (rn_assign) ?_
  refine WR_nil ?_
  refine thenN ?_
  refine W_block ?_
  refine W_loop (α := Nat × Value) (0, .slice none 0 0) (fun k => [(3, k.2), (4, .int .i64 ((2 * k.1 : Nat) : Int)), (0, .slice p m cp)]) (fun k w' => 2 * k.1 ≤ m + 1 ∧ ownsAt w' w.heap.size 45 128 k.2 k.1 (bv (secs (L.take (2 * k.1)))) ∧ Below w.heap.size w w')
    (fun k => m + 2 - 2 * k.1) ⟨rfl, rfl, rfl, rfl⟩ ⟨by simp only; omega, ownsAt_nil _ _ _ _, hB⟩ ?_
  rintro ⟨k, v3⟩ f wr ⟨hk, hv3, hBr⟩
  simp only at hk hv3
  have hBi := Below.refl wr.heap.size wr
  have hszr := hBr.size
  refine W_seq ?_
  refine W_seq ?_
  refine W_region ?_
  refine WR_val rfl (rn_move) ?_
  refine WR_val rfl (rn_move) ?_
  refine WR_val rfl (rn_lenSl (e := 67) (sz := 1) (by kernel_rfl) rfl rfl) ?_
  refine WR_val rfl (rn_lss rfl rfl) ?_
  refine WR_nil ?_
  refine thenN ?_
  refine W_ifp rfl (fun hlt => ?_) (fun hlt => ?_)
  ·
    refine W_skip ?_
    refine thenN ?_
    refine W_seq ?_
    refine W_block ?_
    refine W_seq ?_
    have hobt : ∃ a, L[2 * k]? = some a := ⟨_, List.getElem?_eq_getElem (by omega)⟩
    obtain ⟨a, hga⟩ := hobt
    have ha : a.length = 64 := hL a (List.mem_of_getElem? hga)
    have hobt := hs.get (2 * k) hga
    obtain ⟨ba, oa, ca, hva, hsa, hba, -⟩ := hobt
    have hobt := h.some (by omega)
    obtain ⟨gp, op, rfl, hgp⟩ := hobt
    refine W_region ?_
    refine WR_mk rfl (mk_alloc (List.replicate 128 (byteV 0)) (by kernel_rfl) (fun g5 w5 hg5 hr5 hb5 => ?_))
    have ge_hBr_g5 := Nat.le_trans hBr.size hg5
    have ge_hBi_g5 := Nat.le_trans hBi.size hg5
    replace hBr := hBr.acc hb5
    replace hBi := hBi.acc hb5
    refine WR_nil ?_
    refine thenN ?_
    refine W_seq ?_
    refine W_draw' [g5] (by kernel_rfl) ?_
    intro w901 hb901 hS901
    replace hr5 := hr5.new hb901
    replace hBr := hBr.acc hb901
    replace hBi := hBi.acc hb901
    have hr5_d901 := hr5
    have hBr_d901 := hBr
    have hBi_d901 := hBi
    refine WA_take 0 (by kernel_rfl) rfl (fun _ _ => rn_sliceAr1' (e := 5) (n := 128) (0) (128) (128) (128) (by kernel_rfl) rfl rfl rfl rfl (by simp) (by omega) (by omega) (by omega) (by omega) (by omega)) ?_
    refine WA_take 1 (by kernel_rfl) rfl (fun _ _ => rn_move) ?_
    refine WA_take 2 (by kernel_rfl) rfl (fun _ _ => rn_move) ?_
    refine WA_take 3 (by kernel_rfl) rfl (fun _ _ => rn_indexSl1 (e := 67) (by kernel_rfl) rfl rfl (2 * k) (by omega) (by omega)) ?_
    refine WA_take 4 (by kernel_rfl) rfl (fun w' hS' => rn_load rfl (Ld.sl1 (h.below (hBr_d901.kpd hS' (by first | (simp; done) | (simp; omega) | (simp [*]; done) | exact notLL (Or.inl (by omega)) | exact notLL (Or.inr (by simp)) | exact fun g hm => Nat.le_trans (by omega) (inLL hm).1 | (intro b o e; cases e; exact notLL (Or.inl (by omega))) | (intro b hm; have := (hu.lt b (Option.mem_toList.1 hm)).1; omega) | (intro b o e; cases e; intro hm; have := (hu.lt _ (Option.mem_toList.1 hm)).1; omega))) (Nat.le_refl _)) (by kernel_rfl) hva)) ?_
    refine WA_one 5 (by kernel_rfl) ?_
    refine WO_mk rfl rfl (mk_copy (e := 5) (by kernel_rfl) (by kernel_rfl) rfl rfl g5 (0) hr5 (bv a) (by rw [bv_length]; simp [Nat.min_def]; omega) (fun _ => ⟨rfl, _, rfl, fun j v hv => by rw [Addr.add_lit]; exact (hsa.below hBr (Nat.le_refl _)).cell j hv⟩) (by rw [bv_length, ha, List.length_replicate]; omega) (bv_one _) (fun w17 hr5 ho17 => ?_))
    have hS902 := hS901.add1 ho17 (by first | (left; omega) | (right; simp; done) | (right; simp; omega))
    refine ⟨hS902, ?_⟩
    replace hBr := ho17.below hBr ge_hBr_g5
    replace hBi := ho17.below hBi ge_hBi_g5
    rw [splice_first a ha] at hr5
    refine WA_done (by kernel_rfl) ?_
    refine thenN ?_
    refine W_seq ?_
    refine W_seq ?_
    refine W_region ?_
    refine WR_val rfl (rn_move) ?_
    refine WR_val rfl (rn_add rfl rfl (Coup.w64 (by omega))) ?_
    refine WR_val rfl (rn_move) ?_
    refine WR_val rfl (rn_lenSl (e := 67) (sz := 1) (by kernel_rfl) rfl rfl) ?_
    refine WR_val rfl (rn_lss rfl rfl) ?_
    refine WR_nil ?_
    refine thenN ?_
    refine W_ifp rfl (fun h2 => ?_) (fun h2 => ?_)
    ·
      have hobt : ∃ b, L[2 * k + 1]? = some b := ⟨_, List.getElem?_eq_getElem (by omega)⟩
      obtain ⟨b2, hgb⟩ := hobt
      have hb2 : b2.length = 64 := hL b2 (List.mem_of_getElem? hgb)
      have hb3 : L.getD (2 * k + 1) (zerosB 64) = b2 := by rw [List.getD_eq_getElem?_getD, hgb]; rfl
      have hobt := hs.get (2 * k + 1) hgb
      obtain ⟨bb, ob, cb, hvb, hsb, hbb, -⟩ := hobt
      refine W_draw' [g5] (by kernel_rfl) ?_
      intro w903 hb903 hS903
      replace hr5 := hr5.new hb903
      replace hBr := hBr.acc hb903
      replace hBi := hBi.acc hb903
      have hr5_d903 := hr5
      have hBr_d903 := hBr
      have hBi_d903 := hBi
      refine WA_take 0 (by kernel_rfl) rfl (fun _ _ => rn_sliceAr1' (e := 5) (n := 128) (64) (128) (128) (64) (by kernel_rfl) rfl ⟨_, _, rfl, rfl⟩ rfl rfl (by simp) (by omega) (by omega) (by omega) (by omega) (by omega)) ?_
      refine WA_take 1 (by kernel_rfl) rfl (fun _ _ => rn_move) ?_
      refine WA_take 2 (by kernel_rfl) rfl (fun _ _ => rn_move) ?_
      refine WA_take 3 (by kernel_rfl) rfl (fun _ _ => rn_add rfl rfl (Coup.w64 (by omega))) ?_
      refine WA_take 4 (by kernel_rfl) rfl (fun _ _ => rn_indexSl1 (e := 67) (by kernel_rfl) rfl rfl (2 * k + 1) (by omega) (by omega)) ?_
      refine WA_take 5 (by kernel_rfl) rfl (fun w' hS' => rn_load rfl (Ld.sl1 (h.below (hBr_d903.kpd hS' (by first | (simp; done) | (simp; omega) | (simp [*]; done) | exact notLL (Or.inl (by omega)) | exact notLL (Or.inr (by simp)) | exact fun g hm => Nat.le_trans (by omega) (inLL hm).1 | (intro b o e; cases e; exact notLL (Or.inl (by omega))) | (intro b hm; have := (hu.lt b (Option.mem_toList.1 hm)).1; omega) | (intro b o e; cases e; intro hm; have := (hu.lt _ (Option.mem_toList.1 hm)).1; omega))) (Nat.le_refl _)) (by kernel_rfl) hvb)) ?_
      refine WA_one 6 (by kernel_rfl) ?_
      refine WO_mk rfl rfl (mk_copy (e := 5) (by kernel_rfl) (by kernel_rfl) rfl rfl g5 ((0 + 64)) hr5 (bv b2) (by rw [bv_length]; simp [Nat.min_def]; omega) (fun _ => ⟨rfl, _, rfl, fun j v hv => by rw [Addr.add_lit]; exact (hsb.below hBr (Nat.le_refl _)).cell j hv⟩) (by rw [bv_length, hb2, bv_length, List.length_append, ha, zerosB, List.length_replicate]; omega) (bv_one _) (fun w29 hr5 ho29 => ?_))
      have hS904 := hS903.add1 ho29 (by first | (left; omega) | (right; simp; done) | (right; simp; omega))
      refine ⟨hS904, ?_⟩
      replace hBr := ho29.below hBr ge_hBr_g5
      replace hBi := ho29.below hBi ge_hBi_g5
      rw [Nat.zero_add, splice_second a b2 ha hb2] at hr5
      refine WA_done (by kernel_rfl) ?_
      refine thenN ?_
      refine W_region ?_
      refine WR_val rfl (rn_move) ?_
      have hse : (a ++ b2).length = 128 := by rw [List.length_append, ha, hb2]
      refine WR_val rfl (rn_load rfl (Ld.rowA (k := 128) hr5 (by kernel_rfl) (by kernel_rfl) (by rw [bv_length, hse]))) ?_
      refine WR_mk rfl (mk_one (e := 45) (.agg (bv (a ++ b2)).toArray) (bv (a ++ b2)) (List.replicate 128 (Value.int .u8 0)) 128 (by kernel_rfl) (by kernel_rfl) rfl rfl (by first | rfl | (simp; done) | (simp [bv_length, *]; done)) ⟨by decide, by decide⟩ (fun g32 w32 hg32 hr32 hb32 => ?_))
      have ge_hBr_g32 := Nat.le_trans hBr.size hg32
      have ge_hBi_g32 := Nat.le_trans hBi.size hg32
      have lt_g5_g32 : g5 < g32 := Nat.lt_of_lt_of_le hr5.lt hg32
      replace hr5 := hr5.new hb32
      replace hBr := hBr.acc hb32
      replace hBi := hBi.acc hb32
      have hs32 := hr32.slA (m := 1) (sz := 128) (by rw [bv_length, hse]) (by unfold maxLen; omega)
      have hv3 := hv3.new hBi
      have sz_hBr_33 := hBr.size
      refine WR_mk rfl (mk_append (e := 45) (sz := 128) (bytes := 128) (z := .agg (List.replicate 128 (Value.int .u8 0)).toArray) (by kernel_rfl) rfl (by kernel_rfl) rfl (by decide) rfl hv3 rfl hs32 (bv_one _) (by unfold maxLen; omega) (by omega) (fun hm0 => by omega) (fun v33 w33 hv33 hgr33 hfr33 => ?_))
      replace hBr := hBr.own hv3 hgr33 (by omega)
      refine WR_val rfl (rn_assign) ?_
      refine WR_nil ?_
      refine blockN ?_
      refine thenN ?_
      refine W_region ?_
      refine WR_val rfl (rn_move) ?_
      refine WR_val rfl (rn_add rfl rfl (Coup.w64 (by omega))) ?_
      refine WR_val rfl (rn_assign) ?_
      refine WR_nil ?_
      refine loopN ⟨(k + 1, v33), by simp only; omega, ⟨rfl, by go_num, rfl, rfl⟩, by simp only; omega, ?_, hBr⟩
      rw [secs_step k L (by omega), bv_append]
      rw [show L.getD (2 * k) [] = a by rw [List.getD_eq_getElem?_getD, hga]; rfl, hb3]
      exact hv33
    ·
      have hobt : ∃ b, b = zerosB 64 ∧ b.length = 64 := ⟨_, rfl, by simp [zerosB]⟩
      obtain ⟨b2, hb2', hb2⟩ := hobt
      have hb3 : L.getD (2 * k + 1) (zerosB 64) = b2 := by rw [List.getD_eq_getElem?_getD, List.getElem?_eq_none (by omega)]; exact hb2'.symm
      rw [← hb2'] at hr5
      clear hb2'
      refine W_skip ?_
      refine thenN ?_
      refine W_region ?_
      refine WR_val rfl (rn_move) ?_
      have hse : (a ++ b2).length = 128 := by rw [List.length_append, ha, hb2]
      refine WR_val rfl (rn_load rfl (Ld.rowA (k := 128) hr5 (by kernel_rfl) (by kernel_rfl) (by rw [bv_length, hse]))) ?_
      refine WR_mk rfl (mk_one (e := 45) (.agg (bv (a ++ b2)).toArray) (bv (a ++ b2)) (List.replicate 128 (Value.int .u8 0)) 128 (by kernel_rfl) (by kernel_rfl) rfl rfl (by first | rfl | (simp; done) | (simp [bv_length, *]; done)) ⟨by decide, by decide⟩ (fun g32 w32 hg32 hr32 hb32 => ?_))
      have ge_hBr_g32 := Nat.le_trans hBr.size hg32
      have ge_hBi_g32 := Nat.le_trans hBi.size hg32
      have lt_g5_g32 : g5 < g32 := Nat.lt_of_lt_of_le hr5.lt hg32
      replace hr5 := hr5.new hb32
      replace hBr := hBr.acc hb32
      replace hBi := hBi.acc hb32
      have hs32 := hr32.slA (m := 1) (sz := 128) (by rw [bv_length, hse]) (by unfold maxLen; omega)
      have hv3 := hv3.new hBi
      have sz_hBr_33 := hBr.size
      refine WR_mk rfl (mk_append (e := 45) (sz := 128) (bytes := 128) (z := .agg (List.replicate 128 (Value.int .u8 0)).toArray) (by kernel_rfl) rfl (by kernel_rfl) rfl (by decide) rfl hv3 rfl hs32 (bv_one _) (by unfold maxLen; omega) (by omega) (fun hm0 => by omega) (fun v33 w33 hv33 hgr33 hfr33 => ?_))
      replace hBr := hBr.own hv3 hgr33 (by omega)
      refine WR_val rfl (rn_assign) ?_
      refine WR_nil ?_
      refine blockN ?_
      refine thenN ?_
      refine W_region ?_
      refine WR_val rfl (rn_move) ?_
      refine WR_val rfl (rn_add rfl rfl (Coup.w64 (by omega))) ?_
      refine WR_val rfl (rn_assign) ?_
      refine WR_nil ?_
      refine loopN ⟨(k + 1, v33), by simp only; omega, ⟨rfl, by go_num, rfl, rfl⟩, by simp only; omega, ?_, hBr⟩
      rw [secs_step k L (by omega), bv_append]
      rw [show L.getD (2 * k) [] = a by rw [List.getD_eq_getElem?_getD, hga]; rfl, hb3]
      exact hv33
  ·
    refine W_exit ?_
    refine thenX ?_
    refine loopX ?_
    refine blockX ?_
    refine thenN ?_
    refine W_seq ?_
    refine W_region ?_
    refine WR_val rfl (rn_move) ?_
    refine WR_val rfl (rn_assign) ?_
    refine WR_nil ?_
    refine thenN ?_
    refine W_ret ?_
    refine ret_ret [_] ⟨rfl, trivial⟩ ?_
    refine ⟨?_, hBr⟩
    obtain hk2 : k = (m + 1) / 2 := by omega
    subst hk2
    rw [List.take_of_length_le (by omega)] at hv3
    exact hv3
theorem halves19r (c nn : Nat) (b : List UInt8) (p : Option Addr) (n cp : Nat) (w : World) (h : SlAt w p n 1 (bv b)) (hn : n ≤ 1000000) (hc : c < 18446744073709551616) (hnn : nn < 9223372036854775808) :
    Calls Tryz.prog 72 [.agg #[.int .u64 c, .int .i64 nn], .slice p n cp].toArray w
      (Ret fun v w' => ∃ vs q cq, v = .slice q (manyN b.length) cq ∧ SlAt w' q (manyN b.length) 1 vs ∧ SlsAt w' w.heap.size v.ownBlock vs (halvesL c nn b) ∧ Below w.heap.size w w') :=
  (halves19 c nn b p n cp w h hn hc hnn).to fun v w' ⟨vs, h1, h2, h3⟩ => by
    obtain ⟨q, cq, rfl⟩ := h1.form
    exact ⟨vs, q, cq, rfl, h1.sl, h2, h3⟩
end Go.Proofs.YtkkgahgpemepeaaGreat
namespace Go.Proofs.YtkkgahgpemepeaaGreat
open Go Go.RowKit Coup
def partsL (l : List UInt8) (m : Nat) : List (List UInt8) := (List.range m).map (halfAt l)
theorem partsL_succ (l : List UInt8) (m : Nat) : partsL l (m + 1) = partsL l m ++ [halfAt l m] := by simp [partsL, List.range_succ]
theorem partsL_get (l : List UInt8) (m i : Nat) (h : i < m) : (partsL l m)[i]? = some (halfAt l i) := by rw [partsL, List.getElem?_map, List.getElem?_range h]; rfl
set_option maxRecDepth 20000 in
set_option maxHeartbeats 1000000 in
theorem parts35 (l : List UInt8) (p : Option Addr) (n cp : Nat) (w : World) (h : SlAt w p n 128 (bv l)) (hn : n ≤ 100000) :
    Calls Tryz.prog 73 [.slice p n cp].toArray w (Ret fun v w' => ∃ vs, ownsAt w' w.heap.size 67 1 v (2 * n) vs ∧ SlsAt w' w.heap.size v.ownBlock vs (partsL l (2 * n)) ∧ Below w.heap.size w w') := by
  have hB := Below.refl w.heap.size w
  have hl : l.length = n * 128 := by simpa [bv_length] using h.len
  refine calls_W (fn := Tryz.f73) (rs := [.tmp 2]) (n := 25) Tryz.func73 rfl rfl Tryz.ntmps73 (by kernel_rfl) rfl ?_
  refine W_seq ?_
  refine W_region ?_
  refine WR_val rfl (rn_assign) ?_
  refine WR_nil ?_
  refine thenN ?_
  refine W_seq ?_
  refine W_region ?_
  refine WR_val rfl (rn_assign) ?_
  refine WR_nil ?_
  refine thenN ?_
  refine W_seq ?_
  refine W_seq ?_
  refine W_region ?_
  refine WR_val rfl (rn_assign) ?_
  refine WR_nil ?_
  refine thenN ?_
  refine W_block ?_
  refine W_loop (α := Nat × Value × List Value) (0, .slice none 0 0, []) (fun k => [(3, k.2.1), (4, .int .i64 (k.1 : Nat)), (0, .slice p n cp)])
    (fun k w' => k.1 ≤ n ∧ ownsAt w' w.heap.size 67 1 k.2.1 (2 * k.1) k.2.2 ∧ SlsAt w' w.heap.size k.2.1.ownBlock k.2.2 (partsL l (2 * k.1)) ∧ Below w.heap.size w w') (fun k => n - k.1)
    ⟨rfl, rfl, rfl, rfl⟩ ⟨Nat.zero_le _, ownsAt_nil _ _ _ _, SlsAt.nil _ _ _, hB⟩ ?_
  rintro ⟨k, v3, vs⟩ f wr ⟨hk, hv3, hsl, hBr⟩
  simp only at hk hv3 hsl
  have hBi := Below.refl wr.heap.size wr
  have hszr := hBr.size
  have hlt3 := hv3.lt
  refine W_seq ?_
  refine W_seq ?_
  refine W_region ?_
  refine WR_val rfl (rn_move) ?_
  refine WR_val rfl (rn_move) ?_
  refine WR_val rfl (rn_lenSl (e := 45) (sz := 128) (by kernel_rfl) rfl rfl) ?_
  refine WR_val rfl (rn_lss rfl rfl) ?_
  refine WR_nil ?_
  refine thenN ?_
  refine W_ifp rfl (fun hlt => ?_) (fun hlt => ?_)
  ·
    refine W_skip ?_
    refine thenN ?_
    refine W_seq ?_
    refine W_block ?_
    have hobt := h.some (by omega)
    obtain ⟨gp, op, rfl, hgp⟩ := hobt
    have hby := (h.below hBr (Nat.le_refl _)).bytes (by unfold maxLen; omega)
    have ha := hby.subB (k * 128) 64 (by omega)
    have hb := hby.subB (k * 128 + 64) 64 (by omega)
    rw [show (l.drop (k * 128)).take 64 = halfAt l (2 * k) by rw [halfAt]; congr 2; omega] at ha
    rw [show (l.drop (k * 128 + 64)).take 64 = halfAt l (2 * k + 1) by rw [halfAt]; congr 2; omega] at hb
    have la : (halfAt l (2 * k)).length = 64 := halfAt_length _ _ (by omega)
    have lb : (halfAt l (2 * k + 1)).length = 64 := halfAt_length _ _ (by omega)
    refine W_draw' (v3.ownBlock.toList) (by kernel_rfl) ?_
    intro w901 hb901 hS901
    replace ha := ha.new hb901
    replace hb := hb.new hb901
    replace hBr := hBr.acc hb901
    replace hBi := hBi.acc hb901
    have ha_d901 := ha
    have hb_d901 := hb
    have hBr_d901 := hBr
    have hBi_d901 := hBi
    refine WA_take 0 (by kernel_rfl) rfl (fun _ _ => rn_move) ?_
    refine WA_take 1 (by kernel_rfl) rfl (fun _ _ => rn_move) ?_
    refine WA_take 2 (by kernel_rfl) rfl (fun _ _ => rn_move) ?_
    refine WA_take 3 (by kernel_rfl) rfl (fun _ _ => rn_indexSl (e := 45) (sz := 128) (by kernel_rfl) rfl rfl (k) (by omega) (by omega)) ?_
    refine WA_take 4 (by kernel_rfl) rfl (fun _ _ => rn_sliceAr1' (e := 5) (n := 128) (0) (64) (128) (64) (by kernel_rfl) rfl rfl ⟨_, _, rfl, rfl⟩ rfl (by simp) (by omega) (by omega) (by omega) (by omega) (by omega)) ?_
    refine WA_take 6 (by kernel_rfl) rfl (fun _ _ => rn_move) ?_
    refine WA_take 7 (by kernel_rfl) rfl (fun _ _ => rn_move) ?_
    refine WA_take 8 (by kernel_rfl) rfl (fun _ _ => rn_indexSl (e := 45) (sz := 128) (by kernel_rfl) rfl rfl (k) (by omega) (by omega)) ?_
    refine WA_take 9 (by kernel_rfl) rfl (fun _ _ => rn_sliceAr1' (e := 5) (n := 128) (64) (128) (128) (64) (by kernel_rfl) rfl ⟨_, _, rfl, rfl⟩ rfl rfl (by simp) (by omega) (by omega) (by omega) (by omega) (by omega)) ?_
    refine WA_one 5 (by kernel_rfl) ?_
    have hsz901 := hBi.size
    refine WO_mk rfl rfl (mk_append (e := 5) (sz := 1) (bytes := 1) (z := Value.int .u8 0) (by kernel_rfl) rfl (by kernel_rfl) rfl (by decide) rfl (ownsAt_nil w901 w901.heap.size 5 1) rfl ha (bv_one _) (by unfold maxLen; omega) (by omega) (fun _ => Nat.le_refl _) (fun v16 w16 hv16 hgr16 hfr16 => ?_))
    have hb16 := below_of_nil hgr16
    have hS902 := hS901.add0 hb16
    refine ⟨hS902, ?_⟩
    replace ha := ha.new hb16
    replace hb := hb.new hb16
    replace hBr := hBr.acc hb16
    replace hBi := hBi.acc hb16
    have hobt := hv16.form' (by omega)
    obtain ⟨g16, o16, c16, rfl, l16, m16, hc16⟩ := hobt
    have hx16 := hv16.sl
    refine WA_one 10 (by kernel_rfl) ?_
    refine WO_mk rfl rfl (mk_append (e := 5) (sz := 1) (bytes := 1) (z := Value.int .u8 0) (by kernel_rfl) rfl (by kernel_rfl) rfl (by decide) rfl (ownsAt_nil w16 w16.heap.size 5 1) rfl hb (bv_one _) (by unfold maxLen; omega) (by omega) (fun _ => Nat.le_refl _) (fun v21 w21 hv21 hgr21 hfr21 => ?_))
    have hb21 := below_of_nil hgr21
    have hS903 := hS902.add0 hb21
    refine ⟨hS903, ?_⟩
    replace ha := ha.new hb21
    replace hb := hb.new hb21
    replace hx16 := hx16.new hb21
    replace hBr := hBr.acc hb21
    replace hBi := hBi.acc hb21
    have hobt := hv21.form' (by omega)
    obtain ⟨g21, o21, c21, rfl, l21, m21, hc21⟩ := hobt
    have hx21 := hv21.sl
    refine WA_one 11 (by kernel_rfl) ?_
    refine WO_mk rfl rfl (mk_two (e := 67) (.slice (some ⟨g16, o16, none⟩) (0 + 64) c16) (.slice (some ⟨g21, o21, none⟩) (0 + 64) c21) ([.slice (some ⟨g16, o16, none⟩) (0 + 64) c16]) ([.slice (some ⟨g21, o21, none⟩) (0 + 64) c21]) ([Value.slice none 0 0]) 1 (by kernel_rfl) (by kernel_rfl) rfl rfl rfl rfl (by first | rfl | (simp; done) | (simp [bv_length, *]; done)) (by first | rfl | (simp; done) | (simp [bv_length, *]; done)) ⟨by decide, by decide⟩ (fun g22 w22 hg22 hr22 hb22 => ?_))
    have hS904 := hS903.add0 hb22
    refine ⟨hS904, ?_⟩
    have ge_hS903_g22 := Nat.le_trans hS903.size hg22
    have ge_hBr_g22 := Nat.le_trans hBr.size hg22
    have ge_hBi_g22 := Nat.le_trans hBi.size hg22
    replace ha := ha.new hb22
    replace hb := hb.new hb22
    replace hx16 := hx16.new hb22
    replace hx21 := hx21.new hb22
    replace hBr := hBr.acc hb22
    replace hBi := hBi.acc hb22
    refine WA_one 12 (by kernel_rfl) ?_
    have hs22 := hr22.slA (m := 2) (sz := 1) rfl (by unfold maxLen; omega)
    have hv3 := hv3.new hBi
    have hsl := hsl.new hBi
    have hbsz := hb22.size
    have h16b := hx16.some (by omega)
    have hBs := hBi.size
    have sz_hBr_23 := hBr.size
    refine WO_mk rfl rfl (mk_append (e := 67) (sz := 1) (bytes := 24) (z := Value.slice none 0 0) (by kernel_rfl) rfl (by kernel_rfl) rfl (by decide) rfl hv3 rfl hs22 (by simp [Value.oneCell']) (by unfold maxLen; omega) (by omega) (fun hm0 => by omega) (fun v23 w23 hv23 hgr23 hfr23 => ?_))
    have hS905 := hS904.add (Kp.of_grown hgr23) (fun g hm => by first | exact Or.inr hm | exact Or.inr (List.mem_cons_of_mem _ hm) | (have := (hv3.lt g (Option.mem_toList.1 hm)).1; left; omega) | exact (hfr3 g (Option.mem_toList.1 hm)).elim (fun e => Or.inr (Option.mem_toList.2 e)) (fun e => Or.inl (by omega)) | exact (hfr3 g (Option.mem_toList.1 hm)).elim (fun e => Or.inr (List.mem_cons_of_mem _ (Option.mem_toList.2 e))) (fun e => Or.inl (by omega)))
    refine ⟨hS905, ?_⟩
    replace hBr := hBr.own hv3 hgr23 (by omega)
    refine WA_take 13 (by kernel_rfl) rfl (fun _ _ => rn_assign) ?_
    refine WA_done (by kernel_rfl) ?_
    refine blockN ?_
    refine thenN ?_
    refine W_region ?_
    refine WR_val rfl (rn_move) ?_
    refine WR_val rfl (rn_add rfl rfl (Coup.w64 (by omega))) ?_
    refine WR_val rfl (rn_assign) ?_
    refine WR_nil ?_
    have n16 : some g16 ≠ v3.ownBlock := fun e => by have := (hlt3 g16 e.symm).2; omega
    have n21 : some g21 ≠ v3.ownBlock := fun e => by have := (hlt3 g21 e.symm).2; omega
    simp only [List.nil_append, Nat.zero_add] at hx16 hx21 hv23
    have hy16 := hx16.kpd (Kp.of_grown hgr23) (fun b' o' e hm => by
      cases e
      simp only [Option.mem_toList] at hm
      exact n16 hm.symm)
    have hy21 := hx21.kpd (Kp.of_grown hgr23) (fun b' o' e hm => by
      cases e
      simp only [Option.mem_toList] at hm
      exact n21 hm.symm)
    have hg23 := hgr23.size
    rw [← la] at hy16
    rw [← lb] at hy21
    have hsl2 := ((hsl.grow hgr23 hfr23).snoc (c := c16) hy16 (by omega) (fun e => (hfr23 g16 e.symm).elim (fun e' => n16 e'.symm) (fun e' => by omega)) (by omega) (by omega)).snoc (c := c21) hy21 (by omega) (fun e => (hfr23 g21 e.symm).elim (fun e' => n21 e'.symm) (fun e' => by omega)) (by omega) (by omega)
    refine loopN ⟨(k + 1, v23, vs ++ [.slice (some ⟨g16, o16, none⟩) 64 c16, .slice (some ⟨g21, o21, none⟩) 64 c21]), by simp only; omega, ⟨rfl, by go_num, rfl, rfl⟩, by simp only; omega, hv23, ?_, hBr⟩
    simp only
    rw [show 2 * (k + 1) = 2 * k + 1 + 1 by omega, partsL_succ, partsL_succ]
    rw [la, lb] at hsl2
    simpa using hsl2
  ·
    refine W_exit ?_
    refine thenX ?_
    refine loopX ?_
    refine blockX ?_
    refine thenN ?_
    refine W_seq ?_
    refine W_region ?_
    refine WR_val rfl (rn_move) ?_
    refine WR_val rfl (rn_assign) ?_
    refine WR_nil ?_
    refine thenN ?_
    refine W_ret ?_
    refine ret_ret [_] ⟨rfl, trivial⟩ ?_
    obtain rfl : k = n := by omega
    exact ⟨vs, hv3, hsl, hBr⟩
end Go.Proofs.YtkkgahgpemepeaaGreat
namespace Go.Proofs.YtkkgahgpemepeaaGreat
open Go Go.RowKit Coup
theorem half32r (p : Option Addr) (n c : Nat) (l : List UInt8) (i : Nat) (w : World) (h : SlAt w p n 128 (bv l)) (hi : i / 2 < n) (hn : n ≤ 1000000) :
    Calls Tryz.prog 97 [.slice p n c, .int .i64 i].toArray w (Ret fun v w' => v = .agg (bv (halfAt l i)).toArray ∧ Below w.heap.size w w') := calls_ret (half32 p n c l i w h hi hn)
theorem read31r (hb : List UInt8) (hl : hb.length = 64) (b : Bool) (hm : mayT (hCount hb) (hNum hb) = b) (w : World) :
    Calls Tryz.prog 96 [.agg (bv hb).toArray].toArray w (Ret fun v w' => v = .tuple #[.agg (pieceL (hCount hb) (hNum hb) (hPlace hb) (hMany hb) (hBody hb)).toArray, .bool b] ∧ Below w.heap.size w w') := by
  have := calls_ret (read31 hb hl w)
  rwa [hm] at this
theorem none30r (w : World) : Calls Tryz.prog 95 [].toArray w (Ret fun v w' => v = noneV ∧ Below w.heap.size w w') := calls_ret (none30 w)
theorem number33r (p : Option Addr) (n c : Nat) (l : List UInt8) (w : World) (h : SlAt w p n 1 (bv l)) (hn : n ≤ 8) : Calls Tryz.prog 98 [.slice p n c].toArray w (Ret fun v w' => v = .int .u64 (numB l) ∧ w = w') := calls_ret (number33 p n c l w h hn)
def goodH (h : List UInt8) (c nn i m : Nat) : Bool := mayT (hCount h) (hNum h) && decide (hCount h = c ∧ hNum h = nn) && decide (hPlace h = i) && decide (hMany h = m)
def bodies (l : List UInt8) (m : Nat) : List UInt8 := (List.range m).flatMap fun i => hBody (halfAt l i)
theorem bodies_succ (l : List UInt8) (m : Nat) : bodies l (m + 1) = bodies l m ++ hBody (halfAt l m) := by simp [bodies, List.range_succ]
theorem bodies_length (l : List UInt8) : ∀ m, 64 * m ≤ l.length → (bodies l m).length = 48 * m
  | 0, _ => rfl
  | m + 1, h => by rw [bodies_succ, List.length_append, bodies_length l m (by omega), hBody, List.length_drop, halfAt_length _ _ (by omega)]; omega
def joinK (l : List UInt8) (m : Nat) : Nat := numB ((bodies l m).take 4)
def joinOk (l : List UInt8) (c nn m : Nat) : Bool :=
  (List.range m).all (fun i => goodH (halfAt l i) c nn i m) && decide (joinK l m ≤ 32768) && decide (manyN (joinK l m) = m) && ((bodies l m).drop (4 + joinK l m)).all (· == 0)
def joinMay (l : List UInt8) (n c nn m : Nat) : Bool := mayT c nn && decide (1 ≤ m) && decide (m ≤ 683) && decide ((m + 1) / 2 ≤ n)
def joinIs (l : List UInt8) (n : Nat) : Bool :=
  decide (0 < n) && joinMay l n (hCount (halfAt l 0)) (hNum (halfAt l 0)) (hMany (halfAt l 0)) && joinOk l (hCount (halfAt l 0)) (hNum (halfAt l 0)) (hMany (halfAt l 0))
def joinB (l : List UInt8) : List UInt8 := ((bodies l (hMany (halfAt l 0))).drop 4).take (joinK l (hMany (halfAt l 0)))
def JR (l : List UInt8) (n : Nat) (w : World) (v : Value) (w' : World) : Prop :=
  Below w.heap.size w w' ∧ ((joinIs l n = false ∧ v = noneV) ∨ (joinIs l n = true ∧ ∃ sp, v = .tuple #[.agg #[.int .u64 (hCount (halfAt l 0)), .int .i64 (hNum (halfAt l 0))], .slice sp (joinB l).length (joinB l).length, .int .i64 (needN (joinB l).length : Nat), .int .i64 0] ∧
    SlAt w' sp (joinB l).length 1 (bv (joinB l))))
theorem joinK_lt (l : List UInt8) (m : Nat) : joinK l m < 4294967296 := numB_lt_of _ 4 (by simp; omega)
set_option maxRecDepth 20000 in
theorem join0 (p : Option Addr) (cp : Nat) (l : List UInt8) (w : World) : Calls Tryz.prog 89 [.slice p 0 cp].toArray w (Ret fun v w' => JR l 0 w v w') := by
  have hB := Below.refl w.heap.size w
  have hJ : joinIs l 0 = false := by simp [joinIs]
  refine calls_W (fn := Tryz.f89) (rs := [.cell 2 86, .tmp 3, .tmp 4, .tmp 5]) (n := 152) Tryz.func89 rfl rfl Tryz.ntmps89 (by kernel_rfl) rfl ?_
  refine W_seq ?_
  refine W_region ?_
  refine WR_mk rfl (mk_alloc ([.int .u64 0, .int .i64 0]) (by kernel_rfl) (fun g2 w2 hg2 hr2 hb2 => ?_))
  have ge_hB_g2 := Nat.le_trans hB.size hg2
  replace hB := hB.acc hb2
  refine WR_val rfl (rn_assign) ?_
  refine WR_val rfl (rn_assign) ?_
  refine WR_val rfl (rn_assign) ?_
  refine WR_nil ?_
  refine thenN ?_
  refine W_seq ?_
  refine W_region ?_
  refine WR_val rfl (rn_assign) ?_
  refine WR_nil ?_
  refine thenN ?_
  refine W_seq ?_
  refine W_seq ?_
  refine W_region ?_
  refine WR_val rfl (rn_move) ?_
  refine WR_val rfl (rn_lenSl (e := 45) (sz := 128) (by kernel_rfl) rfl rfl) ?_
  refine WR_val rfl (rn_eql rfl rfl) ?_
  refine WR_nil ?_
  refine thenN ?_
  refine W_tp rfl (rfl) ?_
  refine W_seq ?_
  refine W_region ?_
  refine WR_val rfl (rn_move) ?_
  refine WR_ent rfl (rn_callc (by kernel_rfl) rfl rfl) (none30r w2) ?_
  rintro _ w20 ⟨rfl, hb20⟩
  replace hr2 := hr2.new hb20
  replace hB := hB.acc hb20
  refine WR_val rfl (rn_extract rfl rfl) ?_
  refine WR_val rfl (rn_extract rfl rfl) ?_
  refine WR_val rfl (rn_extract rfl rfl) ?_
  refine WR_val rfl (rn_extract rfl rfl) ?_
  refine WR_sk rfl (sk_storeA 2 ([.int .u64 0, .int .i64 0]) rfl rfl hr2 (by kernel_rfl) (by first | assumption | (simp; done) | (simp [bv_length, *]; done)) (by first | assumption | (simp; done) | (simp [bv_length, *]; done) | rfl) (by first | exact bv_one _ | assumption | (simp [Value.oneCell']; done)) (fun w901 hr2 ho901 => ?_))
  replace hB := ho901.below hB ge_hB_g2
  refine WR_val rfl (rn_assign) ?_
  refine WR_val rfl (rn_assign) ?_
  refine WR_val rfl (rn_assign) ?_
  refine WR_nil ?_
  refine thenN ?_
  refine W_ret ?_
  refine thenR ?_
  refine ret_ret [_, _, _, _] ⟨⟨_, rfl, Ld.rowA (k := 2) hr2 (by kernel_rfl) (by kernel_rfl) (by first | (simp; done) | (simp [bv_length, *]; done) | assumption)⟩, rfl, rfl, rfl, trivial⟩ ?_
  exact ⟨hB, .inl ⟨hJ, rfl⟩⟩
set_option maxRecDepth 20000 in
theorem joinF (p : Option Addr) (n cp : Nat) (l : List UInt8) (w : World) (h : SlAt w p n 128 (bv l)) (hn : n ≤ 1000000) (h0 : 0 < n) (hm : mayT (hCount (halfAt l 0)) (hNum (halfAt l 0)) = false) :
    Calls Tryz.prog 89 [.slice p n cp].toArray w (Ret fun v w' => JR l n w v w') := by
  have hB := Below.refl w.heap.size w
  have hl : l.length = n * 128 := by simpa [bv_length] using h.len
  have hJ : joinIs l n = false := by simp [joinIs, joinMay, hm]
  have hd : (halfAt l 0).length = 64 := halfAt_length _ _ (by omega)
  obtain ⟨L, hL⟩ : ∃ L, L = pieceL (hCount (halfAt l 0)) (hNum (halfAt l 0)) (hPlace (halfAt l 0)) (hMany (halfAt l 0)) (hBody (halfAt l 0)) := ⟨_, rfl⟩
  have hLl : L.length = 52 := by rw [hL, pieceL_length, hBody, List.length_drop, hd]
  have hone : ∀ v ∈ L, v.oneCell' = true := by rw [hL]; exact pieceL_one _ _ _ _ _
  have hC := fun w' => read31r (halfAt l 0) hd false hm w'
  rw [← hL] at hC
  clear hL
  refine calls_W (fn := Tryz.f89) (rs := [.cell 2 86, .tmp 3, .tmp 4, .tmp 5]) (n := 152) Tryz.func89 rfl rfl Tryz.ntmps89 (by kernel_rfl) rfl ?_
  refine W_seq ?_
  refine W_region ?_
  refine WR_mk rfl (mk_alloc ([.int .u64 0, .int .i64 0]) (by kernel_rfl) (fun g2 w2 hg2 hr2 hb2 => ?_))
  have ge_hB_g2 := Nat.le_trans hB.size hg2
  replace hB := hB.acc hb2
  refine WR_val rfl (rn_assign) ?_
  refine WR_val rfl (rn_assign) ?_
  refine WR_val rfl (rn_assign) ?_
  refine WR_nil ?_
  refine thenN ?_
  refine W_seq ?_
  refine W_region ?_
  refine WR_val rfl (rn_assign) ?_
  refine WR_nil ?_
  refine thenN ?_
  refine W_seq ?_
  refine W_seq ?_
  refine W_region ?_
  refine WR_val rfl (rn_move) ?_
  refine WR_val rfl (rn_lenSl (e := 45) (sz := 128) (by kernel_rfl) rfl rfl) ?_
  refine WR_val rfl (rn_eql rfl rfl) ?_
  refine WR_nil ?_
  refine thenN ?_
  refine W_fp rfl ((by omega)) ?_
  refine W_skip ?_
  refine thenN ?_
  refine W_seq ?_
  refine W_region ?_
  refine WR_val rfl (rn_move) ?_
  refine WR_ent rfl (rn_call (by kernel_rfl) rfl) (half32r p n cp l 0 w2 (h.below hB (Nat.le_refl _)) (by omega) hn) ?_
  rintro _ w27 ⟨rfl, hb27⟩
  replace hr2 := hr2.new hb27
  replace hB := hB.acc hb27
  refine WR_ent rfl (rn_call (by kernel_rfl) rfl) (hC w27) ?_
  rintro _ w28 ⟨rfl, hb28⟩
  replace hr2 := hr2.new hb28
  replace hB := hB.acc hb28
  refine WR_val rfl (rn_move) ?_
  refine WR_val rfl (rn_extract rfl rfl) ?_
  refine WR_val rfl (rn_extract rfl rfl) ?_
  refine WR_mk rfl (mk_alloc (pieceL 0 0 0 0 (zerosB 48)) (by kernel_rfl) (fun g7 w7 hg7 hr7 hb7 => ?_))
  have ge_hB_g7 := Nat.le_trans hB.size hg7
  have lt_g2_g7 : g2 < g7 := Nat.lt_of_lt_of_le hr2.lt hg7
  replace hr2 := hr2.new hb7
  replace hB := hB.acc hb7
  refine WR_sk rfl (sk_storeA 52 (L) rfl rfl hr7 (by kernel_rfl) (by first | assumption | (simp; done) | (simp [bv_length, *]; done)) (by first | assumption | (simp; done) | (simp [bv_length, *]; done) | rfl) (by first | exact bv_one _ | assumption | (simp [Value.oneCell']; done)) (fun w901 hr7 ho901 => ?_))
  replace hr2 := hr2.only ho901 (Nat.ne_of_lt lt_g2_g7)
  replace hB := ho901.below hB ge_hB_g7
  refine WR_val rfl (rn_assign) ?_
  refine WR_nil ?_
  refine thenN ?_
  refine W_seq ?_
  refine W_seq ?_
  refine W_region ?_
  refine WR_val rfl (rn_move) ?_
  refine WR_val rfl (rn_not rfl) ?_
  refine WR_val rfl (rn_move) ?_
  refine WR_tnb 33 rfl (rfl) ?_
  refine WR_no rfl rfl ?_
  refine WR_no rfl rfl ?_
  refine WR_no rfl rfl ?_
  refine WR_val rfl (rn_pick_t rfl) ?_
  refine WR_val rfl (rn_move) ?_
  refine WR_no rfl rfl ?_
  refine WR_no rfl rfl ?_
  refine WR_no rfl rfl ?_
  refine WR_val rfl (rn_pick_t rfl) ?_
  refine WR_val rfl (rn_move) ?_
  refine WR_no rfl rfl ?_
  refine WR_no rfl rfl ?_
  refine WR_no rfl rfl ?_
  refine WR_no rfl rfl ?_
  refine WR_no rfl rfl ?_
  refine WR_no rfl rfl ?_
  refine WR_no rfl rfl ?_
  refine WR_val rfl (rn_pick_t rfl) ?_
  refine WR_nil ?_
  refine thenN ?_
  refine W_t rfl ?_
  refine W_seq ?_
  refine W_region ?_
  refine WR_val rfl (rn_move) ?_
  refine WR_ent rfl (rn_callc (by kernel_rfl) rfl rfl) (none30r w901) ?_
  rintro _ w53 ⟨rfl, hb53⟩
  replace hr2 := hr2.new hb53
  replace hr7 := hr7.new hb53
  replace hB := hB.acc hb53
  refine WR_val rfl (rn_extract rfl rfl) ?_
  refine WR_val rfl (rn_extract rfl rfl) ?_
  refine WR_val rfl (rn_extract rfl rfl) ?_
  refine WR_val rfl (rn_extract rfl rfl) ?_
  refine WR_sk rfl (sk_storeA 2 ([.int .u64 0, .int .i64 0]) rfl rfl hr2 (by kernel_rfl) (by first | assumption | (simp; done) | (simp [bv_length, *]; done)) (by first | assumption | (simp; done) | (simp [bv_length, *]; done) | rfl) (by first | exact bv_one _ | assumption | (simp [Value.oneCell']; done)) (fun w902 hr2 ho902 => ?_))
  replace hr7 := hr7.only ho902 (Nat.ne_of_gt lt_g2_g7)
  replace hB := ho902.below hB ge_hB_g2
  refine WR_val rfl (rn_assign) ?_
  refine WR_val rfl (rn_assign) ?_
  refine WR_val rfl (rn_assign) ?_
  refine WR_nil ?_
  refine thenN ?_
  refine W_ret ?_
  refine thenR ?_
  refine ret_ret [_, _, _, _] ⟨⟨_, rfl, Ld.rowA (k := 2) hr2 (by kernel_rfl) (by kernel_rfl) (by first | (simp; done) | (simp [bv_length, *]; done) | assumption)⟩, rfl, rfl, rfl, trivial⟩ ?_
  exact ⟨hB, .inl ⟨hJ, rfl⟩⟩
theorem joinOk_bad {l : List UInt8} {c nn m i : Nat} (hi : i < m) (h : goodH (halfAt l i) c nn i m = false) : joinOk l c nn m = false := by
  have : (List.range m).all (fun i => goodH (halfAt l i) c nn i m) = false := List.all_eq_false.2 ⟨i, List.mem_range.2 hi, by simp [h]⟩
  simp [joinOk, this]
set_option maxRecDepth 20000 in
set_option maxHeartbeats 2000000 in
theorem joinT (p : Option Addr) (n cp : Nat) (l : List UInt8) (w : World) (h : SlAt w p n 128 (bv l)) (hn : n ≤ 1000000) (h0 : 0 < n) (hm : mayT (hCount (halfAt l 0)) (hNum (halfAt l 0)) = true) :
    Calls Tryz.prog 89 [.slice p n cp].toArray w (Ret fun v w' => JR l n w v w') := by
  have hB := Below.refl w.heap.size w
  have hl : l.length = n * 128 := by simpa [bv_length] using h.len
  have hd : (halfAt l 0).length = 64 := halfAt_length _ _ (by omega)
  obtain ⟨L, hL⟩ : ∃ L, L = pieceL (hCount (halfAt l 0)) (hNum (halfAt l 0)) (hPlace (halfAt l 0)) (hMany (halfAt l 0)) (hBody (halfAt l 0)) := ⟨_, rfl⟩
  have hLl : L.length = 52 := by rw [hL, pieceL_length, hBody, List.length_drop, hd]
  have hone : ∀ v ∈ L, v.oneCell' = true := by rw [hL]; exact pieceL_one _ _ _ _ _
  have hC := fun w' => read31r (halfAt l 0) hd true hm w'
  have e0 : L[0]? = some (.int .u64 (hCount (halfAt l 0))) := by rw [hL]; rfl
  have e1 : L[1]? = some (.int .i64 (hNum (halfAt l 0))) := by rw [hL]; rfl
  have e3 : L[3]? = some (.int .i64 (hMany (halfAt l 0))) := by rw [hL]; rfl
  have hJR : ∀ v w', JR l n w v w' = (Below w.heap.size w w' ∧ ((joinIs l n = false ∧ v = noneV) ∨ (joinIs l n = true ∧ ∃ sp, v = .tuple #[.agg #[.int .u64 (hCount (halfAt l 0)), .int .i64 (hNum (halfAt l 0))], .slice sp (joinB l).length (joinB l).length, .int .i64 (needN (joinB l).length : Nat), .int .i64 0] ∧
    SlAt w' sp (joinB l).length 1 (bv (joinB l))))) := fun _ _ => rfl
  have hJI : joinIs l n = (decide (0 < n) && (mayT (hCount (halfAt l 0)) (hNum (halfAt l 0)) && decide (1 ≤ hMany (halfAt l 0)) && decide (hMany (halfAt l 0) ≤ 683) && decide ((hMany (halfAt l 0) + 1) / 2 ≤ n)) && joinOk l (hCount (halfAt l 0)) (hNum (halfAt l 0)) (hMany (halfAt l 0))) := rfl
  have hJB : joinB l = ((bodies l (hMany (halfAt l 0))).drop 4).take (joinK l (hMany (halfAt l 0))) := rfl
  have hmb : hMany (halfAt l 0) < 65536 := numB_lt_of _ 2 (by simp; omega)
  simp only [hJR]
  clear hJR
  rw [← hL] at hC
  clear hL
  generalize hCount (halfAt l 0) = c at *
  generalize hNum (halfAt l 0) = nn at *
  generalize hMany (halfAt l 0) = m at *
  generalize joinIs l n = J at *
  generalize joinB l = JB at *
  have hJF : joinOk l c nn m = false → J = false := by intro q; rw [hJI, q, Bool.and_false]
  refine calls_W (fn := Tryz.f89) (rs := [.cell 2 86, .tmp 3, .tmp 4, .tmp 5]) (n := 152) Tryz.func89 rfl rfl Tryz.ntmps89 (by kernel_rfl) rfl ?_
  refine W_seq ?_
  refine W_region ?_
  refine WR_mk rfl (mk_alloc ([.int .u64 0, .int .i64 0]) (by kernel_rfl) (fun g2 w2 hg2 hr2 hb2 => ?_))
  have ge_hB_g2 := Nat.le_trans hB.size hg2
  replace hB := hB.acc hb2
  refine WR_val rfl (rn_assign) ?_
  refine WR_val rfl (rn_assign) ?_
  refine WR_val rfl (rn_assign) ?_
  refine WR_nil ?_
  refine thenN ?_
  refine W_seq ?_
  refine W_region ?_
  refine WR_val rfl (rn_assign) ?_
  refine WR_nil ?_
  refine thenN ?_
  refine W_seq ?_
  refine W_seq ?_
  refine W_region ?_
  refine WR_val rfl (rn_move) ?_
  refine WR_val rfl (rn_lenSl (e := 45) (sz := 128) (by kernel_rfl) rfl rfl) ?_
  refine WR_val rfl (rn_eql rfl rfl) ?_
  refine WR_nil ?_
  refine thenN ?_
  refine W_fp rfl ((by omega)) ?_
  refine W_skip ?_
  refine thenN ?_
  refine W_seq ?_
  refine W_region ?_
  refine WR_val rfl (rn_move) ?_
  refine WR_ent rfl (rn_call (by kernel_rfl) rfl) (half32r p n cp l 0 w2 (h.below hB (Nat.le_refl _)) (by omega) hn) ?_
  rintro _ w27 ⟨rfl, hb27⟩
  replace hr2 := hr2.new hb27
  replace hB := hB.acc hb27
  refine WR_ent rfl (rn_call (by kernel_rfl) rfl) (hC w27) ?_
  rintro _ w28 ⟨rfl, hb28⟩
  replace hr2 := hr2.new hb28
  replace hB := hB.acc hb28
  refine WR_val rfl (rn_move) ?_
  refine WR_val rfl (rn_extract rfl rfl) ?_
  refine WR_val rfl (rn_extract rfl rfl) ?_
  refine WR_mk rfl (mk_alloc (pieceL 0 0 0 0 (zerosB 48)) (by kernel_rfl) (fun g7 w7 hg7 hr7 hb7 => ?_))
  have ge_hB_g7 := Nat.le_trans hB.size hg7
  have lt_g2_g7 : g2 < g7 := Nat.lt_of_lt_of_le hr2.lt hg7
  replace hr2 := hr2.new hb7
  replace hB := hB.acc hb7
  refine WR_sk rfl (sk_storeA 52 (L) rfl rfl hr7 (by kernel_rfl) (by first | assumption | (simp; done) | (simp [bv_length, *]; done)) (by first | assumption | (simp; done) | (simp [bv_length, *]; done) | rfl) (by first | exact bv_one _ | assumption | (simp [Value.oneCell']; done)) (fun w901 hr7 ho901 => ?_))
  replace hr2 := hr2.only ho901 (Nat.ne_of_lt lt_g2_g7)
  replace hB := ho901.below hB ge_hB_g7
  refine WR_val rfl (rn_assign) ?_
  refine WR_nil ?_
  refine thenN ?_
  refine W_seq ?_
  refine W_seq ?_
  refine W_region ?_
  refine WR_val rfl (rn_move) ?_
  refine WR_val rfl (rn_not rfl) ?_
  refine WR_val rfl (rn_move) ?_
  refine WR_fnb 33 rfl (rfl) ?_
  refine WR_yes rfl ?_
  refine WR_val rfl (rn_fieldAddr (off := 3) (by kernel_rfl) rfl) ?_
  refine WR_yes rfl ?_
  refine WR_val rfl (rn_load rfl (Ld.row1 hr7 (by kernel_rfl) e3)) ?_
  refine WR_yes rfl ?_
  refine WR_val rfl (rn_lss rfl rfl) ?_
  refine WR_val rfl (rn_pick_f rfl) ?_
  refine WR_val rfl (rn_move) ?_
  refine WR_part 38 rfl (fun hc1 => ?_) (fun hc1 => ?_)
  ·
    refine WR_no rfl rfl ?_
    refine WR_no rfl rfl ?_
    refine WR_no rfl rfl ?_
    refine WR_val rfl (rn_pick_t rfl) ?_
    refine WR_val rfl (rn_move) ?_
    refine WR_no rfl rfl ?_
    refine WR_no rfl rfl ?_
    refine WR_no rfl rfl ?_
    refine WR_no rfl rfl ?_
    refine WR_no rfl rfl ?_
    refine WR_no rfl rfl ?_
    refine WR_no rfl rfl ?_
    refine WR_val rfl (rn_pick_t rfl) ?_
    refine WR_nil ?_
    refine thenN ?_
    refine W_t rfl ?_
    refine W_seq ?_
    refine W_region ?_
    refine WR_val rfl (rn_move) ?_
    refine WR_ent rfl (rn_callc (by kernel_rfl) rfl rfl) (none30r w901) ?_
    rintro _ w53 ⟨rfl, hb53⟩
    replace hr2 := hr2.new hb53
    replace hr7 := hr7.new hb53
    replace hB := hB.acc hb53
    refine WR_val rfl (rn_extract rfl rfl) ?_
    refine WR_val rfl (rn_extract rfl rfl) ?_
    refine WR_val rfl (rn_extract rfl rfl) ?_
    refine WR_val rfl (rn_extract rfl rfl) ?_
    refine WR_sk rfl (sk_storeA 2 ([.int .u64 0, .int .i64 0]) rfl rfl hr2 (by kernel_rfl) (by first | assumption | (simp; done) | (simp [bv_length, *]; done)) (by first | assumption | (simp; done) | (simp [bv_length, *]; done) | rfl) (by first | exact bv_one _ | assumption | (simp [Value.oneCell']; done)) (fun w902 hr2 ho902 => ?_))
    replace hr7 := hr7.only ho902 (Nat.ne_of_gt lt_g2_g7)
    replace hB := ho902.below hB ge_hB_g2
    refine WR_val rfl (rn_assign) ?_
    refine WR_val rfl (rn_assign) ?_
    refine WR_val rfl (rn_assign) ?_
    refine WR_nil ?_
    refine thenN ?_
    refine W_ret ?_
    refine thenR ?_
    refine ret_ret [_, _, _, _] ⟨⟨_, rfl, Ld.rowA (k := 2) hr2 (by kernel_rfl) (by kernel_rfl) (by first | (simp; done) | (simp [bv_length, *]; done) | assumption)⟩, rfl, rfl, rfl, trivial⟩ ?_
    · refine ⟨hB, .inl ⟨?_, rfl⟩⟩
      rw [hJI, show decide (1 ≤ m) = false from decide_eq_false (by omega)]
      simp
  ·
    refine WR_yes rfl ?_
    refine WR_val rfl (rn_fieldAddr (off := 3) (by kernel_rfl) rfl) ?_
    refine WR_yes rfl ?_
    refine WR_val rfl (rn_load rfl (Ld.row1 hr7 (by kernel_rfl) e3)) ?_
    refine WR_yes rfl ?_
    refine WR_val rfl (rn_gtr rfl rfl) ?_
    refine WR_val rfl (rn_pick_f rfl) ?_
    refine WR_val rfl (rn_move) ?_
    refine WR_part 43 rfl (fun hc2 => ?_) (fun hc2 => ?_)
    ·
      refine WR_no rfl rfl ?_
      refine WR_no rfl rfl ?_
      refine WR_no rfl rfl ?_
      refine WR_no rfl rfl ?_
      refine WR_no rfl rfl ?_
      refine WR_no rfl rfl ?_
      refine WR_no rfl rfl ?_
      refine WR_val rfl (rn_pick_t rfl) ?_
      refine WR_nil ?_
      refine thenN ?_
      refine W_t rfl ?_
      refine W_seq ?_
      refine W_region ?_
      refine WR_val rfl (rn_move) ?_
      refine WR_ent rfl (rn_callc (by kernel_rfl) rfl rfl) (none30r w901) ?_
      rintro _ w53 ⟨rfl, hb53⟩
      replace hr2 := hr2.new hb53
      replace hr7 := hr7.new hb53
      replace hB := hB.acc hb53
      refine WR_val rfl (rn_extract rfl rfl) ?_
      refine WR_val rfl (rn_extract rfl rfl) ?_
      refine WR_val rfl (rn_extract rfl rfl) ?_
      refine WR_val rfl (rn_extract rfl rfl) ?_
      refine WR_sk rfl (sk_storeA 2 ([.int .u64 0, .int .i64 0]) rfl rfl hr2 (by kernel_rfl) (by first | assumption | (simp; done) | (simp [bv_length, *]; done)) (by first | assumption | (simp; done) | (simp [bv_length, *]; done) | rfl) (by first | exact bv_one _ | assumption | (simp [Value.oneCell']; done)) (fun w903 hr2 ho903 => ?_))
      replace hr7 := hr7.only ho903 (Nat.ne_of_gt lt_g2_g7)
      replace hB := ho903.below hB ge_hB_g2
      refine WR_val rfl (rn_assign) ?_
      refine WR_val rfl (rn_assign) ?_
      refine WR_val rfl (rn_assign) ?_
      refine WR_nil ?_
      refine thenN ?_
      refine W_ret ?_
      refine thenR ?_
      refine ret_ret [_, _, _, _] ⟨⟨_, rfl, Ld.rowA (k := 2) hr2 (by kernel_rfl) (by kernel_rfl) (by first | (simp; done) | (simp [bv_length, *]; done) | assumption)⟩, rfl, rfl, rfl, trivial⟩ ?_
      · refine ⟨hB, .inl ⟨?_, rfl⟩⟩
        rw [hJI, show decide (m ≤ 683) = false from decide_eq_false (by omega)]
        simp
    ·
      refine WR_yes rfl ?_
      refine WR_val rfl (rn_fieldAddr (off := 3) (by kernel_rfl) rfl) ?_
      refine WR_yes rfl ?_
      refine WR_val rfl (rn_load rfl (Ld.row1 hr7 (by kernel_rfl) e3)) ?_
      refine WR_yes rfl ?_
      refine WR_val rfl (rn_add rfl rfl (w64 (by omega))) ?_
      refine WR_yes rfl ?_
      refine WR_val rfl (rn_quo0 rfl rfl (by omega) (by omega)) ?_
      refine WR_yes rfl ?_
      refine WR_val rfl (rn_move) ?_
      refine WR_yes rfl ?_
      refine WR_val rfl (rn_lenSl (e := 45) (sz := 128) (by kernel_rfl) rfl rfl) ?_
      refine WR_yes rfl ?_
      refine WR_val rfl (rn_gtr rfl rfl) ?_
      refine WR_val rfl (rn_pick_f rfl) ?_
      refine WR_nil ?_
      refine thenN ?_
      refine W_ifp rfl (fun hc3 => ?_) (fun hc3 => ?_)
      ·
        refine W_seq ?_
        refine W_region ?_
        refine WR_val rfl (rn_move) ?_
        refine WR_ent rfl (rn_callc (by kernel_rfl) rfl rfl) (none30r w901) ?_
        rintro _ w53 ⟨rfl, hb53⟩
        replace hr2 := hr2.new hb53
        replace hr7 := hr7.new hb53
        replace hB := hB.acc hb53
        refine WR_val rfl (rn_extract rfl rfl) ?_
        refine WR_val rfl (rn_extract rfl rfl) ?_
        refine WR_val rfl (rn_extract rfl rfl) ?_
        refine WR_val rfl (rn_extract rfl rfl) ?_
        refine WR_sk rfl (sk_storeA 2 ([.int .u64 0, .int .i64 0]) rfl rfl hr2 (by kernel_rfl) (by first | assumption | (simp; done) | (simp [bv_length, *]; done)) (by first | assumption | (simp; done) | (simp [bv_length, *]; done) | rfl) (by first | exact bv_one _ | assumption | (simp [Value.oneCell']; done)) (fun w904 hr2 ho904 => ?_))
        replace hr7 := hr7.only ho904 (Nat.ne_of_gt lt_g2_g7)
        replace hB := ho904.below hB ge_hB_g2
        refine WR_val rfl (rn_assign) ?_
        refine WR_val rfl (rn_assign) ?_
        refine WR_val rfl (rn_assign) ?_
        refine WR_nil ?_
        refine thenN ?_
        refine W_ret ?_
        refine thenR ?_
        refine ret_ret [_, _, _, _] ⟨⟨_, rfl, Ld.rowA (k := 2) hr2 (by kernel_rfl) (by kernel_rfl) (by first | (simp; done) | (simp [bv_length, *]; done) | assumption)⟩, rfl, rfl, rfl, trivial⟩ ?_
        · refine ⟨hB, .inl ⟨?_, rfl⟩⟩
          rw [hJI, show decide ((m + 1) / 2 ≤ n) = false from decide_eq_false (by omega)]
          simp
      ·
        refine W_skip ?_
        refine thenN ?_
        refine W_seq ?_
        refine W_region ?_
        refine WR_val rfl (rn_assign) ?_
        refine WR_nil ?_
        refine thenN ?_
        refine W_seq ?_
        refine W_seq ?_
        refine W_region ?_
        refine WR_val rfl (rn_fieldAddr (off := 3) (by kernel_rfl) rfl) ?_
        refine WR_val rfl (rn_load rfl (Ld.row1 hr7 (by kernel_rfl) e3)) ?_
        refine WR_val rfl (rn_move) ?_
        refine WR_nil ?_
        refine thenN ?_
        refine W_block ?_
        have q7 := hr7.lt
        have q2 := hr2.lt
        refine W_loop (α := Nat × Value) (0, .slice none 0 0) (fun k => [(60, .int .i64 (k.1 : Nat)), (9, k.2), (59, .int .i64 m), (0, .slice p n cp), (6, .func (.func 95) #[] #[]), (7, .pointer (some ⟨g7, 0, none⟩)), (2, .pointer (some ⟨g2, 0, none⟩))])
          (fun k w' => k.1 ≤ m ∧ (∀ j, j < k.1 → goodH (halfAt l j) c nn j m = true) ∧ ownsAt w' w901.heap.size 5 1 k.2 (48 * k.1) (bv (bodies l k.1)) ∧ row w' g7 L 144 ∧ row w' g2 [.int .u64 0, .int .i64 0] 86 ∧ Below w.heap.size w w' ∧ w901.heap.size ≤ w'.heap.size) (fun k => m - k.1)
          ⟨rfl, rfl, rfl, rfl, rfl, rfl, rfl, rfl⟩ ⟨Nat.zero_le _, (by intro j hj; exact absurd hj (Nat.not_lt_zero _)), ownsAt_nil _ _ _ _, hr7, hr2, hB, Nat.le_refl _⟩ ?_
        rintro ⟨k, v9⟩ f wr ⟨hk, hgood, hv9, hr7, hr2, hBr, hsr⟩
        simp only at hk hgood hv9
        have hBi := Below.refl wr.heap.size wr
        have hszr := hBr.size
        by_cases hlt : k < m
        · have hdk : (halfAt l k).length = 64 := halfAt_length _ _ (by omega)
          have hobt : ∃ L, L = pieceL (hCount (halfAt l k)) (hNum (halfAt l k)) (hPlace (halfAt l k)) (hMany (halfAt l k)) (hBody (halfAt l k)) := ⟨_, rfl⟩
          obtain ⟨LK, hLK⟩ := hobt
          have hLKl : LK.length = 52 := by rw [hLK, pieceL_length, hBody, List.length_drop, hdk]
          have honek : ∀ v ∈ LK, v.oneCell' = true := by rw [hLK]; exact pieceL_one _ _ _ _ _
          have hCK := fun b (hb : mayT (hCount (halfAt l k)) (hNum (halfAt l k)) = b) w' => read31r (halfAt l k) hdk b hb w'
          have k0 : LK[0]? = some (.int .u64 (hCount (halfAt l k))) := by rw [hLK]; rfl
          have k1 : LK[1]? = some (.int .i64 (hNum (halfAt l k))) := by rw [hLK]; rfl
          have k2 : LK[2]? = some (.int .i64 (hPlace (halfAt l k))) := by rw [hLK]; rfl
          have k3 : LK[3]? = some (.int .i64 (hMany (halfAt l k))) := by rw [hLK]; rfl
          have hkb : (LK.drop 4).take (48 * 1) = bv (hBody (halfAt l k)) := by
            rw [hLK]
            exact List.take_of_length_le (by show (bv (hBody (halfAt l k))).length ≤ _; rw [bv_length, hBody, List.length_drop, hdk]; omega)
          have hGB : goodH (halfAt l k) c nn k m = (mayT (hCount (halfAt l k)) (hNum (halfAt l k)) && decide (hCount (halfAt l k) = c ∧ hNum (halfAt l k) = nn) && decide (hPlace (halfAt l k) = k) && decide (hMany (halfAt l k) = m)) := rfl
          have hbs := bodies_succ l k
          have hbl : (hBody (halfAt l k)).length = 48 := by rw [hBody, List.length_drop, hdk]
          rw [← hLK] at hCK
          clear hLK
          generalize hCount (halfAt l k) = c' at *
          generalize hNum (halfAt l k) = n' at *
          generalize hPlace (halfAt l k) = p' at *
          generalize hMany (halfAt l k) = m' at *
          have hbad : goodH (halfAt l k) c nn k m = false → J = false := fun q => hJF (joinOk_bad hlt q)
          rcases hmk : mayT (c' : Int) n' with _ | _
          · skip
            refine W_seq ?_
            refine W_region ?_
            refine WR_val rfl (rn_lss rfl rfl) ?_
            refine WR_nil ?_
            refine thenN ?_
            refine W_seq ?_
            refine W_tp rfl ((by omega)) ?_
            refine W_skip ?_
            refine thenN ?_
            refine W_seq ?_
            refine W_block ?_
            refine W_seq ?_
            refine W_region ?_
            refine WR_val rfl (rn_move) ?_
            refine WR_val rfl (rn_assign) ?_
            refine WR_nil ?_
            refine thenN ?_
            refine W_seq ?_
            refine W_region ?_
            refine WR_val rfl (rn_move) ?_
            refine WR_val rfl (rn_move) ?_
            refine WR_ent rfl (rn_call (by kernel_rfl) rfl) (half32r p n cp l k wr ((h.below hBr (Nat.le_refl _)).below hBi (Nat.le_refl _)) (by omega) hn) ?_
            rintro _ w66 ⟨rfl, hb66⟩
            replace hBr := hBr.acc hb66
            replace hBi := hBi.acc hb66
            refine WR_ent rfl (rn_call (by kernel_rfl) rfl) (hCK _ hmk w66) ?_
            rintro _ w67 ⟨rfl, hb67⟩
            replace hBr := hBr.acc hb67
            replace hBi := hBi.acc hb67
            refine WR_val rfl (rn_move) ?_
            refine WR_val rfl (rn_extract rfl rfl) ?_
            refine WR_val rfl (rn_extract rfl rfl) ?_
            refine WR_mk rfl (mk_alloc (pieceL 0 0 0 0 (zerosB 48)) (by kernel_rfl) (fun g11 w11 hg11 hr11 hb11 => ?_))
            have ge_hBr_g11 := Nat.le_trans hBr.size hg11
            have ge_hBi_g11 := Nat.le_trans hBi.size hg11
            replace hBr := hBr.acc hb11
            replace hBi := hBi.acc hb11
            refine WR_sk rfl (sk_storeA 52 (LK) rfl rfl hr11 (by kernel_rfl) (by first | assumption | (simp; done) | (simp [bv_length, *]; done)) (by first | assumption | (simp; done) | (simp [bv_length, *]; done) | rfl) (by first | exact bv_one _ | assumption | (simp [Value.oneCell']; done)) (fun w905 hr11 ho905 => ?_))
            replace hBr := ho905.below hBr ge_hBr_g11
            replace hBi := ho905.below hBi ge_hBi_g11
            refine WR_val rfl (rn_assign) ?_
            refine WR_nil ?_
            refine thenN ?_
            refine W_seq ?_
            refine W_seq ?_
            refine W_region ?_
            refine WR_val rfl (rn_move) ?_
            refine WR_val rfl (rn_not rfl) ?_
            refine WR_val rfl (rn_move) ?_
            refine WR_tnb 72 rfl (rfl) ?_
            refine WR_no rfl rfl ?_
            refine WR_no rfl rfl ?_
            refine WR_no rfl rfl ?_
            refine WR_no rfl rfl ?_
            refine WR_no rfl rfl ?_
            refine WR_val rfl (rn_pick_t rfl) ?_
            refine WR_val rfl (rn_move) ?_
            refine WR_no rfl rfl ?_
            refine WR_no rfl rfl ?_
            refine WR_no rfl rfl ?_
            refine WR_no rfl rfl ?_
            refine WR_val rfl (rn_pick_t rfl) ?_
            refine WR_val rfl (rn_move) ?_
            refine WR_no rfl rfl ?_
            refine WR_no rfl rfl ?_
            refine WR_no rfl rfl ?_
            refine WR_no rfl rfl ?_
            refine WR_no rfl rfl ?_
            refine WR_val rfl (rn_pick_t rfl) ?_
            refine WR_nil ?_
            refine thenN ?_
            refine W_t rfl ?_
            refine W_seq ?_
            refine W_region ?_
            refine WR_val rfl (rn_move) ?_
            refine WR_ent rfl (rn_callc (by kernel_rfl) rfl rfl) (none30r w905) ?_
            rintro _ w93 ⟨rfl, hb93⟩
            replace hr11 := hr11.new hb93
            replace hBr := hBr.acc hb93
            replace hBi := hBi.acc hb93
            refine WR_val rfl (rn_extract rfl rfl) ?_
            refine WR_val rfl (rn_extract rfl rfl) ?_
            refine WR_val rfl (rn_extract rfl rfl) ?_
            refine WR_val rfl (rn_extract rfl rfl) ?_
            have hr2 := hr2.new hBi
            have hBs := hBi.size
            refine WR_sk rfl (sk_storeA 2 ([.int .u64 0, .int .i64 0]) rfl rfl hr2 (by kernel_rfl) (by first | assumption | (simp; done) | (simp [bv_length, *]; done)) (by first | assumption | (simp; done) | (simp [bv_length, *]; done) | rfl) (by first | exact bv_one _ | assumption | (simp [Value.oneCell']; done)) (fun w906 hr2 ho906 => ?_))
            replace hr11 := hr11.only ho906 (by omega)
            replace hBr := ho906.below hBr (by omega)
            refine WR_val rfl (rn_assign) ?_
            refine WR_val rfl (rn_assign) ?_
            refine WR_val rfl (rn_assign) ?_
            refine WR_nil ?_
            refine thenN ?_
            refine W_ret ?_
            refine thenR ?_
            refine blockR ?_
            refine thenR ?_
            refine loopR ?_
            refine blockR ?_
            refine thenR ?_
            refine ret_ret [_, _, _, _] ⟨⟨_, rfl, Ld.rowA (k := 2) hr2 (by kernel_rfl) (by kernel_rfl) (by first | (simp; done) | (simp [bv_length, *]; done) | assumption)⟩, rfl, rfl, rfl, trivial⟩ ?_
            exact ⟨hBr, .inl ⟨hbad (by rw [hGB, hmk]; rfl), rfl⟩⟩
          · skip
            refine W_seq ?_
            refine W_region ?_
            refine WR_val rfl (rn_lss rfl rfl) ?_
            refine WR_nil ?_
            refine thenN ?_
            refine W_seq ?_
            refine W_tp rfl ((by omega)) ?_
            refine W_skip ?_
            refine thenN ?_
            refine W_seq ?_
            refine W_block ?_
            refine W_seq ?_
            refine W_region ?_
            refine WR_val rfl (rn_move) ?_
            refine WR_val rfl (rn_assign) ?_
            refine WR_nil ?_
            refine thenN ?_
            refine W_seq ?_
            refine W_region ?_
            refine WR_val rfl (rn_move) ?_
            refine WR_val rfl (rn_move) ?_
            refine WR_ent rfl (rn_call (by kernel_rfl) rfl) (half32r p n cp l k wr ((h.below hBr (Nat.le_refl _)).below hBi (Nat.le_refl _)) (by omega) hn) ?_
            rintro _ w66 ⟨rfl, hb66⟩
            replace hBr := hBr.acc hb66
            replace hBi := hBi.acc hb66
            refine WR_ent rfl (rn_call (by kernel_rfl) rfl) (hCK _ hmk w66) ?_
            rintro _ w67 ⟨rfl, hb67⟩
            replace hBr := hBr.acc hb67
            replace hBi := hBi.acc hb67
            refine WR_val rfl (rn_move) ?_
            refine WR_val rfl (rn_extract rfl rfl) ?_
            refine WR_val rfl (rn_extract rfl rfl) ?_
            refine WR_mk rfl (mk_alloc (pieceL 0 0 0 0 (zerosB 48)) (by kernel_rfl) (fun g11 w11 hg11 hr11 hb11 => ?_))
            have ge_hBr_g11 := Nat.le_trans hBr.size hg11
            have ge_hBi_g11 := Nat.le_trans hBi.size hg11
            replace hBr := hBr.acc hb11
            replace hBi := hBi.acc hb11
            refine WR_sk rfl (sk_storeA 52 (LK) rfl rfl hr11 (by kernel_rfl) (by first | assumption | (simp; done) | (simp [bv_length, *]; done)) (by first | assumption | (simp; done) | (simp [bv_length, *]; done) | rfl) (by first | exact bv_one _ | assumption | (simp [Value.oneCell']; done)) (fun w907 hr11 ho907 => ?_))
            replace hBr := ho907.below hBr ge_hBr_g11
            replace hBi := ho907.below hBi ge_hBi_g11
            refine WR_val rfl (rn_assign) ?_
            refine WR_nil ?_
            refine thenN ?_
            refine W_seq ?_
            refine W_seq ?_
            refine W_region ?_
            refine WR_val rfl (rn_move) ?_
            refine WR_val rfl (rn_not rfl) ?_
            refine WR_val rfl (rn_move) ?_
            refine WR_fnb 72 rfl (rfl) ?_
            refine WR_yes rfl ?_
            refine WR_val rfl (rn_fieldAddr (off := 0) (by kernel_rfl) rfl) ?_
            refine WR_yes rfl ?_
            refine WR_val rfl (rn_load rfl (Ld.rng (hr11.range 0 [.int .u64 c', .int .i64 n'] (two_cells k0 k1)) (by kernel_rfl) (by kernel_rfl))) ?_
            refine WR_yes rfl ?_
            refine WR_val rfl (rn_fieldAddr (off := 0) (by kernel_rfl) rfl) ?_
            refine WR_yes rfl ?_
            refine WR_val rfl (rn_load rfl (Ld.rng ((hr7.new hBi).range 0 [.int .u64 c, .int .i64 nn] (two_cells e0 e1)) (by kernel_rfl) (by kernel_rfl))) ?_
            refine WR_yes rfl ?_
            refine WR_val rfl (rn_neqP (k0 := .u64) (k1 := .i64) (by kernel_rfl) rfl rfl) ?_
            refine WR_val rfl (rn_pick_f rfl) ?_
            refine WR_val rfl (rn_move) ?_
            refine WR_partb 79 rfl (fun hq1 => ?_) (fun hq1 => ?_)
            ·
              refine WR_no rfl rfl ?_
              refine WR_no rfl rfl ?_
              refine WR_no rfl rfl ?_
              refine WR_no rfl rfl ?_
              refine WR_val rfl (rn_pick_t rfl) ?_
              refine WR_val rfl (rn_move) ?_
              refine WR_no rfl rfl ?_
              refine WR_no rfl rfl ?_
              refine WR_no rfl rfl ?_
              refine WR_no rfl rfl ?_
              refine WR_no rfl rfl ?_
              refine WR_val rfl (rn_pick_t rfl) ?_
              refine WR_nil ?_
              refine thenN ?_
              refine W_t rfl ?_
              refine W_seq ?_
              refine W_region ?_
              refine WR_val rfl (rn_move) ?_
              refine WR_ent rfl (rn_callc (by kernel_rfl) rfl rfl) (none30r w907) ?_
              rintro _ w93 ⟨rfl, hb93⟩
              replace hr11 := hr11.new hb93
              replace hBr := hBr.acc hb93
              replace hBi := hBi.acc hb93
              refine WR_val rfl (rn_extract rfl rfl) ?_
              refine WR_val rfl (rn_extract rfl rfl) ?_
              refine WR_val rfl (rn_extract rfl rfl) ?_
              refine WR_val rfl (rn_extract rfl rfl) ?_
              have hr2 := hr2.new hBi
              have hBs := hBi.size
              refine WR_sk rfl (sk_storeA 2 ([.int .u64 0, .int .i64 0]) rfl rfl hr2 (by kernel_rfl) (by first | assumption | (simp; done) | (simp [bv_length, *]; done)) (by first | assumption | (simp; done) | (simp [bv_length, *]; done) | rfl) (by first | exact bv_one _ | assumption | (simp [Value.oneCell']; done)) (fun w908 hr2 ho908 => ?_))
              replace hr11 := hr11.only ho908 (by omega)
              replace hBr := ho908.below hBr (by omega)
              refine WR_val rfl (rn_assign) ?_
              refine WR_val rfl (rn_assign) ?_
              refine WR_val rfl (rn_assign) ?_
              refine WR_nil ?_
              refine thenN ?_
              refine W_ret ?_
              refine thenR ?_
              refine blockR ?_
              refine thenR ?_
              refine loopR ?_
              refine blockR ?_
              refine thenR ?_
              refine ret_ret [_, _, _, _] ⟨⟨_, rfl, Ld.rowA (k := 2) hr2 (by kernel_rfl) (by kernel_rfl) (by first | (simp; done) | (simp [bv_length, *]; done) | assumption)⟩, rfl, rfl, rfl, trivial⟩ ?_
              · simp only [Bool.not_eq_true', decide_eq_false_iff_not] at hq1
                exact ⟨hBr, .inl ⟨hbad (by rw [hGB, hmk, show decide (c' = c ∧ n' = nn) = false from decide_eq_false (by omega)]; rfl), rfl⟩⟩
            ·
              simp only [Bool.not_eq_false', decide_eq_true_eq] at hq1
              refine WR_yes rfl ?_
              refine WR_val rfl (rn_fieldAddr (off := 2) (by kernel_rfl) rfl) ?_
              refine WR_yes rfl ?_
              refine WR_val rfl (rn_load rfl (Ld.row1 hr11 (by kernel_rfl) k2)) ?_
              refine WR_yes rfl ?_
              refine WR_val rfl (rn_move) ?_
              refine WR_yes rfl ?_
              refine WR_val rfl (rn_neq rfl rfl) ?_
              refine WR_val rfl (rn_pick_f rfl) ?_
              refine WR_val rfl (rn_move) ?_
              refine WR_part 85 rfl (fun hq2 => ?_) (fun hq2 => ?_)
              ·
                refine WR_no rfl rfl ?_
                refine WR_no rfl rfl ?_
                refine WR_no rfl rfl ?_
                refine WR_no rfl rfl ?_
                refine WR_no rfl rfl ?_
                refine WR_val rfl (rn_pick_t rfl) ?_
                refine WR_nil ?_
                refine thenN ?_
                refine W_t rfl ?_
                refine W_seq ?_
                refine W_region ?_
                refine WR_val rfl (rn_move) ?_
                refine WR_ent rfl (rn_callc (by kernel_rfl) rfl rfl) (none30r w907) ?_
                rintro _ w93 ⟨rfl, hb93⟩
                replace hr11 := hr11.new hb93
                replace hBr := hBr.acc hb93
                replace hBi := hBi.acc hb93
                refine WR_val rfl (rn_extract rfl rfl) ?_
                refine WR_val rfl (rn_extract rfl rfl) ?_
                refine WR_val rfl (rn_extract rfl rfl) ?_
                refine WR_val rfl (rn_extract rfl rfl) ?_
                have hr2 := hr2.new hBi
                have hBs := hBi.size
                refine WR_sk rfl (sk_storeA 2 ([.int .u64 0, .int .i64 0]) rfl rfl hr2 (by kernel_rfl) (by first | assumption | (simp; done) | (simp [bv_length, *]; done)) (by first | assumption | (simp; done) | (simp [bv_length, *]; done) | rfl) (by first | exact bv_one _ | assumption | (simp [Value.oneCell']; done)) (fun w909 hr2 ho909 => ?_))
                replace hr11 := hr11.only ho909 (by omega)
                replace hBr := ho909.below hBr (by omega)
                refine WR_val rfl (rn_assign) ?_
                refine WR_val rfl (rn_assign) ?_
                refine WR_val rfl (rn_assign) ?_
                refine WR_nil ?_
                refine thenN ?_
                refine W_ret ?_
                refine thenR ?_
                refine blockR ?_
                refine thenR ?_
                refine loopR ?_
                refine blockR ?_
                refine thenR ?_
                refine ret_ret [_, _, _, _] ⟨⟨_, rfl, Ld.rowA (k := 2) hr2 (by kernel_rfl) (by kernel_rfl) (by first | (simp; done) | (simp [bv_length, *]; done) | assumption)⟩, rfl, rfl, rfl, trivial⟩ ?_
                · exact ⟨hBr, .inl ⟨hbad (by rw [hGB, show decide (p' = k) = false from decide_eq_false (by omega), Bool.and_false]; rfl), rfl⟩⟩
              ·
                refine WR_yes rfl ?_
                refine WR_val rfl (rn_fieldAddr (off := 3) (by kernel_rfl) rfl) ?_
                refine WR_yes rfl ?_
                refine WR_val rfl (rn_load rfl (Ld.row1 hr11 (by kernel_rfl) k3)) ?_
                refine WR_yes rfl ?_
                refine WR_val rfl (rn_fieldAddr (off := 3) (by kernel_rfl) rfl) ?_
                refine WR_yes rfl ?_
                refine WR_val rfl (rn_load rfl (Ld.row1 (hr7.new hBi) (by kernel_rfl) e3)) ?_
                refine WR_yes rfl ?_
                refine WR_val rfl (rn_neq rfl rfl) ?_
                refine WR_val rfl (rn_pick_f rfl) ?_
                refine WR_nil ?_
                refine thenN ?_
                refine W_ifp rfl (fun hq3 => ?_) (fun hq3 => ?_)
                ·
                  refine W_seq ?_
                  refine W_region ?_
                  refine WR_val rfl (rn_move) ?_
                  refine WR_ent rfl (rn_callc (by kernel_rfl) rfl rfl) (none30r w907) ?_
                  rintro _ w93 ⟨rfl, hb93⟩
                  replace hr11 := hr11.new hb93
                  replace hBr := hBr.acc hb93
                  replace hBi := hBi.acc hb93
                  refine WR_val rfl (rn_extract rfl rfl) ?_
                  refine WR_val rfl (rn_extract rfl rfl) ?_
                  refine WR_val rfl (rn_extract rfl rfl) ?_
                  refine WR_val rfl (rn_extract rfl rfl) ?_
                  have hr2 := hr2.new hBi
                  have hBs := hBi.size
                  refine WR_sk rfl (sk_storeA 2 ([.int .u64 0, .int .i64 0]) rfl rfl hr2 (by kernel_rfl) (by first | assumption | (simp; done) | (simp [bv_length, *]; done)) (by first | assumption | (simp; done) | (simp [bv_length, *]; done) | rfl) (by first | exact bv_one _ | assumption | (simp [Value.oneCell']; done)) (fun w910 hr2 ho910 => ?_))
                  replace hr11 := hr11.only ho910 (by omega)
                  replace hBr := ho910.below hBr (by omega)
                  refine WR_val rfl (rn_assign) ?_
                  refine WR_val rfl (rn_assign) ?_
                  refine WR_val rfl (rn_assign) ?_
                  refine WR_nil ?_
                  refine thenN ?_
                  refine W_ret ?_
                  refine thenR ?_
                  refine blockR ?_
                  refine thenR ?_
                  refine loopR ?_
                  refine blockR ?_
                  refine thenR ?_
                  refine ret_ret [_, _, _, _] ⟨⟨_, rfl, Ld.rowA (k := 2) hr2 (by kernel_rfl) (by kernel_rfl) (by first | (simp; done) | (simp [bv_length, *]; done) | assumption)⟩, rfl, rfl, rfl, trivial⟩ ?_
                  · exact ⟨hBr, .inl ⟨hbad (by rw [hGB, show decide (m' = m) = false from decide_eq_false (by omega), Bool.and_false]), rfl⟩⟩
                ·
                  refine W_skip ?_
                  refine thenN ?_
                  refine W_region ?_
                  refine WR_val rfl (rn_move) ?_
                  refine WR_val rfl (rn_fieldAddr (off := 4) (by kernel_rfl) rfl) ?_
                  refine WR_val rfl (rn_sliceAr1' (e := 5) (n := 48) (0) (48) (48) (48) (by kernel_rfl) rfl rfl rfl rfl (by simp) (by omega) (by omega) (by omega) (by omega) (by omega)) ?_
                  have hs100 := hr11.sl (m := 48) (sz := 1) 4 (by omega) (by unfold maxLen; omega)
                  rw [hkb] at hs100
                  have hv9 := hv9.new hBi
                  have hr7 := hr7.new hBi
                  have hr2 := hr2.new hBi
                  have hBs := hBi.size
                  have sz_hBr_101 := hBr.size
                  refine WR_mk rfl (mk_append (e := 5) (sz := 1) (bytes := 1) (z := Value.int .u8 0) (by kernel_rfl) rfl (by kernel_rfl) rfl (by decide) rfl hv9 rfl hs100 (bv_one _) (by unfold maxLen; omega) (by omega) (fun hm0 => by omega) (fun v101 w101 hv101 hgr101 hfr101 => ?_))
                  replace hr7 := hr7.own hv9 hgr101 (by omega)
                  replace hr2 := hr2.own hv9 hgr101 (by omega)
                  replace hBr := hBr.own hv9 hgr101 (by omega)
                  refine WR_val rfl (rn_assign) ?_
                  refine WR_nil ?_
                  refine blockN ?_
                  refine thenN ?_
                  refine W_region ?_
                  refine WR_val rfl (rn_add rfl rfl (Coup.w64 (by omega))) ?_
                  refine WR_val rfl (rn_move) ?_
                  refine WR_nil ?_
                  refine loopN ⟨(k + 1, v101), by simp only; omega, ⟨rfl, by go_num, rfl, rfl, rfl, rfl, rfl, rfl⟩, by simp only; omega, ?_, ?_, hr7, hr2, hBr, by have := hgr101.size; omega⟩
                  · intro j hj
                    rcases Nat.lt_or_ge j k with hj' | hj'
                    · exact hgood j hj'
                    · obtain rfl : j = k := by simp only at hj; omega
                      rw [hGB, hmk, decide_eq_true (by omega : c' = c ∧ n' = nn), decide_eq_true (by omega : p' = j), decide_eq_true (by omega : m' = m)]; rfl
                  · simp only
                    rw [hbs, bv_append, show 48 * (k + 1) = 48 * k + 48 by omega]
                    exact hv101
        · obtain rfl : k = m := by omega
          have hobt := hv9.form' (by omega)
          obtain ⟨g9, o9, c9, rfl, b9, l9, hc9⟩ := hobt
          have hx9 := hv9.sl
          have hbl := bodies_length l k (by omega)
          have hobt : ∃ Z, Z = (bodies l k).drop (4 + joinK l k) := ⟨_, rfl⟩
          obtain ⟨Z, hZ⟩ := hobt
          have hK := joinK_lt l k
          have hJ2 : J = (decide (joinK l k ≤ 32768) && decide (manyN (joinK l k) = k) && Z.all (· == 0)) := by
            rw [hJI, hm, decide_eq_true h0, decide_eq_true (by omega : 1 ≤ k), decide_eq_true (by omega : k ≤ 683), decide_eq_true (by omega : (k + 1) / 2 ≤ n), joinOk, ← hZ, List.all_eq_true.2 (fun j hj => hgood j (List.mem_range.1 hj))]
            simp only [Bool.true_and]
          have hx4 : SlAt wr (some ⟨g9, o9 + 0, none⟩) 4 1 (bv ((bodies l k).take 4)) := by
            have := hx9.subB 0 4 (by omega)
            rwa [List.drop_zero] at this
          have hN : ∀ q c w', SlAt w' q 4 1 (bv ((bodies l k).take 4)) → Calls Tryz.prog 98 [.slice q 4 c].toArray w' (Ret fun v w2 => v = .int .u64 (joinK l k) ∧ w' = w2) := fun q c w' hs => number33r q 4 c _ w' hs (by omega)
          clear hJI hJF
          generalize joinK l k = K at *
          refine W_seq ?_
          refine W_region ?_
          refine WR_val rfl (rn_lss rfl rfl) ?_
          refine WR_nil ?_
          refine thenN ?_
          refine W_seq ?_
          refine W_fp rfl ((by omega)) ?_
          refine W_exit ?_
          refine thenX ?_
          refine loopX ?_
          refine blockX ?_
          refine thenN ?_
          refine W_seq ?_
          refine W_region ?_
          refine WR_val rfl (rn_move) ?_
          refine WR_val rfl (rn_sliceSl1' (e := 5) (0) (4) (4) (4) (by kernel_rfl) rfl rfl ⟨_, _, rfl, rfl⟩ ⟨_, _, rfl, rfl⟩ (by simp) (by omega) (by omega) (by omega) (by omega) (by omega)) ?_
          refine WR_ent rfl (rn_call (by kernel_rfl) rfl) (hN _ _ wr hx4) ?_
          rintro _ _ ⟨rfl, rfl⟩
          refine WR_val rfl (rn_conv (k := .i64) (by kernel_rfl) (by kernel_rfl) rfl (w64 (by omega))) ?_
          refine WR_val rfl (rn_assign) ?_
          refine WR_nil ?_
          refine thenN ?_
          refine W_seq ?_
          refine W_seq ?_
          refine W_draw' [] (by kernel_rfl) ?_
          intro w911 hb911 hS911
          replace hr2 := hr2.new hb911
          replace hr7 := hr7.new hb911
          replace hx9 := hx9.new hb911
          replace hBr := hBr.acc hb911
          have hr2_d911 := hr2
          have hr7_d911 := hr7
          have hx9_d911 := hx9
          have hBr_d911 := hBr
          refine WA_take 0 (by kernel_rfl) rfl (fun _ _ => rn_move) ?_
          refine WA_take 1 (by kernel_rfl) rfl (fun _ _ => rn_gtr rfl rfl) ?_
          refine WA_take 2 (by kernel_rfl) rfl (fun _ _ => rn_move) ?_
          refine WA_part 109 rfl (fun hk1 => ?_) (fun hk1 => ?_)
          ·
            refine WA_skip 3 (by kernel_rfl) rfl ?_
            refine WA_skip 5 (by kernel_rfl) rfl ?_
            refine WA_skip 6 (by kernel_rfl) rfl ?_
            refine WA_skip 4 (by kernel_rfl) rfl ?_
            refine WA_skip 7 (by kernel_rfl) rfl ?_
            refine WA_take 8 (by kernel_rfl) rfl (fun _ _ => rn_pick_t rfl) ?_
            refine WA_done (by kernel_rfl) ?_
            refine thenN ?_
            refine W_t rfl ?_
            refine W_seq ?_
            refine W_region ?_
            refine WR_val rfl (rn_move) ?_
            refine WR_ent rfl (rn_callc (by kernel_rfl) rfl rfl) (none30r w911) ?_
            rintro _ w117 ⟨rfl, hb117⟩
            replace hr2 := hr2.new hb117
            replace hr7 := hr7.new hb117
            replace hx9 := hx9.new hb117
            replace hBr := hBr.acc hb117
            refine WR_val rfl (rn_extract rfl rfl) ?_
            refine WR_val rfl (rn_extract rfl rfl) ?_
            refine WR_val rfl (rn_extract rfl rfl) ?_
            refine WR_val rfl (rn_extract rfl rfl) ?_
            refine WR_sk rfl (sk_storeA 2 ([.int .u64 0, .int .i64 0]) rfl rfl hr2 (by kernel_rfl) (by first | assumption | (simp; done) | (simp [bv_length, *]; done)) (by first | assumption | (simp; done) | (simp [bv_length, *]; done) | rfl) (by first | exact bv_one _ | assumption | (simp [Value.oneCell']; done)) (fun w912 hr2 ho912 => ?_))
            replace hr7 := hr7.only ho912 (Nat.ne_of_gt lt_g2_g7)
            replace hx9 := hx9.only ho912 (by omega)
            replace hBr := ho912.below hBr (by omega)
            refine WR_val rfl (rn_assign) ?_
            refine WR_val rfl (rn_assign) ?_
            refine WR_val rfl (rn_assign) ?_
            refine WR_nil ?_
            refine thenN ?_
            refine W_ret ?_
            refine thenR ?_
            refine ret_ret [_, _, _, _] ⟨⟨_, rfl, Ld.rowA (k := 2) hr2 (by kernel_rfl) (by kernel_rfl) (by first | (simp; done) | (simp [bv_length, *]; done) | assumption)⟩, rfl, rfl, rfl, trivial⟩ ?_
            · exact ⟨hBr, .inl ⟨by rw [hJ2, decide_eq_false (by omega)]; rfl, rfl⟩⟩
          ·
            refine WA_take 3 (by kernel_rfl) rfl (fun _ _ => rn_move) ?_
            refine WA_call 4 (by kernel_rfl) rfl (fun _ => rn_call (by kernel_rfl) rfl) (fun w' hS' => halves26r K (by omega) w') ?_
            refine WA_take 5 (by kernel_rfl) rfl (fun _ _ => rn_fieldAddr (off := 3) (by kernel_rfl) rfl) ?_
            refine WA_take 6 (by kernel_rfl) rfl (fun w' hS' => rn_load rfl (Ld.row1 (hr7_d911.kpd hS' (by first | (simp; done) | (simp; omega) | (simp [*]; done) | exact notLL (Or.inl (by omega)) | exact notLL (Or.inr (by simp)) | exact fun g hm => Nat.le_trans (by omega) (inLL hm).1 | (intro b o e; cases e; exact notLL (Or.inl (by omega))) | (intro b hm; have := (hu.lt b (Option.mem_toList.1 hm)).1; omega) | (intro b o e; cases e; intro hm; have := (hu.lt _ (Option.mem_toList.1 hm)).1; omega))) (by kernel_rfl) e3)) ?_
            refine WA_take 7 (by kernel_rfl) rfl (fun _ _ => rn_neq rfl rfl) ?_
            refine WA_take 8 (by kernel_rfl) rfl (fun _ _ => rn_pick_f rfl) ?_
            refine WA_done (by kernel_rfl) ?_
            refine thenN ?_
            refine W_ifp rfl (fun hk2 => ?_) (fun hk2 => ?_)
            ·
              refine W_seq ?_
              refine W_region ?_
              refine WR_val rfl (rn_move) ?_
              refine WR_ent rfl (rn_callc (by kernel_rfl) rfl rfl) (none30r w911) ?_
              rintro _ w117 ⟨rfl, hb117⟩
              replace hr2 := hr2.new hb117
              replace hr7 := hr7.new hb117
              replace hx9 := hx9.new hb117
              replace hBr := hBr.acc hb117
              refine WR_val rfl (rn_extract rfl rfl) ?_
              refine WR_val rfl (rn_extract rfl rfl) ?_
              refine WR_val rfl (rn_extract rfl rfl) ?_
              refine WR_val rfl (rn_extract rfl rfl) ?_
              refine WR_sk rfl (sk_storeA 2 ([.int .u64 0, .int .i64 0]) rfl rfl hr2 (by kernel_rfl) (by first | assumption | (simp; done) | (simp [bv_length, *]; done)) (by first | assumption | (simp; done) | (simp [bv_length, *]; done) | rfl) (by first | exact bv_one _ | assumption | (simp [Value.oneCell']; done)) (fun w913 hr2 ho913 => ?_))
              replace hr7 := hr7.only ho913 (Nat.ne_of_gt lt_g2_g7)
              replace hx9 := hx9.only ho913 (by omega)
              replace hBr := ho913.below hBr (by omega)
              refine WR_val rfl (rn_assign) ?_
              refine WR_val rfl (rn_assign) ?_
              refine WR_val rfl (rn_assign) ?_
              refine WR_nil ?_
              refine thenN ?_
              refine W_ret ?_
              refine thenR ?_
              refine ret_ret [_, _, _, _] ⟨⟨_, rfl, Ld.rowA (k := 2) hr2 (by kernel_rfl) (by kernel_rfl) (by first | (simp; done) | (simp [bv_length, *]; done) | assumption)⟩, rfl, rfl, rfl, trivial⟩ ?_
              · exact ⟨hBr, .inl ⟨by rw [hJ2, decide_eq_false (by omega : ¬ manyN K = k), Bool.and_false]; rfl, rfl⟩⟩
            ·
              have hmk : manyN K = k := by omega
              have hmle := manyN_le K
              rw [hmk] at hmle
              refine W_skip ?_
              refine thenN ?_
              refine W_seq ?_
              refine W_seq ?_
              refine W_region ?_
              refine WR_val rfl (rn_move) ?_
              refine WR_val rfl (rn_move) ?_
              refine WR_val rfl (rn_add rfl rfl (w64 (by omega))) ?_
              refine WR_val rfl (rn_sliceSl (e := 5) (sz := 1) (4 + K) (_) (_) (by kernel_rfl) rfl ⟨_, _, rfl, by omega⟩ rfl rfl (by simp) (by omega) (by omega) (by omega)) ?_
              refine WR_val rfl (rn_lenSl (e := 5) (sz := 1) (by kernel_rfl) rfl rfl) ?_
              refine WR_val rfl (rn_move) ?_
              refine WR_nil ?_
              refine thenN ?_
              refine W_block ?_
              have hZl : Z.length = 48 * k - (4 + K) := by rw [hZ, List.length_drop, hbl]
              obtain ⟨oA, hA, hz9⟩ : ∃ oA, (if c9 = 4 + K then some (⟨g9, o9, none⟩ : Addr) else Option.map (fun x : Addr => x.add ((4 + K) * 1)) (some (⟨g9, o9, none⟩ : Addr))) = some ⟨g9, oA, none⟩ ∧ SlAt w911 (some ⟨g9, oA, none⟩) (48 * k - (4 + K)) 1 (bv Z) := by
                by_cases hq : c9 = 4 + K
                · refine ⟨o9, if_pos hq, by rw [bv_length, hZl, Nat.mul_one], by unfold maxLen; omega, fun q => by omega⟩
                · refine ⟨o9 + (4 + K) * 1, by rw [if_neg hq, Option.map_some, Addr.add_lit], ?_⟩
                  have := hx9.subB (4 + K) (48 * k - (4 + K)) (by omega)
                  rw [← hZ, List.take_of_length_le (by omega)] at this
                  rw [Nat.mul_one]; exact this
              refine W_loop (α := Nat) 0 (fun i => [(127, .int .i64 (i : Nat)), (126, .int .i64 ((48 * k - (4 + K) : Nat) : Int)), (125, .slice (some ⟨g9, oA, none⟩) (48 * k - (4 + K)) (c9 - (4 + K))), (9, .slice (some ⟨g9, o9, none⟩) (48 * k) c9), (13, .int .i64 K), (6, .func (.func 95) #[] #[]), (7, .pointer (some ⟨g7, 0, none⟩)), (2, .pointer (some ⟨g2, 0, none⟩))])
                (fun i w' => i ≤ 48 * k - (4 + K) ∧ (∀ j, j < i → Z[j]? = some 0) ∧ w' = w911) (fun i => 48 * k - (4 + K) - i)
                ⟨rfl, rfl, by rw [← hA]; rfl, rfl, rfl, rfl, rfl, rfl, rfl⟩ ⟨Nat.zero_le _, (by intro j hj; exact absurd hj (Nat.not_lt_zero _)), rfl⟩ ?_
              rintro i f2 wz ⟨hi, hzero, rfl⟩
              refine W_seq ?_
              refine W_region ?_
              refine WR_val rfl (rn_lss rfl rfl) ?_
              refine WR_nil ?_
              refine thenN ?_
              refine W_seq ?_
              refine W_ifp rfl (fun hlt2 => ?_) (fun hlt2 => ?_)
              ·
                refine W_skip ?_
                refine thenN ?_
                refine W_seq ?_
                refine W_block ?_
                refine W_seq ?_
                refine W_region ?_
                have hobt : ∃ z, Z[i]? = some z := ⟨_, List.getElem?_eq_getElem (by omega)⟩
                obtain ⟨z, hz⟩ := hobt
                refine WR_val rfl (rn_indexSl1 (e := 5) (by kernel_rfl) rfl rfl (i) (by omega) (by omega)) ?_
                refine WR_val rfl (rn_load rfl (Ld.sl1 hz9 (by kernel_rfl) (v := byteV z) (by rw [bv_get, hz]; rfl))) ?_
                refine WR_val rfl (rn_assign) ?_
                refine WR_nil ?_
                refine thenN ?_
                refine W_seq ?_
                refine W_region ?_
                refine WR_val rfl (rn_move) ?_
                refine WR_val rfl (rn_neq rfl rfl) ?_
                refine WR_nil ?_
                refine thenN ?_
                refine W_ifp rfl (fun hnz => ?_) (fun hnz => ?_)
                ·
                  refine W_seq ?_
                  refine W_region ?_
                  refine WR_val rfl (rn_move) ?_
                  refine WR_ent rfl (rn_callc (by kernel_rfl) rfl rfl) (none30r wz) ?_
                  rintro _ w134 ⟨rfl, hb134⟩
                  replace hr2 := hr2.new hb134
                  replace hr7 := hr7.new hb134
                  replace hx9 := hx9.new hb134
                  replace hBr := hBr.acc hb134
                  refine WR_val rfl (rn_extract rfl rfl) ?_
                  refine WR_val rfl (rn_extract rfl rfl) ?_
                  refine WR_val rfl (rn_extract rfl rfl) ?_
                  refine WR_val rfl (rn_extract rfl rfl) ?_
                  refine WR_sk rfl (sk_storeA 2 ([.int .u64 0, .int .i64 0]) rfl rfl hr2 (by kernel_rfl) (by first | assumption | (simp; done) | (simp [bv_length, *]; done)) (by first | assumption | (simp; done) | (simp [bv_length, *]; done) | rfl) (by first | exact bv_one _ | assumption | (simp [Value.oneCell']; done)) (fun w914 hr2 ho914 => ?_))
                  replace hr7 := hr7.only ho914 (Nat.ne_of_gt lt_g2_g7)
                  replace hx9 := hx9.only ho914 (by omega)
                  replace hBr := ho914.below hBr (by omega)
                  refine WR_val rfl (rn_assign) ?_
                  refine WR_val rfl (rn_assign) ?_
                  refine WR_val rfl (rn_assign) ?_
                  refine WR_nil ?_
                  refine thenN ?_
                  refine W_ret ?_
                  refine blockR ?_
                  refine thenR ?_
                  refine loopR ?_
                  refine blockR ?_
                  refine thenR ?_
                  refine ret_ret [_, _, _, _] ⟨⟨_, rfl, Ld.rowA (k := 2) hr2 (by kernel_rfl) (by kernel_rfl) (by first | (simp; done) | (simp [bv_length, *]; done) | assumption)⟩, rfl, rfl, rfl, trivial⟩ ?_
                  · refine ⟨hBr, .inl ⟨?_, rfl⟩⟩
                    have : Z.all (· == 0) = false := List.all_eq_false.2 ⟨z, List.mem_of_getElem? hz, by
                      intro q
                      have q' : z = 0 := by simpa using q
                      exact hnz (by rw [q']; rfl)⟩
                    rw [hJ2, this, Bool.and_false]
                ·
                  refine W_skip ?_
                  refine blockN ?_
                  refine thenN ?_
                  refine W_region ?_
                  refine WR_val rfl (rn_add rfl rfl (Coup.w64 (by omega))) ?_
                  refine WR_val rfl (rn_move) ?_
                  refine WR_nil ?_
                  have hz0 : z = 0 := by
                    exact UInt8.toNat_inj.1 (by show z.toNat = 0; omega)
                  refine loopN ⟨i + 1, by omega, ⟨rfl, rfl, rfl, rfl, rfl, rfl, rfl, rfl, rfl⟩, by omega, ?_, rfl⟩
                  intro j hj
                  rcases Nat.lt_or_ge j i with hj' | hj'
                  · exact hzero j hj'
                  · obtain rfl : j = i := by omega
                    rw [hz, hz0]
              ·
                have hJt : J = true := by
                  have : Z.all (· == 0) = true := List.all_eq_true.2 fun x hx => by
                    have hobt := List.mem_iff_getElem?.1 hx
                    obtain ⟨j, hj⟩ := hobt
                    have := hzero j (by have := (List.getElem?_eq_some_iff.1 hj).1; omega)
                    rw [hj] at this
                    simpa using this
                  rw [hJ2, this, decide_eq_true hmk, decide_eq_true (by omega)]; rfl
                have hJl : JB.length = K := by rw [hJB, List.length_take, List.length_drop, hbl]; omega
                obtain ⟨oC, hC, hzc⟩ : ∃ oC, (if 4 + K = 4 then some (⟨g9, o9, none⟩ : Addr) else Option.map (fun x : Addr => x.add (4 * 1)) (some (⟨g9, o9, none⟩ : Addr))) = some ⟨g9, oC, none⟩ ∧ ∀ w', SlAt w' (some ⟨g9, o9, none⟩) (48 * k) 1 (bv (bodies l k)) → SlAt w' (some ⟨g9, oC, none⟩) K 1 (bv JB) := by
                  by_cases hq : 4 + K = 4
                  · refine ⟨o9, if_pos hq, fun w' _ => ⟨by rw [bv_length, hJl, Nat.mul_one], by unfold maxLen; omega, fun q => by omega⟩⟩
                  · refine ⟨o9 + 4 * 1, by rw [if_neg hq, Option.map_some, Addr.add_lit], fun w' hw => ?_⟩
                    have := hw.subB 4 K (by omega)
                    rwa [← hJB] at this
                refine W_exit ?_
                refine thenX ?_
                refine loopX ?_
                refine blockX ?_
                refine thenN ?_
                refine W_seq ?_
                refine W_draw' [g2] (by kernel_rfl) ?_
                intro w915 hb915 hS915
                replace hr2 := hr2.new hb915
                replace hr7 := hr7.new hb915
                replace hx9 := hx9.new hb915
                replace hBr := hBr.acc hb915
                have hr2_d915 := hr2
                have hr7_d915 := hr7
                have hx9_d915 := hx9
                have hBr_d915 := hBr
                refine WA_take 0 (by kernel_rfl) rfl (fun _ _ => rn_fieldAddr (off := 0) (by kernel_rfl) rfl) ?_
                refine WA_take 1 (by kernel_rfl) rfl (fun w' hS' => rn_load rfl (Ld.rng ((hr7_d915.kpd hS' (by first | (simp; done) | (simp; omega) | (simp [*]; done) | exact notLL (Or.inl (by omega)) | exact notLL (Or.inr (by simp)) | exact fun g hm => Nat.le_trans (by omega) (inLL hm).1 | (intro b o e; cases e; exact notLL (Or.inl (by omega))) | (intro b hm; have := (hu.lt b (Option.mem_toList.1 hm)).1; omega) | (intro b o e; cases e; intro hm; have := (hu.lt _ (Option.mem_toList.1 hm)).1; omega))).range 0 [.int .u64 c, .int .i64 nn] (two_cells e0 e1)) (by kernel_rfl) (by kernel_rfl))) ?_
                refine WA_take 2 (by kernel_rfl) rfl (fun _ _ => rn_move) ?_
                refine WA_take 3 (by kernel_rfl) rfl (fun _ _ => rn_move) ?_
                refine WA_take 4 (by kernel_rfl) rfl (fun _ _ => rn_add rfl rfl (w64 (by omega))) ?_
                refine WA_take 5 (by kernel_rfl) rfl (fun _ _ => rn_move) ?_
                refine WA_take 6 (by kernel_rfl) rfl (fun _ _ => rn_add rfl rfl (w64 (by omega))) ?_
                refine WA_take 7 (by kernel_rfl) rfl (fun _ _ => rn_sliceSl (e := 5) (sz := 1) (4) (4 + K) (4 + K) (by kernel_rfl) rfl ⟨_, _, rfl, rfl⟩ ⟨_, _, rfl, by omega⟩ ⟨_, _, rfl, by omega⟩ (by simp) (by omega) (by omega) (by omega)) ?_
                refine WA_take 8 (by kernel_rfl) rfl (fun _ _ => rn_fieldAddr (off := 3) (by kernel_rfl) rfl) ?_
                refine WA_take 9 (by kernel_rfl) rfl (fun w' hS' => rn_load rfl (Ld.row1 (hr7_d915.kpd hS' (by first | (simp; done) | (simp; omega) | (simp [*]; done) | exact notLL (Or.inl (by omega)) | exact notLL (Or.inr (by simp)) | exact fun g hm => Nat.le_trans (by omega) (inLL hm).1 | (intro b o e; cases e; exact notLL (Or.inl (by omega))) | (intro b hm; have := (hu.lt b (Option.mem_toList.1 hm)).1; omega) | (intro b o e; cases e; intro hm; have := (hu.lt _ (Option.mem_toList.1 hm)).1; omega))) (by kernel_rfl) e3)) ?_
                refine WA_take 10 (by kernel_rfl) rfl (fun _ _ => rn_add rfl rfl (w64 (by omega))) ?_
                refine WA_take 11 (by kernel_rfl) rfl (fun _ _ => rn_quo0 rfl rfl (by omega) (by omega)) ?_
                refine WA_one 12 (by kernel_rfl) ?_
                refine WO_sk rfl rfl (sk_storeA 2 ([.int .u64 c, .int .i64 nn]) rfl rfl hr2 (by kernel_rfl) (by first | assumption | (simp; done) | (simp [bv_length, *]; done)) (by first | assumption | (simp; done) | (simp [bv_length, *]; done) | rfl) (by first | exact bv_one _ | assumption | (simp [Value.oneCell']; done)) (fun w917 hr2 ho917 => ?_))
                have hS916 := hS915.add1 ho917 (by first | (left; omega) | (right; simp; done) | (right; simp; omega))
                refine ⟨hS916, ?_⟩
                replace hr7 := hr7.only ho917 (Nat.ne_of_gt lt_g2_g7)
                replace hx9 := hx9.only ho917 (by omega)
                replace hBr := ho917.below hBr (by omega)
                refine WA_take 13 (by kernel_rfl) rfl (fun _ _ => rn_assign) ?_
                refine WA_take 14 (by kernel_rfl) rfl (fun _ _ => rn_assign) ?_
                refine WA_take 15 (by kernel_rfl) rfl (fun _ _ => rn_assign) ?_
                refine WA_done (by kernel_rfl) ?_
                refine thenN ?_
                refine W_ret ?_
                refine ret_ret [_, _, _, _] ⟨⟨_, rfl, Ld.rowA (k := 2) hr2 (by kernel_rfl) (by kernel_rfl) (by first | (simp; done) | (simp [bv_length, *]; done) | assumption)⟩, rfl, rfl, rfl, trivial⟩ ?_
                refine ⟨hBr, .inr ⟨hJt, some ⟨g9, oC, none⟩, ?_, by rw [hJl]; exact hzc _ hx9⟩⟩
                have e : Value.tuple #[.agg #[.int .u64 c, .int .i64 nn], .slice (if 4 + K = 4 then some (⟨g9, o9, none⟩ : Addr) else Option.map (fun x : Addr => x.add (4 * 1)) (some (⟨g9, o9, none⟩ : Addr))) (4 + K - 4) (4 + K - 4), .int .i64 (((k : Int) + 1) / 2), .int .i64 0] =
                    .tuple #[.agg #[.int .u64 c, .int .i64 nn], .slice (some ⟨g9, oC, none⟩) JB.length JB.length, .int .i64 (needN JB.length : Nat), .int .i64 0] := by
                  rw [hC, hJl, needN, hmk, Nat.add_sub_cancel_left]; rfl
                exact e
end Go.Proofs.YtkkgahgpemepeaaGreat
namespace Go.Proofs.YtkkgahgpemepeaaGreat
open Go Go.RowKit Coup
theorem get36r (p : Option Addr) (n c : Nat) (l : List UInt8) (w : World) (h : SlAt w p n 1 (bv l)) (hn : n ≤ 8) : Calls Tryz.prog 75 [.slice p n c].toArray w (Ret fun v w' => v = .int .u64 (numB l) ∧ w = w') := calls_ret (get36 p n c l w h hn)
theorem may11r (c n : Int) (w : World) : Calls Tryz.prog 39 [.agg #[.int .u64 c, .int .i64 n]].toArray w (Ret fun v w' => v = .bool (mayT c n) ∧ Below w.heap.size w w') := calls_ret (may11 c n w)
theorem need13r (n : Int) (w : World) : Calls Tryz.prog 78 [.int .i64 n].toArray w (Ret fun v w' => v = .int .i64 (needZ n) ∧ w = w') := calls_ret (need13 n w)
theorem parts35r (l : List UInt8) (p : Option Addr) (n cp : Nat) (w : World) (h : SlAt w p n 128 (bv l)) (hn : n ≤ 100000) :
    Calls Tryz.prog 73 [.slice p n cp].toArray w (Ret fun v w' => ∃ vs q cq, v = .slice q (2 * n) cq ∧ SlAt w' q (2 * n) 1 vs ∧ SlsAt w' w.heap.size v.ownBlock vs (partsL l (2 * n)) ∧ (∀ g o, q = some ⟨g, o, none⟩ → w.heap.size ≤ g) ∧ Below w.heap.size w w') :=
  (parts35 l p n cp w h hn).to fun v w' ⟨vs, h1, h2, h3⟩ => by
    obtain ⟨q, cq, rfl⟩ := h1.form
    exact ⟨vs, q, cq, rfl, h1.sl, h2, fun g o hq => (h1.lt g (by subst hq; rfl)).1, h3⟩
theorem _root_.Coup.SlAt.ltB {w : World} {g o m sz : Nat} {cs : List Value} (h : SlAt w (some ⟨g, o, none⟩) m sz cs) (h0 : 0 < m * sz) : g < w.heap.size := by
  obtain ⟨b, _, he, hb⟩ := h.some h0
  cases he; exact hb
set_option maxRecDepth 20000 in
theorem tag25 (h : List UInt8) (hl : h.length = 64) (g o cp : Nat) (w : World) (hs : SlAt w (some ⟨g, o, none⟩) 64 1 (bv h)) (hcp : 64 ≤ cp) :
    Calls Tryz.prog 76 [.slice (some ⟨g, o, none⟩) 64 cp].toArray w (Ret fun v w' => v = .agg #[.int .u64 (tagC h), .int .i64 (tagN h)] ∧ Below w.heap.size w w') := by
  have hB := Below.refl w.heap.size w
  have hBi := Below.refl w.heap.size w
  have h8 := hs.subB 0 8 (by omega)
  have h12 := hs.subB 8 4 (by omega)
  have g8 : ∀ q c w', SlAt w' q 8 1 (bv ((h.drop 0).take 8)) → Calls Tryz.prog 75 [.slice q 8 c].toArray w' (Ret fun v w2 => v = .int .u64 (hCount h) ∧ w' = w2) := fun q c w' hq => get36r q 8 c _ w' hq (by omega)
  have g4 : ∀ q c w', SlAt w' q 4 1 (bv ((h.drop 8).take 4)) → Calls Tryz.prog 75 [.slice q 4 c].toArray w' (Ret fun v w2 => v = .int .u64 (hNum h) ∧ w' = w2) := fun q c w' hq => get36r q 4 c _ w' hq (by omega)
  have hnb : hNum h < 4294967296 := numB_lt_of _ 4 (by simp; omega)
  have hT1 : ∀ b, mayT (hCount h) (hNum h) = b → tagC h = (bif b then hCount h else 0) ∧ tagN h = (bif b then hNum h else 0) := fun b hb => ⟨by rw [tagC, hb], by rw [tagN, hb]⟩
  generalize tagC h = tc at *
  generalize tagN h = tn at *
  generalize hCount h = c at *
  generalize hNum h = nn at *
  refine calls_W (fn := Tryz.f76) (rs := [.cell 2 86]) (n := 17) Tryz.func76 rfl rfl Tryz.ntmps76 (by kernel_rfl) rfl ?_
  refine W_seq ?_
  refine W_region ?_
  refine WR_mk rfl (mk_alloc ([.int .u64 0, .int .i64 0]) (by kernel_rfl) (fun g2 w2 hg2 hr2 hb2 => ?_))
  have ge_hB_g2 := Nat.le_trans hB.size hg2
  have ge_hBi_g2 := Nat.le_trans hBi.size hg2
  replace hB := hB.acc hb2
  replace hBi := hBi.acc hb2
  refine WR_nil ?_
  refine thenN ?_
  refine W_seq ?_
  refine W_draw' [] (by kernel_rfl) ?_
  intro w901 hb901 hS901
  replace hr2 := hr2.new hb901
  replace hB := hB.acc hb901
  replace hBi := hBi.acc hb901
  have hr2_d901 := hr2
  have hB_d901 := hB
  have hBi_d901 := hBi
  refine WA_take 0 (by kernel_rfl) rfl (fun _ _ => rn_move) ?_
  refine WA_take 1 (by kernel_rfl) rfl (fun _ _ => rn_sliceSl1' (e := 5) (0) (8) (_) (8) (by kernel_rfl) rfl rfl ⟨_, _, rfl, rfl⟩ rfl (by simp) (by omega) (by omega) (by omega) (by omega) (by omega)) ?_
  refine WA_call 2 (by kernel_rfl) rfl (fun _ => rn_call (by kernel_rfl) rfl) (fun w' hS' => g8 _ _ w' (h8.below (hBi_d901.kpd hS' (by first | (simp; done) | (simp; omega) | (simp [*]; done) | exact notLL (Or.inl (by omega)) | exact notLL (Or.inr (by simp)) | exact fun g hm => Nat.le_trans (by omega) (inLL hm).1 | (intro b o e; cases e; exact notLL (Or.inl (by omega))) | (intro b hm; have := (hu.lt b (Option.mem_toList.1 hm)).1; omega) | (intro b o e; cases e; intro hm; have := (hu.lt _ (Option.mem_toList.1 hm)).1; omega))) (Nat.le_refl _))) ?_
  refine WA_take 3 (by kernel_rfl) rfl (fun _ _ => rn_move) ?_
  refine WA_take 4 (by kernel_rfl) rfl (fun _ _ => rn_sliceSl1' (e := 5) (8) (12) (_) (4) (by kernel_rfl) rfl ⟨_, _, rfl, rfl⟩ ⟨_, _, rfl, rfl⟩ rfl (by simp) (by omega) (by omega) (by omega) (by omega) (by omega)) ?_
  refine WA_call 5 (by kernel_rfl) rfl (fun _ => rn_call (by kernel_rfl) rfl) (fun w' hS' => g4 _ _ w' (h12.below (hBi_d901.kpd hS' (by first | (simp; done) | (simp; omega) | (simp [*]; done) | exact notLL (Or.inl (by omega)) | exact notLL (Or.inr (by simp)) | exact fun g hm => Nat.le_trans (by omega) (inLL hm).1 | (intro b o e; cases e; exact notLL (Or.inl (by omega))) | (intro b hm; have := (hu.lt b (Option.mem_toList.1 hm)).1; omega) | (intro b o e; cases e; intro hm; have := (hu.lt _ (Option.mem_toList.1 hm)).1; omega))) (Nat.le_refl _))) ?_
  refine WA_take 6 (by kernel_rfl) rfl (fun _ _ => rn_conv (k := .i64) (by kernel_rfl) (by kernel_rfl) rfl (w64 (by omega))) ?_
  refine WA_take 7 (by kernel_rfl) rfl (fun _ _ => rn_pair (k0 := .u64) (k1 := .i64) (by kernel_rfl) (by kernel_rfl) rfl rfl) ?_
  refine WA_one 8 (by kernel_rfl) ?_
  refine WO_mk rfl rfl (mk_alloc ([.int .u64 0, .int .i64 0]) (by kernel_rfl) (fun g3 w3 hg3 hr3 hb3 => ?_))
  have hS902 := hS901.add0 hb3
  refine ⟨hS902, ?_⟩
  have ge_hS901_g3 := Nat.le_trans hS901.size hg3
  have ge_hB_g3 := Nat.le_trans hB.size hg3
  have ge_hBi_g3 := Nat.le_trans hBi.size hg3
  have lt_g2_g3 : g2 < g3 := Nat.lt_of_lt_of_le hr2.lt hg3
  replace hr2 := hr2.new hb3
  replace hB := hB.acc hb3
  replace hBi := hBi.acc hb3
  refine WA_one 9 (by kernel_rfl) ?_
  refine WO_sk rfl rfl (sk_storeA 2 ([.int .u64 c, .int .i64 nn]) rfl rfl hr3 (by kernel_rfl) (by first | assumption | (simp; done) | (simp [bv_length, *]; done)) (by first | assumption | (simp; done) | (simp [bv_length, *]; done) | rfl) (by first | exact bv_one _ | assumption | (simp [Value.oneCell']; done)) (fun w904 hr3 ho904 => ?_))
  have hS903 := hS902.add1 ho904 (by first | (left; omega) | (right; simp; done) | (right; simp; omega))
  refine ⟨hS903, ?_⟩
  replace hr2 := hr2.only ho904 (Nat.ne_of_lt lt_g2_g3)
  replace hB := ho904.below hB ge_hB_g3
  replace hBi := ho904.below hBi ge_hBi_g3
  refine WA_done (by kernel_rfl) ?_
  refine thenN ?_
  refine W_seq ?_
  refine W_seq ?_
  refine W_region ?_
  refine WR_val rfl (rn_load rfl (Ld.rowA (k := 2) hr3 (by kernel_rfl) (by kernel_rfl) rfl)) ?_
  refine WR_ent rfl (rn_call (by kernel_rfl) rfl) (may11r c nn w904) ?_
  rintro _ w13 ⟨rfl, hb13⟩
  replace hr2 := hr2.new hb13
  replace hr3 := hr3.new hb13
  replace hB := hB.acc hb13
  replace hBi := hBi.acc hb13
  refine WR_val rfl (rn_not rfl) ?_
  refine WR_nil ?_
  refine thenN ?_
  refine W_ifnb rfl (fun hm => ?_) (fun hm => ?_)
  ·
    refine W_seq ?_
    refine W_region ?_
    refine WR_val rfl (rn_zeroed ([Value.int .u64 0, Value.int .i64 0]) (by kernel_rfl)) ?_
    refine WR_sk rfl (sk_storeA 2 ([.int .u64 0, .int .i64 0]) rfl rfl hr2 (by kernel_rfl) (by first | assumption | (simp; done) | (simp [bv_length, *]; done)) (by first | assumption | (simp; done) | (simp [bv_length, *]; done) | rfl) (by first | exact bv_one _ | assumption | (simp [Value.oneCell']; done)) (fun w905 hr2 ho905 => ?_))
    replace hr3 := hr3.only ho905 (Nat.ne_of_gt lt_g2_g3)
    replace hB := ho905.below hB ge_hB_g2
    replace hBi := ho905.below hBi ge_hBi_g2
    refine WR_nil ?_
    refine thenN ?_
    refine W_ret ?_
    refine thenR ?_
    refine ret_ret [_] ⟨⟨_, rfl, Ld.rowA (k := 2) hr2 (by kernel_rfl) (by kernel_rfl) (by first | (simp; done) | (simp [bv_length, *]; done) | assumption)⟩, trivial⟩ ?_
    obtain ⟨rfl, rfl⟩ := hT1 _ hm
    exact ⟨rfl, hB⟩
  ·
    refine W_skip ?_
    refine thenN ?_
    refine W_seq ?_
    refine W_region ?_
    refine WR_val rfl (rn_load rfl (Ld.rowA (k := 2) hr3 (by kernel_rfl) (by kernel_rfl) rfl)) ?_
    refine WR_sk rfl (sk_storeA 2 ([.int .u64 c, .int .i64 nn]) rfl rfl hr2 (by kernel_rfl) (by first | assumption | (simp; done) | (simp [bv_length, *]; done)) (by first | assumption | (simp; done) | (simp [bv_length, *]; done) | rfl) (by first | exact bv_one _ | assumption | (simp [Value.oneCell']; done)) (fun w906 hr2 ho906 => ?_))
    replace hr3 := hr3.only ho906 (Nat.ne_of_gt lt_g2_g3)
    replace hB := ho906.below hB ge_hB_g2
    replace hBi := ho906.below hBi ge_hBi_g2
    refine WR_nil ?_
    refine thenN ?_
    refine W_ret ?_
    refine ret_ret [_] ⟨⟨_, rfl, Ld.rowA (k := 2) hr2 (by kernel_rfl) (by kernel_rfl) (by first | (simp; done) | (simp [bv_length, *]; done) | assumption)⟩, trivial⟩ ?_
    obtain ⟨rfl, rfl⟩ := hT1 _ hm
    exact ⟨rfl, hB⟩
end Go.Proofs.YtkkgahgpemepeaaGreat
