/- An amount of a text: the code's own parts. -/
import Derived.Test.YtknjiohhlemeiaaFareO
namespace Go.Proofs.Ytknjiohhlemeiaa
open Go Go.RowKit Coup

def isDig (b : UInt8) : Bool := decide (48 ≤ b.toNat) && decide (b.toNat ≤ 57)
def stepN (n : Int) (b : UInt8) : Int := min (10 * n + ((b.toNat : Int) - 48)) 1000000000001
def numD (l : List UInt8) : Int := l.foldl stepN 0
def headOk (l : List UInt8) : Bool := decide (l ≠ []) && (decide (l = [48]) || decide (l.head? ≠ some 48))
def wholeS (l : List UInt8) : Int × Bool := if l.all isDig = true then (numD l, headOk l) else (0, false)
theorem numD_snoc (l : List UInt8) (b : UInt8) : numD (l ++ [b]) = stepN (numD l) b := by simp [numD]
theorem numD_bounds : ∀ (l : List UInt8) (n : Int), 0 ≤ n ∧ n ≤ 1000000000001 → l.all isDig = true → 0 ≤ l.foldl stepN n ∧ l.foldl stepN n ≤ 1000000000001
  | [], n, h, _ => h
  | b :: l, n, h, hd => by
    simp only [List.all_cons, Bool.and_eq_true] at hd
    have hb := hd.1
    simp only [isDig, Bool.and_eq_true, decide_eq_true_eq] at hb
    exact numD_bounds l (stepN n b) (by unfold stepN; omega) hd.2
theorem all_not {l : List UInt8} {i : Nat} {b : UInt8} (h : l[i]? = some b) (hb : isDig b = false) : l.all isDig = false := by
  cases he : l.all isDig with
  | false => rfl
  | true => have := List.all_eq_true.1 he b (List.mem_of_getElem? h); rw [hb] at this; cases this
set_option maxHeartbeats 1000000 in
theorem whole36 (l : List UInt8) (w : World) : Calls Try.prog 36 [strOf l].toArray w (Ret fun v w' => v = .tuple #[.int .i64 (wholeS l).1, .bool (wholeS l).2] ∧ Below w.heap.size w w') := by
  have hB := Below.refl w.heap.size w
  refine calls_W (fn := Try.f36) (rs := [.tmp 2, .tmp 3]) (n := 37) Try.func36 rfl rfl Try.ntmps36 (by kernel_rfl) rfl ?_
  refine W_seq ?_
  refine W_region ?_
  refine WR_val rfl (rn_assign) ?_
  refine WR_val rfl (rn_assign) ?_
  refine WR_nil ?_
  refine thenN ?_
  refine W_seq ?_
  refine W_region ?_
  refine WR_val rfl (rn_assign) ?_
  refine WR_nil ?_
  refine thenN ?_
  refine W_seq ?_
  refine W_seq ?_
  refine W_region ?_
  refine WR_val rfl (rn_move) ?_
  refine WR_mk rfl (mk_range (l := l) (by kernel_rfl) rfl (fun g8 w8 hg8 hr8 hb8 => ?_))
  have ge_hB_g8 := Nat.le_trans hB.size hg8
  replace hB := hB.acc hb8
  refine WR_nil ?_
  refine thenN ?_
  refine W_block ?_
  refine W_loop (α := Nat) 0 (fun k => [(8, .pointer (some ⟨g8, 0, none⟩)), (4, .int .i64 (numD (l.take k))), (0, strOf l)]) (fun k w' => k ≤ l.length ∧ ItAt w' g8 l k ∧ (l.take k).all isDig = true ∧ Below w.heap.size w w') (fun k => l.length - k)
    ⟨rfl, rfl, rfl, rfl⟩ ⟨Nat.zero_le _, hr8, rfl, hB⟩ ?_
  clear hr8
  rintro i f wr ⟨hi, hr8, hall, hB⟩
  have hnb : 0 ≤ numD (l.take i) ∧ numD (l.take i) ≤ 1000000000001 := numD_bounds (l.take i) 0 (by decide) hall
  have hw8 : w.heap.size ≤ g8 := by omega
  have hcases : (∃ b, l[i]? = some b ∧ b.toNat < 128) ∨ (∃ b, l[i]? = some b ∧ 128 ≤ b.toNat) ∨ i = l.length := by
    by_cases hlt : i < l.length
    · have hg := List.getElem?_eq_getElem hlt
      by_cases ha : l[i].toNat < 128
      · exact Or.inl ⟨_, hg, ha⟩
      · exact Or.inr (Or.inl ⟨_, hg, by omega⟩)
    · exact Or.inr (Or.inr (by omega))
  rcases hcases with ⟨b, hb, ha⟩ | ⟨b, hb, ha⟩ | hend
  · have hil := (List.getElem?_eq_some_iff.1 hb).1
    refine W_seq ?_
    refine W_region ?_
    refine WR_mk rfl (mk_next hr8 rfl hb ha (fun w9 hr8 ho9 => ?_))
    replace hB := ho9.below hB ge_hB_g8
    refine WR_val rfl (rn_extract rfl rfl) ?_
    refine WR_nil ?_
    refine thenN ?_
    refine W_seq ?_
    refine W_t rfl ?_
    refine W_skip ?_
    refine thenN ?_
    refine W_block ?_
    refine W_seq ?_
    refine W_region ?_
    refine WR_val rfl (rn_extract rfl rfl) ?_
    refine WR_val rfl (rn_assign) ?_
    refine WR_nil ?_
    refine thenN ?_
    refine W_seq ?_
    refine W_seq ?_
    refine W_region ?_
    refine WR_val rfl (rn_move) ?_
    refine WR_val rfl (rn_lss rfl rfl) ?_
    refine WR_val rfl (rn_move) ?_
    refine WR_part 14 rfl (fun h48 => ?_) (fun h48 => ?_)
    ·
      refine WR_no rfl rfl ?_
      refine WR_no rfl rfl ?_
      refine WR_val rfl (rn_pick_t rfl) ?_
      refine WR_nil ?_
      refine thenN ?_
      refine W_t rfl ?_
      refine W_seq ?_
      refine W_region ?_
      refine WR_val rfl (rn_assign) ?_
      refine WR_val rfl (rn_assign) ?_
      refine WR_nil ?_
      refine thenN ?_
      refine W_ret ?_
      refine thenR ?_
      refine blockR ?_
      refine loopR ?_
      refine blockR ?_
      refine thenR ?_
      refine ret_ret [_, _] ⟨rfl, rfl, trivial⟩ ?_
      have hd : isDig b = false := by unfold isDig; simp; omega
      exact ⟨by rw [wholeS, if_neg (by rw [all_not hb hd]; simp)]; rfl, hB⟩
    ·
      refine WR_yes rfl ?_
      refine WR_val rfl (rn_move) ?_
      refine WR_yes rfl ?_
      refine WR_val rfl (rn_gtr rfl rfl) ?_
      refine WR_val rfl (rn_pick_f rfl) ?_
      refine WR_nil ?_
      refine thenN ?_
      refine W_ifp rfl (fun h57 => ?_) (fun h57 => ?_)
      ·
        refine W_seq ?_
        refine W_region ?_
        refine WR_val rfl (rn_assign) ?_
        refine WR_val rfl (rn_assign) ?_
        refine WR_nil ?_
        refine thenN ?_
        refine W_ret ?_
        refine thenR ?_
        refine blockR ?_
        refine loopR ?_
        refine blockR ?_
        refine thenR ?_
        refine ret_ret [_, _] ⟨rfl, rfl, trivial⟩ ?_
        have hd : isDig b = false := by unfold isDig; simp; omega
        exact ⟨by rw [wholeS, if_neg (by rw [all_not hb hd]; simp)]; rfl, hB⟩
      ·
        have hd : isDig b = true := by unfold isDig; simp; omega
        refine W_skip ?_
        refine thenN ?_
        refine W_region ?_
        refine WR_val rfl (rn_move) ?_
        refine WR_val rfl (rn_mul rfl rfl (Coup.w64 (by omega))) ?_
        refine WR_val rfl (rn_move) ?_
        refine WR_val rfl (rn_sub rfl rfl (show IntKind.i32.wrap (((b.toNat : Nat) : Int) - 48) = ((b.toNat : Nat) : Int) - 48 by rw [IntKind.wrap_i32]; omega)) ?_
        refine WR_val rfl (rn_conv (k := .i64) (by kernel_rfl) (by kernel_rfl) rfl (Coup.w64 (by omega))) ?_
        refine WR_val rfl (rn_add rfl rfl (Coup.w64 (by omega))) ?_
        refine WR_val rfl (rn_min2 rfl rfl) ?_
        refine WR_val rfl (rn_assign) ?_
        refine WR_nil ?_
        refine blockN ?_
        refine loopN ⟨i + 1, by omega, ⟨rfl, vi (by rw [take_snoc hb, numD_snoc]; rfl), rfl, rfl⟩, by omega, hr8, by rw [take_snoc hb, List.all_append, hall]; simp [hd], hB⟩
  · have hil := (List.getElem?_eq_some_iff.1 hb).1
    refine W_seq ?_
    refine W_region ?_
    refine WR_mk rfl (mk_nextBig hr8 rfl hb ha (fun c w9 hc ho9 => ?_))
    replace hB := ho9.below hB ge_hB_g8
    refine WR_val rfl (rn_extract rfl rfl) ?_
    refine WR_nil ?_
    refine thenN ?_
    refine W_seq ?_
    refine W_t rfl ?_
    refine W_skip ?_
    refine thenN ?_
    refine W_block ?_
    refine W_seq ?_
    refine W_region ?_
    refine WR_val rfl (rn_extract rfl rfl) ?_
    refine WR_val rfl (rn_assign) ?_
    refine WR_nil ?_
    refine thenN ?_
    refine W_seq ?_
    refine W_seq ?_
    refine W_region ?_
    refine WR_val rfl (rn_move) ?_
    refine WR_val rfl (rn_lss rfl rfl) ?_
    refine WR_val rfl (rn_move) ?_
    refine WR_fp 14 rfl ((by omega)) ?_
    refine WR_yes rfl ?_
    refine WR_val rfl (rn_move) ?_
    refine WR_yes rfl ?_
    refine WR_val rfl (rn_gtr rfl rfl) ?_
    refine WR_val rfl (rn_pick_f rfl) ?_
    refine WR_nil ?_
    refine thenN ?_
    refine W_tp rfl ((by omega)) ?_
    refine W_seq ?_
    refine W_region ?_
    refine WR_val rfl (rn_assign) ?_
    refine WR_val rfl (rn_assign) ?_
    refine WR_nil ?_
    refine thenN ?_
    refine W_ret ?_
    refine thenR ?_
    refine blockR ?_
    refine loopR ?_
    refine blockR ?_
    refine thenR ?_
    refine ret_ret [_, _] ⟨rfl, rfl, trivial⟩ ?_
    have hd : isDig b = false := by unfold isDig; simp; omega
    exact ⟨by rw [wholeS, if_neg (by rw [all_not hb hd]; simp)]; rfl, hB⟩
  · rw [List.take_of_length_le (by omega)] at hall hnb ⊢
    refine W_seq ?_
    refine W_region ?_
    refine WR_val rfl (rn_nextEnd hr8 rfl (by omega)) ?_
    refine WR_val rfl (rn_extract rfl rfl) ?_
    refine WR_nil ?_
    refine thenN ?_
    refine W_seq ?_
    refine W_f rfl ?_
    refine W_exit ?_
    refine thenX ?_
    refine loopX ?_
    refine blockX ?_
    refine thenN ?_
    refine W_seq ?_
    have hW : wholeS l = (numD l, headOk l) := by rw [wholeS, if_pos hall]
    refine W_draw' [] (by kernel_rfl) ?_
    intro w901 hb901 hS901
    replace hr8 := hr8.new hb901
    replace hB := hB.acc hb901
    have hr8_d901 := hr8
    have hB_d901 := hB
    refine WA_take 0 (by kernel_rfl) rfl (fun _ _ => rn_move) ?_
    refine WA_take 1 (by kernel_rfl) rfl (fun _ _ => rn_move) ?_
    refine WA_take 2 (by kernel_rfl) rfl (fun _ _ => rn_neqS rfl rfl) ?_
    refine WA_take 3 (by kernel_rfl) rfl (fun _ _ => rn_move) ?_
    refine WA_partn 28 rfl (fun hne => ?_) (fun hne => ?_)
    ·
      refine WA_take 4 (by kernel_rfl) rfl (fun _ _ => rn_move) ?_
      refine WA_take 5 (by kernel_rfl) rfl (fun _ _ => rn_eqlS rfl rfl) ?_
      refine WA_take 6 (by kernel_rfl) rfl (fun _ _ => rn_move) ?_
      refine WA_part 31 rfl (fun h48 => ?_) (fun h48 => ?_)
      ·
        refine WA_skip 7 (by kernel_rfl) rfl ?_
        refine WA_skip 8 (by kernel_rfl) rfl ?_
        refine WA_skip 9 (by kernel_rfl) rfl ?_
        refine WA_take 10 (by kernel_rfl) rfl (fun _ _ => rn_pick_t rfl) ?_
        refine WA_take 11 (by kernel_rfl) rfl (fun _ _ => rn_pick_t rfl) ?_
        refine WA_take 12 (by kernel_rfl) rfl (fun _ _ => rn_assign) ?_
        refine WA_take 13 (by kernel_rfl) rfl (fun _ _ => rn_assign) ?_
        refine WA_done (by kernel_rfl) ?_
        refine thenN ?_
        refine W_ret ?_
        refine ret_ret [_, _] ⟨rfl, rfl, trivial⟩ ?_
        refine ⟨?_, hB⟩
        rw [hW]
        exact congrArg (fun q => Value.tuple #[.int .i64 (numD l), .bool q]) (show true = headOk l by unfold headOk; rw [decide_eq_true h48, decide_eq_true hne]; rfl)
      ·
        obtain ⟨b0, hb0⟩ : ∃ b, l[0]? = some b := by
          cases l with
          | nil => exact absurd rfl hne
          | cons x l => exact ⟨x, rfl⟩
        refine WA_take 7 (by kernel_rfl) rfl (fun _ _ => rn_move) ?_
        refine WA_take 8 (by kernel_rfl) rfl (fun _ _ => rn_byteS (by kernel_rfl) rfl rfl 0 rfl hb0) ?_
        refine WA_take 9 (by kernel_rfl) rfl (fun _ _ => rn_neq rfl rfl) ?_
        refine WA_take 10 (by kernel_rfl) rfl (fun _ _ => rn_pick_f rfl) ?_
        refine WA_take 11 (by kernel_rfl) rfl (fun _ _ => rn_pick_t rfl) ?_
        refine WA_take 12 (by kernel_rfl) rfl (fun _ _ => rn_assign) ?_
        refine WA_take 13 (by kernel_rfl) rfl (fun _ _ => rn_assign) ?_
        refine WA_done (by kernel_rfl) ?_
        refine thenN ?_
        refine W_ret ?_
        refine ret_ret [_, _] ⟨rfl, rfl, trivial⟩ ?_
        refine ⟨?_, hB⟩
        rw [hW]
        refine congrArg (fun q => Value.tuple #[.int .i64 (numD l), .bool q]) (?_ : _ = headOk l)
        unfold headOk
        rw [decide_eq_false h48, decide_eq_true hne, Bool.true_and, Bool.false_or, decide_eq_decide, List.head?_eq_getElem?, hb0]
        constructor
        · intro h e; apply h; cases e; rfl
        · intro h e
          exact h (congrArg some (UInt8.toNat_inj.1 (by have : (b0.toNat : Int) = 48 := e; show b0.toNat = 48; omega)))
    ·
      refine WA_skip 4 (by kernel_rfl) rfl ?_
      refine WA_skip 5 (by kernel_rfl) rfl ?_
      refine WA_skip 6 (by kernel_rfl) rfl ?_
      refine WA_skip 7 (by kernel_rfl) rfl ?_
      refine WA_skip 8 (by kernel_rfl) rfl ?_
      refine WA_skip 9 (by kernel_rfl) rfl ?_
      refine WA_skip 10 (by kernel_rfl) rfl ?_
      refine WA_take 11 (by kernel_rfl) rfl (fun _ _ => rn_pick_f rfl) ?_
      refine WA_take 12 (by kernel_rfl) rfl (fun _ _ => rn_assign) ?_
      refine WA_take 13 (by kernel_rfl) rfl (fun _ _ => rn_assign) ?_
      refine WA_done (by kernel_rfl) ?_
      refine thenN ?_
      refine W_ret ?_
      refine ret_ret [_, _] ⟨rfl, rfl, trivial⟩ ?_
      refine ⟨?_, hB⟩
      rw [hW]
      refine congrArg (fun q => Value.tuple #[.int .i64 (numD l), .bool q]) (show false = headOk l from ?_)
      rw [hne]; rfl
theorem index_lt : ∀ (l : List UInt8) (c : UInt8) (i : Nat), Lib.indexByte l c = i → i < l.length
  | [], c, i, h => by simp [Lib.indexByte] at h
  | b :: l, c, i, h => by
    unfold Lib.indexByte at h
    split at h
    · simp; omega
    · split at h
      · omega
      · rename_i h1 h2
        have hne : Lib.indexByte l c ≠ -1 := by simpa using h2
        have := index_lt l c (i - 1) (by
          have : 0 < i := by
            rcases Nat.eq_zero_or_pos i with h0 | h0
            · subst h0
              have : Lib.indexByte l c = -1 := by omega
              exact absurd this hne
            · exact h0
          omega)
        simp; omega
theorem cutYes (l : List UInt8) (c : UInt8) (i : Nat) (w : World) (hl : l.length ≤ 1000000) (hi : Lib.indexByte l c = i) (hil : i < l.length) (hidx : Calls Try.prog 49 [strOf l, strOf [c]].toArray w (Ret fun v w' => v = .int .i64 (i : Int) ∧ w = w')) :
    Calls Try.prog 44 [strOf l, strOf [c]].toArray w (Ret fun v w' => (∃ i : Nat, Lib.indexByte l c = i ∧ i < l.length ∧ v = .tuple #[strOf (l.take i), strOf (l.drop (i + 1)), .bool true] ∧ Below w.heap.size w w') ∨ (Lib.indexByte l c < 0 ∧ v = .tuple #[strOf l, strOf [], .bool false] ∧ Below w.heap.size w w')) := by
  have hB := Below.refl w.heap.size w
  refine calls_W (fn := Try.f44) (rs := [.tmp 4, .tmp 5, .tmp 6]) (n := 23) Try.func44 rfl rfl Try.ntmps44 (by kernel_rfl) rfl ?_
  refine W_seq ?_
  refine W_region ?_
  refine WR_val rfl (rn_assign) ?_
  refine WR_val rfl (rn_assign) ?_
  refine WR_val rfl (rn_assign) ?_
  refine WR_nil ?_
  refine thenN ?_
  refine W_seq ?_
  refine W_seq ?_
  refine W_region ?_
  refine WR_val rfl (rn_move) ?_
  refine WR_val rfl (rn_move) ?_
  refine WR_ent rfl (rn_call (by kernel_rfl) rfl) (hidx) ?_
  rintro _ _ ⟨rfl, rfl⟩
  refine WR_val rfl (rn_assign) ?_
  refine WR_nil ?_
  refine thenN ?_
  refine W_seq ?_
  refine W_region ?_
  refine WR_val rfl (rn_move) ?_
  refine WR_val rfl (rn_geq rfl rfl) ?_
  refine WR_nil ?_
  refine thenN ?_
  refine W_tp rfl ((by omega)) ?_
  refine W_seq ?_
  refine W_draw' [] (by kernel_rfl) ?_
  intro w901 hb901 hS901
  replace hB := hB.acc hb901
  have hB_d901 := hB
  refine WA_take 0 (by kernel_rfl) rfl (fun _ _ => rn_move) ?_
  refine WA_take 1 (by kernel_rfl) rfl (fun _ _ => rn_move) ?_
  refine WA_take 2 (by kernel_rfl) rfl (fun _ _ => rn_sliceTo i (by kernel_rfl) rfl ⟨_, _, rfl, rfl⟩ (by omega)) ?_
  refine WA_take 3 (by kernel_rfl) rfl (fun _ _ => rn_move) ?_
  refine WA_take 4 (by kernel_rfl) rfl (fun _ _ => rn_move) ?_
  refine WA_take 5 (by kernel_rfl) rfl (fun _ _ => rn_move) ?_
  refine WA_take 6 (by kernel_rfl) rfl (fun _ _ => rn_len_string (l := [c]) (by kernel_rfl) rfl rfl) ?_
  refine WA_take 7 (by kernel_rfl) rfl (fun _ _ => rn_add rfl rfl (show IntKind.i64.wrap ((i : Int) + (([c].length : Nat) : Int)) = ((i + 1 : Nat) : Int) by rw [w64 (by simp; omega)]; simp)) ?_
  refine WA_take 8 (by kernel_rfl) rfl (fun _ _ => rn_sliceFrom (i + 1) (by kernel_rfl) rfl ⟨_, _, rfl, rfl⟩ (by omega)) ?_
  refine WA_take 9 (by kernel_rfl) rfl (fun _ _ => rn_assign) ?_
  refine WA_take 10 (by kernel_rfl) rfl (fun _ _ => rn_assign) ?_
  refine WA_take 11 (by kernel_rfl) rfl (fun _ _ => rn_assign) ?_
  refine WA_done (by kernel_rfl) ?_
  refine thenN ?_
  refine W_ret ?_
  refine thenR ?_
  refine ret_ret [_, _, _] ⟨rfl, rfl, rfl, trivial⟩ ?_
  exact Or.inl ⟨i, hi, hil, rfl, hB⟩
theorem cutNo (l : List UInt8) (c : UInt8) (w : World) (hi : Lib.indexByte l c < 0) (hidx : Calls Try.prog 49 [strOf l, strOf [c]].toArray w (Ret fun v w' => v = .int .i64 (Lib.indexByte l c) ∧ w = w')) :
    Calls Try.prog 44 [strOf l, strOf [c]].toArray w (Ret fun v w' => (∃ i : Nat, Lib.indexByte l c = i ∧ i < l.length ∧ v = .tuple #[strOf (l.take i), strOf (l.drop (i + 1)), .bool true] ∧ Below w.heap.size w w') ∨ (Lib.indexByte l c < 0 ∧ v = .tuple #[strOf l, strOf [], .bool false] ∧ Below w.heap.size w w')) := by
  have hB := Below.refl w.heap.size w
  refine calls_W (fn := Try.f44) (rs := [.tmp 4, .tmp 5, .tmp 6]) (n := 23) Try.func44 rfl rfl Try.ntmps44 (by kernel_rfl) rfl ?_
  refine W_seq ?_
  refine W_region ?_
  refine WR_val rfl (rn_assign) ?_
  refine WR_val rfl (rn_assign) ?_
  refine WR_val rfl (rn_assign) ?_
  refine WR_nil ?_
  refine thenN ?_
  refine W_seq ?_
  refine W_seq ?_
  refine W_region ?_
  refine WR_val rfl (rn_move) ?_
  refine WR_val rfl (rn_move) ?_
  refine WR_ent rfl (rn_call (by kernel_rfl) rfl) (hidx) ?_
  rintro _ _ ⟨rfl, rfl⟩
  refine WR_val rfl (rn_assign) ?_
  refine WR_nil ?_
  refine thenN ?_
  refine W_seq ?_
  refine W_region ?_
  refine WR_val rfl (rn_move) ?_
  refine WR_val rfl (rn_geq rfl rfl) ?_
  refine WR_nil ?_
  refine thenN ?_
  refine W_fp rfl ((by omega)) ?_
  refine W_skip ?_
  refine thenN ?_
  refine W_seq ?_
  refine W_region ?_
  refine WR_val rfl (rn_move) ?_
  refine WR_val rfl (rn_assign) ?_
  refine WR_val rfl (rn_assign) ?_
  refine WR_val rfl (rn_assign) ?_
  refine WR_nil ?_
  refine thenN ?_
  refine W_ret ?_
  refine ret_ret [_, _, _] ⟨rfl, rfl, rfl, trivial⟩ ?_
  exact Or.inr ⟨hi, rfl, hB⟩
theorem cut44 (l : List UInt8) (c : UInt8) (w : World) (hl : l.length ≤ 1000000) : Calls Try.prog 44 [strOf l, strOf [c]].toArray w
    (Ret fun v w' => (∃ i : Nat, Lib.indexByte l c = i ∧ i < l.length ∧ v = .tuple #[strOf (l.take i), strOf (l.drop (i + 1)), .bool true] ∧ Below w.heap.size w w') ∨ (Lib.indexByte l c < 0 ∧ v = .tuple #[strOf l, strOf [], .bool false] ∧ Below w.heap.size w w')) := by
  have hB := Below.refl w.heap.size w
  have hidx : Calls Try.prog 49 [strOf l, strOf [c]].toArray w (Ret fun v w' => v = .int .i64 (Lib.indexByte l c) ∧ w = w') := (calls_ret (Try.stringslite_Index_one ⟨l.toArray⟩ c w)).to fun v w' h => ⟨h.1, h.2.symm⟩
  by_cases h0 : 0 ≤ Lib.indexByte l c
  · obtain ⟨i, hi⟩ : ∃ i : Nat, Lib.indexByte l c = i := ⟨(Lib.indexByte l c).toNat, by omega⟩
    have hil := index_lt l c i hi
    exact cutYes l c i w hl hi hil (hi ▸ hidx)
  · exact cutNo l c w (by omega) hidx
end Go.Proofs.Ytknjiohhlemeiaa
