/- Texts of one proof, laid one behind the other: WalM, WalN, Vm22, WalO, WalP, WalQ, Vm23, WalR, WalS, WalT, WalU, WalV, WalW, WalX, WalY, WalZ, WalZa, WalZb, WalZc, WalZk, WalZl, WalZd, WalZe, WalZh, WalZi. -/
import Derived.Test.YtkkgahgpemepeaaM3
import Derived.Test.YtkkgahgpemepeaaM0
import Derived.Lib.SlBytesConst
import Derived.Test.YtkkgahgpemepeaaM2
/- A log opened. -/
namespace Go.Proofs.Ytkkgahgpemepeaa
open Go Go.RowKit Coup

theorem rn_built3 {P : Program} {ρ : Env} {w : World} {d : Option Nat} {ty : TypeId} {pos : String} {af : Array Edge} {gd : Option (Nat × Bool)} {t i j k : Nat} {x y z : Operand} (v u s : Value) (cs : List Value) (hx : ev ρ x = v) (hy : ev ρ y = u) (hz : ev ρ z = s) (hb : P.built t [(i, v), (j, u), (k, s)] = some cs.toArray) :
    (execOp (ev ρ) ⟨d, .build t #[(i, x), (j, y), (k, z)], ty, pos, af, gd⟩).run P w = .ok (.value (.agg cs.toArray)) w := by
  have := run_build (P := P) w t #[(i, v), (j, u), (k, s)] cs.toArray (by simpa using hb)
  simp only [execOp, List.map_toArray, List.map_cons, List.map_nil, hx, hy, hz, Sem.run_bind, this, Result.andThen_ok]
  rfl
theorem two_left {X Y Z : World → List Nat → Prop} {lo : Nat} {L : List Nat} {w : World} (h : Two X (AndZ Y Z) lo L w) : Two X Y lo L w := by
  obtain ⟨⟨B, _, h1, ⟨C1, C2, rfl, h2, _⟩, h3, h4⟩, h5, h6⟩ := h
  exact ⟨⟨B, C1, h1, h2, fun b hb => ⟨(h3 b hb).1, fun hm => (h3 b hb).2.1 (List.mem_append_left _ hm), (h3 b hb).2.2⟩, fun b hb => h4 b (List.mem_append_left _ hb)⟩, h5, h6⟩
/-- What a disk's head says of a log on it; why none is opened. -/
def openE (D : Dk) (n : Int) : Int := if fitsN D.V.length n then (if hdIs (readD D 0) then (if hdC (readD D 0) = 4611686018427387904 then 8 else 0) else 6) else 2
def headG (D : Dk) (n : Int) : Lg := ⟨hdC (readD D 0), hdS (readD D 0), n.toNat, 0, 0, false⟩
section
variable {Y : World → List Nat → Prop} [Thing Y] {g lo : Nat} {L : List Nat} {D : Dk} {w : World}
def noLog (e : Int) : Value := .tuple #[.pointer none, .slice none 0 0, .int .i64 e]
set_option maxRecDepth 20000 in
omit [Thing Y] in
theorem openNo2 (h : Two (DZ g D) Y lo L w) (n : Int) (hn : wf64 n) (hft : fitsN D.V.length n = false) :
    Calls Try.prog 24 [.pointer (some ⟨g, 0, none⟩), .int .i64 n].toArray w (Ret fun v w' => v = noLog 2 ∧ Below w.heap.size w w') := by
  have hB := Below.refl w.heap.size w
  have hM := may49 h n hn
  rw [hft] at hM
  refine calls_W (fn := Try.f24) (rs := [.tmp 4, .tmp 5, .tmp 6]) (n := 64) Try.func24 rfl rfl Try.ntmps24 (by kernel_rfl) rfl ?_
  refine W_seq ?_
  refine W_region ?_
  refine WR_val rfl (rn_assign) ?_
  refine WR_val rfl (rn_assign) ?_
  refine WR_val rfl (rn_assign) ?_
  refine WR_nil ?_
  refine thenN ?_
  refine W_seq ?_
  refine W_seq ?_
  refine W_region ?_
  refine WR_val rfl (rn_move) ?_
  refine WR_val rfl (rn_move) ?_
  refine WR_ent rfl (rn_call (by kernel_rfl) rfl) (hM) ?_
  rintro _ _ ⟨rfl, rfl⟩
  refine WR_val rfl (rn_assign) ?_
  refine WR_nil ?_
  refine thenN ?_
  refine W_seq ?_
  refine W_region ?_
  refine WR_val rfl (rn_move) ?_
  refine WR_val rfl (rn_neq rfl rfl) ?_
  refine WR_nil ?_
  refine thenN ?_
  refine W_tp rfl ((by simp)) ?_
  refine W_seq ?_
  refine W_region ?_
  refine WR_val rfl (rn_move) ?_
  refine WR_val rfl (rn_assign) ?_
  refine WR_val rfl (rn_assign) ?_
  refine WR_val rfl (rn_assign) ?_
  refine WR_nil ?_
  refine thenN ?_
  refine W_ret ?_
  refine thenR ?_
  refine ret_ret [_, _, _] ⟨rfl, rfl, rfl, trivial⟩ ?_
  exact ⟨rfl, hB⟩
set_option maxRecDepth 20000 in
theorem openNo6 (h : Two (DZ g D) Y lo L w) (n : Int) (hn : wf64 n) (hft : fitsN D.V.length n = true) (his : hdIs (readD D 0) = false) :
    Calls Try.prog 24 [.pointer (some ⟨g, 0, none⟩), .int .i64 n].toArray w (Ret fun v w' => v = noLog 6 ∧ Below w.heap.size w w') := by
  have hB := Below.refl w.heap.size w
  have hM := may49 h n hn
  rw [hft] at hM
  have hpos := (tOk h).2
  have hin : inD D 0 = true := decide_eq_true ⟨by omega, by omega⟩
  have hrd := fun w' (hb : Below w.heap.size w w') => tRead (h.new hb) 0
  rw [hin, if_pos rfl, if_pos rfl] at hrd
  have hsl := readD_len (tOk h).1 hpos
  have hz : (0 : Int).toNat = 0 := rfl
  rw [hz] at hrd
  have hhd := fun w' => headOf51 (readD D 0) w' hsl
  rw [his] at hhd
  generalize readD D 0 = s at *
  refine calls_W (fn := Try.f24) (rs := [.tmp 4, .tmp 5, .tmp 6]) (n := 64) Try.func24 rfl rfl Try.ntmps24 (by kernel_rfl) rfl ?_
  refine W_seq ?_
  refine W_region ?_
  refine WR_val rfl (rn_assign) ?_
  refine WR_val rfl (rn_assign) ?_
  refine WR_val rfl (rn_assign) ?_
  refine WR_nil ?_
  refine thenN ?_
  refine W_seq ?_
  refine W_seq ?_
  refine W_region ?_
  refine WR_val rfl (rn_move) ?_
  refine WR_val rfl (rn_move) ?_
  refine WR_ent rfl (rn_call (by kernel_rfl) rfl) (hM) ?_
  rintro _ _ ⟨rfl, rfl⟩
  refine WR_val rfl (rn_assign) ?_
  refine WR_nil ?_
  refine thenN ?_
  refine W_seq ?_
  refine W_region ?_
  refine WR_val rfl (rn_move) ?_
  refine WR_val rfl (rn_neq rfl rfl) ?_
  refine WR_nil ?_
  refine thenN ?_
  refine W_fp rfl ((by simp)) ?_
  refine W_skip ?_
  refine thenN ?_
  refine W_seq ?_
  refine W_region ?_
  refine WR_val rfl (rn_move) ?_
  refine WR_ent rfl (rn_call (by kernel_rfl) rfl) (hrd _ hB) ?_
  rintro _ w22 ⟨rfl, hb22⟩
  replace hB := hB.acc hb22
  refine WR_val rfl (rn_move) ?_
  refine WR_val rfl (rn_extract rfl rfl) ?_
  refine WR_val rfl (rn_extract rfl rfl) ?_
  refine WR_mk rfl (mk_alloc (List.replicate 128 (Value.int .u8 0)) (by kernel_rfl) (fun g8 w8 hg8 hr8 hb8 => ?_))
  have ge_hB_g8 := Nat.le_trans hB.size hg8
  replace hB := hB.acc hb8
  refine WR_sk rfl (sk_storeA 128 (bv s) rfl rfl hr8 (by kernel_rfl) (by first | assumption | (simp; done) | (simp [bv_length, *]; done)) (by first | assumption | (simp; done) | (simp [bv_length, *]; done) | rfl) (by first | exact bv_one _ | assumption | (simp [Value.oneCell']; done)) (fun w901 hr8 ho901 => ?_))
  replace hB := ho901.below hB ge_hB_g8
  refine WR_val rfl (rn_assign) ?_
  refine WR_nil ?_
  refine thenN ?_
  refine W_seq ?_
  refine W_seq ?_
  refine W_region ?_
  refine WR_val rfl (rn_move) ?_
  refine WR_val rfl (rn_neq rfl rfl) ?_
  refine WR_nil ?_
  refine thenN ?_
  refine W_fp rfl ((by simp)) ?_
  refine W_skip ?_
  refine thenN ?_
  refine W_seq ?_
  refine W_region ?_
  refine WR_val rfl (rn_load rfl (Ld.rowA (k := 128) hr8 (by kernel_rfl) (by kernel_rfl) (by rw [bv_length, hsl]))) ?_
  refine WR_ent rfl (rn_call (by kernel_rfl) rfl) (hhd w901) ?_
  rintro _ w30 ⟨rfl, hb30⟩
  replace hr8 := hr8.new hb30
  replace hB := hB.acc hb30
  refine WR_val rfl (rn_move) ?_
  refine WR_val rfl (rn_extract rfl rfl) ?_
  refine WR_val rfl (rn_extract rfl rfl) ?_
  refine WR_mk rfl (mk_alloc ([Value.int .u64 0, Value.int .u64 0]) (by kernel_rfl) (fun g10 w10 hg10 hr10 hb10 => ?_))
  have ge_hB_g10 := Nat.le_trans hB.size hg10
  have lt_g8_g10 : g8 < g10 := Nat.lt_of_lt_of_le hr8.lt hg10
  replace hr8 := hr8.new hb10
  replace hB := hB.acc hb10
  refine WR_sk rfl (sk_storeA 2 ([.int .u64 (hdC s : Int), .int .u64 (hdS s : Int)]) rfl rfl hr10 (by kernel_rfl) (by first | assumption | (simp; done) | (simp [bv_length, *]; done)) (by first | assumption | (simp; done) | (simp [bv_length, *]; done) | rfl) (by first | exact bv_one _ | assumption | (simp [Value.oneCell']; done)) (fun w902 hr10 ho902 => ?_))
  replace hr8 := hr8.only ho902 (Nat.ne_of_lt lt_g8_g10)
  replace hB := ho902.below hB ge_hB_g10
  refine WR_val rfl (rn_assign) ?_
  refine WR_nil ?_
  refine thenN ?_
  refine W_seq ?_
  refine W_block ?_
  refine W_seq ?_
  refine W_region ?_
  refine WR_val rfl (rn_move) ?_
  refine WR_val rfl (rn_not rfl) ?_
  refine WR_val rfl (rn_assign) ?_
  refine WR_nil ?_
  refine thenN ?_
  refine W_tnb rfl (rfl) ?_
  refine W_seq ?_
  refine W_region ?_
  refine WR_val rfl (rn_assign) ?_
  refine WR_val rfl (rn_assign) ?_
  refine WR_val rfl (rn_assign) ?_
  refine WR_nil ?_
  refine thenN ?_
  refine W_ret ?_
  refine blockR ?_
  refine thenR ?_
  refine ret_ret [_, _, _] ⟨rfl, rfl, rfl, trivial⟩ ?_
  exact ⟨rfl, hB⟩
set_option maxRecDepth 20000 in
theorem openNo8 (h : Two (DZ g D) Y lo L w) (n : Int) (hn : wf64 n) (hft : fitsN D.V.length n = true) (his : hdIs (readD D 0) = true) (hC : hdC (readD D 0) = 4611686018427387904) :
    Calls Try.prog 24 [.pointer (some ⟨g, 0, none⟩), .int .i64 n].toArray w (Ret fun v w' => v = noLog 8 ∧ Below w.heap.size w w') := by
  have hB := Below.refl w.heap.size w
  have hM := may49 h n hn
  rw [hft] at hM
  have hpos := (tOk h).2
  have hin : inD D 0 = true := decide_eq_true ⟨by omega, by omega⟩
  have hrd := fun w' (hb : Below w.heap.size w w') => tRead (h.new hb) 0
  rw [hin, if_pos rfl, if_pos rfl] at hrd
  have hsl := readD_len (tOk h).1 hpos
  have hz : (0 : Int).toNat = 0 := rfl
  rw [hz] at hrd
  have hhd := fun w' => headOf51 (readD D 0) w' hsl
  rw [his] at hhd
  generalize readD D 0 = s at *
  refine calls_W (fn := Try.f24) (rs := [.tmp 4, .tmp 5, .tmp 6]) (n := 64) Try.func24 rfl rfl Try.ntmps24 (by kernel_rfl) rfl ?_
  refine W_seq ?_
  refine W_region ?_
  refine WR_val rfl (rn_assign) ?_
  refine WR_val rfl (rn_assign) ?_
  refine WR_val rfl (rn_assign) ?_
  refine WR_nil ?_
  refine thenN ?_
  refine W_seq ?_
  refine W_seq ?_
  refine W_region ?_
  refine WR_val rfl (rn_move) ?_
  refine WR_val rfl (rn_move) ?_
  refine WR_ent rfl (rn_call (by kernel_rfl) rfl) (hM) ?_
  rintro _ _ ⟨rfl, rfl⟩
  refine WR_val rfl (rn_assign) ?_
  refine WR_nil ?_
  refine thenN ?_
  refine W_seq ?_
  refine W_region ?_
  refine WR_val rfl (rn_move) ?_
  refine WR_val rfl (rn_neq rfl rfl) ?_
  refine WR_nil ?_
  refine thenN ?_
  refine W_fp rfl ((by simp)) ?_
  refine W_skip ?_
  refine thenN ?_
  refine W_seq ?_
  refine W_region ?_
  refine WR_val rfl (rn_move) ?_
  refine WR_ent rfl (rn_call (by kernel_rfl) rfl) (hrd _ hB) ?_
  rintro _ w22 ⟨rfl, hb22⟩
  replace hB := hB.acc hb22
  refine WR_val rfl (rn_move) ?_
  refine WR_val rfl (rn_extract rfl rfl) ?_
  refine WR_val rfl (rn_extract rfl rfl) ?_
  refine WR_mk rfl (mk_alloc (List.replicate 128 (Value.int .u8 0)) (by kernel_rfl) (fun g8 w8 hg8 hr8 hb8 => ?_))
  have ge_hB_g8 := Nat.le_trans hB.size hg8
  replace hB := hB.acc hb8
  refine WR_sk rfl (sk_storeA 128 (bv s) rfl rfl hr8 (by kernel_rfl) (by first | assumption | (simp; done) | (simp [bv_length, *]; done)) (by first | assumption | (simp; done) | (simp [bv_length, *]; done) | rfl) (by first | exact bv_one _ | assumption | (simp [Value.oneCell']; done)) (fun w901 hr8 ho901 => ?_))
  replace hB := ho901.below hB ge_hB_g8
  refine WR_val rfl (rn_assign) ?_
  refine WR_nil ?_
  refine thenN ?_
  refine W_seq ?_
  refine W_seq ?_
  refine W_region ?_
  refine WR_val rfl (rn_move) ?_
  refine WR_val rfl (rn_neq rfl rfl) ?_
  refine WR_nil ?_
  refine thenN ?_
  refine W_fp rfl ((by simp)) ?_
  refine W_skip ?_
  refine thenN ?_
  refine W_seq ?_
  refine W_region ?_
  refine WR_val rfl (rn_load rfl (Ld.rowA (k := 128) hr8 (by kernel_rfl) (by kernel_rfl) (by rw [bv_length, hsl]))) ?_
  refine WR_ent rfl (rn_call (by kernel_rfl) rfl) (hhd w901) ?_
  rintro _ w30 ⟨rfl, hb30⟩
  replace hr8 := hr8.new hb30
  replace hB := hB.acc hb30
  refine WR_val rfl (rn_move) ?_
  refine WR_val rfl (rn_extract rfl rfl) ?_
  refine WR_val rfl (rn_extract rfl rfl) ?_
  refine WR_mk rfl (mk_alloc ([Value.int .u64 0, Value.int .u64 0]) (by kernel_rfl) (fun g10 w10 hg10 hr10 hb10 => ?_))
  have ge_hB_g10 := Nat.le_trans hB.size hg10
  have lt_g8_g10 : g8 < g10 := Nat.lt_of_lt_of_le hr8.lt hg10
  replace hr8 := hr8.new hb10
  replace hB := hB.acc hb10
  refine WR_sk rfl (sk_storeA 2 ([.int .u64 (hdC s : Int), .int .u64 (hdS s : Int)]) rfl rfl hr10 (by kernel_rfl) (by first | assumption | (simp; done) | (simp [bv_length, *]; done)) (by first | assumption | (simp; done) | (simp [bv_length, *]; done) | rfl) (by first | exact bv_one _ | assumption | (simp [Value.oneCell']; done)) (fun w902 hr10 ho902 => ?_))
  replace hr8 := hr8.only ho902 (Nat.ne_of_lt lt_g8_g10)
  replace hB := ho902.below hB ge_hB_g10
  refine WR_val rfl (rn_assign) ?_
  refine WR_nil ?_
  refine thenN ?_
  refine W_seq ?_
  refine W_block ?_
  refine W_seq ?_
  refine W_region ?_
  refine WR_val rfl (rn_move) ?_
  refine WR_val rfl (rn_not rfl) ?_
  refine WR_val rfl (rn_assign) ?_
  refine WR_nil ?_
  refine thenN ?_
  refine W_fnb rfl (rfl) ?_
  refine W_seq ?_
  refine W_region ?_
  refine WR_val rfl (rn_fieldAddr (off := 0) (by kernel_rfl) rfl) ?_
  refine WR_val rfl (rn_load rfl (Ld.row1 hr10 (by kernel_rfl) rfl)) ?_
  refine WR_val rfl (rn_eql rfl rfl) ?_
  refine WR_val rfl (rn_assign) ?_
  refine WR_nil ?_
  refine thenN ?_
  refine W_tp rfl ((by omega)) ?_
  refine W_seq ?_
  refine W_region ?_
  refine WR_val rfl (rn_assign) ?_
  refine WR_val rfl (rn_assign) ?_
  refine WR_val rfl (rn_assign) ?_
  refine WR_nil ?_
  refine thenN ?_
  refine W_ret ?_
  refine blockR ?_
  refine thenR ?_
  refine ret_ret [_, _, _] ⟨rfl, rfl, rfl, trivial⟩ ?_
  exact ⟨rfl, hB⟩
theorem openNo (h : Two (DZ g D) Y lo L w) (n : Int) (hn : wf64 n) (he : openE D n ≠ 0) :
    Calls Try.prog 24 [.pointer (some ⟨g, 0, none⟩), .int .i64 n].toArray w (Ret fun v w' => v = noLog (openE D n) ∧ Below w.heap.size w w') := by
  unfold openE at he ⊢
  cases hft : fitsN D.V.length n with
  | false => exact openNo2 h n hn hft
  | true =>
    cases his : hdIs (readD D 0) with
    | false => exact openNo6 h n hn hft his
    | true =>
      by_cases hC : hdC (readD D 0) = 4611686018427387904
      · rw [if_pos rfl, if_pos rfl, if_pos hC]; exact openNo8 h n hn hft his hC
      · rw [if_pos hft, if_pos his, if_neg hC] at he; exact absurd rfl he
set_option maxRecDepth 20000 in
set_option maxHeartbeats 1000000 in
theorem openYes (h : Two (DZ g D) Y lo L w) (n : Nat) (he : openE D n = 0) (hsh : shortD D 90000) :
    Calls Try.prog 24 [.pointer (some ⟨g, 0, none⟩), .int .i64 (n : Int)].toArray w (Ret fun v w' => ∃ ok D2 C s S, saveE D (C + 1) s = ok ∧ saveD D (C + 1) s = D2 ∧ hdC (readD D 0) = C ∧ hdS (readD D 0) = s ∧ recsOf D (headG D n) = S ∧ LoL lo L w w' ∧
      ((ok = false ∧ v = noLog 10 ∧ Two (DZ g D2) Y lo L w') ∨ (ok = true ∧ ∃ x p c, v = .tuple #[.pointer (some ⟨x, 0, none⟩), .slice p S.length c, .int .i64 0] ∧ S.length ≤ c ∧
        LgAt g x (AndZ Y (AllZ p S)) lo L D2 ⟨C + 1, s, n, S.length, atS S, false⟩ w'))) := by
  have hfit : fitsN D.V.length n = true := Decidable.byContradiction fun hc => by
    unfold openE at he; rw [if_neg hc] at he; cases he
  have his : hdIs (readD D 0) = true := Decidable.byContradiction fun hc => by
    unfold openE at he; rw [if_pos hfit, if_neg hc] at he; cases he
  have hCn : hdC (readD D 0) ≠ 4611686018427387904 := fun hc => by
    unfold openE at he; rw [if_pos hfit, if_pos his] at he; rw [if_pos hc] at he; cases he
  have hft := of_decide_eq_true hfit
  have hi2 := his
  rw [hdIs, Bool.and_eq_true, Bool.and_eq_true, Bool.and_eq_true] at hi2
  have hs1 := of_decide_eq_true hi2.1.1.2
  have hsc := of_decide_eq_true hi2.1.2
  have hcm := of_decide_eq_true hi2.2
  have hB := Below.refl w.heap.size w
  have hM := may49 h n ⟨by omega, by omega⟩
  rw [hfit] at hM
  have hpos := (tOk h).2
  have hin : inD D 0 = true := decide_eq_true ⟨by omega, by omega⟩
  have hrd := fun w' (hb : Below w.heap.size w w') => tRead (h.new hb) 0
  rw [hin, if_pos rfl, if_pos rfl] at hrd
  have hsl := readD_len (tOk h).1 hpos
  have hz : (0 : Int).toNat = 0 := rfl
  rw [hz] at hrd
  have hhd := fun w' => headOf51 (readD D 0) w' hsl
  rw [his] at hhd
  have hHG : headG D n = ⟨hdC (readD D 0), hdS (readD D 0), n, 0, 0, false⟩ := by rw [headG, Int.toNat_natCast]
  obtain ⟨C, hC⟩ : ∃ C, hdC (readD D 0) = C := ⟨_, rfl⟩
  obtain ⟨s, hS⟩ : ∃ s, hdS (readD D 0) = s := ⟨_, rfl⟩
  rw [hC, hS] at hHG hhd
  rw [hC] at hCn hsc hcm
  rw [hS] at hsc hs1
  obtain ⟨S, hR⟩ : ∃ S, recsOf D (headG D n) = S := ⟨_, rfl⟩
  have hrec := fun (x : Nat) (w' : World) (h : LgAt g x Y lo L D ⟨C, s, n, 0, 0, false⟩ w') => read52 h ⟨hs1, hsc, hcm, by show 4 ≤ n; omega, by show n ≤ 4000; omega, Nat.zero_le _, Nat.le_refl _, by show 1 + n ≤ _; omega⟩ rfl rfl
  rw [← hHG, hR, hHG] at hrec
  dsimp only at hrec
  obtain ⟨ok, hok⟩ : ∃ ok, saveE D (C + 1) s = ok := ⟨_, rfl⟩
  obtain ⟨D2, hD2⟩ : ∃ D2, saveD D (C + 1) s = D2 := ⟨_, rfl⟩
  have hnx := fun (x : Nat) (p : Option Addr) (w' : World) (h : LgAt g x (AndZ Y (AllZ p S)) lo L D ⟨C, s, n, S.length, atS S, false⟩ w') => next48 h s (by show C + 1 < _; omega) (by omega) hsh
  dsimp only at hnx
  rw [hok, hD2] at hnx
  generalize readD D 0 = sc at *
  have hlo := h.lo
  have hlt := h.lt
  have hLL := LoL.refl lo L w
  have hD := h
  refine Calls.to (R := fun v w' => LoL lo L w w' ∧ ((ok = false ∧ v = noLog 10 ∧ Two (DZ g D2) Y lo L w') ∨ (ok = true ∧ ∃ x p c, v = .tuple #[.pointer (some ⟨x, 0, none⟩), .slice p S.length c, .int .i64 0] ∧ S.length ≤ c ∧
        LgAt g x (AndZ Y (AllZ p S)) lo L D2 ⟨C + 1, s, n, S.length, atS S, false⟩ w'))) ?_ (fun v w' hh => ⟨ok, D2, C, s, S, hok, hD2, hC, hS, hR, hh.1, hh.2⟩)
  clear he
  refine calls_W (fn := Try.f24) (rs := [.tmp 4, .tmp 5, .tmp 6]) (n := 64) Try.func24 rfl rfl Try.ntmps24 (by kernel_rfl) rfl ?_
  refine W_seq ?_
  refine W_region ?_
  refine WR_val rfl (rn_assign) ?_
  refine WR_val rfl (rn_assign) ?_
  refine WR_val rfl (rn_assign) ?_
  refine WR_nil ?_
  refine thenN ?_
  refine W_seq ?_
  refine W_seq ?_
  refine W_region ?_
  refine WR_val rfl (rn_move) ?_
  refine WR_val rfl (rn_move) ?_
  refine WR_ent rfl (rn_call (by kernel_rfl) rfl) (hM) ?_
  rintro _ _ ⟨rfl, rfl⟩
  refine WR_val rfl (rn_assign) ?_
  refine WR_nil ?_
  refine thenN ?_
  refine W_seq ?_
  refine W_region ?_
  refine WR_val rfl (rn_move) ?_
  refine WR_val rfl (rn_neq rfl rfl) ?_
  refine WR_nil ?_
  refine thenN ?_
  refine W_fp rfl ((by simp)) ?_
  refine W_skip ?_
  refine thenN ?_
  refine W_seq ?_
  refine W_region ?_
  refine WR_val rfl (rn_move) ?_
  refine WR_ent rfl (rn_call (by kernel_rfl) rfl) (hrd _ hB) ?_
  rintro _ w22 ⟨rfl, hb22⟩
  replace hLL := hLL.new hb22
  replace hB := hB.acc hb22
  refine WR_val rfl (rn_move) ?_
  refine WR_val rfl (rn_extract rfl rfl) ?_
  refine WR_val rfl (rn_extract rfl rfl) ?_
  refine WR_mk rfl (mk_alloc (List.replicate 128 (Value.int .u8 0)) (by kernel_rfl) (fun g8 w8 hg8 hr8 hb8 => ?_))
  have ge_hB_g8 := Nat.le_trans hB.size hg8
  replace hLL := hLL.new hb8
  replace hB := hB.acc hb8
  refine WR_sk rfl (sk_storeA 128 (bv sc) rfl rfl hr8 (by kernel_rfl) (by first | assumption | (simp; done) | (simp [bv_length, *]; done)) (by first | assumption | (simp; done) | (simp [bv_length, *]; done) | rfl) (by first | exact bv_one _ | assumption | (simp [Value.oneCell']; done)) (fun w901 hr8 ho901 => ?_))
  replace hLL := hLL.only ho901 (by first | omega | (right; exact ⟨by omega, by assumption⟩))
  replace hB := ho901.below hB ge_hB_g8
  refine WR_val rfl (rn_assign) ?_
  refine WR_nil ?_
  refine thenN ?_
  refine W_seq ?_
  refine W_seq ?_
  refine W_region ?_
  refine WR_val rfl (rn_move) ?_
  refine WR_val rfl (rn_neq rfl rfl) ?_
  refine WR_nil ?_
  refine thenN ?_
  refine W_fp rfl ((by simp)) ?_
  refine W_skip ?_
  refine thenN ?_
  refine W_seq ?_
  refine W_region ?_
  refine WR_val rfl (rn_load rfl (Ld.rowA (k := 128) hr8 (by kernel_rfl) (by kernel_rfl) (by rw [bv_length, hsl]))) ?_
  refine WR_ent rfl (rn_call (by kernel_rfl) rfl) (hhd w901) ?_
  rintro _ w30 ⟨rfl, hb30⟩
  replace hLL := hLL.new hb30
  replace hr8 := hr8.new hb30
  replace hB := hB.acc hb30
  refine WR_val rfl (rn_move) ?_
  refine WR_val rfl (rn_extract rfl rfl) ?_
  refine WR_val rfl (rn_extract rfl rfl) ?_
  refine WR_mk rfl (mk_alloc ([Value.int .u64 0, Value.int .u64 0]) (by kernel_rfl) (fun g10 w10 hg10 hr10 hb10 => ?_))
  have ge_hB_g10 := Nat.le_trans hB.size hg10
  have lt_g8_g10 : g8 < g10 := Nat.lt_of_lt_of_le hr8.lt hg10
  replace hLL := hLL.new hb10
  replace hr8 := hr8.new hb10
  replace hB := hB.acc hb10
  refine WR_sk rfl (sk_storeA 2 ([.int .u64 (C : Int), .int .u64 (s : Int)]) rfl rfl hr10 (by kernel_rfl) (by first | assumption | (simp; done) | (simp [bv_length, *]; done)) (by first | assumption | (simp; done) | (simp [bv_length, *]; done) | rfl) (by first | exact bv_one _ | assumption | (simp [Value.oneCell']; done)) (fun w902 hr10 ho902 => ?_))
  replace hLL := hLL.only ho902 (by first | omega | (right; exact ⟨by omega, by assumption⟩))
  replace hr8 := hr8.only ho902 (Nat.ne_of_lt lt_g8_g10)
  replace hB := ho902.below hB ge_hB_g10
  refine WR_val rfl (rn_assign) ?_
  refine WR_nil ?_
  refine thenN ?_
  refine W_seq ?_
  refine W_block ?_
  refine W_seq ?_
  refine W_region ?_
  refine WR_val rfl (rn_move) ?_
  refine WR_val rfl (rn_not rfl) ?_
  refine WR_val rfl (rn_assign) ?_
  refine WR_nil ?_
  refine thenN ?_
  refine W_fnb rfl (rfl) ?_
  refine W_seq ?_
  refine W_region ?_
  refine WR_val rfl (rn_fieldAddr (off := 0) (by kernel_rfl) rfl) ?_
  refine WR_val rfl (rn_load rfl (Ld.row1 hr10 (by kernel_rfl) rfl)) ?_
  refine WR_val rfl (rn_eql rfl rfl) ?_
  refine WR_val rfl (rn_assign) ?_
  refine WR_nil ?_
  refine thenN ?_
  refine W_fp rfl ((by omega)) ?_
  refine W_skip ?_
  refine blockN ?_
  refine thenN ?_
  refine W_seq ?_
  refine W_region ?_
  refine WR_val rfl (rn_load rfl (Ld.rowA (k := 2) hr10 (by kernel_rfl) (by kernel_rfl) (by first | (simp; done) | (simp [bv_length, *]; done) | assumption))) ?_
  refine WR_val rfl (rn_move) ?_
  refine WR_val rfl (rn_move) ?_
  refine WR_val rfl (rn_built3 (.agg #[.int .u64 (C : Int), .int .u64 (s : Int)]) (.pointer (some ⟨g, 0, none⟩)) (.int .i64 (n : Int)) [.int .u64 (C : Int), .int .u64 (s : Int), .pointer (some ⟨g, 0, none⟩), .int .i64 (n : Int), .int .i64 0, .int .i64 0, .bool false] rfl rfl rfl (by kernel_rfl)) ?_
  have hDw := h.new hB
  refine WR_mk rfl (mk_box ([.int .u64 (C : Int), .int .u64 (s : Int), .pointer (some ⟨g, 0, none⟩), .int .i64 (n : Int), .int .i64 0, .int .i64 0, .bool false]) rfl (fun g44 w44 hg44 hr44 hb44 => ?_))
  have ge_hB_g44 := Nat.le_trans hB.size hg44
  have lt_g8_g44 : g8 < g44 := Nat.lt_of_lt_of_le hr8.lt hg44
  have lt_g10_g44 : g10 < g44 := Nat.lt_of_lt_of_le hr10.lt hg44
  replace hLL := hLL.new hb44
  replace hr8 := hr8.new hb44
  replace hr10 := hr10.new hb44
  replace hB := hB.acc hb44
  have hbz := hB.size
  have hG : LgAt g g44 Y lo L D ⟨C, s, n, 0, 0, false⟩ w44 := ⟨hDw.newc hb44 hg44 hr44.lt, hr44, by omega, fun hm => by have := hDw.lt _ hm; omega⟩
  refine WR_val rfl (rn_assign) ?_
  refine WR_nil ?_
  refine thenN ?_
  refine W_seq ?_
  refine W_region ?_
  refine WR_val rfl (rn_move) ?_
  refine WR_ent rfl (rn_call (by kernel_rfl) rfl) (hrec _ w44 hG) ?_
  rintro _ w47 ⟨p, cp, rfl, hcp, hG, hb47⟩
  replace hLL := hLL.ll hb47 (by first | (intro b hb; exact hb) | (intro b hb; simp [hb]; done) | simp)
  refine WR_val rfl (rn_move) ?_
  refine WR_val rfl (rn_extract rfl rfl) ?_
  refine WR_val rfl (rn_extract rfl rfl) ?_
  refine WR_val rfl (rn_assign) ?_
  refine WR_val rfl (rn_assign) ?_
  refine WR_nil ?_
  refine thenN ?_
  refine W_seq ?_
  refine W_seq ?_
  refine W_region ?_
  refine WR_val rfl (rn_move) ?_
  refine WR_val rfl (rn_eql rfl rfl) ?_
  refine WR_nil ?_
  refine thenN ?_
  refine W_tp rfl (rfl) ?_
  refine W_region ?_
  refine WR_val rfl (rn_move) ?_
  refine WR_val rfl (rn_move) ?_
  refine WR_val rfl (rn_nilCheckP rfl) ?_
  refine WR_val rfl (rn_fieldAddr (off := 0) (by kernel_rfl) rfl) ?_
  refine WR_val rfl (rn_fieldAddr (off := 1) (by kernel_rfl) rfl) ?_
  refine WR_val rfl (rn_load rfl (Ld.row1 hG.rowx (by kernel_rfl) rfl)) ?_
  refine WR_ent rfl (rn_call (by kernel_rfl) rfl) (hnx _ _ w47 hG) ?_
  rintro _ w58 ⟨rfl, hG, hb58⟩
  replace hLL := hLL.ll hb58 (by first | (intro b hb; exact hb) | (intro b hb; simp [hb]; done) | simp)
  refine WR_val rfl (rn_assign) ?_
  refine WR_nil ?_
  refine thenN ?_
  refine W_seq ?_
  refine W_seq ?_
  refine W_region ?_
  refine WR_val rfl (rn_move) ?_
  refine WR_val rfl (rn_neq rfl rfl) ?_
  refine WR_nil ?_
  refine thenN ?_
  refine W_ifp rfl (fun hne => ?_) (fun hne => ?_)
  ·
    refine W_seq ?_
    refine W_region ?_
    refine WR_val rfl (rn_move) ?_
    refine WR_val rfl (rn_assign) ?_
    refine WR_val rfl (rn_assign) ?_
    refine WR_val rfl (rn_assign) ?_
    refine WR_nil ?_
    refine thenN ?_
    refine W_ret ?_
    refine thenR ?_
    refine ret_ret [_, _, _] ⟨rfl, rfl, rfl, trivial⟩ ?_
    have hf : ok = false := by cases ok with | false => rfl | true => simp at hne
    subst hf
    exact ⟨hLL, .inl ⟨rfl, rfl, two_left hG.fst⟩⟩
  ·
    have hf : ok = true := by cases ok with | true => rfl | false => simp at hne
    subst hf
    refine W_skip ?_
    refine thenN ?_
    refine W_seq ?_
    refine W_region ?_
    refine WR_val rfl (rn_move) ?_
    refine WR_val rfl (rn_move) ?_
    refine WR_val rfl (rn_assign) ?_
    refine WR_val rfl (rn_assign) ?_
    refine WR_val rfl (rn_assign) ?_
    refine WR_nil ?_
    refine thenN ?_
    refine W_ret ?_
    refine ret_ret [_, _, _] ⟨rfl, rfl, rfl, trivial⟩ ?_
    exact ⟨hLL, .inr ⟨rfl, _, p, cp, rfl, hcp, hG⟩⟩
end
end Go.Proofs.Ytkkgahgpemepeaa

/- The reference: may a record be; are two the same. -/
namespace Go.Proofs.Ytkkgahgpemepeaa
open Go Go.RowKit Coup

theorem chsV_num {R : Rec} (h : chsOk R) {i : Nat} {c : Ch} (hc : R[i]? = some c) : (chsV R)[i * 513]? = some (.int .i64 c.num) := by
  have h1 := chsV_at h hc
  have h2 := congrArg (fun z => z[0]?) h1
  have hi := (List.getElem?_eq_some_iff.1 hc).1
  simpa [List.getElem?_take, List.getElem?_drop, chV] using h2
/-- A change's number, loaded. -/
theorem ld_num {w : World} {g o n : Nat} {R : Rec} (h : SlAt w (some ⟨g, o, none⟩) n 513 (chsV R)) (hR : chsOk R) {i : Nat} {c : Ch} (hc : R[i]? = some c) : Ld Try.prog w 3 ⟨g, o + i * 513, none⟩ (.int .i64 c.num) :=
  Ld.one (by kernel_rfl) (h.cell (i * 513) (chsV_num hR hc))
set_option maxRecDepth 20000 in
set_option maxHeartbeats 1000000 in
theorem may12 (R : Rec) (hR : chsOk R) (p : Option Addr) (n cp : Nat) (w : World) (h : SlAt w p n 513 (chsV R)) (hn : R.length = n) (hn2 : n ≤ 1000000) :
    Calls Try.prog 12 [.slice p n cp].toArray w (Ret fun v w' => v = .bool (mayR R) ∧ w = w') := by
  refine calls_W (fn := Try.f12) (rs := [.tmp 2]) (n := 32) Try.func12 rfl rfl Try.ntmps12 (by kernel_rfl) rfl ?_
  refine W_seq ?_
  refine W_region ?_
  refine WR_val rfl (rn_assign) ?_
  refine WR_nil ?_
  refine thenN ?_
  refine W_seq ?_
  refine W_seq ?_
  refine W_region ?_
  refine WR_val rfl (rn_assign) ?_
  refine WR_nil ?_
  refine thenN ?_
  refine W_block ?_
  refine W_loop (α := Nat) 0 (fun k => [(3, .int .i64 (k : Nat)), (0, .slice p n cp)])
    (fun k w' => k ≤ n ∧ (∀ j c, j < k → R[j]? = some c → numOk c.num = true) ∧ w' = w) (fun k => n - k) ⟨rfl, rfl, rfl⟩ ⟨Nat.zero_le _, fun j c hj => by omega, rfl⟩ ?_
  rintro k f wr ⟨hk, hall, rfl⟩
  refine W_seq ?_
  refine W_seq ?_
  refine W_region ?_
  refine WR_val rfl (rn_move) ?_
  refine WR_val rfl (rn_move) ?_
  refine WR_val rfl (rn_lenSl (e := 90) (sz := 513) (by kernel_rfl) rfl rfl) ?_
  refine WR_val rfl (rn_lss rfl rfl) ?_
  refine WR_nil ?_
  refine thenN ?_
  refine W_ifp rfl (fun hlt => ?_) (fun hlt => ?_)
  ·
    refine W_skip ?_
    refine thenN ?_
    refine W_seq ?_
    refine W_block ?_
    refine W_seq ?_
    refine W_region ?_
    have hex : ∃ c, R[k]? = some c := ⟨_, List.getElem?_eq_getElem (by omega)⟩
    obtain ⟨c, hc⟩ := hex
    have hobt := h.some (by omega)
    obtain ⟨g, o, rfl, _⟩ := hobt
    refine WR_val rfl (rn_move) ?_
    refine WR_val rfl (rn_move) ?_
    refine WR_val rfl (rn_indexSl (e := 90) (sz := 513) (by kernel_rfl) rfl rfl (k) (by omega) (by omega)) ?_
    refine WR_val rfl (rn_fieldAddr (off := 0) (by kernel_rfl) rfl) ?_
    refine WR_val rfl (rn_load rfl (ld_num h hR hc)) ?_
    refine WR_val rfl (rn_lss rfl rfl) ?_
    refine WR_val rfl (rn_move) ?_
    refine WR_part 16 rfl (fun hneg => ?_) (fun hneg => ?_)
    ·
      refine WR_no rfl rfl ?_
      refine WR_no rfl rfl ?_
      refine WR_no rfl rfl ?_
      refine WR_no rfl rfl ?_
      refine WR_no rfl rfl ?_
      refine WR_no rfl rfl ?_
      refine WR_val rfl (rn_pick_t rfl) ?_
      refine WR_nil ?_
      refine thenN ?_
      refine W_t rfl ?_
      refine W_seq ?_
      refine W_region ?_
      refine WR_val rfl (rn_assign) ?_
      refine WR_nil ?_
      refine thenN ?_
      refine W_ret ?_
      refine blockR ?_
      refine thenR ?_
      refine loopR ?_
      refine blockR ?_
      refine thenR ?_
      refine ret_ret [_] ⟨rfl, trivial⟩ ?_
      have hm : mayR R = false := by
        rw [mayR, Bool.and_eq_false_iff]; right
        exact List.all_eq_false.2 ⟨c, List.mem_of_getElem? hc, by rw [numOk, decide_eq_false (by omega)]; simp⟩
      exact ⟨by rw [hm]; rfl, rfl⟩
    ·
      refine WR_yes rfl ?_
      refine WR_val rfl (rn_move) ?_
      refine WR_yes rfl ?_
      refine WR_val rfl (rn_move) ?_
      refine WR_yes rfl ?_
      refine WR_val rfl (rn_indexSl (e := 90) (sz := 513) (by kernel_rfl) rfl rfl (k) (by omega) (by omega)) ?_
      refine WR_yes rfl ?_
      refine WR_val rfl (rn_fieldAddr (off := 0) (by kernel_rfl) rfl) ?_
      refine WR_yes rfl ?_
      refine WR_val rfl (rn_load rfl (ld_num h hR hc)) ?_
      refine WR_yes rfl ?_
      refine WR_val rfl (rn_gtr rfl rfl) ?_
      refine WR_val rfl (rn_pick_f rfl) ?_
      refine WR_nil ?_
      refine thenN ?_
      refine W_ifp rfl (fun hbig => ?_) (fun hbig => ?_)
      ·
        refine W_seq ?_
        refine W_region ?_
        refine WR_val rfl (rn_assign) ?_
        refine WR_nil ?_
        refine thenN ?_
        refine W_ret ?_
        refine blockR ?_
        refine thenR ?_
        refine loopR ?_
        refine blockR ?_
        refine thenR ?_
        refine ret_ret [_] ⟨rfl, trivial⟩ ?_
        have hm : mayR R = false := by
          rw [mayR, Bool.and_eq_false_iff]; right
          exact List.all_eq_false.2 ⟨c, List.mem_of_getElem? hc, by rw [numOk, decide_eq_false (by omega)]; simp⟩
        exact ⟨by rw [hm]; rfl, rfl⟩
      ·
        refine W_skip ?_
        refine blockN ?_
        refine thenN ?_
        refine W_region ?_
        refine WR_val rfl (rn_move) ?_
        refine WR_val rfl (rn_add rfl rfl (Coup.w64 (by omega))) ?_
        refine WR_val rfl (rn_assign) ?_
        refine WR_nil ?_
        refine loopN ⟨k + 1, by omega, ⟨by go_num, rfl, rfl⟩, by omega, fun j d hj hd => ?_, rfl⟩
        by_cases hjk : j < k
        · exact hall j d hjk hd
        · obtain rfl : j = k := by omega
          rw [hc] at hd; cases hd
          exact decide_eq_true (by omega)
  ·
    have hkn : k = n := by omega
    have hal : (R.all fun c => numOk c.num) = true := List.all_eq_true.2 fun c hc => by
      have hobt := List.getElem?_of_mem hc
      obtain ⟨j, hj⟩ := hobt
      exact hall j c (by have := (List.getElem?_eq_some_iff.1 hj).1; omega) hj
    refine W_exit ?_
    refine thenX ?_
    refine loopX ?_
    refine blockX ?_
    refine thenN ?_
    refine W_seq ?_
    refine W_region ?_
    refine WR_val rfl (rn_move) ?_
    refine WR_val rfl (rn_lenSl (e := 90) (sz := 513) (by kernel_rfl) rfl rfl) ?_
    refine WR_val rfl (rn_geq rfl rfl) ?_
    refine WR_val rfl (rn_move) ?_
    refine WR_part 27 rfl (fun h1 => ?_) (fun h1 => ?_)
    ·
      refine WR_yes rfl ?_
      refine WR_val rfl (rn_move) ?_
      refine WR_yes rfl ?_
      refine WR_val rfl (rn_lenSl (e := 90) (sz := 513) (by kernel_rfl) rfl rfl) ?_
      refine WR_yes rfl ?_
      refine WR_val rfl (rn_leq rfl rfl) ?_
      refine WR_val rfl (rn_pick_t rfl) ?_
      refine WR_val rfl (rn_assign) ?_
      refine WR_nil ?_
      refine thenN ?_
      refine W_ret ?_
      refine ret_ret [_] ⟨rfl, trivial⟩ ?_
      have hd : decide ((k : Int) ≤ 60) = decide (1 ≤ k ∧ k ≤ 60) := decide_eq_decide.2 ⟨fun h => by omega, fun h => by omega⟩
      refine ⟨?_, rfl⟩
      rw [mayR, hal, Bool.and_true, hn, hkn.symm, ← hd]; rfl
    ·
      have hz : decide (1 ≤ n ∧ n ≤ 60) = false := decide_eq_false (by omega)
      refine WR_no rfl rfl ?_
      refine WR_no rfl rfl ?_
      refine WR_no rfl rfl ?_
      refine WR_val rfl (rn_pick_f rfl) ?_
      refine WR_val rfl (rn_assign) ?_
      refine WR_nil ?_
      refine thenN ?_
      refine W_ret ?_
      refine ret_ret [_] ⟨rfl, trivial⟩ ?_
      exact ⟨by rw [mayR, hal, Bool.and_true, hn, hz]; rfl, rfl⟩
end Go.Proofs.Ytkkgahgpemepeaa

/- Equality of structs of a number and an array of bytes. -/
namespace Coup
open Go Go.RowKit
section
variable {P : Program} {ρ : Env} {w : World} {d : Option Nat} {ty : TypeId} {pos : String} {af : Array Edge} {gd : Option (Nat × Bool)}
theorem run_equal_bytesD (dd : Nat) {t n : Nat} (ht : byteArr P t n = true) (a b : List UInt8) (ha : a.length = n) (hb : b.length = n) (w : World) : (Op.equalIn (dd + 1 + 1) t (.agg (bv a).toArray) (.agg (bv b).toArray)).run P w = .ok (decide (a = b)) w := by
  unfold byteArr at ht
  simp only [Bool.and_eq_true] at ht
  have h1 := ht.1
  split at h1
  · rename_i m e hu
    simp only [Bool.and_eq_true] at h1
    obtain ⟨⟨⟨h2, h3⟩, h4⟩, h5⟩ := h1
    have he : P.underlying e = some (.int .u8) := by
      split at h3
      · assumption
      · cases h3
    obtain ⟨i, hi⟩ := Option.isSome_iff_exists.1 h5
    rw [run_equalIn_array w (dd + 1) _ _ hu hi, Nat.eq_of_beq_eq_true h4, Nat.eq_of_beq_eq_true h2, eqItems_bytes dd he _ a b w (by intro i hi; simp at hi; omega) (by omega),
      ← ha, all_range_eq a b (by omega)]
  · cases h1
def numBytesT (P : Program) (t : Nat) (k : IntKind) (n : Nat) : Bool :=
  (match P.underlying t with
   | some (.struct fs) => (match fs.toList with
     | [f0, f1] => (f0.name != "_") && (f1.name != "_") && Nat.beq f0.offset 0 && Nat.beq f1.offset 1 && intT P f0.type k && byteArr P f1.type n && (match P.info? f1.type with | some i => Nat.beq i.size n | none => false) && (match P.underlying f1.type with | some (.array _ _) => true | _ => false)
     | _ => false)
   | _ => false) && !P.eqGuardType P.depth t && !P.stoodInHeld t
theorem run_equal_numBytes {t n : Nat} {k : IntKind} (ht : numBytesT P t k n = true) (a b : Int) (x y : List UInt8) (hx : x.length = n) (hy : y.length = n) (w : World) :
    (Op.equalIn 10000 t (.agg (Value.int k a :: bv x).toArray) (.agg (Value.int k b :: bv y).toArray)).run P w = .ok (decide (a = b ∧ x = y)) w := by
  unfold numBytesT at ht
  simp only [Bool.and_eq_true, Bool.not_eq_true'] at ht
  obtain ⟨⟨h1, _⟩, h3⟩ := ht
  split at h1
  · rename_i fs hu
    split at h1
    · rename_i f0 f1 hfs
      simp only [Bool.and_eq_true, bne_iff_ne, ne_eq] at h1
      obtain ⟨⟨⟨⟨⟨⟨⟨n0, n1⟩, o0⟩, o1⟩, i0⟩, i1⟩, hsz⟩, hag⟩ := h1
      have u0 := intT_under i0
      have hf : P.fieldsOf t = fs := by simp [Program.fieldsOf, hu]
      rw [show 10000 = 9999 + 1 from rfl, run_equalIn_struct w 9999 t _ _ (by rw [hf]; exact hu) h3, hf, hfs]
      have g0 : (isAgg f0.type).run P w = .ok false w := by simp [isAgg, run_underlying u0]
      have g1 : (isAgg f1.type).run P w = .ok true w := by
        split at hag
        · rename_i hua; simp [isAgg, run_underlying hua]
        · cases hag
      obtain ⟨inf, hinf, hsn⟩ : ∃ i, P.info? f1.type = some i ∧ i.size = n := by
        split at hsz
        · rename_i i hi; exact ⟨i, hi, Nat.eq_of_beq_eq_true hsz⟩
        · cases hsz
      have e0 := Nat.eq_of_beq_eq_true o0
      have e1 := Nat.eq_of_beq_eq_true o1
      have p0 : ∀ (c : Int) (l : List UInt8), (part f0.type (Value.int k c :: bv l).toArray f0.offset).run P w = .ok (.int k c) w := fun c l => by simp [part, g0, e0, Result.andThen]
      have p1 : ∀ (c : Int) (l : List UInt8), l.length = n → (part f1.type (Value.int k c :: bv l).toArray f1.offset).run P w = .ok (.agg (bv l).toArray) w := fun c l hl => by
        have hex : (Value.int k c :: bv l).toArray.extract 1 (1 + n) = (bv l).toArray := by
          rw [List.extract_toArray, List.extract_eq_take_drop]
          simp [List.take_of_length_le, bv_length, hl]
        have hs : (Go.sizeOf f1.type).run P w = .ok n w := by simp [Go.sizeOf, typeInfo, hinf, hsn]
        simp only [part, Sem.run_bind, g1, Result.andThen_ok, ↓reduceIte, hs, Sem.run_pure, e1, hex]
      have s0 := run_equalIn_int w 9998 f0.type k k a b u0
      have s1 := run_equal_bytesD 9997 i1 x y hx hy w
      simp only [Op.eqFields, n0, n1, ne_eq, not_false_eq_true, if_true, Sem.run_bind, p0, p1 _ _ hx, p1 _ _ hy, Result.andThen_ok, show 9999 = 9998 + 1 from rfl, s0]
      by_cases h : a = b
      · subst h
        simp only [beq_self_eq_true, Bool.not_true, Bool.false_eq_true, if_false, Sem.run_bind, p1 _ _ hx, p1 _ _ hy, Result.andThen_ok, show 9998 = 9997 + 1 from rfl, s1]
        by_cases h' : x = y <;> simp [h']
      · have : (a == b) = false := by simpa using h
        simp [this, h]
    · cases h1
  · cases h1
theorem rn_neqC {t t' n : Nat} {k : IntKind} {x y : Operand} {a b : Int} {l m : List UInt8} (ht : numBytesT P t k n = true) (hx : ev ρ x = .agg (Value.int k a :: bv l).toArray) (hy : ev ρ y = .agg (Value.int k b :: bv m).toArray) (hl : l.length = n) (hm : m.length = n) :
    (execOp (ev ρ) ⟨d, .binOp .neq t x y t', ty, pos, af, gd⟩).run P w = .ok (.value (.bool (!decide (a = b ∧ l = m)))) w := by
  have hg : P.eqGuardType P.depth t = false := by
    unfold numBytesT at ht
    simp only [Bool.and_eq_true, Bool.not_eq_true'] at ht
    exact ht.1.2
  have h1 := run_eqGuard_agg (P := P) w .neq t x y (Value.int k a :: bv l).toArray (Value.int k b :: bv m).toArray hg
  simp only [execOp, hx, hy, Sem.run_bind, h1, Result.andThen_ok, run_neq_struct, run_equal_numBytes ht a b l m hl hm w]
  rfl
end
end Coup

/- The reference: are two records the same. -/
namespace Go.Proofs.Ytkkgahgpemepeaa
open Go Go.RowKit Coup

theorem chs_ext {A B : Rec} (hl : A.length = B.length) (h : ∀ (j : Nat) (a b : Ch), A[j]? = some a → B[j]? = some b → a.num = b.num ∧ a.page = b.page) : A = B := by
  refine List.ext_getElem? fun j => ?_
  by_cases hj : j < A.length
  · have hj2 : j < B.length := by omega
    obtain ⟨a, ha⟩ : ∃ a, A[j]? = some a := ⟨_, List.getElem?_eq_getElem hj⟩
    obtain ⟨b, hb⟩ : ∃ b, B[j]? = some b := ⟨_, List.getElem?_eq_getElem hj2⟩
    have h1 := h j a b ha hb
    rw [ha, hb]
    cases a; cases b; simp at h1; rw [h1.1, h1.2]
  · rw [List.getElem?_eq_none (by omega), List.getElem?_eq_none (by omega)]
set_option maxRecDepth 20000 in
set_option maxHeartbeats 1000000 in
theorem same15 (A B : Rec) (hA : chsOk A) (hB : chsOk B) (p q : Option Addr) (n m cp cq : Nat) (w : World) (h : SlAt w p n 513 (chsV A)) (hn : A.length = n) (k : SlAt w q m 513 (chsV B)) (hm : B.length = m) (hn2 : n ≤ 1000000) :
    Calls Try.prog 15 [.slice p n cp, .slice q m cq].toArray w (Ret fun v w' => (∃ b, v = .bool b ∧ (b = true ↔ A = B)) ∧ Below w.heap.size w w') := by
  have hBe := Below.refl w.heap.size w
  refine calls_W (fn := Try.f15) (rs := [.tmp 4]) (n := 26) Try.func15 rfl rfl Try.ntmps15 (by kernel_rfl) rfl ?_
  refine W_seq ?_
  refine W_region ?_
  refine WR_val rfl (rn_assign) ?_
  refine WR_nil ?_
  refine thenN ?_
  refine W_seq ?_
  refine W_seq ?_
  refine W_region ?_
  refine WR_val rfl (rn_move) ?_
  refine WR_val rfl (rn_lenSl (e := 90) (sz := 513) (by kernel_rfl) rfl rfl) ?_
  refine WR_val rfl (rn_move) ?_
  refine WR_val rfl (rn_lenSl (e := 90) (sz := 513) (by kernel_rfl) rfl rfl) ?_
  refine WR_val rfl (rn_neq rfl rfl) ?_
  refine WR_nil ?_
  refine thenN ?_
  refine W_ifp rfl (fun hne => ?_) (fun hne => ?_)
  ·
    refine W_seq ?_
    refine W_region ?_
    refine WR_val rfl (rn_assign) ?_
    refine WR_nil ?_
    refine thenN ?_
    refine W_ret ?_
    refine thenR ?_
    refine ret_ret [_] ⟨rfl, trivial⟩ ?_
    exact ⟨⟨false, rfl, by constructor; · intro h; cases h
                           · intro h; rw [h] at hn; omega⟩, hBe⟩
  ·
    have hnm : n = m := by omega
    subst hnm
    refine W_skip ?_
    refine thenN ?_
    refine W_seq ?_
    refine W_seq ?_
    refine W_region ?_
    refine WR_val rfl (rn_assign) ?_
    refine WR_nil ?_
    refine thenN ?_
    refine W_block ?_
    refine W_loop (α := Nat) 0 (fun k => [(5, .int .i64 (k : Nat)), (0, .slice p n cp), (1, .slice q n cq)])
      (fun k w' => k ≤ n ∧ (∀ (j : Nat) (a b : Ch), j < k → A[j]? = some a → B[j]? = some b → a.num = b.num ∧ a.page = b.page) ∧ Below w.heap.size w w') (fun k => n - k) ⟨rfl, rfl, rfl, rfl⟩ ⟨Nat.zero_le _, fun j a b hj => by omega, hBe⟩ ?_
    clear hBe
    rintro i f wr ⟨hi, hall, hBe⟩
    refine W_seq ?_
    refine W_seq ?_
    refine W_region ?_
    refine WR_val rfl (rn_move) ?_
    refine WR_val rfl (rn_move) ?_
    refine WR_val rfl (rn_lenSl (e := 90) (sz := 513) (by kernel_rfl) rfl rfl) ?_
    refine WR_val rfl (rn_lss rfl rfl) ?_
    refine WR_nil ?_
    refine thenN ?_
    refine W_ifp rfl (fun hlt => ?_) (fun hlt => ?_)
    ·
      refine W_skip ?_
      refine thenN ?_
      refine W_seq ?_
      refine W_block ?_
      refine W_seq ?_
      have hex : (∃ a, A[i]? = some a) ∧ ∃ b, B[i]? = some b := ⟨⟨_, List.getElem?_eq_getElem (by omega)⟩, ⟨_, List.getElem?_eq_getElem (by omega)⟩⟩
      obtain ⟨⟨a, ha⟩, b, hb⟩ := hex
      have hobt := h.some (by omega)
      obtain ⟨g, o, rfl, _⟩ := hobt
      have hobt := k.some (by omega)
      obtain ⟨g', o', rfl, _⟩ := hobt
      have hap := hA a (List.mem_of_getElem? ha)
      have hbp := hB b (List.mem_of_getElem? hb)
      refine W_draw' [] (by kernel_rfl) ?_
      intro w901 hb901 hS901
      replace hBe := hBe.acc hb901
      have hBe_d901 := hBe
      refine WA_take 0 (by kernel_rfl) rfl (fun _ _ => rn_move) ?_
      refine WA_take 1 (by kernel_rfl) rfl (fun _ _ => rn_move) ?_
      refine WA_take 2 (by kernel_rfl) rfl (fun _ _ => rn_indexSl (e := 90) (sz := 513) (by kernel_rfl) rfl rfl (i) (by omega) (by omega)) ?_
      refine WA_take 3 (by kernel_rfl) rfl (fun w' hS' => rn_load rfl (ld_ch (h.below (hBe_d901.kpd hS' (by first | (simp; done) | (simp; omega) | (simp [*]; done) | exact notLL (Or.inl (by omega)) | exact notLL (Or.inr (by simp)) | exact fun g hm => Nat.le_trans (by omega) (inLL hm).1 | (intro b o e; cases e; exact notLL (Or.inl (by omega))) | (intro b hm; have := (hu.lt b (Option.mem_toList.1 hm)).1; omega) | (intro b o e; cases e; intro hm; have := (hu.lt _ (Option.mem_toList.1 hm)).1; omega))) (Nat.le_refl _)) hA ha)) ?_
      refine WA_take 4 (by kernel_rfl) rfl (fun _ _ => rn_move) ?_
      refine WA_take 5 (by kernel_rfl) rfl (fun _ _ => rn_move) ?_
      refine WA_take 6 (by kernel_rfl) rfl (fun _ _ => rn_indexSl (e := 90) (sz := 513) (by kernel_rfl) rfl rfl (i) (by omega) (by omega)) ?_
      refine WA_take 7 (by kernel_rfl) rfl (fun w' hS' => rn_load rfl (ld_ch (k.below (hBe_d901.kpd hS' (by first | (simp; done) | (simp; omega) | (simp [*]; done) | exact notLL (Or.inl (by omega)) | exact notLL (Or.inr (by simp)) | exact fun g hm => Nat.le_trans (by omega) (inLL hm).1 | (intro b o e; cases e; exact notLL (Or.inl (by omega))) | (intro b hm; have := (hu.lt b (Option.mem_toList.1 hm)).1; omega) | (intro b o e; cases e; intro hm; have := (hu.lt _ (Option.mem_toList.1 hm)).1; omega))) (Nat.le_refl _)) hB hb)) ?_
      refine WA_take 8 (by kernel_rfl) rfl (fun _ _ => rn_neqC (k := .i64) (n := 512) (by kernel_rfl) rfl rfl hap hbp) ?_
      refine WA_done (by kernel_rfl) ?_
      refine thenN ?_
      refine W_if rfl (fun hd => ?_) (fun hd => ?_)
      ·
        refine W_seq ?_
        refine W_region ?_
        refine WR_val rfl (rn_assign) ?_
        refine WR_nil ?_
        refine thenN ?_
        refine W_ret ?_
        refine blockR ?_
        refine thenR ?_
        refine loopR ?_
        refine blockR ?_
        refine thenR ?_
        refine ret_ret [_] ⟨rfl, trivial⟩ ?_
        exact ⟨⟨false, rfl, by constructor; · intro h; cases h
                               · intro h; subst h; rw [ha] at hb; cases hb; simp at hd⟩, hBe⟩
      ·
        have hd2 : a.num = b.num ∧ a.page = b.page := by simpa using hd
        refine W_skip ?_
        refine blockN ?_
        refine thenN ?_
        refine W_region ?_
        refine WR_val rfl (rn_move) ?_
        refine WR_val rfl (rn_add rfl rfl (Coup.w64 (by omega))) ?_
        refine WR_val rfl (rn_assign) ?_
        refine WR_nil ?_
        refine loopN ⟨i + 1, by omega, ⟨by go_num, rfl, rfl, rfl⟩, by omega, fun j c d hj hc hd => ?_, hBe⟩
        by_cases hji : j < i
        · exact hall j c d hji hc hd
        · obtain rfl : j = i := by omega
          rw [ha] at hc; rw [hb] at hd; cases hc; cases hd; exact hd2
    ·
      have hin : i = n := by omega
      subst hin
      have hAB : A = B := chs_ext (by omega) fun j a b ha hb => hall j a b (by have := (List.getElem?_eq_some_iff.1 ha).1; omega) ha hb
      refine W_exit ?_
      refine thenX ?_
      refine loopX ?_
      refine blockX ?_
      refine thenN ?_
      refine W_seq ?_
      refine W_region ?_
      refine WR_val rfl (rn_assign) ?_
      refine WR_nil ?_
      refine thenN ?_
      refine W_ret ?_
      refine ret_ret [_] ⟨rfl, trivial⟩ ?_
      exact ⟨⟨true, rfl, by simp [hAB]⟩, hBe⟩
end Go.Proofs.Ytkkgahgpemepeaa

/- The reference: are two lists of records the same. -/
namespace Go.Proofs.Ytkkgahgpemepeaa
open Go Go.RowKit Coup

/-- A list of records in memory. -/
def AllR (w : World) (p : Option Addr) (S : List Rec) : Prop := ∃ vs, SlAt w p S.length 1 vs ∧ ∀ (i : Nat) (r : Rec), S[i]? = some r → ∃ q c, vs[i]? = some (.slice q r.length c) ∧ SlAt w q r.length 513 (chsV r)
theorem AllZ.r {w : World} {p : Option Addr} {S : List Rec} {C : List Nat} (h : AllZ p S w C) : AllR w p S := by
  obtain ⟨_, vs, h2, _, h4⟩ := h
  exact ⟨vs, h2, fun i r hr => let ⟨b, off, c, h5, h6, _⟩ := h4 i r hr; ⟨_, c, h5, h6⟩⟩
theorem AllR.new {w w' : World} {p : Option Addr} {S : List Rec} (h : AllR w p S) (hb : Below w.heap.size w w') : AllR w' p S := by
  obtain ⟨vs, h2, h4⟩ := h
  exact ⟨vs, h2.new hb, fun i r hr => let ⟨q, c, h5, h6⟩ := h4 i r hr; ⟨q, c, h5, h6.new hb⟩⟩
def allOk (S : List Rec) : Prop := ∀ r ∈ S, chsOk r ∧ r.length ≤ 1000000
set_option maxRecDepth 20000 in
set_option maxHeartbeats 1000000 in
theorem sameAll37 (A B : List Rec) (hA : allOk A) (hB : allOk B) (p q : Option Addr) (n m cp cq : Nat) (w : World) (h : AllR w p A) (hn : A.length = n) (k : AllR w q B) (hm : B.length = m) (hn2 : n ≤ 1000000) :
    Calls Try.prog 37 [.slice p n cp, .slice q m cq].toArray w (Ret fun v w' => (∃ b, v = .bool b ∧ (b = true ↔ A = B)) ∧ Below w.heap.size w w') := by
  have hBe := Below.refl w.heap.size w
  obtain ⟨vs, hs, hat⟩ := h
  obtain ⟨us, ks, kat⟩ := k
  rw [hn] at hs
  rw [hm] at ks
  refine calls_W (fn := Try.f37) (rs := [.tmp 4]) (n := 27) Try.func37 rfl rfl Try.ntmps37 (by kernel_rfl) rfl ?_
  refine W_seq ?_
  refine W_region ?_
  refine WR_val rfl (rn_assign) ?_
  refine WR_nil ?_
  refine thenN ?_
  refine W_seq ?_
  refine W_seq ?_
  refine W_region ?_
  refine WR_val rfl (rn_move) ?_
  refine WR_val rfl (rn_lenSl (e := 25) (sz := 1) (by kernel_rfl) rfl rfl) ?_
  refine WR_val rfl (rn_move) ?_
  refine WR_val rfl (rn_lenSl (e := 25) (sz := 1) (by kernel_rfl) rfl rfl) ?_
  refine WR_val rfl (rn_neq rfl rfl) ?_
  refine WR_nil ?_
  refine thenN ?_
  refine W_ifp rfl (fun hne => ?_) (fun hne => ?_)
  ·
    refine W_seq ?_
    refine W_region ?_
    refine WR_val rfl (rn_assign) ?_
    refine WR_nil ?_
    refine thenN ?_
    refine W_ret ?_
    refine thenR ?_
    refine ret_ret [_] ⟨rfl, trivial⟩ ?_
    exact ⟨⟨false, rfl, by constructor; · intro h; cases h
                           · intro h; rw [h] at hn; omega⟩, hBe⟩
  ·
    have hnm : n = m := by omega
    subst hnm
    refine W_skip ?_
    refine thenN ?_
    refine W_seq ?_
    refine W_seq ?_
    refine W_region ?_
    refine WR_val rfl (rn_assign) ?_
    refine WR_nil ?_
    refine thenN ?_
    refine W_block ?_
    refine W_loop (α := Nat) 0 (fun k => [(5, .int .i64 (k : Nat)), (0, .slice p n cp), (1, .slice q n cq)])
      (fun k w' => k ≤ n ∧ (∀ j, j < k → A[j]? = B[j]?) ∧ Below w.heap.size w w') (fun k => n - k) ⟨rfl, rfl, rfl, rfl⟩ ⟨Nat.zero_le _, fun j hj => by omega, hBe⟩ ?_
    clear hBe
    rintro i f wr ⟨hi, hall, hBe⟩
    refine W_seq ?_
    refine W_seq ?_
    refine W_region ?_
    refine WR_val rfl (rn_move) ?_
    refine WR_val rfl (rn_move) ?_
    refine WR_val rfl (rn_lenSl (e := 25) (sz := 1) (by kernel_rfl) rfl rfl) ?_
    refine WR_val rfl (rn_lss rfl rfl) ?_
    refine WR_nil ?_
    refine thenN ?_
    refine W_ifp rfl (fun hlt => ?_) (fun hlt => ?_)
    ·
      refine W_skip ?_
      refine thenN ?_
      refine W_seq ?_
      refine W_block ?_
      refine W_seq ?_
      have hex : (∃ a, A[i]? = some a) ∧ ∃ b, B[i]? = some b := ⟨⟨_, List.getElem?_eq_getElem (by omega)⟩, ⟨_, List.getElem?_eq_getElem (by omega)⟩⟩
      obtain ⟨⟨a, ha⟩, b, hb⟩ := hex
      have hobt := hs.some (by omega)
      obtain ⟨g, o, rfl, _⟩ := hobt
      have hobt := ks.some (by omega)
      obtain ⟨g', o', rfl, _⟩ := hobt
      have hobt := hat i a ha
      obtain ⟨q1, c1, hv1, hq1⟩ := hobt
      have hobt := kat i b hb
      obtain ⟨q2, c2, hv2, hq2⟩ := hobt
      have hap := hA a (List.mem_of_getElem? ha)
      have hbp := hB b (List.mem_of_getElem? hb)
      refine W_draw' [] (by kernel_rfl) ?_
      intro w901 hb901 hS901
      replace hBe := hBe.acc hb901
      have hBe_d901 := hBe
      refine WA_take 0 (by kernel_rfl) rfl (fun _ _ => rn_move) ?_
      refine WA_take 1 (by kernel_rfl) rfl (fun _ _ => rn_move) ?_
      refine WA_take 2 (by kernel_rfl) rfl (fun _ _ => rn_indexSl1 (e := 25) (by kernel_rfl) rfl rfl (i) (by omega) (by omega)) ?_
      refine WA_take 3 (by kernel_rfl) rfl (fun w' hS' => rn_load rfl (Ld.sl1 (hs.below (hBe_d901.kpd hS' (by first | (simp; done) | (simp; omega) | (simp [*]; done) | exact notLL (Or.inl (by omega)) | exact notLL (Or.inr (by simp)) | exact fun g hm => Nat.le_trans (by omega) (inLL hm).1 | (intro b o e; cases e; exact notLL (Or.inl (by omega))) | (intro b hm; have := (hu.lt b (Option.mem_toList.1 hm)).1; omega) | (intro b o e; cases e; intro hm; have := (hu.lt _ (Option.mem_toList.1 hm)).1; omega))) (Nat.le_refl _)) (by kernel_rfl) hv1)) ?_
      refine WA_take 4 (by kernel_rfl) rfl (fun _ _ => rn_move) ?_
      refine WA_take 5 (by kernel_rfl) rfl (fun _ _ => rn_move) ?_
      refine WA_take 6 (by kernel_rfl) rfl (fun _ _ => rn_indexSl1 (e := 25) (by kernel_rfl) rfl rfl (i) (by omega) (by omega)) ?_
      refine WA_take 7 (by kernel_rfl) rfl (fun w' hS' => rn_load rfl (Ld.sl1 (ks.below (hBe_d901.kpd hS' (by first | (simp; done) | (simp; omega) | (simp [*]; done) | exact notLL (Or.inl (by omega)) | exact notLL (Or.inr (by simp)) | exact fun g hm => Nat.le_trans (by omega) (inLL hm).1 | (intro b o e; cases e; exact notLL (Or.inl (by omega))) | (intro b hm; have := (hu.lt b (Option.mem_toList.1 hm)).1; omega) | (intro b o e; cases e; intro hm; have := (hu.lt _ (Option.mem_toList.1 hm)).1; omega))) (Nat.le_refl _)) (by kernel_rfl) hv2)) ?_
      refine WA_one 8 (by kernel_rfl) ?_
      refine WO_ent rfl rfl (rn_call (by kernel_rfl) rfl) (same15 a b hap.1 hbp.1 q1 q2 a.length b.length c1 c2 w901 (hq1.below hBe (Nat.le_refl _)) rfl (hq2.below hBe (Nat.le_refl _)) rfl hap.2) ?_
      rintro _ w25 ⟨⟨bb, rfl, hbb⟩, hb25⟩
      have hS902 := hS901.add0 hb25
      refine ⟨hS902, ?_⟩
      replace hBe := hBe.acc hb25
      refine WA_take 9 (by kernel_rfl) rfl (fun _ _ => rn_not rfl) ?_
      refine WA_done (by kernel_rfl) ?_
      refine thenN ?_
      refine W_ifnb rfl (fun hd => ?_) (fun hd => ?_)
      ·
        refine W_seq ?_
        refine W_region ?_
        refine WR_val rfl (rn_assign) ?_
        refine WR_nil ?_
        refine thenN ?_
        refine W_ret ?_
        refine blockR ?_
        refine thenR ?_
        refine loopR ?_
        refine blockR ?_
        refine thenR ?_
        refine ret_ret [_] ⟨rfl, trivial⟩ ?_
        exact ⟨⟨false, rfl, by constructor; · intro h; cases h
                               · intro h; subst h; rw [ha] at hb; cases hb; rw [hbb.2 rfl] at hd; cases hd⟩, hBe⟩
      ·
        have hab : a = b := hbb.1 hd
        refine W_skip ?_
        refine blockN ?_
        refine thenN ?_
        refine W_region ?_
        refine WR_val rfl (rn_move) ?_
        refine WR_val rfl (rn_add rfl rfl (Coup.w64 (by omega))) ?_
        refine WR_val rfl (rn_assign) ?_
        refine WR_nil ?_
        refine loopN ⟨i + 1, by omega, ⟨by go_num, rfl, rfl, rfl⟩, by omega, fun j hj => ?_, hBe⟩
        by_cases hji : j < i
        · exact hall j hji
        · obtain rfl : j = i := by omega
          rw [ha, hb, hab]
    ·
      have hin : i = n := by omega
      subst hin
      have hAB : A = B := List.ext_getElem? fun j => by
        by_cases hj : j < i
        · exact hall j hj
        · rw [List.getElem?_eq_none (by omega), List.getElem?_eq_none (by omega)]
      refine W_exit ?_
      refine thenX ?_
      refine loopX ?_
      refine blockX ?_
      refine thenN ?_
      refine W_seq ?_
      refine W_region ?_
      refine WR_val rfl (rn_assign) ?_
      refine WR_nil ?_
      refine thenN ?_
      refine W_ret ?_
      refine ret_ret [_] ⟨rfl, trivial⟩ ?_
      exact ⟨⟨true, rfl, by simp [hAB]⟩, hBe⟩
end Go.Proofs.Ytkkgahgpemepeaa

/- The reference: a record's bytes. -/
namespace Go.Proofs.Ytkkgahgpemepeaa
open Go Go.RowKit Coup

theorem sl_page {w : World} {g o n : Nat} {R : Rec} (h : SlAt w (some ⟨g, o, none⟩) n 513 (chsV R)) (hR : chsOk R) {i : Nat} {c : Ch} (hc : R[i]? = some c) : SlAt w (some ⟨g, o + i * 513 + 1, none⟩) 512 1 (bv c.page) := by
  have hi := (List.getElem?_eq_some_iff.1 hc).1
  have hl := chsV_len hR
  have hp := hR c (List.mem_of_getElem? hc)
  have hat := chsV_at hR hc
  have h0 := h.len
  obtain ⟨_, _, he, hlt⟩ := h.some (by omega)
  cases he
  refine ⟨by rw [bv_length, hp], by unfold maxLen; omega, fun _ => ⟨g, o + i * 513 + 1, rfl, hlt, fun j hj => ?_⟩⟩
  obtain ⟨v, hv⟩ : ∃ v, (bv c.page)[j]? = some v := ⟨_, List.getElem?_eq_getElem (by rw [bv_length]; omega)⟩
  have h2 := congrArg (fun z => z[j + 1]?) hat
  have h3 : (chsV R)[i * 513 + (j + 1)]? = some v := by
    simpa [List.getElem?_take, List.getElem?_drop, chV, hv, show j + 1 < 513 by omega] using h2
  have h4 := h.cell _ h3
  rw [hv, ← h4]
  show w.cell? ⟨g, o + i * 513 + 1 + j, none⟩ = w.cell? ⟨g, o + (i * 513 + (j + 1)), none⟩
  congr 2; omega
set_option maxRecDepth 20000 in
set_option maxHeartbeats 1000000 in
theorem bytes14 (R : Rec) (hR : chsOk R) (hnum : ∀ c ∈ R, numOk c.num = true) (p : Option Addr) (n cp : Nat) (w : World) (h : SlAt w p n 513 (chsV R)) (hn : R.length = n) (hn2 : n ≤ 1000000) :
    Calls Try.prog 14 [.slice p n cp].toArray w (Ret fun v w' => ownsAt w' w.heap.size 5 1 v (516 * n) (bv (recB R)) ∧ Below w.heap.size w w') := by
  have hB := Below.refl w.heap.size w
  have hml : maxLen = 9223372036854775807 := by decide
  refine calls_W (fn := Try.f14) (rs := [.tmp 2]) (n := 27) Try.func14 rfl rfl Try.ntmps14 (by kernel_rfl) rfl ?_
  refine W_seq ?_
  refine W_region ?_
  refine WR_val rfl (rn_assign) ?_
  refine WR_nil ?_
  refine thenN ?_
  refine W_seq ?_
  refine W_region ?_
  refine WR_val rfl (rn_assign) ?_
  refine WR_nil ?_
  refine thenN ?_
  refine W_seq ?_
  refine W_seq ?_
  refine W_region ?_
  refine WR_val rfl (rn_assign) ?_
  refine WR_nil ?_
  refine thenN ?_
  refine W_block ?_
  refine W_loop (α := Nat × Value) (0, .slice none 0 0) (fun k => [(4, .int .i64 (k.1 : Nat)), (3, k.2), (0, .slice p n cp)])
    (fun k w' => k.1 ≤ n ∧ ownsAt w' w.heap.size 5 1 k.2 (516 * k.1) (bv (recB (R.take k.1))) ∧ Below w.heap.size w w') (fun k => n - k.1) ⟨rfl, rfl, rfl, rfl⟩ ⟨Nat.zero_le _, ownsAt_nil _ _ _ _, hB⟩ ?_
  clear hB
  rintro ⟨i, u⟩ f wr ⟨hi, hu, hB⟩
  dsimp only at *
  refine W_seq ?_
  refine W_seq ?_
  refine W_region ?_
  refine WR_val rfl (rn_move) ?_
  refine WR_val rfl (rn_move) ?_
  refine WR_val rfl (rn_lenSl (e := 90) (sz := 513) (by kernel_rfl) rfl rfl) ?_
  refine WR_val rfl (rn_lss rfl rfl) ?_
  refine WR_nil ?_
  refine thenN ?_
  refine W_ifp rfl (fun hlt => ?_) (fun hlt => ?_)
  ·
    refine W_skip ?_
    refine thenN ?_
    refine W_seq ?_
    refine W_block ?_
    have hex : ∃ c, R[i]? = some c := ⟨_, List.getElem?_eq_getElem (by omega)⟩
    obtain ⟨c, hc⟩ := hex
    have hobt := h.some (by omega)
    obtain ⟨g, o, rfl, _⟩ := hobt
    have hno := of_decide_eq_true (hnum c (List.mem_of_getElem? hc))
    have hobt : ∃ k : Nat, c.num = k := ⟨c.num.toNat, by omega⟩
    obtain ⟨kk, hkk⟩ := hobt
    have hld := fun w' (hb : Below w.heap.size w w') => ld_num (h.below hb (Nat.le_refl _)) hR hc
    have hpg := fun w' (hb : Below w.heap.size w w') => sl_page (h.below hb (Nat.le_refl _)) hR hc
    rw [hkk] at hld
    have htk : R.take (i + 1) = R.take i ++ [c] := by rw [List.take_add_one, hc]; rfl
    have hrs : recB (R.take (i + 1)) = recB (R.take i) ++ (beB 4 kk ++ c.page) := by rw [htk, recB_snoc, hkk, Int.toNat_natCast]
    refine W_draw' (u.ownBlock.toList) (by kernel_rfl) ?_
    intro w901 hb901 hS901
    replace hu := hu.new hb901
    replace hB := hB.acc hb901
    have hu_d901 := hu
    have hB_d901 := hB
    refine WA_take 0 (by kernel_rfl) rfl (fun _ _ => rn_move) ?_
    refine WA_take 1 (by kernel_rfl) rfl (fun _ _ => rn_move) ?_
    refine WA_take 2 (by kernel_rfl) rfl (fun _ _ => rn_move) ?_
    refine WA_take 3 (by kernel_rfl) rfl (fun _ _ => rn_indexSl (e := 90) (sz := 513) (by kernel_rfl) rfl rfl (i) (by omega) (by omega)) ?_
    refine WA_take 4 (by kernel_rfl) rfl (fun _ _ => rn_fieldAddr (off := 0) (by kernel_rfl) rfl) ?_
    refine WA_take 5 (by kernel_rfl) rfl (fun w' hS' => rn_load rfl (hld _ (hB_d901.kpd hS' (by first | (simp; done) | (simp; omega) | (simp [*]; done) | exact notLL (Or.inl (by omega)) | exact notLL (Or.inr (by simp)) | exact fun g hm => Nat.le_trans (by omega) (inLL hm).1 | (intro b o e; cases e; exact notLL (Or.inl (by omega))) | (intro b hm; have := (hu.lt b (Option.mem_toList.1 hm)).1; omega) | (intro b o e; cases e; intro hm; have := (hu.lt _ (Option.mem_toList.1 hm)).1; omega))))) ?_
    refine WA_take 6 (by kernel_rfl) rfl (fun _ _ => rn_conv (k := .u64) (by kernel_rfl) (by kernel_rfl) rfl (wu64 (by omega))) ?_
    refine WA_take 9 (by kernel_rfl) rfl (fun _ _ => rn_move) ?_
    refine WA_take 10 (by kernel_rfl) rfl (fun _ _ => rn_move) ?_
    refine WA_take 11 (by kernel_rfl) rfl (fun _ _ => rn_indexSl (e := 90) (sz := 513) (by kernel_rfl) rfl rfl (i) (by omega) (by omega)) ?_
    refine WA_take 12 (by kernel_rfl) rfl (fun _ _ => rn_fieldAddr (off := 1) (by kernel_rfl) rfl) ?_
    refine WA_take 13 (by kernel_rfl) rfl (fun _ _ => rn_sliceAr1' (e := 5) (n := 512) (0) (512) (512) (512) (by kernel_rfl) rfl rfl rfl rfl (by simp) (by omega) (by omega) (by omega) (by omega) (by omega)) ?_
    refine WA_one 7 (by kernel_rfl) ?_
    refine WO_ent rfl rfl (rn_call (by kernel_rfl) rfl) (put34r kk (by omega) 4 (by omega) w901) ?_
    rintro _ w18 ⟨gp, rfl, hgp, hrp, hb18⟩
    have ge_hS901_gp := Nat.le_trans hS901.size hgp
    have ge_hB_gp := Nat.le_trans hB.size hgp
    have hS902 := hS901.add0 hb18
    refine ⟨hS902, ?_⟩
    replace hu := hu.new hb18
    replace hB := hB.acc hb18
    refine WA_one 8 (by kernel_rfl) ?_
    have hz18 := hb18.size
    have hs18 := hrp.slA (m := 4) (sz := 1) (by rw [bv_length, beB_length]) (by omega)
    have sz_hB_19 := hB.size
    refine WO_mk rfl rfl (mk_append (e := 5) (sz := 1) (bytes := 1) (z := Value.int .u8 0) (by kernel_rfl) rfl (by kernel_rfl) rfl (by decide) rfl hu rfl hs18 (bv_one _) (by unfold maxLen; omega) (by omega) (fun hm0 => by omega) (fun v19 w19 hv19 hgr19 hfr19 => ?_))
    have hS903 := hS902.ownS hu hgr19 (by first | (left; omega) | exact Or.inr (fun _ h => h) | exact Or.inr (fun _ h => List.mem_cons_of_mem _ h))
    refine ⟨hS903, ?_⟩
    replace hB := hB.own hu hgr19 (by omega)
    refine WA_one 14 (by kernel_rfl) ?_
    have sz_hB_25 := hB.size
    refine WO_mk rfl rfl (mk_append (e := 5) (sz := 1) (bytes := 1) (z := Value.int .u8 0) (by kernel_rfl) rfl (by kernel_rfl) rfl (by decide) rfl hv19 rfl (hpg _ hB) (bv_one _) (by unfold maxLen; omega) (by omega) (fun hm0 => by omega) (fun v25 w25 hv25 hgr25 hfr25 => ?_))
    have hS904 := hS903.add (Kp.of_grown hgr25) (fun g hm => by first | exact Or.inr hm | exact Or.inr (List.mem_cons_of_mem _ hm) | (have := (hv19.lt g (Option.mem_toList.1 hm)).1; left; omega) | exact (hfr19 g (Option.mem_toList.1 hm)).elim (fun e => Or.inr (Option.mem_toList.2 e)) (fun e => Or.inl (by omega)) | exact (hfr19 g (Option.mem_toList.1 hm)).elim (fun e => Or.inr (List.mem_cons_of_mem _ (Option.mem_toList.2 e))) (fun e => Or.inl (by omega)))
    refine ⟨hS904, ?_⟩
    replace hB := hB.own hv19 hgr25 (by omega)
    refine WA_take 15 (by kernel_rfl) rfl (fun _ _ => rn_assign) ?_
    refine WA_done (by kernel_rfl) ?_
    refine blockN ?_
    refine thenN ?_
    refine W_region ?_
    refine WR_val rfl (rn_move) ?_
    refine WR_val rfl (rn_add rfl rfl (Coup.w64 (by omega))) ?_
    refine WR_val rfl (rn_assign) ?_
    refine WR_nil ?_
    rw [← bv_append, ← bv_append, List.append_assoc, ← hrs] at hv25
    refine loopN ⟨(i + 1, v25), by show n - (i + 1) < n - i; omega, ⟨by go_num, rfl, rfl, rfl⟩, by show i + 1 ≤ n; omega, ?_, hB⟩
    show ownsAt _ _ _ _ v25 (516 * (i + 1)) (bv (recB (R.take (i + 1))))
    rw [show 516 * (i + 1) = 516 * i + 4 + 512 by omega]
    exact hv25
  ·
    have hin : i = n := by omega
    subst hin
    rw [List.take_of_length_le (by omega)] at hu
    refine W_exit ?_
    refine thenX ?_
    refine loopX ?_
    refine blockX ?_
    refine thenN ?_
    refine W_seq ?_
    refine W_region ?_
    refine WR_val rfl (rn_move) ?_
    refine WR_val rfl (rn_assign) ?_
    refine WR_nil ?_
    refine thenN ?_
    refine W_ret ?_
    refine ret_ret [_] ⟨rfl, trivial⟩ ?_
    exact ⟨hu, hB⟩
end Go.Proofs.Ytkkgahgpemepeaa

/- []byte("..") of a constant: the row gets a mark. -/
namespace Coup
open Go Go.RowKit
section
variable {P : Program} {ρ : Env} {w : World} {d : Option Nat} {ty : TypeId} {pos : String} {af : Array Edge} {gd : Option (Nat × Bool)} {K : Value → World → Prop}
theorem freeze_row {g tt k : Nat} {cs : List Value} (hr : row w g cs tt) : (w.freeze ⟨g, k, none⟩ 1).heap[g]? = some (.cells cs.toArray tt (k, k + 1)) ∧ Only g w (w.freeze ⟨g, k, none⟩ 1) := by
  have hr' : w.heap[g]? = some (.cells cs.toArray tt) := hr
  refine ⟨?_, ?_⟩
  · unfold World.freeze
    rw [if_neg (by decide)]
    simp [Array.getElem?_modify, hr']
  · unfold World.freeze
    rw [if_neg (by decide)]
    refine ⟨rfl, rfl, rfl, by simp, fun j hj => ?_⟩
    simp [Array.getElem?_modify, Ne.symm hj]
theorem mk_mark {t e g n c tt : Nat} {x : Operand} {cs : List Value} (ht : P.underlying t = some (.slice e)) (he : P.underlying e = some (.int .u8)) (hx : ev ρ x = .slice (some ⟨g, 0, none⟩) n c) (hr : row w g cs tt) (hn : cs.length = n) (hm : n ≤ maxLen)
    (h : ∀ w', SlAt w' (some ⟨g, 0, none⟩) n 1 cs → Only g w w' → K (.slice (some ⟨g, 0, none⟩) n c) w') : Mk P ρ w ⟨d, .convert t t x, ty, pos, af, gd⟩ K := by
  have hr' : w.heap[g]? = some (.cells cs.toArray tt) := hr
  have hsh : w.shape? g = some (tt, cs.length) := by unfold World.shape?; rw [hr']; simp
  obtain ⟨h1, h2⟩ := freeze_row (k := cs.length) hr
  have hrun : (convert t t (.slice (some ⟨g, 0, none⟩) n c)).run P w = .ok (.slice (some ⟨g, 0, none⟩) n c) (w.freeze ⟨g, cs.length, none⟩ 1) := by
    simp [convert, run_underlying ht, run_underlying he, markStringish, hsh]
  refine ⟨_, _, ?_, h _ ⟨by rw [hn, Nat.mul_one], hm, fun h0 => ⟨g, 0, rfl, ?_, fun j hj => ?_⟩⟩ h2⟩
  · simp only [execOp, hx, Sem.run_bind, hrun, Result.andThen_ok]; rfl
  · exact (Array.getElem?_eq_some_iff.1 h1).1
  · unfold World.cell?
    rw [h1]
    simp
/-- append onto a slice that has no room: a new one, the walk's own. -/
theorem mk_appendN {t t' e sz bytes : Nat} {s x : Operand} {m k c cap g0 o0 : Nat} {xs news : List Value} {sp : Option Addr} {z : Value} (ht : P.underlying t = some (.slice e)) (ht' : t' = t)
    (hi : (P.info? e).map (fun i => (i.zero, i.size, i.bytes)) = some (some z, sz, bytes)) (hzs : z.cells.size = sz) (hsz : 0 < sz) (hs : ev ρ s = .slice (some ⟨g0, o0, none⟩) m cap) (hold : SlAt w (some ⟨g0, o0, none⟩) m sz xs)
    (hx : ev ρ x = .slice sp k c) (hsrc : SlAt w sp k sz news) (hcap : cap < m + k) (hk : 0 < k) (h63 : m + k ≤ maxLen) (hbytes : (m + k) * bytes ≤ 140737488355328)
    (h : ∀ v' w', ownsAt w' w.heap.size e sz v' (m + k) (xs ++ news) → Below w.heap.size w w' → K v' w') : Mk P ρ w ⟨d, .call ⟨.builtin .append, #[s, x], #[t, t']⟩, ty, pos, af, gd⟩ K := by
  subst ht'
  obtain ⟨i, hq, hzz⟩ := Option.map_eq_some_iff.1 hi
  simp only [Prod.mk.injEq] at hzz
  obtain ⟨hz, hsize, hby⟩ := hzz
  obtain ⟨g1, o1, rfl, _⟩ := hsrc.some (Nat.mul_pos hk hsz)
  obtain ⟨v', w', hr, h2, h3⟩ := run_append_arg_grows (P := P) (w := w) t' ty e i z sz bytes ht hq hz hsize hby hzs hsz ⟨g0, o0, none⟩ m cap xs hold.len (fun j u hu => by rw [Addr.add_lit]; exact hold.cell j hu) ⟨g1, o1, none⟩ k c news hsrc.len
    (fun j u hu => by rw [Addr.add_lit]; exact hsrc.cell j hu) hcap h63 hbytes
  refine ⟨_, w', ?_, h v' w' (ownsAt_of_row h2) ⟨h3.os, h3.tape, h3.output, h3.size, fun k hk => h3.block k hk (by simp)⟩⟩
  simp [execOp, resolve, invoke, builtin, hs, hx, hr, Result.andThen]
end
end Coup

/- The reference: the sector of a head. -/
namespace Go.Proofs.Ytkkgahgpemepeaa
open Go Go.RowKit Coup

set_option maxRecDepth 20000 in
theorem rhead28 (c s : Nat) (hc : c < 18446744073709551616) (hs : s < 18446744073709551616) (w : World) :
    Calls Try.prog 28 [.int .u64 (c : Int), .int .u64 (s : Int)].toArray w (Ret fun v w' => v = .agg (bv (headB c s)).toArray ∧ Below w.heap.size w w') := by
  have hB := Below.refl w.heap.size w
  have hml : maxLen = 9223372036854775807 := by decide
  have hhl := headB_len c s
  refine calls_W (fn := Try.f28) (rs := [.cell 4 63]) (n := 19) Try.func28 rfl rfl Try.ntmps28 (by kernel_rfl) rfl ?_
  refine W_seq ?_
  refine W_region ?_
  refine WR_mk rfl (mk_alloc (List.replicate 128 (Value.int .u8 0)) (by kernel_rfl) (fun g4 w4 hg4 hr4 hb4 => ?_))
  have ge_hB_g4 := Nat.le_trans hB.size hg4
  replace hB := hB.acc hb4
  refine WR_nil ?_
  refine thenN ?_
  refine W_seq ?_
  refine W_region ?_
  refine WR_mk rfl (mk_alloc (List.replicate 128 (Value.int .u8 0)) (by kernel_rfl) (fun g5 w5 hg5 hr5 hb5 => ?_))
  have ge_hB_g5 := Nat.le_trans hB.size hg5
  have lt_g4_g5 : g4 < g5 := Nat.lt_of_lt_of_le hr4.lt hg5
  replace hr4 := hr4.new hb5
  replace hB := hB.acc hb5
  refine WR_nil ?_
  refine thenN ?_
  refine W_seq ?_
  refine W_region ?_
  refine WR_mk rfl (mk_buildSlice (e := 5) [(0, .int .u8 67), (1, .int .u8 80), (2, .int .u8 76), (3, .int .u8 71)] [.int .u8 0] 1 (by kernel_rfl) (by kernel_rfl) rfl (by omega) (by omega) (by intro i hi; rcases i with _ | _ | _ | _ | i <;> first | (simp [Value.cells]; done) | (exfalso; simp only [List.length_cons, List.length_nil] at hi; omega)) (by simp [Value.cells]) (fun g7 w7 hg7 hr7 hb7 => ?_))
  have ge_hB_g7 := Nat.le_trans hB.size hg7
  have lt_g4_g7 : g4 < g7 := Nat.lt_of_lt_of_le hr4.lt hg7
  have lt_g5_g7 : g5 < g7 := Nat.lt_of_lt_of_le hr5.lt hg7
  replace hr4 := hr4.new hb7
  replace hr5 := hr5.new hb7
  replace hB := hB.acc hb7
  replace hr7 : row w7 g7 (bv magic) 5 := hr7
  have hr7k := hr7
  refine WR_mk rfl (mk_mark (e := 5) (by kernel_rfl) (by kernel_rfl) rfl hr7k rfl (by omega) (fun w8 hs8 ho8 => ?_))
  replace hr4 := hr4.only ho8 (Nat.ne_of_lt lt_g4_g7)
  replace hr5 := hr5.only ho8 (Nat.ne_of_lt lt_g5_g7)
  replace hB := ho8.below hB ge_hB_g7
  refine WR_val rfl (rn_move) ?_
  refine WR_ent rfl (rn_call (by kernel_rfl) rfl) (put34r c hc 8 (by omega) w8) ?_
  rintro _ w10 ⟨gp, rfl, hgp, hrp, hb10⟩
  have ge_hB_gp := Nat.le_trans hB.size hgp
  have lt_g4_gp : g4 < gp := Nat.lt_of_lt_of_le hr4.lt hgp
  have lt_g5_gp : g5 < gp := Nat.lt_of_lt_of_le hr5.lt hgp
  replace hr4 := hr4.new hb10
  replace hr5 := hr5.new hb10
  replace hs8 := hs8.new hb10
  replace hB := hB.acc hb10
  have hs10 := hrp.slA (m := 8) (sz := 1) (by rw [bv_length, beB_length]) (by omega)
  have hs8k := hs8
  have l4 := hr4.lt
  have l5 := hr5.lt
  refine WR_mk rfl (mk_appendN (e := 5) (sz := 1) (bytes := 1) (z := .int .u8 0) (by kernel_rfl) rfl (by kernel_rfl) rfl (by decide) rfl hs8k rfl hs10 (by omega) (by omega) (by omega) (by omega) (fun v11 w11 hv11 hb11 => ?_))
  replace hr4 := hr4.new hb11
  replace hr5 := hr5.new hb11
  replace hB := hB.acc hb11
  refine WR_val rfl (rn_move) ?_
  refine WR_ent rfl (rn_call (by kernel_rfl) rfl) (put34r s hs 8 (by omega) w11) ?_
  rintro _ w13 ⟨gq, rfl, hgq, hrq, hb13⟩
  have ge_hB_gq := Nat.le_trans hB.size hgq
  have lt_g4_gq : g4 < gq := Nat.lt_of_lt_of_le hr4.lt hgq
  have lt_g5_gq : g5 < gq := Nat.lt_of_lt_of_le hr5.lt hgq
  replace hr4 := hr4.new hb13
  replace hr5 := hr5.new hb13
  replace hv11 := hv11.new hb13
  replace hB := hB.acc hb13
  have hs13 := hrq.slA (m := 8) (sz := 1) (by rw [bv_length, beB_length]) (by omega)
  have sz_hB_14 := hB.size
  refine WR_mk rfl (mk_append (e := 5) (sz := 1) (bytes := 1) (z := Value.int .u8 0) (by kernel_rfl) rfl (by kernel_rfl) rfl (by decide) rfl hv11 rfl hs13 (bv_one _) (by unfold maxLen; omega) (by omega) (fun hm0 => by omega) (fun v14 w14 hv14 hgr14 hfr14 => ?_))
  replace hr4 := hr4.own hv11 hgr14 (by omega)
  replace hr5 := hr5.own hv11 hgr14 (by omega)
  replace hB := hB.own hv11 hgr14 (by omega)
  refine WR_val rfl (rn_assign) ?_
  refine WR_nil ?_
  refine thenN ?_
  refine W_seq ?_
  refine W_region ?_
  refine WR_val rfl (rn_sliceAr1' (e := 5) (n := 128) (0) (128) (128) (128) (by kernel_rfl) rfl rfl rfl rfl (by simp) (by omega) (by omega) (by omega) (by omega) (by omega)) ?_
  refine WR_val rfl (rn_move) ?_
  have hobt := hv14.form' (by omega)
  obtain ⟨gh, oh, ch, rfl, hgh1, hgh2, hch⟩ := hobt
  have hall := hv14.sl
  rw [← bv_append, ← bv_append] at hall
  refine WR_mk rfl (mk_copy (e := 5) (by kernel_rfl) (by kernel_rfl) rfl rfl g5 (0) hr5 (bv ((magic ++ beB 8 c) ++ beB 8 s)) (by simp [bv_length, magic, beB_length]) (fun _ => ⟨rfl, _, rfl, fun j v hv => by rw [Addr.add_lit]; exact hall.cell j hv⟩) (by simp [bv_length, magic, beB_length]) (bv_one _) (fun w17 hr5 ho17 => ?_))
  replace hr4 := hr4.only ho17 (Nat.ne_of_lt lt_g4_g5)
  replace hB := ho17.below hB ge_hB_g5
  have hsp : splice (List.replicate 128 (Value.int .u8 0)) 0 (bv ((magic ++ beB 8 c) ++ beB 8 s)) = bv (headB c s) := by
    have h0 : (List.replicate 128 (Value.int .u8 0)).drop (0 + (bv ((magic ++ beB 8 c) ++ beB 8 s)).length) = bv (zerosB 108) := by rw [bv_zeros]; simp [bv_length, magic, beB_length, byteV]
    rw [splice, h0, List.take_zero, List.nil_append, ← bv_append, headB, List.append_assoc, List.append_assoc]
  replace hr5 := hsp ▸ hr5
  refine WR_nil ?_
  refine thenN ?_
  refine W_seq ?_
  refine W_region ?_
  refine WR_val rfl (rn_load rfl (Ld.rowA (k := 128) hr5 (by kernel_rfl) (by kernel_rfl) (by rw [bv_length, hhl]))) ?_
  refine WR_sk rfl (sk_storeA 128 (bv (headB c s)) rfl rfl hr4 (by kernel_rfl) (by first | assumption | (simp; done) | (simp [bv_length, *]; done)) (by first | assumption | (simp; done) | (simp [bv_length, *]; done) | rfl) (by first | exact bv_one _ | assumption | (simp [Value.oneCell']; done)) (fun w901 hr4 ho901 => ?_))
  replace hr5 := hr5.only ho901 (Nat.ne_of_gt lt_g4_g5)
  replace hB := ho901.below hB ge_hB_g4
  refine WR_nil ?_
  refine thenN ?_
  refine W_ret ?_
  refine ret_ret [_] ⟨⟨_, rfl, Ld.rowA (k := 128) hr4 (by kernel_rfl) (by kernel_rfl) (by first | (simp; done) | (simp [bv_length, *]; done) | assumption)⟩, trivial⟩ ?_
  exact ⟨rfl, hB⟩
end Go.Proofs.Ytkkgahgpemepeaa

/- The law's pages. -/
namespace Go.Proofs.Ytkkgahgpemepeaa
open Go Go.RowKit Coup

def fillB (b : List UInt8) (i : Nat) : List UInt8 := (List.range 512).map fun j => if j < i then b.getD (j % b.length) 0 else 0
def pageB (b : List UInt8) : List UInt8 := if 0 < b.length then fillB b 512 else fillB b 0
theorem fillB_len (b : List UInt8) (i : Nat) : (fillB b i).length = 512 := by simp [fillB]
theorem pageB_len (b : List UInt8) : (pageB b).length = 512 := by unfold pageB; split <;> exact fillB_len ..
theorem fillB_set (b : List UInt8) {i : Nat} (h : i < 512) : (bv (fillB b i)).set i (byteV (b.getD (i % b.length) 0)) = bv (fillB b (i + 1)) := by
  suffices hs : (fillB b i).set i (b.getD (i % b.length) 0) = fillB b (i + 1) by rw [← hs]; exact set_bv _ _ _
  refine List.ext_getElem? fun j => ?_
  rw [List.getElem?_set, fillB_len]
  by_cases e : i = j
  · subst e
    rw [if_pos rfl, if_pos h, fillB, List.getElem?_map, List.getElem?_range h]
    simp
  · rw [if_neg e, fillB, fillB, List.getElem?_map, List.getElem?_map]
    by_cases hj : j < 512
    · rw [List.getElem?_range hj]
      simp only [Option.map_some]
      congr 1
      by_cases hji : j < i
      · rw [if_pos hji, if_pos (by omega)]
      · rw [if_neg hji, if_neg (by omega)]
    · rw [List.getElem?_eq_none (by rw [List.length_range]; omega)]; rfl
theorem fillB_zero (b : List UInt8) : bv (fillB b 0) = List.replicate 512 (byteV 0) := by
  refine List.eq_replicate_iff.2 ⟨by rw [bv_length, fillB_len], fun v hv => ?_⟩
  obtain ⟨x, hx, rfl⟩ := List.mem_map.1 hv
  obtain ⟨j, _, rfl⟩ := List.mem_map.1 hx
  simp
set_option maxRecDepth 20000 in
set_option maxHeartbeats 1000000 in
theorem page38 (b : List UInt8) (p : Option Addr) (n cp : Nat) (w : World) (h : SlAt w p n 1 (bv b)) :
    Calls Try.prog 38 [.slice p n cp].toArray w (Ret fun v w' => v = .agg (bv (pageB b)).toArray ∧ Below w.heap.size w w') := by
  have hB := Below.refl w.heap.size w
  have hbl : b.length = n := by simpa [bv_length] using h.len
  have hfl := fillB_len b
  have hpl := pageB_len b
  refine calls_W (fn := Try.f38) (rs := [.cell 2 87]) (n := 23) Try.func38 rfl rfl Try.ntmps38 (by kernel_rfl) rfl ?_
  refine W_seq ?_
  refine W_region ?_
  refine WR_mk rfl (mk_alloc (List.replicate 512 (byteV 0)) (by kernel_rfl) (fun g2 w2 hg2 hr2 hb2 => ?_))
  have ge_hB_g2 := Nat.le_trans hB.size hg2
  replace hB := hB.acc hb2
  refine WR_nil ?_
  refine thenN ?_
  refine W_seq ?_
  refine W_seq ?_
  refine W_region ?_
  refine WR_val rfl (rn_assign) ?_
  refine WR_nil ?_
  refine thenN ?_
  refine W_block ?_
  rw [← fillB_zero b] at hr2
  refine W_loop (α := Nat) 0 (fun k => [(3, .int .i64 (k : Nat)), (0, .slice p n cp), (2, .pointer (some ⟨g2, 0, none⟩))])
    (fun k w' => k ≤ 512 ∧ (n = 0 → k = 0) ∧ row w' g2 (bv (fillB b k)) 87 ∧ Below w.heap.size w w') (fun k => 512 - k) ⟨rfl, rfl, rfl, rfl⟩ ⟨by omega, fun _ => rfl, hr2, hB⟩ ?_
  clear hB hr2
  rintro i f wr ⟨hi, hz, hr2, hB⟩
  refine W_seq ?_
  refine W_seq ?_
  refine W_region ?_
  refine WR_val rfl (rn_move) ?_
  refine WR_val rfl (rn_lss rfl rfl) ?_
  refine WR_val rfl (rn_move) ?_
  refine WR_part 6 rfl (fun hlt => ?_) (fun hlt => ?_)
  ·
    refine WR_yes rfl ?_
    refine WR_val rfl (rn_move) ?_
    refine WR_yes rfl ?_
    refine WR_val rfl (rn_lenSl (e := 5) (sz := 1) (by kernel_rfl) rfl rfl) ?_
    refine WR_yes rfl ?_
    refine WR_val rfl (rn_gtr rfl rfl) ?_
    refine WR_val rfl (rn_pick_t rfl) ?_
    refine WR_nil ?_
    refine thenN ?_
    refine W_ifp rfl (fun hpos => ?_) (fun hpos => ?_)
    ·
      refine W_skip ?_
      refine thenN ?_
      refine W_seq ?_
      refine W_block ?_
      refine W_region ?_
      refine WR_val rfl (rn_move) ?_
      refine WR_val rfl (rn_move) ?_
      refine WR_val rfl (rn_move) ?_
      refine WR_val rfl (rn_move) ?_
      refine WR_val rfl (rn_lenSl (e := 5) (sz := 1) (by kernel_rfl) rfl rfl) ?_
      refine WR_val rfl (rn_rem0 rfl rfl (by omega) (by omega)) ?_
      have hmod : i % n < n := Nat.mod_lt _ (by omega)
      have hv := bv_getD b (i % n) (by omega)
      have hfi := hfl i
      have hobt := h.some (by omega)
      obtain ⟨gp, op, rfl, _⟩ := hobt
      refine WR_val rfl (rn_indexSl1 (e := 5) (by kernel_rfl) rfl rfl (i % n) (by first | rfl | omega) (by omega)) ?_
      refine WR_val rfl (rn_load rfl (Ld.sl1 (h.below hB (Nat.le_refl _)) (by kernel_rfl) hv)) ?_
      refine WR_val rfl (rn_indexAr1 (e := 5) (m := 512) (by kernel_rfl) rfl rfl (i) (by omega) (by omega)) ?_
      refine WR_sk rfl (sk_store1 rfl rfl rfl rfl hr2 (by kernel_rfl) (by first | (simp only [List.length_replicate]; omega) | (simp only [iv_length]; omega) | (simp only [bv_length, List.length_set]; omega) | simp) (fun w901 hr2 ho901 => ?_))
      replace hB := ho901.below hB ge_hB_g2
      refine WR_nil ?_
      refine blockN ?_
      refine thenN ?_
      refine W_region ?_
      refine WR_val rfl (rn_move) ?_
      refine WR_val rfl (rn_add rfl rfl (Coup.w64 (by omega))) ?_
      refine WR_val rfl (rn_assign) ?_
      refine WR_nil ?_
      have hfs := fillB_set b (i := i) (by omega)
      rw [hbl] at hfs
      replace hfs : (bv (fillB b i)).set (0 + i) (byteV (b.getD (i % n) 0)) = bv (fillB b (i + 1)) := by rw [Nat.zero_add]; exact hfs
      have hr3 : row w901 g2 (bv (fillB b (i + 1))) 87 := by rw [← hfs]; exact hr2
      refine loopN ⟨i + 1, by omega, ⟨by go_num, rfl, rfl, rfl⟩, by omega, fun h => by omega, hr3, hB⟩
    ·
      have hpg : fillB b i = pageB b := by rw [pageB, if_neg (by omega), hz (by omega)]
      rw [hpg] at hr2
      refine W_exit ?_
      refine thenX ?_
      refine loopX ?_
      refine blockX ?_
      refine thenN ?_
      refine W_seq ?_
      refine W_region ?_
      refine WR_val rfl (rn_load rfl (Ld.rowA (k := 512) hr2 (by kernel_rfl) (by kernel_rfl) (by rw [bv_length, hpl]))) ?_
      refine WR_sk rfl (sk_storeA 512 (bv (pageB b)) rfl rfl hr2 (by kernel_rfl) (by first | assumption | (simp; done) | (simp [bv_length, *]; done)) (by first | assumption | (simp; done) | (simp [bv_length, *]; done) | rfl) (by first | exact bv_one _ | assumption | (simp [Value.oneCell']; done)) (fun w902 hr2 ho902 => ?_))
      replace hB := ho902.below hB ge_hB_g2
      refine WR_nil ?_
      refine thenN ?_
      refine W_ret ?_
      refine ret_ret [_] ⟨⟨_, rfl, Ld.rowA (k := 512) hr2 (by kernel_rfl) (by kernel_rfl) (by first | (simp; done) | (simp [bv_length, *]; done) | assumption)⟩, trivial⟩ ?_
      exact ⟨rfl, hB⟩
  ·
    have hi2 : i = 512 := by omega
    subst hi2
    have hpg : fillB b 512 = pageB b := by rw [pageB, if_pos (by by_cases h0 : n = 0 <;> omega)]
    rw [hpg] at hr2
    refine WR_no rfl rfl ?_
    refine WR_no rfl rfl ?_
    refine WR_no rfl rfl ?_
    refine WR_val rfl (rn_pick_f rfl) ?_
    refine WR_nil ?_
    refine thenN ?_
    refine W_f rfl ?_
    refine W_exit ?_
    refine thenX ?_
    refine loopX ?_
    refine blockX ?_
    refine thenN ?_
    refine W_seq ?_
    refine W_region ?_
    refine WR_val rfl (rn_load rfl (Ld.rowA (k := 512) hr2 (by kernel_rfl) (by kernel_rfl) (by rw [bv_length, hpl]))) ?_
    refine WR_sk rfl (sk_storeA 512 (bv (pageB b)) rfl rfl hr2 (by kernel_rfl) (by first | assumption | (simp; done) | (simp [bv_length, *]; done)) (by first | assumption | (simp; done) | (simp [bv_length, *]; done) | rfl) (by first | exact bv_one _ | assumption | (simp [Value.oneCell']; done)) (fun w903 hr2 ho903 => ?_))
    replace hB := ho903.below hB ge_hB_g2
    refine WR_nil ?_
    refine thenN ?_
    refine W_ret ?_
    refine ret_ret [_] ⟨⟨_, rfl, Ld.rowA (k := 512) hr2 (by kernel_rfl) (by kernel_rfl) (by first | (simp; done) | (simp [bv_length, *]; done) | assumption)⟩, trivial⟩ ?_
    exact ⟨rfl, hB⟩
end Go.Proofs.Ytkkgahgpemepeaa

/- The law's records. -/
namespace Go.Proofs.Ytkkgahgpemepeaa
open Go Go.RowKit Coup

structure LeafT where
  num : Int
  b : List UInt8
def recOf (L : List LeafT) : Rec := L.map fun x => ⟨x.num, pageB x.b⟩
theorem recOf_ok (L : List LeafT) : chsOk (recOf L) := fun c hc => by
  obtain ⟨x, _, rfl⟩ := List.mem_map.1 hc
  exact pageB_len _
theorem recOf_len (L : List LeafT) : (recOf L).length = L.length := List.length_map ..
/-- Leaves in memory. -/
structure LvAt (w : World) (p : Option Addr) (n : Nat) (L : List LeafT) : Prop where
  len : L.length = n
  ex : ∃ vs, SlAt w p n 2 vs ∧ ∀ (i : Nat) (x : LeafT), L[i]? = some x → vs[i * 2]? = some (.int .i64 x.num) ∧ ∃ q c, vs[i * 2 + 1]? = some (.slice q x.b.length c) ∧ SlAt w q x.b.length 1 (bv x.b)
set_option maxRecDepth 20000 in
set_option maxHeartbeats 1000000 in
theorem record8 (L : List LeafT) (p : Option Addr) (n cp : Nat) (w : World) (h : LvAt w p n L) (hn2 : n ≤ 1000000) :
    Calls Try.prog 8 [.slice p n cp].toArray w (Ret fun v w' => ownsAt w' w.heap.size 90 513 v n (chsV (recOf L)) ∧ Below w.heap.size w w') := by
  have hB := Below.refl w.heap.size w
  have hml : maxLen = 9223372036854775807 := by decide
  obtain ⟨hn, vs, hs, hat⟩ := h
  refine calls_W (fn := Try.f8) (rs := [.tmp 2]) (n := 27) Try.func8 rfl rfl Try.ntmps8 (by kernel_rfl) rfl ?_
  refine W_seq ?_
  refine W_region ?_
  refine WR_val rfl (rn_assign) ?_
  refine WR_nil ?_
  refine thenN ?_
  refine W_seq ?_
  refine W_region ?_
  refine WR_val rfl (rn_assign) ?_
  refine WR_nil ?_
  refine thenN ?_
  refine W_seq ?_
  refine W_seq ?_
  refine W_region ?_
  refine WR_val rfl (rn_assign) ?_
  refine WR_nil ?_
  refine thenN ?_
  refine W_block ?_
  refine W_loop (α := Nat × Value) (0, .slice none 0 0) (fun k => [(4, .int .i64 (k.1 : Nat)), (3, k.2), (0, .slice p n cp)])
    (fun k w' => k.1 ≤ n ∧ ownsAt w' w.heap.size 90 513 k.2 k.1 (chsV (recOf (L.take k.1))) ∧ Below w.heap.size w w') (fun k => n - k.1) ⟨rfl, rfl, rfl, rfl⟩ ⟨Nat.zero_le _, ownsAt_nil _ _ _ _, hB⟩ ?_
  clear hB
  rintro ⟨i, u⟩ f wr ⟨hi, hu, hB⟩
  dsimp only at *
  refine W_seq ?_
  refine W_seq ?_
  refine W_region ?_
  refine WR_val rfl (rn_move) ?_
  refine WR_val rfl (rn_move) ?_
  refine WR_val rfl (rn_lenSl (e := 66) (sz := 2) (by kernel_rfl) rfl rfl) ?_
  refine WR_val rfl (rn_lss rfl rfl) ?_
  refine WR_nil ?_
  refine thenN ?_
  refine W_ifp rfl (fun hlt => ?_) (fun hlt => ?_)
  ·
    refine W_skip ?_
    refine thenN ?_
    refine W_seq ?_
    refine W_block ?_
    have hex : ∃ c, L[i]? = some c := ⟨_, List.getElem?_eq_getElem (by omega)⟩
    obtain ⟨x, hx⟩ := hex
    have hobt := hs.some (by omega)
    obtain ⟨g, o, rfl, _⟩ := hobt
    have hobt := hat i x hx
    obtain ⟨hv1, q, qc, hv2, hq⟩ := hobt
    have hpl := pageB_len x.b
    have htk : recOf (L.take (i + 1)) = recOf (L.take i) ++ [⟨x.num, pageB x.b⟩] := by rw [List.take_add_one, hx]; simp [recOf]
    have hpg := fun w' (hb : Below w.heap.size w w') => page38 x.b q x.b.length qc w' (hq.below hb (Nat.le_refl _))
    have hob : ∃ P, pageB x.b = P := ⟨_, rfl⟩
    obtain ⟨P, hP⟩ := hob
    rw [hP] at hpl htk
    simp only [hP] at hpg
    have hchl := chV_len (c := ⟨x.num, P⟩) hpl
    have hch1 := chV_one ⟨x.num, P⟩
    refine W_draw' (u.ownBlock.toList) (by kernel_rfl) ?_
    intro w901 hb901 hS901
    replace hu := hu.new hb901
    replace hB := hB.acc hb901
    have hu_d901 := hu
    have hB_d901 := hB
    refine WA_take 0 (by kernel_rfl) rfl (fun _ _ => rn_move) ?_
    refine WA_take 1 (by kernel_rfl) rfl (fun _ _ => rn_move) ?_
    refine WA_take 2 (by kernel_rfl) rfl (fun _ _ => rn_move) ?_
    refine WA_take 3 (by kernel_rfl) rfl (fun _ _ => rn_indexSl (e := 66) (sz := 2) (by kernel_rfl) rfl rfl (i) (by omega) (by omega)) ?_
    refine WA_take 4 (by kernel_rfl) rfl (fun _ _ => rn_fieldAddr (off := 0) (by kernel_rfl) rfl) ?_
    refine WA_take 5 (by kernel_rfl) rfl (fun w' hS' => rn_load rfl (Ld.one (by kernel_rfl) ((hs.below (hB_d901.kpd hS' (by first | (simp; done) | (simp; omega) | (simp [*]; done) | exact notLL (Or.inl (by omega)) | exact notLL (Or.inr (by simp)) | exact fun g hm => Nat.le_trans (by omega) (inLL hm).1 | (intro b o e; cases e; exact notLL (Or.inl (by omega))) | (intro b hm; have := (hu.lt b (Option.mem_toList.1 hm)).1; omega) | (intro b o e; cases e; intro hm; have := (hu.lt _ (Option.mem_toList.1 hm)).1; omega))) (Nat.le_refl _)).cell (i * 2) hv1))) ?_
    refine WA_take 6 (by kernel_rfl) rfl (fun _ _ => rn_move) ?_
    refine WA_take 7 (by kernel_rfl) rfl (fun _ _ => rn_move) ?_
    refine WA_take 8 (by kernel_rfl) rfl (fun _ _ => rn_indexSl (e := 66) (sz := 2) (by kernel_rfl) rfl rfl (i) (by omega) (by omega)) ?_
    refine WA_take 9 (by kernel_rfl) rfl (fun _ _ => rn_fieldAddr (off := 1) (by kernel_rfl) rfl) ?_
    refine WA_take 10 (by kernel_rfl) rfl (fun w' hS' => rn_load rfl (Ld.one (by kernel_rfl) ((hs.below (hB_d901.kpd hS' (by first | (simp; done) | (simp; omega) | (simp [*]; done) | exact notLL (Or.inl (by omega)) | exact notLL (Or.inr (by simp)) | exact fun g hm => Nat.le_trans (by omega) (inLL hm).1 | (intro b o e; cases e; exact notLL (Or.inl (by omega))) | (intro b hm; have := (hu.lt b (Option.mem_toList.1 hm)).1; omega) | (intro b o e; cases e; intro hm; have := (hu.lt _ (Option.mem_toList.1 hm)).1; omega))) (Nat.le_refl _)).cell (i * 2 + 1) hv2))) ?_
    refine WA_one 11 (by kernel_rfl) ?_
    refine WO_ent rfl rfl (rn_call (by kernel_rfl) rfl) (hpg _ hB) ?_
    rintro _ w22 ⟨rfl, hb22⟩
    have hS902 := hS901.add0 hb22
    refine ⟨hS902, ?_⟩
    replace hu := hu.new hb22
    replace hB := hB.acc hb22
    refine WA_take 12 (by kernel_rfl) rfl (fun _ _ => rn_buildCh hpl rfl rfl rfl) ?_
    refine WA_one 13 (by kernel_rfl) ?_
    refine WO_mk rfl rfl (mk_one (e := 90) (.agg (chV ⟨x.num, P⟩).toArray) (chV ⟨x.num, P⟩) (([Value.int .i64 0]) ++ (List.replicate 512 (Value.int .u8 0))) 513 (by kernel_rfl) (by kernel_rfl) rfl rfl (by first | rfl | (simp; done) | (simp [bv_length, *]; done)) ⟨by decide, by decide⟩ (fun g24 w24 hg24 hr24 hb24 => ?_))
    have hS903 := hS902.add0 hb24
    refine ⟨hS903, ?_⟩
    have ge_hS902_g24 := Nat.le_trans hS902.size hg24
    have ge_hB_g24 := Nat.le_trans hB.size hg24
    replace hu := hu.new hb24
    replace hB := hB.acc hb24
    refine WA_one 14 (by kernel_rfl) ?_
    have hs24 := hr24.slA (m := 1) (sz := 513) hchl (by omega)
    have sz_hB_25 := hB.size
    refine WO_mk rfl rfl (mk_append (e := 90) (sz := 513) (bytes := 520) (z := .agg (([Value.int .i64 0]) ++ (List.replicate 512 (Value.int .u8 0))).toArray) (by kernel_rfl) rfl (by kernel_rfl) rfl (by decide) rfl hu rfl hs24 hch1 (by unfold maxLen; omega) (by omega) (fun hm0 => by omega) (fun v25 w25 hv25 hgr25 hfr25 => ?_))
    have hS904 := hS903.ownS hu hgr25 (by first | (left; omega) | exact Or.inr (fun _ h => h) | exact Or.inr (fun _ h => List.mem_cons_of_mem _ h))
    refine ⟨hS904, ?_⟩
    replace hB := hB.own hu hgr25 (by omega)
    refine WA_take 15 (by kernel_rfl) rfl (fun _ _ => rn_assign) ?_
    refine WA_done (by kernel_rfl) ?_
    refine blockN ?_
    refine thenN ?_
    refine W_region ?_
    refine WR_val rfl (rn_move) ?_
    refine WR_val rfl (rn_add rfl rfl (Coup.w64 (by omega))) ?_
    refine WR_val rfl (rn_assign) ?_
    refine WR_nil ?_
    rw [← chsV_snoc, ← htk] at hv25
    refine loopN ⟨(i + 1, v25), by show n - (i + 1) < n - i; omega, ⟨by go_num, rfl, rfl, rfl⟩, by show i + 1 ≤ n; omega, hv25, hB⟩
  ·
    have hin : i = n := by omega
    subst hin
    rw [List.take_of_length_le (by omega)] at hu
    refine W_exit ?_
    refine thenX ?_
    refine loopX ?_
    refine blockX ?_
    refine thenN ?_
    refine W_seq ?_
    refine W_region ?_
    refine WR_val rfl (rn_move) ?_
    refine WR_val rfl (rn_assign) ?_
    refine WR_nil ?_
    refine thenN ?_
    refine W_ret ?_
    refine ret_ret [_] ⟨rfl, trivial⟩ ?_
    exact ⟨hu, hB⟩
end Go.Proofs.Ytkkgahgpemepeaa

/- The reference: the record of bytes. -/
namespace Go.Proofs.Ytkkgahgpemepeaa
open Go Go.RowKit Coup

theorem get44w (p : Option Addr) (n c : Nat) (l : List UInt8) (w : World) (h : SlAt w p n 1 (bv l)) (hn : n ≤ 8) : Calls Try.prog 44 [.slice p n c].toArray w (Ret fun v w' => v = .int .u64 (numB l) ∧ w = w') := calls_ret (get36 p n c l w h hn)
theorem sp_ch (a : Int) (pg : List UInt8) (h : pg.length = 512) : splice (.int .i64 a :: List.replicate 512 (Value.int .u8 0)) 1 (bv pg) = chV ⟨a, pg⟩ := by
  have h1 : (Value.int .i64 a :: List.replicate 512 (Value.int .u8 0)).drop (1 + (bv pg).length) = [] := List.drop_of_length_le (by rw [bv_length, h, List.length_cons, List.length_replicate]; omega)
  rw [splice, h1, List.append_nil]; rfl
theorem ofR_eq (b : List UInt8) (m : Nat) (hl : b.length = 516 * m) : ofR b = if mayR (ofL b m) then some (ofL b m) else none := by
  have h1 : b.length / 516 = m := by omega
  have h2 : b.length % 516 = 0 := by omega
  rw [ofR, ofOk, h1, h2, mayR, ofL_len]
  rfl
set_option maxRecDepth 20000 in
set_option maxHeartbeats 2000000 in
theorem rof16 (b : List UInt8) (p : Option Addr) (n cp : Nat) (w : World) (h : SlAt w p n 1 (bv b)) (hcp : n ≤ cp) (hn2 : n ≤ 1000000) :
    Calls Try.prog 16 [.slice p n cp].toArray w (Ret fun v w' => ((∃ r q c, ofR b = some r ∧ v = .tuple #[.slice q r.length c, .bool true] ∧ SlAt w' q r.length 513 (chsV r)) ∨ (ofR b = none ∧ v = .tuple #[.slice none 0 0, .bool false])) ∧ Below w.heap.size w w') := by
  have hB := Below.refl w.heap.size w
  have hml : maxLen = 9223372036854775807 := by decide
  have hl : b.length = n := by simpa [bv_length] using h.len
  refine calls_W (fn := Try.f16) (rs := [.tmp 2, .tmp 3]) (n := 42) Try.func16 rfl rfl Try.ntmps16 (by kernel_rfl) rfl ?_
  refine W_seq ?_
  refine W_region ?_
  refine WR_val rfl (rn_assign) ?_
  refine WR_val rfl (rn_assign) ?_
  refine WR_nil ?_
  refine thenN ?_
  refine W_seq ?_
  refine W_seq ?_
  refine W_region ?_
  refine WR_val rfl (rn_move) ?_
  refine WR_val rfl (rn_lenSl (e := 5) (sz := 1) (by kernel_rfl) rfl rfl) ?_
  refine WR_val rfl (rn_rem0 rfl rfl (by omega) (by omega)) ?_
  refine WR_val rfl (rn_neq rfl rfl) ?_
  refine WR_nil ?_
  refine thenN ?_
  refine W_ifp rfl (fun hrem => ?_) (fun hrem => ?_)
  ·
    refine W_seq ?_
    refine W_region ?_
    refine WR_val rfl (rn_assign) ?_
    refine WR_val rfl (rn_assign) ?_
    refine WR_nil ?_
    refine thenN ?_
    refine W_ret ?_
    refine thenR ?_
    refine ret_ret [_, _] ⟨rfl, rfl, trivial⟩ ?_
    have hno : decide (n % 516 = 0) = false := decide_eq_false (by omega)
    exact ⟨.inr ⟨by rw [ofR, ofOk, hl, hno]; rfl, rfl⟩, hB⟩
  ·
    have hob : ∃ m, n = 516 * m := ⟨n / 516, by omega⟩
    obtain ⟨m, hm⟩ := hob
    have hofr := ofR_eq b m (by omega)
    refine W_skip ?_
    refine thenN ?_
    refine W_seq ?_
    refine W_region ?_
    refine WR_val rfl (rn_assign) ?_
    refine WR_nil ?_
    refine thenN ?_
    refine W_seq ?_
    refine W_seq ?_
    refine W_region ?_
    refine WR_val rfl (rn_assign) ?_
    refine WR_nil ?_
    refine thenN ?_
    refine W_block ?_
    refine W_loop (α := Nat × Value) (0, .slice none 0 0) (fun k => [(5, .int .i64 ((516 * k.1 : Nat) : Int)), (4, k.2), (0, .slice p n cp)])
      (fun k w' => k.1 ≤ m ∧ ownsAt w' w.heap.size 90 513 k.2 k.1 (chsV (ofL b k.1)) ∧ Below w.heap.size w w') (fun k => m - k.1)
      ⟨rfl, rfl, rfl, rfl⟩ ⟨Nat.zero_le _, ownsAt_nil _ _ _ _, hB⟩ ?_
    clear hB
    rintro ⟨k, u⟩ f wr ⟨hk, hu, hB⟩
    dsimp only at *
    have hBr := Below.refl wr.heap.size wr
    refine W_seq ?_
    refine W_seq ?_
    refine W_region ?_
    refine WR_val rfl (rn_move) ?_
    refine WR_val rfl (rn_move) ?_
    refine WR_val rfl (rn_lenSl (e := 5) (sz := 1) (by kernel_rfl) rfl rfl) ?_
    refine WR_val rfl (rn_lss rfl rfl) ?_
    refine WR_nil ?_
    refine thenN ?_
    refine W_ifp rfl (fun hlt => ?_) (fun hlt => ?_)
    ·
      refine W_skip ?_
      refine thenN ?_
      refine W_seq ?_
      refine W_block ?_
      refine W_seq ?_
      have hs := h.below hB (Nat.le_refl _)
      have hobt := h.some (by omega)
      obtain ⟨gp, op, rfl, hgp⟩ := hobt
      have hs4 := hs.subB (516 * k) 4 (by omega)
      have hs5 := fun w' (hb : Below w.heap.size w w') => (h.below hb (Nat.le_refl _)).subB (516 * k + 4) 512 (by omega)
      have hcp2 := chOf_page (b := b) (i := k) (by omega)
      have hobt : ∃ x, numB ((b.drop (516 * k)).take 4) = x := ⟨_, rfl⟩
      obtain ⟨x, hx⟩ := hobt
      have hx4 : x < 4294967296 := by rw [← hx]; exact numB_lt_of _ 4 (by simp; omega)
      have hnu := fun c => get44w (some ⟨gp, op + 516 * k, none⟩) 4 c _ wr hs4 (by omega)
      simp only [hx] at hnu
      refine W_region ?_
      refine WR_val rfl (rn_move) ?_
      refine WR_val rfl (rn_move) ?_
      refine WR_val rfl (rn_move) ?_
      refine WR_val rfl (rn_add rfl rfl (Coup.w64 (by omega))) ?_
      refine WR_val rfl (rn_sliceSl1' (e := 5) (516 * k) (516 * k + 4) (_) (4) (by kernel_rfl) rfl ⟨_, _, rfl, by omega⟩ ⟨_, _, rfl, by omega⟩ rfl (by simp) (by omega) (by omega) (by omega) (by omega) (by omega)) ?_
      refine WR_ent rfl (rn_call (by kernel_rfl) rfl) (hnu _) ?_
      rintro _ _ ⟨rfl, rfl⟩
      refine WR_val rfl (rn_conv (k := .i64) (by kernel_rfl) (by kernel_rfl) rfl (Coup.w64 (by omega))) ?_
      refine WR_val rfl (rn_built1 (.int .i64 (x : Int)) (.int .i64 (x : Int) :: List.replicate 512 (Value.int .u8 0)) rfl (by kernel_rfl)) ?_
      refine WR_mk rfl (mk_alloc (([Value.int .i64 0]) ++ (List.replicate 512 (Value.int .u8 0))) (by kernel_rfl) (fun g6 w6 hg6 hr6 hb6 => ?_))
      have ge_hB_g6 := Nat.le_trans hB.size hg6
      have ge_hBr_g6 := Nat.le_trans hBr.size hg6
      replace hB := hB.acc hb6
      replace hBr := hBr.acc hb6
      refine WR_sk rfl (sk_storeA 513 (.int .i64 (x : Int) :: List.replicate 512 (Value.int .u8 0)) rfl rfl hr6 (by kernel_rfl) (by first | assumption | (simp; done) | (simp [bv_length, *]; done)) (by first | assumption | (simp; done) | (simp [bv_length, *]; done) | rfl) (by first | exact bv_one _ | assumption | (simp [Value.oneCell']; done)) (fun w901 hr6 ho901 => ?_))
      replace hB := ho901.below hB ge_hB_g6
      replace hBr := ho901.below hBr ge_hBr_g6
      refine WR_nil ?_
      refine thenN ?_
      refine W_seq ?_
      refine W_draw' [g6] (by kernel_rfl) ?_
      intro w902 hb902 hS902
      replace hr6 := hr6.new hb902
      replace hB := hB.acc hb902
      replace hBr := hBr.acc hb902
      have hr6_d902 := hr6
      have hB_d902 := hB
      have hBr_d902 := hBr
      refine WA_take 0 (by kernel_rfl) rfl (fun _ _ => rn_fieldAddr (off := 1) (by kernel_rfl) rfl) ?_
      refine WA_take 1 (by kernel_rfl) rfl (fun _ _ => rn_sliceAr1' (e := 5) (n := 512) (0) (512) (512) (512) (by kernel_rfl) rfl rfl rfl rfl (by simp) (by omega) (by omega) (by omega) (by omega) (by omega)) ?_
      refine WA_take 2 (by kernel_rfl) rfl (fun _ _ => rn_move) ?_
      refine WA_take 3 (by kernel_rfl) rfl (fun _ _ => rn_move) ?_
      refine WA_take 4 (by kernel_rfl) rfl (fun _ _ => rn_add rfl rfl (Coup.w64 (by omega))) ?_
      refine WA_take 5 (by kernel_rfl) rfl (fun _ _ => rn_move) ?_
      refine WA_take 6 (by kernel_rfl) rfl (fun _ _ => rn_add rfl rfl (Coup.w64 (by omega))) ?_
      refine WA_take 7 (by kernel_rfl) rfl (fun _ _ => rn_sliceSl1' (e := 5) (516 * k + 4) (516 * k + 516) (_) (512) (by kernel_rfl) rfl ⟨_, _, rfl, by omega⟩ ⟨_, _, rfl, by omega⟩ rfl (by simp) (by omega) (by omega) (by omega) (by omega) (by omega)) ?_
      refine WA_one 8 (by kernel_rfl) ?_
      refine WO_mk rfl rfl (mk_copy (e := 5) (by kernel_rfl) (by kernel_rfl) rfl rfl g6 (1) hr6 (bv (chOf b k).page) (by rw [bv_length, hcp2]; simp) (fun _ => ⟨rfl, _, rfl, fun j v hv => by rw [Addr.add_lit]; exact (hs5 _ hB).cell j hv⟩) (by rw [bv_length, hcp2]; simp) (bv_one _) (fun w33 hr6 ho33 => ?_))
      have hS903 := hS902.add1 ho33 (by first | (left; omega) | (right; simp; done) | (right; simp; omega))
      refine ⟨hS903, ?_⟩
      replace hB := ho33.below hB ge_hB_g6
      replace hBr := ho33.below hBr ge_hBr_g6
      refine WA_done (by kernel_rfl) ?_
      refine thenN ?_
      have hsp : splice (.int .i64 (x : Int) :: List.replicate 512 (Value.int .u8 0)) 1 (bv (chOf b k).page) = chV (chOf b k) := (sp_ch (x : Int) _ hcp2).trans (by rw [← hx]; rfl)
      rw [hsp] at hr6
      have hofs := ofL_snoc b k
      have hob : ∃ C, chOf b k = C := ⟨_, rfl⟩
      obtain ⟨C, hC⟩ := hob
      rw [hC] at hofs hcp2 hr6
      have hchl := chV_len hcp2
      have hch1 := chV_one C
      refine W_region ?_
      refine WR_val rfl (rn_move) ?_
      refine WR_val rfl (rn_load rfl (Ld.rowA (k := 513) hr6 (by kernel_rfl) (by kernel_rfl) hchl)) ?_
      refine WR_mk rfl (mk_one (e := 90) (.agg (chV C).toArray) (chV C) (([Value.int .i64 0]) ++ (List.replicate 512 (Value.int .u8 0))) 513 (by kernel_rfl) (by kernel_rfl) rfl rfl (by first | rfl | (simp; done) | (simp [bv_length, *]; done)) ⟨by decide, by decide⟩ (fun g36 w36 hg36 hr36 hb36 => ?_))
      have ge_hB_g36 := Nat.le_trans hB.size hg36
      have ge_hBr_g36 := Nat.le_trans hBr.size hg36
      have lt_g6_g36 : g6 < g36 := Nat.lt_of_lt_of_le hr6.lt hg36
      replace hr6 := hr6.new hb36
      replace hB := hB.acc hb36
      replace hBr := hBr.acc hb36
      have hs36 := hr36.slA (m := 1) (sz := 513) hchl (by omega)
      replace hu := hu.new hBr
      have hbz := hBr.size
      have hbz2 := hB.size
      have sz_hB_37 := hB.size
      refine WR_mk rfl (mk_append (e := 90) (sz := 513) (bytes := 520) (z := .agg (([Value.int .i64 0]) ++ (List.replicate 512 (Value.int .u8 0))).toArray) (by kernel_rfl) rfl (by kernel_rfl) rfl (by decide) rfl hu rfl hs36 hch1 (by unfold maxLen; omega) (by omega) (fun hm0 => by omega) (fun v37 w37 hv37 hgr37 hfr37 => ?_))
      replace hB := hB.own hu hgr37 (by omega)
      refine WR_val rfl (rn_assign) ?_
      refine WR_nil ?_
      refine blockN ?_
      refine thenN ?_
      refine W_region ?_
      refine WR_val rfl (rn_move) ?_
      refine WR_val rfl (rn_add rfl rfl (Coup.w64 (by omega))) ?_
      refine WR_val rfl (rn_assign) ?_
      refine WR_nil ?_
      rw [← chsV_snoc, ← hofs] at hv37
      refine loopN ⟨(k + 1, v37), by show m - (k + 1) < m - k; omega, ⟨by go_num, rfl, rfl, rfl⟩, by show k + 1 ≤ m; omega, hv37, hB⟩
    ·
      have hkm : k = m := by omega
      subst hkm
      have hfo := hu.form
      obtain ⟨pu, cu, rfl⟩ := hfo
      have hlen := ofL_len b k
      have hokl := ofL_ok (b := b) (n := k) (by omega)
      have hobt : ∃ mr, mayR (ofL b k) = mr := ⟨_, rfl⟩
      obtain ⟨mr, hmr⟩ := hobt
      have hmy := fun w' (h : SlAt w' pu k 513 (chsV (ofL b k))) => may12 (ofL b k) hokl pu k cu w' h hlen (by omega)
      rw [hmr] at hmy hofr
      refine W_exit ?_
      refine thenX ?_
      refine loopX ?_
      refine blockX ?_
      refine thenN ?_
      refine W_seq ?_
      refine W_seq ?_
      refine W_region ?_
      refine WR_val rfl (rn_move) ?_
      refine WR_ent rfl (rn_call (by kernel_rfl) rfl) (hmy _ hu.sl) ?_
      rintro _ _ ⟨rfl, rfl⟩
      refine WR_val rfl (rn_not rfl) ?_
      refine WR_nil ?_
      refine thenN ?_
      refine W_ifnb rfl (fun hd => ?_) (fun hd => ?_)
      ·
        refine W_seq ?_
        refine W_region ?_
        refine WR_val rfl (rn_assign) ?_
        refine WR_val rfl (rn_assign) ?_
        refine WR_nil ?_
        refine thenN ?_
        refine W_ret ?_
        refine thenR ?_
        refine ret_ret [_, _] ⟨rfl, rfl, trivial⟩ ?_
        rw [hd] at hofr
        exact ⟨.inr ⟨hofr, rfl⟩, hB⟩
      ·
        rw [hd] at hofr
        refine W_skip ?_
        refine thenN ?_
        refine W_seq ?_
        refine W_region ?_
        refine WR_val rfl (rn_move) ?_
        refine WR_val rfl (rn_assign) ?_
        refine WR_val rfl (rn_assign) ?_
        refine WR_nil ?_
        refine thenN ?_
        refine W_ret ?_
        refine ret_ret [_, _] ⟨rfl, rfl, trivial⟩ ?_
        exact ⟨.inl ⟨_, pu, cu, hofr, by rw [hlen]; rfl, by rw [hlen]; exact hu.sl⟩, hB⟩
end Go.Proofs.Ytkkgahgpemepeaa

/- Logs, plainly: rows written on a disk that is alive. -/
namespace Go.Proofs.Ytkkgahgpemepeaa
open Go Go.RowKit Coup

theorem readA {D : Dk} {k : Nat} (h : Alive D k) (a : Nat) (s : Sec) {j : Nat} (hj : j < D.V.length) : readD (writeA D (a : Int) s) j = if a = j then s else readD D j := by
  have h1 := (h.writeA (a : Int) s).2.2 j hj
  unfold readD
  rw [h1]
  by_cases e : a = j
  · rw [if_pos (by omega), if_pos e]; simp [lastS]
  · rw [if_neg (by omega), if_neg e]
theorem writesW_alive : ∀ (R : List Sec) {D : Dk} {k : Nat} (a : Nat), Alive D k → (writesW D a R).2 = true ∧ Alive (writesW D a R).1 (k + R.length) ∧
    ∀ j, j < D.V.length → readD (writesW D a R).1 j = if a ≤ j ∧ j < a + R.length then R.getD (j - a) zeroS else readD D j
  | [], D, k, a, h => ⟨rfl, h, fun j hj => by rw [if_neg (by rw [List.length_nil]; omega)]; rfl⟩
  | s :: R, D, k, a, h => by
    obtain ⟨h1, h2⟩ := step_alive h.left h.dead
    obtain ⟨e1, e2, _⟩ := h.writeA (a : Int) s
    obtain ⟨f1, f2, f3⟩ := writesW_alive R (a + 1) e1
    rw [writesW, if_pos h1]
    refine ⟨f1, by rw [List.length_cons, show k + (R.length + 1) = k + 1 + R.length by omega]; exact f2, fun j hj => ?_⟩
    rw [f3 j (by rw [e2]; exact hj), readA h a s hj, List.length_cons]
    by_cases c1 : a + 1 ≤ j ∧ j < a + 1 + R.length
    · rw [if_pos c1, if_pos (by omega), show j - a = (j - (a + 1)) + 1 by omega, List.getD_cons_succ]
    · rw [if_neg c1]
      by_cases c2 : a = j
      · rw [if_pos c2, if_pos (by omega), show j - a = 0 by omega, List.getD_cons_zero]
      · rw [if_neg c2, if_neg (by omega)]
theorem readF {D : Dk} (h : stepOk D = true) {j : Nat} (hj : j < D.V.length) : readD (flushD D) j = readD D j := by
  have h1 := flush_ver h hj
  show lastS (ver (flushD D) j) = _
  rw [h1]; rfl
theorem putW_alive (R : List Sec) {D : Dk} {k : Nat} (a : Nat) (h : Alive D k) : (putW D a R).2 = true ∧ Alive (putW D a R).1 1 ∧ (putW D a R).1.V.length = D.V.length ∧
    ∀ j, j < D.V.length → readD (putW D a R).1 j = if a ≤ j ∧ j < a + R.length then R.getD (j - a) zeroS else readD D j := by
  obtain ⟨h1, h2, h3⟩ := writesW_alive R a h
  have hl := writesW_len R D a
  obtain ⟨h4, h5⟩ := flush_alive h2
  rw [putW, if_pos h1]
  exact ⟨h4, h5, by rw [flush_len, hl], fun j hj => by rw [readF h4 (by rw [hl]; exact hj), h3 j hj]⟩
theorem save_alive {D : Dk} {k : Nat} (h : Alive D k) (c s : Nat) : saveE D c s = true ∧ Alive (saveD D c s) 1 ∧ (saveD D c s).V.length = D.V.length ∧
    ∀ j, j < D.V.length → readD (saveD D c s) j = if j = 0 then headB c s else readD D j := by
  obtain ⟨h1, _⟩ := step_alive h.left h.dead
  obtain ⟨e1, e2, _⟩ := h.writeA 0 (headB c s)
  obtain ⟨h4, h5⟩ := flush_alive e1
  unfold saveE saveD
  rw [h1, if_pos rfl, Bool.true_and]
  refine ⟨h4, h5, by rw [flush_len, e2], fun j hj => ?_⟩
  rw [readF h4 (by rw [e2]; exact hj)]
  have := readA h 0 (headB c s) hj
  rw [show ((0 : Nat) : Int) = 0 from rfl] at this
  rw [this]
  by_cases e : j = 0
  · rw [if_pos e, if_pos e.symm]
  · rw [if_neg e, if_neg fun h => e h.symm]
theorem zeros_read {D : Dk} {k : Nat} (h : Alive D k) : ∀ m j, j < D.V.length → readD (zerosD D m) j = if j < m then zeroS else readD D j
  | 0, j, hj => by rw [if_neg (by omega)]; rfl
  | m + 1, j, hj => by
    obtain ⟨h1, h2⟩ := zeros_alive h m
    rw [zerosD_succ, readA h1 m zeroS (by rw [h2]; exact hj), zeros_read h m j hj]
    by_cases e : m = j
    · rw [if_pos e, if_pos (by omega)]
    · rw [if_neg e]
      by_cases c : j < m
      · rw [if_pos c, if_pos (by omega)]
      · rw [if_neg c, if_neg (by omega)]
theorem fmt_alive {D : Dk} {k : Nat} (h : Alive D k) (n : Nat) : Alive (fmtD D n) 1 ∧ (fmtD D n).V.length = D.V.length ∧
    ∀ j, j < D.V.length → readD (fmtD D n) j = if j = 0 then headB 1 1 else if j < 1 + n then zeroS else readD D j := by
  obtain ⟨h1, h2⟩ := zeros_alive h (1 + n)
  obtain ⟨h4, h5⟩ := flush_alive h1
  have hfl : (flushD (zerosD D (1 + n))).V.length = D.V.length := by rw [flush_len, h2]
  obtain ⟨a1, a2, a3, a4⟩ := save_alive h5 1 1
  have hst := (step_alive h5.left h5.dead).1
  have he : saveD (flushD (zerosD D (1 + n))) 1 1 = fmtD D n := by
    unfold saveE at a1
    rw [hst, Bool.true_and] at a1
    rw [saveD, hst, if_pos rfl]; rfl
  rw [he] at a2 a3 a4
  refine ⟨a2, by rw [a3, hfl], fun j hj => ?_⟩
  rw [a4 j (by rw [hfl]; exact hj), readF h4 (by rw [h2]; exact hj), zeros_read h (1 + n) j hj]
end Go.Proofs.Ytkkgahgpemepeaa

/- Rows told again, plainly. -/
namespace Go.Proofs.Ytkkgahgpemepeaa
open Go Go.RowKit Coup

theorem rowsL_row {c nn : Nat} {b X : List UInt8} {n f : Nat} (hm : mayT c nn = true) (hb : b.length ≤ 32768) (hn : needN b.length ≤ n) (hl : (rowB c nn b ++ X).length = n * 128) :
    rowsL (f + 1) (rowB c nn b ++ X) n = ⟨c, nn, b⟩ :: rowsL f X (n - needN b.length) := by
  obtain ⟨t1, t2, t3, t4⟩ := told_row c nn b X n hm hb hn hl
  have hrl := rowB_len c nn b
  rw [rowsL, if_pos t1, t2, t3, t4, List.drop_left' hrl]
theorem rowsL_zero {f n : Nat} {l : List UInt8} (h : joinIs l n = false) : rowsL f l n = [] := by
  cases f with
  | zero => rfl
  | succ f => rw [rowsL, h]; rfl
/-- More fuel than sectors tells no more. -/
theorem rowsL_fuel : ∀ (f f' : Nat) (l : List UInt8) (n : Nat), n ≤ f → n ≤ f' → l.length = n * 128 → rowsL f l n = rowsL f' l n
  | 0, f', l, n, h1, h2, hl => by
    have hj : joinIs l n = false := by
      cases hj : joinIs l n with
      | false => rfl
      | true => have := (join_facts hj).1; omega
    rw [rowsL_zero hj, rowsL_zero hj]
  | f + 1, f', l, n, h1, h2, hl => by
    cases hj : joinIs l n with
    | false => rw [rowsL_zero hj, rowsL_zero hj]
    | true =>
      obtain ⟨h0, _, h3⟩ := join_facts hj
      obtain ⟨h4, h5⟩ := h3 hl
      obtain ⟨f', rfl⟩ : ∃ z, f' = z + 1 := ⟨f' - 1, by omega⟩
      rw [rowsL, rowsL, hj, if_pos rfl, if_pos rfl, rowsL_fuel f f' _ _ (by omega) (by omega) (by rw [List.length_drop, hl]; omega)]
theorem chOf_rec : ∀ (R : Rec) (hR : chsOk R) (hn : (R.all fun c => numOk c.num) = true) (X : List UInt8) (i : Nat) (c : Ch), R[i]? = some c → chOf (recB R ++ X) i = c
  | [], hR, hn, X, i, c, h => by simp at h
  | d :: R, hR, hn, X, i, c, h => by
    have hd := hR d (List.mem_cons_self ..)
    rw [List.all_cons, Bool.and_eq_true] at hn
    have hno := of_decide_eq_true hn.1
    have hb : recB (d :: R) ++ X = beB 4 d.num.toNat ++ (d.page ++ (recB R ++ X)) := by
      rw [recB, List.flatMap_cons]; simp [recB, List.append_assoc]
    cases i with
    | zero =>
      obtain rfl : d = c := by simpa using h
      rw [hb, chOf, Nat.mul_zero, List.drop_zero, List.take_left' (beB_length _ _), Nat.zero_add, List.drop_left' (beB_length _ _), List.take_left' hd]
      have hx : numB (beB 4 d.num.toNat) = d.num.toNat := by rw [numB_beB]; exact Nat.mod_eq_of_lt (by omega)
      rw [hx]
      cases d
      simp only [Ch.mk.injEq, and_true]
      dsimp only at hno
      omega
    | succ i =>
      have h' : R[i]? = some c := by simpa using h
      have ih := chOf_rec R (fun x hx => hR x (List.mem_cons_of_mem _ hx)) hn.2 X i c h'
      have hdl : (beB 4 d.num.toNat ++ d.page).length = 516 := by rw [List.length_append, beB_length, hd]
      have hb2 : recB (d :: R) ++ X = (beB 4 d.num.toNat ++ d.page) ++ (recB R ++ X) := by rw [hb, List.append_assoc]
      have e1 : ∀ j, (recB (d :: R) ++ X).drop (516 * (i + 1) + j) = (recB R ++ X).drop (516 * i + j) := fun j => by
        rw [hb2, show 516 * (i + 1) + j = 516 + (516 * i + j) by omega, ← List.drop_drop, List.drop_left' hdl]
      rw [← ih, chOf, chOf, e1 4, show 516 * (i + 1) = 516 * (i + 1) + 0 by omega, e1 0, Nat.add_zero]
theorem ofL_rec {R : Rec} (hR : chsOk R) (hn : (R.all fun c => numOk c.num) = true) : ofL (recB R) R.length = R := by
  refine List.ext_getElem? fun i => ?_
  by_cases hi : i < R.length
  · obtain ⟨c, hc⟩ : ∃ c, R[i]? = some c := ⟨_, List.getElem?_eq_getElem hi⟩
    have := chOf_rec R hR hn [] i c hc
    rw [List.append_nil] at this
    rw [ofL_at _ hi, hc, this]
  · rw [List.getElem?_eq_none (by rw [ofL_len]; omega), List.getElem?_eq_none (by omega)]
theorem ofR_rec {R : Rec} (hR : chsOk R) (hm : mayR R = true) : ofR (recB R) = some R := by
  have hl := recB_len hR
  have hn := (Bool.and_eq_true_iff.1 hm).2
  rw [ofR_eq (recB R) R.length hl, ofL_rec hR hn, if_pos hm]
end Go.Proofs.Ytkkgahgpemepeaa

/- What a log says: rows one behind the other, and what stands behind them. -/
namespace Go.Proofs.Ytkkgahgpemepeaa
open Go Go.RowKit Coup

/-- The rows of records, each with the count at which it was committed, from number k on. -/
def rowsT : Nat → List (Nat × Rec) → List UInt8
  | _, [] => []
  | k, x :: T => rowB x.1 k (recB x.2) ++ rowsT (k + 1) T
def atT (T : List (Nat × Rec)) : Nat := atS (T.map (·.2))
theorem atT_cons (x : Nat × Rec) (T : List (Nat × Rec)) : atT (x :: T) = needN (516 * x.2.length) + atT T := by simp [atT, atS]
def okT (s c : Nat) (T : List (Nat × Rec)) : Prop := ∀ x ∈ T, s ≤ x.1 ∧ x.1 ≤ c ∧ chsOk x.2 ∧ mayR x.2 = true
theorem rowsT_len : ∀ (k : Nat) {s c : Nat} {T : List (Nat × Rec)}, okT s c T → (rowsT k T).length = 128 * atT T
  | k, s, c, [], _ => rfl
  | k, s, c, x :: T, h => by
    obtain ⟨_, _, h3, _⟩ := h x (List.mem_cons_self ..)
    have ih := rowsT_len (k + 1) (T := T) fun y hy => h y (List.mem_cons_of_mem _ hy)
    rw [rowsT, List.length_append, rowB_len, recB_len h3, ih, atT_cons, Nat.mul_add]
theorem rowsT_snoc : ∀ (k : Nat) (T : List (Nat × Rec)) (c : Nat) (r : Rec), rowsT k (T ++ [(c, r)]) = rowsT k T ++ rowB c (k + T.length) (recB r)
  | k, [], c, r => by simp [rowsT]
  | k, x :: T, c, r => by
    rw [List.cons_append, rowsT, rowsT, rowsT_snoc (k + 1) T c r, List.append_assoc, List.length_cons, show k + 1 + T.length = k + (T.length + 1) by omega]
theorem rec_short {R : Rec} (hR : chsOk R) (hm : mayR R = true) : (recB R).length ≤ 32768 := by
  have := of_decide_eq_true (Bool.and_eq_true_iff.1 hm).1
  rw [recB_len hR]; omega
theorem recs_rows : ∀ (T : List (Nat × Rec)) {s c k n f : Nat} {X : List UInt8}, 1 ≤ s → c ≤ 4611686018427387904 → okT s c T → k + T.length < 2147483648 → (rowsT k T ++ X).length = n * 128 → n ≤ f →
    recsL s c k (rowsL f (rowsT k T ++ X) n) = T.map (·.2) ++ recsL s c (k + T.length) (rowsL (n - atT T) X (n - atT T))
  | [], s, c, k, n, f, X, h1, h2, h3, h4, h5, h6 => by
    rw [rowsT, List.nil_append] at h5 ⊢
    have e : atT [] = 0 := rfl
    rw [e, Nat.sub_zero, rowsL_fuel f n X n h6 (Nat.le_refl _) h5]; rfl
  | x :: T, s, c, k, n, f, X, h1, h2, h3, h4, h5, h6 => by
    obtain ⟨a1, a2, a3, a4⟩ := h3 x (List.mem_cons_self ..)
    have hrest : okT s c T := fun y hy => h3 y (List.mem_cons_of_mem _ hy)
    rw [List.length_cons] at h4
    have hsh := rec_short a3 a4
    have hrl := rowB_len x.1 k (recB x.2)
    have hrb := recB_len a3
    have htl := rowsT_len (k + 1) hrest
    rw [rowsT, List.append_assoc] at h5 ⊢
    have hlen := h5
    rw [List.length_append, hrl] at hlen
    have hpos := (needW_pos (of_decide_eq_true (Bool.and_eq_true_iff.1 a4).1)).2
    rw [← hrb] at hpos
    have hmt : mayT ((x.1 : Nat) : Int) ((k : Nat) : Int) = true := by
      unfold mayT
      rw [decide_eq_true (by omega), decide_eq_true (by unfold maxCount; omega), decide_eq_true (by omega), decide_eq_true (by omega)]; rfl
    obtain ⟨f, rfl⟩ : ∃ z, f = z + 1 := ⟨f - 1, by omega⟩
    rw [rowsL_row hmt hsh (by omega) h5]
    have hok : okRow s c k ⟨x.1, k, recB x.2⟩ = some x.2 := by
      rw [okRow, if_pos ⟨rfl, a1, a2⟩]; exact ofR_rec a3 a4
    have hr := recs_rows T (s := s) (c := c) (k := k + 1) (n := n - needN (recB x.2).length) (f := f) (X := X) h1 h2 hrest (by omega) (by rw [Nat.sub_mul]; omega) (by omega)
    rw [recsL_some hok, hr, List.map_cons, List.cons_append, atT_cons, hrb, List.length_cons, show k + 1 + T.length = k + (T.length + 1) by omega, Nat.sub_sub]
end Go.Proofs.Ytkkgahgpemepeaa

/- The log's sectors behind a commit. -/
namespace Go.Proofs.Ytkkgahgpemepeaa
open Go Go.RowKit Coup

def secL (D : Dk) (n : Nat) : List Sec := (List.range n).map fun i => readD D (1 + i)
theorem logB_eq (D : Dk) (n : Nat) : logB D n = (secL D n).flatten := rfl
theorem secL_len (D : Dk) (n : Nat) : (secL D n).length = n := by simp [secL]
theorem secL_get (D : Dk) {n i : Nat} (h : i < n) : (secL D n)[i]? = some (readD D (1 + i)) := by rw [secL, List.getElem?_map, List.getElem?_range h]; rfl
theorem secL_ok {D : Dk} (h : DkOk D) {n : Nat} (hn : 1 + n ≤ D.V.length) : secsOk (secL D n) := fun s hs => by
  obtain ⟨i, hi, rfl⟩ := List.mem_map.1 hs
  have := List.mem_range.1 hi
  exact readD_len h (by omega)
theorem flat_take : ∀ {L : List Sec} (_ : secsOk L) (k : Nat), (L.take k).flatten = L.flatten.take (128 * k) ∧ (L.drop k).flatten = L.flatten.drop (128 * k)
  | [], _, k => by simp
  | s :: L, h, 0 => by simp
  | s :: L, h, k + 1 => by
    have hs : s.length = 128 := h s (List.mem_cons_self ..)
    obtain ⟨h1, h2⟩ := flat_take (L := L) (fun x hx => h x (List.mem_cons_of_mem _ hx)) k
    rw [List.take_succ_cons, List.drop_succ_cons, List.flatten_cons, List.flatten_cons, h1, h2, show 128 * (k + 1) = s.length + 128 * k by omega]
    refine ⟨?_, ?_⟩
    · rw [List.take_append, List.take_of_length_le (l := s) (by omega), Nat.add_sub_cancel_left]
    · rw [List.drop_append, (List.drop_of_length_le (by omega) : s.drop (s.length + 128 * k) = []), Nat.add_sub_cancel_left, List.nil_append]
/-- Sectors written over the log's. -/
theorem secL_put {D D' : Dk} {n a : Nat} {R : List Sec} (hn : 1 + n ≤ D.V.length) (hfit : a + R.length ≤ n) (h : ∀ j, j < D.V.length → readD D' j = if 1 + a ≤ j ∧ j < 1 + a + R.length then R.getD (j - (1 + a)) zeroS else readD D j) :
    secL D' n = (secL D n).take a ++ (R ++ (secL D n).drop (a + R.length)) := by
  have hl := secL_len D n
  refine List.ext_getElem? fun i => ?_
  by_cases hi : i < n
  · rw [secL_get D' hi, h (1 + i) (by omega)]
    by_cases c1 : i < a
    · rw [if_neg (by omega), List.getElem?_append_left (by rw [List.length_take]; omega), List.getElem?_take, if_pos c1, secL_get D hi]
    · rw [List.getElem?_append_right (by rw [List.length_take]; omega), List.length_take, hl, Nat.min_eq_left (by omega)]
      by_cases c2 : i < a + R.length
      · rw [if_pos (by omega), List.getElem?_append_left (by omega), show 1 + i - (1 + a) = i - a by omega, List.getD_eq_getElem?_getD, List.getElem?_eq_getElem (by omega)]; rfl
      · rw [if_neg (by omega), List.getElem?_append_right (by omega), List.getElem?_drop, show a + R.length + (i - a - R.length) = i by omega, secL_get D hi]
  · rw [List.getElem?_eq_none (by rw [secL_len]; omega), List.getElem?_eq_none (by simp only [List.length_append, List.length_take, List.length_drop, hl]; omega)]
/-- A row put behind the others. -/
theorem logB_put {D D' : Dk} {n a : Nat} {R : List Sec} {B X : List UInt8} (hD : DkOk D) (hn : 1 + n ≤ D.V.length) (hfit : a + R.length ≤ n) (h : ∀ j, j < D.V.length → readD D' j = if 1 + a ≤ j ∧ j < 1 + a + R.length then R.getD (j - (1 + a)) zeroS else readD D j)
    (hB : logB D n = B ++ X) (hBl : B.length = 128 * a) : logB D' n = B ++ (R.flatten ++ X.drop (128 * R.length)) := by
  have hok := secL_ok hD hn
  rw [logB_eq, secL_put hn hfit h, List.flatten_append, List.flatten_append, (flat_take hok a).1, (flat_take hok (a + R.length)).2, ← logB_eq, hB, List.take_left' hBl, Nat.mul_add, ← hBl, List.drop_append, List.drop_of_length_le (by omega), Nat.add_sub_cancel_left, List.nil_append]
end Go.Proofs.Ytkkgahgpemepeaa

/- Noughts are no row. -/
namespace Go.Proofs.Ytkkgahgpemepeaa
open Go Go.RowKit Coup

theorem join_count0 {l : List UInt8} {n : Nat} (h : hCount (halfAt l 0) = 0) : joinIs l n = false := by
  cases hj : joinIs l n with
  | false => rfl
  | true =>
    have := (may_bounds (join_facts hj).2.1).1
    omega
theorem zeros_take (a k : Nat) : (zerosB a).take k = zerosB (min k a) := by simp [zerosB]
theorem zeros_drop (a k : Nat) : (zerosB a).drop k = zerosB (a - k) := by simp [zerosB]
theorem numB_zeros : ∀ k, numB (zerosB k) = 0 := fun k => by
  induction k with
  | zero => rfl
  | succ k ih =>
    have h : zerosB (k + 1) = zerosB k ++ [0] := by simp [zerosB, List.replicate_succ']
    rw [h]
    simp only [numB] at ih ⊢
    rw [List.foldl_append, ih]; rfl
theorem join_zeros (a n : Nat) : joinIs (zerosB a) n = false := join_count0 (by rw [hCount, halfAt, zeros_drop, zeros_take, zeros_take, numB_zeros])
theorem recs_zeros (s c k f a n : Nat) : recsL s c k (rowsL f (zerosB a) n) = [] := by rw [rowsL_zero (join_zeros a n)]; rfl
/-- What is read of a log whose rows are followed by noughts. -/
theorem recs_then_zeros {T : List (Nat × Rec)} {s c n a : Nat} (h1 : 1 ≤ s) (h2 : c ≤ 4611686018427387904) (h3 : okT s c T) (h4 : T.length < 2147483648) (h5 : (rowsT 0 T ++ zerosB a).length = n * 128) :
    recsL s c 0 (rowsL n (rowsT 0 T ++ zerosB a) n) = T.map (·.2) := by
  rw [recs_rows T h1 h2 h3 (by omega) h5 (Nat.le_refl _), recs_zeros, List.append_nil]
theorem secL_zeros {D : Dk} : ∀ {n : Nat}, (∀ j, j < n → readD D (1 + j) = zeroS) → logB D n = zerosB (128 * n)
  | 0, _ => rfl
  | n + 1, h => by
    rw [logB_succ, secL_zeros fun j hj => h j (by omega), h n (by omega), show 128 * (n + 1) = 128 * n + 128 by omega]
    have e : zeroS = zerosB 128 := rfl
    rw [e]
    unfold zerosB
    exact List.replicate_append_replicate
end Go.Proofs.Ytkkgahgpemepeaa

/- A head that was saved is read again. -/
namespace Go.Proofs.Ytkkgahgpemepeaa
open Go Go.RowKit Coup

theorem head_back {c s : Nat} (hc : c < 18446744073709551616) (hs : s < 18446744073709551616) : hdC (headB c s) = c ∧ hdS (headB c s) = s := by
  have hm : magic.length = 4 := rfl
  have e8 : (256 : Nat) ^ 8 = 18446744073709551616 := by decide
  refine ⟨?_, ?_⟩
  · rw [hdC, headB, List.drop_left' hm, List.take_left' (beB_length _ _), numB_beB, e8, Nat.mod_eq_of_lt hc]
  · have h1 : (magic ++ (beB 8 c ++ (beB 8 s ++ zerosB 108))).drop 12 = beB 8 s ++ zerosB 108 := by
      rw [← List.append_assoc, List.drop_left' (by rw [List.length_append, beB_length, hm])]
    rw [hdS, headB, h1, List.take_left' (beB_length _ _), numB_beB, e8, Nat.mod_eq_of_lt hs]
theorem head_torn (c s : Nat) : tornB (headB c s) zeroS = headB c s := by
  have hz : zeroS = zerosB 128 := rfl
  have hl : (magic ++ (beB 8 c ++ beB 8 s)).length = 20 := by simp [magic, beB_length]
  have he : headB c s = (magic ++ (beB 8 c ++ beB 8 s)) ++ zerosB 108 := by simp [headB, List.append_assoc]
  rw [tornB, hz, he, List.take_append, List.take_of_length_le (by rw [hl]; omega), hl, zeros_take, zeros_drop, List.append_assoc]
  congr 1
theorem head_is {c s : Nat} (h1 : 1 ≤ s) (h2 : s ≤ c) (h3 : c ≤ 4611686018427387904) : hdIs (headB c s) = true := by
  obtain ⟨e1, e2⟩ := head_back (c := c) (s := s) (by omega) (by omega)
  rw [hdIs, e1, e2, head_torn, decide_eq_true rfl, decide_eq_true h1, decide_eq_true h2, decide_eq_true h3]; rfl
theorem open_head {D : Dk} {c s : Nat} {n : Int} (hf : fitsN D.V.length n = true) (hr : readD D 0 = headB c s) (h1 : 1 ≤ s) (h2 : s ≤ c) (h3 : c < 4611686018427387904) : openE D n = 0 ∧ hdC (readD D 0) = c ∧ hdS (readD D 0) = s := by
  obtain ⟨e1, e2⟩ := head_back (c := c) (s := s) (by omega) (by omega)
  rw [openE, if_pos hf, hr, if_pos (head_is h1 h2 (by omega)), e1, if_neg (by omega)]
  exact ⟨rfl, rfl, e2⟩
end Go.Proofs.Ytkkgahgpemepeaa

/- The chapter's rows: known. -/
namespace Go.Proofs.Ytkkgahgpemepeaa
open Go Go.RowKit Coup

theorem LgAt.own {Y : World → List Nat → Prop} [hY : Thing Y] {g x lo : Nat} {L : List Nat} {D : Dk} {G : Lg} {w w' : World} {v : Value} (h : LgAt g x Y lo L D G w) (hg : w.grownBy w' v.ownBlock) (hv : ∀ b, v.ownBlock = some b → b ∈ L) : LgAt g x Y lo L D G w' :=
  h.kpd (Kp.of_grown hg) fun b hb => .inr (hv b (Option.mem_toList.1 hb))
def kR : Rec := recOf [⟨5, [7]⟩]
theorem kR_ok : chsOk kR := recOf_ok _
theorem kR_may : mayR kR = true := by
  rw [mayR, kR, recOf_len]
  rfl
/-- Any log that is alive, and has room, takes a record that may be. -/
theorem commit_alive {D : Dk} {G : Lg} {R : Rec} {k : Nat} (h : Alive D k) (hd : G.dead = false) (hm : mayR R = true) (hfit : G.at_ + (rowW G R).length ≤ G.size) (hn : 1 + G.size ≤ D.V.length) :
    commitR D G R = (0, (putW D (1 + G.at_) (rowW G R)).1, { G with at_ := G.at_ + (rowW G R).length, num := G.num + 1 }) := by
  obtain ⟨h1, _⟩ := putW_alive (rowW G R) (1 + G.at_) h
  rw [commitR, hd, if_neg (by simp), if_neg (by rw [hm]; simp), if_neg (by omega), h1, if_pos rfl]
theorem commit_full {D : Dk} {G : Lg} {R : Rec} (hd : G.dead = false) (hm : mayR R = true) (hfit : G.size < G.at_ + (rowW G R).length) : commitR D G R = (8, D, G) := by
  rw [commitR, hd, if_neg (by simp), if_neg (by rw [hm]; simp), if_pos hfit]
end Go.Proofs.Ytkkgahgpemepeaa

/- The chapter's rows, plainly: a log's first life. -/
namespace Go.Proofs.Ytkkgahgpemepeaa
open Go Go.RowKit Coup

def kG : Lg := ⟨3, 3, 12, 0, 0, false⟩
def kG4 : Lg := ⟨3, 3, 12, 1, 6, false⟩
def kD1 : Dk := fmtD (newD 20) 12
def kD2 : Dk := saveD kD1 2 1
def kD3 : Dk := saveD kD2 3 3
def kD4 : Dk := (putW kD3 1 (rowW kG kR)).1
theorem kLen : (rowW kG kR).length = 6 := by rw [rowW_len, kR, recOf_len]; rfl
theorem kFit : fitsN 20 12 = true := by decide
theorem kd1 : Alive kD1 1 ∧ kD1.V.length = 20 ∧ ∀ j, j < 20 → readD kD1 j = if j = 0 then headB 1 1 else if j < 13 then zeroS else readD (newD 20) j := by
  have h := fmt_alive (alive_new (n := 20) (by omega)) 12
  rw [newD_len] at h
  exact h
theorem kd2 : saveE kD1 2 1 = true ∧ Alive kD2 1 ∧ kD2.V.length = 20 ∧ ∀ j, j < 20 → readD kD2 j = if j = 0 then headB 2 1 else readD kD1 j := by
  have h := save_alive kd1.1 2 1
  rw [kd1.2.1] at h
  exact h
theorem kd3 : saveE kD2 3 3 = true ∧ Alive kD3 1 ∧ kD3.V.length = 20 ∧ ∀ j, j < 20 → readD kD3 j = if j = 0 then headB 3 3 else readD kD2 j := by
  have h := save_alive kd2.2.1 3 3
  rw [kd2.2.2.1] at h
  exact h
theorem kd4 : (putW kD3 1 (rowW kG kR)).2 = true ∧ Alive kD4 1 ∧ kD4.V.length = 20 ∧ ∀ j, j < 20 → readD kD4 j = if 1 ≤ j ∧ j < 1 + 6 then (rowW kG kR).getD (j - 1) zeroS else readD kD3 j := by
  have h := putW_alive (rowW kG kR) 1 kd3.2.1
  rw [kd3.2.2.1, kLen] at h
  unfold kD4
  exact h
theorem kZero {D : Dk} (h : ∀ j, j < 12 → readD D (1 + j) = zeroS) : logB D 12 = zerosB (128 * 12) := secL_zeros h
theorem kz1 : ∀ j, j < 12 → readD kD1 (1 + j) = zeroS := fun j hj => by rw [kd1.2.2 _ (by omega), if_neg (by omega), if_pos (by omega)]
theorem kz3 : ∀ j, j < 12 → readD kD3 (1 + j) = zeroS := fun j hj => by
  rw [kd3.2.2.2 _ (by omega), if_neg (by omega), kd2.2.2.2 _ (by omega), if_neg (by omega), kz1 j hj]
theorem kOpen1 : openE kD1 12 = 0 ∧ hdC (readD kD1 0) = 1 ∧ hdS (readD kD1 0) = 1 :=
  open_head (by rw [kd1.2.1]; exact kFit) (by rw [kd1.2.2 0 (by omega), if_pos rfl]) (by omega) (by omega) (by omega)
theorem kRecs1 : recsOf kD1 (headG kD1 12) = [] := by
  have h : (headG kD1 12).size = 12 := rfl
  rw [recsOf, h, kZero kz1, recs_zeros]
theorem kOpen4 : openE kD4 12 = 0 ∧ hdC (readD kD4 0) = 3 ∧ hdS (readD kD4 0) = 3 :=
  open_head (by rw [kd4.2.2.1]; exact kFit) (by rw [kd4.2.2.2 0 (by omega), if_neg (by omega), kd3.2.2.2 0 (by omega), if_pos rfl]) (by omega) (by omega) (by omega)
theorem kCommit : commitR kD3 kG kR = (0, kD4, kG4) := by
  rw [commit_alive kd3.2.1 rfl kR_may (by rw [kLen]; decide) (by rw [kd3.2.2.1]; decide), kLen]
  rfl
theorem kFull {R : Rec} (hm : mayR R = true) (hl : R.length = 2) : commitR kD4 kG4 R = (8, kD4, kG4) :=
  commit_full rfl hm (by rw [rowW_len, hl]; decide)
theorem kOk3 : LgOk kD3 kG := ⟨by decide, by decide, by decide, by decide, by decide, by decide, by decide, by rw [kd3.2.2.1]; decide⟩
theorem kOk4 : LgOk kD4 kG4 := ⟨by decide, by decide, by decide, by decide, by decide, by decide, by decide, by rw [kd4.2.2.1]; decide⟩
theorem kLog4 (hD : DkOk kD3) : logB kD4 12 = rowsT 0 [(3, kR)] ++ zerosB (128 * 12 - 128 * 6) := by
  have h := logB_put (D := kD3) (D' := kD4) (n := 12) (a := 0) (R := rowW kG kR) (B := []) (X := zerosB (128 * 12)) hD (by rw [kd3.2.2.1]; decide) (by rw [kLen]; decide)
    (fun j hj => by rw [kd3.2.2.1] at hj; rw [kLen, Nat.add_zero]; exact kd4.2.2.2 j hj) (by rw [kZero kz3]; rfl) rfl
  rw [h, kLen, zeros_drop, (rowW_flat kG kR_ok).1, rowsT, rowsT, List.append_nil, List.nil_append]
  rfl
theorem headG_eq {D : Dk} {n : Int} {c s : Nat} (h1 : hdC (readD D 0) = c) (h2 : hdS (readD D 0) = s) : headG D n = ⟨c, s, n.toNat, 0, 0, false⟩ := by rw [headG, h1, h2]
theorem kRecs4 (hD : DkOk kD3) : recsOf kD4 (headG kD4 12) = [kR] := by
  have hg := headG_eq (n := 12) kOpen4.2.1 kOpen4.2.2
  have hok : okT 3 3 [(3, kR)] := fun x hx => by
    obtain rfl : x = (3, kR) := by simpa using hx
    exact ⟨Nat.le_refl _, Nat.le_refl _, kR_ok, kR_may⟩
  have hl := rowsT_len 0 hok
  have hat : atT [(3, kR)] = 6 := by
    have h := rowW_len kG kR
    rw [kLen] at h
    simp [atT, atS, ← h]
  rw [recsOf, hg]
  show recsL 3 3 0 (rowsL 12 (logB kD4 12) 12) = _
  rw [kLog4 hD]
  exact recs_then_zeros (by omega) (by omega) hok (by decide) (by rw [List.length_append, hl, hat, zerosB, List.length_replicate])
end Go.Proofs.Ytkkgahgpemepeaa

/- What a log says, half by half: rows whose last half may be anything. -/
namespace Go.Proofs.Ytkkgahgpemepeaa
open Go Go.RowKit Coup

theorem half_app {P X : List UInt8} {i : Nat} (h : 64 * (i + 1) ≤ P.length) : halfAt (P ++ X) i = halfAt P i := by
  rw [halfAt, halfAt, List.drop_append_of_le_length (by omega), List.take_append_of_le_length (by rw [List.length_drop]; omega)]
theorem half_app2 {P X : List UInt8} {i k : Nat} (h : P.length = 64 * k) : halfAt (P ++ X) (k + i) = halfAt X i := by
  rw [halfAt, halfAt, show 64 * (k + i) = P.length + 64 * i by omega, ← List.drop_drop, List.drop_left' rfl]
theorem half_drop (X : List UInt8) (i k : Nat) : halfAt (X.drop (64 * k)) i = halfAt X (k + i) := by rw [halfAt, halfAt, List.drop_drop, ← Nat.mul_add]
theorem half_take {X : List UInt8} {i k : Nat} (h : i < k) : halfAt (X.take (64 * k)) i = halfAt X i := by
  rw [halfAt, halfAt, List.drop_take, List.take_take, Nat.min_eq_left (by omega)]
theorem halves_ext : ∀ (k : Nat) {A B : List UInt8}, A.length = 64 * k → B.length = 64 * k → (∀ i, i < k → halfAt A i = halfAt B i) → A = B
  | 0, A, B, ha, hb, _ => by rw [List.eq_nil_of_length_eq_zero (by omega : A.length = 0), List.eq_nil_of_length_eq_zero (by omega : B.length = 0)]
  | k + 1, A, B, ha, hb, h => by
    have h0 := h 0 (by omega)
    rw [halfAt, halfAt, Nat.mul_zero, List.drop_zero, List.drop_zero] at h0
    have ih := halves_ext k (A := A.drop 64) (B := B.drop 64) (by rw [List.length_drop]; omega) (by rw [List.length_drop]; omega) fun i hi => by
      have := h (1 + i) (by omega)
      rw [← half_drop, ← half_drop] at this
      exact this
    rw [← List.take_append_drop 64 A, ← List.take_append_drop 64 B, h0, ih]
/-- A row's image: its halves; behind them (if they are an odd number) anything. -/
def RowIm (c nn : Nat) (b P : List UInt8) : Prop := P.length = 128 * needN b.length ∧ ∀ i, i < manyN b.length → halfAt P i = halfB c nn i (manyN b.length) (pieceB b i)
theorem row_im (c nn : Nat) (b : List UInt8) : RowIm c nn b (rowB c nn b) := ⟨rowB_len c nn b, fun i hi => by
  have := row_half c nn b [] i hi
  rwa [List.append_nil] at this⟩
theorem told_im {c nn : Nat} {b P : List UInt8} (X : List UInt8) {n : Nat} (him : RowIm c nn b P) (hm : mayT c nn = true) (hb : b.length ≤ 32768) (hn : needN b.length ≤ n) (hl : (P ++ X).length = n * 128) : Told (P ++ X) n c nn b := by
  have hmb := may_bounds hm
  have hp := manyN_pos b.length
  have hmx := manyN_max hb
  have hrow : ∀ i, i < manyN b.length → halfAt (P ++ X) i = halfB c nn i (manyN b.length) (pieceB b i) := fun i hi => by
    rw [half_app (by rw [him.1]; unfold needN; omega)]; exact him.2 i hi
  have h0 := hrow 0 (by omega)
  obtain ⟨f1, f2, -, f4, -⟩ := halfB_fields c nn 0 (manyN b.length) (pieceB b 0)
  rw [← h0, Nat.mod_eq_of_lt (by omega)] at f1
  rw [← h0, Nat.mod_eq_of_lt (by omega)] at f2
  rw [← h0, Nat.mod_eq_of_lt (by omega)] at f4
  have hml : 64 * manyN b.length ≤ (P ++ X).length := by rw [hl]; unfold needN at hn; omega
  have hbod : bodies (P ++ X) (manyN b.length) = allB b := bodies_eq _ _ _ (allB_length b) fun i hi => by
    rw [hrow i hi, (halfB_fields c nn i _ _).2.2.2.2]; rfl
  have hK : joinK (P ++ X) (manyN b.length) = b.length := by
    rw [joinK, hbod, allB_take, numB_beB, Nat.mod_eq_of_lt (by omega)]
  have hJB : joinB (P ++ X) = b := by rw [joinB, f4, hK, hbod, allB_mid]
  refine ⟨?_, f1, f2, hJB⟩
  rw [← refIs_eq _ _ hl]
  have ht := tag_yes (h := halfAt (P ++ X) 0) (by rw [f1, f2]; exact hm)
  unfold refIs refOk
  rw [ht.1, ht.2, f1, f2, f4, hm, refK_eq _ _ hml hp, hK, hJB, decide_eq_true (by omega : 0 < n), decide_eq_true (by unfold needN at hn; omega : 1 ≤ manyN b.length ∧ manyN b.length ≤ 2 * n), decide_eq_true (by omega : b.length ≤ 32768 ∧ manyN b.length = manyN b.length)]
  simp only [Bool.true_and]
  refine List.all_eq_true.2 fun i hi => ?_
  have hi' := List.mem_range.1 hi
  rw [halvesL_get c nn b i hi', hrow i hi']
  simp
theorem rowsL_im {c nn : Nat} {b P X : List UInt8} {n f : Nat} (him : RowIm c nn b P) (hm : mayT c nn = true) (hb : b.length ≤ 32768) (hn : needN b.length ≤ n) (hl : (P ++ X).length = n * 128) :
    rowsL (f + 1) (P ++ X) n = ⟨c, nn, b⟩ :: rowsL f X (n - needN b.length) := by
  obtain ⟨t1, t2, t3, t4⟩ := told_im X him hm hb hn hl
  rw [rowsL, if_pos t1, t2, t3, t4, List.drop_left' him.1]
/-- Rows' images one behind the other, from number k on. -/
def tellP : Nat → List (Nat × Rec) → List UInt8 → Prop
  | _, [], P => P = []
  | k, x :: T, P => ∃ P1 P2, P = P1 ++ P2 ∧ RowIm x.1 k (recB x.2) P1 ∧ tellP (k + 1) T P2
theorem tellP_len : ∀ {k s c : Nat} {T : List (Nat × Rec)} {P : List UInt8}, okT s c T → tellP k T P → P.length = 128 * atT T
  | k, s, c, [], P, h, hp => by rw [show P = [] from hp]; rfl
  | k, s, c, x :: T, P, h, hp => by
    obtain ⟨P1, P2, rfl, h1, h2⟩ := hp
    obtain ⟨_, _, h3, _⟩ := h x (List.mem_cons_self ..)
    have ih := tellP_len (fun y hy => h y (List.mem_cons_of_mem _ hy)) h2
    rw [List.length_append, h1.1, recB_len h3, ih, atT_cons, Nat.mul_add]
theorem tellP_snoc : ∀ {k : Nat} {T : List (Nat × Rec)} {P Q : List UInt8} {c : Nat} {r : Rec}, tellP k T P → RowIm c (k + T.length) (recB r) Q → tellP k (T ++ [(c, r)]) (P ++ Q)
  | k, [], P, Q, c, r, h, hq => by
    rw [show P = [] from h]
    exact ⟨Q, [], by simp, hq, rfl⟩
  | k, x :: T, P, Q, c, r, h, hq => by
    obtain ⟨P1, P2, rfl, h1, h2⟩ := h
    refine ⟨P1, P2 ++ Q, by rw [List.append_assoc], h1, tellP_snoc h2 ?_⟩
    rw [List.length_cons, show k + (T.length + 1) = k + 1 + T.length by omega] at hq
    exact hq
theorem may_of {c k s cm : Nat} (h1 : 1 ≤ s) (h2 : s ≤ c) (h3 : c ≤ cm) (h4 : cm ≤ 4611686018427387904) (h5 : k < 2147483648) : mayT ((c : Nat) : Int) ((k : Nat) : Int) = true := by
  unfold mayT
  rw [decide_eq_true (by omega), decide_eq_true (by unfold maxCount; omega), decide_eq_true (by omega), decide_eq_true (by omega)]; rfl
theorem recs_im : ∀ (T : List (Nat × Rec)) {s c k n f : Nat} {P X : List UInt8}, 1 ≤ s → c ≤ 4611686018427387904 → okT s c T → tellP k T P → k + T.length < 2147483648 → (P ++ X).length = n * 128 → n ≤ f →
    recsL s c k (rowsL f (P ++ X) n) = T.map (·.2) ++ recsL s c (k + T.length) (rowsL (n - atT T) X (n - atT T))
  | [], s, c, k, n, f, P, X, h1, h2, h3, hP, h4, h5, h6 => by
    rw [show P = [] from hP, List.nil_append] at h5 ⊢
    have e : atT [] = 0 := rfl
    rw [e, Nat.sub_zero, rowsL_fuel f n X n h6 (Nat.le_refl _) (by omega)]; rfl
  | x :: T, s, c, k, n, f, P, X, h1, h2, h3, hP, h4, h5, h6 => by
    obtain ⟨P1, P2, rfl, hp1, hp2⟩ := hP
    obtain ⟨a1, a2, a3, a4⟩ := h3 x (List.mem_cons_self ..)
    have hrest : okT s c T := fun y hy => h3 y (List.mem_cons_of_mem _ hy)
    rw [List.length_cons] at h4
    have hsh := rec_short a3 a4
    have hrl := hp1.1
    have hrb := recB_len a3
    have htl := tellP_len hrest hp2
    rw [List.append_assoc] at h5 ⊢
    have hlen := h5
    rw [List.length_append, hrl] at hlen
    have hpos := (needW_pos (of_decide_eq_true (Bool.and_eq_true_iff.1 a4).1)).2
    rw [← hrb] at hpos
    have hmt := may_of (k := k) h1 a1 a2 h2 (by omega)
    obtain ⟨f, rfl⟩ : ∃ z, f = z + 1 := ⟨f - 1, by omega⟩
    rw [rowsL_im hp1 hmt hsh (by omega) h5]
    have hok : okRow s c k ⟨x.1, k, recB x.2⟩ = some x.2 := by
      rw [okRow, if_pos ⟨rfl, a1, a2⟩]; exact ofR_rec a3 a4
    have hr := recs_im T (s := s) (c := c) (k := k + 1) (n := n - needN (recB x.2).length) (f := f) (X := X) h1 h2 hrest hp2 (by omega) (by rw [Nat.sub_mul]; omega) (by omega)
    rw [recsL_some hok, hr, List.map_cons, List.cons_append, atT_cons, hrb, List.length_cons, show k + 1 + T.length = k + (T.length + 1) by omega, Nat.sub_sub]
/-! ### What is joined depends on its halves alone -/
theorem join_halves {l : List UInt8} {n : Nat} (hj : joinIs l n = true) : 0 < hMany (halfAt l 0) ∧ hMany (halfAt l 0) ≤ 683 ∧ (hMany (halfAt l 0) + 1) / 2 ≤ n ∧ ∀ i, i < hMany (halfAt l 0) → goodH (halfAt l i) (hCount (halfAt l 0)) (hNum (halfAt l 0)) i (hMany (halfAt l 0)) = true := by
  unfold joinIs joinMay joinOk at hj
  simp only [Bool.and_eq_true, decide_eq_true_eq, List.all_eq_true, List.mem_range] at hj
  obtain ⟨⟨h0, ⟨⟨⟨hmay, hm1⟩, hm2⟩, hm3⟩⟩, ⟨⟨hall, hK⟩, hmk⟩, hz⟩ := hj
  exact ⟨by omega, hm2, hm3, hall⟩
theorem good_facts {h : List UInt8} {c nn i m : Nat} (hg : goodH h c nn i m = true) : mayT (hCount h) (hNum h) = true ∧ hCount h = c ∧ hNum h = nn ∧ hMany h = m := by
  simp only [goodH, Bool.and_eq_true, decide_eq_true_eq] at hg
  exact ⟨hg.1.1.1, hg.1.1.2.1, hg.1.1.2.2, hg.2⟩
theorem bodies_cong {l l' : List UInt8} : ∀ {m : Nat}, (∀ i, i < m → halfAt l' i = halfAt l i) → bodies l' m = bodies l m
  | 0, _ => rfl
  | m + 1, h => by rw [bodies_succ, bodies_succ, bodies_cong fun i hi => h i (by omega), h m (by omega)]
theorem join_cong {l l' : List UInt8} {n : Nat} (hj : joinIs l n = true) (h : ∀ i, i < hMany (halfAt l 0) → halfAt l' i = halfAt l i) : joinIs l' n = true ∧ joinB l' = joinB l ∧ halfAt l' 0 = halfAt l 0 := by
  have h0 := h 0 (join_halves hj).1
  have hb := bodies_cong h
  have hb2 : bodies l' (hMany (halfAt l' 0)) = bodies l (hMany (halfAt l 0)) := by rw [h0, hb]
  have hK : joinK l' (hMany (halfAt l' 0)) = joinK l (hMany (halfAt l 0)) := by rw [joinK, joinK, hb2]
  have hB : joinB l' = joinB l := by rw [joinB, joinB, hb2, hK]
  refine ⟨?_, hB, h0⟩
  have hO : joinOk l' (hCount (halfAt l' 0)) (hNum (halfAt l' 0)) (hMany (halfAt l' 0)) = joinOk l (hCount (halfAt l 0)) (hNum (halfAt l 0)) (hMany (halfAt l 0)) := by
    unfold joinOk
    rw [hK, hb2, h0]
    congr 3
    rw [Bool.eq_iff_iff, List.all_eq_true, List.all_eq_true]
    exact ⟨fun hh i hi => by rw [← h i (List.mem_range.1 hi)]; exact hh i hi, fun hh i hi => by rw [h i (List.mem_range.1 hi)]; exact hh i hi⟩
  have : joinIs l' n = joinIs l n := by
    unfold joinIs joinMay
    rw [hO, h0]
  rw [this]; exact hj
end Go.Proofs.Ytkkgahgpemepeaa

/- What stands in a log's sectors from opening to opening; a record on its way; what a loss of power makes of it. -/
namespace Go.Proofs.Ytkkgahgpemepeaa
open Go Go.RowKit Coup

/-- A half that bears a tag. -/
def mayH (h : List UInt8) : Prop := mayT ((hCount h : Nat) : Int) ((hNum h : Nat) : Int) = true
/-- What X begins with is not the next record. -/
def noNext (s k m : Nat) (X : List UInt8) : Prop := joinIs X m = true → s ≤ hCount (halfAt X 0) → hNum (halfAt X 0) = k → ofR (joinB X) = none
/-- What stands in a log's n sectors: the records T (counts from s to c), behind them halves whose counts are below cx, and none of whose numbers is beyond T's (if their counts count). -/
structure Inv (n c cx s : Nat) (T : List (Nat × Rec)) (B : List UInt8) : Prop where
  len : B.length = 128 * n
  s1 : 1 ≤ s
  sc : s ≤ c
  ok : okT s c T
  low : ∀ i, i < 2 * n → mayH (halfAt B i) → hCount (halfAt B i) ≤ c
  ex : ∃ P X, B = P ++ X ∧ tellP 0 T P ∧ atT T ≤ n ∧ (∀ i, i < 2 * (n - atT T) → mayH (halfAt X i) → hCount (halfAt X i) < cx ∧ (s ≤ hCount (halfAt X i) → hNum (halfAt X i) ≤ T.length)) ∧ noNext s T.length (n - atT T) X
theorem atT_len {s c : Nat} : ∀ {T : List (Nat × Rec)}, okT s c T → T.length ≤ atT T
  | [], _ => Nat.le_refl _
  | x :: T, h => by
    have ih := atT_len (T := T) fun y hy => h y (List.mem_cons_of_mem _ hy)
    obtain ⟨_, _, h3, h4⟩ := h x (List.mem_cons_self ..)
    have hpos := (needW_pos (of_decide_eq_true (Bool.and_eq_true_iff.1 h4).1)).2
    rw [atT_cons, List.length_cons]; omega
theorem next_none {s c k m : Nat} {X : List UInt8} (h : noNext s k m X) : recsL s c k (rowsL m X m) = [] := by
  cases m with
  | zero => rfl
  | succ m =>
    rw [rowsL]
    cases hj : joinIs X (m + 1) with
    | false => rfl
    | true =>
      rw [if_pos rfl]
      refine recsL_none ?_
      unfold okRow
      by_cases hc : hNum (halfAt X 0) = k ∧ s ≤ hCount (halfAt X 0) ∧ hCount (halfAt X 0) ≤ c
      · rw [if_pos hc]; exact h hj hc.2.1 hc.1
      · rw [if_neg hc]
namespace Inv
variable {n c cx s : Nat} {T : List (Nat × Rec)} {B : List UInt8}
theorem recs (h : Inv n c cx s T B) (hc : c ≤ 4611686018427387904) (hn : n ≤ 4000) : recsL s c 0 (rowsL n B n) = T.map (·.2) := by
  obtain ⟨P, X, rfl, hP, hat, _, hno⟩ := h.ex
  have hl := atT_len h.ok
  rw [recs_im T h.s1 hc h.ok hP (by omega) (by rw [h.len]; omega) (Nat.le_refl _), Nat.zero_add, next_none hno, List.append_nil]
theorem up {c' cx' : Nat} (h : Inv n c cx s T B) (hc : c ≤ c') (hx : cx ≤ cx') : Inv n c' cx' s T B :=
  ⟨h.len, h.s1, Nat.le_trans h.sc hc, fun x hx => let ⟨a, b, d⟩ := h.ok x hx; ⟨a, Nat.le_trans b hc, d⟩, fun i hi hm => Nat.le_trans (h.low i hi hm) hc,
    let ⟨P, X, e, h1, h2, h3, h4⟩ := h.ex; ⟨P, X, e, h1, h2, fun i hi hm => ⟨Nat.lt_of_lt_of_le (h3 i hi hm).1 hx, (h3 i hi hm).2⟩, h4⟩⟩
/-- The records let go. -/
theorem trunc (h : Inv n c cx s T B) : Inv n (c + 1) (c + 1) (c + 1) [] B :=
  ⟨h.len, by omega, Nat.le_refl _, fun x hx => (nomatch hx), fun i hi hm => Nat.le_succ_of_le (h.low i hi hm), [], B, rfl, rfl, Nat.zero_le _, fun i hi hm => by
    have hi' : i < 2 * n := by
      have e : atT [] = 0 := rfl
      rw [e] at hi; omega
    have := h.low i hi' hm
    exact ⟨by omega, fun h2 => by omega⟩, fun hj hs hk => by
    have h0 := (join_halves hj).2.2.2 0 (join_halves hj).1
    have hn0 : 0 < n := by
      have := (join_facts hj).1
      have e : atT [] = 0 := rfl
      rw [e] at this; omega
    have := h.low 0 (by omega) (good_facts h0).1
    omega⟩
end Inv
theorem zero_not (h : List UInt8) (h0 : hCount h = 0) : ¬ mayH h := fun hm => by
  have := (may_bounds hm).1
  omega
/-- The halves of a row: each bears the row's tag, or none. -/
theorem row_halves {c k : Nat} {b : List UInt8} (hmt : mayT ((c : Nat) : Int) ((k : Nat) : Int) = true) (hb : b.length ≤ 32768) {i : Nat} (hi : i < 2 * needN b.length) (hm : mayH (halfAt (rowB c k b) i)) :
    i < manyN b.length ∧ hCount (halfAt (rowB c k b) i) = c ∧ hNum (halfAt (rowB c k b) i) = k ∧ hMany (halfAt (rowB c k b) i) = manyN b.length := by
  have hmb := may_bounds hmt
  have hmx := manyN_max hb
  by_cases hlt : i < manyN b.length
  · have hr := row_half c k b [] i hlt
    rw [List.append_nil] at hr
    obtain ⟨f1, f2, -, f4, -⟩ := halfB_fields c k i (manyN b.length) (pieceB b i)
    rw [← hr, Nat.mod_eq_of_lt (by omega)] at f1
    rw [← hr, Nat.mod_eq_of_lt (by omega)] at f2
    rw [← hr, Nat.mod_eq_of_lt (by omega)] at f4
    exact ⟨hlt, f1, f2, f4⟩
  · refine absurd hm (zero_not _ ?_)
    have hl : ((halvesL c k b).flatten).length = 64 * manyN b.length := by rw [flat64 _ (halvesL_64 c k b), halvesL_len]
    rw [hCount, halfAt, rowB, show 64 * i = ((halvesL c k b).flatten).length + 64 * (i - manyN b.length) by rw [hl]; omega, ← List.drop_drop, List.drop_left' rfl, zeros_drop, zeros_take, zeros_take, numB_zeros]
section
variable {n c s : Nat} {T : List (Nat × Rec)} {P X X' : List UInt8} {r : Rec}
/-- A record on its way: of each half of its sectors the old or the new one is left. -/
theorem inv_mix (h : Inv n c c s T (P ++ X)) (hP : tellP 0 T P) (hX : X.length = 128 * (n - atT T)) (hat : atT T ≤ n)
    (h3 : ∀ i, i < 2 * (n - atT T) → mayH (halfAt X i) → hCount (halfAt X i) < c ∧ (s ≤ hCount (halfAt X i) → hNum (halfAt X i) ≤ T.length)) (h4 : noNext s T.length (n - atT T) X)
    (hc : c ≤ 4611686018427387904) (hn : n ≤ 4000) (hr : chsOk r) (hm : mayR r = true) (hfit : atT T + needN (516 * r.length) ≤ n) (hX' : X'.length = X.length)
    (hmix : ∀ i, i < 2 * (n - atT T) → halfAt X' i = halfAt X i ∨ (i < 2 * needN (516 * r.length) ∧ halfAt X' i = halfAt (rowB c T.length (recB r)) i)) :
    Inv n c (c + 1) s T (P ++ X') ∨ Inv n c (c + 1) s (T ++ [(c, r)]) (P ++ X') := by
  have hTl := atT_len h.ok
  have hPl := tellP_len h.ok hP
  have hmt := may_of (k := T.length) h.s1 h.sc (Nat.le_refl c) hc (by omega)
  have hrb := recB_len hr
  have hsh := rec_short hr hm
  have hN : needN (recB r).length = needN (516 * r.length) := by rw [hrb]
  have hlen : (P ++ X').length = 128 * n := by rw [List.length_append, hX', hX, hPl]; omega
  -- each half of X' that bears a tag
  have hall : ∀ i, i < 2 * (n - atT T) → mayH (halfAt X' i) → hCount (halfAt X' i) ≤ c ∧ (s ≤ hCount (halfAt X' i) → hNum (halfAt X' i) ≤ T.length) := fun i hi hmi => by
    rcases hmix i hi with e | ⟨hik, e⟩
    · rw [e] at hmi ⊢
      have := h3 i hi hmi
      exact ⟨by omega, this.2⟩
    · rw [e] at hmi ⊢
      obtain ⟨_, q1, q2, _⟩ := row_halves hmt hsh (by rw [hN]; exact hik) hmi
      rw [q1, q2]
      exact ⟨Nat.le_refl _, fun _ => Nat.le_refl _⟩
  have hlow : ∀ i, i < 2 * n → mayH (halfAt (P ++ X') i) → hCount (halfAt (P ++ X') i) ≤ c := fun i hi hmi => by
    by_cases hip : i < 2 * atT T
    · have e1 : halfAt (P ++ X') i = halfAt P i := half_app (by omega)
      have e2 : halfAt (P ++ X) i = halfAt P i := half_app (by omega)
      rw [e1, ← e2] at hmi ⊢
      exact h.low i hi hmi
    · have e1 : halfAt (P ++ X') i = halfAt X' (i - 2 * atT T) := by
        have := half_app2 (X := X') (i := i - 2 * atT T) (k := 2 * atT T) (P := P) (by omega)
        rwa [show 2 * atT T + (i - 2 * atT T) = i by omega] at this
      rw [e1] at hmi ⊢
      exact (hall _ (by omega) hmi).1
  by_cases hacc : joinIs X' (n - atT T) = true ∧ s ≤ hCount (halfAt X' 0) ∧ hNum (halfAt X' 0) = T.length ∧ ofR (joinB X') ≠ none
  · obtain ⟨hj, hs, hk, hof⟩ := hacc
    obtain ⟨j1, j2, j3, j4⟩ := join_halves hj
    obtain ⟨g1, _⟩ := good_facts (j4 0 j1)
    have hc0 := (hall 0 (by omega) g1).1
    by_cases hlt : hCount (halfAt X' 0) < c
    · -- an old row
      exfalso
      have hcong : ∀ i, i < hMany (halfAt X' 0) → halfAt X i = halfAt X' i := fun i hi => by
        obtain ⟨f1, f2, _⟩ := good_facts (j4 i hi)
        rcases hmix i (by omega) with e | ⟨hik, e⟩
        · exact e.symm
        · have f1' : mayH (halfAt (rowB c T.length (recB r)) i) := by rw [← e]; exact f1
          obtain ⟨_, q1, _⟩ := row_halves hmt hsh (by rw [hN]; exact hik) f1'
          rw [e, q1] at f2
          omega
      obtain ⟨k1, k2, k3⟩ := join_cong hj hcong
      have := h4 k1 (by rw [k3]; exact hs) (by rw [k3]; exact hk)
      rw [k2] at this
      exact hof this
    · -- the new one, whole
      right
      have hceq : hCount (halfAt X' 0) = c := by omega
      have hnew : ∀ i, i < hMany (halfAt X' 0) → i < manyN (recB r).length ∧ halfAt X' i = halfAt (rowB c T.length (recB r)) i ∧ hMany (halfAt X' 0) = manyN (recB r).length := fun i hi => by
        obtain ⟨f1, f2, _, f4⟩ := good_facts (j4 i hi)
        rcases hmix i (by omega) with e | ⟨hik, e⟩
        · have f1' : mayH (halfAt X i) := by rw [← e]; exact f1
          have := (h3 i (by omega) f1').1
          rw [← e, f2, hceq] at this
          omega
        · have f1' : mayH (halfAt (rowB c T.length (recB r)) i) := by rw [← e]; exact f1
          obtain ⟨q0, _, _, q4⟩ := row_halves hmt hsh (by rw [hN]; exact hik) f1'
          exact ⟨q0, e, by rw [← f4, e, q4]⟩
      have hM := (hnew 0 j1).2.2
      have hwl : 128 * needN (516 * r.length) ≤ X'.length := by rw [hX', hX]; omega
      have him : RowIm c (0 + T.length) (recB r) (X'.take (128 * needN (516 * r.length))) := by
        refine ⟨by rw [List.length_take, hN]; omega, fun i hi => ?_⟩
        have hmn : manyN (recB r).length ≤ 2 * needN (516 * r.length) := by rw [← hN]; unfold needN; omega
        rw [show 128 * needN (516 * r.length) = 64 * (2 * needN (516 * r.length)) by omega, half_take (by omega), (hnew i (by omega)).2.1, Nat.zero_add]
        exact (row_im c T.length (recB r)).2 i hi
      have hatT : atT (T ++ [(c, r)]) = atT T + needN (516 * r.length) := by simp [atT, atS]
      have hd : ∀ i, halfAt (X'.drop (128 * needN (516 * r.length))) i = halfAt X' (2 * needN (516 * r.length) + i) := fun i => by
        rw [show 128 * needN (516 * r.length) = 64 * (2 * needN (516 * r.length)) by omega, half_drop]
      refine ⟨hlen, h.s1, h.sc, fun x hx => ?_, hlow, P ++ X'.take (128 * needN (516 * r.length)), X'.drop (128 * needN (516 * r.length)), by rw [List.append_assoc, List.take_append_drop], tellP_snoc hP him, by rw [hatT]; exact hfit, fun i hi hmi => ?_, fun hj2 hs2 hk2 => ?_⟩
      · rcases List.mem_append.1 hx with hx | hx
        · exact h.ok x hx
        · rw [List.mem_singleton.1 hx]; exact ⟨h.sc, Nat.le_refl _, hr, hm⟩
      · rw [hatT] at hi
        rw [hd] at hmi ⊢
        have := hall (2 * needN (516 * r.length) + i) (by omega) hmi
        rw [List.length_append, List.length_singleton]
        exact ⟨by omega, fun hss => Nat.le_succ_of_le (this.2 hss)⟩
      · exfalso
        obtain ⟨m1, _, m3, m4⟩ := join_halves hj2
        obtain ⟨p1, _⟩ := good_facts (m4 0 m1)
        rw [hatT] at m3
        rw [hd] at p1 hs2 hk2
        have := (hall (2 * needN (516 * r.length) + 0) (by omega) p1).2 hs2
        rw [hk2, List.length_append, List.length_singleton] at this
        omega
  · left
    refine ⟨hlen, h.s1, h.sc, h.ok, hlow, P, X', rfl, hP, hat, fun i hi hmi => ?_, fun hj hs hk => ?_⟩
    · have := hall i hi hmi
      exact ⟨by omega, this.2⟩
    · cases ho : ofR (joinB X') with
      | none => rfl
      | some v => exact absurd ⟨hj, hs, hk, by rw [ho]; exact fun e => nomatch e⟩ hacc
/-- A record committed. -/
theorem inv_done (h : Inv n c c s T (P ++ X)) (hP : tellP 0 T P) (hX : X.length = 128 * (n - atT T))
    (h3 : ∀ i, i < 2 * (n - atT T) → mayH (halfAt X i) → hCount (halfAt X i) < c ∧ (s ≤ hCount (halfAt X i) → hNum (halfAt X i) ≤ T.length))
    (hc : c ≤ 4611686018427387904) (hn : n ≤ 4000) (hr : chsOk r) (hm : mayR r = true) (hfit : atT T + needN (516 * r.length) ≤ n) :
    Inv n c c s (T ++ [(c, r)]) (P ++ (rowB c T.length (recB r) ++ X.drop (128 * needN (516 * r.length)))) := by
  have hTl := atT_len h.ok
  have hPl := tellP_len h.ok hP
  have hmt := may_of (k := T.length) h.s1 h.sc (Nat.le_refl c) hc (by omega)
  have hrb := recB_len hr
  have hsh := rec_short hr hm
  have hN : needN (recB r).length = needN (516 * r.length) := by rw [hrb]
  have hRl := rowB_len c T.length (recB r)
  have hatT : atT (T ++ [(c, r)]) = atT T + needN (516 * r.length) := by simp [atT, atS]
  have hd : ∀ i, halfAt (X.drop (128 * needN (516 * r.length))) i = halfAt X (2 * needN (516 * r.length) + i) := fun i => by
    rw [show 128 * needN (516 * r.length) = 64 * (2 * needN (516 * r.length)) by omega, half_drop]
  have him : RowIm c (0 + T.length) (recB r) (rowB c T.length (recB r)) := by rw [Nat.zero_add]; exact row_im ..
  refine ⟨by rw [List.length_append, List.length_append, List.length_drop, hRl, hPl, hX, hN]; omega, h.s1, h.sc, fun x hx => ?_, fun i hi hmi => ?_, P ++ rowB c T.length (recB r), X.drop (128 * needN (516 * r.length)), by rw [List.append_assoc], tellP_snoc hP him, by rw [hatT]; exact hfit, fun i hi hmi => ?_, fun hj2 hs2 hk2 => ?_⟩
  · rcases List.mem_append.1 hx with hx | hx
    · exact h.ok x hx
    · rw [List.mem_singleton.1 hx]; exact ⟨h.sc, Nat.le_refl _, hr, hm⟩
  · by_cases hip : i < 2 * atT T
    · have e1 : halfAt (P ++ (rowB c T.length (recB r) ++ X.drop (128 * needN (516 * r.length)))) i = halfAt P i := half_app (by omega)
      have e2 : halfAt (P ++ X) i = halfAt P i := half_app (by omega)
      rw [e1, ← e2] at hmi ⊢
      exact h.low i hi hmi
    · obtain ⟨j, rfl⟩ : ∃ j, i = 2 * atT T + j := ⟨i - 2 * atT T, by omega⟩
      rw [half_app2 (by omega)] at hmi ⊢
      by_cases hj : j < 2 * needN (516 * r.length)
      · rw [half_app (by rw [hRl, hN]; omega)] at hmi ⊢
        obtain ⟨_, q1, _⟩ := row_halves hmt hsh (by rw [hN]; exact hj) hmi
        omega
      · obtain ⟨l, rfl⟩ : ∃ l, j = 2 * needN (516 * r.length) + l := ⟨j - 2 * needN (516 * r.length), by omega⟩
        rw [half_app2 (by rw [hRl, hN]; omega), hd] at hmi ⊢
        have := (h3 (2 * needN (516 * r.length) + l) (by omega) hmi).1
        omega
  · rw [hatT] at hi
    rw [hd] at hmi ⊢
    have := h3 (2 * needN (516 * r.length) + i) (by omega) hmi
    rw [List.length_append, List.length_singleton]
    exact ⟨this.1, fun hss => Nat.le_succ_of_le (this.2 hss)⟩
  · exfalso
    obtain ⟨m1, _, m3, m4⟩ := join_halves hj2
    obtain ⟨p1, _⟩ := good_facts (m4 0 m1)
    rw [hatT] at m3
    rw [hd] at p1 hs2 hk2
    have := (h3 (2 * needN (516 * r.length) + 0) (by omega) p1).2 hs2
    rw [hk2, List.length_append, List.length_singleton] at this
    omega
end
/-- An empty log. -/
theorem inv_zero (n : Nat) : Inv n 1 2 1 [] (zerosB (128 * n)) := by
  have hz : ∀ i, ¬ mayH (halfAt (zerosB (128 * n)) i) := fun i => zero_not _ (by rw [hCount, halfAt, zeros_drop, zeros_take, zeros_take, numB_zeros])
  exact ⟨by simp [zerosB], Nat.le_refl _, Nat.le_refl _, fun x hx => (nomatch hx), fun i _ hm => absurd hm (hz i), [], zerosB (128 * n), rfl, rfl, Nat.zero_le _, fun i _ hm => absurd hm (hz i), fun hj _ _ => by
    rw [join_zeros] at hj; cases hj⟩
end Go.Proofs.Ytkkgahgpemepeaa

/- The chapter's rows: known. -/
namespace Go.Proofs.Ytkkgahgpemepeaa
open Go Go.RowKit Coup

section
variable {Y : World → List Nat → Prop} [Thing Y] {g x lo : Nat} {L : List Nat} {w : World}
theorem kcF (h : Two (DZ g (newD 20)) Y lo L w) : Calls Try.prog 26 [.pointer (some ⟨g, 0, none⟩), .int .i64 12].toArray w (Ret fun v w' => v = .int .i64 0 ∧ Two (DZ g kD1) Y lo L w' ∧ LoL lo L w w') := by
  have hf := format26 h 12 ⟨by omega, by omega⟩ ((alive_new (n := 20) (by omega)).weak (by omega))
  rw [newD_len, show fitsN 20 12 = true from kFit, if_pos rfl, if_pos rfl] at hf
  exact hf
theorem kcO1 (h : Two (DZ g kD1) Y lo L w) : Calls Try.prog 24 [.pointer (some ⟨g, 0, none⟩), .int .i64 12].toArray w (Ret fun v w' => (∃ x p c, v = .tuple #[.pointer (some ⟨x, 0, none⟩), .slice p 0 c, .int .i64 0] ∧ LgAt g x (AndZ Y (AllZ p [])) lo L kD2 ⟨2, 1, 12, 0, 0, false⟩ w') ∧ LoL lo L w w') := by
  refine (openYes h 12 kOpen1.1 (short_of kd1.1.short (by omega))).to ?_
  rintro v w' ⟨ok, D2, C, s, S, hok, hD2, hC, hs, hS, hLL, hh⟩
  rw [kOpen1.2.1] at hC
  rw [kOpen1.2.2] at hs
  subst hC hs
  have hR := kRecs1
  rw [show ((12 : Nat) : Int) = 12 from rfl] at hS
  rw [hS] at hR
  subst hR
  rw [show (1 : Nat) + 1 = 2 from rfl] at *
  rw [kd2.1] at hok
  subst hok
  rcases hh with ⟨h, _⟩ | ⟨_, x, p, c, e, _, hG⟩
  · cases h
  · rw [show saveD kD1 2 1 = kD2 from rfl] at hD2
    subst hD2
    exact ⟨⟨x, p, c, e, hG⟩, hLL⟩
theorem kcT (h : LgAt g x Y lo L kD2 ⟨2, 1, 12, 0, 0, false⟩ w) : Calls Try.prog 18 [.pointer (some ⟨x, 0, none⟩)].toArray w (Ret fun v w' => v = .int .i64 0 ∧ LgAt g x Y lo L kD3 kG w' ∧ LoL lo L w w') := by
  refine (trunc18 h (by show (2 : Nat) ≤ _; omega) (short_of kd2.2.1.short (by omega))).to ?_
  rintro v w' ⟨e, he, hLL, hh⟩
  rcases hh with ⟨h, _⟩ | ⟨_, h, _⟩ | ⟨_, _, h, _⟩ | ⟨_, _, _, rfl, hG⟩
  · cases h
  · simp at h
  · rw [show saveE kD2 (2 + 1) (2 + 1) = true from kd3.1] at h; cases h
  · exact ⟨he, hG, hLL⟩
theorem kcC (h : LgAt g x Y lo L kD3 kG w) (p : Option Addr) (cp : Nat) (hs : SlAt w p 1 513 (chsV kR)) : Calls Try.prog 17 [.pointer (some ⟨x, 0, none⟩), .slice p 1 cp].toArray w (Ret fun v w' => v = .int .i64 0 ∧ LgAt g x Y lo L kD4 kG4 w' ∧ LoL lo L w w') := by
  have hc := commit17 h kOk3 (short_of kd3.2.1.short (by omega)) kR kR_ok p 1 cp hs (by rw [kR, recOf_len]; rfl) (by omega)
  rw [kCommit] at hc
  dsimp only at hc
  exact hc
theorem kcC2 (h : LgAt g x Y lo L kD4 kG4 w) {R : Rec} (hR : chsOk R) (hm : mayR R = true) (hl : R.length = 2) (p : Option Addr) (cp : Nat) (hs : SlAt w p 2 513 (chsV R)) : Calls Try.prog 17 [.pointer (some ⟨x, 0, none⟩), .slice p 2 cp].toArray w (Ret fun v w' => v = .int .i64 8 ∧ LgAt g x Y lo L kD4 kG4 w' ∧ LoL lo L w w') := by
  have hc := commit17 h kOk4 (short_of kd4.2.1.short (by omega)) R hR p 2 cp hs hl (by omega)
  rw [kFull hm hl] at hc
  dsimp only at hc
  exact hc
theorem kcO2 (h : Two (DZ g kD4) Y lo L w) (hD : DkOk kD3) : Calls Try.prog 24 [.pointer (some ⟨g, 0, none⟩), .int .i64 12].toArray w (Ret fun v w' => (∃ x p c, v = .tuple #[.pointer (some ⟨x, 0, none⟩), .slice p 1 c, .int .i64 0] ∧ AllR w' p [kR]) ∧ LoL lo L w w') := by
  refine (openYes h 12 kOpen4.1 (short_of kd4.2.1.short (by omega))).to ?_
  rintro v w' ⟨ok, D2, C, s, S, hok, hD2, hC, hs, hS, hLL, hh⟩
  have hR := kRecs4 hD
  rw [show ((12 : Nat) : Int) = 12 from rfl] at hS
  rw [hS] at hR
  subst hR
  have hsv := (save_alive kd4.2.1 (C + 1) s).1
  rw [hsv] at hok
  subst hok
  rcases hh with ⟨h, _⟩ | ⟨_, x, p, c, e, _, hG⟩
  · cases h
  · obtain ⟨⟨B, E, h1, ⟨C1, C2, _, h3, h4⟩, _⟩, _⟩ := hG.two
    exact ⟨⟨x, p, c, e, h4.r⟩, hLL⟩
end
set_option maxRecDepth 20000 in
set_option maxHeartbeats 2000000 in
theorem known7 (w : World) : Calls Try.prog 7 [].toArray w (Ret fun v w' => v = .bool true ∧ Below w.heap.size w w') := by
  have hB := Below.refl w.heap.size w
  have hml : maxLen = 9223372036854775807 := by decide
  have hF := fun g w' (h : Two (DZ g (newD 20)) None w.heap.size [] w') => kcF h
  have hO1 := fun g w' (h : Two (DZ g kD1) None w.heap.size [] w') => kcO1 h
  have hT := fun g x p w' (h : LgAt g x (AndZ None (AllZ p [])) w.heap.size [] kD2 ⟨2, 1, 12, 0, 0, false⟩ w') => kcT h
  have hC := fun g x p gb w' (h : LgAt g x (AndZ None (AllZ p [])) w.heap.size [gb] kD3 kG w') => kcC h
  have hC2 := fun g x p gb w' (h : LgAt g x (AndZ None (AllZ p [])) w.heap.size [gb] kD4 kG4 w') => @kcC2 _ _ _ _ _ _ _ h
  have hO2 := fun g p gb w' (h : Two (DZ g kD4) (AndZ None (AllZ p [])) w.heap.size [gb] w') => kcO2 h
  have hDk3 := fun g x p gb w' (h : LgAt g x (AndZ None (AllZ p [])) w.heap.size [gb] kD3 kG w') => (tOk h.two).1
  have hrec := fun p n cp w' (h : LvAt w' p n [⟨5, [7]⟩]) => record8 [⟨5, [7]⟩] p n cp w' h
  rw [show recOf [⟨5, [7]⟩] = kR from rfl] at hrec
  have hkl : kR.length = 1 := by rw [kR, recOf_len]; rfl
  have hkok := kR_ok
  have hkm := kR_may
  have hkkm : mayR (kR ++ kR) = true := by rw [mayR, List.length_append, kR, recOf_len]; rfl
  have hkkok : chsOk (kR ++ kR) := fun c hc => (List.mem_append.1 hc).elim (hkok c) (hkok c)
  have hkkv : chsV (kR ++ kR) = chsV kR ++ chsV kR := by simp [chsV]
  have hD0 : newD 20 = newD 20 := rfl
  obtain ⟨R, hRe⟩ : ∃ R, kR = R := ⟨_, rfl⟩
  rw [hRe] at hrec hkl hkok hkm hkkm hkkok hkkv hC hO2
  obtain ⟨DA, hDA⟩ : ∃ D, newD 20 = D := ⟨_, rfl⟩
  obtain ⟨DB, hDB⟩ : ∃ D, kD1 = D := ⟨_, rfl⟩
  obtain ⟨DC, hDC⟩ : ∃ D, kD2 = D := ⟨_, rfl⟩
  obtain ⟨DD, hDD⟩ : ∃ D, kD3 = D := ⟨_, rfl⟩
  obtain ⟨DE, hDE⟩ : ∃ D, kD4 = D := ⟨_, rfl⟩
  rw [hDA, hDB] at hF
  rw [hDB, hDC] at hO1
  rw [hDC, hDD] at hT
  rw [hDD, hDE] at hC
  rw [hDE] at hC2
  rw [hDE, hDD] at hO2
  rw [hDD] at hDk3
  have hn1 := fun w' => need10 1 w'
  rw [show needW 1 = 6 by decide] at hn1
  have hn2 := fun w' => need10 2 w'
  rw [show needW 2 = 11 by decide] at hn2
  have hn60 := fun w' => need10 60 w'
  rw [show needW 60 = 323 by decide] at hn60
  have hN := newC (w := w) 20 (by omega) (by omega)
  rw [hDA] at hN
  clear hDA hDB hDC hDD hDE hD0
  refine calls_W (fn := Try.f7) (rs := [.tmp 0]) (n := 108) Try.func7 rfl rfl Try.ntmps7 (by kernel_rfl) rfl ?_
  refine W_seq ?_
  refine W_region ?_
  refine WR_val rfl (rn_assign) ?_
  refine WR_nil ?_
  refine thenN ?_
  refine W_seq ?_
  refine W_region ?_
  refine WR_ent rfl (rn_call (by kernel_rfl) rfl) (hN) ?_
  rintro _ w8 ⟨g, B, rfl, hX, hBlo, hb8⟩
  replace hB := hB.acc hb8
  have hD : Two (DZ g DA) None w.heap.size [] w8 := Two.one hX (fun b hb => ⟨hBlo b hb, by simp⟩) (by have := hB.size; omega) (by simp)
  refine WR_val rfl (rn_move) ?_
  refine WR_val rfl (rn_extract rfl rfl) ?_
  refine WR_val rfl (rn_extract rfl rfl) ?_
  refine WR_val rfl (rn_assign) ?_
  refine WR_val rfl (rn_assign) ?_
  refine WR_nil ?_
  refine thenN ?_
  refine W_seq ?_
  refine W_seq ?_
  refine W_region ?_
  refine WR_val rfl (rn_move) ?_
  refine WR_val rfl (rn_neq rfl rfl) ?_
  refine WR_val rfl (rn_move) ?_
  refine WR_fp 13 rfl ((by omega)) ?_
  refine WR_yes rfl ?_
  refine WR_val rfl (rn_move) ?_
  refine WR_yes rfl ?_
  refine WR_ent rfl (rn_call (by kernel_rfl) rfl) (hF g w8 hD) ?_
  rintro _ w15 ⟨rfl, hD, hb15⟩
  replace hB := belLL hB hb15 (by omega)
  refine WR_yes rfl ?_
  refine WR_val rfl (rn_neq rfl rfl) ?_
  refine WR_val rfl (rn_pick_f rfl) ?_
  refine WR_val rfl (rn_move) ?_
  refine WR_fp 18 rfl ((by omega)) ?_
  refine WR_yes rfl ?_
  refine WR_ent rfl (rn_call (by kernel_rfl) rfl) (hn1 w15) ?_
  rintro _ _ ⟨rfl, rfl⟩
  refine WR_yes rfl ?_
  refine WR_val rfl (rn_neq rfl rfl) ?_
  refine WR_val rfl (rn_pick_f rfl) ?_
  refine WR_val rfl (rn_move) ?_
  refine WR_fp 22 rfl ((by omega)) ?_
  refine WR_yes rfl ?_
  refine WR_ent rfl (rn_call (by kernel_rfl) rfl) (hn2 w15) ?_
  rintro _ _ ⟨rfl, rfl⟩
  refine WR_yes rfl ?_
  refine WR_val rfl (rn_neq rfl rfl) ?_
  refine WR_val rfl (rn_pick_f rfl) ?_
  refine WR_val rfl (rn_move) ?_
  refine WR_fp 26 rfl ((by omega)) ?_
  refine WR_yes rfl ?_
  refine WR_ent rfl (rn_call (by kernel_rfl) rfl) (hn60 w15) ?_
  rintro _ _ ⟨rfl, rfl⟩
  refine WR_yes rfl ?_
  refine WR_val rfl (rn_neq rfl rfl) ?_
  refine WR_val rfl (rn_pick_f rfl) ?_
  refine WR_nil ?_
  refine thenN ?_
  refine W_fp rfl ((by simp)) ?_
  refine W_skip ?_
  refine thenN ?_
  refine W_seq ?_
  refine W_region ?_
  refine WR_val rfl (rn_move) ?_
  refine WR_ent rfl (rn_call (by kernel_rfl) rfl) (hO1 g w15 hD) ?_
  rintro _ w32 ⟨⟨x, p, c, rfl, hG⟩, hb32⟩
  replace hB := belLL hB hb32 (by omega)
  refine WR_val rfl (rn_move) ?_
  refine WR_val rfl (rn_extract rfl rfl) ?_
  refine WR_val rfl (rn_extract rfl rfl) ?_
  refine WR_val rfl (rn_extract rfl rfl) ?_
  refine WR_val rfl (rn_assign) ?_
  refine WR_val rfl (rn_assign) ?_
  refine WR_val rfl (rn_assign) ?_
  refine WR_nil ?_
  refine thenN ?_
  refine W_seq ?_
  refine W_seq ?_
  refine W_region ?_
  refine WR_val rfl (rn_move) ?_
  refine WR_val rfl (rn_neq rfl rfl) ?_
  refine WR_val rfl (rn_move) ?_
  refine WR_fp 38 rfl ((by omega)) ?_
  refine WR_yes rfl ?_
  refine WR_val rfl (rn_move) ?_
  refine WR_yes rfl ?_
  refine WR_val rfl (rn_lenSl (e := 25) (sz := 1) (by kernel_rfl) rfl rfl) ?_
  refine WR_yes rfl ?_
  refine WR_val rfl (rn_neq rfl rfl) ?_
  refine WR_val rfl (rn_pick_f rfl) ?_
  refine WR_val rfl (rn_move) ?_
  refine WR_fp 43 rfl ((by omega)) ?_
  refine WR_yes rfl ?_
  refine WR_val rfl (rn_move) ?_
  refine WR_yes rfl ?_
  refine WR_ent rfl (rn_call (by kernel_rfl) rfl) (count20 hG) ?_
  rintro _ _ ⟨rfl, rfl⟩
  refine WR_yes rfl ?_
  refine WR_val rfl (rn_neq rfl rfl) ?_
  refine WR_val rfl (rn_pick_f rfl) ?_
  refine WR_val rfl (rn_move) ?_
  refine WR_fp 48 rfl ((by simp)) ?_
  refine WR_yes rfl ?_
  refine WR_val rfl (rn_move) ?_
  refine WR_yes rfl ?_
  refine WR_ent rfl (rn_call (by kernel_rfl) rfl) (since21 hG) ?_
  rintro _ _ ⟨rfl, rfl⟩
  refine WR_yes rfl ?_
  refine WR_val rfl (rn_neq rfl rfl) ?_
  refine WR_val rfl (rn_pick_f rfl) ?_
  refine WR_val rfl (rn_move) ?_
  refine WR_fp 53 rfl ((by simp)) ?_
  refine WR_yes rfl ?_
  refine WR_val rfl (rn_move) ?_
  refine WR_yes rfl ?_
  refine WR_ent rfl (rn_call (by kernel_rfl) rfl) (hT g x p w32 hG) ?_
  rintro _ w55 ⟨rfl, hG, hb55⟩
  replace hB := belLL hB hb55 (by omega)
  refine WR_yes rfl ?_
  refine WR_val rfl (rn_neq rfl rfl) ?_
  refine WR_val rfl (rn_pick_f rfl) ?_
  refine WR_val rfl (rn_move) ?_
  refine WR_fp 58 rfl ((by omega)) ?_
  refine WR_yes rfl ?_
  refine WR_val rfl (rn_move) ?_
  refine WR_yes rfl ?_
  refine WR_ent rfl (rn_call (by kernel_rfl) rfl) (count20 hG) ?_
  rintro _ _ ⟨rfl, rfl⟩
  refine WR_yes rfl ?_
  refine WR_val rfl (rn_neq rfl rfl) ?_
  refine WR_val rfl (rn_pick_f rfl) ?_
  refine WR_val rfl (rn_move) ?_
  refine WR_fp 63 rfl ((by decide)) ?_
  refine WR_yes rfl ?_
  refine WR_val rfl (rn_move) ?_
  refine WR_yes rfl ?_
  refine WR_ent rfl (rn_call (by kernel_rfl) rfl) (since21 hG) ?_
  rintro _ _ ⟨rfl, rfl⟩
  refine WR_yes rfl ?_
  refine WR_val rfl (rn_neq rfl rfl) ?_
  refine WR_val rfl (rn_pick_f rfl) ?_
  refine WR_nil ?_
  refine thenN ?_
  refine W_fp rfl ((by decide)) ?_
  refine W_skip ?_
  refine thenN ?_
  refine W_seq ?_
  refine W_region ?_
  refine WR_mk rfl (mk_one (e := 5) (.int .u8 7) ([.int .u8 7]) ([Value.int .u8 0]) 1 (by kernel_rfl) (by kernel_rfl) rfl rfl rfl ⟨by decide, by decide⟩ (fun g68 w68 hg68 hr68 hb68 => ?_))
  have ge_hB_g68 := Nat.le_trans hB.size hg68
  replace hG := hG.newc hb68 hg68 hr68.lt
  replace hB := hB.acc hb68
  refine WR_val rfl (rn_built2 (.int .i64 5) (.slice (some ⟨g68, 0, none⟩) 1 1) [.int .i64 5, .slice (some ⟨g68, 0, none⟩) 1 1] rfl rfl (by kernel_rfl)) ?_
  refine WR_mk rfl (mk_one (e := 66) (.agg #[.int .i64 5, .slice (some ⟨g68, 0, none⟩) 1 1]) ([.int .i64 5, .slice (some ⟨g68, 0, none⟩) 1 1]) ([Value.int .i64 0, Value.slice none 0 0]) 2 (by kernel_rfl) (by kernel_rfl) rfl rfl (by first | rfl | (simp; done) | (simp [bv_length, *]; done)) ⟨by decide, by decide⟩ (fun g70 w70 hg70 hr70 hb70 => ?_))
  have ge_hB_g70 := Nat.le_trans hB.size hg70
  have lt_g68_g70 : g68 < g70 := Nat.lt_of_lt_of_le hr68.lt hg70
  replace hG := hG.newc hb70 hg70 hr70.lt
  replace hr68 := hr68.new hb70
  replace hB := hB.acc hb70
  have hlv : LvAt w70 (some ⟨g70, 0, none⟩) 1 [⟨5, [7]⟩] := ⟨rfl, _, hr70.slA (m := 1) (sz := 2) rfl (by omega), fun i x hx => by
    match i, hx with
    | 0, hx => cases hx; exact ⟨rfl, _, _, rfl, hr68.slA (m := 1) (sz := 1) rfl (by omega)⟩⟩
  have hsz71 := hB.size
  refine WR_ent rfl (rn_call (by kernel_rfl) rfl) (hrec _ 1 1 w70 hlv (by omega)) ?_
  rintro _ w71 ⟨hu, hb71⟩
  have hs := hu.form
  obtain ⟨pu, cu, rfl⟩ := hs
  have hob := hu.sl.some (by omega)
  obtain ⟨gb, ob, rfl, _⟩ := hob
  have hgb := hu.lt gb rfl
  replace hG := (hG.newc hb71 hgb.1 hgb.2).weak (L2 := [gb]) (by simp)
  replace hB := hB.acc hb71
  refine WR_val rfl (rn_assign) ?_
  refine WR_nil ?_
  refine thenN ?_
  refine W_seq ?_
  refine W_seq ?_
  refine W_region ?_
  refine WR_val rfl (rn_move) ?_
  refine WR_val rfl (rn_move) ?_
  have hdk := hDk3 g x p gb w71 hG
  refine WR_ent rfl (rn_call (by kernel_rfl) rfl) (hC g x p gb w71 hG _ cu hu.sl) ?_
  rintro _ w74 ⟨rfl, hG, hb74⟩
  replace hu := hu.kpd hb74.kp (by first | (refine notLL ?_; left; omega) | (refine notLL ?_; right; simp; done) | (intro b o e; cases e; first | (refine notLL ?_; left; omega) | (refine notLL ?_; right; simp; done) | (refine notLL ?_; right; simp [*]; done)) | (intro b hb; refine notLL ?_; left; omega) | (intro b hb e; cases e; exact notLL (by right; simp [*]) hb))
  replace hB := belLL hB hb74 (by omega)
  refine WR_val rfl (rn_neq rfl rfl) ?_
  refine WR_val rfl (rn_move) ?_
  refine WR_fp 76 rfl ((by omega)) ?_
  refine WR_yes rfl ?_
  refine WR_val rfl (rn_move) ?_
  refine WR_yes rfl ?_
  refine WR_ent rfl (rn_call (by kernel_rfl) rfl) (len22 hG) ?_
  rintro _ _ ⟨rfl, rfl⟩
  refine WR_yes rfl ?_
  refine WR_val rfl (rn_neq rfl rfl) ?_
  refine WR_val rfl (rn_pick_f rfl) ?_
  refine WR_val rfl (rn_move) ?_
  refine WR_fp 81 rfl ((by decide)) ?_
  refine WR_yes rfl ?_
  refine WR_val rfl (rn_move) ?_
  refine WR_yes rfl ?_
  refine WR_ent rfl (rn_call (by kernel_rfl) rfl) (room19 hG (by decide) (by decide)) ?_
  rintro _ w83 ⟨rfl, hb83⟩
  replace hG := hG.new hb83
  replace hu := hu.new hb83
  replace hB := hB.acc hb83
  refine WR_yes rfl ?_
  refine WR_val rfl (rn_neq rfl rfl) ?_
  refine WR_val rfl (rn_pick_f rfl) ?_
  refine WR_val rfl (rn_move) ?_
  refine WR_fp 86 rfl ((by decide)) ?_
  refine WR_yes rfl ?_
  refine WR_val rfl (rn_move) ?_
  refine WR_yes rfl ?_
  refine WR_val rfl (rn_move) ?_
  refine WR_yes rfl ?_
  refine WR_val rfl (rn_move) ?_
  refine WR_yes rfl ?_
  have hgb2 := hu.lt gb rfl
  refine WR_mk rfl (mk_appendK (e := 90) (sz := 513) (bytes := 520) (z := .agg (.int .i64 0 :: List.replicate 512 (.int .u8 0)).toArray) (by kernel_rfl) rfl (by kernel_rfl) rfl (by decide) rfl hu rfl hu.sl (chsV_one R) (by omega) (by omega) (by omega) (by omega) (fun v90 w90 hv90 hgr90 hfr90 hk90 => ?_))
  have hkp90 : Kp [gb] _ _ := Kp.of_grown hgr90
  replace hG := hG.kpd hkp90 (by first | (simp; done) | (simp; omega))
  replace hB := hB.kpd hkp90 (by first | (simp; done) | (simp; omega))
  refine WR_yes rfl ?_
  have hs2 := hv90.form
  obtain ⟨p2, c2, rfl⟩ := hs2
  have hv2 := hv90.sl
  rw [← hkkv] at hv2
  refine WR_ent rfl (rn_call (by kernel_rfl) rfl) (hC2 g x p gb w90 hG hkkok hkkm (by rw [List.length_append, hkl]) p2 c2 hv2) ?_
  rintro _ w91 ⟨rfl, hG, hb91⟩
  replace hk90 := hk90.kpd hb91.kp (by first | (refine notLL ?_; left; omega) | (refine notLL ?_; right; simp; done) | (intro b o e; cases e; first | (refine notLL ?_; left; omega) | (refine notLL ?_; right; simp; done) | (refine notLL ?_; right; simp [*]; done)) | (intro b hb; refine notLL ?_; left; omega) | (intro b hb e; cases e; exact notLL (by right; simp [*]) hb))
  replace hB := belLL hB hb91 (by omega)
  refine WR_yes rfl ?_
  refine WR_val rfl (rn_neq rfl rfl) ?_
  refine WR_val rfl (rn_pick_f rfl) ?_
  refine WR_nil ?_
  refine thenN ?_
  refine W_fp rfl ((by omega)) ?_
  refine W_skip ?_
  refine thenN ?_
  refine W_seq ?_
  refine W_region ?_
  have hD2 := hG.fst
  refine WR_val rfl (rn_move) ?_
  refine WR_ent rfl (rn_call (by kernel_rfl) rfl) (hO2 g p gb w91 hD2 hdk) ?_
  rintro _ w96 ⟨⟨x3, p3, c3, rfl, hA⟩, hb96⟩
  replace hk90 := hk90.kpd hb96.kp (by first | (refine notLL ?_; left; omega) | (refine notLL ?_; right; simp; done) | (intro b o e; cases e; first | (refine notLL ?_; left; omega) | (refine notLL ?_; right; simp; done) | (refine notLL ?_; right; simp [*]; done)) | (intro b hb; refine notLL ?_; left; omega) | (intro b hb e; cases e; exact notLL (by right; simp [*]) hb))
  replace hB := belLL hB hb96 (by omega)
  refine WR_val rfl (rn_move) ?_
  refine WR_val rfl (rn_extract rfl rfl) ?_
  refine WR_val rfl (rn_extract rfl rfl) ?_
  refine WR_val rfl (rn_extract rfl rfl) ?_
  refine WR_val rfl (rn_assign) ?_
  refine WR_val rfl (rn_assign) ?_
  refine WR_nil ?_
  refine thenN ?_
  refine W_seq ?_
  refine W_region ?_
  refine WR_val rfl (rn_move) ?_
  refine WR_val rfl (rn_eql rfl rfl) ?_
  refine WR_val rfl (rn_move) ?_
  refine WR_tp 102 rfl ((by simp)) ?_
  refine WR_yes rfl ?_
  refine WR_val rfl (rn_move) ?_
  refine WR_yes rfl ?_
  refine WR_val rfl (rn_move) ?_
  refine WR_yes rfl ?_
  have hus := hk90.sl
  refine WR_mk rfl (mk_one (e := 25) (.slice (some ⟨gb, ob, none⟩) 1 cu) ([.slice (some ⟨gb, ob, none⟩) 1 cu]) ([Value.slice none 0 0]) 1 (by kernel_rfl) (by kernel_rfl) rfl rfl rfl ⟨by decide, by decide⟩ (fun g105 w105 hg105 hr105 hb105 => ?_))
  have ge_hB_g105 := Nat.le_trans hB.size hg105
  replace hk90 := hk90.new hb105
  replace hA := hA.new hb105
  replace hus := hus.new hb105
  replace hB := hB.acc hb105
  refine WR_yes rfl ?_
  have hAR : AllR w105 (some ⟨g105, 0, none⟩) [R] := ⟨_, hr105.slA (m := 1) (sz := 1) rfl (by omega), fun i r hr => by
    match i, hr with
    | 0, hr => cases hr; exact ⟨_, cu, by rw [hkl]; rfl, by rw [hkl]; exact hus⟩⟩
  have hao : allOk [R] := fun r hr => by
    rw [List.mem_singleton.1 hr]
    exact ⟨hkok, by omega⟩
  refine WR_ent rfl (rn_call (by kernel_rfl) rfl) (sameAll37 [R] [R] hao hao _ _ 1 1 c3 1 w105 hA rfl hAR rfl (by omega)) ?_
  rintro _ w106 ⟨⟨bb, rfl, hbb⟩, hb106⟩
  replace hk90 := hk90.new hb106
  replace hA := hA.new hb106
  replace hus := hus.new hb106
  replace hr105 := hr105.new hb106
  replace hB := hB.acc hb106
  refine WR_val rfl (rn_pick_t rfl) ?_
  refine WR_val rfl (rn_assign) ?_
  refine WR_nil ?_
  refine thenN ?_
  refine W_ret ?_
  refine ret_ret [_] ⟨rfl, trivial⟩ ?_
  have hbt := hbb.2 rfl
  subst hbt
  exact ⟨rfl, hB⟩
end Go.Proofs.Ytkkgahgpemepeaa

/- The law WalBytes: what a record's bytes are. -/
namespace Go.Proofs.Ytkkgahgpemepeaa
open Go Go.RowKit Coup Go.ChangeShapes Go.WideShapes Go.Deep

/-- The cells of a leaf that came in. -/
def LfQ (W : World) (a : LeafT) (cs : List Value) : Prop := ∃ q cp, cs = [.int .i64 a.num, .slice q a.b.length cp] ∧ SlAt W q a.b.length 1 (bv a.b) ∧ a.b.length ≤ cp
theorem lfQ_opn {H : Type} {enc : TypeId × Value → H} {W : World} {base : Nat} {spare : Nat → Bool} {held : Bool} : Opn enc Try.prog W base spare held 66 (LfQ W) := fun fuel cs x h => by
  obtain ⟨hl, m, hf⟩ := opn_flds Try.underlying66 h
  have hl2 : cs.length = 2 := hl.trans (by kernel_rfl)
  obtain ⟨_, h0⟩ := fld hf 0 0 1 rfl rfl (by kernel_rfl)
  obtain ⟨_, h1⟩ := fld hf 1 1 1 rfl rfl (by kernel_rfl)
  obtain ⟨a, e0, w0⟩ := opn_int (by kernel_rfl) _ _ _ h0
  obtain ⟨R, q, cp, e1, hcp, hR⟩ := opn_slice (e := 5) (n := 1) (by kernel_rfl) (by kernel_rfl) (opn_int (k := .u8) (by kernel_rfl)) _ _ _ h1
  obtain ⟨l, hll, hl4⟩ := u8_of_els hR
  refine ⟨⟨a, l⟩, q, cp, ?_, by rw [hll]; exact hl4, by show l.length ≤ cp; omega⟩
  have k0 := cut_at cs 0 1
  have k1 := cut_at cs 1 1
  rw [e0] at k0
  rw [e1, List.drop_of_length_le (l := cs) (i := 1 + 1) (by omega), List.append_nil] at k1
  rw [k1] at k0
  rw [List.drop_zero] at k0
  rw [hll]
  exact k0
theorem openRows {H : Type} {enc : TypeId × Value → H} {W : World} {a : Option Addr} {len cap : Nat} {d : DataW H} {p : List MemPlace} (h : DataW.Trod enc Try.prog W 0 (fun _ => true) true 22 (.slice a len cap) d p) : (∃ R, ElsAt (LfQ W) W 2 a len R) ∧ len ≤ cap :=
  opn_arg (by kernel_rfl) (by kernel_rfl) lfQ_opn h
theorem LfQ.below {w w' : World} {a : LeafT} {cs : List Value} (h : LfQ w a cs) (hb : Below w.heap.size w w') : LfQ w' a cs := by
  obtain ⟨q, cp, h1, h2, h3⟩ := h
  exact ⟨q, cp, h1, h2.below hb (Nat.le_refl _), h3⟩
/-- Leaves that came in. -/
theorem lv_of_els {w : World} {p : Option Addr} {n : Nat} {R : List LeafT} (h : ElsAt (LfQ w) w 2 p n R) : LvAt w p n R := by
  obtain ⟨h1, cs, h2, h3⟩ := h
  refine ⟨h1, cs, h2, fun i x hx => ?_⟩
  obtain ⟨q, cp, e, h4, h5⟩ := h3 i x hx
  have e0 := congrArg (fun z => z[0]?) e
  have e1 := congrArg (fun z => z[1]?) e
  simp [List.getElem?_take, List.getElem?_drop] at e0 e1
  exact ⟨e0, q, cp, e1, h4⟩
theorem bytes9b (R : Rec) (hR : chsOk R) (p : Option Addr) (n cp : Nat) (w : World) (h : SlAt w p n 513 (chsV R)) (hn : R.length = n) (hn2 : n ≤ 1000000) :
    Calls Try.prog 9 [.slice p n cp].toArray w (Ret fun v w' => (∃ x k c e, v = .tuple #[.slice x k c, .int .i64 e] ∧ ((mayR R = true ∧ k = 516 * n ∧ e = 0 ∧ k ≤ c ∧ SlAt w' x k 1 (bv (recB R))) ∨ (mayR R = false ∧ k = 0 ∧ e = 2))) ∧ Below w.heap.size w w') :=
  (bytes9 R hR p n cp w h hn hn2).to fun v w' ⟨hh, hb⟩ => ⟨hh.elim (fun ⟨h1, g, o, c, h2, _, h3, h4⟩ => ⟨_, _, c, 0, h2, .inl ⟨h1, rfl, rfl, h3, h4⟩⟩) fun ⟨h1, h2⟩ => ⟨none, 0, 0, 2, h2, .inr ⟨h1, rfl, rfl⟩⟩, hb⟩
theorem of13b (b : List UInt8) (p : Option Addr) (n cp : Nat) (w : World) (h : SlAt w p n 1 (bv b)) (hcp : n ≤ cp) (hn2 : n ≤ 1000000) :
    Calls Try.prog 13 [.slice p n cp].toArray w (Ret fun v w' => (∃ x k c e r, v = .tuple #[.slice x k c, .int .i64 e] ∧ k = r.length ∧ SlAt w' x k 513 (chsV r) ∧ ((ofR b = some r ∧ e = 0) ∨ (ofR b = none ∧ r = [] ∧ e = 4))) ∧ Below w.heap.size w w') :=
  (of13 b p n cp w h hcp hn2).to fun v w' ⟨hh, hb⟩ => ⟨hh.elim (fun ⟨r, g, o, c, h1, h2, _, h3, h4⟩ => ⟨_, _, c, 0, r, h2, rfl, h4, .inl ⟨h1, rfl⟩⟩) fun ⟨h1, h2⟩ => ⟨none, 0, 0, 4, [], h2, rfl, ⟨rfl, by decide, fun h0 => absurd h0 (by decide)⟩, .inr ⟨h1, rfl, rfl⟩⟩, hb⟩
theorem rof16b (b : List UInt8) (p : Option Addr) (n cp : Nat) (w : World) (h : SlAt w p n 1 (bv b)) (hcp : n ≤ cp) (hn2 : n ≤ 1000000) :
    Calls Try.prog 16 [.slice p n cp].toArray w (Ret fun v w' => (∃ x k c e r, v = .tuple #[.slice x k c, .bool e] ∧ k = r.length ∧ SlAt w' x k 513 (chsV r) ∧ ((ofR b = some r ∧ e = true) ∨ (ofR b = none ∧ r = [] ∧ e = false))) ∧ Below w.heap.size w w') :=
  (rof16 b p n cp w h hcp hn2).to fun v w' ⟨hh, hb⟩ => ⟨hh.elim (fun ⟨r, x, c, h1, h2, h4⟩ => ⟨_, _, c, true, r, h2, rfl, h4, .inl ⟨h1, rfl⟩⟩) fun ⟨h1, h2⟩ => ⟨none, 0, 0, false, [], h2, rfl, ⟨rfl, by decide, fun h0 => absurd h0 (by decide)⟩, .inr ⟨h1, rfl, rfl⟩⟩, hb⟩
theorem ofR_short {b : List UInt8} {r : Rec} (h : ofR b = some r) : chsOk r ∧ r.length ≤ 1000000 := by
  by_cases h5 : b.length % 516 = 0
  · have hb : b.length = 516 * (b.length / 516) := by omega
    have he := ofR_eq b _ hb
    rw [h] at he
    split at he
    · rename_i hm
      have hr := Option.some.inj he
      have hl := of_decide_eq_true (Bool.and_eq_true_iff.1 hm).1
      rw [hr]
      exact ⟨ofL_ok (by omega), by omega⟩
    · cases he
  · rw [ofR, ofOk, decide_eq_false h5] at h
    cases h
theorem ofR_two {b : List UInt8} {r1 r2 : Rec} {e1 : Int} {e2 : Bool} (h1 : (ofR b = some r1 ∧ e1 = 0) ∨ (ofR b = none ∧ r1 = [] ∧ e1 = 4)) (h2 : (ofR b = some r2 ∧ e2 = true) ∨ (ofR b = none ∧ r2 = [] ∧ e2 = false)) : r2 = r1 ∧ chsOk r1 ∧ r1.length ≤ 1000000 ∧ ((e1 = 0 ∧ e2 = true) ∨ (e1 = 4 ∧ e2 = false)) := by
  rcases h1 with ⟨a, b1⟩ | ⟨a, b1, c⟩ <;> rcases h2 with ⟨a', b'⟩ | ⟨a', b', c'⟩
  · rw [a] at a'; cases a'; exact ⟨rfl, (ofR_short a).1, (ofR_short a).2, .inl ⟨b1, b'⟩⟩
  · rw [a] at a'; cases a'
  · rw [a] at a'; cases a'
  · subst b1 b'; exact ⟨rfl, (fun c hc => absurd hc (by simp)), by decide, .inr ⟨c, c'⟩⟩
set_option maxRecDepth 20000 in
set_option maxHeartbeats 2000000 in
theorem walBytesC (p : Option Addr) (n cp : Nat) (R : List LeafT) (q : Option Addr) (m cq : Nat) (b : List UInt8) (pages : Int) (w : World) (hp : ElsAt (LfQ w) w 2 p n R) (hq : SlAt w q m 1 (bv b)) (hcq : m ≤ cq) :
    Calls Try.prog 3 [.slice p n cp, .slice q m cq, .int .i64 pages].toArray w (Ret fun v w' => v = .bool true ∧ Below w.heap.size w w') := by
  have hB := Below.refl w.heap.size w
  have hml : maxLen = 9223372036854775807 := by decide
  have hmax := hp.max
  have hlv := lv_of_els hp
  have hrn := hp.1
  have hrl := recOf_len R
  have hrok := recOf_ok R
  have hrec := fun w' (h : LvAt w' p n R) => record8 R p n cp w' h
  generalize recOf R = Rc at hrec hrl hrok
  refine calls_W (fn := Try.f3) (rs := [.tmp 6]) (n := 101) Try.func3 rfl rfl Try.ntmps3 (by kernel_rfl) rfl ?_
  refine W_seq ?_
  refine W_region ?_
  refine WR_val rfl (rn_assign) ?_
  refine WR_nil ?_
  refine thenN ?_
  refine W_seq ?_
  refine W_seq ?_
  refine W_region ?_
  refine WR_val rfl (rn_move) ?_
  refine WR_val rfl (rn_lenSl (e := 66) (sz := 2) (by kernel_rfl) rfl rfl) ?_
  refine WR_val rfl (rn_gtr rfl rfl) ?_
  refine WR_val rfl (rn_move) ?_
  refine WR_part 19 rfl (fun hgt => ?_) (fun hgt => ?_)
  ·
    refine WR_no rfl rfl ?_
    refine WR_no rfl rfl ?_
    refine WR_no rfl rfl ?_
    refine WR_val rfl (rn_pick_t rfl) ?_
    refine WR_nil ?_
    refine thenN ?_
    refine W_tb rfl ((by simp)) ?_
    refine W_seq ?_
    refine W_region ?_
    refine WR_ent rfl (rn_call (by kernel_rfl) rfl) (known7 w) ?_
    rintro _ w24 ⟨rfl, hb24⟩
    replace hB := hB.acc hb24
    refine WR_val rfl (rn_assign) ?_
    refine WR_nil ?_
    refine thenN ?_
    refine W_ret ?_
    refine thenR ?_
    refine ret_ret [_] ⟨rfl, trivial⟩ ?_
    exact ⟨rfl, hB⟩
  ·
    refine WR_yes rfl ?_
    refine WR_val rfl (rn_move) ?_
    refine WR_yes rfl ?_
    refine WR_val rfl (rn_lenSl (e := 5) (sz := 1) (by kernel_rfl) rfl rfl) ?_
    refine WR_yes rfl ?_
    refine WR_val rfl (rn_gtr rfl rfl) ?_
    refine WR_val rfl (rn_pick_f rfl) ?_
    refine WR_nil ?_
    refine thenN ?_
    refine W_ifp rfl (fun hgt2 => ?_) (fun hgt2 => ?_)
    ·
      refine W_seq ?_
      refine W_region ?_
      refine WR_ent rfl (rn_call (by kernel_rfl) rfl) (known7 w) ?_
      rintro _ w24 ⟨rfl, hb24⟩
      replace hB := hB.acc hb24
      refine WR_val rfl (rn_assign) ?_
      refine WR_nil ?_
      refine thenN ?_
      refine W_ret ?_
      refine thenR ?_
      refine ret_ret [_] ⟨rfl, trivial⟩ ?_
      exact ⟨rfl, hB⟩
    ·
      refine W_skip ?_
      refine thenN ?_
      refine W_seq ?_
      refine W_region ?_
      refine WR_val rfl (rn_move) ?_
      refine WR_ent rfl (rn_call (by kernel_rfl) rfl) (hrec w hlv (by omega)) ?_
      rintro _ w26 ⟨hu, hb26⟩
      replace hB := hB.acc hb26
      have hs := hu.form
      obtain ⟨pu, cu, rfl⟩ := hs
      refine WR_val rfl (rn_assign) ?_
      refine WR_nil ?_
      refine thenN ?_
      refine W_seq ?_
      refine W_region ?_
      refine WR_val rfl (rn_move) ?_
      refine WR_ent rfl (rn_call (by kernel_rfl) rfl) (bytes9b Rc hrok pu n cu w26 hu.sl (by omega) (by omega)) ?_
      rintro _ w29 ⟨⟨xb, kb, cb, eb, rfl, hby⟩, hb29⟩
      replace hu := hu.new hb29
      replace hB := hB.acc hb29
      refine WR_val rfl (rn_move) ?_
      refine WR_val rfl (rn_extract rfl rfl) ?_
      refine WR_val rfl (rn_extract rfl rfl) ?_
      refine WR_val rfl (rn_assign) ?_
      refine WR_val rfl (rn_assign) ?_
      refine WR_nil ?_
      refine thenN ?_
      refine W_seq ?_
      refine W_seq ?_
      refine W_region ?_
      refine WR_val rfl (rn_move) ?_
      refine WR_ent rfl (rn_call (by kernel_rfl) rfl) (need10 pages w29) ?_
      rintro _ _ ⟨rfl, rfl⟩
      refine WR_val rfl (rn_move) ?_
      refine WR_ent rfl (rn_call (by kernel_rfl) rfl) (rneed11 pages w29) ?_
      rintro _ _ ⟨rfl, rfl⟩
      refine WR_val rfl (rn_neq rfl rfl) ?_
      refine WR_nil ?_
      refine thenN ?_
      refine W_fp rfl ((by omega)) ?_
      refine W_skip ?_
      refine thenN ?_
      refine W_cut (fun _ : Unit => [(1, .slice q m cq)]) (fun _ w' => Below w.heap.size w w') ?_ ?_
      ·
        refine W_seq ?_
        refine W_region ?_
        refine WR_val rfl (rn_move) ?_
        refine WR_ent rfl (rn_call (by kernel_rfl) rfl) (may12 Rc hrok pu n cu w29 hu.sl (by omega) (by omega)) ?_
        rintro _ _ ⟨rfl, rfl⟩
        refine WR_val rfl (rn_not rfl) ?_
        refine WR_nil ?_
        refine thenN ?_
        refine W_ifnb rfl (fun hmay => ?_) (fun hmay => ?_)
        ·
          refine W_seq ?_
          refine W_region ?_
          refine WR_val rfl (rn_move) ?_
          refine WR_val rfl (rn_lenSl (e := 5) (sz := 1) (by kernel_rfl) rfl rfl) ?_
          refine WR_val rfl (rn_neq rfl rfl) ?_
          refine WR_val rfl (rn_move) ?_
          have hmf : mayR Rc = false := by cases hx : mayR Rc with | false => rfl | true => rw [hx] at hmay; cases hmay
          have hobt : kb = 0 ∧ eb = 2 := hby.elim (fun h => by rw [hmf] at h; cases h.1) fun h => h.2
          obtain ⟨rfl, rfl⟩ := hobt
          refine WR_fp 43 rfl ((by omega)) ?_
          refine WR_yes rfl ?_
          refine WR_val rfl (rn_move) ?_
          refine WR_yes rfl ?_
          refine WR_val rfl (rn_neq rfl rfl) ?_
          refine WR_val rfl (rn_pick_f rfl) ?_
          refine WR_nil ?_
          refine thenN ?_
          refine W_fp rfl ((by omega)) ?_
          refine W_skip ?_
          exact ⟨(), ⟨rfl, rfl⟩, hB⟩
        ·
          have hmt : mayR Rc = true := hmay
          have hobt : kb = 516 * n ∧ eb = 0 ∧ kb ≤ cb ∧ SlAt w29 xb kb 1 (bv (recB Rc)) := hby.elim (fun h => h.2) fun h => by rw [hmt] at h; cases h.1
          obtain ⟨rfl, rfl, hkc, hbs⟩ := hobt
          have hrr := ofR_rec hrok hmt
          have hnum : ∀ c ∈ Rc, numOk c.num = true := fun c hc => List.all_eq_true.1 (Bool.and_eq_true_iff.1 hmt).2 c hc
          have hrbl := recB_len hrok
          refine W_seq ?_
          refine W_region ?_
          refine WR_val rfl (rn_move) ?_
          refine WR_ent rfl (rn_call (by kernel_rfl) rfl) (of13b (recB Rc) xb (516 * n) cb w29 hbs hkc (by omega)) ?_
          rintro _ w49 ⟨⟨xc, kc, cc, ec, rc, rfl, rfl, hcs, hcc⟩, hb49⟩
          replace hu := hu.new hb49
          replace hbs := hbs.new hb49
          replace hB := hB.acc hb49
          refine WR_val rfl (rn_move) ?_
          refine WR_val rfl (rn_extract rfl rfl) ?_
          refine WR_val rfl (rn_extract rfl rfl) ?_
          refine WR_val rfl (rn_assign) ?_
          refine WR_val rfl (rn_assign) ?_
          refine WR_nil ?_
          refine thenN ?_
          refine W_seq ?_
          have hec : rc = Rc ∧ ec = 0 := hcc.elim (fun h => ⟨by rw [hrr] at h; exact (Option.some.inj h.1).symm, h.2⟩) fun h => by rw [hrr] at h; cases h.1
          obtain ⟨rfl, rfl⟩ := hec
          refine W_draw' [] (by kernel_rfl) ?_
          intro w901 hb901 hS901
          replace hu := hu.new hb901
          replace hbs := hbs.new hb901
          replace hcs := hcs.new hb901
          replace hB := hB.acc hb901
          have hu_d901 := hu
          have hbs_d901 := hbs
          have hcs_d901 := hcs
          have hB_d901 := hB
          refine WA_take 0 (by kernel_rfl) rfl (fun _ _ => rn_move) ?_
          refine WA_take 1 (by kernel_rfl) rfl (fun _ _ => rn_neq rfl rfl) ?_
          refine WA_take 2 (by kernel_rfl) rfl (fun _ _ => rn_move) ?_
          refine WA_fp 54 rfl ((by omega)) ?_
          refine WA_take 3 (by kernel_rfl) rfl (fun _ _ => rn_move) ?_
          refine WA_take 4 (by kernel_rfl) rfl (fun _ _ => rn_neq rfl rfl) ?_
          refine WA_take 5 (by kernel_rfl) rfl (fun _ _ => rn_pick_f rfl) ?_
          refine WA_take 6 (by kernel_rfl) rfl (fun _ _ => rn_move) ?_
          refine WA_fp 58 rfl ((by omega)) ?_
          refine WA_take 7 (by kernel_rfl) rfl (fun _ _ => rn_move) ?_
          refine WA_take 8 (by kernel_rfl) rfl (fun w' hS' => rn_str (e := 5) (l := recB rc) (by kernel_rfl) (by kernel_rfl) (by kernel_rfl) rfl (hbs_d901.kpd hS' (by first | (simp; done) | (simp; omega) | (simp [*]; done) | exact notLL (Or.inl (by omega)) | exact notLL (Or.inr (by simp)) | exact fun g hm => Nat.le_trans (by omega) (inLL hm).1 | (intro b o e; cases e; exact notLL (Or.inl (by omega))) | (intro b hm; have := ((hu_d901.kpd hS' (by first | (simp; done) | (simp; omega) | (simp [*]; done) | exact notLL (Or.inl (by omega)) | exact notLL (Or.inr (by simp)) | exact fun g hm => Nat.le_trans (by omega) (inLL hm).1 | (intro b o e; cases e; exact notLL (Or.inl (by omega))) | (intro b hm; have := (hu.lt b (Option.mem_toList.1 hm)).1; omega) | (intro b o e; cases e; intro hm; have := (hu.lt _ (Option.mem_toList.1 hm)).1; omega))).lt b (Option.mem_toList.1 hm)).1; omega) | (intro b o e; cases e; intro hm; have := ((hu_d901.kpd hS' (by first | (simp; done) | (simp; omega) | (simp [*]; done) | exact notLL (Or.inl (by omega)) | exact notLL (Or.inr (by simp)) | exact fun g hm => Nat.le_trans (by omega) (inLL hm).1 | (intro b o e; cases e; exact notLL (Or.inl (by omega))) | (intro b hm; have := (hu.lt b (Option.mem_toList.1 hm)).1; omega) | (intro b o e; cases e; intro hm; have := (hu.lt _ (Option.mem_toList.1 hm)).1; omega))).lt _ (Option.mem_toList.1 hm)).1; omega)))) ?_
          refine WA_take 9 (by kernel_rfl) rfl (fun _ _ => rn_move) ?_
          refine WA_one 10 (by kernel_rfl) ?_
          refine WO_ent rfl rfl (rn_call (by kernel_rfl) rfl) (bytes14 rc hrok hnum pu n cu w901 hu.sl (by omega) (by omega)) ?_
          rintro _ w62 ⟨hw, hb62⟩
          have hS902 := hS901.add0 hb62
          refine ⟨hS902, ?_⟩
          replace hu := hu.new hb62
          replace hbs := hbs.new hb62
          replace hcs := hcs.new hb62
          replace hB := hB.acc hb62
          have hs := hw.form
          obtain ⟨pw, cw, rfl⟩ := hs
          refine WA_one 11 (by kernel_rfl) ?_
          refine WO_val rfl rfl (rn_str (e := 5) (l := recB rc) (by kernel_rfl) (by kernel_rfl) (by kernel_rfl) rfl hw.sl) hS902 ?_
          refine WA_take 12 (by kernel_rfl) rfl (fun _ _ => rn_neqS rfl rfl) ?_
          refine WA_take 13 (by kernel_rfl) rfl (fun _ _ => rn_pick_f rfl) ?_
          refine WA_take 14 (by kernel_rfl) rfl (fun _ _ => rn_move) ?_
          refine WA_fn 66 rfl ((by simp)) ?_
          refine WA_take 15 (by kernel_rfl) rfl (fun _ _ => rn_move) ?_
          refine WA_take 16 (by kernel_rfl) rfl (fun _ _ => rn_move) ?_
          refine WA_one 17 (by kernel_rfl) ?_
          refine WO_ent rfl rfl (rn_call (by kernel_rfl) rfl) (same15 rc rc hrok hrok xc pu rc.length n cc cu w62 hcs rfl hu.sl (by omega) (by omega)) ?_
          rintro _ w69 ⟨⟨bb, rfl, hbb⟩, hb69⟩
          have hS904 := hS902.add0 hb69
          refine ⟨hS904, ?_⟩
          replace hu := hu.new hb69
          replace hbs := hbs.new hb69
          replace hcs := hcs.new hb69
          replace hw := hw.new hb69
          replace hB := hB.acc hb69
          refine WA_take 18 (by kernel_rfl) rfl (fun _ _ => rn_not rfl) ?_
          refine WA_take 19 (by kernel_rfl) rfl (fun _ _ => rn_pick_f rfl) ?_
          refine WA_done (by kernel_rfl) ?_
          refine thenN ?_
          refine W_fnb rfl ((by rw [hbb.2 rfl])) ?_
          refine W_skip ?_
          exact ⟨(), ⟨rfl, rfl⟩, hB⟩
      ·
        intro _ f wr hB
        refine W_seq ?_
        refine W_region ?_
        refine WR_val rfl (rn_move) ?_
        refine WR_ent rfl (rn_call (by kernel_rfl) rfl) (of13b b q m cq wr (hq.below hB (Nat.le_refl _)) hcq (by omega)) ?_
        rintro _ w74 ⟨⟨x1, k1, c1, e1, r1, rfl, rfl, hs1, hc1⟩, hb74⟩
        replace hB := hB.acc hb74
        refine WR_val rfl (rn_move) ?_
        refine WR_val rfl (rn_extract rfl rfl) ?_
        refine WR_val rfl (rn_extract rfl rfl) ?_
        refine WR_val rfl (rn_assign) ?_
        refine WR_val rfl (rn_assign) ?_
        refine WR_nil ?_
        refine thenN ?_
        refine W_seq ?_
        refine W_region ?_
        refine WR_val rfl (rn_move) ?_
        refine WR_ent rfl (rn_call (by kernel_rfl) rfl) (rof16b b q m cq w74 (hq.below hB (Nat.le_refl _)) hcq (by omega)) ?_
        rintro _ w79 ⟨⟨x2, k2, c2, e2, r2, rfl, rfl, hs2, hc2⟩, hb79⟩
        replace hs1 := hs1.new hb79
        replace hB := hB.acc hb79
        refine WR_val rfl (rn_move) ?_
        refine WR_val rfl (rn_extract rfl rfl) ?_
        refine WR_val rfl (rn_extract rfl rfl) ?_
        refine WR_val rfl (rn_assign) ?_
        refine WR_val rfl (rn_assign) ?_
        refine WR_nil ?_
        refine thenN ?_
        refine W_seq ?_
        refine W_region ?_
        have hobt := ofR_two hc1 hc2
        obtain ⟨hr, hok1, hl1, hee⟩ := hobt
        subst hr
        refine WR_val rfl (rn_move) ?_
        refine WR_val rfl (rn_move) ?_
        refine WR_ent rfl (rn_call (by kernel_rfl) rfl) (same15 r2 r2 hok1 hok1 x1 x2 r2.length r2.length c1 c2 w79 hs1 rfl hs2 rfl hl1) ?_
        rintro _ w84 ⟨⟨bb, rfl, hbb⟩, hb84⟩
        replace hs1 := hs1.new hb84
        replace hs2 := hs2.new hb84
        replace hB := hB.acc hb84
        have hbt := hbb.2 rfl
        subst hbt
        have hq1 : decide (e1 = 0) = e2 ∧ ((e2 || decide (e1 = 4)) = true) := hee.elim (fun ⟨a, b⟩ => by rw [a, b]; exact ⟨rfl, rfl⟩) fun ⟨a, b⟩ => by rw [a, b]; exact ⟨rfl, rfl⟩
        refine WR_val rfl (rn_move) ?_
        refine WR_tb 85 rfl (rfl) ?_
        refine WR_yes rfl ?_
        refine WR_val rfl (rn_move) ?_
        refine WR_yes rfl ?_
        refine WR_val rfl (rn_eql rfl rfl) ?_
        refine WR_yes rfl ?_
        refine WR_val rfl (rn_move) ?_
        refine WR_yes rfl ?_
        refine WR_val rfl (rn_eqlb (by kernel_rfl) rfl rfl) ?_
        refine WR_val rfl (rn_pick_t rfl) ?_
        refine WR_val rfl (rn_move) ?_
        refine WR_tp 91 rfl (hq1.1) ?_
        refine WR_yes rfl ?_
        refine WR_val rfl (rn_move) ?_
        refine WR_yes rfl ?_
        refine WR_val rfl (rn_move) ?_
        refine WR_partb 93 rfl (fun hg => ?_) (fun hg => ?_)
        ·
          refine WR_no rfl rfl ?_
          refine WR_no rfl rfl ?_
          refine WR_yes rfl ?_
          refine WR_val rfl (rn_pick_t rfl) ?_
          refine WR_val rfl (rn_pick_t rfl) ?_
          refine WR_val rfl (rn_move) ?_
          refine WR_yes rfl ?_
          refine WR_ent rfl (rn_call (by kernel_rfl) rfl) (known7 w84) ?_
          rintro _ w99 ⟨rfl, hb99⟩
          replace hs1 := hs1.new hb99
          replace hs2 := hs2.new hb99
          replace hB := hB.acc hb99
          refine WR_val rfl (rn_pick_t rfl) ?_
          refine WR_val rfl (rn_assign) ?_
          refine WR_nil ?_
          refine thenN ?_
          refine W_ret ?_
          refine ret_ret [_] ⟨rfl, trivial⟩ ?_
          exact ⟨rfl, hB⟩
        ·
          have hn4 : e1 = 4 := hee.elim (fun h => by rw [h.2] at hg; cases hg) fun h => h.1
          refine WR_yes rfl ?_
          refine WR_val rfl (rn_move) ?_
          refine WR_yes rfl ?_
          refine WR_val rfl (rn_eql rfl rfl) ?_
          refine WR_yes rfl ?_
          refine WR_val rfl (rn_pick_f rfl) ?_
          refine WR_val rfl (rn_pick_t rfl) ?_
          refine WR_val rfl (rn_move) ?_
          refine WR_tp 98 rfl (hn4) ?_
          refine WR_yes rfl ?_
          refine WR_ent rfl (rn_call (by kernel_rfl) rfl) (known7 w84) ?_
          rintro _ w99 ⟨rfl, hb99⟩
          replace hs1 := hs1.new hb99
          replace hs2 := hs2.new hb99
          replace hB := hB.acc hb99
          refine WR_val rfl (rn_pick_t rfl) ?_
          refine WR_val rfl (rn_assign) ?_
          refine WR_nil ?_
          refine thenN ?_
          refine W_ret ?_
          refine ret_ret [_] ⟨rfl, trivial⟩ ?_
          exact ⟨rfl, hB⟩
end Go.Proofs.Ytkkgahgpemepeaa

/- A disk's first sectors; are two lists of sectors the same; are there few steps. -/
namespace Go.Proofs.Ytkkgahgpemepeaa
open Go Go.RowKit Coup

def secD (D : Dk) (n : Nat) : List Sec := (List.range n).map fun i => readD D i
theorem secD_succ (D : Dk) (n : Nat) : secD D (n + 1) = secD D n ++ [readD D n] := by simp [secD, List.range_succ]
theorem secD_len (D : Dk) (n : Nat) : (secD D n).length = n := by simp [secD]
theorem secD_get (D : Dk) {n i : Nat} (h : i < n) : (secD D n)[i]? = some (readD D i) := by rw [secD, List.getElem?_map, List.getElem?_range h]; rfl
theorem secD_ok {D : Dk} (h : DkOk D) {n : Nat} (hn : n ≤ D.V.length) : secsOk (secD D n) := fun s hs => by
  obtain ⟨i, hi, rfl⟩ := List.mem_map.1 hs
  have := List.mem_range.1 hi
  exact readD_len h (by omega)
section
variable {Y : World → List Nat → Prop} [Thing Y] {g lo : Nat} {L : List Nat} {D : Dk} {w : World}
set_option maxRecDepth 20000 in
set_option maxHeartbeats 1000000 in
theorem sectors31 (h : Two (DZ g D) Y lo L w) (n : Nat) (hn : n ≤ D.V.length) (hn2 : D.V.length ≤ 1000000) :
    Calls Try.prog 31 [.pointer (some ⟨g, 0, none⟩), .int .i64 (n : Int)].toArray w (Ret fun v w' => ownsAt w' w.heap.size 63 128 v n (bv (secD D n).flatten) ∧ Below w.heap.size w w') := by
  have hB := Below.refl w.heap.size w
  have hml : maxLen = 9223372036854775807 := by decide
  have hTw := fun w' (hb : Below w.heap.size w w') i => tRead (h.new hb) i
  have hDk := (tOk h).1
  have hfl : ∀ k, (secD D (k + 1)).flatten = (secD D k).flatten ++ readD D k := fun k => by rw [secD_succ, List.flatten_append]; simp
  have hf0 : (secD D 0).flatten = [] := rfl
  refine calls_W (fn := Try.f31) (rs := [.tmp 4]) (n := 25) Try.func31 rfl rfl Try.ntmps31 (by kernel_rfl) rfl ?_
  refine W_seq ?_
  refine W_region ?_
  refine WR_val rfl (rn_assign) ?_
  refine WR_nil ?_
  refine thenN ?_
  refine W_seq ?_
  refine W_region ?_
  refine WR_val rfl (rn_assign) ?_
  refine WR_nil ?_
  refine thenN ?_
  refine W_seq ?_
  refine W_seq ?_
  refine W_region ?_
  refine WR_val rfl (rn_assign) ?_
  refine WR_nil ?_
  refine thenN ?_
  refine W_block ?_
  refine W_loop (α := Nat × Value) (0, .slice none 0 0) (fun k => [(6, .int .i64 (k.1 : Nat)), (5, k.2), (0, .pointer (some ⟨g, 0, none⟩)), (1, .int .i64 (n : Nat))])
    (fun k w' => k.1 ≤ n ∧ ownsAt w' w.heap.size 63 128 k.2 k.1 (bv (secD D k.1).flatten) ∧ Below w.heap.size w w') (fun k => n - k.1) ⟨rfl, rfl, rfl, rfl, rfl⟩ ⟨Nat.zero_le _, ownsAt_nil _ _ _ _, hB⟩ ?_
  clear hB
  rintro ⟨i, u⟩ f wr ⟨hi, hu, hB⟩
  dsimp only at *
  have hin : inD D (i : Int) = decide (i < D.V.length) := by unfold inD; exact decide_eq_decide.2 ⟨fun h => by omega, fun h => ⟨by omega, by omega⟩⟩
  have hBr := Below.refl wr.heap.size wr
  refine W_seq ?_
  refine W_seq ?_
  refine W_region ?_
  refine WR_val rfl (rn_move) ?_
  refine WR_val rfl (rn_move) ?_
  refine WR_val rfl (rn_lss rfl rfl) ?_
  refine WR_nil ?_
  refine thenN ?_
  refine W_ifp rfl (fun hlt => ?_) (fun hlt => ?_)
  ·
    refine W_skip ?_
    refine thenN ?_
    refine W_seq ?_
    refine W_block ?_
    refine W_seq ?_
    have hrd := hTw wr hB (i : Int)
    have hif : i < n := by omega
    have hrl := readD_len hDk (i := i) (by omega)
    rw [hin, decide_eq_true (by omega), if_pos rfl, if_pos rfl, Int.toNat_natCast] at hrd
    have hfi := hfl i
    have hob : ∃ s, readD D i = s := ⟨_, rfl⟩
    obtain ⟨s, hs⟩ := hob
    rw [hs] at hrd hfi hrl
    have hbl : (bv s).length = 128 := by rw [bv_length]; exact hrl
    refine W_region ?_
    refine WR_val rfl (rn_move) ?_
    refine WR_val rfl (rn_move) ?_
    refine WR_ent rfl (rn_call (by kernel_rfl) rfl) (hrd) ?_
    rintro _ w17 ⟨rfl, hb17⟩
    replace hB := hB.acc hb17
    replace hBr := hBr.acc hb17
    refine WR_val rfl (rn_move) ?_
    refine WR_val rfl (rn_extract rfl rfl) ?_
    refine WR_val rfl (rn_extract rfl rfl) ?_
    refine WR_mk rfl (mk_alloc (List.replicate 128 (Value.int .u8 0)) (by kernel_rfl) (fun g7 w7 hg7 hr7 hb7 => ?_))
    have ge_hB_g7 := Nat.le_trans hB.size hg7
    have ge_hBr_g7 := Nat.le_trans hBr.size hg7
    replace hB := hB.acc hb7
    replace hBr := hBr.acc hb7
    refine WR_sk rfl (sk_storeA 128 (bv s) rfl rfl hr7 (by kernel_rfl) (by first | assumption | (simp; done) | (simp [bv_length, *]; done)) (by first | assumption | (simp; done) | (simp [bv_length, *]; done) | rfl) (by first | exact bv_one _ | assumption | (simp [Value.oneCell']; done)) (fun w901 hr7 ho901 => ?_))
    replace hB := ho901.below hB ge_hB_g7
    replace hBr := ho901.below hBr ge_hBr_g7
    refine WR_val rfl (rn_assign) ?_
    refine WR_nil ?_
    refine thenN ?_
    refine W_region ?_
    refine WR_val rfl (rn_move) ?_
    refine WR_val rfl (rn_load rfl (Ld.rowA (k := 128) hr7 (by kernel_rfl) (by kernel_rfl) (by first | (simp; done) | (simp [bv_length, *]; done) | assumption))) ?_
    refine WR_mk rfl (mk_one (e := 63) (.agg (bv s).toArray) (bv s) (List.replicate 128 (Value.int .u8 0)) 128 (by kernel_rfl) (by kernel_rfl) rfl rfl (by first | rfl | (simp; done) | (simp [bv_length, *]; done)) ⟨by decide, by decide⟩ (fun g22 w22 hg22 hr22 hb22 => ?_))
    have ge_hB_g22 := Nat.le_trans hB.size hg22
    have ge_hBr_g22 := Nat.le_trans hBr.size hg22
    have lt_g7_g22 : g7 < g22 := Nat.lt_of_lt_of_le hr7.lt hg22
    replace hr7 := hr7.new hb22
    replace hB := hB.acc hb22
    replace hBr := hBr.acc hb22
    have hs24 := hr22.slA (m := 1) (sz := 128) hbl (by omega)
    have hu1 : ∀ v ∈ bv s, v.oneCell' = true := bv_one _
    replace hu := hu.new hBr
    have hbz := hBr.size
    have hbz2 := hB.size
    have sz_hB_23 := hB.size
    refine WR_mk rfl (mk_append (e := 63) (sz := 128) (bytes := 128) (z := .agg (List.replicate 128 (Value.int .u8 0)).toArray) (by kernel_rfl) rfl (by kernel_rfl) rfl (by decide) rfl hu rfl hs24 hu1 (by unfold maxLen; omega) (by omega) (fun hm0 => by omega) (fun v23 w23 hv23 hgr23 hfr23 => ?_))
    replace hB := hB.own hu hgr23 (by omega)
    refine WR_val rfl (rn_assign) ?_
    refine WR_nil ?_
    refine blockN ?_
    refine thenN ?_
    refine W_region ?_
    refine WR_val rfl (rn_move) ?_
    refine WR_val rfl (rn_add rfl rfl (Coup.w64 (by omega))) ?_
    refine WR_val rfl (rn_assign) ?_
    refine WR_nil ?_
    rw [← bv_append, ← hfi] at hv23
    refine loopN ⟨(i + 1, v23), by show n - (i + 1) < n - i; omega, ⟨by go_num, rfl, rfl, rfl, rfl⟩, by show i + 1 ≤ n; omega, hv23, hB⟩
  ·
    have hin : i = n := by omega
    subst hin
    refine W_exit ?_
    refine thenX ?_
    refine loopX ?_
    refine blockX ?_
    refine thenN ?_
    refine W_seq ?_
    refine W_region ?_
    refine WR_val rfl (rn_move) ?_
    refine WR_val rfl (rn_assign) ?_
    refine WR_nil ?_
    refine thenN ?_
    refine W_ret ?_
    refine ret_ret [_] ⟨rfl, trivial⟩ ?_
    exact ⟨hu, hB⟩
end
set_option maxRecDepth 20000 in
set_option maxHeartbeats 1000000 in
theorem same33 (A B : List Sec) (hA : secsOk A) (hB2 : secsOk B) (p q : Option Addr) (n m c d : Nat) (w : World) (h : SlAt w p n 128 (bv A.flatten)) (k : SlAt w q m 128 (bv B.flatten)) (hn : A.length = n) (hm : B.length = m) (hn2 : n ≤ 1000000) :
    Calls Try.prog 33 [.slice p n c, .slice q m d].toArray w (Ret fun v w' => (∃ b, v = .bool b ∧ (b = true ↔ A = B)) ∧ Below w.heap.size w w') := by
  have hB := Below.refl w.heap.size w
  refine calls_W (fn := Try.f33) (rs := [.tmp 4]) (n := 26) Try.func33 rfl rfl Try.ntmps33 (by kernel_rfl) rfl ?_
  refine W_seq ?_
  refine W_region ?_
  refine WR_val rfl (rn_assign) ?_
  refine WR_nil ?_
  refine thenN ?_
  refine W_seq ?_
  refine W_seq ?_
  refine W_region ?_
  refine WR_val rfl (rn_move) ?_
  refine WR_val rfl (rn_lenSl (e := 63) (sz := 128) (by kernel_rfl) rfl rfl) ?_
  refine WR_val rfl (rn_move) ?_
  refine WR_val rfl (rn_lenSl (e := 63) (sz := 128) (by kernel_rfl) rfl rfl) ?_
  refine WR_val rfl (rn_neq rfl rfl) ?_
  refine WR_nil ?_
  refine thenN ?_
  refine W_ifp rfl (fun hne => ?_) (fun hne => ?_)
  ·
    refine W_seq ?_
    refine W_region ?_
    refine WR_val rfl (rn_assign) ?_
    refine WR_nil ?_
    refine thenN ?_
    refine W_ret ?_
    refine thenR ?_
    refine ret_ret [_] ⟨rfl, trivial⟩ ?_
    exact ⟨⟨false, rfl, by constructor; · intro h; cases h
                           · intro h; rw [h] at hn; omega⟩, hB⟩
  ·
    have hnm : n = m := by omega
    subst hnm
    refine W_skip ?_
    refine thenN ?_
    refine W_seq ?_
    refine W_seq ?_
    refine W_region ?_
    refine WR_val rfl (rn_assign) ?_
    refine WR_nil ?_
    refine thenN ?_
    refine W_block ?_
    refine W_loop (α := Nat) 0 (fun i => [(5, .int .i64 (i : Nat)), (0, .slice p n c), (1, .slice q n d)]) (fun i w' => i ≤ n ∧ (∀ j, j < i → A[j]? = B[j]?) ∧ Below w.heap.size w w') (fun i => n - i) ⟨rfl, rfl, rfl, rfl⟩ ⟨Nat.zero_le _, (fun j hj => by omega), hB⟩ ?_
    clear hB
    rintro i f wr ⟨hi, hall, hB⟩
    refine W_seq ?_
    refine W_seq ?_
    refine W_region ?_
    refine WR_val rfl (rn_move) ?_
    refine WR_val rfl (rn_move) ?_
    refine WR_val rfl (rn_lenSl (e := 63) (sz := 128) (by kernel_rfl) rfl rfl) ?_
    refine WR_val rfl (rn_lss rfl rfl) ?_
    refine WR_nil ?_
    refine thenN ?_
    refine W_ifp rfl (fun hlt => ?_) (fun hlt => ?_)
    ·
      refine W_skip ?_
      refine thenN ?_
      refine W_seq ?_
      refine W_block ?_
      refine W_seq ?_
      have hp := h.below hB (Nat.le_refl _)
      have hq := k.below hB (Nat.le_refl _)
      have hobt := hp.some (by omega)
      obtain ⟨gp, op, rfl, hgp⟩ := hobt
      have hobt := hq.some (by omega)
      obtain ⟨gq, oq, rfl, hgq⟩ := hobt
      have hobt : ∃ a, A[i]? = some a := ⟨_, List.getElem?_eq_getElem (by omega)⟩
      obtain ⟨a, ha⟩ := hobt
      have hobt : ∃ b, B[i]? = some b := ⟨_, List.getElem?_eq_getElem (by omega)⟩
      obtain ⟨b, hb⟩ := hobt
      have hal := hA a (List.mem_of_getElem? ha)
      have hbl := hB2 b (List.mem_of_getElem? hb)
      refine W_draw' [] (by kernel_rfl) ?_
      intro w901 hb901 hS901
      replace hp := hp.new hb901
      replace hq := hq.new hb901
      replace hB := hB.acc hb901
      have hp_d901 := hp
      have hq_d901 := hq
      have hB_d901 := hB
      refine WA_take 0 (by kernel_rfl) rfl (fun _ _ => rn_move) ?_
      refine WA_take 1 (by kernel_rfl) rfl (fun _ _ => rn_move) ?_
      refine WA_take 2 (by kernel_rfl) rfl (fun _ _ => rn_indexSl (e := 63) (sz := 128) (by kernel_rfl) rfl rfl (i) (by omega) (by omega)) ?_
      refine WA_take 3 (by kernel_rfl) rfl (fun w' hS' => rn_load rfl (ld_sec (hp_d901.kpd hS' (by first | (simp; done) | (simp; omega) | (simp [*]; done) | exact notLL (Or.inl (by omega)) | exact notLL (Or.inr (by simp)) | exact fun g hm => Nat.le_trans (by omega) (inLL hm).1 | (intro b o e; cases e; exact notLL (Or.inl (by omega))) | (intro b hm; have := (hu.lt b (Option.mem_toList.1 hm)).1; omega) | (intro b o e; cases e; intro hm; have := (hu.lt _ (Option.mem_toList.1 hm)).1; omega))) hA ha)) ?_
      refine WA_take 4 (by kernel_rfl) rfl (fun _ _ => rn_move) ?_
      refine WA_take 5 (by kernel_rfl) rfl (fun _ _ => rn_move) ?_
      refine WA_take 6 (by kernel_rfl) rfl (fun _ _ => rn_indexSl (e := 63) (sz := 128) (by kernel_rfl) rfl rfl (i) (by omega) (by omega)) ?_
      refine WA_take 7 (by kernel_rfl) rfl (fun w' hS' => rn_load rfl (ld_sec (hq_d901.kpd hS' (by first | (simp; done) | (simp; omega) | (simp [*]; done) | exact notLL (Or.inl (by omega)) | exact notLL (Or.inr (by simp)) | exact fun g hm => Nat.le_trans (by omega) (inLL hm).1 | (intro b o e; cases e; exact notLL (Or.inl (by omega))) | (intro b hm; have := (hu.lt b (Option.mem_toList.1 hm)).1; omega) | (intro b o e; cases e; intro hm; have := (hu.lt _ (Option.mem_toList.1 hm)).1; omega))) hB2 hb)) ?_
      refine WA_take 8 (by kernel_rfl) rfl (fun _ _ => rn_neqA (n := 128) (by kernel_rfl) rfl rfl hal hbl) ?_
      refine WA_done (by kernel_rfl) ?_
      refine thenN ?_
      refine W_ifn rfl (fun hd => ?_) (fun hd => ?_)
      ·
        refine W_seq ?_
        refine W_region ?_
        refine WR_val rfl (rn_assign) ?_
        refine WR_nil ?_
        refine thenN ?_
        refine W_ret ?_
        refine blockR ?_
        refine thenR ?_
        refine loopR ?_
        refine blockR ?_
        refine thenR ?_
        refine ret_ret [_] ⟨rfl, trivial⟩ ?_
        exact ⟨⟨false, rfl, by constructor; · intro h; cases h
                               · intro h; subst h; rw [ha] at hb; cases hb; exact absurd rfl hd⟩, hB⟩
      ·
        have hab : a = b := by simpa using hd
        refine W_skip ?_
        refine blockN ?_
        refine thenN ?_
        refine W_region ?_
        refine WR_val rfl (rn_move) ?_
        refine WR_val rfl (rn_add rfl rfl (Coup.w64 (by omega))) ?_
        refine WR_val rfl (rn_assign) ?_
        refine WR_nil ?_
        refine loopN ⟨i + 1, by omega, ⟨by go_num, rfl, rfl, rfl⟩, by omega, (fun j hj => ?_), hB⟩
        by_cases hji : j = i
        · rw [hji, ha, hb, hab]
        · exact hall j (by omega)
    ·
      have hin : i = n := by omega
      subst hin
      refine W_exit ?_
      refine thenX ?_
      refine loopX ?_
      refine blockX ?_
      refine thenN ?_
      refine W_seq ?_
      refine W_region ?_
      refine WR_val rfl (rn_assign) ?_
      refine WR_nil ?_
      refine thenN ?_
      refine W_ret ?_
      refine ret_ret [_] ⟨rfl, trivial⟩ ?_
      refine ⟨⟨true, rfl, by constructor; · intro _; exact List.ext_getElem? fun j => (by
                                              by_cases hj : j < i
                                              · exact hall j hj
                                              · rw [List.getElem?_eq_none (by omega), List.getElem?_eq_none (by omega)])
                             · intro _; rfl⟩, hB⟩
end Go.Proofs.Ytkkgahgpemepeaa

/- Cells that are written on a disk. -/
namespace Go.Proofs.Ytkkgahgpemepeaa
open Go Go.RowKit Coup Go.ChangeShapes Go.WideShapes Go.Deep

structure CellT where
  at_ : Int
  kind : Int
  i : Int
  count : Nat
  since : Nat
  tc : Nat
  tn : Int
  b : List UInt8
  s : Sec
  torn : Bool
def ceC (a : CellT) (q : Option Addr) (cp : Nat) : List Value := .int .i64 a.at_ :: .int .i64 a.kind :: .int .i64 a.i :: .int .u64 (a.count : Int) :: .int .u64 (a.since : Int) :: .int .u64 (a.tc : Int) :: .int .i64 a.tn :: .slice q a.b.length cp :: (bv a.s ++ [.bool a.torn])
theorem ceC_len {a : CellT} {q : Option Addr} {cp : Nat} (hs : a.s.length = 128) : (ceC a q cp).length = 137 := by
  simp only [ceC, List.length_cons, List.length_append, bv_length, hs, List.length_nil]
theorem ceC_one (a : CellT) (q : Option Addr) (cp : Nat) : ∀ v ∈ ceC a q cp, v.oneCell' = true := fun v hv => by
  simp only [ceC, List.mem_cons, List.mem_append, List.not_mem_nil, or_false] at hv
  rcases hv with rfl | rfl | rfl | rfl | rfl | rfl | rfl | rfl | hv | rfl
  all_goals first | rfl | exact bv_one _ v hv
set_option maxRecDepth 8000 in
theorem ld_ceS {w : World} {g t : Nat} {a : CellT} {q : Option Addr} {cp : Nat} (hr : row w g (ceC a q cp) t) (hs : a.s.length = 128) : Ld Try.prog w 63 ⟨g, 0 + 8, none⟩ (.agg (bv a.s).toArray) := by
  have h := Ld.rowN (P := Try.prog) (t := 63) (off := 0 + 8) (k := 128) hr (by kernel_rfl) (by kernel_rfl) (by rw [ceC_len hs]; omega)
  have e : ((ceC a q cp).drop (0 + 8)).take 128 = bv a.s := by
    show (bv a.s ++ [Value.bool a.torn]).take 128 = _
    rw [List.take_append_of_le_length (by rw [bv_length, hs]; exact Nat.le_refl _), List.take_of_length_le (by rw [bv_length, hs]; exact Nat.le_refl _)]
  rwa [e] at h
set_option maxRecDepth 8000 in
theorem ld_ceT {w : World} {g t : Nat} {a : CellT} {q : Option Addr} {cp : Nat} (hr : row w g (ceC a q cp) t) (hs : a.s.length = 128) : Ld Try.prog w 4 ⟨g, 0 + 136, none⟩ (.bool a.torn) := by
  refine Ld.row1 hr (by kernel_rfl) ?_
  have e : (bv a.s ++ [Value.bool a.torn])[128]? = some (.bool a.torn) := by rw [List.getElem?_append_right (by rw [bv_length, hs]; exact Nat.le_refl _), bv_length, hs]; rfl
  exact e
theorem ceC_inj {a : CellT} {q q' : Option Addr} {c c' : Nat} (h : ceC a q c = ceC a q' c') : q = q' ∧ c = c' := by
  have h2 := congrArg (fun z => z[7]?) h
  have h3 : (some (Value.slice q a.b.length c)) = some (Value.slice q' a.b.length c') := h2
  injection h3 with h3
  injection h3 with h4 _ h5
  exact ⟨h4, h5⟩
theorem ld_ceG {w : World} {g t : Nat} {a : CellT} {q : Option Addr} {cp : Nat} (hr : row w g (ceC a q cp) t) (hs : a.s.length = 128) : Ld Try.prog w 98 ⟨g, 0 + 5, none⟩ (.agg #[.int .u64 (a.tc : Int), .int .i64 a.tn]) :=
  Ld.rowN (P := Try.prog) (t := 98) (off := 0 + 5) (k := 2) hr (by kernel_rfl) (by kernel_rfl) (by rw [ceC_len hs]; omega)
theorem ld_rowS {w : World} {g o m j : Nat} {l : List UInt8} (h : SlAt w (some ⟨g, o, none⟩) m 128 (bv l)) (hj : j < m) : ∃ s : Sec, s.length = 128 ∧ Ld Try.prog w 63 ⟨g, o + j * 128, none⟩ (.agg (bv s).toArray) := by
  have hl : l.length = m * 128 := by simpa [bv_length] using h.len
  have := Ld.slN (P := Try.prog) (t := 63) (j := j * 128) (k := 128) h (by kernel_rfl) (by kernel_rfl) (by rw [bv_length, hl]; omega)
  rw [← bv_drop, ← bv_take] at this
  exact ⟨_, by rw [List.length_take, List.length_drop]; omega, this⟩
/-- The cells of a cell that came in. -/
def CeQ (W : World) (a : CellT) (cs : List Value) : Prop := ∃ q cp, cs = ceC a q cp ∧ a.s.length = 128 ∧ SlAt W q a.b.length 1 (bv a.b) ∧ a.b.length ≤ cp ∧ wf64 a.at_ ∧ wf64 a.kind ∧ wf64 a.i ∧ a.count < 18446744073709551616 ∧ a.since < 18446744073709551616 ∧ a.tc < 18446744073709551616 ∧ wf64 a.tn
theorem u64_nat {a : Int} (h : (Lit.int .u64 a).wf = true) : ∃ n : Nat, a = (n : Int) ∧ n < 18446744073709551616 := by
  have h2 : IntKind.u64.min ≤ a ∧ a ≤ IntKind.u64.max := by simpa [Lit.wf] using h
  have e1 : IntKind.u64.min = 0 := by decide
  have e2 : IntKind.u64.max = 18446744073709551615 := by decide
  exact ⟨a.toNat, by omega, by omega⟩
theorem ceQ_opn {H : Type} {enc : TypeId × Value → H} {W : World} {base : Nat} {spare : Nat → Bool} {held : Bool} : Opn enc Try.prog W base spare held 109 (CeQ W) := fun fuel cs x h => by
  obtain ⟨hl, m, hf⟩ := opn_flds Try.underlying109 h
  have hl2 : cs.length = 137 := hl.trans (by kernel_rfl)
  obtain ⟨_, h0⟩ := fld hf 0 0 1 rfl rfl (by kernel_rfl)
  obtain ⟨_, h1⟩ := fld hf 1 1 1 rfl rfl (by kernel_rfl)
  obtain ⟨_, h2⟩ := fld hf 2 2 1 rfl rfl (by kernel_rfl)
  obtain ⟨_, h3⟩ := fld hf 3 3 1 rfl rfl (by kernel_rfl)
  obtain ⟨_, h4⟩ := fld hf 4 4 1 rfl rfl (by kernel_rfl)
  obtain ⟨_, h5⟩ := fld hf 5 5 2 rfl rfl (by kernel_rfl)
  obtain ⟨_, h6⟩ := fld hf 6 7 1 rfl rfl (by kernel_rfl)
  obtain ⟨_, h7⟩ := fld hf 7 8 128 rfl rfl (by kernel_rfl)
  obtain ⟨_, h8⟩ := fld hf 8 136 1 rfl rfl (by kernel_rfl)
  obtain ⟨hl5, m5, hf5⟩ := opn_flds Try.underlying98 h5
  have hl52 : ((cs.drop 5).take 2).length = 2 := hl5.trans (by kernel_rfl)
  obtain ⟨_, g0⟩ := fld hf5 0 0 1 rfl rfl (by kernel_rfl)
  obtain ⟨_, g1⟩ := fld hf5 1 1 1 rfl rfl (by kernel_rfl)
  obtain ⟨at_, e0, w0⟩ := opn_int (by kernel_rfl) _ _ _ h0
  obtain ⟨kind, e1, w1⟩ := opn_int (by kernel_rfl) _ _ _ h1
  obtain ⟨i, e2, w2⟩ := opn_int (by kernel_rfl) _ _ _ h2
  obtain ⟨ct, e3, w3⟩ := opn_int (by kernel_rfl) _ _ _ h3
  obtain ⟨si, e4, w4⟩ := opn_int (by kernel_rfl) _ _ _ h4
  obtain ⟨tc, f0, w5⟩ := opn_int (by kernel_rfl) _ _ _ g0
  obtain ⟨tn, f1, w6⟩ := opn_int (by kernel_rfl) _ _ _ g1
  obtain ⟨R, q, cp, e6, hcp, hR⟩ := opn_slice (e := 5) (n := 1) (by kernel_rfl) (by kernel_rfl) (opn_int (k := .u8) (by kernel_rfl)) _ _ _ h6
  obtain ⟨l, hll, hl4⟩ := u8_of_els hR
  obtain ⟨s, e7, w7⟩ := opn_bytes (e := 5) (n := 128) (by kernel_rfl) (by kernel_rfl) (by kernel_rfl) (by kernel_rfl) _ _ _ h7
  obtain ⟨tb, e8⟩ := opn_bool (by kernel_rfl) _ _ _ h8
  obtain ⟨ct, rfl, y3⟩ := u64_nat w3
  obtain ⟨si, rfl, y4⟩ := u64_nat w4
  obtain ⟨tc, rfl, y5⟩ := u64_nat w5
  refine ⟨⟨at_, kind, i, ct, si, tc, tn, l, s, tb⟩, q, cp, ?_, w7, by rw [hll]; exact hl4, by show l.length ≤ cp; omega, i64_of_wf w0, i64_of_wf w1, i64_of_wf w2, y3, y4, y5, i64_of_wf w6⟩
  have k0 := cut_at cs 0 1
  have k1 := cut_at cs 1 1
  have k2 := cut_at cs 2 1
  have k3 := cut_at cs 3 1
  have k4 := cut_at cs 4 1
  have k5 := cut_at cs 5 2
  have k6 := cut_at cs 7 1
  have k7 := cut_at cs 8 128
  have k8 := cut_at cs 136 1
  have j0 := cut_at ((cs.drop 5).take 2) 0 1
  have j1 := cut_at ((cs.drop 5).take 2) 1 1
  rw [f0] at j0
  rw [f1, List.drop_of_length_le (i := 1 + 1) (by omega), List.append_nil] at j1
  rw [j1, List.drop_zero] at j0
  rw [e0] at k0
  rw [e1] at k1
  rw [e2] at k2
  rw [e3] at k3
  rw [e4] at k4
  rw [j0] at k5
  rw [e6] at k6
  rw [e7] at k7
  rw [e8, List.drop_of_length_le (l := cs) (i := 136 + 1) (by omega), List.append_nil] at k8
  rw [k8] at k7
  rw [k7] at k6
  rw [k6] at k5
  rw [k5] at k4
  rw [k4] at k3
  rw [k3] at k2
  rw [k2] at k1
  rw [k1] at k0
  rw [List.drop_zero] at k0
  rw [ceC, hll]
  exact k0
theorem openRowsC {H : Type} {enc : TypeId × Value → H} {W : World} {a : Option Addr} {len cap : Nat} {d : DataW H} {p : List MemPlace} (h : DataW.Trod enc Try.prog W 0 (fun _ => true) true 67 (.slice a len cap) d p) : (∃ R, ElsAt (CeQ W) W 137 a len R) ∧ len ≤ cap :=
  opn_arg (by kernel_rfl) (by kernel_rfl) ceQ_opn h
theorem torn59 (a b : List UInt8) (ha : a.length = 128) (hb : b.length = 128) (w : World) :
    Calls Try.prog 59 [.agg (bv a).toArray, .agg (bv b).toArray].toArray w (Ret fun v w' => (∃ s : Sec, v = .agg (bv s).toArray ∧ s.length = 128) ∧ Below w.heap.size w w') :=
  (torn35 a b ha hb w).to fun v w' ⟨h1, h2⟩ => ⟨⟨_, h1, by rw [List.length_append, List.length_take, List.length_drop]; omega⟩, h2⟩
section
theorem CeQ.below {w w' : World} {a : CellT} {cs : List Value} (h : CeQ w a cs) (hb : Below w.heap.size w w') : CeQ w' a cs := by
  obtain ⟨q, cp, h1, h2, h3, h4⟩ := h
  exact ⟨q, cp, h1, h2, h3.below hb (Nat.le_refl _), h4⟩
variable {Y : World → List Nat → Prop} [Thing Y] {g : Nat} {D : Dk} {w w0 : World}
set_option maxRecDepth 20000 in
set_option maxHeartbeats 2000000 in
theorem write30 (h : Two (DZ g D) Y w0.heap.size [] w) {k0 : Nat} (hk0 : k0 ≤ 1000) (ha : Alive D k0) (p : Option Addr) (n cp : Nat) (R : List CellT) (hn : n ≤ 1000) (hR : ElsAt (CeQ w0) w0 137 p n R) (hB0 : Below w0.heap.size w0 w) :
    Calls Try.prog 30 [.pointer (some ⟨g, 0, none⟩), .slice p n cp].toArray w (Ret fun v w' => (∃ D', Alive D' (k0 + n) ∧ D'.V.length = D.V.length ∧ Two (DZ g D') Y w0.heap.size [] w') ∧ LoL w0.heap.size [] w w') := by
  obtain ⟨lo, hloe⟩ : ∃ lo, w0.heap.size = lo := ⟨_, rfl⟩
  have hlo : ∀ b o, p = some ⟨b, o, none⟩ → 0 < n → b < lo := fun b o e h0 => by
    obtain ⟨g', o', e', hl⟩ := hR.some (by omega)
    rw [e'] at e; cases e; omega
  have hlo2 : ∀ (w' : World) (a : CellT) cs, CeQ w0 a cs → LoL lo [] w w' → CeQ w' a cs := fun w' a cs hc hl => hc.below (belLL hB0 hl (by omega))
  rw [hloe] at h ⊢
  have hLL := LoL.refl lo [] w
  have hml : maxLen = 9223372036854775807 := by decide
  refine calls_W (fn := Try.f30) (rs := []) (n := 85) Try.func30 rfl rfl Try.ntmps30 (by kernel_rfl) rfl ?_
  refine W_seq ?_
  refine W_region ?_
  refine WR_val rfl (rn_assign) ?_
  refine WR_nil ?_
  refine thenN ?_
  refine W_block ?_
  refine W_loop (α := Nat) 0 (fun i => [(4, .int .i64 (i : Nat)), (1, .slice p n cp), (0, .pointer (some ⟨g, 0, none⟩))])
    (fun i w' => i ≤ n ∧ (∃ D', Alive D' (k0 + i) ∧ D'.V.length = D.V.length ∧ Two (DZ g D') Y lo [] w') ∧ LoL lo [] w w') (fun i => n - i) ⟨rfl, rfl, rfl, rfl⟩ ⟨Nat.zero_le _, ⟨D, ha, rfl, h⟩, hLL⟩ ?_
  clear hLL
  rintro i f wr ⟨hi, ⟨D', hal, hlen, hD⟩, hLL⟩
  have hsw := hLL.size
  refine W_seq ?_
  refine W_seq ?_
  refine W_region ?_
  refine WR_val rfl (rn_move) ?_
  refine WR_val rfl (rn_move) ?_
  refine WR_val rfl (rn_lenSl (e := 109) (sz := 137) (by kernel_rfl) rfl rfl) ?_
  refine WR_val rfl (rn_lss rfl rfl) ?_
  refine WR_nil ?_
  refine thenN ?_
  refine W_ifp rfl (fun hlt => ?_) (fun hlt => ?_)
  ·
    refine W_skip ?_
    refine thenN ?_
    refine W_seq ?_
    refine W_block ?_
    refine W_seq ?_
    have hobt := hR.get (i := i) (by omega)
    obtain ⟨a, hx⟩ := hobt
    have hobt := hR.some (by omega)
    obtain ⟨gp, op, rfl, hgp⟩ := hobt
    have hle := hR.el hx
    obtain ⟨cs, hcq, hcl, hce⟩ := hle
    have hcq2 := hlo2 wr a cs hcq hLL
    obtain ⟨q, qc, rfl, hs, hbs, hbc, wa, wk, wi, hct, hsi, htc, hwn⟩ := hcq2
    have hld : Ld Try.prog wr 109 ⟨gp, op + i * 137, none⟩ (.agg (ceC a q qc).toArray) := Ld.rng (fun j v hv => by rw [← hce j v hv]; simp only [World.cell?, (belLL hB0 hLL (by omega)).block gp hgp]) (by kernel_rfl) (by rw [hcl]; kernel_rfl)
    have hone : ∀ v ∈ ceC a q qc, v.oneCell' = true := ceC_one a q qc
    have hhl := headB_len a.count a.since
    have hhb : (bv (headB a.count a.since)).length = 128 := by rw [bv_length]; exact hhl
    refine W_region ?_
    refine WR_val rfl (rn_move) ?_
    refine WR_val rfl (rn_move) ?_
    refine WR_val rfl (rn_indexSl (e := 109) (sz := 137) (by kernel_rfl) rfl rfl (i) (by omega) (by omega)) ?_
    refine WR_val rfl (rn_load rfl (hld)) ?_
    refine WR_mk rfl (mk_alloc (([Value.int .i64 0]) ++ ([Value.int .i64 0]) ++ ([Value.int .i64 0]) ++ ([Value.int .u64 0]) ++ ([Value.int .u64 0]) ++ ([Value.int .u64 0, Value.int .i64 0]) ++ ([Value.slice none 0 0]) ++ (List.replicate 128 (Value.int .u8 0)) ++ ([Value.bool false])) (by kernel_rfl) (fun g5 w5 hg5 hr5 hb5 => ?_))
    replace hD := hD.newc hb5 hg5 hr5.lt
    replace hLL := hLL.new hb5
    refine WR_sk rfl (sk_storeA 137 (ceC a q qc) rfl rfl hr5 (by kernel_rfl) (by first | assumption | (simp; done) | (simp [bv_length, *]; done)) (by first | assumption | (simp; done) | (simp [bv_length, *]; done) | rfl) (by first | exact bv_one _ | assumption | (simp [Value.oneCell']; done)) (fun w901 hr5 ho901 => ?_))
    replace hD := hD.only ho901 (by first | (right; simp; done) | (left; omega))
    replace hLL := hLL.only ho901 (by first | omega | (right; exact ⟨by omega, by assumption⟩))
    refine WR_nil ?_
    refine thenN ?_
    refine W_seq ?_
    refine W_region ?_
    refine WR_val rfl (rn_fieldAddr (off := 8) (by kernel_rfl) rfl) ?_
    refine WR_val rfl (rn_load rfl (ld_ceS hr5 hs)) ?_
    refine WR_mk rfl (mk_alloc (List.replicate 128 (Value.int .u8 0)) (by kernel_rfl) (fun g6 w6 hg6 hr6 hb6 => ?_))
    have lt_g5_g6 : g5 < g6 := Nat.lt_of_lt_of_le hr5.lt hg6
    replace hD := hD.newc hb6 hg6 hr6.lt
    replace hLL := hLL.new hb6
    replace hr5 := hr5.new hb6
    refine WR_sk rfl (sk_storeA 128 (bv a.s) rfl rfl hr6 (by kernel_rfl) (by first | assumption | (simp; done) | (simp [bv_length, *]; done)) (by first | assumption | (simp; done) | (simp [bv_length, *]; done) | rfl) (by first | exact bv_one _ | assumption | (simp [Value.oneCell']; done)) (fun w902 hr6 ho902 => ?_))
    replace hD := hD.only ho902 (by first | (right; simp; done) | (left; omega))
    replace hLL := hLL.only ho902 (by first | omega | (right; exact ⟨by omega, by assumption⟩))
    replace hr5 := hr5.only ho902 (Nat.ne_of_lt lt_g5_g6)
    refine WR_nil ?_
    refine thenN ?_
    refine W_cut (fun s : Sec => [(4, .int .i64 (i : Nat)), (1, .slice (some ⟨gp, op, none⟩) n cp), (0, .pointer (some ⟨g, 0, none⟩)), (5, .pointer (some ⟨g5, 0, none⟩)), (6, .pointer (some ⟨g6, 0, none⟩))]) (fun s w' => s.length = 128 ∧ row w' g6 (bv s) 63 ∧ row w' g5 (ceC a q qc) 109 ∧ Two (DZ g D') Y lo [g6, g5] w' ∧ LoL lo [] w w') ?_ ?_
    ·
      refine W_seq ?_
      refine W_region ?_
      refine WR_val rfl (rn_fieldAddr (off := 1) (by kernel_rfl) rfl) ?_
      refine WR_val rfl (rn_load rfl (Ld.row1 hr5 (by kernel_rfl) rfl)) ?_
      refine WR_val rfl (rn_eql rfl rfl) ?_
      refine WR_nil ?_
      refine thenN ?_
      refine W_ifp rfl (fun h24 => ?_) (fun h24 => ?_)
      ·
        refine W_region ?_
        refine WR_val rfl (rn_fieldAddr (off := 3) (by kernel_rfl) rfl) ?_
        refine WR_val rfl (rn_load rfl (Ld.row1 hr5 (by kernel_rfl) rfl)) ?_
        refine WR_val rfl (rn_fieldAddr (off := 4) (by kernel_rfl) rfl) ?_
        refine WR_val rfl (rn_load rfl (Ld.row1 hr5 (by kernel_rfl) rfl)) ?_
        refine WR_ent rfl (rn_call (by kernel_rfl) rfl) (rhead28 a.count a.since hct hsi w902) ?_
        rintro _ w29 ⟨rfl, hb29⟩
        replace hD := hD.new hb29
        replace hLL := hLL.new hb29
        replace hr5 := hr5.new hb29
        replace hr6 := hr6.new hb29
        refine WR_sk rfl (sk_storeA 128 (bv (headB a.count a.since)) rfl rfl hr6 (by kernel_rfl) (by first | assumption | (simp; done) | (simp [bv_length, *]; done)) (by first | assumption | (simp; done) | (simp [bv_length, *]; done) | rfl) (by first | exact bv_one _ | assumption | (simp [Value.oneCell']; done)) (fun w903 hr6 ho903 => ?_))
        replace hD := hD.only ho903 (by first | (right; simp; done) | (left; omega))
        replace hLL := hLL.only ho903 (by first | omega | (right; exact ⟨by omega, by assumption⟩))
        replace hr5 := hr5.only ho903 (Nat.ne_of_lt lt_g5_g6)
        refine WR_nil ?_
        exact ⟨headB a.count a.since, ⟨rfl, rfl, rfl, rfl, rfl, rfl⟩, headB_len _ _, hr6, hr5, hD, hLL⟩
      ·
        refine W_skip ?_
        exact ⟨a.s, ⟨rfl, rfl, rfl, rfl, rfl, rfl⟩, hs, hr6, hr5, hD, hLL⟩
    ·
      intro s f wc ⟨hsl, hr6, hr5, hD, hLL⟩
      have hbl : (bv s).length = 128 := by rw [bv_length]; exact hsl
      refine W_cut (fun s : Sec => [(4, .int .i64 (i : Nat)), (1, .slice (some ⟨gp, op, none⟩) n cp), (0, .pointer (some ⟨g, 0, none⟩)), (5, .pointer (some ⟨g5, 0, none⟩)), (6, .pointer (some ⟨g6, 0, none⟩))]) (fun s w' => s.length = 128 ∧ row w' g6 (bv s) 63 ∧ row w' g5 (ceC a q qc) 109 ∧ Two (DZ g D') Y lo [g6, g5] w' ∧ LoL lo [] w w') ?_ ?_
      ·
        refine W_seq ?_
        refine W_region ?_
        refine WR_val rfl (rn_fieldAddr (off := 1) (by kernel_rfl) rfl) ?_
        refine WR_val rfl (rn_load rfl (Ld.row1 hr5 (by kernel_rfl) rfl)) ?_
        refine WR_val rfl (rn_eql rfl rfl) ?_
        refine WR_val rfl (rn_move) ?_
        refine WR_part 33 rfl (fun h33 => ?_) (fun h33 => ?_)
        ·
          refine WR_yes rfl ?_
          refine WR_val rfl (rn_fieldAddr (off := 7) (by kernel_rfl) rfl) ?_
          refine WR_yes rfl ?_
          refine WR_val rfl (rn_load rfl (Ld.row1 hr5 (by kernel_rfl) rfl)) ?_
          refine WR_yes rfl ?_
          refine WR_val rfl (rn_lenSl (e := 5) (sz := 1) (by kernel_rfl) rfl rfl) ?_
          refine WR_yes rfl ?_
          refine WR_val rfl (rn_leq rfl rfl) ?_
          refine WR_val rfl (rn_pick_t rfl) ?_
          refine WR_val rfl (rn_move) ?_
          refine WR_part 39 rfl (fun h39 => ?_) (fun h39 => ?_)
          ·
            refine WR_yes rfl ?_
            refine WR_val rfl (rn_fieldAddr (off := 5) (by kernel_rfl) rfl) ?_
            refine WR_yes rfl ?_
            refine WR_val rfl (rn_load rfl (ld_ceG hr5 hs)) ?_
            refine WR_yes rfl ?_
            refine WR_ent rfl (rn_call (by kernel_rfl) rfl) (may11r a.tc a.tn wc) ?_
            rintro _ w42 ⟨rfl, hb42⟩
            replace hD := hD.new hb42
            replace hLL := hLL.new hb42
            replace hr5 := hr5.new hb42
            replace hr6 := hr6.new hb42
            refine WR_val rfl (rn_pick_t rfl) ?_
            refine WR_nil ?_
            refine thenN ?_
            refine W_if rfl (fun hmay => ?_) (fun hmay => ?_)
            ·
              refine W_seq ?_
              refine W_region ?_
              have hcq3 := hlo2 w42 a _ hcq hLL
              have hmb := may_bounds hmay
              obtain ⟨q3, qc3, he3, _, hbs3, _⟩ := hcq3
              have hobt : q = q3 ∧ qc = qc3 := ceC_inj he3
              obtain ⟨rfl, rfl⟩ := hobt
              have hobt : ∃ m : Nat, a.tn = (m : Int) := ⟨a.tn.toNat, by omega⟩
              obtain ⟨m, hm⟩ := hobt
              have hrow := row15 a.tc m a.b q a.b.length qc w42 hbs3 (by omega) htc (by have := hwn.2; omega)
              rw [← hm] at hrow
              refine WR_val rfl (rn_fieldAddr (off := 5) (by kernel_rfl) rfl) ?_
              refine WR_val rfl (rn_load rfl (ld_ceG hr5 hs)) ?_
              refine WR_val rfl (rn_fieldAddr (off := 7) (by kernel_rfl) rfl) ?_
              refine WR_val rfl (rn_load rfl (Ld.row1 hr5 (by kernel_rfl) rfl)) ?_
              refine WR_ent rfl (rn_call (by kernel_rfl) rfl) (hrow) ?_
              rintro _ w48 ⟨q2, cq2, rfl, hq2, hb48⟩
              replace hD := hD.new hb48
              replace hLL := hLL.new hb48
              replace hr5 := hr5.new hb48
              replace hr6 := hr6.new hb48
              refine WR_val rfl (rn_assign) ?_
              refine WR_nil ?_
              refine thenN ?_
              refine W_seq ?_
              refine W_region ?_
              refine WR_val rfl (rn_fieldAddr (off := 2) (by kernel_rfl) rfl) ?_
              refine WR_val rfl (rn_load rfl (Ld.row1 hr5 (by kernel_rfl) rfl)) ?_
              refine WR_val rfl (rn_geq rfl rfl) ?_
              refine WR_val rfl (rn_move) ?_
              refine WR_part 52 rfl (fun h52 => ?_) (fun h52 => ?_)
              ·
                refine WR_yes rfl ?_
                refine WR_val rfl (rn_fieldAddr (off := 2) (by kernel_rfl) rfl) ?_
                refine WR_yes rfl ?_
                refine WR_val rfl (rn_load rfl (Ld.row1 hr5 (by kernel_rfl) rfl)) ?_
                refine WR_yes rfl ?_
                refine WR_val rfl (rn_move) ?_
                refine WR_yes rfl ?_
                refine WR_val rfl (rn_lenSl (e := 63) (sz := 128) (by kernel_rfl) rfl rfl) ?_
                refine WR_yes rfl ?_
                refine WR_val rfl (rn_lss rfl rfl) ?_
                refine WR_val rfl (rn_pick_t rfl) ?_
                refine WR_nil ?_
                refine thenN ?_
                refine W_ifp rfl (fun h58 => ?_) (fun h58 => ?_)
                ·
                  refine W_region ?_
                  refine WR_val rfl (rn_move) ?_
                  refine WR_val rfl (rn_fieldAddr (off := 2) (by kernel_rfl) rfl) ?_
                  refine WR_val rfl (rn_load rfl (Ld.row1 hr5 (by kernel_rfl) rfl)) ?_
                  have hjl : a.i.toNat < needN a.b.length := by omega
                  have hobt := hq2.some (by omega)
                  obtain ⟨g2, o2, rfl, _⟩ := hobt
                  have hobt := ld_rowS hq2 hjl
                  obtain ⟨s2, hs2, hld2⟩ := hobt
                  have hsb2 : (bv s2).length = 128 := by rw [bv_length]; exact hs2
                  refine WR_val rfl (rn_indexSl (e := 63) (sz := 128) (by kernel_rfl) rfl rfl ((a.i.toNat)) (by omega) (by omega)) ?_
                  refine WR_val rfl (rn_load rfl (hld2)) ?_
                  refine WR_sk rfl (sk_storeA 128 (bv s2) rfl rfl hr6 (by kernel_rfl) (by first | assumption | (simp; done) | (simp [bv_length, *]; done)) (by first | assumption | (simp; done) | (simp [bv_length, *]; done) | rfl) (by first | exact bv_one _ | assumption | (simp [Value.oneCell']; done)) (fun w904 hr6 ho904 => ?_))
                  replace hD := hD.only ho904 (by first | (right; simp; done) | (left; omega))
                  replace hLL := hLL.only ho904 (by first | omega | (right; exact ⟨by omega, by assumption⟩))
                  replace hr5 := hr5.only ho904 (Nat.ne_of_lt lt_g5_g6)
                  refine WR_nil ?_
                  exact ⟨s2, ⟨rfl, rfl, rfl, rfl, rfl, rfl⟩, hs2, hr6, hr5, hD, hLL⟩
                ·
                  refine W_skip ?_
                  exact ⟨s, ⟨rfl, rfl, rfl, rfl, rfl, rfl⟩, hsl, hr6, hr5, hD, hLL⟩
              ·
                refine WR_no rfl rfl ?_
                refine WR_no rfl rfl ?_
                refine WR_no rfl rfl ?_
                refine WR_no rfl rfl ?_
                refine WR_no rfl rfl ?_
                refine WR_val rfl (rn_pick_f rfl) ?_
                refine WR_nil ?_
                refine thenN ?_
                refine W_f rfl ?_
                refine W_skip ?_
                exact ⟨s, ⟨rfl, rfl, rfl, rfl, rfl, rfl⟩, hsl, hr6, hr5, hD, hLL⟩
            ·
              refine W_skip ?_
              exact ⟨s, ⟨rfl, rfl, rfl, rfl, rfl, rfl⟩, hsl, hr6, hr5, hD, hLL⟩
          ·
            refine WR_no rfl rfl ?_
            refine WR_no rfl rfl ?_
            refine WR_no rfl rfl ?_
            refine WR_val rfl (rn_pick_f rfl) ?_
            refine WR_nil ?_
            refine thenN ?_
            refine W_f rfl ?_
            refine W_skip ?_
            exact ⟨s, ⟨rfl, rfl, rfl, rfl, rfl, rfl⟩, hsl, hr6, hr5, hD, hLL⟩
        ·
          refine WR_no rfl rfl ?_
          refine WR_no rfl rfl ?_
          refine WR_no rfl rfl ?_
          refine WR_no rfl rfl ?_
          refine WR_val rfl (rn_pick_f rfl) ?_
          refine WR_val rfl (rn_move) ?_
          refine WR_no rfl rfl ?_
          refine WR_no rfl rfl ?_
          refine WR_no rfl rfl ?_
          refine WR_val rfl (rn_pick_f rfl) ?_
          refine WR_nil ?_
          refine thenN ?_
          refine W_f rfl ?_
          refine W_skip ?_
          exact ⟨s, ⟨rfl, rfl, rfl, rfl, rfl, rfl⟩, hsl, hr6, hr5, hD, hLL⟩
      ·
        intro s f wd ⟨hsl, hr6, hr5, hD, hLL⟩
        have hbl : (bv s).length = 128 := by rw [bv_length]; exact hsl
        refine W_seq ?_
        have hrd := tRead hD a.at_
        have hs3 : (if inD D' a.at_ then readD D' a.at_.toNat else zeroS).length = 128 := by
          split
          · rename_i hin
            obtain ⟨k, hk, hk2⟩ := inD_nat hin
            rw [hk, Int.toNat_natCast]
            exact readD_len (tOk hD).1 hk2
          · exact (show zeroS.length = 128 by rw [zeroS, List.length_replicate])
        generalize (if inD D' a.at_ then readD D' a.at_.toNat else zeroS) = s3 at hrd hs3
        generalize (if inD D' a.at_ then (0 : Int) else 2) = e3 at hrd
        have hb3 : (bv s3).length = 128 := by rw [bv_length]; exact hs3
        refine W_region ?_
        refine WR_val rfl (rn_move) ?_
        refine WR_val rfl (rn_fieldAddr (off := 0) (by kernel_rfl) rfl) ?_
        refine WR_val rfl (rn_load rfl (Ld.row1 hr5 (by kernel_rfl) rfl)) ?_
        refine WR_ent rfl (rn_call (by kernel_rfl) rfl) (hrd) ?_
        rintro _ w68 ⟨rfl, hb68⟩
        replace hD := hD.new hb68
        replace hLL := hLL.new hb68
        replace hr5 := hr5.new hb68
        replace hr6 := hr6.new hb68
        refine WR_val rfl (rn_move) ?_
        refine WR_val rfl (rn_extract rfl rfl) ?_
        refine WR_val rfl (rn_extract rfl rfl) ?_
        refine WR_mk rfl (mk_alloc (List.replicate 128 (Value.int .u8 0)) (by kernel_rfl) (fun g8 w8 hg8 hr8 hb8 => ?_))
        have lt_g5_g8 : g5 < g8 := Nat.lt_of_lt_of_le hr5.lt hg8
        have lt_g6_g8 : g6 < g8 := Nat.lt_of_lt_of_le hr6.lt hg8
        replace hD := hD.newc hb8 hg8 hr8.lt
        replace hLL := hLL.new hb8
        replace hr5 := hr5.new hb8
        replace hr6 := hr6.new hb8
        refine WR_sk rfl (sk_storeA 128 (bv s3) rfl rfl hr8 (by kernel_rfl) (by first | assumption | (simp; done) | (simp [bv_length, *]; done)) (by first | assumption | (simp; done) | (simp [bv_length, *]; done) | rfl) (by first | exact bv_one _ | assumption | (simp [Value.oneCell']; done)) (fun w905 hr8 ho905 => ?_))
        replace hD := hD.only ho905 (by first | (right; simp; done) | (left; omega))
        replace hLL := hLL.only ho905 (by first | omega | (right; exact ⟨by omega, by assumption⟩))
        replace hr5 := hr5.only ho905 (Nat.ne_of_lt lt_g5_g8)
        replace hr6 := hr6.only ho905 (Nat.ne_of_lt lt_g6_g8)
        refine WR_val rfl (rn_assign) ?_
        refine WR_nil ?_
        refine thenN ?_
        refine W_cut (fun s : Sec => [(4, .int .i64 (i : Nat)), (1, .slice (some ⟨gp, op, none⟩) n cp), (0, .pointer (some ⟨g, 0, none⟩)), (5, .pointer (some ⟨g5, 0, none⟩)), (6, .pointer (some ⟨g6, 0, none⟩))]) (fun s w' => s.length = 128 ∧ row w' g6 (bv s) 63 ∧ row w' g5 (ceC a q qc) 109 ∧ Two (DZ g D') Y lo [g6, g5] w' ∧ LoL lo [] w w') ?_ ?_
        ·
          refine W_seq ?_
          refine W_region ?_
          refine WR_val rfl (rn_move) ?_
          refine WR_val rfl (rn_eql rfl rfl) ?_
          refine WR_val rfl (rn_move) ?_
          refine WR_part 73 rfl (fun h73 => ?_) (fun h73 => ?_)
          ·
            refine WR_yes rfl ?_
            refine WR_val rfl (rn_fieldAddr (off := 136) (by kernel_rfl) rfl) ?_
            refine WR_yes rfl ?_
            refine WR_val rfl (rn_load rfl (ld_ceT hr5 hs)) ?_
            refine WR_val rfl (rn_pick_t rfl) ?_
            refine WR_nil ?_
            refine thenN ?_
            refine W_if rfl (fun htn => ?_) (fun htn => ?_)
            ·
              refine W_region ?_
              refine WR_val rfl (rn_load rfl (Ld.rowA (k := 128) hr8 (by kernel_rfl) (by kernel_rfl) (by first | (simp; done) | (simp [bv_length, *]; done) | assumption))) ?_
              refine WR_val rfl (rn_load rfl (Ld.rowA (k := 128) hr6 (by kernel_rfl) (by kernel_rfl) (by first | (simp; done) | (simp [bv_length, *]; done) | assumption))) ?_
              refine WR_ent rfl (rn_call (by kernel_rfl) rfl) (torn59 s3 s hs3 hsl w905) ?_
              rintro _ w79 ⟨⟨s4, rfl, hs4⟩, hb79⟩
              replace hD := hD.new hb79
              replace hLL := hLL.new hb79
              replace hr5 := hr5.new hb79
              replace hr6 := hr6.new hb79
              replace hr8 := hr8.new hb79
              have hb4 : (bv s4).length = 128 := by rw [bv_length]; exact hs4
              refine WR_sk rfl (sk_storeA 128 (bv s4) rfl rfl hr6 (by kernel_rfl) (by first | assumption | (simp; done) | (simp [bv_length, *]; done)) (by first | assumption | (simp; done) | (simp [bv_length, *]; done) | rfl) (by first | exact bv_one _ | assumption | (simp [Value.oneCell']; done)) (fun w906 hr6 ho906 => ?_))
              replace hD := hD.only ho906 (by first | (right; simp; done) | (left; omega))
              replace hLL := hLL.only ho906 (by first | omega | (right; exact ⟨by omega, by assumption⟩))
              replace hr5 := hr5.only ho906 (Nat.ne_of_lt lt_g5_g6)
              replace hr8 := hr8.only ho906 (Nat.ne_of_gt lt_g6_g8)
              refine WR_nil ?_
              exact ⟨s4, ⟨rfl, rfl, rfl, rfl, rfl, rfl⟩, hs4, hr6, hr5, hD.weak (by simp), hLL⟩
            ·
              refine W_skip ?_
              exact ⟨s, ⟨rfl, rfl, rfl, rfl, rfl, rfl⟩, hsl, hr6, hr5, hD.weak (by simp), hLL⟩
          ·
            refine WR_no rfl rfl ?_
            refine WR_no rfl rfl ?_
            refine WR_val rfl (rn_pick_f rfl) ?_
            refine WR_nil ?_
            refine thenN ?_
            refine W_f rfl ?_
            refine W_skip ?_
            exact ⟨s, ⟨rfl, rfl, rfl, rfl, rfl, rfl⟩, hsl, hr6, hr5, hD.weak (by simp), hLL⟩
        ·
          intro s f we ⟨hsl, hr6, hr5, hD, hLL⟩
          have hbl : (bv s).length = 128 := by rw [bv_length]; exact hsl
          have hobt := hal.writeA a.at_ s
          obtain ⟨q1, q2, _⟩ := hobt
          refine W_region ?_
          refine WR_val rfl (rn_move) ?_
          refine WR_val rfl (rn_fieldAddr (off := 0) (by kernel_rfl) rfl) ?_
          refine WR_val rfl (rn_load rfl (Ld.row1 hr5 (by kernel_rfl) rfl)) ?_
          refine WR_val rfl (rn_load rfl (Ld.rowA (k := 128) hr6 (by kernel_rfl) (by kernel_rfl) (by first | (simp; done) | (simp [bv_length, *]; done) | assumption))) ?_
          refine WR_ent rfl (rn_call (by kernel_rfl) rfl) ((tWrite hD a.at_ s hsl (short_of hal.short (by omega)))) ?_
          rintro _ w84 ⟨_, hD, hb84⟩
          replace hLL := hLL.ll hb84 (by first | (intro b hb; exact hb) | (intro b hb; simp [hb]; done) | simp)
          replace hr5 := hr5.kpd hb84.kp (by first | (refine notLL ?_; left; omega) | (refine notLL ?_; right; simp; done) | (intro b o e; cases e; first | (refine notLL ?_; left; omega) | (refine notLL ?_; right; simp; done) | (refine notLL ?_; right; simp [*]; done)) | (intro b hb; refine notLL ?_; left; omega) | (intro b hb e; cases e; exact notLL (by right; simp [*]) hb))
          replace hr6 := hr6.kpd hb84.kp (by first | (refine notLL ?_; left; omega) | (refine notLL ?_; right; simp; done) | (intro b o e; cases e; first | (refine notLL ?_; left; omega) | (refine notLL ?_; right; simp; done) | (refine notLL ?_; right; simp [*]; done)) | (intro b hb; refine notLL ?_; left; omega) | (intro b hb e; cases e; exact notLL (by right; simp [*]) hb))
          refine WR_nil ?_
          refine blockN ?_
          refine thenN ?_
          refine W_region ?_
          refine WR_val rfl (rn_move) ?_
          refine WR_val rfl (rn_add rfl rfl (Coup.w64 (by omega))) ?_
          refine WR_val rfl (rn_assign) ?_
          refine WR_nil ?_
          refine loopN ⟨i + 1, by omega, ⟨by go_num, rfl, rfl, rfl⟩, by omega, ⟨_, by rw [show k0 + (i + 1) = k0 + i + 1 by omega]; exact q1, q2.trans hlen, hD.weak (by simp)⟩, hLL⟩
  ·
    have hin : i = n := by omega
    subst hin
    refine W_exit ?_
    refine thenX ?_
    refine loopX ?_
    refine blockX ?_
    refine ret_normal [] trivial ?_
    exact ⟨⟨D', hal, hlen, hD⟩, hLL⟩

end
end Go.Proofs.Ytkkgahgpemepeaa
