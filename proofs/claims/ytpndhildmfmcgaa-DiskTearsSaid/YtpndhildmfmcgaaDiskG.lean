/- A disk made; are two the same. -/
import Derived.Test.YtpndhildmfmcgaaDiskF
namespace Go.Proofs.Ytpndhildmfmcgaa
open Go Go.RowKit Coup

def newD (n : Nat) : Dk := ⟨List.replicate n [zeroS], -1, false⟩
theorem newD_ok {n : Nat} (hn : n ≤ 8192) : DkOk (newD n) := by
  have h : ∀ v ∈ (newD n).V, v = [zeroS] := fun v hv => (List.mem_replicate.1 hv).2
  refine ⟨by show (List.replicate n [zeroS]).length ≤ _; rw [List.length_replicate]; exact hn, fun v hv => by rw [h v hv]; simp, fun v hv s hs => ?_, fun v hv => by rw [h v hv]; simp⟩
  rw [h v hv] at hs
  rw [List.mem_singleton.1 hs, zeroS, List.length_replicate]
theorem newD_len (n : Nat) : (newD n).V.length = n := List.length_replicate ..
theorem newD_closed {n i : Nat} : openB (newD n) i = false := by
  unfold openB ver newD
  dsimp only
  rw [List.getD_eq_getElem?_getD, List.getElem?_replicate]
  split <;> simp
theorem newD_lasts (n : Nat) : List.replicate (n * 128) (Value.int .u8 0) = bv (lastsD (newD n)).flatten := by
  have e : lastsD (newD n) = List.replicate n zeroS := by
    unfold lastsD newD
    dsimp only
    rw [List.map_replicate]; rfl
  have hf : ∀ n, (List.replicate n zeroS).flatten = List.replicate (n * 128) 0 := by
    intro n
    induction n with
    | zero => rfl
    | succ n ih =>
      rw [List.replicate_succ, List.flatten_cons, ih, zeroS, List.replicate_append_replicate]
      congr 1; omega
  rw [e, hf, bv, List.map_replicate]; rfl
theorem new11b {w : World} (n : Int) (hn : n < 1 ∨ 8192 < n) :
    Calls Try.prog 11 [.int .i64 n].toArray w (Ret fun v w' => v = .tuple #[.pointer none, .int .i64 2] ∧ w = w') := by
  refine calls_W (fn := Try.f11) (rs := [.tmp 2, .tmp 3]) (n := 15) Try.func11 rfl rfl Try.ntmps11 (by kernel_rfl) rfl ?_
  refine W_seq ?_
  refine W_region ?_
  refine WR_val rfl (rn_assign) ?_
  refine WR_val rfl (rn_assign) ?_
  refine WR_nil ?_
  refine thenN ?_
  refine W_seq ?_
  refine W_seq ?_
  refine W_region ?_
  refine WR_val rfl (rn_move) ?_
  refine WR_val rfl (rn_lss rfl rfl) ?_
  refine WR_val rfl (rn_move) ?_
  refine WR_part 6 rfl (fun h1 => ?_) (fun h1 => ?_)
  ·
    refine WR_no rfl rfl ?_
    refine WR_no rfl rfl ?_
    refine WR_val rfl (rn_pick_t rfl) ?_
    refine WR_nil ?_
    refine thenN ?_
    refine W_tb rfl (rfl) ?_
    refine W_seq ?_
    refine W_region ?_
    refine WR_val rfl (rn_assign) ?_
    refine WR_val rfl (rn_assign) ?_
    refine WR_nil ?_
    refine thenN ?_
    refine W_ret ?_
    refine thenR ?_
    refine ret_ret [_, _] ⟨rfl, rfl, trivial⟩ ?_
    exact ⟨rfl, rfl⟩
  ·
    refine WR_yes rfl ?_
    refine WR_val rfl (rn_move) ?_
    refine WR_yes rfl ?_
    refine WR_val rfl (rn_gtr rfl rfl) ?_
    refine WR_val rfl (rn_pick_f rfl) ?_
    refine WR_nil ?_
    refine thenN ?_
    refine W_tp rfl ((by omega)) ?_
    refine W_seq ?_
    refine W_region ?_
    refine WR_val rfl (rn_assign) ?_
    refine WR_val rfl (rn_assign) ?_
    refine WR_nil ?_
    refine thenN ?_
    refine W_ret ?_
    refine thenR ?_
    refine ret_ret [_, _] ⟨rfl, rfl, trivial⟩ ?_
    exact ⟨rfl, rfl⟩
theorem new11a {w : World} (n : Nat) (h1 : 1 ≤ n) (h2 : n ≤ 8192) :
    Calls Try.prog 11 [.int .i64 (n : Int)].toArray w (Ret fun v w' => ∃ g pl m, v = .tuple #[.pointer (some ⟨g, 0, none⟩), .int .i64 0] ∧ DkM w' g pl m [] (newD n) 0 n 0 false (fun _ => .slice none 0 0) ∧ w.heap.size ≤ g ∧ w.heap.size ≤ pl ∧ w.heap.size ≤ m ∧ Below w.heap.size w w') := by
  have hB := Below.refl w.heap.size w
  have hml : maxLen = 9223372036854775807 := by decide
  refine calls_W (fn := Try.f11) (rs := [.tmp 2, .tmp 3]) (n := 15) Try.func11 rfl rfl Try.ntmps11 (by kernel_rfl) rfl ?_
  refine W_seq ?_
  refine W_region ?_
  refine WR_val rfl (rn_assign) ?_
  refine WR_val rfl (rn_assign) ?_
  refine WR_nil ?_
  refine thenN ?_
  refine W_seq ?_
  refine W_seq ?_
  refine W_region ?_
  refine WR_val rfl (rn_move) ?_
  refine WR_val rfl (rn_lss rfl rfl) ?_
  refine WR_val rfl (rn_move) ?_
  refine WR_fp 6 rfl ((by omega)) ?_
  refine WR_yes rfl ?_
  refine WR_val rfl (rn_move) ?_
  refine WR_yes rfl ?_
  refine WR_val rfl (rn_gtr rfl rfl) ?_
  refine WR_val rfl (rn_pick_f rfl) ?_
  refine WR_nil ?_
  refine thenN ?_
  refine W_fp rfl ((by omega)) ?_
  refine W_skip ?_
  refine thenN ?_
  refine W_seq ?_
  refine W_region ?_
  refine WR_val rfl (rn_move) ?_
  refine WR_mk rfl (mk_make (e := 34) n (List.replicate 128 (.int .u8 0)) 128 128 (.int .u8 0) (by kernel_rfl) (by kernel_rfl) ⟨_, rfl, rfl⟩ ⟨_, rfl, rfl⟩ (by intro u hu; exact (List.mem_replicate.1 hu).2) (by simp) (by omega) (by omega) (fun g11 w11 hg11 hr11 hb11 => ?_))
  have ge_hB_g11 := Nat.le_trans hB.size hg11
  replace hB := hB.acc hb11
  rw [newD_lasts n] at hr11
  have l11 := hr11.lt
  refine WR_mk rfl (mk_makeMap (k := 3) (n) (fun m12 w12 hg12 hm12 hb12 => ?_))
  replace hr11 := hr11.new hb12
  replace hB := hB.acc hb12
  have l12 := hm12.lt
  refine WR_val rfl (rn_built2 (.slice (some ⟨g11, 0, none⟩) n n) (.map (some m12)) [.slice (some ⟨g11, 0, none⟩) n n, .map (some m12), .int .i64 0, .bool false, .bool false] rfl rfl (by kernel_rfl)) ?_
  refine WR_mk rfl (mk_box ([.slice (some ⟨g11, 0, none⟩) n n, .map (some m12), .int .i64 0, .bool false, .bool false]) rfl (fun g14 w14 hg14 hr14 hb14 => ?_))
  have ge_hB_g14 := Nat.le_trans hB.size hg14
  have lt_g11_g14 : g11 < g14 := Nat.lt_of_lt_of_le hr11.lt hg14
  have lt_m12_g14 : m12 < g14 := Nat.lt_of_lt_of_le hm12.lt hg14
  replace hr11 := hr11.new hb14
  replace hm12 := hm12.new hb14
  replace hB := hB.acc hb14
  refine WR_val rfl (rn_assign) ?_
  refine WR_val rfl (rn_assign) ?_
  refine WR_nil ?_
  refine thenN ?_
  refine W_ret ?_
  refine ret_ret [_, _] ⟨rfl, rfl, trivial⟩ ?_
  have hlen := newD_len n
  have hs : since (newD n) (fun _ => .slice none 0 0) = fun _ => none := by
    funext i
    unfold since
    rw [newD_closed]; rfl
  have hbl : (bv (lastsD (newD n)).flatten).length = n * 128 := by rw [← newD_lasts, List.length_replicate]
  refine ⟨g14, g11, m12, rfl, ⟨by rw [hlen]; exact hr14, by rw [hlen]; exact hr11.owns (Nat.zero_le _) hbl (by omega), by rw [hlen, hs]; exact hm12, fun i hi => ?_, (fun b hb => nomatch hb), ⟨by omega, by omega, by omega, fun b hb => (nomatch hb)⟩, ⟨by omega, by omega, rfl⟩, newD_ok h2, by omega⟩, by omega, by omega, by omega, hB⟩
  rw [newD_closed] at hi
  cases hi
end Go.Proofs.Ytpndhildmfmcgaa
