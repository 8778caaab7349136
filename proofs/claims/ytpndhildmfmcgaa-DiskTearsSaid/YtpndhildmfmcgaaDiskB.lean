/- A disk in memory; how many sectors, is there one, a step, what is read. -/
import Derived.Test.YtpndhildmfmcgaaDiskA
namespace Go.Proofs.Ytpndhildmfmcgaa
open Go Go.RowKit Coup

def since (D : Dk) (sv : Nat → Value) : Nat → Option Value := fun i => if openB D i then some (sv i) else none
/-- A disk in memory: its struct in g, what lasts in pl, the map in m, the versions since in blocks of G. -/
structure DkM (w : World) (g pl m : Nat) (G : List Nat) (D : Dk) (ol cl : Nat) (st : Int) (fu : Bool) (sv : Nat → Value) : Prop where
  row : Coup.row w g [.slice (some ⟨pl, ol, none⟩) D.V.length cl, .map (some m), .int .i64 st, .bool fu, .bool D.dead] 63
  own : OwnG w 0 34 128 pl ol D.V.length cl (bv (lastsD D).flatten)
  map : MapAt Try.prog 3 w m D.V.length (since D sv)
  sv : ∀ i, openB D i = true → ∃ p c, sv i = .slice p ((ver D i).length - 1) c ∧ SlAt w p ((ver D i).length - 1) 128 (bv (ver D i).tail.flatten) ∧ ∀ b o, p = some ⟨b, o, none⟩ → b ∈ G
  inG : ∀ b ∈ G, b < w.heap.size
  ne : g ≠ pl ∧ g ≠ m ∧ pl ≠ m ∧ ∀ b ∈ G, b ≠ g ∧ b ≠ pl ∧ b ≠ m
  left : 0 ≤ st ∧ st ≤ 9223372036854775807 ∧ D.left = (if fu then st else -1)
  ok : DkOk D
  pos : 0 < D.V.length
namespace DkM
variable {w w' : World} {g pl m : Nat} {G : List Nat} {D : Dk} {ol cl : Nat} {st : Int} {fu : Bool} {sv : Nat → Value}
theorem kpd {M : List Nat} (h : DkM w g pl m G D ol cl st fu sv) (k : Kp M w w') (hM : g ∉ M ∧ pl ∉ M ∧ m ∉ M ∧ ∀ b ∈ G, b ∉ M) : DkM w' g pl m G D ol cl st fu sv :=
  ⟨h.row.kpd k hM.1, h.own.kpd k hM.2.1, h.map.kpd k hM.2.2.1, fun i hi => by
    obtain ⟨p, c, h1, h2, h3⟩ := h.sv i hi
    exact ⟨p, c, h1, h2.kpd k fun b o e => hM.2.2.2 b (h3 b o e), h3⟩, fun b hb => Nat.lt_of_lt_of_le (h.inG b hb) k.size, h.ne, h.left, h.ok, h.pos⟩
theorem new (h : DkM w g pl m G D ol cl st fu sv) (hb : Below w.heap.size w w') : DkM w' g pl m G D ol cl st fu sv := h.kpd (M := []) (Kp.of_below hb) (by simp)
theorem look (h : DkM w g pl m G D ol cl st fu sv) (i : Nat) (hi : i < D.V.length) : ∃ p c, (since D sv i).getD (.slice none 0 0) = .slice p ((ver D i).length - 1) c ∧ SlAt w p ((ver D i).length - 1) 128 (bv (ver D i).tail.flatten) ∧ ∀ b o, p = some ⟨b, o, none⟩ → b ∈ G := by
  by_cases ho : openB D i = true
  · obtain ⟨p, c, h1, h2, h3⟩ := h.sv i ho
    exact ⟨p, c, by rw [since, if_pos ho]; exact h1, h2, h3⟩
  · have h1 := (ver_ok h.ok hi).1
    have h2 : (ver D i).length = 1 := by
      have := List.length_pos_iff.2 h1
      simp only [openB, decide_eq_true_eq] at ho
      omega
    obtain ⟨a, ha⟩ := List.length_eq_one_iff.1 h2
    refine ⟨none, 0, by rw [since, if_neg ho, h2]; rfl, ?_, fun b o e => by cases e⟩
    rw [ha]
    exact SlAt.nil _ _ _
/-- The struct's own cells turned: steps, fuse, burned. -/
theorem turn (h : DkM w g pl m G D ol cl st fu sv) (ho : Only g w w') {st' : Int} {fu' : Bool} {left' : Int} {dead' : Bool} (hr : Coup.row w' g [.slice (some ⟨pl, ol, none⟩) D.V.length cl, .map (some m), .int .i64 st', .bool fu', .bool dead'] 63)
    (hl : 0 ≤ st' ∧ st' ≤ 9223372036854775807 ∧ left' = (if fu' then st' else -1)) : DkM w' g pl m G { D with left := left', dead := dead' } ol cl st' fu' sv := by
  have k := Kp.of_only ho
  refine ⟨hr, h.own.kpd k (by simpa using Ne.symm h.ne.1), h.map.kpd k (by simpa using Ne.symm h.ne.2.1), fun i hi => ?_, fun b hb => Nat.lt_of_lt_of_le (h.inG b hb) k.size, h.ne, hl, ⟨h.ok.n, h.ok.ne, h.ok.sec, h.ok.short⟩, h.pos⟩
  obtain ⟨p, c, h1, h2, h3⟩ := h.sv i hi
  exact ⟨p, c, h1, h2.kpd k fun b o e => by simpa using (h.ne.2.2.2 b (h3 b o e)).1, h3⟩
end DkM
theorem sectors27 {w : World} {g pl m : Nat} {G : List Nat} {D : Dk} {ol cl : Nat} {st : Int} {fu : Bool} {sv : Nat → Value} (h : DkM w g pl m G D ol cl st fu sv) :
    Calls Try.prog 27 [.pointer (some ⟨g, 0, none⟩)].toArray w (Ret fun v w' => v = .int .i64 (D.V.length : Int) ∧ w = w') := by
  have hr := h.row
  refine calls_W (fn := Try.f27) (rs := [.tmp 2]) (n := 10) Try.func27 rfl rfl Try.ntmps27 (by kernel_rfl) rfl ?_
  refine W_seq ?_
  refine W_region ?_
  refine WR_val rfl (rn_assign) ?_
  refine WR_nil ?_
  refine thenN ?_
  refine W_seq ?_
  refine W_seq ?_
  refine W_region ?_
  refine WR_val rfl (rn_move) ?_
  refine WR_val rfl (rn_eqlP1 (by kernel_rfl) rfl rfl) ?_
  refine WR_nil ?_
  refine thenN ?_
  refine W_fb rfl (rfl) ?_
  refine W_skip ?_
  refine thenN ?_
  refine W_seq ?_
  refine W_region ?_
  refine WR_val rfl (rn_move) ?_
  refine WR_val rfl (rn_nilCheckP rfl) ?_
  refine WR_val rfl (rn_fieldAddr (off := 0) (by kernel_rfl) rfl) ?_
  refine WR_val rfl (rn_load rfl (Ld.row1 hr (by kernel_rfl) rfl)) ?_
  refine WR_val rfl (rn_lenSl (e := 34) (sz := 128) (by kernel_rfl) rfl rfl) ?_
  refine WR_val rfl (rn_assign) ?_
  refine WR_nil ?_
  refine thenN ?_
  refine W_ret ?_
  refine ret_ret [_] ⟨rfl, trivial⟩ ?_
  exact ⟨rfl, rfl⟩
theorem at39 {w : World} {g pl m : Nat} {G : List Nat} {D : Dk} {ol cl : Nat} {st : Int} {fu : Bool} {sv : Nat → Value} (h : DkM w g pl m G D ol cl st fu sv) (i : Int) :
    Calls Try.prog 39 [.pointer (some ⟨g, 0, none⟩), .int .i64 i].toArray w (Ret fun v w' => v = .int .i64 (if 0 ≤ i ∧ i < D.V.length then 0 else 2) ∧ w = w') := by
  have hr := h.row
  have hp := h.pos
  have hS := sectors27 h
  refine calls_W (fn := Try.f39) (rs := [.tmp 4]) (n := 21) Try.func39 rfl rfl Try.ntmps39 (by kernel_rfl) rfl ?_
  refine W_seq ?_
  refine W_region ?_
  refine WR_val rfl (rn_assign) ?_
  refine WR_nil ?_
  refine thenN ?_
  refine W_seq ?_
  refine W_block ?_
  refine W_seq ?_
  refine W_region ?_
  refine WR_val rfl (rn_move) ?_
  refine WR_ent rfl (rn_call (by kernel_rfl) rfl) (hS) ?_
  rintro _ _ ⟨rfl, rfl⟩
  refine WR_val rfl (rn_eql rfl rfl) ?_
  refine WR_val rfl (rn_assign) ?_
  refine WR_nil ?_
  refine thenN ?_
  refine W_fp rfl ((by omega)) ?_
  refine W_seq ?_
  refine W_region ?_
  refine WR_val rfl (rn_move) ?_
  refine WR_val rfl (rn_lss rfl rfl) ?_
  refine WR_val rfl (rn_move) ?_
  refine WR_part 12 rfl (fun h0 => ?_) (fun h0 => ?_)
  ·
    refine WR_no rfl rfl ?_
    refine WR_no rfl rfl ?_
    refine WR_no rfl rfl ?_
    refine WR_no rfl rfl ?_
    refine WR_no rfl rfl ?_
    refine WR_no rfl rfl ?_
    refine WR_no rfl rfl ?_
    refine WR_val rfl (rn_pick_t rfl) ?_
    refine WR_val rfl (rn_assign) ?_
    refine WR_nil ?_
    refine thenN ?_
    refine W_tb rfl (rfl) ?_
    refine W_seq ?_
    refine W_region ?_
    refine WR_val rfl (rn_assign) ?_
    refine WR_nil ?_
    refine thenN ?_
    refine W_ret ?_
    refine blockR ?_
    refine thenR ?_
    refine ret_ret [_] ⟨rfl, trivial⟩ ?_
    exact ⟨by rw [if_neg (by omega)]; rfl, rfl⟩
  ·
    refine WR_yes rfl ?_
    refine WR_val rfl (rn_move) ?_
    refine WR_yes rfl ?_
    refine WR_val rfl (rn_move) ?_
    refine WR_yes rfl ?_
    refine WR_val rfl (rn_nilCheckP rfl) ?_
    refine WR_yes rfl ?_
    refine WR_val rfl (rn_fieldAddr (off := 0) (by kernel_rfl) rfl) ?_
    refine WR_yes rfl ?_
    refine WR_val rfl (rn_load rfl (Ld.row1 hr (by kernel_rfl) rfl)) ?_
    refine WR_yes rfl ?_
    refine WR_val rfl (rn_lenSl (e := 34) (sz := 128) (by kernel_rfl) rfl rfl) ?_
    refine WR_yes rfl ?_
    refine WR_val rfl (rn_geq rfl rfl) ?_
    refine WR_val rfl (rn_pick_f rfl) ?_
    refine WR_val rfl (rn_assign) ?_
    refine WR_nil ?_
    refine thenN ?_
    refine W_ifp rfl (fun h1 => ?_) (fun h1 => ?_)
    ·
      refine W_seq ?_
      refine W_region ?_
      refine WR_val rfl (rn_assign) ?_
      refine WR_nil ?_
      refine thenN ?_
      refine W_ret ?_
      refine blockR ?_
      refine thenR ?_
      refine ret_ret [_] ⟨rfl, trivial⟩ ?_
      exact ⟨by rw [if_neg (by omega)]; rfl, rfl⟩
    ·
      refine W_skip ?_
      refine blockN ?_
      refine thenN ?_
      refine W_seq ?_
      refine W_region ?_
      refine WR_val rfl (rn_assign) ?_
      refine WR_nil ?_
      refine thenN ?_
      refine W_ret ?_
      refine ret_ret [_] ⟨rfl, trivial⟩ ?_
      exact ⟨by rw [if_pos (by omega)]; rfl, rfl⟩
theorem stepD_dead {D : Dk} (h : D.dead = true) : stepOk D = false ∧ stepD D = D := by
  have h1 : stepOk D = false := by unfold stepOk; rw [h]; rfl
  refine ⟨h1, ?_⟩
  rw [stepD, h1]
  cases D
  cases h
  rfl
theorem step36 {w : World} {g pl m : Nat} {G : List Nat} {D : Dk} {ol cl : Nat} {st : Int} {fu : Bool} {sv : Nat → Value} (h : DkM w g pl m G D ol cl st fu sv) :
    Calls Try.prog 36 [.pointer (some ⟨g, 0, none⟩)].toArray w (Ret fun v w' => v = .int .i64 (if stepOk D then 0 else 10) ∧ (∃ st', DkM w' g pl m G (stepD D) ol cl st' fu sv) ∧ Only g w w') := by
  have hr := h.row
  obtain ⟨hl0, hl1, hl2⟩ := h.left
  refine calls_W (fn := Try.f36) (rs := [.tmp 2]) (n := 30) Try.func36 rfl rfl Try.ntmps36 (by kernel_rfl) rfl ?_
  refine W_seq ?_
  refine W_region ?_
  refine WR_val rfl (rn_assign) ?_
  refine WR_nil ?_
  refine thenN ?_
  refine W_seq ?_
  refine W_seq ?_
  refine W_region ?_
  refine WR_val rfl (rn_move) ?_
  refine WR_val rfl (rn_nilCheckP rfl) ?_
  refine WR_val rfl (rn_fieldAddr (off := 3) (by kernel_rfl) rfl) ?_
  refine WR_val rfl (rn_load rfl (Ld.row1 hr (by kernel_rfl) rfl)) ?_
  refine WR_val rfl (rn_move) ?_
  refine WR_partb 7 rfl (fun hf => ?_) (fun hf => ?_)
  ·
    refine WR_yes rfl ?_
    refine WR_val rfl (rn_move) ?_
    refine WR_yes rfl ?_
    refine WR_val rfl (rn_nilCheckP rfl) ?_
    refine WR_yes rfl ?_
    refine WR_val rfl (rn_fieldAddr (off := 2) (by kernel_rfl) rfl) ?_
    refine WR_yes rfl ?_
    refine WR_val rfl (rn_load rfl (Ld.row1 hr (by kernel_rfl) rfl)) ?_
    refine WR_yes rfl ?_
    refine WR_val rfl (rn_eql rfl rfl) ?_
    refine WR_val rfl (rn_pick_t rfl) ?_
    refine WR_nil ?_
    refine thenN ?_
    refine W_ifp rfl (fun hz => ?_) (fun hz => ?_)
    ·
      refine W_region ?_
      refine WR_val rfl (rn_move) ?_
      refine WR_val rfl (rn_nilCheckP rfl) ?_
      refine WR_val rfl (rn_fieldAddr (off := 4) (by kernel_rfl) rfl) ?_
      refine WR_sk rfl (sk_store1 rfl rfl rfl rfl hr (by kernel_rfl) (by first | (simp only [List.length_replicate]; omega) | (simp only [iv_length]; omega) | (simp only [bv_length, List.length_set]; omega) | simp) (fun w901 hr ho901 => ?_))
      refine WR_nil ?_
      refine thenN ?_
      refine W_seq ?_
      refine W_seq ?_
      refine W_region ?_
      refine WR_val rfl (rn_move) ?_
      refine WR_val rfl (rn_nilCheckP rfl) ?_
      refine WR_val rfl (rn_fieldAddr (off := 4) (by kernel_rfl) rfl) ?_
      refine WR_val rfl (rn_load rfl (Ld.row1 hr (by kernel_rfl) rfl)) ?_
      refine WR_nil ?_
      refine thenN ?_
      refine W_tb rfl (rfl) ?_
      refine W_seq ?_
      refine W_region ?_
      refine WR_val rfl (rn_assign) ?_
      refine WR_nil ?_
      refine thenN ?_
      refine W_ret ?_
      refine thenR ?_
      refine ret_ret [_] ⟨rfl, trivial⟩ ?_
      have hs : stepOk D = false := by unfold stepOk; rw [hl2, hf, if_pos rfl, hz]; simp
      refine ⟨by rw [hs]; rfl, ⟨st, ?_⟩, ho901⟩
      have ht := h.turn ho901 (left' := D.left) (dead' := true) (fu' := fu) hr ⟨hl0, hl1, hl2⟩
      rw [stepD, hs]
      exact ht
    ·
      have hnz : D.left ≠ 0 := by rw [hl2, hf]; simpa using hz
      refine W_skip ?_
      refine thenN ?_
      refine W_seq ?_
      refine W_seq ?_
      refine W_region ?_
      refine WR_val rfl (rn_move) ?_
      refine WR_val rfl (rn_nilCheckP rfl) ?_
      refine WR_val rfl (rn_fieldAddr (off := 4) (by kernel_rfl) rfl) ?_
      refine WR_val rfl (rn_load rfl (Ld.row1 hr (by kernel_rfl) rfl)) ?_
      refine WR_nil ?_
      refine thenN ?_
      refine W_if rfl (fun hd => ?_) (fun hd => ?_)
      ·
        refine W_seq ?_
        refine W_region ?_
        refine WR_val rfl (rn_assign) ?_
        refine WR_nil ?_
        refine thenN ?_
        refine W_ret ?_
        refine thenR ?_
        refine ret_ret [_] ⟨rfl, trivial⟩ ?_
        have hs := stepD_dead hd
        exact ⟨by rw [hs.1]; rfl, ⟨st, by rw [hs.2]; exact h⟩, Only.refl _ _⟩
      ·
        have hs : stepOk D = true := by
          unfold stepOk
          rw [hd]
          simp [hnz]
        refine W_skip ?_
        refine thenN ?_
        refine W_seq ?_
        refine W_region ?_
        refine WR_val rfl (rn_move) ?_
        refine WR_val rfl (rn_move) ?_
        refine WR_val rfl (rn_nilCheckP rfl) ?_
        refine WR_val rfl (rn_fieldAddr (off := 2) (by kernel_rfl) rfl) ?_
        refine WR_val rfl (rn_load rfl (Ld.row1 hr (by kernel_rfl) rfl)) ?_
        refine WR_val rfl (rn_sub rfl rfl (Coup.w64 (by omega))) ?_
        refine WR_val rfl (rn_max2 rfl rfl) ?_
        refine WR_val rfl (rn_nilCheckP rfl) ?_
        refine WR_val rfl (rn_fieldAddr (off := 2) (by kernel_rfl) rfl) ?_
        refine WR_sk rfl (sk_store1 rfl rfl rfl rfl hr (by kernel_rfl) (by first | (simp only [List.length_replicate]; omega) | (simp only [iv_length]; omega) | (simp only [bv_length, List.length_set]; omega) | simp) (fun w902 hr ho902 => ?_))
        refine WR_nil ?_
        refine thenN ?_
        refine W_seq ?_
        refine W_region ?_
        refine WR_val rfl (rn_assign) ?_
        refine WR_nil ?_
        refine thenN ?_
        refine W_ret ?_
        refine ret_ret [_] ⟨rfl, trivial⟩ ?_
        refine ⟨by rw [hs]; rfl, ⟨max 0 (st - 1), ?_⟩, ho902⟩
        have ht := h.turn ho902 (left' := if 0 < D.left then D.left - 1 else D.left) (dead' := D.dead) (fu' := fu) hr ⟨by omega, by omega, by rw [hl2]; cases fu <;> simp <;> omega⟩
        rw [stepD, hs]
        exact ht
  ·
    have hnz : D.left ≠ 0 := by rw [hl2, hf]; simp
    refine WR_no rfl rfl ?_
    refine WR_no rfl rfl ?_
    refine WR_no rfl rfl ?_
    refine WR_no rfl rfl ?_
    refine WR_no rfl rfl ?_
    refine WR_val rfl (rn_pick_f rfl) ?_
    refine WR_nil ?_
    refine thenN ?_
    refine W_f rfl ?_
    refine W_skip ?_
    refine thenN ?_
    refine W_seq ?_
    refine W_seq ?_
    refine W_region ?_
    refine WR_val rfl (rn_move) ?_
    refine WR_val rfl (rn_nilCheckP rfl) ?_
    refine WR_val rfl (rn_fieldAddr (off := 4) (by kernel_rfl) rfl) ?_
    refine WR_val rfl (rn_load rfl (Ld.row1 hr (by kernel_rfl) rfl)) ?_
    refine WR_nil ?_
    refine thenN ?_
    refine W_if rfl (fun hd => ?_) (fun hd => ?_)
    ·
      refine W_seq ?_
      refine W_region ?_
      refine WR_val rfl (rn_assign) ?_
      refine WR_nil ?_
      refine thenN ?_
      refine W_ret ?_
      refine thenR ?_
      refine ret_ret [_] ⟨rfl, trivial⟩ ?_
      have hs := stepD_dead hd
      exact ⟨by rw [hs.1]; rfl, ⟨st, by rw [hs.2]; exact h⟩, Only.refl _ _⟩
    ·
      have hs : stepOk D = true := by
        unfold stepOk
        rw [hd]
        simp [hnz]
      refine W_skip ?_
      refine thenN ?_
      refine W_seq ?_
      refine W_region ?_
      refine WR_val rfl (rn_move) ?_
      refine WR_val rfl (rn_move) ?_
      refine WR_val rfl (rn_nilCheckP rfl) ?_
      refine WR_val rfl (rn_fieldAddr (off := 2) (by kernel_rfl) rfl) ?_
      refine WR_val rfl (rn_load rfl (Ld.row1 hr (by kernel_rfl) rfl)) ?_
      refine WR_val rfl (rn_sub rfl rfl (Coup.w64 (by omega))) ?_
      refine WR_val rfl (rn_max2 rfl rfl) ?_
      refine WR_val rfl (rn_nilCheckP rfl) ?_
      refine WR_val rfl (rn_fieldAddr (off := 2) (by kernel_rfl) rfl) ?_
      refine WR_sk rfl (sk_store1 rfl rfl rfl rfl hr (by kernel_rfl) (by first | (simp only [List.length_replicate]; omega) | (simp only [iv_length]; omega) | (simp only [bv_length, List.length_set]; omega) | simp) (fun w903 hr ho903 => ?_))
      refine WR_nil ?_
      refine thenN ?_
      refine W_seq ?_
      refine W_region ?_
      refine WR_val rfl (rn_assign) ?_
      refine WR_nil ?_
      refine thenN ?_
      refine W_ret ?_
      refine ret_ret [_] ⟨rfl, trivial⟩ ?_
      refine ⟨by rw [hs]; rfl, ⟨max 0 (st - 1), ?_⟩, ho903⟩
      have ht := h.turn ho903 (left' := if 0 < D.left then D.left - 1 else D.left) (dead' := D.dead) (fu' := fu) hr ⟨by omega, by omega, by rw [hl2]; cases fu <;> simp <;> omega⟩
      rw [stepD, hs]
      exact ht
theorem ld_sec {w : World} {g o n : Nat} {L : List Sec} (h : SlAt w (some ⟨g, o, none⟩) n 128 (bv L.flatten)) (hL : secsOk L) {i : Nat} {s : Sec} (hs : L[i]? = some s) : Ld Try.prog w 34 ⟨g, o + i * 128, none⟩ (.agg (bv s).toArray) := by
  have hi := (List.getElem?_eq_some_iff.1 hs).1
  have hl := flat_len hL
  have := Ld.slN (P := Try.prog) (t := 34) (j := i * 128) (k := 128) h (by kernel_rfl) (by kernel_rfl) (by rw [bv_length]; omega)
  rw [← bv_drop, ← bv_take, flat_at hL hs] at this
  exact this
/-- What is read of a sector. -/
theorem now38 {w : World} {g pl m : Nat} {G : List Nat} {D : Dk} {ol cl : Nat} {st : Int} {fu : Bool} {sv : Nat → Value} (h : DkM w g pl m G D ol cl st fu sv) (i : Nat) (hi : i < D.V.length) :
    Calls Try.prog 38 [.pointer (some ⟨g, 0, none⟩), .int .i64 (i : Int)].toArray w (Ret fun v w' => v = .agg (bv (readD D i)).toArray ∧ Below w.heap.size w w') := by
  have hB := Below.refl w.heap.size w
  have hr := h.row
  have hmap := h.map
  have hown := h.own
  have hv := ver_ok h.ok hi
  have hn8 := h.ok.n
  obtain ⟨S, hS⟩ : ∃ S, readD D i = S := ⟨_, rfl⟩
  have hSl : (bv S).length = 128 := by rw [bv_length, ← hS]; exact lastS_ok hv.2.1
  rw [hS]
  refine calls_W (fn := Try.f38) (rs := [.cell 4 34]) (n := 28) Try.func38 rfl rfl Try.ntmps38 (by kernel_rfl) rfl ?_
  refine W_seq ?_
  refine W_region ?_
  refine WR_mk rfl (mk_alloc (List.replicate 128 (Value.int .u8 0)) (by kernel_rfl) (fun g4 w4 hg4 hr4 hb4 => ?_))
  have ge_hB_g4 := Nat.le_trans hB.size hg4
  have lt_g_g4 : g < g4 := Nat.lt_of_lt_of_le hr.lt hg4
  have lt_m_g4 : m < g4 := Nat.lt_of_lt_of_le hmap.lt hg4
  have lt_pl_g4 : pl < g4 := Nat.lt_of_lt_of_le hown.lt hg4
  replace hr := hr.new hb4
  replace hmap := hmap.new hb4
  replace hown := hown.new hb4
  replace hB := hB.acc hb4
  refine WR_nil ?_
  refine thenN ?_
  refine W_seq ?_
  refine W_seq ?_
  refine W_region ?_
  refine WR_val rfl (rn_move) ?_
  refine WR_val rfl (rn_nilCheckP rfl) ?_
  refine WR_val rfl (rn_fieldAddr (off := 1) (by kernel_rfl) rfl) ?_
  refine WR_val rfl (rn_load rfl (Ld.row1 hr (by kernel_rfl) rfl)) ?_
  refine WR_val rfl (rn_move) ?_
  have hobt := h.look i hi
  obtain ⟨p, c, hlk, hsl, hpG⟩ := hobt
  refine WR_val rfl (rn_lookupV (k := 3) (e := 52) (.slice none 0 0) (by kernel_rfl) (by kernel_rfl) (by intro w; first | kernel_rfl | rfl) hmap rfl rfl (i) (by first | rfl | omega) (by omega) (by omega) hlk) ?_
  refine WR_val rfl (rn_assign) ?_
  refine WR_nil ?_
  refine thenN ?_
  refine W_seq ?_
  refine W_region ?_
  refine WR_val rfl (rn_move) ?_
  refine WR_val rfl (rn_lenSl (e := 34) (sz := 128) (by kernel_rfl) rfl rfl) ?_
  refine WR_val rfl (rn_gtr rfl rfl) ?_
  refine WR_nil ?_
  refine thenN ?_
  refine W_ifp rfl (fun hpos => ?_) (fun hpos => ?_)
  ·
    refine W_seq ?_
    have hlast := lastS_tail (v := ver D i) (by omega)
    rw [show lastS (ver D i) = S from hS] at hlast
    have hsl2 := hsl.below hB (Nat.le_refl _)
    have hobt := hsl2.some (by omega)
    obtain ⟨gp, op, rfl, hgp⟩ := hobt
    refine W_region ?_
    refine WR_val rfl (rn_move) ?_
    refine WR_val rfl (rn_move) ?_
    refine WR_val rfl (rn_lenSl (e := 34) (sz := 128) (by kernel_rfl) rfl rfl) ?_
    refine WR_val rfl (rn_sub rfl rfl (Coup.w64 (by omega))) ?_
    refine WR_val rfl (rn_indexSl (e := 34) (sz := 128) (by kernel_rfl) rfl rfl ((ver D i).length - 2) (by omega) (by omega)) ?_
    refine WR_val rfl (rn_load rfl (ld_sec hsl2 (tail_ok hv.2.1) hlast)) ?_
    refine WR_sk rfl (sk_storeA 128 (bv S) rfl rfl hr4 (by kernel_rfl) (by first | assumption | (simp; done) | (simp [bv_length, *]; done)) (by first | assumption | (simp; done) | (simp [bv_length, *]; done) | rfl) (by first | exact bv_one _ | assumption | (simp [Value.oneCell']; done)) (fun w901 hr4 ho901 => ?_))
    replace hr := hr.only ho901 (Nat.ne_of_lt lt_g_g4)
    replace hmap := hmap.only ho901 (Nat.ne_of_lt lt_m_g4)
    replace hown := hown.only ho901 (Nat.ne_of_lt lt_pl_g4)
    replace hB := ho901.below hB ge_hB_g4
    refine WR_nil ?_
    refine thenN ?_
    refine W_ret ?_
    refine thenR ?_
    refine ret_ret [_] ⟨⟨_, rfl, Ld.rowA (k := 128) hr4 (by kernel_rfl) (by kernel_rfl) (by first | (simp; done) | (simp [bv_length, *]; done) | assumption)⟩, trivial⟩ ?_
    exact ⟨rfl, hB⟩
  ·
    have h1 : (ver D i).length = 1 := by
      have := List.length_pos_iff.2 hv.1
      omega
    have hSh : headS (ver D i) = S := by rw [← hS, readD, lastS_one h1]
    have hla := lasts_at hi
    rw [hSh] at hla
    refine W_skip ?_
    refine thenN ?_
    refine W_seq ?_
    refine W_region ?_
    refine WR_val rfl (rn_move) ?_
    refine WR_val rfl (rn_nilCheckP rfl) ?_
    refine WR_val rfl (rn_fieldAddr (off := 0) (by kernel_rfl) rfl) ?_
    refine WR_val rfl (rn_load rfl (Ld.row1 hr (by kernel_rfl) rfl)) ?_
    refine WR_val rfl (rn_move) ?_
    refine WR_val rfl (rn_indexSl (e := 34) (sz := 128) (by kernel_rfl) rfl rfl (i) (by omega) (by omega)) ?_
    refine WR_val rfl (rn_load rfl (ld_sec hown.sl (lasts_ok h.ok) hla)) ?_
    refine WR_sk rfl (sk_storeA 128 (bv S) rfl rfl hr4 (by kernel_rfl) (by first | assumption | (simp; done) | (simp [bv_length, *]; done)) (by first | assumption | (simp; done) | (simp [bv_length, *]; done) | rfl) (by first | exact bv_one _ | assumption | (simp [Value.oneCell']; done)) (fun w902 hr4 ho902 => ?_))
    replace hr := hr.only ho902 (Nat.ne_of_lt lt_g_g4)
    replace hmap := hmap.only ho902 (Nat.ne_of_lt lt_m_g4)
    replace hown := hown.only ho902 (Nat.ne_of_lt lt_pl_g4)
    replace hB := ho902.below hB ge_hB_g4
    refine WR_nil ?_
    refine thenN ?_
    refine W_ret ?_
    refine ret_ret [_] ⟨⟨_, rfl, Ld.rowA (k := 128) hr4 (by kernel_rfl) (by kernel_rfl) (by first | (simp; done) | (simp [bv_length, *]; done) | assumption)⟩, trivial⟩ ?_
    exact ⟨rfl, hB⟩
end Go.Proofs.Ytpndhildmfmcgaa
