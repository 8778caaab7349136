/- A disk: Write. -/
import Derived.Test.YtpndhildmfmcgaaDiskE
namespace Go.Proofs.Ytpndhildmfmcgaa
open Go Go.RowKit Coup

/-- The versions since are the disk's own, each in a block of its own. -/
structure DkO (w : World) (G : List Nat) (D : Dk) (sv : Nat → Value) : Prop where
  own : ∀ i, openB D i = true → ownsAt w 0 34 128 (sv i) ((ver D i).length - 1) (bv (ver D i).tail.flatten) ∧ ∀ b, (sv i).ownBlock = some b → b ∈ G
  sep : ∀ i j b, openB D i = true → openB D j = true → (sv i).ownBlock = some b → (sv j).ownBlock = some b → i = j
theorem DkO.kpd {w w' : World} {G M : List Nat} {D : Dk} {sv : Nat → Value} (h : DkO w G D sv) (k : Kp M w w') (hM : ∀ b ∈ G, b ∉ M) : DkO w' G D sv :=
  ⟨fun i hi => ⟨(h.own i hi).1.kpd k fun b hb e => hM b ((h.own i hi).2 b e) hb, (h.own i hi).2⟩, h.sep⟩
theorem DkO.alike {w : World} {G : List Nat} {D D' : Dk} {sv : Nat → Value} (h : DkO w G D sv) (hV : D'.V = D.V) : DkO w G D' sv := by
  have h1 : ∀ i, ver D' i = ver D i := fun i => by unfold ver; rw [hV]
  have h2 : ∀ i, openB D' i = openB D i := fun i => by unfold openB; rw [h1]
  exact ⟨fun i hi => by rw [h1]; exact h.own i (by rw [← h2]; exact hi), fun i j b hi hj => h.sep i j b (by rw [← h2]; exact hi) (by rw [← h2]; exact hj)⟩
theorem DkO.look {w : World} {g pl m : Nat} {G : List Nat} {D : Dk} {ol cl : Nat} {st : Int} {fu : Bool} {sv : Nat → Value} (h : DkM w g pl m G D ol cl st fu sv) (ho : DkO w G D sv) (i : Nat) (hi : i < D.V.length) :
    ∃ p c, (since D sv i).getD (.slice none 0 0) = .slice p ((ver D i).length - 1) c ∧ ownsAt w 0 34 128 (.slice p ((ver D i).length - 1) c) ((ver D i).length - 1) (bv (ver D i).tail.flatten) ∧ (∀ b, Value.ownBlock (.slice p ((ver D i).length - 1) c) = some b → b ∈ G) ∧ ∀ j b, openB D j = true → j ≠ i → Value.ownBlock (.slice p ((ver D i).length - 1) c) = some b → (sv j).ownBlock ≠ some b := by
  by_cases hb : openB D i = true
  · obtain ⟨p, c, h1, _, _⟩ := h.sv i hb
    have h2 := ho.own i hb
    rw [h1] at h2
    refine ⟨p, c, by rw [since, if_pos hb]; exact h1, h2.1, h2.2, fun j b hj hne e e' => hne ?_⟩
    exact ho.sep j i b hj hb e' (by rw [h1]; exact e)
  · have h1 := (ver_ok h.ok hi).1
    have h2 : (ver D i).length = 1 := by
      have := List.length_pos_iff.2 h1
      simp only [openB, decide_eq_true_eq] at hb
      omega
    obtain ⟨a, ha⟩ := List.length_eq_one_iff.1 h2
    refine ⟨none, 0, by rw [since, if_neg hb, h2]; rfl, ?_, (fun b e => nomatch e), (fun j b _ _ e => nomatch e)⟩
    rw [ha]
    exact ownsAt_nil _ _ _ _
theorem since_write {D : Dk} {sv : Nat → Value} {i : Nat} {v : List Sec} {u : Value} (hi : i < D.V.length) (hv : 1 < v.length) : since (setV D i v) (fun j => if j = i then u else sv j) = updF (since D sv) i (some u) := by
  funext j
  unfold since updF openB
  rw [ver_set hi]
  by_cases h : j = i
  · subst h; simp [hv]
  · simp only [if_neg (show ¬ i = j from fun e => h e.symm), if_neg h]
theorem dk_wrote {w w' : World} {g pl m : Nat} {G : List Nat} {D : Dk} {ol cl : Nat} {st : Int} {fu : Bool} {sv : Nat → Value} {i : Nat} {s : Sec} {u : Value} {ob : Option Nat} {p : Option Addr} {c : Nat}
    (h : DkM w g pl m G D ol cl st fu sv) (ho : DkO w G D sv) (hi : i < D.V.length) (hs : s.length = 128) (hsh : (ver D i).length < 100000)
    (k : Kp (m :: ob.toList) w w') (hmap : MapAt Try.prog 3 w' m D.V.length (updF (since D sv) i (some u))) (hu : u = .slice p ((ver D i).length - 1 + 1) c)
    (hv : ownsAt w' 0 34 128 u ((ver D i).length - 1 + 1) (bv (ver D i).tail.flatten ++ bv s)) (hpG : ∀ b, ob = some b → b ∈ G)
    (hsep : ∀ j b, openB D j = true → j ≠ i → ob = some b → (sv j).ownBlock ≠ some b) (hva : ∀ b, u.ownBlock = some b → ob = some b ∨ w.heap.size ≤ b) :
    ∃ G' sv', DkM w' g pl m G' (setV D i (ver D i ++ [s])) ol cl st fu sv' ∧ DkO w' G' (setV D i (ver D i ++ [s])) sv' ∧ ∀ b ∈ G', b ∈ G ∨ w.heap.size ≤ b := by
  obtain ⟨hv1, hv2, hv3⟩ := ver_ok h.ok hi
  have hvp := List.length_pos_iff.2 hv1
  obtain ⟨n1, n2, n3, n4⟩ := h.ne
  have hX : ∀ b, b ∉ G → b ≠ m → b ∉ m :: ob.toList := fun b hb hm e => by
    rcases List.mem_cons.1 e with e | e
    · exact hm e
    · exact hb (hpG b (Option.mem_toList.1 e))
  obtain ⟨D', hD'⟩ : ∃ D', setV D i (ver D i ++ [s]) = D' := ⟨_, rfl⟩
  have hver : ∀ j, ver D' j = if i = j then ver D i ++ [s] else ver D j := fun j => by rw [← hD']; exact ver_set hi
  have hlen : D'.V.length = D.V.length := by rw [← hD']; exact List.length_set ..
  have hopi : openB D' i = true := by unfold openB; rw [hver, if_pos rfl]; simp; omega
  have hopj : ∀ j, j ≠ i → openB D' j = openB D j := fun j hj => by unfold openB; rw [hver, if_neg (Ne.symm hj)]
  have hla : lastsD D' = lastsD D := by
    rw [← hD', lasts_set]
    have hh : headS (ver D i ++ [s]) = headS (ver D i) := by obtain ⟨a, l, e⟩ := List.exists_cons_of_ne_nil hv1; rw [e]; rfl
    rw [hh]
    have hl := lasts_at hi
    refine List.ext_getElem? fun j => ?_
    rw [List.getElem?_set]
    by_cases hij : i = j
    · subst hij
      rw [if_pos rfl, if_pos (List.getElem?_eq_some_iff.1 hl).1, hl]
    · rw [if_neg hij]
  have htl : bv (ver D' i).tail.flatten = bv (ver D i).tail.flatten ++ bv s := by
    rw [hver, if_pos rfl, ← bv_append]
    obtain ⟨a, l, e⟩ := List.exists_cons_of_ne_nil hv1
    rw [e]; simp
  have hln : (ver D' i).length - 1 = (ver D i).length - 1 + 1 := by rw [hver, if_pos rfl, List.length_append, List.length_singleton]; omega
  obtain ⟨sv', hsv'⟩ : ∃ sv' : Nat → Value, sv' = fun j => if j = i then u else sv j := ⟨_, rfl⟩
  have hsi : sv' i = u := by rw [hsv']; simp
  have hsj : ∀ j, j ≠ i → sv' j = sv j := fun j hj => by rw [hsv']; simp [hj]
  have hsz := k.size
  have hnew : ∀ b, u.ownBlock = some b → b ∈ G ∨ w.heap.size ≤ b := fun b e => (hva b e).imp (hpG b) id
  have hum : ∀ b, b ∈ u.ownBlock.toList → b ∈ G ∨ w.heap.size ≤ b := fun b hb => hnew b (Option.mem_toList.1 hb)
  have hg1 := h.row.lt
  have hg2 := h.own.lt
  have hg3 := h.map.lt
  have hown : ∀ j, openB D' j = true → ownsAt w' 0 34 128 (sv' j) ((ver D' j).length - 1) (bv (ver D' j).tail.flatten) ∧ ∀ b, (sv' j).ownBlock = some b → b ∈ G ++ u.ownBlock.toList := fun j hj => by
    by_cases e : j = i
    · subst e
      rw [hsi, hln, htl]
      exact ⟨hv, fun b e => List.mem_append_right _ (Option.mem_toList.2 e)⟩
    · rw [hopj j e] at hj
      rw [hsj j e, hver, if_neg (Ne.symm e)]
      have := ho.own j hj
      refine ⟨this.1.kpd k fun b hb e' => ?_, fun b e' => List.mem_append_left _ (this.2 b e')⟩
      rcases List.mem_cons.1 hb with hb | hb
      · exact (n4 b (this.2 b e')).2.2 hb
      · exact hsep j b hj e (Option.mem_toList.1 hb) e'
  rw [hD']
  refine ⟨G ++ u.ownBlock.toList, sv', ?_, ⟨hown, fun a b x ha hb ea eb => ?_⟩, fun b hb => ?_⟩
  · have hs' : since D' sv' = updF (since D sv) i (some u) := by rw [← hD', hsv']; exact since_write hi (by rw [List.length_append, List.length_singleton]; omega)
    refine ⟨by rw [hlen]; rw [show D'.dead = D.dead by rw [← hD']; rfl]; exact h.row.kpd k (hX g (fun e => (n4 g e).1 rfl) n2), by rw [hlen, hla]; exact h.own.kpd k (hX pl (fun e => (n4 pl e).2.1 rfl) n3), by rw [hlen, hs']; exact hmap, fun j hj => ?_, fun b hb => ?_, ⟨n1, n2, n3, fun b hb => ?_⟩, by rw [show D'.left = D.left by rw [← hD']; rfl]; exact h.left, ?_, by rw [hlen]; exact h.pos⟩
    · obtain ⟨h1, h2⟩ := hown j hj
      obtain ⟨q, c', e⟩ := h1.form
      rw [e] at h1 h2
      exact ⟨q, c', e, h1.sl, fun b o e' => h2 b (by rw [e']; rfl)⟩
    · rcases List.mem_append.1 hb with hb | hb
      · exact Nat.lt_of_lt_of_le (h.inG b hb) hsz
      · exact (hv.lt b (Option.mem_toList.1 hb)).2
    · rcases List.mem_append.1 hb with hb | hb
      · exact n4 b hb
      · rcases hum b hb with hb | hb
        · exact n4 b hb
        · exact ⟨by omega, by omega, by omega⟩
    · rw [← hD']
      refine setV_ok h.ok (by simp) (fun x hx => ?_) (by rw [List.length_append, List.length_singleton]; omega)
      rcases List.mem_append.1 hx with hx | hx
      · exact hv2 x hx
      · rw [List.mem_singleton.1 hx]; exact hs
  · have hcl : ∀ y, y ≠ i → openB D' y = true → u.ownBlock = some x → (sv y).ownBlock = some x → False := fun y hy hoy eu ey => by
      rw [hopj y hy] at hoy
      rcases hva x eu with e | e
      · exact hsep y x hoy hy e ey
      · have := h.inG x ((ho.own y hoy).2 x ey); omega
    by_cases e1 : a = i
    · by_cases e2 : b = i
      · rw [e1, e2]
      · rw [e1, hsi] at ea
        rw [hsj b e2] at eb
        exact (hcl b e2 hb ea eb).elim
    · by_cases e2 : b = i
      · rw [e2, hsi] at eb
        rw [hsj a e1] at ea
        exact (hcl a e1 ha eb ea).elim
      · rw [hsj a e1] at ea
        rw [hsj b e2] at eb
        exact ho.sep a b x (by rw [← hopj a e1]; exact ha) (by rw [← hopj b e2]; exact hb) ea eb
  · rcases List.mem_append.1 hb with hb | hb
    · exact .inl hb
    · exact hum b hb
set_option maxRecDepth 8000 in
set_option maxHeartbeats 1000000 in
theorem write17a {w : World} {g pl m : Nat} {G : List Nat} {D : Dk} {ol cl : Nat} {st : Int} {fu : Bool} {sv : Nat → Value} (h : DkM w g pl m G D ol cl st fu sv) (ho : DkO w G D sv) (i : Nat) (s : Sec) (hi : i < D.V.length) (hs : s.length = 128) (hsh : (ver D i).length < 100000) :
    Calls Try.prog 17 [.pointer (some ⟨g, 0, none⟩), .int .i64 (i : Int), .agg (bv s).toArray].toArray w
      (Ret fun v w' => v = .int .i64 (if stepOk D then 0 else 10) ∧ (∃ st' G' sv', DkM w' g pl m G' (writeD D i s) ol cl st' fu sv' ∧ DkO w' G' (writeD D i s) sv' ∧ ∀ b ∈ G', b ∈ G ∨ w.heap.size ≤ b) ∧ Kp ([g, pl, m] ++ G) w w') := by
  have hml : maxLen = 9223372036854775807 := by decide
  have hK := KpB.refl ([g, pl, m] ++ G) w
  have hsl : (bv s).length = 128 := by rw [bv_length]; exact hs
  obtain ⟨D1, hD1⟩ : ∃ D1, stepD D = D1 := ⟨_, rfl⟩
  obtain ⟨ok, hok⟩ : ∃ ok, stepOk D = ok := ⟨_, rfl⟩
  have hV1 : D1.V = D.V := by rw [← hD1]; exact stepD_V D
  have hver : ver D1 i = ver D i := by unfold ver; rw [hV1]
  rw [writeD, hD1, hok, ← hver]
  rw [← hver] at hsh
  refine calls_W (fn := Try.f17) (rs := [.tmp 6]) (n := 34) Try.func17 rfl rfl Try.ntmps17 (by kernel_rfl) rfl ?_
  refine W_seq ?_
  refine W_region ?_
  refine WR_mk rfl (mk_box ((bv s)) rfl (fun g5 w5 hg5 hr5 hb5 => ?_))
  replace hK := hK.new hb5
  have h5 := h.new hb5
  have ha := at39 h5 (i : Int)
  rw [if_pos (by omega)] at ha
  have hst := step36 h5
  rw [hD1, hok] at hst
  have ho5 := ho.kpd (M := []) (Kp.of_below hb5) (by simp)
  have g5g : g5 ≠ g := by have := h.row.lt; omega
  refine WR_val rfl (rn_assign) ?_
  refine WR_nil ?_
  refine thenN ?_
  refine W_seq ?_
  refine W_seq ?_
  refine W_region ?_
  refine WR_val rfl (rn_move) ?_
  refine WR_val rfl (rn_move) ?_
  refine WR_ent rfl (rn_call (by kernel_rfl) rfl) (ha) ?_
  rintro _ _ ⟨rfl, rfl⟩
  refine WR_val rfl (rn_assign) ?_
  refine WR_nil ?_
  refine thenN ?_
  refine W_seq ?_
  refine W_region ?_
  refine WR_val rfl (rn_move) ?_
  refine WR_val rfl (rn_neq rfl rfl) ?_
  refine WR_nil ?_
  refine thenN ?_
  refine W_fp rfl ((by simp)) ?_
  refine W_skip ?_
  refine thenN ?_
  refine W_seq ?_
  refine W_seq ?_
  refine W_region ?_
  refine WR_val rfl (rn_move) ?_
  refine WR_ent rfl (rn_call (by kernel_rfl) rfl) (hst) ?_
  rintro _ w16 ⟨rfl, ⟨st1, h1⟩, hb16⟩
  replace hK := hK.only hb16 (by simp)
  replace hr5 := hr5.only hb16 (by omega)
  have ho6 := (ho5.kpd (Kp.of_only hb16) (fun b hb => by simpa using (h.ne.2.2.2 b hb).1)).alike hV1
  refine WR_val rfl (rn_assign) ?_
  refine WR_nil ?_
  refine thenN ?_
  refine W_seq ?_
  refine W_region ?_
  refine WR_val rfl (rn_move) ?_
  refine WR_val rfl (rn_neq rfl rfl) ?_
  refine WR_nil ?_
  refine thenN ?_
  refine W_ifp rfl (fun hne => ?_) (fun hne => ?_)
  ·
    refine W_seq ?_
    refine W_region ?_
    refine WR_val rfl (rn_move) ?_
    refine WR_val rfl (rn_assign) ?_
    refine WR_nil ?_
    refine thenN ?_
    refine W_ret ?_
    refine thenR ?_
    refine ret_ret [_] ⟨rfl, trivial⟩ ?_
    have hk0 : ok = false := by cases ok with | false => rfl | true => simp at hne
    refine ⟨by rw [hk0]; rfl, ⟨st1, G, sv, by rw [hk0]; exact h1, by rw [hk0]; exact ho6, fun b hb => .inl hb⟩, hK.k⟩
  ·
    have hk1 : ok = true := by cases ok with | true => rfl | false => simp at hne
    have hr := h1.row
    have hmap := h1.map
    have hn8 := h1.ok.n
    rw [hk1, if_pos rfl, if_pos rfl]
    have hi1 : i < D1.V.length := by rw [hV1]; exact hi
    have hobt := DkO.look h1 ho6 i hi1
    obtain ⟨p, c, hlk, hown, hpG, hsep⟩ := hobt
    have hobt : ∃ ob, (Value.slice p ((ver D1 i).length - 1) c).ownBlock = ob := ⟨_, rfl⟩
    obtain ⟨ob, hob⟩ := hobt
    have hne := h.ne
    clear hver
    rw [hob] at hpG hsep
    have hx1 : ∀ b, b ∉ G → ob ≠ some b := fun b hb e => hb (hpG b e)
    have hx2 := hx1 g fun hg => (hne.2.2.2 g hg).1 rfl
    have hx3 := hx1 m fun hg => (hne.2.2.2 m hg).2.2 rfl
    have hx4 := hx1 pl fun hg => (hne.2.2.2 pl hg).2.1 rfl
    have hx5 := hx1 g5 fun hg => by have := h.inG g5 hg; omega
    have hx6 : g5 ≠ m := by have := h.map.lt; omega
    have hx7 : g ≠ m := hne.2.1
    have hx8 : pl ≠ m := hne.2.2.1
    have hvp := List.length_pos_iff.2 (ver_ok h1.ok hi1).1
    have hX0 : DkM w16 g pl m G D1 ol cl st1 fu sv := h1
    have hKx := KpB.refl (m :: ob.toList) w16
    have hK16 := hK
    refine W_skip ?_
    refine thenN ?_
    refine W_seq ?_
    refine W_draw' (m :: (Value.slice p ((ver D1 i).length - 1) c).ownBlock.toList) (by kernel_rfl) ?_
    intro w901 hb901 hS901
    replace hK := hK.new hb901
    replace hr5 := hr5.new hb901
    replace hr := hr.new hb901
    replace hmap := hmap.new hb901
    replace hKx := hKx.new hb901
    replace hown := hown.new hb901
    have hK_d901 := hK
    have hr5_d901 := hr5
    have hr_d901 := hr
    have hmap_d901 := hmap
    have hKx_d901 := hKx
    have hown_d901 := hown
    refine WA_take 0 (by kernel_rfl) rfl (fun _ _ => rn_move) ?_
    refine WA_take 1 (by kernel_rfl) rfl (fun _ _ => rn_nilCheckP rfl) ?_
    refine WA_take 2 (by kernel_rfl) rfl (fun _ _ => rn_fieldAddr (off := 1) (by kernel_rfl) rfl) ?_
    refine WA_take 3 (by kernel_rfl) rfl (fun w' hS' => rn_load rfl (Ld.row1 (hr_d901.kpd hS' (by first | (simp; done) | (simp; omega) | (simp [*]; done) | exact notLL (Or.inl (by omega)) | exact notLL (Or.inr (by simp)) | exact fun g hm => Nat.le_trans (by omega) (inLL hm).1 | (intro b o e; cases e; exact notLL (Or.inl (by omega))))) (by kernel_rfl) rfl)) ?_
    refine WA_take 4 (by kernel_rfl) rfl (fun _ _ => rn_move) ?_
    refine WA_take 5 (by kernel_rfl) rfl (fun _ _ => rn_move) ?_
    refine WA_take 6 (by kernel_rfl) rfl (fun _ _ => rn_nilCheckP rfl) ?_
    refine WA_take 7 (by kernel_rfl) rfl (fun _ _ => rn_fieldAddr (off := 1) (by kernel_rfl) rfl) ?_
    refine WA_take 8 (by kernel_rfl) rfl (fun w' hS' => rn_load rfl (Ld.row1 (hr_d901.kpd hS' (by first | (simp; done) | (simp; omega) | (simp [*]; done) | exact notLL (Or.inl (by omega)) | exact notLL (Or.inr (by simp)) | exact fun g hm => Nat.le_trans (by omega) (inLL hm).1 | (intro b o e; cases e; exact notLL (Or.inl (by omega))))) (by kernel_rfl) rfl)) ?_
    refine WA_take 9 (by kernel_rfl) rfl (fun _ _ => rn_move) ?_
    refine WA_take 11 (by kernel_rfl) rfl (fun w' hS' => rn_load rfl (Ld.rowA (k := 128) (hr5_d901.kpd hS' (by first | (simp; done) | (simp; omega) | (simp [*]; done) | exact notLL (Or.inl (by omega)) | exact notLL (Or.inr (by simp)) | exact fun g hm => Nat.le_trans (by omega) (inLL hm).1 | (intro b o e; cases e; exact notLL (Or.inl (by omega))))) (by kernel_rfl) (by kernel_rfl) (by first | (simp; done) | (simp [bv_length, *]; done) | assumption))) ?_
    refine WA_two 10 12 (by kernel_rfl) ?_ ?_
    ·
      refine WO_val rfl rfl (rn_lookupV (k := 3) (e := 52) (.slice none 0 0) (by kernel_rfl) (by kernel_rfl) (by intro w; first | kernel_rfl | rfl) hmap rfl rfl (i) (by first | rfl | omega) (by omega) (by omega) hlk) hS901 ?_
      refine WA_one 12 (by kernel_rfl) ?_
      refine WO_mk rfl rfl (mk_one (e := 34) (.agg (bv s).toArray) (bv s) (List.replicate 128 (Value.int .u8 0)) 128 (by kernel_rfl) (by kernel_rfl) rfl rfl (by first | rfl | (simp; done) | (simp [bv_length, *]; done)) ⟨by decide, by decide⟩ (fun g32 w32 hg32 hr32 hb32 => ?_))
      have hS903 := hS901.add0 hb32
      refine ⟨hS903, ?_⟩
      have ge_hS901_g32 := Nat.le_trans hS901.size hg32
      have lt_g5_g32 : g5 < g32 := Nat.lt_of_lt_of_le hr5.lt hg32
      have lt_g_g32 : g < g32 := Nat.lt_of_lt_of_le hr.lt hg32
      have lt_m_g32 : m < g32 := Nat.lt_of_lt_of_le hmap.lt hg32
      replace hK := hK.new hb32
      replace hr5 := hr5.new hb32
      replace hr := hr.new hb32
      replace hmap := hmap.new hb32
      replace hKx := hKx.new hb32
      replace hown := hown.new hb32
      refine WA_one 13 (by kernel_rfl) ?_
      have hs32 := hr32.slA (m := 1) (sz := 128) hsl (by omega)
      refine WO_mk rfl rfl (mk_append (e := 34) (sz := 128) (bytes := 128) (z := .agg (List.replicate 128 (Value.int .u8 0)).toArray) (by kernel_rfl) rfl (by kernel_rfl) rfl (by decide) rfl hown rfl hs32 (bv_one _) (by unfold maxLen; omega) (by omega) (fun hm0 => by omega) (fun v33 w33 hv33 hgr33 hfr33 => ?_))
      have hS904 := hS903.ownS hown hgr33 (by first | (left; omega) | exact Or.inr (fun _ h => h) | exact Or.inr (fun _ h => List.mem_cons_of_mem _ h))
      refine ⟨hS904, ?_⟩
      have kG : Kp ob.toList w32 w33 := by rw [← hob]; exact Kp.of_grown hgr33
      have hfr : ∀ b, v33.ownBlock = some b → ob = some b ∨ w32.heap.size ≤ b := by rw [← hob]; exact hfr33
      replace hmap := hmap.kpd kG (by simpa using hx3)
      replace hKx := hKx.kpd kG (fun g' hg' => .inl (List.mem_cons_of_mem _ hg'))
      refine WA_one 14 (by kernel_rfl) ?_
      refine WO_sk rfl rfl (sk_mapUpd (k := 3) (e := 52) (_) (by kernel_rfl) (by kernel_rfl) hmap rfl rfl rfl (i) (by first | rfl | omega) (by omega) (by omega) (fun w906 hmap ho906 => ?_))
      have hS905 := hS904.add1 ho906 (by first | (left; omega) | (right; simp; done) | (right; simp; omega))
      refine ⟨hS905, ?_⟩
      replace hKx := hKx.only ho906 (by simp)
      refine WA_done (by kernel_rfl) ?_
      refine thenN ?_
      refine W_seq ?_
      refine W_region ?_
      refine WR_val rfl (rn_assign) ?_
      refine WR_nil ?_
      refine thenN ?_
      refine W_ret ?_
      refine ret_ret [_] ⟨rfl, trivial⟩ ?_
      have hmw := h1.map.lt
      have hszx := Nat.le_trans hb901.size hb32.size
      have hva : ∀ b, v33.ownBlock = some b → b ∈ G ∨ w16.heap.size ≤ b := fun b e => (hfr b e).imp (hpG b) (fun hh => Nat.le_trans hszx hh)
      have hv34 := hv33.kpd (Kp.of_only ho906) (fun b hb e => by
        have h1 : b = m := by simpa using hb
        rcases hva b e with h2 | h2
        · exact (hne.2.2.2 b h2).2.2 h1
        · omega)
      obtain ⟨p33, c33, hp33⟩ := hv34.form
      have hobt := dk_wrote (s := s) h1 ho6 hi1 hs hsh hKx.k hmap hp33 hv34 hpG hsep (fun b e => (hfr b e).imp id (fun hh => Nat.le_trans hszx hh))
      obtain ⟨G', sv', f1, f2, f3⟩ := hobt
      refine ⟨rfl, ⟨st1, G', sv', f1, f2, fun b hb => (f3 b hb).imp id fun hh => ?_⟩, ?_⟩
      · have e1 := hb5.size
        have e2 := (Kp.of_only hb16).size
        omega
      · refine (hK16.kpd hKx.k fun b hb => .inl ?_).k
        rcases List.mem_cons.1 hb with hb | hb
        · rw [hb]; simp
        · exact List.mem_append_right _ (hpG b (Option.mem_toList.1 hb))
    ·
      refine WO_mk rfl rfl (mk_one (e := 34) (.agg (bv s).toArray) (bv s) (List.replicate 128 (Value.int .u8 0)) 128 (by kernel_rfl) (by kernel_rfl) rfl rfl (by first | rfl | (simp; done) | (simp [bv_length, *]; done)) ⟨by decide, by decide⟩ (fun g32 w32 hg32 hr32 hb32 => ?_))
      have hS907 := hS901.add0 hb32
      refine ⟨hS907, ?_⟩
      have ge_hS901_g32 := Nat.le_trans hS901.size hg32
      have lt_g5_g32 : g5 < g32 := Nat.lt_of_lt_of_le hr5.lt hg32
      have lt_g_g32 : g < g32 := Nat.lt_of_lt_of_le hr.lt hg32
      have lt_m_g32 : m < g32 := Nat.lt_of_lt_of_le hmap.lt hg32
      replace hK := hK.new hb32
      replace hr5 := hr5.new hb32
      replace hr := hr.new hb32
      replace hmap := hmap.new hb32
      replace hKx := hKx.new hb32
      replace hown := hown.new hb32
      refine WA_one 10 (by kernel_rfl) ?_
      refine WO_val rfl rfl (rn_lookupV (k := 3) (e := 52) (.slice none 0 0) (by kernel_rfl) (by kernel_rfl) (by intro w; first | kernel_rfl | rfl) hmap rfl rfl (i) (by first | rfl | omega) (by omega) (by omega) hlk) hS907 ?_
      refine WA_one 13 (by kernel_rfl) ?_
      have hs32 := hr32.slA (m := 1) (sz := 128) hsl (by omega)
      refine WO_mk rfl rfl (mk_append (e := 34) (sz := 128) (bytes := 128) (z := .agg (List.replicate 128 (Value.int .u8 0)).toArray) (by kernel_rfl) rfl (by kernel_rfl) rfl (by decide) rfl hown rfl hs32 (bv_one _) (by unfold maxLen; omega) (by omega) (fun hm0 => by omega) (fun v33 w33 hv33 hgr33 hfr33 => ?_))
      have hS909 := hS907.ownS hown hgr33 (by first | (left; omega) | exact Or.inr (fun _ h => h) | exact Or.inr (fun _ h => List.mem_cons_of_mem _ h))
      refine ⟨hS909, ?_⟩
      have kG : Kp ob.toList w32 w33 := by rw [← hob]; exact Kp.of_grown hgr33
      have hfr : ∀ b, v33.ownBlock = some b → ob = some b ∨ w32.heap.size ≤ b := by rw [← hob]; exact hfr33
      replace hmap := hmap.kpd kG (by simpa using hx3)
      replace hKx := hKx.kpd kG (fun g' hg' => .inl (List.mem_cons_of_mem _ hg'))
      refine WA_one 14 (by kernel_rfl) ?_
      refine WO_sk rfl rfl (sk_mapUpd (k := 3) (e := 52) (_) (by kernel_rfl) (by kernel_rfl) hmap rfl rfl rfl (i) (by first | rfl | omega) (by omega) (by omega) (fun w911 hmap ho911 => ?_))
      have hS910 := hS909.add1 ho911 (by first | (left; omega) | (right; simp; done) | (right; simp; omega))
      refine ⟨hS910, ?_⟩
      replace hKx := hKx.only ho911 (by simp)
      refine WA_done (by kernel_rfl) ?_
      refine thenN ?_
      refine W_seq ?_
      refine W_region ?_
      refine WR_val rfl (rn_assign) ?_
      refine WR_nil ?_
      refine thenN ?_
      refine W_ret ?_
      refine ret_ret [_] ⟨rfl, trivial⟩ ?_
      have hmw := h1.map.lt
      have hszx := Nat.le_trans hb901.size hb32.size
      have hva : ∀ b, v33.ownBlock = some b → b ∈ G ∨ w16.heap.size ≤ b := fun b e => (hfr b e).imp (hpG b) (fun hh => Nat.le_trans hszx hh)
      have hv34 := hv33.kpd (Kp.of_only ho911) (fun b hb e => by
        have h1 : b = m := by simpa using hb
        rcases hva b e with h2 | h2
        · exact (hne.2.2.2 b h2).2.2 h1
        · omega)
      obtain ⟨p33, c33, hp33⟩ := hv34.form
      have hobt := dk_wrote (s := s) h1 ho6 hi1 hs hsh hKx.k hmap hp33 hv34 hpG hsep (fun b e => (hfr b e).imp id (fun hh => Nat.le_trans hszx hh))
      obtain ⟨G', sv', f1, f2, f3⟩ := hobt
      refine ⟨rfl, ⟨st1, G', sv', f1, f2, fun b hb => (f3 b hb).imp id fun hh => ?_⟩, ?_⟩
      · have e1 := hb5.size
        have e2 := (Kp.of_only hb16).size
        omega
      · refine (hK16.kpd hKx.k fun b hb => .inl ?_).k
        rcases List.mem_cons.1 hb with hb | hb
        · rw [hb]; simp
        · exact List.mem_append_right _ (hpG b (Option.mem_toList.1 hb))
/-- Write, where there is no such sector. -/
theorem write17b {w : World} {g pl m : Nat} {G : List Nat} {D : Dk} {ol cl : Nat} {st : Int} {fu : Bool} {sv : Nat → Value} (h : DkM w g pl m G D ol cl st fu sv) (i : Int) (s : Sec) (hi : ¬ (0 ≤ i ∧ i < D.V.length)) (hs : s.length = 128) :
    Calls Try.prog 17 [.pointer (some ⟨g, 0, none⟩), .int .i64 i, .agg (bv s).toArray].toArray w
      (Ret fun v w' => v = .int .i64 2 ∧ Below w.heap.size w w') := by
  have hB := Below.refl w.heap.size w
  have hsl : (bv s).length = 128 := by rw [bv_length]; exact hs
  refine calls_W (fn := Try.f17) (rs := [.tmp 6]) (n := 34) Try.func17 rfl rfl Try.ntmps17 (by kernel_rfl) rfl ?_
  refine W_seq ?_
  refine W_region ?_
  refine WR_mk rfl (mk_box ((bv s)) rfl (fun g5 w5 hg5 hr5 hb5 => ?_))
  have ge_hB_g5 := Nat.le_trans hB.size hg5
  replace hB := hB.acc hb5
  have h5 := h.new hb5
  have ha := at39 h5 i
  rw [if_neg hi] at ha
  refine WR_val rfl (rn_assign) ?_
  refine WR_nil ?_
  refine thenN ?_
  refine W_seq ?_
  refine W_seq ?_
  refine W_region ?_
  refine WR_val rfl (rn_move) ?_
  refine WR_val rfl (rn_move) ?_
  refine WR_ent rfl (rn_call (by kernel_rfl) rfl) (ha) ?_
  rintro _ _ ⟨rfl, rfl⟩
  refine WR_val rfl (rn_assign) ?_
  refine WR_nil ?_
  refine thenN ?_
  refine W_seq ?_
  refine W_region ?_
  refine WR_val rfl (rn_move) ?_
  refine WR_val rfl (rn_neq rfl rfl) ?_
  refine WR_nil ?_
  refine thenN ?_
  refine W_tp rfl ((by simp)) ?_
  refine W_seq ?_
  refine W_region ?_
  refine WR_val rfl (rn_move) ?_
  refine WR_val rfl (rn_assign) ?_
  refine WR_nil ?_
  refine thenN ?_
  refine W_ret ?_
  refine thenR ?_
  refine ret_ret [_] ⟨rfl, trivial⟩ ?_
  exact ⟨rfl, hB⟩
end Go.Proofs.Ytpndhildmfmcgaa
