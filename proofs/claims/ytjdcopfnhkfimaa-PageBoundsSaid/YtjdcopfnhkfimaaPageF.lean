/- What is read off a page that has something. -/
import Derived.Test.YtjdcopfnhkfimaaPageE
namespace Go.Proofs.Ytjdcopfnhkfimaa
open Go Go.RowKit Coup

/-! ### Numbers of two bytes in a page -/
def At2 (L : List UInt8) (i m : Nat) : Prop := m < 65536 ∧ i + 2 ≤ L.length ∧ (L.drop i).take 2 = be2 m
theorem take2 {L : List UInt8} {i : Nat} {a b : UInt8} (ha : L[i]? = some a) (hb : L[i + 1]? = some b) : (L.drop i).take 2 = [a, b] := by
  apply List.ext_getElem?
  intro j
  rcases j with _ | _ | j
  · simp [List.getElem?_take, ha]
  · simp [List.getElem?_take, hb]
  · simp [List.getElem?_take]; omega
theorem At2.of {L : List UInt8} {i m : Nat} {a b : UInt8} (hm : m < 65536) (ha : L[i]? = some a) (hb : L[i + 1]? = some b) (h : [a, b] = be2 m) : At2 L i m :=
  ⟨hm, by have := (List.getElem?_eq_some_iff.1 hb).1; omega, by rw [take2 ha hb, h]⟩
theorem At2.fst {L : List UInt8} {i m : Nat} (h : At2 L i m) : L[i]? = some (u8 (m / 256)) := by
  have := congrArg (·[0]?) h.2.2
  simpa [List.getElem?_take, be2] using this
theorem At2.snd {L : List UInt8} {i m : Nat} (h : At2 L i m) : L[i + 1]? = some (u8 (m % 256)) := by
  have := congrArg (·[1]?) h.2.2
  simpa [List.getElem?_take, be2] using this
theorem At2.num {m : Nat} (h : m < 65536) : 256 * ((u8 (m / 256)).toNat : Int) + ((u8 (m % 256)).toNat : Int) = (m : Int) := by
  rw [u8_nat (by omega), u8_nat (by omega)]; omega
theorem getB (V : View) (hz : sizeV V ≤ 512) (i : Nat) (h : i < 12) : (bytesV V)[i]? = (frontB V (be2 (512 - lenS V.slots)))[i]? := get_front rfl h
theorem at_kind (V : View) (hz : sizeV V ≤ 512) : (bytesV V)[0]? = some (u8 V.kind) := getB V hz 0 (by omega)
theorem at_many (V : View) (hz : sizeV V ≤ 512) : At2 (bytesV V) 2 V.slots.length := by
  unfold sizeV at hz
  exact At2.of (by omega) (getB V hz 2 (by omega)) (getB V hz 3 (by omega)) rfl
theorem at_hi (V : View) (hz : sizeV V ≤ 512) (hn : V.next < 2147483648) : At2 (bytesV V) 8 (V.next / 65536) := by
  refine At2.of (by omega) (getB V hz 8 (by omega)) (getB V hz 9 (by omega)) ?_
  rw [be2, Nat.div_div_eq_div_mul]
theorem at_lo (V : View) (hz : sizeV V ≤ 512) : At2 (bytesV V) 10 (V.next % 65536) := by
  refine At2.of (by omega) (getB V hz 10 (by omega)) (getB V hz 11 (by omega)) ?_
  rw [be2]
  congr 3 <;> omega
def fromS (S : List (Option (List UInt8))) (i : Nat) : Option (List UInt8) → Nat
  | none => 0
  | some r => 512 - lenS (S.take i) - r.length
theorem slots_split {S : List (Option (List UInt8))} {i : Nat} {s : Option (List UInt8)} (hs : S[i]? = some s) : S = S.take i ++ s :: S.drop (i + 1) := by
  obtain ⟨hl, he⟩ := List.getElem?_eq_some_iff.1 hs
  conv => lhs; rw [← List.take_append_drop i S, List.drop_eq_getElem_cons hl, he]
theorem at_ent (V : View) {i : Nat} {s : Option (List UInt8)} (hs : V.slots[i]? = some s) (k : Nat) (hk : k < 4) : (bytesV V)[12 + 4 * i + k]? = (ent (512 - lenS (V.slots.take i)) s)[k]? := by
  have hl := (List.getElem?_eq_some_iff.1 hs).1
  have := get_ent V (be2 (512 - lenS V.slots)) rfl (V.slots.take i) (V.slots.drop (i + 1)) s k hk
  rw [← slots_split hs, List.length_take, Nat.min_eq_left (by omega)] at this
  exact this
theorem at_from (V : View) {i : Nat} {s : Option (List UInt8)} (hs : V.slots[i]? = some s) : At2 (bytesV V) (12 + 4 * i) (fromS V.slots i s) := by
  have h0 := at_ent V hs 0 (by omega)
  have h1 := at_ent V hs 1 (by omega)
  cases s with
  | none => exact At2.of (a := 0) (b := 0) (by simp [fromS]) h0 h1 (show [0, 0] = be2 0 by decide)
  | some r => exact At2.of (a := u8 ((512 - lenS (V.slots.take i) - r.length) / 256)) (b := u8 ((512 - lenS (V.slots.take i) - r.length) % 256)) (by simp only [fromS]; omega) h0 h1 rfl
theorem at_long (V : View) (hz : sizeV V ≤ 512) {i : Nat} {s : Option (List UInt8)} (hs : V.slots[i]? = some s) : At2 (bytesV V) (12 + 4 * i + 2) (bod s).length := by
  have h0 := at_ent V hs 2 (by omega)
  have h1 := at_ent V hs 3 (by omega)
  have h2 := lenS_snoc hs
  have h3 := lenS_take V.slots (i + 1)
  unfold sizeV at hz
  cases s with
  | none => exact At2.of (by simp [bod]) h0 h1 rfl
  | some r => exact At2.of (by omega) h0 h1 rfl
theorem at_rec (V : View) (hz : sizeV V ≤ 512) {i : Nat} {r : List UInt8} (hs : V.slots[i]? = some (some r)) : ((bytesV V).drop (fromS V.slots i (some r))).take r.length = r := by
  have := get_rec V (be2 (512 - lenS V.slots)) rfl (V.slots.take i) (V.slots.drop (i + 1)) r (by rw [← slots_split hs]; exact hz)
  rw [← slots_split hs] at this
  exact this
theorem bytesV_len (V : View) (hz : sizeV V ≤ 512) : (bytesV V).length = 512 := partB_len rfl hz
theorem two35' (L : List UInt8) (g t o i m n c : Nat) (w : World) (h : row w g (bv L) t) (h2 : At2 L i m) (ho : o = i) (hn : n = 2) : Calls Try.prog 35 [.slice (some ⟨g, o, none⟩) n c].toArray w (Ret fun v w' => v = .int .i64 (m : Int) ∧ Below w.heap.size w w') := by
  subst hn ho
  have hs := h.slB o 2 h2.2.1 (by unfold maxLen; omega)
  rw [h2.2.2, be2] at hs
  have := two35 (some ⟨g, o, none⟩) 2 c _ _ w rfl hs
  rw [At2.num h2.1] at this
  exact this
/-! ### Slots that grow -/
namespace SltsAt
variable {w w' : World} {lo : Nat} {o : List Nat} {vs : List Value} {S : List (Option (List UInt8))}
theorem grow {v : Value} {o' : List Nat} (h : SltsAt w lo o vs S) (hg : w.grownBy w' v.ownBlock) (hv : ∀ g, v.ownBlock = some g → g ∈ o ∨ g < lo) (hf : ∀ g, g ∈ o' → g ∈ o ∨ w.heap.size ≤ g ∨ g < lo) : SltsAt w' lo o' vs S :=
  have h1 : SltsAt w lo (o' ++ o) vs S := h.avoid fun g hm => (List.mem_append.1 hm).elim (fun e => hf g e) Or.inl
  (h1.kp (Kp.of_grown hg) fun g hm => (hv g (Option.mem_toList.1 hm)).elim (fun e => Or.inr (Or.inl (List.mem_append_right _ e))) fun e => Or.inr (Or.inr e)).avoid fun g hm => Or.inl (List.mem_append_left _ hm)
theorem growV {v v' : Value} (h : SltsAt w lo v.ownBlock.toList vs S) (hg : w.grownBy w' v.ownBlock) (hf : ∀ g, v'.ownBlock = some g → v.ownBlock = some g ∨ w.heap.size ≤ g) : SltsAt w' lo v'.ownBlock.toList vs S :=
  h.grow hg (fun g e => Or.inl (Option.mem_toList.2 e)) fun g hm => (hf g (Option.mem_toList.1 hm)).elim (fun e => Or.inl (Option.mem_toList.2 e)) fun e => Or.inr (Or.inl e)
theorem growL {v v' : Value} {L : List Nat} (h : SltsAt w lo (v.ownBlock.toList ++ L) vs S) (hg : w.grownBy w' v.ownBlock) (hf : ∀ g, v'.ownBlock = some g → v.ownBlock = some g ∨ w.heap.size ≤ g) : SltsAt w' lo (v'.ownBlock.toList ++ L) vs S :=
  h.grow hg (fun g e => Or.inl (List.mem_append_left _ (Option.mem_toList.2 e))) fun g hm => (List.mem_append.1 hm).elim
    (fun e => (hf g (Option.mem_toList.1 e)).elim (fun e => Or.inl (List.mem_append_left _ (Option.mem_toList.2 e))) fun e => Or.inr (Or.inl e)) fun e => Or.inl (List.mem_append_right _ e)
theorem mono {lo' : Nat} (h : SltsAt w lo o vs S) (hl : lo' ≤ lo) : SltsAt w lo' o vs S := ⟨h.len, h.no, fun i r hr => by
  obtain ⟨b, off, c, h1, h2, h3, h4, h5⟩ := h.yes i r hr
  exact ⟨b, off, c, h1, h2, h3, h4, by omega⟩⟩
theorem snocN (h : SltsAt w lo o vs S) : SltsAt w lo o (vs ++ [.slice none 0 0]) (S ++ [none]) := by
  have hl := h.len
  refine ⟨by simp [hl], fun i hi => ?_, fun i r hi => ?_⟩
  · rcases Nat.lt_or_ge i S.length with h1 | h1
    · rw [List.getElem?_append_left h1] at hi
      rw [List.getElem?_append_left (by omega)]; exact h.no i hi
    · rw [List.getElem?_append_right h1] at hi
      rw [List.getElem?_append_right (by omega), hl]
      rcases Nat.eq_zero_or_pos (i - S.length) with h2 | h2
      · rw [h2]; rfl
      · rw [List.getElem?_eq_none (by simp; omega)] at hi; cases hi
  · rcases Nat.lt_or_ge i S.length with h1 | h1
    · rw [List.getElem?_append_left h1] at hi
      rw [List.getElem?_append_left (by omega)]; exact h.yes i r hi
    · rw [List.getElem?_append_right h1] at hi
      rcases Nat.eq_zero_or_pos (i - S.length) with h2 | h2
      · rw [h2] at hi; cases hi
      · rw [List.getElem?_eq_none (by simp; omega)] at hi; cases hi
theorem snocS {b off c : Nat} {r : List UInt8} (h : SltsAt w lo o vs S) (h2 : SlAt w (some ⟨b, off, none⟩) r.length 1 (bv r)) (h3 : b < w.heap.size) (h4 : b ∉ o) (h5 : lo ≤ b) : SltsAt w lo o (vs ++ [.slice (some ⟨b, off, none⟩) r.length c]) (S ++ [some r]) := by
  have hl := h.len
  refine ⟨by simp [hl], fun i hi => ?_, fun i r' hi => ?_⟩
  · rcases Nat.lt_or_ge i S.length with h1 | h1
    · rw [List.getElem?_append_left h1] at hi
      rw [List.getElem?_append_left (by omega)]; exact h.no i hi
    · rw [List.getElem?_append_right h1] at hi
      rcases Nat.eq_zero_or_pos (i - S.length) with h2 | h2
      · rw [h2] at hi; cases hi
      · rw [List.getElem?_eq_none (by simp; omega)] at hi; cases hi
  · rcases Nat.lt_or_ge i S.length with h1 | h1
    · rw [List.getElem?_append_left h1] at hi
      rw [List.getElem?_append_left (by omega)]; exact h.yes i r' hi
    · rw [List.getElem?_append_right h1] at hi
      rcases Nat.eq_zero_or_pos (i - S.length) with h6 | h6
      · rw [h6] at hi
        cases hi
        rw [List.getElem?_append_right (by omega), hl, h6]
        exact ⟨b, off, c, rfl, h2, h3, h4, h5⟩
      · rw [List.getElem?_eq_none (by simp; omega)] at hi; cases hi
end SltsAt
theorem ownsAt.onlyN {w w' : World} {base e sz m g : Nat} {v : Value} {xs : List Value} (h : ownsAt w base e sz v m xs) (ho : Only g w w') (hg : v.ownBlock ≠ some g) : ownsAt w' base e sz v m xs :=
  Coup.ownsAt.kpd h (Kp.of_only ho) fun g' hm e => by
    have : g' = g := by simpa using hm
    subst this
    exact hg e
/-- A view's slots in memory, all its own. -/
def OwV (w : World) (lo : Nat) (p : Option Addr) (n c : Nat) (vs : List Value) (S : List (Option (List UInt8))) : Prop :=
  ownsAt w lo 29 1 (.slice p n c) n vs ∧ SltsAt w lo (Value.ownBlock (.slice p n c)).toList vs S
def viewV (V : View) (p : Option Addr) (n c : Nat) : Value := .agg #[.int .i64 (V.kind : Int), .int .i64 (V.next : Int), .slice p n c]
set_option maxHeartbeats 2000000 in
theorem read22 (V : View) (w : World) (hV : Good V) :
    Calls Try.prog 22 [.agg (bv (bytesV V)).toArray].toArray w (Ret fun v w' => ∃ p c vs, v = .tuple #[viewV V p V.slots.length c, .bool true] ∧ OwV w' w.heap.size p V.slots.length c vs V.slots ∧ Below w.heap.size w w') := by
  have hB := Below.refl w.heap.size w
  have hml : maxLen = 9223372036854775807 := by decide
  have hz := hV.size
  have hbl := bytesV_len V hz
  have hk0 := at_kind V hz
  have hm2 := at_many V hz
  have hh8 := at_hi V hz hV.next
  have hl10 := at_lo V hz
  have hkd := hV.kind
  have hnx := hV.next
  have hz2 := hz
  unfold sizeV at hz2
  obtain ⟨Q, hQ⟩ : ∃ Q, bytesV V = Q := ⟨_, rfl⟩
  rw [hQ] at hbl hk0 hm2 hh8 hl10 ⊢
  obtain ⟨S, hS⟩ : ∃ S, V.slots = S := ⟨_, rfl⟩
  obtain ⟨n, hn⟩ : ∃ n, V.slots.length = n := ⟨_, rfl⟩
  have hnS : n = S.length := by rw [← hn, hS]
  rw [hn] at hm2 hz2 ⊢
  refine calls_W (fn := Try.f22) (rs := [.cell 2 48, .tmp 3]) (n := 116) Try.func22 rfl rfl Try.ntmps22 (by kernel_rfl) rfl ?_
  refine W_seq ?_
  refine W_region ?_
  refine WR_mk rfl (mk_box ((bv Q)) rfl (fun g1 w1 hg1 hr1 hb1 => ?_))
  have ge_hB_g1 := Nat.le_trans hB.size hg1
  replace hB := hB.acc hb1
  refine WR_mk rfl (mk_alloc ([Value.int .i64 0, Value.int .i64 0, Value.slice none 0 0]) (by kernel_rfl) (fun g2 w2 hg2 hr2 hb2 => ?_))
  have ge_hB_g2 := Nat.le_trans hB.size hg2
  have lt_g1_g2 : g1 < g2 := Nat.lt_of_lt_of_le hr1.lt hg2
  replace hr1 := hr1.new hb2
  replace hB := hB.acc hb2
  refine WR_val rfl (rn_assign) ?_
  refine WR_nil ?_
  refine thenN ?_
  refine W_seq ?_
  refine W_region ?_
  refine WR_val rfl (rn_indexAr1 (e := 5) (m := 512) (by kernel_rfl) rfl rfl (0) rfl (by omega)) ?_
  refine WR_val rfl (rn_load rfl (Ld.row1 hr1 (by kernel_rfl) (show (bv Q)[0]? = some (.int .u8 ((u8 V.kind).toNat : Int)) by rw [bv, List.getElem?_map, hk0]; rfl))) ?_
  refine WR_val rfl (rn_conv (k := .i64) (by kernel_rfl) (by kernel_rfl) rfl (show IntKind.i64.wrap ((u8 V.kind).toNat : Int) = (V.kind : Int) by rw [u8_nat (by omega)]; exact w64 (by omega))) ?_
  refine WR_val rfl (rn_fieldAddr (off := 0) (by kernel_rfl) rfl) ?_
  refine WR_sk rfl (sk_store1 rfl rfl rfl rfl hr2 (by kernel_rfl) (by first | (simp only [List.length_replicate]; omega) | (simp only [iv_length]; omega) | (simp only [bv_length, List.length_set]; omega) | simp) (fun w901 hr2 ho901 => ?_))
  replace hr1 := hr1.only ho901 (Nat.ne_of_lt lt_g1_g2)
  replace hB := ho901.below hB ge_hB_g2
  refine WR_nil ?_
  refine thenN ?_
  refine W_seq ?_
  refine W_draw' [g2] (by kernel_rfl) ?_
  intro w902 hb902 hS902
  replace hr1 := hr1.new hb902
  replace hr2 := hr2.new hb902
  replace hB := hB.acc hb902
  have hr1_d902 := hr1
  have hr2_d902 := hr2
  have hB_d902 := hB
  refine WA_take 0 (by kernel_rfl) rfl (fun _ _ => rn_sliceAr1' (e := 5) (n := 512) (8) (10) (512) (2) (by kernel_rfl) rfl ⟨_, _, rfl, rfl⟩ ⟨_, _, rfl, rfl⟩ rfl (by simp) (by omega) (by omega) (by omega) (by omega) (by omega)) ?_
  refine WA_take 3 (by kernel_rfl) rfl (fun _ _ => rn_sliceAr1' (e := 5) (n := 512) (10) (12) (512) (2) (by kernel_rfl) rfl ⟨_, _, rfl, rfl⟩ ⟨_, _, rfl, rfl⟩ rfl (by simp) (by omega) (by omega) (by omega) (by omega) (by omega)) ?_
  refine WA_one 1 (by kernel_rfl) ?_
  refine WO_ent rfl rfl (rn_call (by kernel_rfl) rfl) (two35' Q g1 _ _ 8 (V.next / 65536) _ _ w902 hr1 hh8 rfl rfl) ?_
  rintro _ w15 ⟨rfl, hb15⟩
  have hS903 := hS902.add0 hb15
  refine ⟨hS903, ?_⟩
  replace hr1 := hr1.new hb15
  replace hr2 := hr2.new hb15
  replace hB := hB.acc hb15
  refine WA_take 2 (by kernel_rfl) rfl (fun _ _ => rn_shl rfl rfl (by omega) (show IntKind.i64.wrap (((V.next / 65536 : Nat) : Int) * 2 ^ 16) = (65536 * (V.next / 65536) : Nat) by rw [w64 (by omega)]; omega)) ?_
  refine WA_one 4 (by kernel_rfl) ?_
  refine WO_ent rfl rfl (rn_call (by kernel_rfl) rfl) (two35' Q g1 _ _ 10 (V.next % 65536) _ _ w15 hr1 hl10 rfl rfl) ?_
  rintro _ w18 ⟨rfl, hb18⟩
  have hS904 := hS903.add0 hb18
  refine ⟨hS904, ?_⟩
  replace hr1 := hr1.new hb18
  replace hr2 := hr2.new hb18
  replace hB := hB.acc hb18
  refine WA_take 5 (by kernel_rfl) rfl (fun _ _ => rn_or rfl rfl (show _ = (V.next : Int) from (orI 16 (V.next / 65536 : Nat) (by omega) (by omega) (by omega) (by omega)).trans (by omega))) ?_
  refine WA_take 6 (by kernel_rfl) rfl (fun _ _ => rn_fieldAddr (off := 1) (by kernel_rfl) rfl) ?_
  refine WA_one 7 (by kernel_rfl) ?_
  refine WO_sk rfl rfl (sk_store1 rfl rfl rfl rfl hr2 (by kernel_rfl) (by first | (simp only [List.length_replicate]; omega) | (simp only [iv_length]; omega) | (simp only [bv_length, List.length_set]; omega) | simp) (fun w906 hr2 ho906 => ?_))
  have hS905 := hS904.add1 ho906 (by first | (left; omega) | (right; simp; done) | (right; simp; omega))
  refine ⟨hS905, ?_⟩
  replace hr1 := hr1.only ho906 (Nat.ne_of_lt lt_g1_g2)
  replace hB := ho906.below hB ge_hB_g2
  refine WA_done (by kernel_rfl) ?_
  refine thenN ?_
  refine W_seq ?_
  refine W_region ?_
  refine WR_val rfl (rn_sliceAr1' (e := 5) (n := 512) (2) (4) (512) (2) (by kernel_rfl) rfl ⟨_, _, rfl, rfl⟩ ⟨_, _, rfl, rfl⟩ rfl (by simp) (by omega) (by omega) (by omega) (by omega) (by omega)) ?_
  refine WR_ent rfl (rn_call (by kernel_rfl) rfl) (two35' Q g1 _ _ 2 n _ _ w906 hr1 hm2 rfl rfl) ?_
  rintro _ w22 ⟨rfl, hb22⟩
  replace hr1 := hr1.new hb22
  replace hr2 := hr2.new hb22
  replace hB := hB.acc hb22
  refine WR_val rfl (rn_assign) ?_
  refine WR_nil ?_
  refine thenN ?_
  refine W_seq ?_
  refine W_seq ?_
  refine W_region ?_
  refine WR_val rfl (rn_fieldAddr (off := 0) (by kernel_rfl) rfl) ?_
  refine WR_val rfl (rn_load rfl (Ld.row1 hr2 (by kernel_rfl) rfl)) ?_
  refine WR_val rfl (rn_gtr rfl rfl) ?_
  refine WR_val rfl (rn_move) ?_
  refine WR_fp 26 rfl ((by omega)) ?_
  refine WR_yes rfl ?_
  refine WR_val rfl (rn_fieldAddr (off := 1) (by kernel_rfl) rfl) ?_
  refine WR_yes rfl ?_
  refine WR_val rfl (rn_load rfl (Ld.row1 hr2 (by kernel_rfl) rfl)) ?_
  refine WR_yes rfl ?_
  refine WR_val rfl (rn_geq rfl rfl) ?_
  refine WR_val rfl (rn_pick_f rfl) ?_
  refine WR_val rfl (rn_move) ?_
  refine WR_fp 31 rfl ((by omega)) ?_
  refine WR_yes rfl ?_
  refine WR_val rfl (rn_move) ?_
  refine WR_yes rfl ?_
  refine WR_val rfl (rn_mul rfl rfl (Coup.w64 (by omega))) ?_
  refine WR_yes rfl ?_
  refine WR_val rfl (rn_add rfl rfl (Coup.w64 (by omega))) ?_
  refine WR_yes rfl ?_
  refine WR_val rfl (rn_gtr rfl rfl) ?_
  refine WR_val rfl (rn_pick_f rfl) ?_
  refine WR_nil ?_
  refine thenN ?_
  refine W_fp rfl ((by omega)) ?_
  refine W_skip ?_
  refine thenN ?_
  refine W_seq ?_
  refine W_seq ?_
  refine W_region ?_
  refine WR_val rfl (rn_move) ?_
  refine WR_val rfl (rn_move) ?_
  refine WR_nil ?_
  refine thenN ?_
  refine W_block ?_
  have hB0 := Below.refl w22.heap.size w22
  obtain ⟨B, hBd⟩ : ∃ B, w22.heap.size = B := ⟨_, rfl⟩
  have hwB : w.heap.size ≤ B := by rw [← hBd]; exact hB.size
  have g1B : g1 < B := by rw [← hBd]; exact hr1.lt
  have g2B : g2 < B := by rw [← hBd]; exact hr2.lt
  refine W_loop (α := Nat × Value × List Value) (0, .slice none 0 0, []) (fun k => [(39, .int .i64 (k.1 : Nat)), (38, .int .i64 (n : Nat)), (4, .int .i64 (n : Nat)), (1, .pointer (some ⟨g1, 0, none⟩)), (2, .pointer (some ⟨g2, 0, none⟩))])
    (fun k w' => k.1 ≤ n ∧ row w' g1 (bv Q) 23 ∧ row w' g2 [.int .i64 (V.kind : Int), .int .i64 (V.next : Int), k.2.1] 48 ∧ ownsAt w' B 29 1 k.2.1 k.1 k.2.2 ∧ SltsAt w' B k.2.1.ownBlock.toList k.2.2 (S.take k.1) ∧ B ≤ w'.heap.size ∧ Below w.heap.size w w') (fun k => n - k.1)
    ⟨rfl, rfl, rfl, rfl, rfl, rfl⟩ ⟨Nat.zero_le _, hr1, hr2, ownsAt_nil _ _ _ _, SltsAt.nil _ _ _, by omega, hB⟩ ?_
  clear hr1 hr2 hB hB0
  rintro ⟨i, v, vs⟩ f wr ⟨hi, hr1, hr2, hv, hsl, hBs, hB⟩
  simp only at hi hr2 hv hsl
  have hvl0 := hv.lt
  have hBsz := hB.size
  have hBr := Below.refl wr.heap.size wr
  refine W_seq ?_
  refine W_region ?_
  refine WR_val rfl (rn_lss rfl rfl) ?_
  refine WR_nil ?_
  refine thenN ?_
  refine W_seq ?_
  refine W_ifp rfl (fun hlt => ?_) (fun hlt => ?_)
  ·
    refine W_skip ?_
    refine thenN ?_
    refine W_seq ?_
    refine W_block ?_
    refine W_seq ?_
    refine W_region ?_
    refine WR_val rfl (rn_move) ?_
    refine WR_val rfl (rn_assign) ?_
    refine WR_nil ?_
    refine thenN ?_
    refine W_seq ?_
    have hobt : ∃ s, S[i]? = some s := ⟨_, List.getElem?_eq_getElem (by omega)⟩
    obtain ⟨s, hsi⟩ := hobt
    have hsV : V.slots[i]? = some s := by rw [hS]; exact hsi
    have hfr := at_from V hsV
    have hlg := at_long V hz hsV
    rw [hQ] at hfr hlg
    rw [hS] at hfr
    have hts : S.take (i + 1) = S.take i ++ [s] := by rw [List.take_add_one, hsi]; rfl
    refine W_region ?_
    refine WR_val rfl (rn_move) ?_
    refine WR_val rfl (rn_mul rfl rfl (Coup.w64 (by omega))) ?_
    refine WR_val rfl (rn_add rfl rfl (Coup.w64 (by omega))) ?_
    refine WR_val rfl (rn_assign) ?_
    refine WR_nil ?_
    refine thenN ?_
    refine W_seq ?_
    refine W_draw' [] (by kernel_rfl) ?_
    intro w907 hb907 hS907
    replace hr1 := hr1.new hb907
    replace hr2 := hr2.new hb907
    replace hv := hv.new hb907
    replace hsl := hsl.new hb907
    replace hB := hB.acc hb907
    replace hBr := hBr.acc hb907
    have hr1_d907 := hr1
    have hr2_d907 := hr2
    have hv_d907 := hv
    have hsl_d907 := hsl
    have hB_d907 := hB
    have hBr_d907 := hBr
    refine WA_take 0 (by kernel_rfl) rfl (fun _ _ => rn_move) ?_
    refine WA_take 1 (by kernel_rfl) rfl (fun _ _ => rn_move) ?_
    refine WA_take 2 (by kernel_rfl) rfl (fun _ _ => rn_add rfl rfl (Coup.w64 (by omega))) ?_
    refine WA_take 3 (by kernel_rfl) rfl (fun _ _ => rn_move) ?_
    refine WA_take 4 (by kernel_rfl) rfl (fun _ _ => rn_add rfl rfl (Coup.w64 (by omega))) ?_
    refine WA_take 5 (by kernel_rfl) rfl (fun _ _ => rn_sliceAr1' (e := 5) (n := 512) (12 + 4 * i) (12 + 4 * i + 2) (12 + 4 * i + 2) (2) (by kernel_rfl) rfl ⟨_, _, rfl, by omega⟩ ⟨_, _, rfl, by omega⟩ ⟨_, _, rfl, by omega⟩ (by simp) (by omega) (by omega) (by omega) (by omega) (by omega)) ?_
    refine WA_take 7 (by kernel_rfl) rfl (fun _ _ => rn_move) ?_
    refine WA_take 8 (by kernel_rfl) rfl (fun _ _ => rn_add rfl rfl (Coup.w64 (by omega))) ?_
    refine WA_take 9 (by kernel_rfl) rfl (fun _ _ => rn_move) ?_
    refine WA_take 10 (by kernel_rfl) rfl (fun _ _ => rn_add rfl rfl (Coup.w64 (by omega))) ?_
    refine WA_take 11 (by kernel_rfl) rfl (fun _ _ => rn_move) ?_
    refine WA_take 12 (by kernel_rfl) rfl (fun _ _ => rn_add rfl rfl (Coup.w64 (by omega))) ?_
    refine WA_take 13 (by kernel_rfl) rfl (fun _ _ => rn_sliceAr1' (e := 5) (n := 512) (12 + 4 * i + 2) (12 + 4 * i + 4) (12 + 4 * i + 4) (2) (by kernel_rfl) rfl ⟨_, _, rfl, by omega⟩ ⟨_, _, rfl, by omega⟩ ⟨_, _, rfl, by omega⟩ (by simp) (by omega) (by omega) (by omega) (by omega) (by omega)) ?_
    refine WA_one 6 (by kernel_rfl) ?_
    refine WO_ent rfl rfl (rn_call (by kernel_rfl) rfl) (two35' Q g1 _ _ (12 + 4 * i) (fromS S i s) _ _ w907 hr1 hfr (Nat.zero_add _) rfl) ?_
    rintro _ w51 ⟨rfl, hb51⟩
    have hS908 := hS907.add0 hb51
    refine ⟨hS908, ?_⟩
    replace hr1 := hr1.new hb51
    replace hr2 := hr2.new hb51
    replace hv := hv.new hb51
    replace hsl := hsl.new hb51
    replace hB := hB.acc hb51
    replace hBr := hBr.acc hb51
    refine WA_one 14 (by kernel_rfl) ?_
    refine WO_ent rfl rfl (rn_call (by kernel_rfl) rfl) (two35' Q g1 _ _ (12 + 4 * i + 2) (bod s).length _ _ w51 hr1 hlg (Nat.zero_add _) rfl) ?_
    rintro _ w59 ⟨rfl, hb59⟩
    have hS909 := hS908.add0 hb59
    refine ⟨hS909, ?_⟩
    replace hr1 := hr1.new hb59
    replace hr2 := hr2.new hb59
    replace hv := hv.new hb59
    replace hsl := hsl.new hb59
    replace hB := hB.acc hb59
    replace hBr := hBr.acc hb59
    refine WA_take 15 (by kernel_rfl) rfl (fun _ _ => rn_assign) ?_
    refine WA_take 16 (by kernel_rfl) rfl (fun _ _ => rn_assign) ?_
    refine WA_done (by kernel_rfl) ?_
    refine thenN ?_
    refine W_seq ?_
    refine W_region ?_
    refine WR_val rfl (rn_assign) ?_
    refine WR_nil ?_
    refine thenN ?_
    refine W_seq ?_
    refine W_seq ?_
    refine W_region ?_
    refine WR_val rfl (rn_move) ?_
    refine WR_val rfl (rn_neq rfl rfl) ?_
    refine WR_val rfl (rn_move) ?_
    refine WR_part 62 rfl (fun hf0 => ?_) (fun hf0 => ?_)
    ·
      refine WR_no rfl rfl ?_
      refine WR_no rfl rfl ?_
      refine WR_val rfl (rn_pick_t rfl) ?_
      refine WR_nil ?_
      refine thenN ?_
      refine W_t rfl ?_
      refine W_seq ?_
      refine W_seq ?_
      obtain ⟨r, rfl⟩ : ∃ r, s = some r := by
        cases s with
        | none => exact absurd rfl hf0
        | some r => exact ⟨r, rfl⟩
      have hrc := hV.cell r (List.mem_of_getElem? hsV)
      have hsn := lenS_snoc hsi
      have hlt2 := lenS_take S (i + 1)
      rw [show (bod (some r)).length = r.length from rfl] at hsn hlg ⊢
      have hrec := at_rec V hz hsV
      rw [hQ, hS] at hrec
      have hobt : ∃ E, fromS S i (some r) = E := ⟨_, rfl⟩
      obtain ⟨E, hE⟩ := hobt
      have hE2 : E = 512 - lenS (S.take i) - r.length := hE.symm
      rw [hE] at hrec hfr hf0 ⊢
      refine W_region ?_
      refine WR_val rfl (rn_move) ?_
      refine WR_val rfl (rn_gtr rfl rfl) ?_
      refine WR_val rfl (rn_move) ?_
      refine WR_fp 68 rfl ((by omega)) ?_
      refine WR_yes rfl ?_
      refine WR_val rfl (rn_move) ?_
      refine WR_yes rfl ?_
      refine WR_val rfl (rn_move) ?_
      refine WR_yes rfl ?_
      refine WR_val rfl (rn_add rfl rfl (Coup.w64 (by omega))) ?_
      refine WR_yes rfl ?_
      refine WR_val rfl (rn_gtr rfl rfl) ?_
      refine WR_val rfl (rn_pick_f rfl) ?_
      refine WR_nil ?_
      refine thenN ?_
      refine W_fp rfl ((by omega)) ?_
      refine W_skip ?_
      refine thenN ?_
      refine W_region ?_
      refine WR_mk rfl (mk_empty (e := 5) (sz := 1) (by kernel_rfl) (by kernel_rfl) (fun g75 w75 hg75 hr75 hb75 => ?_))
      have ge_hB_g75 := Nat.le_trans hB.size hg75
      have ge_hBr_g75 := Nat.le_trans hBr.size hg75
      have lt_g1_g75 : g1 < g75 := Nat.lt_of_lt_of_le hr1.lt hg75
      have lt_g2_g75 : g2 < g75 := Nat.lt_of_lt_of_le hr2.lt hg75
      replace hr1 := hr1.new hb75
      replace hr2 := hr2.new hb75
      replace hv := hv.new hb75
      replace hsl := hsl.new hb75
      replace hB := hB.acc hb75
      replace hBr := hBr.acc hb75
      refine WR_val rfl (rn_move) ?_
      refine WR_val rfl (rn_move) ?_
      refine WR_val rfl (rn_move) ?_
      refine WR_val rfl (rn_add rfl rfl (Coup.w64 (by omega))) ?_
      refine WR_val rfl (rn_move) ?_
      refine WR_val rfl (rn_move) ?_
      refine WR_val rfl (rn_add rfl rfl (Coup.w64 (by omega))) ?_
      refine WR_val rfl (rn_sliceArz (n := 512) (e := 5) E (E + r.length) (E + r.length) r.length (by kernel_rfl) rfl ⟨_, _, rfl, rfl⟩ ⟨_, _, rfl, by omega⟩ ⟨_, _, rfl, by omega⟩ (by simp) (by omega) (by omega) (by omega) (by omega)) ?_
      have hsrc := hr1.slZ E r.length (by omega) (by omega)
      rw [hrec] at hsrc
      have hszr := hBr.size
      refine WR_mk rfl (mk_appendE (e := 5) (sz := 1) (bytes := 1) (z := .int .u8 0) (by kernel_rfl) rfl (by kernel_rfl) rfl (by decide) rfl hr75.lt rfl hsrc (by omega) (by omega) (fun g84 o84 c84 w84 hx84 hg84 hlt84 hb84 => ?_))
      replace hr1 := hr1.new hb84
      replace hr2 := hr2.new hb84
      replace hv := hv.new hb84
      replace hsl := hsl.new hb84
      replace hB := hB.acc hb84
      replace hBr := hBr.acc hb84
      have hg84b : wr.heap.size ≤ g84 := by rcases hg84 with h | h <;> omega
      refine WR_val rfl (rn_assign) ?_
      refine WR_nil ?_
      refine thenN ?_
      refine W_region ?_
      refine WR_val rfl (rn_fieldAddr (off := 2) (by kernel_rfl) rfl) ?_
      refine WR_val rfl (rn_load rfl (Ld.row1 hr2 (by kernel_rfl) rfl)) ?_
      refine WR_val rfl (rn_move) ?_
      refine WR_mk rfl (mk_one (e := 29) (.slice (some ⟨g84, o84, none⟩) r.length c84) ([.slice (some ⟨g84, o84, none⟩) r.length c84]) ([Value.slice none 0 0]) 1 (by kernel_rfl) (by kernel_rfl) rfl rfl rfl ⟨by decide, by decide⟩ (fun g88 w88 hg88 hr88 hb88 => ?_))
      have ge_hB_g88 := Nat.le_trans hB.size hg88
      have ge_hBr_g88 := Nat.le_trans hBr.size hg88
      have lt_g1_g88 : g1 < g88 := Nat.lt_of_lt_of_le hr1.lt hg88
      have lt_g2_g88 : g2 < g88 := Nat.lt_of_lt_of_le hr2.lt hg88
      replace hr1 := hr1.new hb88
      replace hr2 := hr2.new hb88
      replace hv := hv.new hb88
      replace hsl := hsl.new hb88
      replace hx84 := hx84.new hb88
      replace hB := hB.acc hb88
      replace hBr := hBr.acc hb88
      have hs88 := hr88.slA (m := 1) (sz := 1) rfl (by omega)
      have hlt88 := Nat.lt_of_lt_of_le hlt84 hb88.size
      have sz_hB_89 := hB.size
      refine WR_mk rfl (mk_append (e := 29) (sz := 1) (bytes := 24) (z := Value.slice none 0 0) (by kernel_rfl) rfl (by kernel_rfl) rfl (by decide) rfl hv rfl hs88 (by simp [Value.oneCell']) (by unfold maxLen; omega) (by omega) (fun hm0 => by omega) (fun v89 w89 hv89 hgr89 hfr89 => ?_))
      replace hr1 := hr1.own hv hgr89 (by omega)
      replace hr2 := hr2.own hv hgr89 (by omega)
      replace hB := hB.own hv hgr89 (by omega)
      have hform := hv89.form
      obtain ⟨p89, c89, rfl⟩ := hform
      have hx84 := hx84.kpd (Kp.of_grown hgr89) (fun b' o' e hm => by cases e; simp only [Option.mem_toList] at hm; have := (hvl0 g84 hm).2; omega)
      have hsl := (hsl.growV hgr89 hfr89).snocS (c := c84) hx84 (Nat.lt_of_lt_of_le hlt88 hgr89.size) (fun e => (hfr89 g84 (Option.mem_toList.1 e)).elim (fun e' => by have := (hvl0 g84 e').2; omega) (fun e' => by omega)) (by omega)
      rw [← hts] at hsl
      refine WR_val rfl (rn_fieldAddr (off := 2) (by kernel_rfl) rfl) ?_
      refine WR_sk rfl (sk_store1 rfl rfl rfl rfl hr2 (by kernel_rfl) (by first | (simp only [List.length_replicate]; omega) | (simp only [iv_length]; omega) | (simp only [bv_length, List.length_set]; omega) | simp) (fun w910 hr2 ho910 => ?_))
      replace hr1 := hr1.only ho910 (Nat.ne_of_lt lt_g1_g2)
      replace hv89 := hv89.only ho910 (by omega)
      replace hsl := hsl.only ho910 (by omega)
      replace hB := ho910.below hB ge_hB_g2
      refine WR_nil ?_
      refine blockN ?_
      refine thenN ?_
      refine W_region ?_
      refine WR_val rfl (rn_add rfl rfl (Coup.w64 (by omega))) ?_
      refine WR_val rfl (rn_move) ?_
      refine WR_nil ?_
      refine loopN ⟨(i + 1, .slice p89 (i + 1) c89, vs ++ [.slice (some ⟨g84, o84, none⟩) r.length c84]), by simp only; omega, ⟨rfl, by go_num, rfl, rfl, rfl, rfl⟩, by simp only; omega, hr1, hr2, hv89, hsl, by have h := hv89.form' (by omega); obtain ⟨_, _, _, _, h1, h2, _⟩ := h; omega, hB⟩
    ·
      have hs0 : s = none := by
        cases s with
        | none => rfl
        | some r =>
          exfalso
          have hsn := lenS_snoc hsi
          have hlt2 := lenS_take S (i + 1)
          rw [show (bod (some r)).length = r.length from rfl] at hsn
          rw [hS] at hz2
          simp only [fromS] at hf0
          omega
      subst hs0
      refine WR_yes rfl ?_
      refine WR_val rfl (rn_move) ?_
      refine WR_yes rfl ?_
      refine WR_val rfl (rn_neq rfl rfl) ?_
      refine WR_val rfl (rn_pick_f rfl) ?_
      refine WR_nil ?_
      refine thenN ?_
      refine W_fp rfl ((by rw [show (bod none).length = 0 from rfl]; omega)) ?_
      refine W_skip ?_
      refine thenN ?_
      refine W_region ?_
      refine WR_val rfl (rn_fieldAddr (off := 2) (by kernel_rfl) rfl) ?_
      refine WR_val rfl (rn_load rfl (Ld.row1 hr2 (by kernel_rfl) rfl)) ?_
      refine WR_val rfl (rn_move) ?_
      refine WR_mk rfl (mk_one (e := 29) (.slice none 0 0) ([.slice none 0 0]) ([Value.slice none 0 0]) 1 (by kernel_rfl) (by kernel_rfl) rfl rfl rfl ⟨by decide, by decide⟩ (fun g88 w88 hg88 hr88 hb88 => ?_))
      have ge_hB_g88 := Nat.le_trans hB.size hg88
      have ge_hBr_g88 := Nat.le_trans hBr.size hg88
      have lt_g1_g88 : g1 < g88 := Nat.lt_of_lt_of_le hr1.lt hg88
      have lt_g2_g88 : g2 < g88 := Nat.lt_of_lt_of_le hr2.lt hg88
      replace hr1 := hr1.new hb88
      replace hr2 := hr2.new hb88
      replace hv := hv.new hb88
      replace hsl := hsl.new hb88
      replace hB := hB.acc hb88
      replace hBr := hBr.acc hb88
      have hs88 := hr88.slA (m := 1) (sz := 1) rfl (by omega)
      have hszr := hBr.size
      have sz_hB_89 := hB.size
      refine WR_mk rfl (mk_append (e := 29) (sz := 1) (bytes := 24) (z := Value.slice none 0 0) (by kernel_rfl) rfl (by kernel_rfl) rfl (by decide) rfl hv rfl hs88 (by simp [Value.oneCell']) (by unfold maxLen; omega) (by omega) (fun hm0 => by omega) (fun v89 w89 hv89 hgr89 hfr89 => ?_))
      replace hr1 := hr1.own hv hgr89 (by omega)
      replace hr2 := hr2.own hv hgr89 (by omega)
      replace hB := hB.own hv hgr89 (by omega)
      have hform := hv89.form
      obtain ⟨p89, c89, rfl⟩ := hform
      have hsl := (hsl.growV hgr89 hfr89).snocN
      rw [← hts] at hsl
      refine WR_val rfl (rn_fieldAddr (off := 2) (by kernel_rfl) rfl) ?_
      refine WR_sk rfl (sk_store1 rfl rfl rfl rfl hr2 (by kernel_rfl) (by first | (simp only [List.length_replicate]; omega) | (simp only [iv_length]; omega) | (simp only [bv_length, List.length_set]; omega) | simp) (fun w911 hr2 ho911 => ?_))
      replace hr1 := hr1.only ho911 (Nat.ne_of_lt lt_g1_g2)
      replace hv89 := hv89.only ho911 (by omega)
      replace hsl := hsl.only ho911 (by omega)
      replace hB := ho911.below hB ge_hB_g2
      refine WR_nil ?_
      refine blockN ?_
      refine thenN ?_
      refine W_region ?_
      refine WR_val rfl (rn_add rfl rfl (Coup.w64 (by omega))) ?_
      refine WR_val rfl (rn_move) ?_
      refine WR_nil ?_
      refine loopN ⟨(i + 1, .slice p89 (i + 1) c89, vs ++ [.slice none 0 0]), by simp only; omega, ⟨rfl, by go_num, rfl, rfl, rfl, rfl⟩, by simp only; omega, hr1, hr2, hv89, hsl, by have h := hv89.form' (by omega); obtain ⟨_, _, _, _, h1, h2, _⟩ := h; omega, hB⟩
  ·
    obtain rfl : i = n := by omega
    rw [show S.take i = S from List.take_of_length_le (by omega)] at hsl
    have hform := hv.form
    obtain ⟨p, c, rfl⟩ := hform
    have hSz := fun (w' : World) (h1 : SlAt w' p i 1 vs) (h2 : SltsAt w' B (Value.ownBlock (.slice p i c)).toList vs S) => size25 V p c vs w' B _ (by rw [hn]; exact h1) (by rw [hS]; exact h2) (by omega)
    have hPg := fun (w' : World) (h1 : SlAt w' p i 1 vs) (h2 : SltsAt w' B (Value.ownBlock (.slice p i c)).toList vs S) => page21 V p c vs w' B _ (by rw [hn]; exact h1) (by rw [hS]; exact h2) (by omega) hnx hz
    rw [hn] at hSz hPg
    rw [hQ] at hPg
    by_cases hi0 : 0 < i
    · obtain ⟨g, off, c', e0, -, hgl, -⟩ := hv.form' hi0
      injection e0 with e1 e2 e3
      subst e1 e3
      obtain ⟨s, hsi⟩ : ∃ s, S[i - 1]? = some s := ⟨_, List.getElem?_eq_getElem (by omega)⟩
      have hvv := hsl.val hsi
      obtain ⟨q, cq, hvq, hq, hqn⟩ := hvv
      have hqs : q.isNone = false := by
        cases s with
        | none =>
          exfalso
          apply hV.last
          rw [hS, List.getLast?_eq_getElem?, ← hnS]
          exact hsi
        | some r => cases q with
          | none => have := hqn.2 rfl; cases this
          | some a => rfl
      refine W_exit ?_
      refine thenX ?_
      refine loopX ?_
      refine blockX ?_
      refine thenN ?_
      refine W_seq ?_
      refine W_seq ?_
      refine W_draw' [] (by kernel_rfl) ?_
      intro w912 hb912 hS912
      replace hr1 := hr1.new hb912
      replace hr2 := hr2.new hb912
      replace hv := hv.new hb912
      replace hsl := hsl.new hb912
      replace hB := hB.acc hb912
      have hr1_d912 := hr1
      have hr2_d912 := hr2
      have hv_d912 := hv
      have hsl_d912 := hsl
      have hB_d912 := hB
      refine WA_take 0 (by kernel_rfl) rfl (fun _ _ => rn_move) ?_
      refine WA_take 1 (by kernel_rfl) rfl (fun _ _ => rn_gtr rfl rfl) ?_
      refine WA_take 2 (by kernel_rfl) rfl (fun _ _ => rn_move) ?_
      refine WA_tp 94 rfl ((by omega)) ?_
      refine WA_take 3 (by kernel_rfl) rfl (fun _ _ => rn_fieldAddr (off := 2) (by kernel_rfl) rfl) ?_
      refine WA_take 4 (by kernel_rfl) rfl (fun w' hS' => rn_load rfl (Ld.row1 (hr2_d912.kpd hS' (by first | (simp; done) | (simp; omega) | (simp [*]; done))) (by kernel_rfl) rfl)) ?_
      refine WA_take 5 (by kernel_rfl) rfl (fun _ _ => rn_move) ?_
      refine WA_take 6 (by kernel_rfl) rfl (fun _ _ => rn_sub rfl rfl (Coup.w64 (by omega))) ?_
      refine WA_take 7 (by kernel_rfl) rfl (fun _ _ => rn_indexSl1 (e := 29) (by kernel_rfl) rfl rfl (i - 1) (by omega) (by omega)) ?_
      refine WA_take 8 (by kernel_rfl) rfl (fun w' hS' => rn_load rfl (Ld.sl1 (hv_d912.kpd hS' (by first | (simp; done) | (simp; omega) | (simp [*]; done))).sl (by kernel_rfl) hvq)) ?_
      refine WA_take 9 (by kernel_rfl) rfl (fun _ _ => rn_eqlNil (e := 5) (by kernel_rfl) rfl rfl) ?_
      refine WA_take 10 (by kernel_rfl) rfl (fun _ _ => rn_pick_t rfl) ?_
      refine WA_take 11 (by kernel_rfl) rfl (fun _ _ => rn_move) ?_
      refine WA_fb 103 rfl (hqs) ?_
      refine WA_take 12 (by kernel_rfl) rfl (fun w' hS' => rn_load rfl (Ld.rowA (k := 3) (hr2_d912.kpd hS' (by first | (simp; done) | (simp; omega) | (simp [*]; done))) (by kernel_rfl) (by kernel_rfl) (by first | (simp; done) | (simp [bv_length, *]; done) | assumption))) ?_
      refine WA_one 13 (by kernel_rfl) ?_
      refine WO_ent rfl rfl (rn_call (by kernel_rfl) rfl) (hSz w912 hv.sl hsl) ?_
      rintro _ w105 ⟨rfl, hb105⟩
      have hS913 := hS912.add0 hb105
      refine ⟨hS913, ?_⟩
      replace hr1 := hr1.new hb105
      replace hr2 := hr2.new hb105
      replace hv := hv.new hb105
      replace hsl := hsl.new hb105
      replace hB := hB.acc hb105
      refine WA_take 14 (by kernel_rfl) rfl (fun _ _ => rn_gtr rfl rfl) ?_
      refine WA_take 15 (by kernel_rfl) rfl (fun _ _ => rn_pick_f rfl) ?_
      refine WA_take 16 (by kernel_rfl) rfl (fun _ _ => rn_move) ?_
      refine WA_fp 108 rfl ((by omega)) ?_
      refine WA_take 17 (by kernel_rfl) rfl (fun w' hS' => rn_load rfl (Ld.rowA (k := 3) (hr2_d912.kpd hS' (by first | (simp; done) | (simp; omega) | (simp [*]; done))) (by kernel_rfl) (by kernel_rfl) (by first | (simp; done) | (simp [bv_length, *]; done) | assumption))) ?_
      refine WA_take 19 (by kernel_rfl) rfl (fun w' hS' => rn_load rfl (Ld.rowA (k := 512) (hr1_d912.kpd hS' (by first | (simp; done) | (simp; omega) | (simp [*]; done))) (by kernel_rfl) (by kernel_rfl) (by first | (simp; done) | (simp [bv_length, *]; done) | assumption))) ?_
      refine WA_one 18 (by kernel_rfl) ?_
      refine WO_ent rfl rfl (rn_call (by kernel_rfl) rfl) (hPg w105 hv.sl hsl) ?_
      rintro _ w110 ⟨rfl, hb110⟩
      have hS914 := hS913.add0 hb110
      refine ⟨hS914, ?_⟩
      replace hr1 := hr1.new hb110
      replace hr2 := hr2.new hb110
      replace hv := hv.new hb110
      replace hsl := hsl.new hb110
      replace hB := hB.acc hb110
      refine WA_take 20 (by kernel_rfl) rfl (fun _ _ => rn_neqA (n := 512) (by kernel_rfl) rfl rfl (by simp [*]) (by simp [*])) ?_
      refine WA_take 21 (by kernel_rfl) rfl (fun _ _ => rn_pick_f rfl) ?_
      refine WA_done (by kernel_rfl) ?_
      refine thenN ?_
      refine W_fn rfl ((by simp)) ?_
      refine W_skip ?_
      refine thenN ?_
      refine W_seq ?_
      refine W_region ?_
      refine WR_val rfl (rn_load rfl (Ld.rowA (k := 3) hr2 (by kernel_rfl) (by kernel_rfl) (by first | (simp; done) | (simp [bv_length, *]; done) | assumption))) ?_
      refine WR_sk rfl (sk_storeA 3 (_) rfl rfl hr2 (by kernel_rfl) (by first | assumption | (simp; done) | (simp [bv_length, *]; done)) (by first | assumption | (simp; done) | (simp [bv_length, *]; done) | rfl) (by first | exact bv_one _ | assumption | (simp [Value.oneCell']; done)) (fun w915 hr2 ho915 => ?_))
      replace hr1 := hr1.only ho915 (Nat.ne_of_lt lt_g1_g2)
      replace hv := hv.only ho915 (by omega)
      replace hsl := hsl.only ho915 (by omega)
      replace hB := ho915.below hB ge_hB_g2
      refine WR_val rfl (rn_assign) ?_
      refine WR_nil ?_
      refine thenN ?_
      refine W_ret ?_
      refine ret_ret [_, _] ⟨⟨_, rfl, Ld.rowA (k := 3) hr2 (by kernel_rfl) (by kernel_rfl) (by first | (simp; done) | (simp [bv_length, *]; done) | assumption)⟩, rfl, trivial⟩ ?_
      exact ⟨_, c, vs, rfl, ⟨hv.mono hwB, by rw [hS]; exact hsl.mono hwB⟩, hB⟩
    · skip
      refine W_exit ?_
      refine thenX ?_
      refine loopX ?_
      refine blockX ?_
      refine thenN ?_
      refine W_seq ?_
      refine W_seq ?_
      refine W_draw' [] (by kernel_rfl) ?_
      intro w916 hb916 hS916
      replace hr1 := hr1.new hb916
      replace hr2 := hr2.new hb916
      replace hv := hv.new hb916
      replace hsl := hsl.new hb916
      replace hB := hB.acc hb916
      have hr1_d916 := hr1
      have hr2_d916 := hr2
      have hv_d916 := hv
      have hsl_d916 := hsl
      have hB_d916 := hB
      refine WA_take 0 (by kernel_rfl) rfl (fun _ _ => rn_move) ?_
      refine WA_take 1 (by kernel_rfl) rfl (fun _ _ => rn_gtr rfl rfl) ?_
      refine WA_take 2 (by kernel_rfl) rfl (fun _ _ => rn_move) ?_
      refine WA_fp 94 rfl ((by omega)) ?_
      refine WA_skip 3 (by kernel_rfl) rfl ?_
      refine WA_skip 4 (by kernel_rfl) rfl ?_
      refine WA_skip 5 (by kernel_rfl) rfl ?_
      refine WA_skip 6 (by kernel_rfl) rfl ?_
      refine WA_skip 7 (by kernel_rfl) rfl ?_
      refine WA_skip 8 (by kernel_rfl) rfl ?_
      refine WA_skip 9 (by kernel_rfl) rfl ?_
      refine WA_take 10 (by kernel_rfl) rfl (fun _ _ => rn_pick_f rfl) ?_
      refine WA_take 11 (by kernel_rfl) rfl (fun _ _ => rn_move) ?_
      refine WA_take 12 (by kernel_rfl) rfl (fun w' hS' => rn_load rfl (Ld.rowA (k := 3) (hr2_d916.kpd hS' (by first | (simp; done) | (simp; omega) | (simp [*]; done))) (by kernel_rfl) (by kernel_rfl) (by first | (simp; done) | (simp [bv_length, *]; done) | assumption))) ?_
      refine WA_one 13 (by kernel_rfl) ?_
      refine WO_ent rfl rfl (rn_call (by kernel_rfl) rfl) (hSz w916 hv.sl hsl) ?_
      rintro _ w105 ⟨rfl, hb105⟩
      have hS917 := hS916.add0 hb105
      refine ⟨hS917, ?_⟩
      replace hr1 := hr1.new hb105
      replace hr2 := hr2.new hb105
      replace hv := hv.new hb105
      replace hsl := hsl.new hb105
      replace hB := hB.acc hb105
      refine WA_take 14 (by kernel_rfl) rfl (fun _ _ => rn_gtr rfl rfl) ?_
      refine WA_take 15 (by kernel_rfl) rfl (fun _ _ => rn_pick_f rfl) ?_
      refine WA_take 16 (by kernel_rfl) rfl (fun _ _ => rn_move) ?_
      refine WA_fp 108 rfl ((by omega)) ?_
      refine WA_take 17 (by kernel_rfl) rfl (fun w' hS' => rn_load rfl (Ld.rowA (k := 3) (hr2_d916.kpd hS' (by first | (simp; done) | (simp; omega) | (simp [*]; done))) (by kernel_rfl) (by kernel_rfl) (by first | (simp; done) | (simp [bv_length, *]; done) | assumption))) ?_
      refine WA_take 19 (by kernel_rfl) rfl (fun w' hS' => rn_load rfl (Ld.rowA (k := 512) (hr1_d916.kpd hS' (by first | (simp; done) | (simp; omega) | (simp [*]; done))) (by kernel_rfl) (by kernel_rfl) (by first | (simp; done) | (simp [bv_length, *]; done) | assumption))) ?_
      refine WA_one 18 (by kernel_rfl) ?_
      refine WO_ent rfl rfl (rn_call (by kernel_rfl) rfl) (hPg w105 hv.sl hsl) ?_
      rintro _ w110 ⟨rfl, hb110⟩
      have hS918 := hS917.add0 hb110
      refine ⟨hS918, ?_⟩
      replace hr1 := hr1.new hb110
      replace hr2 := hr2.new hb110
      replace hv := hv.new hb110
      replace hsl := hsl.new hb110
      replace hB := hB.acc hb110
      refine WA_take 20 (by kernel_rfl) rfl (fun _ _ => rn_neqA (n := 512) (by kernel_rfl) rfl rfl (by simp [*]) (by simp [*])) ?_
      refine WA_take 21 (by kernel_rfl) rfl (fun _ _ => rn_pick_f rfl) ?_
      refine WA_done (by kernel_rfl) ?_
      refine thenN ?_
      refine W_fn rfl ((by simp)) ?_
      refine W_skip ?_
      refine thenN ?_
      refine W_seq ?_
      refine W_region ?_
      refine WR_val rfl (rn_load rfl (Ld.rowA (k := 3) hr2 (by kernel_rfl) (by kernel_rfl) (by first | (simp; done) | (simp [bv_length, *]; done) | assumption))) ?_
      refine WR_sk rfl (sk_storeA 3 (_) rfl rfl hr2 (by kernel_rfl) (by first | assumption | (simp; done) | (simp [bv_length, *]; done)) (by first | assumption | (simp; done) | (simp [bv_length, *]; done) | rfl) (by first | exact bv_one _ | assumption | (simp [Value.oneCell']; done)) (fun w919 hr2 ho919 => ?_))
      replace hr1 := hr1.only ho919 (Nat.ne_of_lt lt_g1_g2)
      replace hv := hv.only ho919 (by omega)
      replace hsl := hsl.only ho919 (by omega)
      replace hB := ho919.below hB ge_hB_g2
      refine WR_val rfl (rn_assign) ?_
      refine WR_nil ?_
      refine thenN ?_
      refine W_ret ?_
      refine ret_ret [_, _] ⟨⟨_, rfl, Ld.rowA (k := 3) hr2 (by kernel_rfl) (by kernel_rfl) (by first | (simp; done) | (simp [bv_length, *]; done) | assumption)⟩, rfl, trivial⟩ ?_
      exact ⟨_, c, vs, rfl, ⟨hv.mono hwB, by rw [hS]; exact hsl.mono hwB⟩, hB⟩
end Go.Proofs.Ytjdcopfnhkfimaa
