/- Slices of records, some of them not there; a number of two bytes. -/
import Derived.Test.YtjdcopfnhkfimaaProg
import Derived.Test.YtjdcopfnhkfimaaPageA
namespace Go.Proofs.Ytjdcopfnhkfimaa
open Go Go.RowKit Coup

/-- The slots' values: nil where there is no record, else a slice of its bytes, in blocks from lo on, but not in those of the list. -/
structure SltsAt (w : World) (lo : Nat) (o : List Nat) (vs : List Value) (S : List (Option (List UInt8))) : Prop where
  len : vs.length = S.length
  no : ∀ (i : Nat), S[i]? = some none → vs[i]? = some (.slice none 0 0)
  yes : ∀ (i : Nat) r, S[i]? = some (some r) → ∃ b off c, vs[i]? = some (.slice (some ⟨b, off, none⟩) r.length c) ∧ SlAt w (some ⟨b, off, none⟩) r.length 1 (bv r) ∧ b < w.heap.size ∧ b ∉ o ∧ lo ≤ b
namespace SltsAt
variable {w w' : World} {lo : Nat} {o : List Nat} {vs : List Value} {S : List (Option (List UInt8))}
theorem nil (w : World) (lo : Nat) (o : List Nat) : SltsAt w lo o [] [] := ⟨rfl, fun i h => by simp at h, fun i r h => by simp at h⟩
theorem kp {M : List Nat} (h : SltsAt w lo o vs S) (k : Kp M w w') (hM : ∀ g, g ∈ M → w.heap.size ≤ g ∨ g ∈ o ∨ g < lo) : SltsAt w' lo o vs S := ⟨h.len, h.no, fun i r hr => by
  obtain ⟨b, off, c, h1, h2, h3, h4, h5⟩ := h.yes i r hr
  refine ⟨b, off, c, h1, h2.kpd k fun b' o' e hm => ?_, Nat.lt_of_lt_of_le h3 k.size, h4, h5⟩
  cases e
  rcases hM b hm with e | e | e
  · omega
  · exact h4 e
  · omega⟩
theorem new (h : SltsAt w lo o vs S) (hb : Below w.heap.size w w') : SltsAt w' lo o vs S := h.kp (M := []) (Kp.of_below hb) (by simp)
theorem avoid {o' : List Nat} (h : SltsAt w lo o vs S) (ho : ∀ g, g ∈ o' → g ∈ o ∨ w.heap.size ≤ g ∨ g < lo) : SltsAt w lo o' vs S := ⟨h.len, h.no, fun i r hr => by
  obtain ⟨b, off, c, h1, h2, h3, h4, h5⟩ := h.yes i r hr
  refine ⟨b, off, c, h1, h2, h3, fun hm => ?_, h5⟩
  rcases ho b hm with e | e | e
  · exact h4 e
  · omega
  · omega⟩
theorem only {g : Nat} (h : SltsAt w lo o vs S) (ho : Only g w w') (hg : g < lo ∨ g ∈ o) : SltsAt w' lo o vs S := h.kp (Kp.of_only ho) (fun g' hm => by
  have : g' = g := by simpa using hm
  subst this
  exact hg.elim (fun e => Or.inr (Or.inr e)) fun e => Or.inr (Or.inl e))
theorem kpd {M : List Nat} (h : SltsAt w lo o vs S) (k : Kp M w w') (hM : ∀ g, g ∈ M → g < lo ∨ g ∈ o) : SltsAt w' lo o vs S := h.kp k fun g hm => (hM g hm).elim (fun e => Or.inr (Or.inr e)) fun e => Or.inr (Or.inl e)
end SltsAt
theorem orN {a b : Int} (s : Nat) (q : Int) (ha : 0 ≤ a) (hq : a = q * 2 ^ s) (hb : 0 ≤ b ∧ b < 2 ^ s) (hs : a + b < 9223372036854775808) : ((BitVec.ofInt 64 a ||| BitVec.ofInt 64 b).toNat : Int) = a + b := by
  have h := orU (a := a) (b := b) s q ⟨ha, by omega⟩ hq hb (by omega)
  have hlt := (BitVec.ofInt 64 a ||| BitVec.ofInt 64 b).isLt
  have e : IntKind.u64.wrap ((BitVec.ofInt 64 a ||| BitVec.ofInt 64 b).toNat : Int) = ((BitVec.ofInt 64 a ||| BitVec.ofInt 64 b).toNat : Int) := wu64 (by omega)
  exact e.symm.trans h
theorem orI {a b : Int} (s : Nat) (q : Int) (ha : 0 ≤ a) (hq : a = q * 2 ^ s) (hb : 0 ≤ b ∧ b < 2 ^ s) (hs : a + b < 9223372036854775808) : IntKind.i64.wrap ((BitVec.ofInt IntKind.i64.bits a ||| BitVec.ofInt IntKind.i64.bits b).toNat : Int) = a + b := by
  have h := orN s q ha hq hb hs
  show IntKind.i64.wrap ((BitVec.ofInt 64 a ||| BitVec.ofInt 64 b).toNat : Int) = a + b
  rw [h, w64 (by omega)]
theorem two35 (p : Option Addr) (n c : Nat) (a b : UInt8) (w : World) (hn : n = 2) (h : SlAt w p n 1 (bv [a, b])) : Calls Try.prog 35 [.slice p n c].toArray w (Ret fun v w' => v = .int .i64 (256 * (a.toNat : Int) + b.toNat) ∧ Below w.heap.size w w') := by
  have hB := Below.refl w.heap.size w
  subst hn
  have ha := a.toNat_lt
  have hb := b.toNat_lt
  obtain ⟨g, o, rfl, hg⟩ := h.some (by omega)
  refine calls_W (fn := Try.f35) (rs := [.tmp 2]) (n := 13) Try.func35 rfl rfl Try.ntmps35 (by kernel_rfl) rfl ?_
  refine W_seq ?_
  refine W_region ?_
  refine WR_val rfl (rn_assign) ?_
  refine WR_nil ?_
  refine thenN ?_
  refine W_seq ?_
  refine W_draw' [] (by kernel_rfl) ?_
  intro w901 hb901 hS901
  replace hB := hB.acc hb901
  have hB_d901 := hB
  refine WA_take 0 (by kernel_rfl) rfl (fun _ _ => rn_move) ?_
  refine WA_take 1 (by kernel_rfl) rfl (fun _ _ => rn_indexSl1 (e := 5) (by kernel_rfl) rfl rfl (0) (by omega) (by omega)) ?_
  refine WA_take 2 (by kernel_rfl) rfl (fun w' hS' => rn_load rfl (Ld.sl1 (h.below (hB_d901.kpd hS' (by first | (simp; done) | (simp; omega) | (simp [*]; done))) (Nat.le_refl _)) (by kernel_rfl) (show (bv [a, b])[0]? = some (.int .u8 (a.toNat : Int)) from rfl))) ?_
  refine WA_take 3 (by kernel_rfl) rfl (fun _ _ => rn_conv (k := .i64) (by kernel_rfl) (by kernel_rfl) rfl (Coup.w64 (by omega))) ?_
  refine WA_take 4 (by kernel_rfl) rfl (fun _ _ => rn_shl rfl rfl (by omega) (show IntKind.i64.wrap ((a.toNat : Int) * 2 ^ 8) = 256 * (a.toNat : Int) by rw [w64 (by omega)]; omega)) ?_
  refine WA_take 5 (by kernel_rfl) rfl (fun _ _ => rn_move) ?_
  refine WA_take 6 (by kernel_rfl) rfl (fun _ _ => rn_indexSl1 (e := 5) (by kernel_rfl) rfl rfl (1) (by omega) (by omega)) ?_
  refine WA_take 7 (by kernel_rfl) rfl (fun w' hS' => rn_load rfl (Ld.sl1 (h.below (hB_d901.kpd hS' (by first | (simp; done) | (simp; omega) | (simp [*]; done))) (Nat.le_refl _)) (by kernel_rfl) (show (bv [a, b])[1]? = some (.int .u8 (b.toNat : Int)) from rfl))) ?_
  refine WA_take 8 (by kernel_rfl) rfl (fun _ _ => rn_conv (k := .i64) (by kernel_rfl) (by kernel_rfl) rfl (Coup.w64 (by omega))) ?_
  refine WA_take 9 (by kernel_rfl) rfl (fun _ _ => rn_or rfl rfl (orI 8 a.toNat (by omega) (by omega) (by omega) (by omega))) ?_
  refine WA_take 10 (by kernel_rfl) rfl (fun _ _ => rn_assign) ?_
  refine WA_done (by kernel_rfl) ?_
  refine thenN ?_
  refine W_ret ?_
  refine ret_ret [_] ⟨rfl, trivial⟩ ?_
  exact ⟨rfl, hB⟩
end Go.Proofs.Ytjdcopfnhkfimaa
