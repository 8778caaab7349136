import Derived.Test.YtielfpkjoidomaaGreatM1
import Derived.Deep.RegionHeld3
import Derived.RegionTactic
import Derived.Laws.ShiftsVarLaws
import Derived.Test.YtielfpkjoidomaaGreatM0
import Derived.Lib.BufferWrite
namespace Go.Proofs.YtielfpkjoidomaaGreat
open Go Go.RowKit Coup
def za0 (h : List UInt8) : Nat := zdK (h.take 8)
def zcR (h : List UInt8) : Nat := zdK ((h.drop 8).take 4)
def zdZ (h : List UInt8) : Nat := zdK ((h.drop 12).take 2)
def zbH (h : List UInt8) : Nat := zdK ((h.drop 14).take 2)
def zcL (h : List UInt8) : List UInt8 := h.drop 16
def zbC (c n p m : Int) (b : List UInt8) : List Value := [.int .u64 c, .int .i64 n, .int .i64 p, .int .i64 m] ++ bv b
theorem zfh (c n p m : Int) (b : List UInt8) : ∀ v ∈ zbC c n p m b, v.oneCell' = true := by
 intro v hv
 simp only [zbC, List.mem_append] at hv
 rcases hv with hv | hv
 ·simp at hv; rcases hv with rfl | rfl | rfl | rfl <;> rfl
 ·exact zaL b v hv
theorem zcz (c n p m : Int) (b : List UInt8) : (zbC c n p m b).length = 4 + b.length := by simp [zbC, zae]; omega
theorem zjR : (Tryz.prog.info? 141).map (fun i => i.zero.map (·.cells)) = some (some (zbC 0 0 0 0 (zaI 48)).toArray) := by kernel_rfl
theorem znl : (Tryz.prog.info? 141).map (·.size) = some 52 := by kernel_rfl
theorem size58 : (Tryz.prog.info? 138).map (·.size) = some 48 := by kernel_rfl
theorem size24 : (Tryz.prog.info? 115).map (·.size) = some 2 := by kernel_rfl
theorem row61 : (Tryz.prog.underlying 141).any (·.isRow) = true := by kernel_rfl
theorem row58 : (Tryz.prog.underlying 138).any (·.isRow) = true := by kernel_rfl
theorem row24 : (Tryz.prog.underlying 115).any (·.isRow) = true := by kernel_rfl
theorem zcm (l : List UInt8) (k : Nat) (h : l.length ≤ k) : zdK l < 256 ^ k := Nat.lt_of_lt_of_le (znk l) (Nat.pow_le_pow_right (by omega) h)
theorem zgn {fn : Func} {p q : Tmp} {ty : TypeId} (h : fn.results = #[.cell p ty, .tmp q]) {P : Program} (tmps : Array Value) (w : World) (g : Nat) (t : TypeId) (cs : List Value) (hp : tmps.getD p undef = .pointer (some ⟨g, 0, none⟩))
  (hg : row w g cs t) (hu : (P.underlying ty).any (·.isRow) = true) (hi : (P.info? ty).map (·.size) = some cs.length) : (results fn tmps).run P w = .ok (.tuple #[.agg cs.toArray, tmps.getD q undef]) w := by
 cases hd : P.underlying ty with
 | none => simp [hd] at hu
 | some d =>
  have hr : d.isRow = true := by simpa [hd] using hu
  have hp' : tmps[p]?.getD undef = .pointer (some ⟨g, 0, none⟩) := by simpa using hp
  have hc : w.rangeAt g 0 cs := hg.range 0 cs fun j v hv => by simpa using hv
  simp [results, h, hp', asAddr, run_loadVar_mid w g 0 ty cs d hc hd hr hi]
theorem zmo (c n p m x : Int) (b : List UInt8) : (zbC c n p m b).set 0 (.int .u64 x) = zbC x n p m b := rfl
theorem zmp (c n p m x : Int) (b : List UInt8) : (zbC c n p m b).set 1 (.int .i64 x) = zbC c x p m b := rfl
theorem zmq (c n p m x : Int) (b : List UInt8) : (zbC c n p m b).set 2 (.int .i64 x) = zbC c n x m b := rfl
theorem zmr (c n p m x : Int) (b : List UInt8) : (zbC c n p m b).set 3 (.int .i64 x) = zbC c n p x b := rfl
theorem zms (c n p m : Int) (b b' : List UInt8) (h : b.length = b'.length) : splice (zbC c n p m b) 4 (bv b') = zbC c n p m b' := by
 have : (bv b').length = (bv b).length := by simp [zae, h]
 simp [splice, zbC, this]
 omega
def structFields (P : Program) (t : TypeId) : Array Field := match P.underlying t with | some (.struct fs) => fs | _ => #[]
set_option maxHeartbeats 2000000 in
set_option maxRecDepth 20000 in
theorem read31 (hb : List UInt8) (hl : hb.length = 64) (w : World) :
  Calls Tryz.prog 122 #[.agg (bv hb).toArray] w fun e w' => e = .returned (.tuple #[.agg (zbC (za0 hb) (zcR hb) (zdZ hb) (zbH hb) (zcL hb)).toArray, .bool (zeb (za0 hb) (zcR hb))]) ∧ Below w.heap.size w w' := by
 obtain ⟨c, hc⟩ : ∃ c, c = za0 hb := ⟨_, rfl⟩
 obtain ⟨n, hn⟩ : ∃ n, n = zcR hb := ⟨_, rfl⟩
 obtain ⟨pl, hpl⟩ : ∃ pl, pl = zdZ hb := ⟨_, rfl⟩
 obtain ⟨m, hm⟩ : ∃ m, m = zbH hb := ⟨_, rfl⟩
 have hcb : c < 18446744073709551616 := by rw [hc]; exact zcm _ 8 (by simp; omega)
 have hnb : n < 4294967296 := by rw [hn]; exact zcm _ 4 (by simp; omega)
 have hpb : pl < 65536 := by rw [hpl]; exact zcm _ 2 (by simp; omega)
 have hmb : m < 65536 := by rw [hm]; exact zcm _ 2 (by simp; omega)
 have sl : ∀ (o k : Nat), o + k ≤ 64 → k ≤ 8 → ∀ (g : Nat) (w' : World), row w' g (bv hb) 139 → za9 w' (some ⟨g, o, none⟩) k 1 (bv ((hb.drop o).take k)) := fun o k hok hk g w' hr => by
  have := hr.slAt o k 1 (by rw [zae]; omega) (by unfold maxLen; omega)
  rwa [← zcT, Nat.mul_one, ← zdD] at this
 have c1 : ∀ (g : Nat) (w' : World), row w' g (bv hb) 139 → Calls Tryz.prog 124 #[.slice (some ⟨g, 0, none⟩) 8 8] w' fun e w2 => e = .returned (.int .u64 c) ∧ w' = w2 := fun g w' hr => by
  have := zf2 (some ⟨g, 0, none⟩) 8 8 _ w' (sl 0 8 (by omega) (by omega) g w' hr) (by omega)
  rwa [hc]
 have c2 : ∀ (g : Nat) (w' : World), row w' g (bv hb) 139 → Calls Tryz.prog 124 #[.slice (some ⟨g, 8, none⟩) 4 4] w' fun e w2 => e = .returned (.int .u64 n) ∧ w' = w2 := fun g w' hr => by
  have := zf2 (some ⟨g, 8, none⟩) 4 4 _ w' (sl 8 4 (by omega) (by omega) g w' hr) (by omega)
  rwa [hn]
 have c3 : ∀ (g : Nat) (w' : World), row w' g (bv hb) 139 → Calls Tryz.prog 124 #[.slice (some ⟨g, 12, none⟩) 2 2] w' fun e w2 => e = .returned (.int .u64 pl) ∧ w' = w2 := fun g w' hr => by
  have := zf2 (some ⟨g, 12, none⟩) 2 2 _ w' (sl 12 2 (by omega) (by omega) g w' hr) (by omega)
  rwa [hpl]
 have c4 : ∀ (g : Nat) (w' : World), row w' g (bv hb) 139 → Calls Tryz.prog 124 #[.slice (some ⟨g, 14, none⟩) 2 2] w' fun e w2 => e = .returned (.int .u64 m) ∧ w' = w2 := fun g w' hr => by
  have := zf2 (some ⟨g, 14, none⟩) 2 2 _ w' (sl 14 2 (by omega) (by omega) g w' hr) (by omega)
  rwa [hm]
 rw [← hc, ← hn, ← hpl, ← hm]
 have C1 := Lib.hid c1
 have C2 := Lib.hid c2
 have C3 := Lib.hid c3
 have C4 := Lib.hid c4
 have HL := Lib.hid hl
 have wn : IntKind.i64.wrap (n : Int) = n := by rw [IntKind.wrap_i64]; omega
 have wp : IntKind.i64.wrap (pl : Int) = pl := by rw [IntKind.wrap_i64]; omega
 have wm : IntKind.i64.wrap (m : Int) = m := by rw [IntKind.wrap_i64]; omega
 have hap := run_arrayAt (P := Tryz.prog) 138 5 48 (by kernel_rfl)
 clear c1 c2 c3 c4 sl hc hn hpl hm hl
 have hz : (zbC 0 0 0 0 (zaI 48)).length = 52 := by rw [zcz]; simp [zaI]
 have HZ := Lib.hid hz
 clear hz
 go_enter Tryz.func122, Tryz.ntmps122
 go_wp2_with (first
  | (with_reducible refine zdE (.box 139 _) ?_; refine zdf rfl 139 _ rfl (bv hb) rfl ?_; intro g1 w1 hg1 hr1 hb1)
  | (with_reducible refine zdE (.alloc 141) ?_; refine zbL rfl 141 rfl _ zjR ?_; intro g2 w2 hg2 hr2 hb2))
 have hne : g1 ≠ g2 := by have := hr1.lt; omega
 have hS : HS g1 (bv hb) 139 g2 52 w2 := ⟨hr1.new hb2, by have := hr2.there; rwa [HZ.out] at this⟩
 have k1 : ∀ (j : Nat), j < 52 → ∀ w', HS g1 (bv hb) 139 g2 52 w' → w'.cell? ⟨g2, j, none⟩ = some (cellOf w' ⟨g2, j, none⟩) := HS.cell
 have k2 : ∀ (j : Nat), j < 52 → ∀ w', HS g1 (bv hb) 139 g2 52 w' → w'.frozen? ⟨g2, j, none⟩ = false := HS.frozen
 go_region_held3 (HS g1 (bv hb) 139 g2 52) (first | assumption | (exact HS.drew (by assumption)) | (exact HS.setc (by assumption) hne _ _) | (exact HS.setc (HS.setc (by assumption) hne _ _) hne _ _))
  (first
   | (go_at_call_of 124 (Value.slice (some ⟨g1, 0, none⟩) 8 8); refine (C1.out _ _ (HS.out1 (by assumption))).mono ?_; rintro e w' ⟨rfl, rfl⟩)
   | (go_at_call_of 124 (Value.slice (some ⟨g1, 8, none⟩) 4 4); refine (C2.out _ _ (HS.out1 (by assumption))).mono ?_; rintro e w' ⟨rfl, rfl⟩))
 have hr3 := ((hr2.setc 0 (.int .u64 c)).setc 1 (.int .i64 n)).drew
 rw [zmo, zmp] at hr3
 have ho3 := ((Only.setCell w2 g2 0 (.int .u64 c)).trans (Only.setCell _ g2 1 (.int .i64 n))).drew
 obtain ⟨w3, hw3⟩ : ∃ x, x = ((w2.setCell ⟨g2, 0, none⟩ (Value.int .u64 c)).setCell ⟨g2, 1, none⟩ (.int .i64 n)).drew := ⟨_, rfl⟩
 rw [← hw3] at hr3 ho3 ⊢
 have hS3 : HS g1 (bv hb) 139 g2 52 w3 := by rw [hw3]; exact ((hS.setc hne _ _).setc hne _ _).drew
 clear hw3
 go_wp2
 go_region_held3 (HS g1 (bv hb) 139 g2 52) (first | assumption | (exact HS.drew (by assumption)) | (exact HS.setc (by assumption) hne _ _) | (exact HS.setc (HS.setc (by assumption) hne _ _) hne _ _))
  (first
   | (go_at_call_of 124 (Value.slice (some ⟨g1, 12, none⟩) 2 2); refine (C3.out _ _ (HS.out1 (by assumption))).mono ?_; rintro e w' ⟨rfl, rfl⟩)
   | (go_at_call_of 124 (Value.slice (some ⟨g1, 14, none⟩) 2 2); refine (C4.out _ _ (HS.out1 (by assumption))).mono ?_; rintro e w' ⟨rfl, rfl⟩))
 have hr4 := ((hr3.setc 2 (.int .i64 pl)).setc 3 (.int .i64 m)).drew
 rw [zmq, zmr] at hr4
 have ho4 := ((Only.setCell w3 g2 2 (.int .i64 pl)).trans (Only.setCell _ g2 3 (.int .i64 m))).drew
 obtain ⟨w4, hw4⟩ : ∃ x, x = ((w3.setCell ⟨g2, 2, none⟩ (Value.int .i64 pl)).setCell ⟨g2, 3, none⟩ (.int .i64 m)).drew := ⟨_, rfl⟩
 rw [← hw4] at hr4 ho4 ⊢
 have hS4 : HS g1 (bv hb) 139 g2 52 w4 := by rw [hw4]; exact ((hS3.setc hne _ _).setc hne _ _).drew
 clear hw4 hS3 hS
 have hbl : (zcL hb).length = 48 := by rw [zcL, List.length_drop, HL.out]
 have hrb : w4.rangeAt g1 16 (bv (zcL hb)) := by
  refine hS4.1.range 16 _ fun j v hv => ?_
  rw [zcL, zcT, List.getElem?_drop] at hv
  exact hv
 have HB := Lib.hid hbl
 have HRB := Lib.hid hrb
 clear hbl hrb
 go_wp2_with (first
  | (with_reducible refine zdE (.load 138 _) ?_; refine zct rfl 138 _ rfl g1 16 rfl (bv (zcL hb)) HRB.out row58 (by rw [zae, HB.out]; exact size58) ?_)
  | (with_reducible refine zdE (.store 138 _ _) ?_; refine zbQ rfl 138 _ _ rfl g2 4 rfl (bv (zcL hb)) rfl _ 141 hr4 (by rw [zae, HB.out]; exact size58) (by rw [zcz, zae, HB.out, zaI, List.length_replicate]; omega) (zaL _) ?_; intro l5 w5 HL5 hr5 ho5))
 have h5 : l5 = zbC c n pl m (zcL hb) := by rw [HL5.out, zms _ _ _ _ _ _ (by rw [HB.out, zaI, List.length_replicate])]
 have hp : ∀ v ∈ l5, v.oneCell' = true := by rw [h5]; exact zfh _ _ _ _ _
 have h52 : l5.length = 52 := by rw [h5, zcz, HB.out]
 have H5 := Lib.hid h5
 have ht : ∀ w', row w' g2 l5 141 → w'.rangeAt g2 0 [.int .u64 c, .int .i64 n] := fun w' h => h.range 0 _ fun j v hv => by
  rw [h5]
  rcases j with _ | _ | j
  ·exact hv
  ·exact hv
  ·simp at hv
 refine wp_region_held_drew (S := fun w' => row w' g2 l5 141) (by kernel_rfl) (row.drew hr5) (fun hH => ?_)
 refine wpAnyH_take (i := 1) (v := .pointer (some ⟨g2, 0, none⟩)) rfl (by kernel_rfl) (by kernel_rfl) (by kernel_rfl) (fun _ _ _ h => h) (Or.inl ⟨by rfl, fun w _ => by go_simp⟩) hH ?_
 refine wpAnyH_take (i := 0) (v := .agg l5.toArray) rfl (by kernel_rfl) (by kernel_rfl) (by kernel_rfl) (fun _ _ _ h => h) (Or.inl ⟨by rfl, fun w h => zeL _ 141 _ rfl g2 0 rfl l5 h.zha row61 (by rw [h52]; exact znl)⟩) hH ?_
 refine wpAnyH_take (i := 2) (v := .agg #[.int .u64 c, .int .i64 n]) rfl (by kernel_rfl) (by kernel_rfl) (by kernel_rfl) (fun _ _ _ h => h) (Or.inl ⟨by rfl, fun w h => zeL _ 115 _ rfl g2 0 rfl [.int .u64 c, .int .i64 n] (ht w h) row24 size24⟩) hH ?_
 refine wpAnyH_ready (rs := [3]) (by kernel_rfl) (by simp) ?_
 have call10 : ∀ w', (callFunc 94 (#[] ++ #[Value.agg #[.int .u64 c, .int .i64 n]] ++ #[])).run Tryz.prog w' = .ok (.enter 94 #[.agg #[.int .u64 c, .int .i64 n]]) w' := fun w' => by go_simp
 refine AllReadyH.cons rfl (fun K hK => ?_) AllReadyH.nil
 refine zjv rfl 94 _ _ rfl [.agg #[.int .u64 c, .int .i64 n]] rfl (call10 _) ((may10 c n _).mono ?_)
 rintro e w6 ⟨rfl, hb6⟩
 refine ⟨_, rfl, hK.out _ _ (row.new hH hb6) (fun hH6 => ?_)⟩
 refine wpAnyH_ready (rs := [4]) (by kernel_rfl) (by simp) ?_
 refine AllReadyH.cons rfl (fun K hK => ?_) AllReadyH.nil
 refine ziE rfl 141 _ _ rfl g2 0 rfl l5 rfl l5 141 hH6 (by rw [h52]; exact znl) (by omega) hp ?_
 intro l7 w7 HL7 hr7 ho7
 rw [show l7 = l5 by rw [HL7.out, zdx _ _ rfl]] at hr7
 refine hK.out _ _ hr7 (fun hH7 => ?_)
 refine wpAnyH_take (i := 5) (v := .bool (zeb c n)) rfl (by kernel_rfl) (by kernel_rfl) (by kernel_rfl) (fun _ _ _ h => h) (Or.inl ⟨by rfl, fun w _ => by rfl⟩) hH7 ?_
 refine wpAnyH_done (by kernel_rfl) ?_ _
 go_wp2
 refine bodyPost_ret (zgn rfl _ _ g2 141 _ rfl hr7 row61 (by rw [h52]; exact znl)) rfl ?_
 rw [H5.out]
 refine ⟨rfl, ?_⟩
 have e1 := hb1.trans (hb2.mono hb1.size)
 have hg : w.heap.size ≤ g2 := Nat.le_trans hb1.size hg2
 have e2 := ho5.below (ho4.below (ho3.below e1 hg) hg) hg
 exact ho7.below (e2.drew.trans (hb6.mono e2.size)) hg
theorem znm (m x i : Nat) (h : i < m) : (beB m x)[i]? = some (UInt8.ofNat (x / 256 ^ (m - 1 - i))) := by
 induction m generalizing i with
 | zero => omega
 | succ m ih =>
  rw [zoJ]
  rcases i with _ | i
  ·simp
  ·rw [List.getElem?_cons_succ, ih i (by omega), show m - 1 - i = m + 1 - 1 - (i + 1) by omega]
theorem zkW (l : List Value) (off : Nat) (m x i : Nat) (h : i < m) (hl : off + m ≤ l.length) :
  (splice l off (bv ((beB m x).take i))).set (off + i) (zcS (UInt8.ofNat (x / 256 ^ (m - 1 - i)))) = splice l off (bv ((beB m x).take (i + 1))) := by
 have e : (beB m x).take (i + 1) = (beB m x).take i ++ [UInt8.ofNat (x / 256 ^ (m - 1 - i))] := by rw [List.take_add_one, znm _ _ _ h]; rfl
 have hlen : (bv ((beB m x).take i)).length = i := by rw [zae, List.length_take, zaG]; omega
 have hlen2 : (bv ((beB m x).take (i + 1))).length = i + 1 := by rw [zae, List.length_take, zaG]; omega
 rw [splice, splice, hlen2, hlen, e, zbI, List.set_append_right _ _ (by simp; omega), List.set_append_right _ _ (by simp; omega)]
 rw [List.length_take, Nat.min_eq_left (by omega), hlen, Nat.add_sub_cancel_left, Nat.sub_self]
 have : l.drop (off + i) = l[off + i]'(by omega) :: l.drop (off + i + 1) := List.drop_eq_getElem_cons (by omega)
 rw [this]
 simp [bv, Nat.add_assoc]
theorem zlD (x k : Nat) : Value.int .u8 ((x : Int) / 2 ^ (8 * k) % 256) = zcS (UInt8.ofNat (x / 256 ^ k)) := by
 have h : (256 : Nat) ^ k = 2 ^ (8 * k) := by rw [show 256 = 2 ^ 8 by rfl, ← Nat.pow_mul]
 rw [zcS, h]
 congr 1
theorem put38 (x m : Nat) (hm : m ≤ 8) (gh ga : Nat) (l : List Value) (at_ : Nat) (w : World) (hr : row w gh l 139) (hl : l.length = 64) (ha : row w ga [.int .i64 at_] 3) (hat : at_ + m ≤ 64) (hne : gh ≠ ga) :
  Calls Tryz.prog 107 #[.int .u64 x, .int .i64 m, .pointer (some ⟨gh, 0, none⟩), .pointer (some ⟨ga, 0, none⟩)] w fun e w' => e = .returned (.tuple #[]) ∧ row w' gh (splice l at_ (bv (beB m x))) 139 ∧ row w' ga [.int .i64 (at_ + m : Nat)] 3 ∧
   ∀ B, B ≤ gh → B ≤ ga → Below B w w' := by
 go_enter Tryz.func107, Tryz.ntmps107
 go_wp2
 go_loopw [8] (fun i wr => ∃ k : Nat, k ≤ m ∧ i = .int .i64 k ∧ row wr gh (splice l at_ (bv ((beB m x).take k))) 139 ∧ row wr ga [.int .i64 at_] 3 ∧ ∀ B, B ≤ gh → B ≤ ga → Below B w wr) (fun i _ => m - (intOf i).toNat)
 case atStart => exact ⟨0, by omega, rfl, by simpa [splice, bv] using hr, ha, fun B _ _ => Below.refl B w⟩
 case round =>
  obtain ⟨k, hk, rfl, hr2, ha2, hb2⟩ := hrel
  by_cases hlt : k < m
  ·have hc := ha2.cell 0 (v := .int .i64 at_) rfl
   have hlen : (splice l at_ (bv ((beB m x).take k))).length = 64 := by rw [length_splice _ _ _ (by rw [zae, List.length_take, zaG]; omega), hl]
   obtain ⟨u, hu⟩ : ∃ u, (splice l at_ (bv ((beB m x).take k)))[at_ + k]? = some u := ⟨_, List.getElem?_eq_getElem (by omega)⟩
   have hd := hr2.cell (at_ + k) hu
   have hf := hr2.frozen (at_ + k)
   have H2 := Lib.hid hr2
   have A2 := Lib.hid ha2
   have B2 := Lib.hid hb2
   have HL := Lib.hid hl
   clear hr2 ha2 hb2 hlen hu hr ha hl
   go_wp2
   go_region
   go_wp2
   go_roundw
   case rel =>
    refine ⟨k + 1, by omega, by go_num, ?_, ?_, ?_⟩
    ·have := (H2.out.setc (at_ + k) (zcS (UInt8.ofNat (x / 256 ^ (m - 1 - k))))).drew
     rw [zkW _ _ _ _ _ hlt (by rw [HL.out]; omega)] at this
     rw [zlD]
     exact this
    ·exact (A2.out.only (Only.setCell _ gh _ _) (by omega)).drew
    ·exact fun B h1 h2 => ((Only.setCell _ gh _ _).below (B2.out B h1 h2) h1).drew
   case measure => simp [intOf] <;> omega
  ·obtain rfl : k = m := by omega
   have hc := ha2.cell 0 (v := .int .i64 at_) rfl
   have hf := ha2.frozen 0
   have hfull : (beB k x).take k = beB k x := List.take_of_length_le (by rw [zaG]; omega)
   rw [hfull] at hr2
   have H2 := Lib.hid hr2
   have A2 := Lib.hid ha2
   have B2 := Lib.hid hb2
   clear hr2 ha2 hb2 hr ha hl hfull
   go_wp2
   go_end0
   refine ⟨rfl, H2.out.only (Only.setCell _ ga _ _) hne, ?_, fun B h1 h2 => (Only.setCell _ ga _ _).below (B2.out B h1 h2) h2⟩
   have := A2.out.setc 0 (.int .i64 (at_ + k : Nat))
   simpa using this
def zcd (c n p m : Nat) (b : List UInt8) : List UInt8 := beB 8 c ++ (beB 4 n ++ (beB 2 p ++ (beB 2 m ++ b)))
theorem zb1 (c n p m : Nat) (b : List UInt8) : (zcd c n p m b).length = 16 + b.length := by simp [zcd, zaG]; omega
theorem zc9 {α : Type} (pre x y post : List α) (h : x.length = y.length) : splice (pre ++ (x ++ post)) pre.length y = pre ++ (y ++ post) := by
 rw [splice, List.take_left, ← h, ← List.drop_drop, List.drop_left, List.drop_left]
theorem zkX (c n p m : Nat) (b : List UInt8) (hb : b.length = 48) :
  splice (splice (splice (splice (splice (bv (zaI 64)) 0 (bv (beB 8 c))) 8 (bv (beB 4 n))) 12 (bv (beB 2 p))) 14 (bv (beB 2 m))) 16 (bv b) = bv (zcd c n p m b) := by
 have z : bv (zaI 64) = [] ++ (bv (zaI 8) ++ (bv (zaI 4) ++ (bv (zaI 2) ++ (bv (zaI 2) ++ bv (zaI 48))))) := by simp only [← zbI, List.nil_append]; rfl
 have l8 : (bv (zaI 8)).length = (bv (beB 8 c)).length := by rw [zae, zae, zaG]; rfl
 have l4 : (bv (zaI 4)).length = (bv (beB 4 n)).length := by rw [zae, zae, zaG]; rfl
 have l2 : (bv (zaI 2)).length = (bv (beB 2 p)).length := by rw [zae, zae, zaG]; rfl
 have l2' : (bv (zaI 2)).length = (bv (beB 2 m)).length := by rw [zae, zae, zaG]; rfl
 have l48 : (bv (zaI 48)).length = (bv b).length := by rw [zae, zae, hb]; rfl
 have k8 : (bv (beB 8 c)).length = 8 := by rw [zae, zaG]
 have k12 : (bv (beB 8 c) ++ bv (beB 4 n)).length = 12 := by rw [List.length_append, zae, zae, zaG, zaG]
 have k14 : ((bv (beB 8 c) ++ bv (beB 4 n)) ++ bv (beB 2 p)).length = 14 := by rw [List.length_append, k12, zae, zaG]
 have k16 : (((bv (beB 8 c) ++ bv (beB 4 n)) ++ bv (beB 2 p)) ++ bv (beB 2 m)).length = 16 := by rw [List.length_append, k14, zae, zaG]
 rw [z]
 have s1 := zc9 [] (bv (zaI 8)) (bv (beB 8 c)) (bv (zaI 4) ++ (bv (zaI 2) ++ (bv (zaI 2) ++ bv (zaI 48)))) l8
 simp only [List.length_nil] at s1
 rw [s1, List.nil_append]
 have s2 := zc9 (bv (beB 8 c)) (bv (zaI 4)) (bv (beB 4 n)) (bv (zaI 2) ++ (bv (zaI 2) ++ bv (zaI 48))) l4
 rw [k8] at s2
 rw [s2, ← List.append_assoc]
 have s3 := zc9 (bv (beB 8 c) ++ bv (beB 4 n)) (bv (zaI 2)) (bv (beB 2 p)) (bv (zaI 2) ++ bv (zaI 48)) l2
 rw [k12] at s3
 rw [s3, ← List.append_assoc]
 have s4 := zc9 ((bv (beB 8 c) ++ bv (beB 4 n)) ++ bv (beB 2 p)) (bv (zaI 2)) (bv (beB 2 m)) (bv (zaI 48)) l2'
 rw [k14] at s4
 rw [s4, ← List.append_assoc]
 have s5 := zc9 (((bv (beB 8 c) ++ bv (beB 4 n)) ++ bv (beB 2 p)) ++ bv (beB 2 m)) (bv (zaI 48)) (bv b) [] l48
 rw [k16, List.append_nil, List.append_nil] at s5
 rw [s5, zcd]
 simp only [zbI, List.append_assoc]
structure BI (B g1 g2 ga : Nat) (L l : List Value) (x : Int) (w0 w : World) : Prop where
 p : row w g1 L 141
 h : row w g2 l 139
 a : row w ga [.int .i64 x] 3
 b : Below B w0 w
 o1 : g1 < g2
 o2 : g2 < ga
 o3 : B ≤ g1
 len : l.length = 64
theorem zgZ {B g1 g2 ga : Nat} {L l : List Value} {x : Nat} {w0 w : World} (h : BI B g1 g2 ga L l x w0 w) (v m : Nat) (hm : m ≤ 8) (hx : x + m ≤ 64) :
  Calls Tryz.prog 107 #[.int .u64 v, .int .i64 m, .pointer (some ⟨g2, 0, none⟩), .pointer (some ⟨ga, 0, none⟩)] w fun e w' => e = .returned (.tuple #[]) ∧ BI B g1 g2 ga L (splice l x (bv (beB m v))) ((x + m : Nat) : Int) w0 w' := by
 have := h.o2
 refine (put38 v m hm g2 ga l x w h.h h.len h.a hx (by omega)).mono ?_
 rintro e w' ⟨rfl, h1, h2, h3⟩
 have hb := h3 g2 (Nat.le_refl _) (by omega)
 exact ⟨rfl, h.p.below hb h.o1, h1, h2, h.b.trans (hb.mono (by have := h.o1; have := h.o3; omega)), h.o1, h.o2, h.o3, by rw [length_splice _ _ _ (by rw [zae, zaG, h.len]; omega), h.len]⟩
theorem BI.c0 {B g1 g2 ga : Nat} {c n p m : Int} {b : List UInt8} {l : List Value} {x : Int} {w0 w : World} (h : BI B g1 g2 ga (zbC c n p m b) l x w0 w) : w.cell? ⟨g1, 0, none⟩ = some (.int .u64 c) := h.p.cell 0 rfl
theorem BI.c1 {B g1 g2 ga : Nat} {c n p m : Int} {b : List UInt8} {l : List Value} {x : Int} {w0 w : World} (h : BI B g1 g2 ga (zbC c n p m b) l x w0 w) : w.cell? ⟨g1, 1, none⟩ = some (.int .i64 n) := h.p.cell 1 rfl
theorem BI.c2 {B g1 g2 ga : Nat} {c n p m : Int} {b : List UInt8} {l : List Value} {x : Int} {w0 w : World} (h : BI B g1 g2 ga (zbC c n p m b) l x w0 w) : w.cell? ⟨g1, 2, none⟩ = some (.int .i64 p) := h.p.cell 2 rfl
theorem BI.c3 {B g1 g2 ga : Nat} {c n p m : Int} {b : List UInt8} {l : List Value} {x : Int} {w0 w : World} (h : BI B g1 g2 ga (zbC c n p m b) l x w0 w) : w.cell? ⟨g1, 3, none⟩ = some (.int .i64 m) := h.p.cell 3 rfl
theorem BI.start {L : List Value} {w : World} {g1 g2 ga : Nat} {w1 w2 w3 w4 : World} {l4 : List Value} (a1 : w.heap.size ≤ g1) (a2 : row w1 g1 L 141) (a3 : Below w.heap.size w w1) (b1 : w1.heap.size ≤ g2) (b2 : row w2 g2 (bv (zaI 64)) 139) (b3 : Below w1.heap.size w1 w2)
  (c1 : w2.heap.size ≤ ga) (_c2 : row w3 ga [.int .i64 0] 3) (c3 : Below w2.heap.size w2 w3) (d1 : Hid (l4 = splice [.int .i64 0] 0 [.int .i64 0])) (d2 : row w4 ga l4 3) (d3 : Only ga w3 w4) : BI w.heap.size g1 g2 ga L (bv (zaI 64)) ((0 : Nat) : Int) w w4 := by
 have e1 := a2.lt
 have e2 := b2.lt
 have e3 := a3.size
 have e4 := b3.size
 rw [show l4 = [.int .i64 0] from d1.out] at d2
 exact ⟨((a2.new b3).new c3).only d3 (by omega), (b2.new c3).only d3 (by omega), d2, d3.below ((a3.trans (b3.mono e3)).trans (c3.mono (by omega))) (by omega), by omega, by omega, a1, by rw [zae]; rfl⟩
theorem bytes27 (c n p m : Nat) (b : List UInt8) (hb : b.length = 48) (_hc : c < 18446744073709551616) (hn : n < 4294967296) (hp : p < 65536) (hm : m < 65536) (w : World) :
    Calls Tryz.prog 96 #[.agg (zbC c n p m b).toArray] w fun e w' => e = .returned (.agg (bv (zcd c n p m b)).toArray) ∧ Below w.heap.size w w' := by
  have HB := Lib.hid hb
  clear hb
  have wn : IntKind.u64.wrap (n : Int) = n := by rw [IntKind.wrap_u64]; omega
  have wp : IntKind.u64.wrap (p : Int) = p := by rw [IntKind.wrap_u64]; omega
  have wm : IntKind.u64.wrap (m : Int) = m := by rw [IntKind.wrap_u64]; omega
  have hz3 : (Tryz.prog.info? 3).map (fun i => i.zero.map (·.cells)) = some (some [Value.int .i64 0].toArray) := by kernel_rfl
  go_enter Tryz.func96, Tryz.ntmps96
  go_wp2_with (first
    | (with_reducible refine zdE (.box 141 _) ?_; refine zdf rfl 141 _ rfl (zbC c n p m b) rfl ?_; intro g1 w1 hg1 hr1 hb1)
    | (with_reducible refine zdE (.alloc 139) ?_; refine zbL rfl 139 rfl _ zgJ ?_; intro g2 w2 hg2 hr2 hb2)
    | (with_reducible refine zdE (.alloc 3) ?_; refine zbL rfl 3 rfl _ hz3 ?_; intro ga w3 hga ha3 hb3)
    | (with_reducible refine zdE (.store 3 _ _) ?_; refine zbQ rfl 3 _ _ rfl ga 0 rfl [.int .i64 0] rfl _ 3 ha3 (by kernel_rfl) (by simp) (by simp [Value.oneCell']) ?_; intro l4 w4 HL4 hr4 ho4
       have I0 := BI.start hg1 hr1 hb1 hg2 hr2 hb2 hga ha3 hb3 HL4 hr4 ho4
       clear hg1 hr1 hb1 hg2 hr2 hb2 hga ha3 hb3 HL4 hr4 ho4
       have q0 := I0.c0)
    | (go_at_call_of 107 (Value.int .u64 (c : Int)); refine (zgZ I0 c 8 (by omega) (by omega)).mono ?_; rintro e w5 ⟨rfl, I1⟩; clear I0 q0; have q1 := I1.c1)
    | (go_at_call_of 107 (Value.int .u64 (n : Int)); refine (zgZ I1 n 4 (by omega) (by omega)).mono ?_; rintro e w6 ⟨rfl, I2⟩; clear I1 q1; have q2 := I2.c2)
    | (go_at_call_of 107 (Value.int .u64 (p : Int)); refine (zgZ I2 p 2 (by omega) (by omega)).mono ?_; rintro e w7 ⟨rfl, I3⟩; clear I2 q2; have q3 := I3.c3)
    | (go_at_call_of 107 (Value.int .u64 (m : Int)); refine (zgZ I3 m 2 (by omega) (by omega)).mono ?_; rintro e w8 ⟨rfl, I4⟩; clear I3 q3))
  have hx : row w8 ga [.int .i64 16] 3 := I4.a
  have hg2 := I4.h
  rw [show ((0 + 8 + 4 : Nat) + 2 : Nat) = 14 from rfl, show ((0 + 8 : Nat) + 4 : Nat) = 12 from rfl, show (0 + 8 : Nat) = 8 from rfl] at hg2
  have hlen := I4.len
  rw [show ((0 + 8 + 4 : Nat) + 2 : Nat) = 14 from rfl, show ((0 + 8 : Nat) + 4 : Nat) = 12 from rfl, show (0 + 8 : Nat) = 8 from rfl] at hlen
  have hst := zkX c n p m b HB.out
  generalize splice (splice (splice (splice (bv (zaI 64)) 0 (bv (beB 8 c))) 8 (bv (beB 4 n))) 12 (bv (beB 2 p))) 14 (bv (beB 2 m)) = l8 at hg2 hlen hst
  have hp1 := I4.p
  have hob := I4.b
  have o2 := I4.o2
  have o1 := I4.o1
  have o3 := I4.o3
  clear I4
  have hx0 := hx.cell 0 (v := .int .i64 16) rfl
  have hsrc : ∀ j v, (bv b)[j]? = some v → w8.drew.cell? ((⟨g1, 4, none⟩ : Addr).add j) = some v := fun j v hv => by
    rw [Addr.add_lit]
    exact hp1.drew.cell (4 + j) (by rw [zbC, List.getElem?_append_right (by simp)]; simpa using hv)
  have HS := Lib.hid hsrc
  have HST := Lib.hid hst
  have HL := Lib.hid hlen
  clear hsrc hst hlen
  go_region_held3 (fun w' => w'.cell? ⟨ga, 0, none⟩ = some (.int .i64 16)) (first | assumption | go_keep)
    (first
      | (refine zgC rfl _ _ _ _ rfl 5 (by kernel_rfl) (by kernel_rfl) _ _ _ _ _ _ rfl rfl g2 16 l8 139 hg2.drew (bv b) (by rw [zae, HB.out]; rfl) (fun _ => ⟨rfl, _, rfl, HS.out⟩) (by rw [zae, HB.out, HL.out]; omega) (zaL b) ?_; intro l9 w9 HL9 hr9 ho9
         have hx9 : w9.cell? ⟨ga, 0, none⟩ = some (.int .i64 16) := (hx.drew.only ho9 (by omega)).cell 0 rfl))
  have h9 : l9 = bv (zcd c n p m b) := by rw [HL9.out]; exact HST.out
  have h64 : (bv (zcd c n p m b)).length = 64 := by rw [zae, zb1, HB.out]
  have hb9 := ho9.below hob.drew (by omega)
  rw [h9] at hr9
  have HR9 := Lib.hid hr9
  have H64 := Lib.hid h64
  have HB9 := Lib.hid hb9
  clear h9 HL9 hr9 h64 hb9 hx9 hg2 ho9 HST HS hob hp1 hx hx0
  go_wp2_with (first
    | (with_reducible refine zdE (.load 139 _) ?_; refine zct rfl 139 _ rfl g2 0 rfl (bv (zcd c n p m b)) HR9.out.zha zoK (by rw [H64.out]; exact zil) ?_)
    | (with_reducible refine zdE (.store 139 _ _) ?_; refine zbQ rfl 139 _ _ rfl g2 0 rfl (bv (zcd c n p m b)) rfl _ 139 HR9.out (by rw [H64.out]; exact zil) (by rw [H64.out]; omega) (zaL _) ?_; intro l10 w10 HL10 hr10 ho10))
  rw [show l10 = bv (zcd c n p m b) by rw [HL10.out, zdx _ _ rfl]] at hr10
  refine bodyPost_ret (zdn rfl _ _ g2 139 _ rfl hr10 zoK (by rw [H64.out]; exact zil)) rfl ?_
  exact ⟨rfl, ho10.below HB9.out (by omega)⟩
def zf4 (a b : List UInt8) : List UInt8 := a.take 64 ++ b.drop 64
theorem zgL (a b : List UInt8) (ha : a.length = 128) (hb : b.length = 128) : (zf4 a b).length = 128 := by simp [zf4]; omega
theorem torn23 (a b : List UInt8) (ha : a.length = 128) (hb : b.length = 128) (w : World) : Calls Tryz.prog 98 #[.agg (bv a).toArray, .agg (bv b).toArray] w fun e w' => e = .returned (.agg (bv (zf4 a b)).toArray) ∧ Below w.heap.size w w' := by
 have HA := Lib.hid ha
 have HB := Lib.hid hb
 clear ha hb
 go_enter Tryz.func98, Tryz.ntmps98
 go_wp2_with (first
  | (with_reducible refine zdE (.box 94 (.tmp 0)) ?_; refine zdf rfl 94 _ rfl (bv a) rfl ?_; intro g1 w1 hg1 hr1 hb1)
  | (with_reducible refine zdE (.box 94 (.tmp 1)) ?_; refine zdf rfl 94 _ rfl (bv b) rfl ?_; intro g2 w2 hg2 hr2 hb2)
  | (with_reducible refine zdE (.alloc 94) ?_; refine zbL rfl 94 rfl _ zgK ?_; intro g3 w3 hg3 hr3 hb3))
 have h1 := (hr1.new hb2).new hb3
 have h2 := hr2.new hb3
 have o12 : g1 < g2 := by have := hr1.lt; omega
 have o23 : g2 < g3 := by have := hr2.lt; omega
 have hbb := (hb1.trans (hb2.mono hb1.size)).trans (hb3.mono (Nat.le_trans hb1.size hb2.size))
 have hsrc : ∀ j v, (bv (a.take 64))[j]? = some v → w3.drew.cell? ((⟨g1, 0, none⟩ : Addr).add j) = some v := fun j v hv => by
  rw [Addr.add_lit]
  rw [zdD, List.getElem?_take] at hv
  split at hv
  ·exact h1.drew.cell (0 + j) (by rwa [Nat.zero_add])
  ·cases hv
 have HS := Lib.hid hsrc
 have hl64 : (bv (a.take 64)).length = 64 := by rw [zae, List.length_take, HA.out]; rfl
 have H64 := Lib.hid hl64
 clear hsrc hl64
 go_region_held3 (fun _ => True) (exact trivial)
  (first
   | (refine zgC rfl _ _ _ _ rfl 5 (by kernel_rfl) (by kernel_rfl) _ _ _ _ _ _ rfl rfl g2 0 (bv b) 94 h2.drew (bv (a.take 64)) (by rw [H64.out]; rfl) (fun _ => ⟨rfl, _, rfl, HS.out⟩) (by rw [H64.out, zae, HB.out]; omega) (zaL _) ?_; intro l9 w9 HL9 hr9 ho9))
 have h9 : l9 = bv (zf4 a b) := by
  rw [HL9.out, splice, H64.out, zf4, zbI, zcT]
  simp
 rw [h9] at hr9
 have h128 : (bv (zf4 a b)).length = 128 := by rw [zae, zgL _ _ HA.out HB.out]
 have hr39 := hr3.drew.only ho9 (by omega)
 have hb9 := ho9.below hbb.drew (by omega)
 have HR := Lib.hid hr9
 have H128 := Lib.hid h128
 clear h9 HL9 hr9 h128 HS
 go_wp2_with (first
  | (with_reducible refine zdE (.load 94 _) ?_; refine zct rfl 94 _ rfl g2 0 rfl (bv (zf4 a b)) HR.out.zha row48 (by rw [H128.out]; exact zjQ) ?_)
  | (with_reducible refine zdE (.store 94 _ _) ?_; refine zbQ rfl 94 _ _ rfl g3 0 rfl (bv (zf4 a b)) rfl _ 94 hr39 (by rw [H128.out]; exact zjQ) (by rw [H128.out, zae, zaI, List.length_replicate]; omega) (zaL _) ?_; intro l10 w10 HL10 hr10 ho10))
 rw [show l10 = bv (zf4 a b) by rw [HL10.out, zdx _ _ (by rw [H128.out, zae, zaI, List.length_replicate])]] at hr10
 refine bodyPost_ret (zdn rfl _ _ g3 94 _ rfl hr10 row48 (by rw [H128.out]; exact zjQ)) rfl ?_
 exact ⟨rfl, ho10.below hb9 (by have := hb1.size; have := hb2.size; omega)⟩
def tagC (h : List UInt8) : Nat := bif zeb (za0 h) (zcR h) then za0 h else 0
def tagN (h : List UInt8) : Nat := bif zeb (za0 h) (zcR h) then zcR h else 0
theorem zjS : (Tryz.prog.info? 115).map (fun i => i.zero.map (·.cells)) = some (some [Value.int .u64 0, .int .i64 0].toArray) := by kernel_rfl
theorem zhu {l : List Value} {a b : Value} (h0 : l[0]? = some a) (h1 : l[1]? = some b) : ∀ j v, [a, b][j]? = some v → l[0 + j]? = some v := by
 intro j v hv
 rcases j with _ | _ | j
 ·rw [h0]; simpa using hv
 ·rw [Nat.zero_add, h1]; simpa using hv
 ·simp at hv
def zoL : Value := .tuple #[.agg #[.int .u64 0, .int .i64 0], .slice none 0 0, .int .i64 0, .int .i64 4]
theorem zi1 {fn : Func} {p q r s : Tmp} {ty : TypeId} (h : fn.results = #[.cell p ty, .tmp q, .tmp r, .tmp s]) {P : Program} (tmps : Array Value) (w : World) (g : Nat) (t : TypeId) (cs : List Value) (hp : tmps.getD p undef = .pointer (some ⟨g, 0, none⟩))
  (hg : row w g cs t) (hu : (P.underlying ty).any (·.isRow) = true) (hi : (P.info? ty).map (·.size) = some cs.length) : (results fn tmps).run P w = .ok (.tuple #[.agg cs.toArray, tmps.getD q undef, tmps.getD r undef, tmps.getD s undef]) w := by
 cases hd : P.underlying ty with
 | none => simp [hd] at hu
 | some d =>
  have hr : d.isRow = true := by simpa [hd] using hu
  have hp' : tmps[p]?.getD undef = .pointer (some ⟨g, 0, none⟩) := by simpa using hp
  have hc : w.rangeAt g 0 cs := hg.range 0 cs fun j v hv => by simpa using hv
  simp [results, h, hp', asAddr, run_loadVar_mid w g 0 ty cs d hc hd hr hi]
theorem none30 (w : World) : Calls Tryz.prog 121 #[] w fun e w' => e = .returned (.tuple #[.agg #[.int .u64 0, .int .i64 0], .slice none 0 0, .int .i64 0, .int .i64 4]) ∧ Below w.heap.size w w' := by
 go_enter Tryz.func121, Tryz.ntmps121
 go_wp2_with (first
  | (with_reducible refine zdE (.alloc 115) ?_; refine zbL rfl 115 rfl _ zjS ?_; intro g2 w2 hg2 hr2 hb2)
  | (with_reducible refine zdE (.store 115 _ _) ?_; refine zbQ rfl 115 _ _ rfl g2 0 rfl [.int .u64 0, .int .i64 0] rfl _ 115 hr2 (by kernel_rfl) (by simp) (by simp [Value.oneCell']) ?_; intro l8 w8 HL8 hr8 ho8))
 rw [show l8 = _ from HL8.out.trans (zdx _ _ rfl)] at hr8
 refine bodyPost_ret (zi1 rfl _ _ g2 115 _ rfl hr8 row24 (by kernel_rfl)) rfl ?_
 exact ⟨rfl, ho8.below hb2 hg2⟩
def zmQ (b : List UInt8) : List UInt8 := beB 4 b.length ++ b ++ zaI (48 * za1 b.length - (4 + b.length))
def zbS (b : List UInt8) (i : Nat) : List UInt8 := ((zmQ b).drop (48 * i)).take 48
def zbY (c n : Nat) (b : List UInt8) : List (List UInt8) := (List.range (za1 b.length)).map fun i => zcd c n i (za1 b.length) (zbS b i)
theorem zf5 (n : Nat) : 4 + n ≤ 48 * za1 n := by unfold za1; omega
theorem zet (b : List UInt8) : (zmQ b).length = 48 * za1 b.length := by
 have := zf5 b.length
 simp [zmQ, zaG, zaI]; omega
theorem zcV (b : List UInt8) (i : Nat) (h : i < za1 b.length) : (zbS b i).length = 48 := by
 simp [zbS, zet]; omega
theorem lenV (n : Nat) (x : Nat) : (bv (beB n x)).length = n * 1 := by simp [zae, zaG]
theorem zhv (n : Nat) (hn : n ≤ 1000000) (w : World) : Calls Tryz.prog 91 [.int .i64 n].toArray w (Ret fun v w' => v = .int .i64 (za1 n) ∧ w = w') := zcB (zlB n hn w)
def zjT (b : List UInt8) (i : Nat) : List Value := [.int .i64 i, .agg (bv (zbS b i)).toArray]
def zdL (b : List UInt8) : List (List Value) := (List.range (za1 b.length)).map (zjT b)
theorem zjU (b : List UInt8) (i : Nat) (hi : i < za1 b.length) : splice (List.replicate 48 (zcS 0)) 0 (bv (((beB 4 b.length ++ b).drop (48 * i)).take 48)) = bv (zbS b i) := by
 have h1 := zet b
 have h2 := zf5 b.length
 have hal : zmQ b = (beB 4 b.length ++ b) ++ zaI (48 * za1 b.length - (4 + b.length)) := by simp [zmQ]
 obtain ⟨A, hA⟩ : ∃ A, A = beB 4 b.length ++ b := ⟨_, rfl⟩
 have hl : A.length = 4 + b.length := by rw [hA]; simp [zaG]
 rw [zbS, hal, ← hA]
 have hz : List.replicate 48 (zcS 0) = bv (zaI 48) := (zf3 48).symm
 rw [hz, List.drop_append, List.take_append]
 have h3 : ((A.drop (48 * i)).take 48).length = min 48 (A.length - 48 * i) := by simp
 rw [splice, List.take_zero, List.nil_append, Nat.zero_add, zae, h3, zbI, ← zcT]
 congr 2
 simp only [zaI, List.drop_replicate, List.take_replicate, List.length_drop]
 congr 1
 have : za1 b.length ≤ (b.length + 51) / 48 := Nat.le_refl _
 omega
theorem bytes4 (n : Nat) : [Value.int .u8 (IntKind.u8.wrap ((n : Int).fdiv (2 ^ 24))), .int .u8 (IntKind.u8.wrap ((n : Int).fdiv (2 ^ 16))), .int .u8 (IntKind.u8.wrap ((n : Int).fdiv (2 ^ 8))), .int .u8 (IntKind.u8.wrap (n : Int))] = bv (beB 4 n) := by
 simp only [beB, bv, List.map_append, List.map_cons, List.map_nil, List.nil_append, List.cons_append, zcS, Int.fdiv_eq_ediv_of_nonneg _ (by omega : (0 : Int) ≤ 2 ^ 24), Int.fdiv_eq_ediv_of_nonneg _ (by omega : (0 : Int) ≤ 2 ^ 16), Int.fdiv_eq_ediv_of_nonneg _ (by omega : (0 : Int) ≤ 2 ^ 8), IntKind.wrap_u8]
 simp
 omega
set_option maxRecDepth 20000 in
set_option maxHeartbeats 1000000 in
theorem znn (b : List UInt8) (g3 g4 ga oa n c : Nat) (w : World) (hl : b.length = n) (hn : n ≤ 40000) (r3 : row w g3 [.int .i64 n] 3) (r4 : row w g4 [.slice (some ⟨ga, oa, none⟩) (4 + n) c] 31)
   (hs : za9 w (some ⟨ga, oa, none⟩) (4 + n) 1 (bv (beB 4 n ++ b))) (hcap : 4 + n ≤ c) : SeqT Tryz.prog 106 [.pointer (some ⟨g3, 0, none⟩), .pointer (some ⟨g4, 0, none⟩)] (zdL b) [g3, g4, ga] w := by
 intro l J Jx W hbW hJ hJx hy h0
 have r3W := r3.new hbW
 have r4W := r4.new hbW
 have hsW := hs.new hbW
 have hgaW := hsW.some (by omega)
 obtain ⟨_, _, heq, hgaW⟩ := hgaW
 cases heq
 have hB := Below.refl W.heap.size W
 refine zaw (fn := Tryz.f106) (rs := []) (n := 23) Tryz.func106 rfl rfl Tryz.ntmps106 (by kernel_rfl) rfl ?_
 refine zak (zac ?_)
 refine zaa rfl (zam rfl (Ld.zbb r3W (by kernel_rfl) rfl)) ?_
 refine zat rfl (zao (by kernel_rfl) rfl) (zhv n (by omega) W) ?_
 rintro _ _ ⟨rfl, rfl⟩
 refine zaa rfl (zab) (zaf (zai (zaD ?_)))
 refine zbF (0 : Nat) (fun k => [(0, .func (.yield l) #[] #[]), (1, .pointer (some ⟨g3, 0, none⟩)), (2, .pointer (some ⟨g4, 0, none⟩)), (7, .int .i64 (za1 n : Nat)), (8, .int .i64 (k : Nat))])
   (fun k w' => k ≤ za1 n ∧ J k w' ∧ (∀ x, x ∈ [g3, g4, ga] → w'.heap[x]? = W.heap[x]?) ∧ W.heap.size ≤ w'.heap.size) (fun k => za1 n - k) ⟨rfl, rfl, rfl, rfl, rfl, rfl⟩ ⟨Nat.zero_le _, h0, fun _ _ => rfl, Nat.le_refl _⟩ ?_
 rintro k f wr ⟨hk, hJk, hkp, hsz⟩
 have hBr := Below.refl wr.heap.size wr
 have r4r : row wr g4 [.slice (some ⟨ga, oa, none⟩) (4 + n) c] 31 := (hkp g4 (by simp)).trans r4W
 have hsr := hsW.blk (hkp ga (by simp)) hsz
 have hm2 : 48 * za1 n ≤ n + 51 := by unfold za1; omega
 refine zak (zac ?_)
 refine zaa rfl (zbd rfl rfl) ?_
 refine zaf (zai (zak ?_))
 refine zaZ rfl (fun hlt => ?_) (fun hlt => ?_)
 ·
  refine zau (zai (zak (zaD (zak (zac (zaa rfl (zab) (zaa rfl (zad) (zaf (zai (zak (zac ?_)))))))))))
  refine zaX rfl (zaO (List.replicate 48 (zcS 0)) (by kernel_rfl) (fun g5 w5 hg5 hr5 hb5 => ?_))
  have ge_hBr_g5 := Nat.le_trans hBr.size hg5
  replace hBr := hBr.acc hb5
  refine zaf (zai (zak ?_))
  refine zbg [g5] (by kernel_rfl) ?_
  intro w901 hb901 hS901
  replace hr5 := hr5.new hb901
  replace hBr := hBr.acc hb901
  have hr5_d901 := hr5
  have hBr_d901 := hBr
  refine zah 0 (by kernel_rfl) rfl (fun _ _ => zbl (e := 5) (n := 48) (0) (48) (48) (48) (by kernel_rfl) rfl rfl rfl rfl (by simp) (by omega) (by omega) (by omega) (by omega) (by omega)) ?_
  refine zah 1 (by kernel_rfl) rfl (fun w' hS' => zam rfl (Ld.zbb (r4r.new (hBr_d901.kpd hS' (by first | (simp; done) | (simp; omega) | (simp [*]; done) | exact zaH (Or.inl (by omega)) | exact zaH (Or.inr (by simp)) | exact fun g hm => Nat.le_trans (by omega) (zel hm).1 | (intro b o e; cases e; exact zaH (Or.inl (by omega))) | (intro b hm; have := (hu.lt b (Option.mem_toList.1 hm)).1; omega) | (intro b o e; cases e; intro hm; have := (hu.lt _ (Option.mem_toList.1 hm)).1; omega)))) (by kernel_rfl) rfl)) ?_
  refine zah 2 (by kernel_rfl) rfl (fun _ _ => zab) ?_
  refine zah 3 (by kernel_rfl) rfl (fun _ _ => zd6 rfl rfl (w64 (by omega))) ?_
  refine zah 4 (by kernel_rfl) rfl (fun _ _ => zdW (e := 5) (48 * k) (_) (_) (_) (by kernel_rfl) rfl ⟨_, _, rfl, by omega⟩ rfl rfl (by simp) (by omega) (by omega) (by omega) (by omega) rfl) ?_
  refine zaS 5 (by kernel_rfl) ?_
  have hcl : (bv (((beB 4 n ++ b).drop (48 * k)).take 48)).length = Nat.min (4 + n - 48 * k) 48 := by rw [zae, List.length_take, List.length_drop, List.length_append, zaG, hl, Nat.min_comm]
  have hkb : k < za1 b.length := by rw [hl]; omega
  refine zbN rfl rfl (zhg (e := 5) (by kernel_rfl) (by kernel_rfl) rfl rfl g5 (0) hr5 (bv (((beB 4 n ++ b).drop (48 * k)).take 48)) hcl (fun _ => ⟨rfl, _, rfl, (hsr.new hBr).src (48 * k) 48⟩) (by rw [zae, List.length_take, List.length_replicate]; omega) (zaL _) (fun w16 hr5 ho16 => ?_))
  have hS902 := hS901.aq ho16
  refine ⟨hS902, ?_⟩
  replace hBr := ho16.below hBr ge_hBr_g5
  have hps := zjU b k hkb
  rw [hl] at hps
  rw [hps] at hr5
  refine zaR (by kernel_rfl) ?_
  refine zai (zak (zac (zaa rfl (zab) (zaa rfl (zab) ?_))))
  refine zaa rfl (zam rfl (Ld.zb5 hr5 (by kernel_rfl) (by kernel_rfl) (by rw [zae, zcV b k hkb]))) ?_
  have hv : (zdL b)[k]? = some (zjT b k) := by
    rw [zdL, List.getElem?_map, List.getElem?_range hkb]; rfl
  have hYk := hy k (zjT b k) w16 hv (hJ _ _ _ hJk hBr)
  refine zlr (vl := zjT b k) rfl rfl hYk ?_
  rintro e wy (⟨rfl, hJy, hky, hsy⟩ | ⟨rfl, hJxy⟩)
  · refine ⟨_, rfl, ?_⟩
    refine zaa rfl (zcr rfl) ?_
    refine zaf (zai ?_)
    refine W_f rfl ?_
    refine zau (za2 (zai (zac ?_)))
    refine zaa rfl (zaV rfl rfl (Coup.w64 (by omega))) ?_
    refine zaa rfl (zab) (zaf ?_)
    refine zbq ⟨k + 1, by omega, ⟨rfl, rfl, rfl, rfl, by go_num, rfl⟩, by omega, hJy, fun x hx => ?_, by have := hBr.size; omega⟩
    have hxx : x < wr.heap.size := by
     have h1 := r4r.lt
     simp only [List.mem_cons, List.not_mem_nil, or_false] at hx
     rcases hx with rfl | rfl | rfl
     ·exact Nat.lt_of_lt_of_le r3W.lt hsz
     ·exact h1
     ·omega
    rw [hky x hx, hBr.block x hxx, hkp x hx]
  · refine ⟨_, rfl, ?_⟩
    refine zaa rfl (zcr rfl) ?_
    refine zaf (zai ?_)
    refine W_t rfl ?_
    refine zax (za6 (zaT (zc6 (za6 ?_))))
    refine zar [] trivial ?_
    exact Or.inr hJxy
 ·
  refine zbp (zbW (zb9 (zbw ?_)))
  refine zcx [] trivial ?_
  obtain rfl : k = za1 n := by omega
  refine Or.inl ?_
  rw [zdL, List.length_map, List.length_range, hl]
  exact hJk
set_option maxRecDepth 20000 in
theorem zoM (b : List UInt8) (p : Option Addr) (n cp : Nat) (w : World) (h : za9 w p n 1 (bv b)) (hn : n ≤ 40000) :
  Calls Tryz.prog 95 [.slice p n cp].toArray w (Ret fun v w' => ∃ g3 g4 ga, v = .func (.func 106) #[] [.pointer (some ⟨g3, 0, none⟩), .pointer (some ⟨g4, 0, none⟩)].toArray ∧ g3 < w'.heap.size ∧ g4 < w'.heap.size ∧ ga < w'.heap.size ∧ w.heap.size ≤ g3 ∧ w.heap.size ≤ g4 ∧ w.heap.size ≤ ga ∧
   Below w.heap.size w w' ∧ SeqT Tryz.prog 106 [.pointer (some ⟨g3, 0, none⟩), .pointer (some ⟨g4, 0, none⟩)] (zdL b) [g3, g4, ga] w') := by
 have hl : b.length = n := by simpa [zae] using h.len
 have hB := Below.refl w.heap.size w
 refine zaw (fn := Tryz.f95) (rs := [.tmp 2]) (n := 22) Tryz.func95 rfl rfl Tryz.ntmps95 (by kernel_rfl) rfl ?_
 refine zak (zac (zaa rfl (zad) (zaf (zai (zak (zac (zaa rfl (zab) ?_)))))))
 refine zaa rfl (zaA (e := 5) (sz := 1) (by kernel_rfl) rfl rfl) ?_
 refine zaX rfl (zaO ([Value.int .i64 0]) (by kernel_rfl) (fun g3 w3 hg3 hr3 hb3 => ?_))
 have ge_hB_g3 := Nat.le_trans hB.size hg3
 replace hB := hB.acc hb3
 refine za4 rfl (zaP rfl rfl rfl rfl hr3 (by kernel_rfl) (by first | (simp only [List.length_replicate]; omega) | (simp only [zaM]; omega) | (simp only [zae, List.length_set]; omega) | simp) (fun w901 hr3 ho901 => ?_))
 replace hB := ho901.below hB ge_hB_g3
 refine zaf (zai (zak (zac ?_)))
 refine zaa rfl (zam rfl (Ld.zbb hr3 (by kernel_rfl) rfl)) ?_
 refine zaa rfl (zgE rfl rfl (by omega) rfl) ?_
 refine zaa rfl (zc7 (k := .u8) (by kernel_rfl) (by kernel_rfl) rfl rfl) ?_
 refine zaa rfl (zam rfl (Ld.zbb hr3 (by kernel_rfl) rfl)) ?_
 refine zaa rfl (zgE rfl rfl (by omega) rfl) ?_
 refine zaa rfl (zc7 (k := .u8) (by kernel_rfl) (by kernel_rfl) rfl rfl) ?_
 refine zaa rfl (zam rfl (Ld.zbb hr3 (by kernel_rfl) rfl)) ?_
 refine zaa rfl (zgE rfl rfl (by omega) rfl) ?_
 refine zaa rfl (zc7 (k := .u8) (by kernel_rfl) (by kernel_rfl) rfl rfl) ?_
 refine zaa rfl (zam rfl (Ld.zbb hr3 (by kernel_rfl) rfl)) ?_
 refine zaa rfl (zc7 (k := .u8) (by kernel_rfl) (by kernel_rfl) rfl rfl) ?_
 refine zaX rfl (zcU (e := 5) [(0, .int .u8 (IntKind.u8.wrap ((n : Int).fdiv (2 ^ 24)))), (1, .int .u8 (IntKind.u8.wrap ((n : Int).fdiv (2 ^ 16)))), (2, .int .u8 (IntKind.u8.wrap ((n : Int).fdiv (2 ^ 8)))), (3, .int .u8 (IntKind.u8.wrap (n : Int)))] [.int .u8 0] 1 (by kernel_rfl) (by kernel_rfl) rfl (by omega) (by omega) (by intro i hi; rcases i with _ | _ | _ | _ | i <;> first | (simp [Value.cells]; done) | (exfalso; simp only [List.length_cons, List.length_nil] at hi; omega)) (by simp [Value.cells]) (fun g18 w18 hg18 hr18 hb18 => ?_))
 have ge_hB_g18 := Nat.le_trans hB.size hg18
 have lt_g3_g18 : g3 < g18 := Nat.lt_of_lt_of_le hr3.lt hg18
 replace hr3 := hr3.new hb18
 replace hB := hB.acc hb18
 replace hr18 : row w18 g18 (bv (beB 4 n)) 5 := by rw [← bytes4 n]; exact hr18
 refine zaa rfl (zab) ?_
 have hv18 := hr18.owns (base := g18) (m := 4) (sz := 1) (Nat.le_refl _) (lenV 4 n) (by unfold maxLen; omega)
 have sz_hB_20 := hB.size
 refine zaX rfl (za7 (e := 5) (sz := 1) (bytes := 1) (z := Value.int .u8 0) (by kernel_rfl) rfl (by kernel_rfl) rfl (by decide) rfl hv18 rfl (h.below hB (Nat.le_refl _)) (zaL _) (by unfold maxLen; omega) (by omega) (fun hm0 => by omega) (fun v20 w20 hv20 hgr20 hfr20 => ?_))
 replace hr3 := hr3.own hv18 hgr20 (by omega)
 replace hB := hB.own hv18 hgr20 (by omega)
 have hobt := hv20.form' (by omega)
 obtain ⟨ga, oa, ca, rfl, hga1, hga2, hca⟩ := hobt
 have hs20 := hv20.sl
 rw [← zbI] at hs20
 refine zaX rfl (zaO ([Value.slice none 0 0]) (by kernel_rfl) (fun g4 w4 hg4 hr4 hb4 => ?_))
 have ge_hB_g4 := Nat.le_trans hB.size hg4
 have lt_g3_g4 : g3 < g4 := Nat.lt_of_lt_of_le hr3.lt hg4
 replace hr3 := hr3.new hb4
 replace hs20 := hs20.new hb4
 replace hB := hB.acc hb4
 refine za4 rfl (zaP rfl rfl rfl rfl hr4 (by kernel_rfl) (by first | (simp only [List.length_replicate]; omega) | (simp only [zaM]; omega) | (simp only [zae, List.length_set]; omega) | simp) (fun w902 hr4 ho902 => ?_))
 replace hr3 := hr3.only ho902 (Nat.ne_of_lt lt_g3_g4)
 replace hs20 := hs20.only ho902 (by omega)
 replace hB := ho902.below hB ge_hB_g4
 refine zaf (zai (zak (zac (zaa rfl (zcI) (zaa rfl (zad) (zaf (zai (zax ?_))))))))
 refine zar [_] ⟨rfl, trivial⟩ ?_
 refine ⟨g3, g4, ga, rfl, hr3.lt, hr4.lt, ?_, by omega, by omega, by omega, hB, ?_⟩
 ·obtain ⟨_, _, he, h1⟩ := hs20.some (by omega); cases he; exact h1
 ·exact znn b g3 g4 ga oa n ca _ hl hn hr3 hr4 hs20 hca
theorem may10r (c n : Int) (w : World) : Calls Tryz.prog 94 [.agg #[.int .u64 c, .int .i64 n]].toArray w (Ret fun v w' => v = .bool (zeb c n) ∧ Below w.heap.size w w') := zcB (may10 c n w)
theorem zno (n : Int) (w : World) : Calls Tryz.prog 65 [.int .i64 n].toArray w (Ret fun v w' => v = .int .i64 (zh6 n) ∧ w = w') := zcB (need12 n w)
theorem zlE (c n p m : Nat) (b : List UInt8) (hb : b.length = 48) (hc : c < 18446744073709551616) (hn : n < 4294967296) (hp : p < 65536) (hm : m < 65536) (w : World) :
 Calls Tryz.prog 96 [.agg (zbC c n p m b).toArray].toArray w (Ret fun v w' => v = .agg (bv (zcd c n p m b)).toArray ∧ Below w.heap.size w w') := zcB (bytes27 c n p m b hb hc hn hp hm w)
def zaY (n : Nat) : Nat := (za1 n + 1) / 2
def zgT (c n : Nat) (b : List UInt8) : List UInt8 := (zbY c n b).flatten ++ zaI (128 * zaY b.length - 64 * za1 b.length)
def zgo (c n : Nat) (b : List UInt8) (k : Nat) : List UInt8 := ((zbY c n b).take k).flatten ++ zaI (128 * zaY b.length - 64 * k)
theorem zda (c n : Nat) (b : List UInt8) (k : Nat) (hk : k < za1 b.length) : (zbY c n b)[k]? = some (zcd c n k (za1 b.length) (zbS b k)) := by
 rw [zbY, List.getElem?_map, List.getElem?_range hk]; rfl
theorem zhw (c n : Nat) (b : List UInt8) : ∀ k, k ≤ za1 b.length → ((zbY c n b).take k).flatten.length = 64 * k
 | 0, _ => rfl
 | k + 1, h => by
  rw [List.take_add_one, zda c n b k (by omega), List.flatten_append, List.length_append, zhw c n b k (by omega)]
  simp [zb1, zcV b k (by omega)]
  omega
theorem zjV (c n : Nat) (b : List UInt8) (k : Nat) (h : k ≤ za1 b.length) : (zgo c n b k).length = 128 * zaY b.length := by
 rw [zgo, List.length_append, zhw c n b k h, zaI, List.length_replicate]
 unfold zaY; omega
theorem zim (c n : Nat) (b : List UInt8) (k : Nat) (h : k < za1 b.length) : splice (bv (zgo c n b k)) (64 * k) (bv (zcd c n k (za1 b.length) (zbS b k))) = bv (zgo c n b (k + 1)) := by
 have h1 := zhw c n b k (by omega)
 have h2 : (zcd c n k (za1 b.length) (zbS b k)).length = 64 := by rw [zb1, zcV b k h]
 have h3 : zaI (128 * zaY b.length - 64 * k) = zaI 64 ++ zaI (128 * zaY b.length - 64 * (k + 1)) := by
  rw [zaI, zaI, zaI, List.replicate_append_replicate]
  congr 1
  unfold zaY; omega
 have h4 : (zbY c n b).take (k + 1) = (zbY c n b).take k ++ [zcd c n k (za1 b.length) (zbS b k)] := by
  rw [List.take_add_one, zda c n b k h]; rfl
 have h5 : bv (zgo c n b k) = bv ((zbY c n b).take k).flatten ++ (bv (zaI 64) ++ bv (zaI (128 * zaY b.length - 64 * (k + 1)))) := by rw [zgo, h3]; simp only [zbI]
 have h6 : bv (zgo c n b (k + 1)) = bv ((zbY c n b).take k).flatten ++ (bv (zcd c n k (za1 b.length) (zbS b k)) ++ bv (zaI (128 * zaY b.length - 64 * (k + 1)))) := by
  rw [zgo, h4]; simp [zbI]
 rw [h5, h6]
 have h7 : (bv ((zbY c n b).take k).flatten).length = 64 * k := by rw [zae, h1]
 have := zc9 (bv ((zbY c n b).take k).flatten) (bv (zaI 64)) (bv (zcd c n k (za1 b.length) (zbS b k))) (bv (zaI (128 * zaY b.length - 64 * (k + 1)))) (by rw [zae, zae, h2]; rfl)
 rw [h7] at this
 exact this
theorem zoN {ρ : Env} {w : World} {d : Option Nat} {ty : TypeId} {pos : String} {af : Array Edge} {gd : Option (Nat × Bool)} {x0 x1 x2 x3 : Operand} {c n p m : Int} {b : List UInt8} (hb : b.length = 48)
  (h0 : ev ρ x0 = .agg #[.int .u64 c, .int .i64 n]) (h1 : ev ρ x1 = .int .i64 p) (h2 : ev ρ x2 = .int .i64 m) (h3 : ev ρ x3 = .agg (bv b).toArray) :
  (execOp (ev ρ) ⟨d, .build 141 #[(0, x0), (1, x1), (2, x2), (3, x3)], ty, pos, af, gd⟩).run Tryz.prog w = .ok (.value (.agg (zbC c n p m b).toArray)) w := by
 have hl : (bv b).length = 48 := by rw [zae, hb]
 have := ziO (P := Tryz.prog) (ρ := ρ) (w := w) (d := d) (ty := ty) (pos := pos) (af := af) (gd := gd) (t := 141) (parts := [(0, x0), (1, x1), (2, x2), (3, x3)]) (k := 52) [(0, .agg #[.int .u64 c, .int .i64 n]), (1, .int .i64 p), (2, .int .i64 m), (3, .agg (bv b).toArray)]
  [(0, 2), (2, 1), (3, 1), (4, 48)] (by kernel_rfl) (by kernel_rfl) (by simp [h0, h1, h2, h3])
  (by intro i hi; rcases i with _ | _ | _ | _ | i <;> first | (simp [Value.cells, hl]; done) | (exfalso; simp only [List.length_cons, List.length_nil] at hi; omega)) (by simp [Value.cells, hl])
 have e : (([(0, Value.agg #[Value.int IntKind.u64 c, Value.int IntKind.i64 n]), (1, Value.int IntKind.i64 p), (2, Value.int IntKind.i64 m), (3, Value.agg (bv b).toArray)] : List (Nat × Value)).map fun q => q.2.cells.toList).flatten = zbC c n p m b := by simp [Value.cells, zbC]
 rw [e] at this
 exact this
theorem zdy {c nn : Int} (h : zeb c nn = true) : 1 ≤ c ∧ c ≤ 4611686018427387904 ∧ 0 ≤ nn ∧ nn < 2147483648 := by
 rcases zjN c nn with ⟨HM, _⟩ | ⟨HM, _⟩ | ⟨HM, _⟩ | ⟨HM, _⟩ | ⟨_, h1⟩
 ·rw [HM.out] at h; cases h
 ·rw [HM.out] at h; cases h
 ·rw [HM.out] at h; cases h
 ·rw [HM.out] at h; cases h
 ·exact h1
set_option maxRecDepth 20000 in
set_option maxHeartbeats 1000000 in
theorem znp (c nn : Nat) (hm : zeb c nn = true) (b : List UInt8) (p : Option Addr) (n cp : Nat) (w : World) (h : za9 w p n 1 (bv b)) (hn : n ≤ 32768) :
  Calls Tryz.prog 70 [.agg #[.int .u64 c, .int .i64 nn], .slice p n cp].toArray w
    (Ret fun v w' => ∃ g, v = .tuple #[.slice (some ⟨g, 0, none⟩) (zaY n) (zaY n), .int .i64 0] ∧ w.heap.size ≤ g ∧ row w' g (bv (zgT c nn b)) 94 ∧ Below w.heap.size w w') := by
 have hB := Below.refl w.heap.size w
 have hl : b.length = n := by simpa [zae] using h.len
 have hnz : zh6 n = (zaY n : Nat) := zht hn
 have hmb := zdy hm
 have hnb : zaY n ≤ 1000 := by unfold zaY za1; omega
 have hnn : zaY n = (za1 n + 1) / 2 := rfl
 refine zaw (fn := Tryz.f70) (rs := [.tmp 4, .tmp 5]) (n := 45) Tryz.func70 rfl rfl Tryz.ntmps70 (by kernel_rfl) rfl ?_
 refine zak (zac ?_)
 refine zaX rfl (zca ([.int .u64 c, .int .i64 nn]) rfl (fun g2 w2 hg2 hr2 hb2 => ?_))
 have ge_hB_g2 := Nat.le_trans hB.size hg2
 replace hB := hB.acc hb2
 refine zaX rfl (zca ([.slice p n cp]) rfl (fun g3 w3 hg3 hr3 hb3 => ?_))
 have ge_hB_g3 := Nat.le_trans hB.size hg3
 have lt_g2_g3 : g2 < g3 := Nat.lt_of_lt_of_le hr2.lt hg3
 replace hr2 := hr2.new hb3
 replace hB := hB.acc hb3
 refine zaa rfl (zad) (zaa rfl (zad) (zaf (zai (zak (zaD (zak (zac ?_)))))))
 refine zaa rfl (zam rfl (Ld.zb5 (k := 2) hr2 (by kernel_rfl) (by kernel_rfl) (by first | (simp; done) | (simp [zae, *]; done) | assumption))) ?_
 refine zat rfl (zao (by kernel_rfl) rfl) (may10r c nn w3) ?_
 rintro _ w12 ⟨rfl, hb12⟩
 replace hr2 := hr2.new hb12
 replace hr3 := hr3.new hb12
 replace hB := hB.acc hb12
 refine zaa rfl (zcr rfl) ?_
 refine zaa rfl (zad) (zaf (zai ?_))
 refine W_fnb rfl (hm) ?_
 refine zak (zac ?_)
 refine zaa rfl (zam rfl (Ld.zbb hr3 (by kernel_rfl) rfl)) ?_
 refine zaa rfl (zaA (e := 5) (sz := 1) (by kernel_rfl) rfl rfl) ?_
 refine zaa rfl (zbU rfl rfl) ?_
 refine zaa rfl (zad) (zaf (zai ?_))
 refine zdT rfl ((by omega)) ?_
 refine zau (za2 (zai (zak (zac ?_))))
 refine zaa rfl (zam rfl (Ld.zbb hr3 (by kernel_rfl) rfl)) ?_
 refine zaa rfl (zaA (e := 5) (sz := 1) (by kernel_rfl) rfl rfl) ?_
 refine zat rfl (zao (by kernel_rfl) rfl) (zno n w12) ?_
 rintro _ _ ⟨rfl, rfl⟩
 refine zaX rfl (ziN (e := 94) (zaY n) (bv (zaI 128)) 128 128 (zcS 0) (by kernel_rfl) (by kernel_rfl) ⟨_, rfl, hnz⟩ ⟨_, rfl, hnz⟩ (by rw [zf3]; intro u hu; exact (List.mem_replicate.1 hu).2) (by rw [zf3]; simp) (by omega) (by omega) (fun g21 w21 hg21 hr21 hb21 => ?_))
 have ge_hB_g21 := Nat.le_trans hB.size hg21
 have lt_g2_g21 : g2 < g21 := Nat.lt_of_lt_of_le hr2.lt hg21
 have lt_g3_g21 : g3 < g21 := Nat.lt_of_lt_of_le hr3.lt hg21
 replace hr2 := hr2.new hb21
 replace hr3 := hr3.new hb21
 replace hB := hB.acc hb21
 refine zaX rfl (zaO ([Value.slice none 0 0]) (by kernel_rfl) (fun g6 w6 hg6 hr6 hb6 => ?_))
 have ge_hB_g6 := Nat.le_trans hB.size hg6
 have lt_g2_g6 : g2 < g6 := Nat.lt_of_lt_of_le hr2.lt hg6
 have lt_g3_g6 : g3 < g6 := Nat.lt_of_lt_of_le hr3.lt hg6
 have lt_g21_g6 : g21 < g6 := Nat.lt_of_lt_of_le hr21.lt hg6
 replace hr2 := hr2.new hb6
 replace hr3 := hr3.new hb6
 replace hr21 := hr21.new hb6
 replace hB := hB.acc hb6
 refine za4 rfl (zaP rfl rfl rfl rfl hr6 (by kernel_rfl) (by first | (simp only [List.length_replicate]; omega) | (simp only [zaM]; omega) | (simp only [zae, List.length_set]; omega) | simp) (fun w901 hr6 ho901 => ?_))
 replace hr2 := hr2.only ho901 (Nat.ne_of_lt lt_g2_g6)
 replace hr3 := hr3.only ho901 (Nat.ne_of_lt lt_g3_g6)
 replace hr21 := hr21.only ho901 (Nat.ne_of_lt lt_g21_g6)
 replace hB := ho901.below hB ge_hB_g6
 refine zaf (zai (zak (zak (zac ?_))))
 refine zaa rfl (zam rfl (Ld.zbb hr3 (by kernel_rfl) rfl)) ?_
 have z21 := hr21.lt
 have z2 := hr2.lt
 have z3 := hr3.lt
 have z6 := hr6.lt
 refine zat rfl (zao (by kernel_rfl) rfl) (zoM b p n cp w901 (h.below hB (Nat.le_refl _)) (by omega)) ?_
 rintro _ w23 ⟨g3p, g4p, ga, rfl, l3p, l4p, la, b3p, b4p, ba, hb23, hseq⟩
 replace hr2 := hr2.new hb23
 replace hr3 := hr3.new hb23
 replace hr21 := hr21.new hb23
 replace hr6 := hr6.new hb23
 replace hB := hB.acc hb23
 refine zaf (zai (zaD ?_))
 have hro := hr21
 have q21 := hr21.lt
 have q2 := hr2.lt
 have q3 := hr3.lt
 have q6 := hr6.lt
 rw [show List.replicate (zaY n * 128) (zcS 0) = bv (zgo c nn b 0) by rw [zgo, List.take_zero, List.flatten_nil, List.nil_append, zf3, hl]; congr 1; omega] at hro
 refine zkG (ps := [24, 25]) (xs := zdL b) (ks := [g3p, g4p, ga]) (fun _ h => h) rfl (by kernel_rfl) hseq (Below.refl _ _) (by intro v hv; rw [zdL, List.mem_map] at hv; obtain ⟨i, _, rfl⟩ := hv; rfl) (by kernel_rfl) (by simp)
  (by intro x hx; simp only [List.mem_cons, List.not_mem_nil, or_false] at hx; rcases hx with rfl | rfl | rfl <;> assumption)
  (fun k W => k ≤ za1 n ∧ row W g2 [.int .u64 c, .int .i64 nn] 115 ∧ row W g3 [.slice p n cp] 31 ∧ row W g6 [.slice (some ⟨g21, 0, none⟩) (zaY n) (zaY n)] 81 ∧ row W g21 (bv (zgo c nn b k)) 94 ∧ Below w.heap.size w W)
  (fun _ _ => False) (fun k W W' ⟨h1, h2, h3, h4, h5, h6⟩ hs => ⟨h1, h2.soft hs, h3.soft hs, h4.soft hs, h5.soft hs, h6.soft hs hB.size⟩) (fun _ _ _ h _ => h.elim) ⟨Nat.zero_le _, hr2, hr3, hr6, hro, hB⟩ ?_ ?_ (fun _ _ _ _ h _ => h.elim)
 ·intro l k v W1 hv hI hsz
  obtain ⟨hk, i2, i3, i6, io, iB⟩ := hI
  have hkb : k < za1 b.length := by
    have := (List.getElem?_eq_some_iff.1 hv).1
    rw [zdL, List.length_map, List.length_range] at this; exact this
  have hkm : k < za1 n := by rw [← hl]; exact hkb
  obtain rfl : v = zjT b k := by
    rw [zdL, List.getElem?_map, List.getElem?_range hkb] at hv; exact (Option.some.inj hv).symm
  have hBa := Below.refl W1.heap.size W1
  have hpl := zcV b k hkb
  have hmn : za1 n ≤ 700 := by unfold za1; omega
  have hhl : (zcd c nn k (za1 n) (zbS b k)).length = 64 := by rw [zb1, hpl]
  refine zak (zac (zaa rfl (zad) (zaf (zai (zac ?_)))))
  refine zaX rfl (zaO (List.replicate 48 (zcS 0)) (by kernel_rfl) (fun g8 w8 hg8 hr8 hb8 => ?_))
  have ge_hBa_g8 := Nat.le_trans hBa.size hg8
  replace hBa := hBa.acc hb8
  refine za4 rfl (zav 48 (bv (zbS b k)) rfl rfl hr8 (by kernel_rfl) (by first | assumption | (simp; done) | (simp [zae, *]; done)) (by first | assumption | (simp; done) | (simp [zae, *]; done) | rfl) (by first | exact zaL _ | assumption | (simp [Value.oneCell']; done)) (fun w902 hr8 ho902 => ?_))
  replace hBa := ho902.below hBa ge_hBa_g8
  refine zaf ?_
  refine ⟨rfl, hBa, fun W2 hs => ?_⟩
  have hr8 := hr8.soft hs
  have j2 := (i2.new hBa).soft hs
  have j3 := (i3.new hBa).soft hs
  have j6 := (i6.new hBa).soft hs
  have jo := (io.new hBa).soft hs
  have jB := (iB.acc hBa).soft hs hB.size
  have hBi := Below.refl W2.heap.size W2
  have hs1 := hs.size
  have hs2 := hBa.size
  have u2 := j2.lt
  have u3 := j3.lt
  have u6 := j6.lt
  have uo := jo.lt
  have v2 := i2.lt
  have v6 := i6.lt
  have v21 := io.lt
  have v3 := i3.lt
  refine zaD (zak ?_)
  refine zbg [] (by kernel_rfl) ?_
  intro w903 hb903 hS903
  replace hr8 := hr8.new hb903
  replace hBi := hBi.acc hb903
  have hr8_d903 := hr8
  have hBi_d903 := hBi
  refine zah 0 (by kernel_rfl) rfl (fun w' hS' => zam rfl (Ld.zb5 (k := 2) (j2.new (hBi_d903.kpd hS' (by first | (simp; done) | (simp; omega) | (simp [*]; done) | exact zaH (Or.inl (by omega)) | exact zaH (Or.inr (by simp)) | exact fun g hm => Nat.le_trans (by omega) (zel hm).1 | (intro b o e; cases e; exact zaH (Or.inl (by omega))) | (intro b hm; have := (hu.lt b (Option.mem_toList.1 hm)).1; omega) | (intro b o e; cases e; intro hm; have := (hu.lt _ (Option.mem_toList.1 hm)).1; omega)))) (by kernel_rfl) (by kernel_rfl) rfl)) ?_
  refine zah 1 (by kernel_rfl) rfl (fun _ _ => zab) ?_
  refine zah 2 (by kernel_rfl) rfl (fun w' hS' => zam rfl (Ld.zbb (j3.new (hBi_d903.kpd hS' (by first | (simp; done) | (simp; omega) | (simp [*]; done) | exact zaH (Or.inl (by omega)) | exact zaH (Or.inr (by simp)) | exact fun g hm => Nat.le_trans (by omega) (zel hm).1 | (intro b o e; cases e; exact zaH (Or.inl (by omega))) | (intro b hm; have := (hu.lt b (Option.mem_toList.1 hm)).1; omega) | (intro b o e; cases e; intro hm; have := (hu.lt _ (Option.mem_toList.1 hm)).1; omega)))) (by kernel_rfl) rfl)) ?_
  refine zah 3 (by kernel_rfl) rfl (fun _ _ => zaA (e := 5) (sz := 1) (by kernel_rfl) rfl rfl) ?_
  refine zdF 4 (by kernel_rfl) rfl (fun _ => zao (by kernel_rfl) rfl) (fun w' hS' => zhv n (by omega) w') ?_
  refine zah 5 (by kernel_rfl) rfl (fun w' hS' => zam rfl (Ld.zb5 (k := 48) (hr8_d903.kq hS') (by kernel_rfl) (by kernel_rfl) (by rw [zae, hpl]))) ?_
  refine zah 6 (by kernel_rfl) rfl (fun _ _ => zoN hpl rfl rfl rfl rfl) ?_
  refine zfT 7 8 (by kernel_rfl) ?_ ?_
  ·
   refine zcq rfl rfl (zao (by kernel_rfl) rfl) (zlE c nn k (za1 n) (zbS b k) hpl (by omega) (by omega) (by omega) (by omega) w903) ?_
   rintro _ w33 ⟨rfl, hb33⟩
   have hS904 := hS903.add0 hb33
   refine ⟨hS904, ?_⟩
   replace hr8 := hr8.new hb33
   replace hBi := hBi.acc hb33
   refine zaS 8 (by kernel_rfl) ?_
   refine zbN rfl rfl (zaO (List.replicate 64 (zcS 0)) (by kernel_rfl) (fun g9 w9 hg9 hr9 hb9 => ?_))
   have hS905 := hS904.add0 hb9
   refine ⟨hS905, ?_⟩
   have ge_hS904_g9 := Nat.le_trans hS904.size hg9
   have ge_hBi_g9 := Nat.le_trans hBi.size hg9
   have lt_g8_g9 : g8 < g9 := Nat.lt_of_lt_of_le hr8.lt hg9
   replace hr8 := hr8.new hb9
   replace hBi := hBi.acc hb9
   refine zaS 9 (by kernel_rfl) ?_
   refine zdG rfl rfl (zav 64 (bv (zcd c nn k (za1 n) (zbS b k))) rfl rfl hr9 (by kernel_rfl) (by first | assumption | (simp; done) | (simp [zae, *]; done)) (by first | assumption | (simp; done) | (simp [zae, *]; done) | rfl) (by first | exact zaL _ | assumption | (simp [Value.oneCell']; done)) (fun w907 hr9 ho907 => ?_))
   have hS906 := hS905.aq ho907
   refine ⟨hS906, ?_⟩
   replace hr8 := hr8.only ho907 (Nat.ne_of_lt lt_g8_g9)
   replace hBi := ho907.below hBi ge_hBi_g9
   refine zaR (by kernel_rfl) ?_
   refine zai ?_
   have jo := jo.new hBi
   have j6 := j6.new hBi
   have hBd := hBi
   have n69 : g6 ≠ g9 := by omega
   refine zbg [g21] (by kernel_rfl) ?_
   intro w908 hb908 hS908
   replace hr8 := hr8.new hb908
   replace hr9 := hr9.new hb908
   replace jo := jo.new hb908
   replace j6 := j6.new hb908
   replace hBd := hBd.acc hb908
   have hr8_d908 := hr8
   have hr9_d908 := hr9
   have jo_d908 := jo
   have j6_d908 := j6
   have hBd_d908 := hBd
   refine zah 0 (by kernel_rfl) rfl (fun w' hS' => zam rfl (Ld.zbb (j6_d908.kpd hS' (by first | (simp; done) | (simp; omega) | (simp [*]; done) | exact zaH (Or.inl (by omega)) | exact zaH (Or.inr (by simp)) | exact fun g hm => Nat.le_trans (by omega) (zel hm).1 | (intro b o e; cases e; exact zaH (Or.inl (by omega))) | (intro b hm; have := (hu.lt b (Option.mem_toList.1 hm)).1; omega) | (intro b o e; cases e; intro hm; have := (hu.lt _ (Option.mem_toList.1 hm)).1; omega))) (by kernel_rfl) rfl)) ?_
   refine zah 1 (by kernel_rfl) rfl (fun _ _ => zab) ?_
   refine zah 2 (by kernel_rfl) rfl (fun _ _ => zep rfl rfl (by omega) (by omega)) ?_
   refine zah 3 (by kernel_rfl) rfl (fun _ _ => zaQ (e := 94) (sz := 128) (by kernel_rfl) rfl rfl (k / 2) (by omega) (by omega)) ?_
   refine zah 4 (by kernel_rfl) rfl (fun _ _ => zab) ?_
   refine zah 5 (by kernel_rfl) rfl (fun _ _ => zhe rfl rfl (by omega) (by omega)) ?_
   refine zah 6 (by kernel_rfl) rfl (fun _ _ => zd6 rfl rfl (w64 (by omega))) ?_
   refine zah 7 (by kernel_rfl) rfl (fun _ _ => zbl (e := 5) (n := 128) (k % 2 * 64) (128) (128) (_) (by kernel_rfl) rfl ⟨_, _, rfl, by omega⟩ rfl rfl (by simp) (by omega) (by omega) (by omega) (by omega) rfl) ?_
   refine zah 8 (by kernel_rfl) rfl (fun _ _ => zbl (e := 5) (n := 64) (0) (64) (64) (64) (by kernel_rfl) rfl rfl rfl rfl (by simp) (by omega) (by omega) (by omega) (by omega) (by omega)) ?_
   refine zaS 9 (by kernel_rfl) ?_
   have hBe := hBd
   refine zbN rfl rfl (zhg (e := 5) (by kernel_rfl) (by kernel_rfl) rfl rfl g21 ((0 + k / 2 * 128 + k % 2 * 64)) jo (bv (zcd c nn k (za1 n) (zbS b k))) (by rw [zae, zb1, hpl]; simp [Nat.min_def]; omega) (fun _ => ⟨rfl, _, rfl, fun j v hv => by rw [Addr.add_lit, Nat.zero_add]; exact hr9.cell j hv⟩) (by rw [zae, zb1, hpl, zae, zjV c nn b k (by omega), hl]; unfold zaY; omega) (zaL _) (fun w43 jo ho43 => ?_))
   have hS909 := hS908.aq ho43
   refine ⟨hS909, ?_⟩
   replace hr8 := hr8.only ho43 (by omega)
   replace hr9 := hr9.only ho43 (by omega)
   replace j6 := j6.only ho43 (Nat.ne_of_gt lt_g21_g6)
   refine zaR (by kernel_rfl) ?_
   refine za2 ?_
   have hkp : Kp [g21] W2 w43 := (Kp.of_below hBe).add (N := [g21]) (Kp.zbx ho43) (by simp)
   rw [show 0 + k / 2 * 128 + k % 2 * 64 = 64 * k by omega, ← hl, zim c nn b k hkb] at jo
   exact ⟨zbR hkp (by simp; left; omega), fun x hx => hkp.block x (by simp at hx; rcases hx with rfl | rfl | rfl <;> omega) (by simp at hx ⊢; rcases hx with rfl | rfl | rfl <;> omega), by omega, j2.kp hkp (by simp; omega), j3.kp hkp (by simp; omega), j6, jo, jB.kpd hkp (by simp; omega)⟩
  ·
   refine zbN rfl rfl (zaO (List.replicate 64 (zcS 0)) (by kernel_rfl) (fun g9 w9 hg9 hr9 hb9 => ?_))
   have hS910 := hS903.add0 hb9
   refine ⟨hS910, ?_⟩
   have ge_hS903_g9 := Nat.le_trans hS903.size hg9
   have ge_hBi_g9 := Nat.le_trans hBi.size hg9
   have lt_g8_g9 : g8 < g9 := Nat.lt_of_lt_of_le hr8.lt hg9
   replace hr8 := hr8.new hb9
   replace hBi := hBi.acc hb9
   refine zaS 7 (by kernel_rfl) ?_
   refine zcq rfl rfl (zao (by kernel_rfl) rfl) (zlE c nn k (za1 n) (zbS b k) hpl (by omega) (by omega) (by omega) (by omega) w9) ?_
   rintro _ w33 ⟨rfl, hb33⟩
   have hS911 := hS910.add0 hb33
   refine ⟨hS911, ?_⟩
   replace hr8 := hr8.new hb33
   replace hr9 := hr9.new hb33
   replace hBi := hBi.acc hb33
   refine zaS 9 (by kernel_rfl) ?_
   refine zdG rfl rfl (zav 64 (bv (zcd c nn k (za1 n) (zbS b k))) rfl rfl hr9 (by kernel_rfl) (by first | assumption | (simp; done) | (simp [zae, *]; done)) (by first | assumption | (simp; done) | (simp [zae, *]; done) | rfl) (by first | exact zaL _ | assumption | (simp [Value.oneCell']; done)) (fun w913 hr9 ho913 => ?_))
   have hS912 := hS911.aq ho913
   refine ⟨hS912, ?_⟩
   replace hr8 := hr8.only ho913 (Nat.ne_of_lt lt_g8_g9)
   replace hBi := ho913.below hBi ge_hBi_g9
   refine zaR (by kernel_rfl) ?_
   refine zai ?_
   have jo := jo.new hBi
   have j6 := j6.new hBi
   have hBd := hBi
   have n69 : g6 ≠ g9 := by omega
   refine zbg [g21] (by kernel_rfl) ?_
   intro w914 hb914 hS914
   replace hr8 := hr8.new hb914
   replace hr9 := hr9.new hb914
   replace jo := jo.new hb914
   replace j6 := j6.new hb914
   replace hBd := hBd.acc hb914
   have hr8_d914 := hr8
   have hr9_d914 := hr9
   have jo_d914 := jo
   have j6_d914 := j6
   have hBd_d914 := hBd
   refine zah 0 (by kernel_rfl) rfl (fun w' hS' => zam rfl (Ld.zbb (j6_d914.kpd hS' (by first | (simp; done) | (simp; omega) | (simp [*]; done) | exact zaH (Or.inl (by omega)) | exact zaH (Or.inr (by simp)) | exact fun g hm => Nat.le_trans (by omega) (zel hm).1 | (intro b o e; cases e; exact zaH (Or.inl (by omega))) | (intro b hm; have := (hu.lt b (Option.mem_toList.1 hm)).1; omega) | (intro b o e; cases e; intro hm; have := (hu.lt _ (Option.mem_toList.1 hm)).1; omega))) (by kernel_rfl) rfl)) ?_
   refine zah 1 (by kernel_rfl) rfl (fun _ _ => zab) ?_
   refine zah 2 (by kernel_rfl) rfl (fun _ _ => zep rfl rfl (by omega) (by omega)) ?_
   refine zah 3 (by kernel_rfl) rfl (fun _ _ => zaQ (e := 94) (sz := 128) (by kernel_rfl) rfl rfl (k / 2) (by omega) (by omega)) ?_
   refine zah 4 (by kernel_rfl) rfl (fun _ _ => zab) ?_
   refine zah 5 (by kernel_rfl) rfl (fun _ _ => zhe rfl rfl (by omega) (by omega)) ?_
   refine zah 6 (by kernel_rfl) rfl (fun _ _ => zd6 rfl rfl (w64 (by omega))) ?_
   refine zah 7 (by kernel_rfl) rfl (fun _ _ => zbl (e := 5) (n := 128) (k % 2 * 64) (128) (128) (_) (by kernel_rfl) rfl ⟨_, _, rfl, by omega⟩ rfl rfl (by simp) (by omega) (by omega) (by omega) (by omega) rfl) ?_
   refine zah 8 (by kernel_rfl) rfl (fun _ _ => zbl (e := 5) (n := 64) (0) (64) (64) (64) (by kernel_rfl) rfl rfl rfl rfl (by simp) (by omega) (by omega) (by omega) (by omega) (by omega)) ?_
   refine zaS 9 (by kernel_rfl) ?_
   have hBe := hBd
   refine zbN rfl rfl (zhg (e := 5) (by kernel_rfl) (by kernel_rfl) rfl rfl g21 ((0 + k / 2 * 128 + k % 2 * 64)) jo (bv (zcd c nn k (za1 n) (zbS b k))) (by rw [zae, zb1, hpl]; simp [Nat.min_def]; omega) (fun _ => ⟨rfl, _, rfl, fun j v hv => by rw [Addr.add_lit, Nat.zero_add]; exact hr9.cell j hv⟩) (by rw [zae, zb1, hpl, zae, zjV c nn b k (by omega), hl]; unfold zaY; omega) (zaL _) (fun w43 jo ho43 => ?_))
   have hS915 := hS914.aq ho43
   refine ⟨hS915, ?_⟩
   replace hr8 := hr8.only ho43 (by omega)
   replace hr9 := hr9.only ho43 (by omega)
   replace j6 := j6.only ho43 (Nat.ne_of_gt lt_g21_g6)
   refine zaR (by kernel_rfl) ?_
   refine za2 ?_
   have hkp : Kp [g21] W2 w43 := (Kp.of_below hBe).add (N := [g21]) (Kp.zbx ho43) (by simp)
   rw [show 0 + k / 2 * 128 + k % 2 * 64 = 64 * k by omega, ← hl, zim c nn b k hkb] at jo
   exact ⟨zbR hkp (by simp; left; omega), fun x hx => hkp.block x (by simp at hx; rcases hx with rfl | rfl | rfl <;> omega) (by simp at hx ⊢; rcases hx with rfl | rfl | rfl <;> omega), by omega, j2.kp hkp (by simp; omega), j3.kp hkp (by simp; omega), j6, jo, jB.kpd hkp (by simp; omega)⟩
 ·intro D W hD hI hdef
  obtain ⟨hk, i2, i3, i6, io, iB⟩ := hI
  have hxl : (zdL b).length = za1 b.length := by rw [zdL, List.length_map, List.length_range]
  rw [hxl, show zgo c nn b (za1 b.length) = zgT c nn b by rw [zgo, zgT, List.take_of_length_le (by simp [zbY])]] at io
  refine za2 (zai (zak (zac ?_)))
  refine zaa rfl (zam rfl (Ld.zbb i6 (by kernel_rfl) rfl)) ?_
  refine zaa rfl (zad) (zaa rfl (zad) (zaf (zai (zax ?_))))
  refine ziJ [_, _] D hdef ⟨rfl, rfl, trivial⟩ ?_
  have hs := zdX.put (B := w.heap.size) (.deferred none) hdef (by have := hB.size; omega) rfl
  exact ⟨g21, rfl, by omega, io.soft hs, iB.soft hs (Nat.le_refl _)⟩
def secs : List (List UInt8) → List UInt8
 | [] => []
 | [a] => a ++ zaI 64
 | a :: b :: r => (a ++ b) ++ secs r
theorem znq : ∀ (L : List (List UInt8)), (∀ l, l ∈ L → l.length = 64) → L.flatten.length = 64 * L.length
 | [], _ => rfl
 | a :: L, h => by rw [List.flatten_cons, List.length_append, znq L (fun l hl => h l (by simp [hl])), h a (by simp), List.length_cons]; omega
theorem zeu (c n : Nat) (b : List UInt8) : (zbY c n b).length = za1 b.length := by simp [zbY]
theorem zgp (c n : Nat) (b : List UInt8) : ∀ l, l ∈ zbY c n b → l.length = 64 := by
 intro l hl
 obtain ⟨i, hi⟩ := List.mem_iff_getElem?.1 hl
 have hi' : i < za1 b.length := by
  have := (List.getElem?_eq_some_iff.1 hi).1
  rwa [zeu] at this
 rw [zda c n b i hi'] at hi
 cases hi
 rw [zb1, zcV b i hi']
theorem _root_.Coup.zd7.get {w : World} {lo : Nat} {o : Option Nat} {vs : List Value} {L : List (List UInt8)} (h : zd7 w lo o vs L) (i : Nat) {l : List UInt8} (hl : L[i]? = some l) : ∃ b off c, vs[i]? = some (.slice (some ⟨b, off, none⟩) l.length c) ∧ za9 w (some ⟨b, off, none⟩) l.length 1 (bv l) ∧ b < w.heap.size ∧ l.length ≤ c := by
 obtain ⟨b, off, c, h1, h2, h3, _, h5, _⟩ := h.at_ i l hl
 exact ⟨b, off, c, h1, h2, h3, h5⟩
def partsL (l : List UInt8) (m : Nat) : List (List UInt8) := (List.range m).map (zaq l)
theorem zi2 (p : Option Addr) (n c : Nat) (l : List UInt8) (i : Nat) (w : World) (h : za9 w p n 128 (bv l)) (hi : i / 2 < n) (hn : n ≤ 1000000) :
 Calls Tryz.prog 123 [.slice p n c, .int .i64 i].toArray w (Ret fun v w' => v = .agg (bv (zaq l i)).toArray ∧ Below w.heap.size w w') := zcB (half32 p n c l i w h hi hn)
theorem zkY (hb : List UInt8) (hl : hb.length = 64) (b : Bool) (hm : zeb (za0 hb) (zcR hb) = b) (w : World) :
  Calls Tryz.prog 122 [.agg (bv hb).toArray].toArray w (Ret fun v w' => v = .tuple #[.agg (zbC (za0 hb) (zcR hb) (zdZ hb) (zbH hb) (zcL hb)).toArray, .bool b] ∧ Below w.heap.size w w') := by
 have := zcB (read31 hb hl w)
 rwa [hm] at this
theorem zdp (w : World) : Calls Tryz.prog 121 [].toArray w (Ret fun v w' => v = zoL ∧ Below w.heap.size w w') := zcB (none30 w)
theorem znr (p : Option Addr) (n c : Nat) (l : List UInt8) (w : World) (h : za9 w p n 1 (bv l)) (hn : n ≤ 8) : Calls Tryz.prog 124 [.slice p n c].toArray w (Ret fun v w' => v = .int .u64 (zdK l) ∧ w = w') := zcB (zf2 p n c l w h hn)
def zgq (h : List UInt8) (c nn i m : Nat) : Bool := zeb (za0 h) (zcR h) && decide (za0 h = c ∧ zcR h = nn) && decide (zdZ h = i) && decide (zbH h = m)
def bodies (l : List UInt8) (m : Nat) : List UInt8 := (List.range m).flatMap fun i => zcL (zaq l i)
theorem zdM (l : List UInt8) (m : Nat) : bodies l (m + 1) = bodies l m ++ zcL (zaq l m) := by simp [bodies, List.range_succ]
theorem zcW (l : List UInt8) : ∀ m, 64 * m ≤ l.length → (bodies l m).length = 48 * m
 | 0, _ => rfl
 | m + 1, h => by rw [zdM, List.length_append, zcW l m (by omega), zcL, List.length_drop, zcf _ _ (by omega)]; omega
def zcj (l : List UInt8) (m : Nat) : Nat := zdK ((bodies l m).take 4)
def zec (l : List UInt8) (c nn m : Nat) : Bool :=
 (List.range m).all (fun i => zgq (zaq l i) c nn i m) && decide (zcj l m ≤ 32768) && decide (za1 (zcj l m) = m) && ((bodies l m).drop (4 + zcj l m)).all (· == 0)
def zgr (l : List UInt8) (n c nn m : Nat) : Bool := zeb c nn && decide (1 ≤ m) && decide (m ≤ 683) && decide ((m + 1) / 2 ≤ n)
def zbA (l : List UInt8) (n : Nat) : Bool :=
 decide (0 < n) && zgr l n (za0 (zaq l 0)) (zcR (zaq l 0)) (zbH (zaq l 0)) && zec l (za0 (zaq l 0)) (zcR (zaq l 0)) (zbH (zaq l 0))
def zbn (l : List UInt8) : List UInt8 := ((bodies l (zbH (zaq l 0))).drop 4).take (zcj l (zbH (zaq l 0)))
def JR (l : List UInt8) (n : Nat) (w : World) (v : Value) (w' : World) : Prop :=
 Below w.heap.size w w' ∧ ((zbA l n = false ∧ v = zoL) ∨ (zbA l n = true ∧ ∃ sp, v = .tuple #[.agg #[.int .u64 (za0 (zaq l 0)), .int .i64 (zcR (zaq l 0))], .slice sp (zbn l).length (zbn l).length, .int .i64 (zaY (zbn l).length : Nat), .int .i64 0] ∧
  za9 w' sp (zbn l).length 1 (bv (zbn l))))
theorem zoO (l : List UInt8) (m : Nat) : zcj l m < 4294967296 := zcm _ 4 (by simp; omega)
set_option maxRecDepth 20000 in
theorem join0 (p : Option Addr) (cp : Nat) (l : List UInt8) (w : World) : Calls Tryz.prog 109 [.slice p 0 cp].toArray w (Ret fun v w' => JR l 0 w v w') := by
 have hB := Below.refl w.heap.size w
 have hJ : zbA l 0 = false := by simp [zbA]
 refine zaw (fn := Tryz.f109) (rs := [.cell 2 115, .tmp 3, .tmp 4, .tmp 5]) (n := 152) Tryz.func109 rfl rfl Tryz.ntmps109 (by kernel_rfl) rfl ?_
 refine zak (zac ?_)
 refine zaX rfl (zaO ([.int .u64 0, .int .i64 0]) (by kernel_rfl) (fun g2 w2 hg2 hr2 hb2 => ?_))
 have ge_hB_g2 := Nat.le_trans hB.size hg2
 replace hB := hB.acc hb2
 refine zaa rfl (zad) (zaa rfl (zad) (zaa rfl (zad) (zaf (zai (zak (zac (zaa rfl (zad) (zaf (zai (zak (zak ?_)))))))))))
 refine zac (zaa rfl (zab) ?_)
 refine zaa rfl (zaA (e := 94) (sz := 128) (by kernel_rfl) rfl rfl) ?_
 refine zaa rfl (zbr rfl rfl) ?_
 refine zaf (zai ?_)
 refine zkt rfl (rfl) ?_
 refine zak (zac (zaa rfl (zab) ?_))
 refine zat rfl (zb8 (by kernel_rfl) rfl rfl) (zdp w2) ?_
 rintro _ w20 ⟨rfl, hb20⟩
 replace hr2 := hr2.new hb20
 replace hB := hB.acc hb20
 refine zaa rfl (zan rfl rfl) (zaa rfl (zan rfl rfl) (zaa rfl (zan rfl rfl) (zaa rfl (zan rfl rfl) ?_)))
 refine za4 rfl (zav 2 ([.int .u64 0, .int .i64 0]) rfl rfl hr2 (by kernel_rfl) (by first | assumption | (simp; done) | (simp [zae, *]; done)) (by first | assumption | (simp; done) | (simp [zae, *]; done) | rfl) (by first | exact zaL _ | assumption | (simp [Value.oneCell']; done)) (fun w901 hr2 ho901 => ?_))
 replace hB := ho901.below hB ge_hB_g2
 refine zaa rfl (zad) (zaa rfl (zad) (zaa rfl (zad) (zaf (zai (zax (zaT ?_))))))
 refine zar [_, _, _, _] ⟨⟨_, rfl, Ld.zb5 (k := 2) hr2 (by kernel_rfl) (by kernel_rfl) (by first | (simp; done) | (simp [zae, *]; done) | assumption)⟩, rfl, rfl, rfl, trivial⟩ ?_
 exact ⟨hB, .inl ⟨hJ, rfl⟩⟩
set_option maxRecDepth 20000 in
theorem joinF (p : Option Addr) (n cp : Nat) (l : List UInt8) (w : World) (h : za9 w p n 128 (bv l)) (hn : n ≤ 1000000) (h0 : 0 < n) (hm : zeb (za0 (zaq l 0)) (zcR (zaq l 0)) = false) :
  Calls Tryz.prog 109 [.slice p n cp].toArray w (Ret fun v w' => JR l n w v w') := by
 have hB := Below.refl w.heap.size w
 have hl : l.length = n * 128 := by simpa [zae] using h.len
 have hJ : zbA l n = false := by simp [zbA, zgr, hm]
 have hd : (zaq l 0).length = 64 := zcf _ _ (by omega)
 obtain ⟨L, hL⟩ : ∃ L, L = zbC (za0 (zaq l 0)) (zcR (zaq l 0)) (zdZ (zaq l 0)) (zbH (zaq l 0)) (zcL (zaq l 0)) := ⟨_, rfl⟩
 have hLl : L.length = 52 := by rw [hL, zcz, zcL, List.length_drop, hd]
 have hone : ∀ v ∈ L, v.oneCell' = true := by rw [hL]; exact zfh _ _ _ _ _
 have hC := fun w' => zkY (zaq l 0) hd false hm w'
 rw [← hL] at hC
 clear hL
 refine zaw (fn := Tryz.f109) (rs := [.cell 2 115, .tmp 3, .tmp 4, .tmp 5]) (n := 152) Tryz.func109 rfl rfl Tryz.ntmps109 (by kernel_rfl) rfl ?_
 refine zak (zac ?_)
 refine zaX rfl (zaO ([.int .u64 0, .int .i64 0]) (by kernel_rfl) (fun g2 w2 hg2 hr2 hb2 => ?_))
 have ge_hB_g2 := Nat.le_trans hB.size hg2
 replace hB := hB.acc hb2
 refine zaa rfl (zad) (zaa rfl (zad) (zaa rfl (zad) (zaf (zai (zak (zac (zaa rfl (zad) (zaf (zai (zak (zak ?_)))))))))))
 refine zac (zaa rfl (zab) ?_)
 refine zaa rfl (zaA (e := 94) (sz := 128) (by kernel_rfl) rfl rfl) ?_
 refine zaa rfl (zbr rfl rfl) ?_
 refine zaf (zai ?_)
 refine zdT rfl ((by omega)) ?_
 refine zau (zai (zak (zac (zaa rfl (zab) ?_))))
 refine zat rfl (zao (by kernel_rfl) rfl) (zi2 p n cp l 0 w2 (h.below hB (Nat.le_refl _)) (by omega) hn) ?_
 rintro _ w27 ⟨rfl, hb27⟩
 replace hr2 := hr2.new hb27
 replace hB := hB.acc hb27
 refine zat rfl (zao (by kernel_rfl) rfl) (hC w27) ?_
 rintro _ w28 ⟨rfl, hb28⟩
 replace hr2 := hr2.new hb28
 replace hB := hB.acc hb28
 refine zaa rfl (zab) (zaa rfl (zan rfl rfl) (zaa rfl (zan rfl rfl) ?_))
 refine zaX rfl (zaO (zbC 0 0 0 0 (zaI 48)) (by kernel_rfl) (fun g7 w7 hg7 hr7 hb7 => ?_))
 have ge_hB_g7 := Nat.le_trans hB.size hg7
 have lt_g2_g7 : g2 < g7 := Nat.lt_of_lt_of_le hr2.lt hg7
 replace hr2 := hr2.new hb7
 replace hB := hB.acc hb7
 refine za4 rfl (zav 52 (L) rfl rfl hr7 (by kernel_rfl) (by first | assumption | (simp; done) | (simp [zae, *]; done)) (by first | assumption | (simp; done) | (simp [zae, *]; done) | rfl) (by first | exact zaL _ | assumption | (simp [Value.oneCell']; done)) (fun w901 hr7 ho901 => ?_))
 replace hr2 := hr2.only ho901 (Nat.ne_of_lt lt_g2_g7)
 replace hB := ho901.below hB ge_hB_g7
 refine zaa rfl (zad) (zaf (zai (zak (zak (zac (zaa rfl (zab) ?_))))))
 refine zaa rfl (zcr rfl) ?_
 refine zaa rfl (zab) ?_
 refine WR_tnb 33 rfl (rfl) ?_
 refine zaE rfl rfl (zaE rfl rfl (zaE rfl rfl (zaa rfl (zay rfl) (zaa rfl (zab) (zaE rfl rfl (zaE rfl rfl (zaE rfl rfl (zaa rfl (zay rfl) (zaa rfl (zab) (zaE rfl rfl (zaE rfl rfl ?_)))))))))))
 refine zaE rfl rfl (zaE rfl rfl (zaE rfl rfl (zaE rfl rfl (zaE rfl rfl (zaa rfl (zay rfl) (zaf (zai ?_)))))))
 refine W_t rfl ?_
 refine zak (zac (zaa rfl (zab) ?_))
 refine zat rfl (zb8 (by kernel_rfl) rfl rfl) (zdp w901) ?_
 rintro _ w53 ⟨rfl, hb53⟩
 replace hr2 := hr2.new hb53
 replace hr7 := hr7.new hb53
 replace hB := hB.acc hb53
 refine zaa rfl (zan rfl rfl) (zaa rfl (zan rfl rfl) (zaa rfl (zan rfl rfl) (zaa rfl (zan rfl rfl) ?_)))
 refine za4 rfl (zav 2 ([.int .u64 0, .int .i64 0]) rfl rfl hr2 (by kernel_rfl) (by first | assumption | (simp; done) | (simp [zae, *]; done)) (by first | assumption | (simp; done) | (simp [zae, *]; done) | rfl) (by first | exact zaL _ | assumption | (simp [Value.oneCell']; done)) (fun w902 hr2 ho902 => ?_))
 replace hr7 := hr7.only ho902 (Nat.ne_of_gt lt_g2_g7)
 replace hB := ho902.below hB ge_hB_g2
 refine zaa rfl (zad) (zaa rfl (zad) (zaa rfl (zad) (zaf (zai (zax (zaT ?_))))))
 refine zar [_, _, _, _] ⟨⟨_, rfl, Ld.zb5 (k := 2) hr2 (by kernel_rfl) (by kernel_rfl) (by first | (simp; done) | (simp [zae, *]; done) | assumption)⟩, rfl, rfl, rfl, trivial⟩ ?_
 exact ⟨hB, .inl ⟨hJ, rfl⟩⟩
theorem zmt {l : List UInt8} {c nn m i : Nat} (hi : i < m) (h : zgq (zaq l i) c nn i m = false) : zec l c nn m = false := by
 have : (List.range m).all (fun i => zgq (zaq l i) c nn i m) = false := List.all_eq_false.2 ⟨i, List.mem_range.2 hi, by simp [h]⟩
 simp [zec, this]
set_option maxRecDepth 20000 in
set_option maxHeartbeats 2000000 in
theorem joinT (p : Option Addr) (n cp : Nat) (l : List UInt8) (w : World) (h : za9 w p n 128 (bv l)) (hn : n ≤ 1000000) (h0 : 0 < n) (hm : zeb (za0 (zaq l 0)) (zcR (zaq l 0)) = true) :
   Calls Tryz.prog 109 [.slice p n cp].toArray w (Ret fun v w' => JR l n w v w') := by
 have hB := Below.refl w.heap.size w
 have hl : l.length = n * 128 := by simpa [zae] using h.len
 have hd : (zaq l 0).length = 64 := zcf _ _ (by omega)
 obtain ⟨L, hL⟩ : ∃ L, L = zbC (za0 (zaq l 0)) (zcR (zaq l 0)) (zdZ (zaq l 0)) (zbH (zaq l 0)) (zcL (zaq l 0)) := ⟨_, rfl⟩
 have hLl : L.length = 52 := by rw [hL, zcz, zcL, List.length_drop, hd]
 have hone : ∀ v ∈ L, v.oneCell' = true := by rw [hL]; exact zfh _ _ _ _ _
 have hC := fun w' => zkY (zaq l 0) hd true hm w'
 have e0 : L[0]? = some (.int .u64 (za0 (zaq l 0))) := by rw [hL]; rfl
 have e1 : L[1]? = some (.int .i64 (zcR (zaq l 0))) := by rw [hL]; rfl
 have e3 : L[3]? = some (.int .i64 (zbH (zaq l 0))) := by rw [hL]; rfl
 have hJR : ∀ v w', JR l n w v w' = (Below w.heap.size w w' ∧ ((zbA l n = false ∧ v = zoL) ∨ (zbA l n = true ∧ ∃ sp, v = .tuple #[.agg #[.int .u64 (za0 (zaq l 0)), .int .i64 (zcR (zaq l 0))], .slice sp (zbn l).length (zbn l).length, .int .i64 (zaY (zbn l).length : Nat), .int .i64 0] ∧
   za9 w' sp (zbn l).length 1 (bv (zbn l))))) := fun _ _ => rfl
 have hJI : zbA l n = (decide (0 < n) && (zeb (za0 (zaq l 0)) (zcR (zaq l 0)) && decide (1 ≤ zbH (zaq l 0)) && decide (zbH (zaq l 0) ≤ 683) && decide ((zbH (zaq l 0) + 1) / 2 ≤ n)) && zec l (za0 (zaq l 0)) (zcR (zaq l 0)) (zbH (zaq l 0))) := rfl
 have hJB : zbn l = ((bodies l (zbH (zaq l 0))).drop 4).take (zcj l (zbH (zaq l 0))) := rfl
 have hmb : zbH (zaq l 0) < 65536 := zcm _ 2 (by simp; omega)
 simp only [hJR]
 clear hJR
 rw [← hL] at hC
 clear hL
 generalize za0 (zaq l 0) = c at *
 generalize zcR (zaq l 0) = nn at *
 generalize zbH (zaq l 0) = m at *
 generalize zbA l n = J at *
 generalize zbn l = JB at *
 have hJF : zec l c nn m = false → J = false := by intro q; rw [hJI, q, Bool.and_false]
 refine zaw (fn := Tryz.f109) (rs := [.cell 2 115, .tmp 3, .tmp 4, .tmp 5]) (n := 152) Tryz.func109 rfl rfl Tryz.ntmps109 (by kernel_rfl) rfl ?_
 refine zak (zac ?_)
 refine zaX rfl (zaO ([.int .u64 0, .int .i64 0]) (by kernel_rfl) (fun g2 w2 hg2 hr2 hb2 => ?_))
 have ge_hB_g2 := Nat.le_trans hB.size hg2
 replace hB := hB.acc hb2
 refine zaa rfl (zad) (zaa rfl (zad) (zaa rfl (zad) (zaf (zai (zak (zac (zaa rfl (zad) (zaf (zai (zak (zak ?_)))))))))))
 refine zac (zaa rfl (zab) ?_)
 refine zaa rfl (zaA (e := 94) (sz := 128) (by kernel_rfl) rfl rfl) ?_
 refine zaa rfl (zbr rfl rfl) ?_
 refine zaf (zai ?_)
 refine zdT rfl ((by omega)) ?_
 refine zau (zai (zak (zac (zaa rfl (zab) ?_))))
 refine zat rfl (zao (by kernel_rfl) rfl) (zi2 p n cp l 0 w2 (h.below hB (Nat.le_refl _)) (by omega) hn) ?_
 rintro _ w27 ⟨rfl, hb27⟩
 replace hr2 := hr2.new hb27
 replace hB := hB.acc hb27
 refine zat rfl (zao (by kernel_rfl) rfl) (hC w27) ?_
 rintro _ w28 ⟨rfl, hb28⟩
 replace hr2 := hr2.new hb28
 replace hB := hB.acc hb28
 refine zaa rfl (zab) (zaa rfl (zan rfl rfl) (zaa rfl (zan rfl rfl) ?_))
 refine zaX rfl (zaO (zbC 0 0 0 0 (zaI 48)) (by kernel_rfl) (fun g7 w7 hg7 hr7 hb7 => ?_))
 have ge_hB_g7 := Nat.le_trans hB.size hg7
 have lt_g2_g7 : g2 < g7 := Nat.lt_of_lt_of_le hr2.lt hg7
 replace hr2 := hr2.new hb7
 replace hB := hB.acc hb7
 refine za4 rfl (zav 52 (L) rfl rfl hr7 (by kernel_rfl) (by first | assumption | (simp; done) | (simp [zae, *]; done)) (by first | assumption | (simp; done) | (simp [zae, *]; done) | rfl) (by first | exact zaL _ | assumption | (simp [Value.oneCell']; done)) (fun w901 hr7 ho901 => ?_))
 replace hr2 := hr2.only ho901 (Nat.ne_of_lt lt_g2_g7)
 replace hB := ho901.below hB ge_hB_g7
 refine zaa rfl (zad) (zaf (zai (zak (zak (zac (zaa rfl (zab) ?_))))))
 refine zaa rfl (zcr rfl) ?_
 refine zaa rfl (zab) ?_
 refine zia 33 rfl (rfl) ?_
 refine zas rfl (zaa rfl (zaj (off := 3) (by kernel_rfl) rfl) (zas rfl ?_))
 refine zaa rfl (zam rfl (Ld.zbb hr7 (by kernel_rfl) e3)) ?_
 refine zas rfl ?_
 refine zaa rfl (zbd rfl rfl) ?_
 refine zaa rfl (zaz rfl) (zaa rfl (zab) ?_)
 refine zbJ 38 rfl (fun hc1 => ?_) (fun hc1 => ?_)
 ·
  refine zaE rfl rfl (zaE rfl rfl (zaE rfl rfl (zaa rfl (zay rfl) (zaa rfl (zab) (zaE rfl rfl (zaE rfl rfl (zaE rfl rfl (zaE rfl rfl (zaE rfl rfl (zaE rfl rfl (zaE rfl rfl ?_)))))))))))
  refine zaa rfl (zay rfl) (zaf (zai ?_))
  refine W_t rfl ?_
  refine zak (zac (zaa rfl (zab) ?_))
  refine zat rfl (zb8 (by kernel_rfl) rfl rfl) (zdp w901) ?_
  rintro _ w53 ⟨rfl, hb53⟩
  replace hr2 := hr2.new hb53
  replace hr7 := hr7.new hb53
  replace hB := hB.acc hb53
  refine zaa rfl (zan rfl rfl) (zaa rfl (zan rfl rfl) (zaa rfl (zan rfl rfl) (zaa rfl (zan rfl rfl) ?_)))
  refine za4 rfl (zav 2 ([.int .u64 0, .int .i64 0]) rfl rfl hr2 (by kernel_rfl) (by first | assumption | (simp; done) | (simp [zae, *]; done)) (by first | assumption | (simp; done) | (simp [zae, *]; done) | rfl) (by first | exact zaL _ | assumption | (simp [Value.oneCell']; done)) (fun w902 hr2 ho902 => ?_))
  replace hr7 := hr7.only ho902 (Nat.ne_of_gt lt_g2_g7)
  replace hB := ho902.below hB ge_hB_g2
  refine zaa rfl (zad) (zaa rfl (zad) (zaa rfl (zad) (zaf (zai (zax (zaT ?_))))))
  refine zar [_, _, _, _] ⟨⟨_, rfl, Ld.zb5 (k := 2) hr2 (by kernel_rfl) (by kernel_rfl) (by first | (simp; done) | (simp [zae, *]; done) | assumption)⟩, rfl, rfl, rfl, trivial⟩ ?_
  · refine ⟨hB, .inl ⟨?_, rfl⟩⟩
    rw [hJI, show decide (1 ≤ m) = false from decide_eq_false (by omega)]
    simp
 ·
  refine zas rfl (zaa rfl (zaj (off := 3) (by kernel_rfl) rfl) (zas rfl ?_))
  refine zaa rfl (zam rfl (Ld.zbb hr7 (by kernel_rfl) e3)) ?_
  refine zas rfl ?_
  refine zaa rfl (zbU rfl rfl) ?_
  refine zaa rfl (zaz rfl) (zaa rfl (zab) ?_)
  refine zbJ 43 rfl (fun hc2 => ?_) (fun hc2 => ?_)
  ·
   refine zaE rfl rfl (zaE rfl rfl (zaE rfl rfl (zaE rfl rfl (zaE rfl rfl (zaE rfl rfl (zaE rfl rfl (zaa rfl (zay rfl) (zaf (zai ?_)))))))))
   refine W_t rfl ?_
   refine zak (zac (zaa rfl (zab) ?_))
   refine zat rfl (zb8 (by kernel_rfl) rfl rfl) (zdp w901) ?_
   rintro _ w53 ⟨rfl, hb53⟩
   replace hr2 := hr2.new hb53
   replace hr7 := hr7.new hb53
   replace hB := hB.acc hb53
   refine zaa rfl (zan rfl rfl) (zaa rfl (zan rfl rfl) (zaa rfl (zan rfl rfl) (zaa rfl (zan rfl rfl) ?_)))
   refine za4 rfl (zav 2 ([.int .u64 0, .int .i64 0]) rfl rfl hr2 (by kernel_rfl) (by first | assumption | (simp; done) | (simp [zae, *]; done)) (by first | assumption | (simp; done) | (simp [zae, *]; done) | rfl) (by first | exact zaL _ | assumption | (simp [Value.oneCell']; done)) (fun w903 hr2 ho903 => ?_))
   replace hr7 := hr7.only ho903 (Nat.ne_of_gt lt_g2_g7)
   replace hB := ho903.below hB ge_hB_g2
   refine zaa rfl (zad) (zaa rfl (zad) (zaa rfl (zad) (zaf (zai (zax (zaT ?_))))))
   refine zar [_, _, _, _] ⟨⟨_, rfl, Ld.zb5 (k := 2) hr2 (by kernel_rfl) (by kernel_rfl) (by first | (simp; done) | (simp [zae, *]; done) | assumption)⟩, rfl, rfl, rfl, trivial⟩ ?_
   · refine ⟨hB, .inl ⟨?_, rfl⟩⟩
     rw [hJI, show decide (m ≤ 683) = false from decide_eq_false (by omega)]
     simp
  ·
   refine zas rfl (zaa rfl (zaj (off := 3) (by kernel_rfl) rfl) (zas rfl ?_))
   refine zaa rfl (zam rfl (Ld.zbb hr7 (by kernel_rfl) e3)) ?_
   refine zas rfl ?_
   refine zaa rfl (zaV rfl rfl (w64 (by omega))) ?_
   refine zas rfl ?_
   refine zaa rfl (zep rfl rfl (by omega) (by omega)) ?_
   refine zas rfl (zaa rfl (zab) (zas rfl ?_))
   refine zaa rfl (zaA (e := 94) (sz := 128) (by kernel_rfl) rfl rfl) ?_
   refine zas rfl ?_
   refine zaa rfl (zbU rfl rfl) ?_
   refine zaa rfl (zaz rfl) (zaf (zai ?_))
   refine zaZ rfl (fun hc3 => ?_) (fun hc3 => ?_)
   ·
    refine zak (zac (zaa rfl (zab) ?_))
    refine zat rfl (zb8 (by kernel_rfl) rfl rfl) (zdp w901) ?_
    rintro _ w53 ⟨rfl, hb53⟩
    replace hr2 := hr2.new hb53
    replace hr7 := hr7.new hb53
    replace hB := hB.acc hb53
    refine zaa rfl (zan rfl rfl) (zaa rfl (zan rfl rfl) (zaa rfl (zan rfl rfl) (zaa rfl (zan rfl rfl) ?_)))
    refine za4 rfl (zav 2 ([.int .u64 0, .int .i64 0]) rfl rfl hr2 (by kernel_rfl) (by first | assumption | (simp; done) | (simp [zae, *]; done)) (by first | assumption | (simp; done) | (simp [zae, *]; done) | rfl) (by first | exact zaL _ | assumption | (simp [Value.oneCell']; done)) (fun w904 hr2 ho904 => ?_))
    replace hr7 := hr7.only ho904 (Nat.ne_of_gt lt_g2_g7)
    replace hB := ho904.below hB ge_hB_g2
    refine zaa rfl (zad) (zaa rfl (zad) (zaa rfl (zad) (zaf (zai (zax (zaT ?_))))))
    refine zar [_, _, _, _] ⟨⟨_, rfl, Ld.zb5 (k := 2) hr2 (by kernel_rfl) (by kernel_rfl) (by first | (simp; done) | (simp [zae, *]; done) | assumption)⟩, rfl, rfl, rfl, trivial⟩ ?_
    · refine ⟨hB, .inl ⟨?_, rfl⟩⟩
      rw [hJI, show decide ((m + 1) / 2 ≤ n) = false from decide_eq_false (by omega)]
      simp
   ·
    refine zau (zai (zak (zac (zaa rfl (zad) (zaf (zai (zak (zak (zac (zaa rfl (zaj (off := 3) (by kernel_rfl) rfl) ?_))))))))))
    refine zaa rfl (zam rfl (Ld.zbb hr7 (by kernel_rfl) e3)) ?_
    refine zaa rfl (zab) (zaf (zai (zaD ?_)))
    have q7 := hr7.lt
    have q2 := hr2.lt
    refine zbF (α := Nat × Value) (0, .slice none 0 0) (fun k => [(60, .int .i64 (k.1 : Nat)), (9, k.2), (59, .int .i64 m), (0, .slice p n cp), (6, .func (.func 121) #[] #[]), (7, .pointer (some ⟨g7, 0, none⟩)), (2, .pointer (some ⟨g2, 0, none⟩))])
      (fun k w' => k.1 ≤ m ∧ (∀ j, j < k.1 → zgq (zaq l j) c nn j m = true) ∧ zaJ w' w901.heap.size 5 1 k.2 (48 * k.1) (bv (bodies l k.1)) ∧ row w' g7 L 141 ∧ row w' g2 [.int .u64 0, .int .i64 0] 115 ∧ Below w.heap.size w w' ∧ w901.heap.size ≤ w'.heap.size) (fun k => m - k.1)
      ⟨rfl, rfl, rfl, rfl, rfl, rfl, rfl, rfl⟩ ⟨Nat.zero_le _, (by intro j hj; exact absurd hj (Nat.not_lt_zero _)), zby _ _ _ _, hr7, hr2, hB, Nat.le_refl _⟩ ?_
    rintro ⟨k, v9⟩ f wr ⟨hk, hgood, hv9, hr7, hr2, hBr, hsr⟩
    simp only at hk hgood hv9
    have hBi := Below.refl wr.heap.size wr
    have hszr := hBr.size
    by_cases hlt : k < m
    · have hdk : (zaq l k).length = 64 := zcf _ _ (by omega)
      have hobt : ∃ L, L = zbC (za0 (zaq l k)) (zcR (zaq l k)) (zdZ (zaq l k)) (zbH (zaq l k)) (zcL (zaq l k)) := ⟨_, rfl⟩
      obtain ⟨LK, hLK⟩ := hobt
      have hLKl : LK.length = 52 := by rw [hLK, zcz, zcL, List.length_drop, hdk]
      have honek : ∀ v ∈ LK, v.oneCell' = true := by rw [hLK]; exact zfh _ _ _ _ _
      have hCK := fun b (hb : zeb (za0 (zaq l k)) (zcR (zaq l k)) = b) w' => zkY (zaq l k) hdk b hb w'
      have k0 : LK[0]? = some (.int .u64 (za0 (zaq l k))) := by rw [hLK]; rfl
      have k1 : LK[1]? = some (.int .i64 (zcR (zaq l k))) := by rw [hLK]; rfl
      have k2 : LK[2]? = some (.int .i64 (zdZ (zaq l k))) := by rw [hLK]; rfl
      have k3 : LK[3]? = some (.int .i64 (zbH (zaq l k))) := by rw [hLK]; rfl
      have hkb : (LK.drop 4).take (48 * 1) = bv (zcL (zaq l k)) := by
        rw [hLK]
        exact List.take_of_length_le (by show (bv (zcL (zaq l k))).length ≤ _; rw [zae, zcL, List.length_drop, hdk]; omega)
      have hGB : zgq (zaq l k) c nn k m = (zeb (za0 (zaq l k)) (zcR (zaq l k)) && decide (za0 (zaq l k) = c ∧ zcR (zaq l k) = nn) && decide (zdZ (zaq l k) = k) && decide (zbH (zaq l k) = m)) := rfl
      have hbs := zdM l k
      have hbl : (zcL (zaq l k)).length = 48 := by rw [zcL, List.length_drop, hdk]
      rw [← hLK] at hCK
      clear hLK
      generalize za0 (zaq l k) = c' at *
      generalize zcR (zaq l k) = n' at *
      generalize zdZ (zaq l k) = p' at *
      generalize zbH (zaq l k) = m' at *
      have hbad : zgq (zaq l k) c nn k m = false → J = false := fun q => hJF (zmt hlt q)
      rcases hmk : zeb (c' : Int) n' with _ | _
      · skip
        refine zak (zac ?_)
        refine zaa rfl (zbd rfl rfl) ?_
        refine zaf (zai (zak ?_))
        refine zkt rfl ((by omega)) ?_
        refine zau (zai (zak (zaD (zak (zac (zaa rfl (zab) (zaa rfl (zad) (zaf (zai (zak (zac ?_)))))))))))
        refine zaa rfl (zab) (zaa rfl (zab) ?_)
        refine zat rfl (zao (by kernel_rfl) rfl) (zi2 p n cp l k wr ((h.below hBr (Nat.le_refl _)).below hBi (Nat.le_refl _)) (by omega) hn) ?_
        rintro _ w66 ⟨rfl, hb66⟩
        replace hBr := hBr.acc hb66
        replace hBi := hBi.acc hb66
        refine zat rfl (zao (by kernel_rfl) rfl) (hCK _ hmk w66) ?_
        rintro _ w67 ⟨rfl, hb67⟩
        replace hBr := hBr.acc hb67
        replace hBi := hBi.acc hb67
        refine zaa rfl (zab) (zaa rfl (zan rfl rfl) (zaa rfl (zan rfl rfl) ?_))
        refine zaX rfl (zaO (zbC 0 0 0 0 (zaI 48)) (by kernel_rfl) (fun g11 w11 hg11 hr11 hb11 => ?_))
        have ge_hBr_g11 := Nat.le_trans hBr.size hg11
        have ge_hBi_g11 := Nat.le_trans hBi.size hg11
        replace hBr := hBr.acc hb11
        replace hBi := hBi.acc hb11
        refine za4 rfl (zav 52 (LK) rfl rfl hr11 (by kernel_rfl) (by first | assumption | (simp; done) | (simp [zae, *]; done)) (by first | assumption | (simp; done) | (simp [zae, *]; done) | rfl) (by first | exact zaL _ | assumption | (simp [Value.oneCell']; done)) (fun w905 hr11 ho905 => ?_))
        replace hBr := ho905.below hBr ge_hBr_g11
        replace hBi := ho905.below hBi ge_hBi_g11
        refine zaa rfl (zad) (zaf (zai (zak (zak (zac (zaa rfl (zab) ?_))))))
        refine zaa rfl (zcr rfl) ?_
        refine zaa rfl (zab) ?_
        refine WR_tnb 72 rfl (rfl) ?_
        refine zaE rfl rfl (zaE rfl rfl (zaE rfl rfl (zaE rfl rfl (zaE rfl rfl (zaa rfl (zay rfl) (zaa rfl (zab) (zaE rfl rfl (zaE rfl rfl (zaE rfl rfl (zaE rfl rfl (zaa rfl (zay rfl) ?_)))))))))))
        refine zaa rfl (zab) (zaE rfl rfl (zaE rfl rfl (zaE rfl rfl (zaE rfl rfl (zaE rfl rfl (zaa rfl (zay rfl) (zaf (zai ?_))))))))
        refine W_t rfl ?_
        refine zak (zac (zaa rfl (zab) ?_))
        refine zat rfl (zb8 (by kernel_rfl) rfl rfl) (zdp w905) ?_
        rintro _ w93 ⟨rfl, hb93⟩
        replace hr11 := hr11.new hb93
        replace hBr := hBr.acc hb93
        replace hBi := hBi.acc hb93
        refine zaa rfl (zan rfl rfl) (zaa rfl (zan rfl rfl) (zaa rfl (zan rfl rfl) (zaa rfl (zan rfl rfl) ?_)))
        have hr2 := hr2.new hBi
        have hBs := hBi.size
        refine za4 rfl (zav 2 ([.int .u64 0, .int .i64 0]) rfl rfl hr2 (by kernel_rfl) (by first | assumption | (simp; done) | (simp [zae, *]; done)) (by first | assumption | (simp; done) | (simp [zae, *]; done) | rfl) (by first | exact zaL _ | assumption | (simp [Value.oneCell']; done)) (fun w906 hr2 ho906 => ?_))
        replace hr11 := hr11.only ho906 (by omega)
        replace hBr := ho906.below hBr (by omega)
        refine zaa rfl (zad) (zaa rfl (zad) (zaa rfl (zad) (zaf (zai (zax (zaT (za6 (zaT (zc6 (za6 (zaT ?_)))))))))))
        refine zar [_, _, _, _] ⟨⟨_, rfl, Ld.zb5 (k := 2) hr2 (by kernel_rfl) (by kernel_rfl) (by first | (simp; done) | (simp [zae, *]; done) | assumption)⟩, rfl, rfl, rfl, trivial⟩ ?_
        exact ⟨hBr, .inl ⟨hbad (by rw [hGB, hmk]; rfl), rfl⟩⟩
      · skip
        refine zak (zac ?_)
        refine zaa rfl (zbd rfl rfl) ?_
        refine zaf (zai (zak ?_))
        refine zkt rfl ((by omega)) ?_
        refine zau (zai (zak (zaD (zak (zac (zaa rfl (zab) (zaa rfl (zad) (zaf (zai (zak (zac ?_)))))))))))
        refine zaa rfl (zab) (zaa rfl (zab) ?_)
        refine zat rfl (zao (by kernel_rfl) rfl) (zi2 p n cp l k wr ((h.below hBr (Nat.le_refl _)).below hBi (Nat.le_refl _)) (by omega) hn) ?_
        rintro _ w66 ⟨rfl, hb66⟩
        replace hBr := hBr.acc hb66
        replace hBi := hBi.acc hb66
        refine zat rfl (zao (by kernel_rfl) rfl) (hCK _ hmk w66) ?_
        rintro _ w67 ⟨rfl, hb67⟩
        replace hBr := hBr.acc hb67
        replace hBi := hBi.acc hb67
        refine zaa rfl (zab) (zaa rfl (zan rfl rfl) (zaa rfl (zan rfl rfl) ?_))
        refine zaX rfl (zaO (zbC 0 0 0 0 (zaI 48)) (by kernel_rfl) (fun g11 w11 hg11 hr11 hb11 => ?_))
        have ge_hBr_g11 := Nat.le_trans hBr.size hg11
        have ge_hBi_g11 := Nat.le_trans hBi.size hg11
        replace hBr := hBr.acc hb11
        replace hBi := hBi.acc hb11
        refine za4 rfl (zav 52 (LK) rfl rfl hr11 (by kernel_rfl) (by first | assumption | (simp; done) | (simp [zae, *]; done)) (by first | assumption | (simp; done) | (simp [zae, *]; done) | rfl) (by first | exact zaL _ | assumption | (simp [Value.oneCell']; done)) (fun w907 hr11 ho907 => ?_))
        replace hBr := ho907.below hBr ge_hBr_g11
        replace hBi := ho907.below hBi ge_hBi_g11
        refine zaa rfl (zad) (zaf (zai (zak (zak (zac (zaa rfl (zab) ?_))))))
        refine zaa rfl (zcr rfl) ?_
        refine zaa rfl (zab) ?_
        refine zia 72 rfl (rfl) ?_
        refine zas rfl (zaa rfl (zaj (off := 0) (by kernel_rfl) rfl) (zas rfl ?_))
        refine zaa rfl (zam rfl (Ld.rng (hr11.range 0 [.int .u64 c', .int .i64 n'] (zhu k0 k1)) (by kernel_rfl) (by kernel_rfl))) ?_
        refine zas rfl (zaa rfl (zaj (off := 0) (by kernel_rfl) rfl) (zas rfl ?_))
        refine zaa rfl (zam rfl (Ld.rng ((hr7.new hBi).range 0 [.int .u64 c, .int .i64 nn] (zhu e0 e1)) (by kernel_rfl) (by kernel_rfl))) ?_
        refine zas rfl ?_
        refine zaa rfl (rn_neqP (k0 := .u64) (k1 := .i64) (by kernel_rfl) rfl rfl) ?_
        refine zaa rfl (zaz rfl) (zaa rfl (zab) ?_)
        refine zem 79 rfl (fun hq1 => ?_) (fun hq1 => ?_)
        ·
         refine zaE rfl rfl (zaE rfl rfl (zaE rfl rfl (zaE rfl rfl (zaa rfl (zay rfl) (zaa rfl (zab) (zaE rfl rfl (zaE rfl rfl (zaE rfl rfl (zaE rfl rfl (zaE rfl rfl (zaa rfl (zay rfl) ?_)))))))))))
         refine zaf (zai ?_)
         refine W_t rfl ?_
         refine zak (zac (zaa rfl (zab) ?_))
         refine zat rfl (zb8 (by kernel_rfl) rfl rfl) (zdp w907) ?_
         rintro _ w93 ⟨rfl, hb93⟩
         replace hr11 := hr11.new hb93
         replace hBr := hBr.acc hb93
         replace hBi := hBi.acc hb93
         refine zaa rfl (zan rfl rfl) (zaa rfl (zan rfl rfl) (zaa rfl (zan rfl rfl) (zaa rfl (zan rfl rfl) ?_)))
         have hr2 := hr2.new hBi
         have hBs := hBi.size
         refine za4 rfl (zav 2 ([.int .u64 0, .int .i64 0]) rfl rfl hr2 (by kernel_rfl) (by first | assumption | (simp; done) | (simp [zae, *]; done)) (by first | assumption | (simp; done) | (simp [zae, *]; done) | rfl) (by first | exact zaL _ | assumption | (simp [Value.oneCell']; done)) (fun w908 hr2 ho908 => ?_))
         replace hr11 := hr11.only ho908 (by omega)
         replace hBr := ho908.below hBr (by omega)
         refine zaa rfl (zad) (zaa rfl (zad) (zaa rfl (zad) (zaf (zai (zax (zaT (za6 (zaT (zc6 (za6 (zaT ?_)))))))))))
         refine zar [_, _, _, _] ⟨⟨_, rfl, Ld.zb5 (k := 2) hr2 (by kernel_rfl) (by kernel_rfl) (by first | (simp; done) | (simp [zae, *]; done) | assumption)⟩, rfl, rfl, rfl, trivial⟩ ?_
         · simp only [Bool.not_eq_true', decide_eq_false_iff_not] at hq1
           exact ⟨hBr, .inl ⟨hbad (by rw [hGB, hmk, show decide (c' = c ∧ n' = nn) = false from decide_eq_false (by omega)]; rfl), rfl⟩⟩
        ·
         simp only [Bool.not_eq_false', decide_eq_true_eq] at hq1
         refine zas rfl (zaa rfl (zaj (off := 2) (by kernel_rfl) rfl) (zas rfl ?_))
         refine zaa rfl (zam rfl (Ld.zbb hr11 (by kernel_rfl) k2)) ?_
         refine zas rfl (zaa rfl (zab) (zas rfl ?_))
         refine zaa rfl (zaW rfl rfl) ?_
         refine zaa rfl (zaz rfl) (zaa rfl (zab) ?_)
         refine zbJ 85 rfl (fun hq2 => ?_) (fun hq2 => ?_)
         ·
          refine zaE rfl rfl (zaE rfl rfl (zaE rfl rfl (zaE rfl rfl (zaE rfl rfl (zaa rfl (zay rfl) (zaf (zai ?_)))))))
          refine W_t rfl ?_
          refine zak (zac (zaa rfl (zab) ?_))
          refine zat rfl (zb8 (by kernel_rfl) rfl rfl) (zdp w907) ?_
          rintro _ w93 ⟨rfl, hb93⟩
          replace hr11 := hr11.new hb93
          replace hBr := hBr.acc hb93
          replace hBi := hBi.acc hb93
          refine zaa rfl (zan rfl rfl) (zaa rfl (zan rfl rfl) (zaa rfl (zan rfl rfl) (zaa rfl (zan rfl rfl) ?_)))
          have hr2 := hr2.new hBi
          have hBs := hBi.size
          refine za4 rfl (zav 2 ([.int .u64 0, .int .i64 0]) rfl rfl hr2 (by kernel_rfl) (by first | assumption | (simp; done) | (simp [zae, *]; done)) (by first | assumption | (simp; done) | (simp [zae, *]; done) | rfl) (by first | exact zaL _ | assumption | (simp [Value.oneCell']; done)) (fun w909 hr2 ho909 => ?_))
          replace hr11 := hr11.only ho909 (by omega)
          replace hBr := ho909.below hBr (by omega)
          refine zaa rfl (zad) (zaa rfl (zad) (zaa rfl (zad) (zaf (zai (zax (zaT (za6 (zaT (zc6 (za6 (zaT ?_)))))))))))
          refine zar [_, _, _, _] ⟨⟨_, rfl, Ld.zb5 (k := 2) hr2 (by kernel_rfl) (by kernel_rfl) (by first | (simp; done) | (simp [zae, *]; done) | assumption)⟩, rfl, rfl, rfl, trivial⟩ ?_
          · exact ⟨hBr, .inl ⟨hbad (by rw [hGB, show decide (p' = k) = false from decide_eq_false (by omega), Bool.and_false]; rfl), rfl⟩⟩
         ·
          refine zas rfl (zaa rfl (zaj (off := 3) (by kernel_rfl) rfl) (zas rfl ?_))
          refine zaa rfl (zam rfl (Ld.zbb hr11 (by kernel_rfl) k3)) ?_
          refine zas rfl (zaa rfl (zaj (off := 3) (by kernel_rfl) rfl) (zas rfl ?_))
          refine zaa rfl (zam rfl (Ld.zbb (hr7.new hBi) (by kernel_rfl) e3)) ?_
          refine zas rfl ?_
          refine zaa rfl (zaW rfl rfl) ?_
          refine zaa rfl (zaz rfl) (zaf (zai ?_))
          refine zaZ rfl (fun hq3 => ?_) (fun hq3 => ?_)
          ·
           refine zak (zac (zaa rfl (zab) ?_))
           refine zat rfl (zb8 (by kernel_rfl) rfl rfl) (zdp w907) ?_
           rintro _ w93 ⟨rfl, hb93⟩
           replace hr11 := hr11.new hb93
           replace hBr := hBr.acc hb93
           replace hBi := hBi.acc hb93
           refine zaa rfl (zan rfl rfl) (zaa rfl (zan rfl rfl) (zaa rfl (zan rfl rfl) (zaa rfl (zan rfl rfl) ?_)))
           have hr2 := hr2.new hBi
           have hBs := hBi.size
           refine za4 rfl (zav 2 ([.int .u64 0, .int .i64 0]) rfl rfl hr2 (by kernel_rfl) (by first | assumption | (simp; done) | (simp [zae, *]; done)) (by first | assumption | (simp; done) | (simp [zae, *]; done) | rfl) (by first | exact zaL _ | assumption | (simp [Value.oneCell']; done)) (fun w910 hr2 ho910 => ?_))
           replace hr11 := hr11.only ho910 (by omega)
           replace hBr := ho910.below hBr (by omega)
           refine zaa rfl (zad) (zaa rfl (zad) (zaa rfl (zad) (zaf (zai (zax (zaT (za6 (zaT (zc6 (za6 (zaT ?_)))))))))))
           refine zar [_, _, _, _] ⟨⟨_, rfl, Ld.zb5 (k := 2) hr2 (by kernel_rfl) (by kernel_rfl) (by first | (simp; done) | (simp [zae, *]; done) | assumption)⟩, rfl, rfl, rfl, trivial⟩ ?_
           · exact ⟨hBr, .inl ⟨hbad (by rw [hGB, show decide (m' = m) = false from decide_eq_false (by omega), Bool.and_false]), rfl⟩⟩
          ·
           refine zau (zai (zac (zaa rfl (zab) (zaa rfl (zaj (off := 4) (by kernel_rfl) rfl) ?_))))
           refine zaa rfl (zbl (e := 5) (n := 48) (0) (48) (48) (48) (by kernel_rfl) rfl rfl rfl rfl (by simp) (by omega) (by omega) (by omega) (by omega) (by omega)) ?_
           have hs100 := hr11.sl (m := 48) (sz := 1) 4 (by omega) (by unfold maxLen; omega)
           rw [hkb] at hs100
           have hv9 := hv9.new hBi
           have hr7 := hr7.new hBi
           have hr2 := hr2.new hBi
           have hBs := hBi.size
           have sz_hBr_101 := hBr.size
           refine zaX rfl (za7 (e := 5) (sz := 1) (bytes := 1) (z := Value.int .u8 0) (by kernel_rfl) rfl (by kernel_rfl) rfl (by decide) rfl hv9 rfl hs100 (zaL _) (by unfold maxLen; omega) (by omega) (fun hm0 => by omega) (fun v101 w101 hv101 hgr101 hfr101 => ?_))
           replace hr7 := hr7.own hv9 hgr101 (by omega)
           replace hr2 := hr2.own hv9 hgr101 (by omega)
           replace hBr := hBr.own hv9 hgr101 (by omega)
           refine zaa rfl (zad) (zaf (za2 (zai (zac ?_))))
           refine zaa rfl (zaV rfl rfl (Coup.w64 (by omega))) ?_
           refine zaa rfl (zab) (zaf ?_)
           refine zbq ⟨(k + 1, v101), by simp only; omega, ⟨rfl, by go_num, rfl, rfl, rfl, rfl, rfl, rfl⟩, by simp only; omega, ?_, ?_, hr7, hr2, hBr, by have := hgr101.size; omega⟩
           · intro j hj
             rcases Nat.lt_or_ge j k with hj' | hj'
             · exact hgood j hj'
             · obtain rfl : j = k := by simp only at hj; omega
               rw [hGB, hmk, decide_eq_true (by omega : c' = c ∧ n' = nn), decide_eq_true (by omega : p' = j), decide_eq_true (by omega : m' = m)]; rfl
           · simp only
             rw [hbs, zbI, show 48 * (k + 1) = 48 * k + 48 by omega]
             exact hv101
    · obtain rfl : k = m := by omega
      have hobt := hv9.form' (by omega)
      obtain ⟨g9, o9, c9, rfl, b9, l9, hc9⟩ := hobt
      have hx9 := hv9.sl
      have hbl := zcW l k (by omega)
      have hobt : ∃ Z, Z = (bodies l k).drop (4 + zcj l k) := ⟨_, rfl⟩
      obtain ⟨Z, hZ⟩ := hobt
      have hK := zoO l k
      have hJ2 : J = (decide (zcj l k ≤ 32768) && decide (za1 (zcj l k) = k) && Z.all (· == 0)) := by
        rw [hJI, hm, decide_eq_true h0, decide_eq_true (by omega : 1 ≤ k), decide_eq_true (by omega : k ≤ 683), decide_eq_true (by omega : (k + 1) / 2 ≤ n), zec, ← hZ, List.all_eq_true.2 (fun j hj => hgood j (List.mem_range.1 hj))]
        simp only [Bool.true_and]
      have hx4 : za9 wr (some ⟨g9, o9 + 0, none⟩) 4 1 (bv ((bodies l k).take 4)) := by
        have := hx9.subB 0 4 (by omega)
        rwa [List.drop_zero] at this
      have hN : ∀ q c w', za9 w' q 4 1 (bv ((bodies l k).take 4)) → Calls Tryz.prog 124 [.slice q 4 c].toArray w' (Ret fun v w2 => v = .int .u64 (zcj l k) ∧ w' = w2) := fun q c w' hs => znr q 4 c _ w' hs (by omega)
      clear hJI hJF
      generalize zcj l k = K at *
      refine zak (zac ?_)
      refine zaa rfl (zbd rfl rfl) ?_
      refine zaf (zai (zak ?_))
      refine zdT rfl ((by omega)) ?_
      refine zbp (zbW (zb9 (zbw (zai (zak (zac (zaa rfl (zab) ?_)))))))
      refine zaa rfl (zdW (e := 5) (0) (4) (4) (4) (by kernel_rfl) rfl rfl ⟨_, _, rfl, rfl⟩ ⟨_, _, rfl, rfl⟩ (by simp) (by omega) (by omega) (by omega) (by omega) (by omega)) ?_
      refine zat rfl (zao (by kernel_rfl) rfl) (hN _ _ wr hx4) ?_
      rintro _ _ ⟨rfl, rfl⟩
      refine zaa rfl (zc7 (k := .i64) (by kernel_rfl) (by kernel_rfl) rfl (w64 (by omega))) ?_
      refine zaa rfl (zad) (zaf (zai (zak (zak ?_))))
      refine zbg [] (by kernel_rfl) ?_
      intro w911 hb911 hS911
      replace hr2 := hr2.new hb911
      replace hr7 := hr7.new hb911
      replace hx9 := hx9.new hb911
      replace hBr := hBr.acc hb911
      have hr2_d911 := hr2
      have hr7_d911 := hr7
      have hx9_d911 := hx9
      have hBr_d911 := hBr
      refine zah 0 (by kernel_rfl) rfl (fun _ _ => zab) ?_
      refine zah 1 (by kernel_rfl) rfl (fun _ _ => zbU rfl rfl) ?_
      refine zah 2 (by kernel_rfl) rfl (fun _ _ => zab) ?_
      refine zeN 109 rfl (fun hk1 => ?_) (fun hk1 => ?_)
      ·
       refine zaN 3 (by kernel_rfl) rfl ?_
       refine zaN 5 (by kernel_rfl) rfl ?_
       refine zaN 6 (by kernel_rfl) rfl ?_
       refine zaN 4 (by kernel_rfl) rfl ?_
       refine zaN 7 (by kernel_rfl) rfl ?_
       refine zah 8 (by kernel_rfl) rfl (fun _ _ => zay rfl) ?_
       refine zaR (by kernel_rfl) ?_
       refine zai ?_
       refine W_t rfl ?_
       refine zak (zac (zaa rfl (zab) ?_))
       refine zat rfl (zb8 (by kernel_rfl) rfl rfl) (zdp w911) ?_
       rintro _ w117 ⟨rfl, hb117⟩
       replace hr2 := hr2.new hb117
       replace hr7 := hr7.new hb117
       replace hx9 := hx9.new hb117
       replace hBr := hBr.acc hb117
       refine zaa rfl (zan rfl rfl) (zaa rfl (zan rfl rfl) (zaa rfl (zan rfl rfl) (zaa rfl (zan rfl rfl) ?_)))
       refine za4 rfl (zav 2 ([.int .u64 0, .int .i64 0]) rfl rfl hr2 (by kernel_rfl) (by first | assumption | (simp; done) | (simp [zae, *]; done)) (by first | assumption | (simp; done) | (simp [zae, *]; done) | rfl) (by first | exact zaL _ | assumption | (simp [Value.oneCell']; done)) (fun w912 hr2 ho912 => ?_))
       replace hr7 := hr7.only ho912 (Nat.ne_of_gt lt_g2_g7)
       replace hx9 := hx9.only ho912 (by omega)
       replace hBr := ho912.below hBr (by omega)
       refine zaa rfl (zad) (zaa rfl (zad) (zaa rfl (zad) (zaf (zai (zax (zaT ?_))))))
       refine zar [_, _, _, _] ⟨⟨_, rfl, Ld.zb5 (k := 2) hr2 (by kernel_rfl) (by kernel_rfl) (by first | (simp; done) | (simp [zae, *]; done) | assumption)⟩, rfl, rfl, rfl, trivial⟩ ?_
       · exact ⟨hBr, .inl ⟨by rw [hJ2, decide_eq_false (by omega)]; rfl, rfl⟩⟩
      ·
       refine zah 3 (by kernel_rfl) rfl (fun _ _ => zab) ?_
       refine zdF 4 (by kernel_rfl) rfl (fun _ => zao (by kernel_rfl) rfl) (fun w' hS' => zhv K (by omega) w') ?_
       refine zah 5 (by kernel_rfl) rfl (fun _ _ => zaj (off := 3) (by kernel_rfl) rfl) ?_
       refine zah 6 (by kernel_rfl) rfl (fun w' hS' => zam rfl (Ld.zbb (hr7_d911.kq hS') (by kernel_rfl) e3)) ?_
       refine zah 7 (by kernel_rfl) rfl (fun _ _ => zaW rfl rfl) ?_
       refine zah 8 (by kernel_rfl) rfl (fun _ _ => zaz rfl) ?_
       refine zaR (by kernel_rfl) ?_
       refine zai ?_
       refine zaZ rfl (fun hk2 => ?_) (fun hk2 => ?_)
       ·
        refine zak (zac (zaa rfl (zab) ?_))
        refine zat rfl (zb8 (by kernel_rfl) rfl rfl) (zdp w911) ?_
        rintro _ w117 ⟨rfl, hb117⟩
        replace hr2 := hr2.new hb117
        replace hr7 := hr7.new hb117
        replace hx9 := hx9.new hb117
        replace hBr := hBr.acc hb117
        refine zaa rfl (zan rfl rfl) (zaa rfl (zan rfl rfl) (zaa rfl (zan rfl rfl) (zaa rfl (zan rfl rfl) ?_)))
        refine za4 rfl (zav 2 ([.int .u64 0, .int .i64 0]) rfl rfl hr2 (by kernel_rfl) (by first | assumption | (simp; done) | (simp [zae, *]; done)) (by first | assumption | (simp; done) | (simp [zae, *]; done) | rfl) (by first | exact zaL _ | assumption | (simp [Value.oneCell']; done)) (fun w913 hr2 ho913 => ?_))
        replace hr7 := hr7.only ho913 (Nat.ne_of_gt lt_g2_g7)
        replace hx9 := hx9.only ho913 (by omega)
        replace hBr := ho913.below hBr (by omega)
        refine zaa rfl (zad) (zaa rfl (zad) (zaa rfl (zad) (zaf (zai (zax (zaT ?_))))))
        refine zar [_, _, _, _] ⟨⟨_, rfl, Ld.zb5 (k := 2) hr2 (by kernel_rfl) (by kernel_rfl) (by first | (simp; done) | (simp [zae, *]; done) | assumption)⟩, rfl, rfl, rfl, trivial⟩ ?_
        · exact ⟨hBr, .inl ⟨by rw [hJ2, decide_eq_false (by omega : ¬ za1 K = k), Bool.and_false]; rfl, rfl⟩⟩
       ·
        have hmk : za1 K = k := by omega
        have hmle := zf5 K
        rw [hmk] at hmle
        refine zau (zai (zak (zak (zac (zaa rfl (zab) (zaa rfl (zab) ?_))))))
        refine zaa rfl (zaV rfl rfl (w64 (by omega))) ?_
        refine zaa rfl (zc8 (e := 5) (sz := 1) (4 + K) (_) (_) (by kernel_rfl) rfl ⟨_, _, rfl, by omega⟩ rfl rfl (by simp) (by omega) (by omega) (by omega)) ?_
        refine zaa rfl (zaA (e := 5) (sz := 1) (by kernel_rfl) rfl rfl) ?_
        refine zaa rfl (zab) (zaf (zai (zaD ?_)))
        have hZl : Z.length = 48 * k - (4 + K) := by rw [hZ, List.length_drop, hbl]
        obtain ⟨oA, hA, hz9⟩ : ∃ oA, (if c9 = 4 + K then some (⟨g9, o9, none⟩ : Addr) else Option.map (fun x : Addr => x.add ((4 + K) * 1)) (some (⟨g9, o9, none⟩ : Addr))) = some ⟨g9, oA, none⟩ ∧ za9 w911 (some ⟨g9, oA, none⟩) (48 * k - (4 + K)) 1 (bv Z) := by
          by_cases hq : c9 = 4 + K
          · refine ⟨o9, if_pos hq, by rw [zae, hZl, Nat.mul_one], by unfold maxLen; omega, fun q => by omega⟩
          · refine ⟨o9 + (4 + K) * 1, by rw [if_neg hq, Option.map_some, Addr.add_lit], ?_⟩
            have := hx9.subB (4 + K) (48 * k - (4 + K)) (by omega)
            rw [← hZ, List.take_of_length_le (by omega)] at this
            rw [Nat.mul_one]; exact this
        refine zbF (α := Nat) 0 (fun i => [(127, .int .i64 (i : Nat)), (126, .int .i64 ((48 * k - (4 + K) : Nat) : Int)), (125, .slice (some ⟨g9, oA, none⟩) (48 * k - (4 + K)) (c9 - (4 + K))), (9, .slice (some ⟨g9, o9, none⟩) (48 * k) c9), (13, .int .i64 K), (6, .func (.func 121) #[] #[]), (7, .pointer (some ⟨g7, 0, none⟩)), (2, .pointer (some ⟨g2, 0, none⟩))])
          (fun i w' => i ≤ 48 * k - (4 + K) ∧ (∀ j, j < i → Z[j]? = some 0) ∧ w' = w911) (fun i => 48 * k - (4 + K) - i)
          ⟨rfl, rfl, by rw [← hA]; rfl, rfl, rfl, rfl, rfl, rfl, rfl⟩ ⟨Nat.zero_le _, (by intro j hj; exact absurd hj (Nat.not_lt_zero _)), rfl⟩ ?_
        rintro i f2 wz ⟨hi, hzero, rfl⟩
        refine zak (zac ?_)
        refine zaa rfl (zbd rfl rfl) ?_
        refine zaf (zai (zak ?_))
        refine zaZ rfl (fun hlt2 => ?_) (fun hlt2 => ?_)
        ·
         refine zau (zai (zak (zaD (zak (zac ?_)))))
         have hobt : ∃ z, Z[i]? = some z := ⟨_, List.getElem?_eq_getElem (by omega)⟩
         obtain ⟨z, hz⟩ := hobt
         refine zaa rfl (zbm (e := 5) (by kernel_rfl) rfl rfl (i) (by omega) (by omega)) ?_
         refine zaa rfl (zam rfl (Ld.sl1 hz9 (by kernel_rfl) (v := zcS z) (by rw [zli, hz]; rfl))) ?_
         refine zaa rfl (zad) (zaf (zai (zak (zac (zaa rfl (zab) ?_)))))
         refine zaa rfl (zaW rfl rfl) ?_
         refine zaf (zai ?_)
         refine zaZ rfl (fun hnz => ?_) (fun hnz => ?_)
         ·
          refine zak (zac (zaa rfl (zab) ?_))
          refine zat rfl (zb8 (by kernel_rfl) rfl rfl) (zdp wz) ?_
          rintro _ w134 ⟨rfl, hb134⟩
          replace hr2 := hr2.new hb134
          replace hr7 := hr7.new hb134
          replace hx9 := hx9.new hb134
          replace hBr := hBr.acc hb134
          refine zaa rfl (zan rfl rfl) (zaa rfl (zan rfl rfl) (zaa rfl (zan rfl rfl) (zaa rfl (zan rfl rfl) ?_)))
          refine za4 rfl (zav 2 ([.int .u64 0, .int .i64 0]) rfl rfl hr2 (by kernel_rfl) (by first | assumption | (simp; done) | (simp [zae, *]; done)) (by first | assumption | (simp; done) | (simp [zae, *]; done) | rfl) (by first | exact zaL _ | assumption | (simp [Value.oneCell']; done)) (fun w914 hr2 ho914 => ?_))
          replace hr7 := hr7.only ho914 (Nat.ne_of_gt lt_g2_g7)
          replace hx9 := hx9.only ho914 (by omega)
          replace hBr := ho914.below hBr (by omega)
          refine zaa rfl (zad) (zaa rfl (zad) (zaa rfl (zad) (zaf (zai (zax (za6 (zaT (zc6 (za6 (zaT ?_))))))))))
          refine zar [_, _, _, _] ⟨⟨_, rfl, Ld.zb5 (k := 2) hr2 (by kernel_rfl) (by kernel_rfl) (by first | (simp; done) | (simp [zae, *]; done) | assumption)⟩, rfl, rfl, rfl, trivial⟩ ?_
          · refine ⟨hBr, .inl ⟨?_, rfl⟩⟩
            have : Z.all (· == 0) = false := List.all_eq_false.2 ⟨z, List.mem_of_getElem? hz, by
              intro q
              have q' : z = 0 := by simpa using q
              exact hnz (by rw [q']; rfl)⟩
            rw [hJ2, this, Bool.and_false]
         ·
          refine zau (za2 (zai (zac ?_)))
          refine zaa rfl (zaV rfl rfl (Coup.w64 (by omega))) ?_
          refine zaa rfl (zab) (zaf ?_)
          have hz0 : z = 0 := by
            exact UInt8.toNat_inj.1 (by show z.toNat = 0; omega)
          refine zbq ⟨i + 1, by omega, ⟨rfl, rfl, rfl, rfl, rfl, rfl, rfl, rfl, rfl⟩, by omega, ?_, rfl⟩
          intro j hj
          rcases Nat.lt_or_ge j i with hj' | hj'
          · exact hzero j hj'
          · obtain rfl : j = i := by omega
            rw [hz, hz0]
        ·
         have hJt : J = true := by
           have : Z.all (· == 0) = true := List.all_eq_true.2 fun x hx => by
             have hobt := List.mem_iff_getElem?.1 hx
             obtain ⟨j, hj⟩ := hobt
             have := hzero j (by have := (List.getElem?_eq_some_iff.1 hj).1; omega)
             rw [hj] at this
             simpa using this
           rw [hJ2, this, decide_eq_true hmk, decide_eq_true (by omega)]; rfl
         have hJl : JB.length = K := by rw [hJB, List.length_take, List.length_drop, hbl]; omega
         obtain ⟨oC, hC, hzc⟩ : ∃ oC, (if 4 + K = 4 then some (⟨g9, o9, none⟩ : Addr) else Option.map (fun x : Addr => x.add (4 * 1)) (some (⟨g9, o9, none⟩ : Addr))) = some ⟨g9, oC, none⟩ ∧ ∀ w', za9 w' (some ⟨g9, o9, none⟩) (48 * k) 1 (bv (bodies l k)) → za9 w' (some ⟨g9, oC, none⟩) K 1 (bv JB) := by
           by_cases hq : 4 + K = 4
           · refine ⟨o9, if_pos hq, fun w' _ => ⟨by rw [zae, hJl, Nat.mul_one], by unfold maxLen; omega, fun q => by omega⟩⟩
           · refine ⟨o9 + 4 * 1, by rw [if_neg hq, Option.map_some, Addr.add_lit], fun w' hw => ?_⟩
             have := hw.subB 4 K (by omega)
             rwa [← hJB] at this
         refine zbp (zbW (zb9 (zbw (zai (zak ?_)))))
         refine zbg [g2] (by kernel_rfl) ?_
         intro w915 hb915 hS915
         replace hr2 := hr2.new hb915
         replace hr7 := hr7.new hb915
         replace hx9 := hx9.new hb915
         replace hBr := hBr.acc hb915
         have hr2_d915 := hr2
         have hr7_d915 := hr7
         have hx9_d915 := hx9
         have hBr_d915 := hBr
         refine zah 0 (by kernel_rfl) rfl (fun _ _ => zaj (off := 0) (by kernel_rfl) rfl) ?_
         refine zah 1 (by kernel_rfl) rfl (fun w' hS' => zam rfl (Ld.rng ((hr7_d915.kq hS').range 0 [.int .u64 c, .int .i64 nn] (zhu e0 e1)) (by kernel_rfl) (by kernel_rfl))) ?_
         refine zah 2 (by kernel_rfl) rfl (fun _ _ => zab) ?_
         refine zah 3 (by kernel_rfl) rfl (fun _ _ => zab) ?_
         refine zah 4 (by kernel_rfl) rfl (fun _ _ => zaV rfl rfl (w64 (by omega))) ?_
         refine zah 5 (by kernel_rfl) rfl (fun _ _ => zab) ?_
         refine zah 6 (by kernel_rfl) rfl (fun _ _ => zaV rfl rfl (w64 (by omega))) ?_
         refine zah 7 (by kernel_rfl) rfl (fun _ _ => zc8 (e := 5) (sz := 1) (4) (4 + K) (4 + K) (by kernel_rfl) rfl ⟨_, _, rfl, rfl⟩ ⟨_, _, rfl, by omega⟩ ⟨_, _, rfl, by omega⟩ (by simp) (by omega) (by omega) (by omega)) ?_
         refine zah 8 (by kernel_rfl) rfl (fun _ _ => zaj (off := 3) (by kernel_rfl) rfl) ?_
         refine zah 9 (by kernel_rfl) rfl (fun w' hS' => zam rfl (Ld.zbb (hr7_d915.kq hS') (by kernel_rfl) e3)) ?_
         refine zah 10 (by kernel_rfl) rfl (fun _ _ => zaV rfl rfl (w64 (by omega))) ?_
         refine zah 11 (by kernel_rfl) rfl (fun _ _ => zep rfl rfl (by omega) (by omega)) ?_
         refine zaS 12 (by kernel_rfl) ?_
         refine zdG rfl rfl (zav 2 ([.int .u64 c, .int .i64 nn]) rfl rfl hr2 (by kernel_rfl) (by first | assumption | (simp; done) | (simp [zae, *]; done)) (by first | assumption | (simp; done) | (simp [zae, *]; done) | rfl) (by first | exact zaL _ | assumption | (simp [Value.oneCell']; done)) (fun w917 hr2 ho917 => ?_))
         have hS916 := hS915.aq ho917
         refine ⟨hS916, ?_⟩
         replace hr7 := hr7.only ho917 (Nat.ne_of_gt lt_g2_g7)
         replace hx9 := hx9.only ho917 (by omega)
         replace hBr := ho917.below hBr (by omega)
         refine zah 13 (by kernel_rfl) rfl (fun _ _ => zad) ?_
         refine zah 14 (by kernel_rfl) rfl (fun _ _ => zad) ?_
         refine zah 15 (by kernel_rfl) rfl (fun _ _ => zad) ?_
         refine zaR (by kernel_rfl) ?_
         refine zai (zax ?_)
         refine zar [_, _, _, _] ⟨⟨_, rfl, Ld.zb5 (k := 2) hr2 (by kernel_rfl) (by kernel_rfl) (by first | (simp; done) | (simp [zae, *]; done) | assumption)⟩, rfl, rfl, rfl, trivial⟩ ?_
         refine ⟨hBr, .inr ⟨hJt, some ⟨g9, oC, none⟩, ?_, by rw [hJl]; exact hzc _ hx9⟩⟩
         have e : Value.tuple #[.agg #[.int .u64 c, .int .i64 nn], .slice (if 4 + K = 4 then some (⟨g9, o9, none⟩ : Addr) else Option.map (fun x : Addr => x.add (4 * 1)) (some (⟨g9, o9, none⟩ : Addr))) (4 + K - 4) (4 + K - 4), .int .i64 (((k : Int) + 1) / 2), .int .i64 0] =
             .tuple #[.agg #[.int .u64 c, .int .i64 nn], .slice (some ⟨g9, oC, none⟩) JB.length JB.length, .int .i64 (zaY JB.length : Nat), .int .i64 0] := by
           rw [hC, hJl, zaY, hmk, Nat.add_sub_cancel_left]; rfl
         exact e
theorem need13r (n : Int) (w : World) : Calls Tryz.prog 33 [.int .i64 n].toArray w (Ret fun v w' => v = .int .i64 (zh6 n) ∧ w = w') := zcB (need13 n w)
def refOk (l : List UInt8) (m : Nat) : Bool := (List.range m).all fun i => decide ((zbY (tagC (zaq l 0)) (tagN (zaq l 0)) (zbn l))[i]? = some (zaq l i))
def refK (l : List UInt8) : Nat := zdK (((zaq l 0).drop 16).take 4)
def zns (l : List UInt8) (n : Nat) : Bool :=
 decide (0 < n) && zeb (tagC (zaq l 0)) (tagN (zaq l 0)) && decide (1 ≤ zbH (zaq l 0) ∧ zbH (zaq l 0) ≤ 2 * n) && decide (refK l ≤ 32768 ∧ za1 (refK l) = zbH (zaq l 0)) && refOk l (zbH (zaq l 0))
def noneR : Value := .tuple #[.agg #[.int .u64 0, .int .i64 0], .slice none 0 0, .int .i64 0, .bool false]
def RR (l : List UInt8) (n : Nat) (w : World) (v : Value) (w' : World) : Prop :=
 Below w.heap.size w w' ∧ ((zns l n = false ∧ v = noneR) ∨ (zns l n = true ∧ ∃ sp c, v = .tuple #[.agg #[.int .u64 (tagC (zaq l 0)), .int .i64 (tagN (zaq l 0))], .slice sp (zbn l).length c, .int .i64 (zaY (zbn l).length : Nat), .bool true] ∧
  za9 w' sp (zbn l).length 1 (bv (zbn l)) ∧ (zbn l).length ≤ c))
theorem zoP (h : List UInt8) (hl : h.length = 64) : zcd (za0 h) (zcR h) (zdZ h) (zbH h) (zcL h) = h := by
 have e1 : beB 8 (za0 h) = h.take 8 := by
  have := zf1 (h.take 8); rwa [show (h.take 8).length = 8 by simp; omega] at this
 have e2 : beB 4 (zcR h) = (h.drop 8).take 4 := by
  have := zf1 ((h.drop 8).take 4); rwa [show ((h.drop 8).take 4).length = 4 by simp; omega] at this
 have e3 : beB 2 (zdZ h) = (h.drop 12).take 2 := by
  have := zf1 ((h.drop 12).take 2); rwa [show ((h.drop 12).take 2).length = 2 by simp; omega] at this
 have e4 : beB 2 (zbH h) = (h.drop 14).take 2 := by
  have := zf1 ((h.drop 14).take 2); rwa [show ((h.drop 14).take 2).length = 2 by simp; omega] at this
 rw [zcd, e1, e2, e3, e4, zcL]
 have s1 := List.take_append_drop 8 h
 have s2 := List.take_append_drop 4 (h.drop 8)
 have s3 := List.take_append_drop 2 (h.drop 12)
 have s4 := List.take_append_drop 2 (h.drop 14)
 rw [List.drop_drop] at s2 s3 s4
 rw [s4, s3, s2, s1]
theorem zev {α : Type} (a b : List α) (k : Nat) (h : a.length = k) : (a ++ b).take k = a := by rw [List.take_append_of_le_length (by omega), List.take_of_length_le (by omega)]
theorem zew {α : Type} (a b : List α) (k : Nat) (h : a.length = k) : (a ++ b).drop k = b := by rw [List.drop_append_of_le_length (by omega), List.drop_of_length_le (by omega), List.nil_append]
theorem zdh (c n p m : Nat) (b : List UInt8) : za0 (zcd c n p m b) = c % 256 ^ 8 ∧ zcR (zcd c n p m b) = n % 256 ^ 4 ∧ zdZ (zcd c n p m b) = p % 256 ^ 2 ∧ zbH (zcd c n p m b) = m % 256 ^ 2 ∧ zcL (zcd c n p m b) = b := by
 have d8 : (zcd c n p m b).drop 8 = beB 4 n ++ (beB 2 p ++ (beB 2 m ++ b)) := zew _ _ _ (zaG _ _)
 have d12 : (zcd c n p m b).drop 12 = beB 2 p ++ (beB 2 m ++ b) := by
  have := zew (beB 4 n) (beB 2 p ++ (beB 2 m ++ b)) 4 (zaG _ _)
  rw [← d8, List.drop_drop] at this; exact this
 have d14 : (zcd c n p m b).drop 14 = beB 2 m ++ b := by
  have := zew (beB 2 p) (beB 2 m ++ b) 2 (zaG _ _)
  rw [← d12, List.drop_drop] at this; exact this
 have d16 : (zcd c n p m b).drop 16 = b := by
  have := zew (beB 2 m) b 2 (zaG _ _)
  rw [← d14, List.drop_drop] at this; exact this
 refine ⟨?_, ?_, ?_, ?_, d16⟩
 ·rw [za0, zcd, zev _ _ 8 (zaG _ _), zdY]
 ·rw [zcR, d8, zev _ _ 4 (zaG _ _), zdY]
 ·rw [zdZ, d12, zev _ _ 2 (zaG _ _), zdY]
 ·rw [zbH, d14, zev _ _ 2 (zaG _ _), zdY]
theorem chunks (X : List UInt8) : ∀ k, 48 * k ≤ X.length → ((List.range k).flatMap fun i => (X.drop (48 * i)).take 48) = X.take (48 * k)
 | 0, _ => rfl
 | k + 1, h => by
  rw [List.range_succ, List.flatMap_append, chunks X k (by omega)]
  simp only [List.flatMap_cons, List.flatMap_nil, List.append_nil]
  rw [show 48 * (k + 1) = 48 * k + 48 by omega, List.take_add]
theorem zgM (l : List UInt8) (m i : Nat) (hl : 64 * m ≤ l.length) (hi : i < m) : ((bodies l m).drop (48 * i)).take 48 = zcL (zaq l i) := by
 induction m with
 | zero => omega
 | succ m ih =>
  have hbl := zcW l m (by omega)
  rw [zdM]
  by_cases h : i < m
  ·rw [List.drop_append_of_le_length (by omega), List.take_append_of_le_length (by rw [List.length_drop]; omega)]
   exact ih (by omega) h
  ·obtain rfl : i = m := by omega
   rw [zew _ _ _ hbl, List.take_of_length_le (by rw [zcL, List.length_drop, zcf _ _ (by omega)]; omega)]
theorem zjW (l X : List UInt8) (m : Nat) (hX : X.length = 48 * m) (h : ∀ i, i < m → zcL (zaq l i) = (X.drop (48 * i)).take 48) : bodies l m = X := by
 have := chunks X m (by omega)
 rw [List.take_of_length_le (by omega)] at this
 rw [← this, bodies]
 have key : ∀ L : List Nat, (∀ i, i ∈ L → i < m) → (L.flatMap fun i => zcL (zaq l i)) = L.flatMap fun i => (X.drop (48 * i)).take 48 := by
  intro L
  induction L with
  | nil => intro _; rfl
  | cons a L ih => intro hL; rw [List.flatMap_cons, List.flatMap_cons, h a (hL a (by simp)), ih fun i hi => hL i (by simp [hi])]
 exact key _ fun i hi => List.mem_range.1 hi
theorem zoQ (h : List UInt8) : zeb (tagC h) (tagN h) = zeb (za0 h) (zcR h) := by
 unfold tagC tagN
 cases hm : zeb (za0 h) (zcR h) with
 | true => simpa using hm
 | false => show zeb ((0 : Nat) : Int) ((0 : Nat) : Int) = false; decide
theorem zoR (z : List UInt8) : z.all (· == 0) = true ↔ z = zaI z.length := by
 rw [List.all_eq_true, zaI]
 constructor
 ·intro h
  exact List.eq_replicate_iff.2 ⟨rfl, fun x hx => by simpa using h x hx⟩
 ·intro h x hx
  rw [h] at hx
  simpa using (List.mem_replicate.1 hx).2
theorem zmu (l : List UInt8) (m : Nat) (B : List UInt8) (hl : 64 * m ≤ l.length) (hm : za1 (zcj l m) = m) (hB : B = ((bodies l m).drop 4).take (zcj l m)) : bodies l m = zmQ B ↔ ((bodies l m).drop (4 + zcj l m)).all (· == 0) = true := by
 have hbl := zcW l m hl
 have hle := zf5 (zcj l m)
 rw [hm] at hle
 have hBl : B.length = zcj l m := by rw [hB, List.length_take, List.length_drop, hbl]; omega
 have e4 : beB 4 (zcj l m) = (bodies l m).take 4 := by
  have := zf1 ((bodies l m).take 4); rwa [show ((bodies l m).take 4).length = 4 by simp; omega] at this
 rw [zoR, zmQ, hBl, hm, e4]
 have hsp : bodies l m = (bodies l m).take 4 ++ B ++ (bodies l m).drop (4 + zcj l m) := by
  rw [hB, List.append_assoc]
  have s2 := List.take_append_drop (zcj l m) ((bodies l m).drop 4)
  rw [List.drop_drop] at s2
  rw [s2, List.take_append_drop]
 have hz : ((bodies l m).drop (4 + zcj l m)).length = 48 * m - (4 + zcj l m) := by rw [List.length_drop, hbl]
 rw [hz]
 constructor
 ·intro h
  have := hsp.symm.trans h
  exact List.append_cancel_left this
 ·intro h
  rw [← h]; exact hsp
theorem znt (l : List UInt8) (m : Nat) (hl : 64 * m ≤ l.length) (h1 : 1 ≤ m) : refK l = zcj l m := by
 have := zgM l m 0 hl h1
 rw [zcj, refK]
 have e : (bodies l m).take 4 = (((bodies l m).drop (48 * 0)).take 48).take 4 := by rw [Nat.mul_zero, List.drop_zero, List.take_take]; rfl
 rw [e, this]; rfl
theorem znu {h : List UInt8} (hm : zeb (za0 h) (zcR h) = true) : tagC h = za0 h ∧ tagN h = zcR h := by simp [tagC, tagN, hm]
theorem zoS (l : List UInt8) (n : Nat) (hl : l.length = n * 128) : zns l n = zbA l n := by
 unfold zns zbA zgr zec refOk
 rw [zoQ]
 by_cases h0 : 0 < n
 ·cases hm : zeb (za0 (zaq l 0)) (zcR (zaq l 0)) with
  | false => simp
  | true =>
   obtain ⟨e1, e2⟩ := znu hm
   rw [e1, e2]
   have hmb := zdy hm
   have hJB : zbn l = ((bodies l (zbH (zaq l 0))).drop 4).take (zcj l (zbH (zaq l 0))) := rfl
   have hmm : zbH (zaq l 0) < 65536 := zcm _ 2 (by simp; omega)
   generalize za0 (zaq l 0) = c at *
   generalize zcR (zaq l 0) = nn at *
   generalize zbH (zaq l 0) = m at *
   by_cases hm1 : 1 ≤ m ∧ m ≤ 2 * n
   ·have hlm : 64 * m ≤ l.length := by omega
    rw [znt l m hlm hm1.1]
    by_cases hk : zcj l m ≤ 32768 ∧ za1 (zcj l m) = m
    ·have hm683 : m ≤ 683 := by have := hk.2; unfold za1 at this; omega
     have hba := zmu l m (zbn l) hlm hk.2 hJB
     have hbl := zcW l m hlm
     have hle := zf5 (zcj l m)
     rw [hk.2] at hle
     have hBl : (zbn l).length = zcj l m := by rw [hJB, List.length_take, List.length_drop, hbl]; omega
     have hiff : (∀ i, i < m → (zbY c nn (zbn l))[i]? = some (zaq l i)) ↔ ((∀ i, i < m → zgq (zaq l i) c nn i m = true) ∧ ((bodies l m).drop (4 + zcj l m)).all (· == 0) = true) := by
      have hget : ∀ i, i < m → (zbY c nn (zbn l))[i]? = some (zcd c nn i m (zbS (zbn l) i)) := fun i hi => by
       rw [zda c nn _ i (by rw [hBl, hk.2]; exact hi), hBl, hk.2]
      constructor
      ·intro h
       have hh : ∀ i, i < m → zcd c nn i m (zbS (zbn l) i) = zaq l i := fun i hi => by
        have := h i hi; rw [hget i hi] at this; exact Option.some.inj this
       refine ⟨fun i hi => ?_, hba.1 (zjW l _ m (by rw [zet, hBl, hk.2]) fun i hi => ?_)⟩
       ·obtain ⟨f1, f2, f3, f4, -⟩ := zdh c nn i m (zbS (zbn l) i)
        rw [hh i hi] at f1 f2 f3 f4
        rw [zgq, f1, f2, f3, f4, Nat.mod_eq_of_lt (by omega), Nat.mod_eq_of_lt (by omega), Nat.mod_eq_of_lt (by omega), Nat.mod_eq_of_lt (by omega), hm]
        simp
       ·obtain ⟨-, -, -, -, f5⟩ := zdh c nn i m (zbS (zbn l) i)
        rw [← hh i hi, f5]; rfl
      ·rintro ⟨h1, h2⟩ i hi
       rw [hget i hi]
       have hg := h1 i hi
       simp only [zgq, Bool.and_eq_true, decide_eq_true_eq] at hg
       obtain ⟨⟨⟨-, g1, g2⟩, g3⟩, g4⟩ := hg
       have hp : zbS (zbn l) i = zcL (zaq l i) := by rw [zbS, ← hba.2 h2, zgM l m i hlm hi]
       have := zoP (zaq l i) (zcf _ _ (by omega))
       rw [g1, g2, g3, g4] at this
       rw [hp, this]
     have hb : ((List.range m).all fun i => decide ((zbY c nn (zbn l))[i]? = some (zaq l i))) = ((List.range m).all (fun i => zgq (zaq l i) c nn i m) && ((bodies l m).drop (4 + zcj l m)).all (· == 0)) := by
      rw [Bool.eq_iff_iff, Bool.and_eq_true, List.all_eq_true, List.all_eq_true]
      simp only [List.mem_range, decide_eq_true_eq]
      exact hiff
     rw [hb, decide_eq_true h0, decide_eq_true hm1, decide_eq_true hk, decide_eq_true hk.1, decide_eq_true hk.2, decide_eq_true hm1.1, decide_eq_true hm683, decide_eq_true (by omega : (m + 1) / 2 ≤ n)]
     simp
    ·rw [decide_eq_false hk]
     rcases Classical.not_and_iff_not_or_not.1 hk with h | h
     ·rw [decide_eq_false h]; simp
     ·rw [decide_eq_false h]; simp
   ·rw [decide_eq_false hm1]
    rcases Classical.not_and_iff_not_or_not.1 hm1 with h | h
    ·rw [decide_eq_false h]; simp
    ·rw [decide_eq_false (by omega : ¬ (m + 1) / 2 ≤ n)]; simp
 ·rw [decide_eq_false h0]; simp
theorem znv (L : List (List UInt8)) (X : List UInt8) (h : ∀ l, l ∈ L → l.length = 64) (i : Nat) (hi : i < L.length) : L[i]? = some (zaq (L.flatten ++ X) i) := by
 induction L generalizing i with
 | nil => simp at hi
 | cons a L ih =>
  have ha := h a (by simp)
  rw [zaq, List.flatten_cons, List.append_assoc]
  cases i with
  | zero => rw [Nat.mul_zero, List.drop_zero, zev _ _ 64 ha]; rfl
  | succ i =>
   have := ih (fun l hl => h l (by simp [hl])) i (by simpa using hi)
   rw [List.getElem?_cons_succ, this, zaq, show 64 * (i + 1) = 64 + 64 * i by omega, ← List.drop_drop, zew _ _ 64 ha]
theorem zlF (c nn : Nat) (b X : List UInt8) (i : Nat) (hi : i < za1 b.length) : zaq (zgT c nn b ++ X) i = zcd c nn i (za1 b.length) (zbS b i) := by
 have h1 := znv (zbY c nn b) (zaI (128 * zaY b.length - 64 * za1 b.length) ++ X) (zgp c nn b) i (by rw [zeu]; exact hi)
 rw [zda c nn b i hi] at h1
 rw [zgT, List.append_assoc]
 exact (Option.some.inj h1).symm
theorem zg0 (c nn : Nat) (b : List UInt8) : (zgT c nn b).length = 128 * zaY b.length := by
 rw [zgT, List.length_append, znq _ (zgp c nn b), zeu, zaI, List.length_replicate]
 unfold zaY; omega
theorem znw (n : Nat) : 1 ≤ za1 n := by unfold za1; omega
theorem zjX {n : Nat} (h : n ≤ 32768) : za1 n ≤ 683 := by unfold za1; omega
theorem znx (b : List UInt8) : (zmQ b).take 4 = beB 4 b.length := by rw [zmQ, List.append_assoc, zev _ _ 4 (zaG _ _)]
theorem zoT (b : List UInt8) : ((zmQ b).drop 4).take b.length = b := by rw [zmQ, List.append_assoc, zew _ _ 4 (zaG _ _), zev _ _ _ rfl]
structure Told (l : List UInt8) (n c nn : Nat) (b : List UInt8) : Prop where
 is : zbA l n = true
 c : za0 (zaq l 0) = c
 n : zcR (zaq l 0) = nn
 b : zbn l = b
end Go.Proofs.YtielfpkjoidomaaGreat
namespace Coup
open Go Go.RowKit Go.ChangeShapes Go.WideShapes Go.Deep
section
variable {H : Type} {enc : TypeId × Value → H} {P : Program} {W : World} {base : Nat} {spare : Nat → Bool} {held : Bool}
def Opn (enc : TypeId × Value → H) (P : Program) (W : World) (base : Nat) (spare : Nat → Bool) (held : Bool) (e : TypeId) {α : Type} (Q : α → List Value → Prop) : Prop :=
 ∀ fuel cs x, DataW.trod enc P W base spare held fuel e cs = some x → ∃ r, Q r cs
theorem zgs {e : TypeId} {k : IntKind} (he : P.underlying e = some (.int k)) : Opn enc P W base spare held e (fun (i : Int) cs => cs = [.int k i] ∧ (Lit.int k i).wf = true) := fun fuel cs x h => by
 obtain ⟨n, rfl, _, hw⟩ := DataW.trod_int he h
 exact ⟨n, rfl, hw⟩
def zdv {α : Type} (Q : α → List Value → Prop) (W : World) (n : Nat) (p : Option Addr) (len : Nat) (R : List α) : Prop :=
 R.length = len ∧ ∃ cs, za9 W p len n cs ∧ ∀ (i : Nat) (r : α), R[i]? = some r → Q r ((cs.drop (i * n)).take n)
theorem zhx {t e : TypeId} {n : Nat} {α : Type} {Q : α → List Value → Prop} (ht : P.underlying t = some (.slice e)) (hC : P.cellsOf e = n) (hq : Opn enc P W base spare held e Q) :
  Opn enc P W base spare held t (fun (R : List α) cs => ∃ p cp, cs = [.slice p R.length cp] ∧ R.length ≤ cp ∧ zdv Q W n p R.length R) := fun fuel cs x h => by
 have hform : ∃ q m cp, cs = [.slice q m cp] := by
  rcases open_slice ht h with ⟨hcs, _⟩ | ⟨a', len', cap', m2, n', D, Pl, hcs, _⟩
  ·exact ⟨_, _, _, hcs⟩
  ·exact ⟨_, _, _, hcs⟩
 obtain ⟨q, m, cp, rfl⟩ := hform
 obtain ⟨⟨R, cs, h1, h2, h3⟩, h4⟩ := zih (enc := enc) (d := x.1) (p := x.2) (n := n) Q ht hC hq ⟨fuel, h⟩
 exact ⟨R, q, cp, by rw [h1], by rw [h1]; exact h4, by rw [h1]; exact ⟨h1, cs, h2, h3⟩⟩
theorem zlG {e : TypeId} {fs : Array Field} (hs : P.underlying e = some (.struct fs)) {fuel : Nat} {cs : List Value} {x : DataW H × List MemPlace} (h : DataW.trod enc P W base spare held fuel e cs = some x) :
  cs.length = P.cellsOf e ∧ ∃ m, ∀ (i : Nat) (f : Field), fs[i]? = some f → ∃ y, DataW.trod enc P W base spare held m f.type ((cs.drop f.offset).take (P.cellsOf f.type)) = some y := by
 obtain ⟨xs, m, rfl, _, hl, hx, hel⟩ := DataW.trod_struct hs h
 refine ⟨hl, m, fun i f hi => ?_⟩
 have h0 := hel i f hi
 have hlt : i < xs.length := by
  rw [hx]
  exact (Array.getElem?_eq_some_iff.1 hi).1
 rw [List.getElem?_eq_getElem hlt] at h0
 exact ⟨_, h0⟩
theorem fld {fs : Array Field} {m : Nat} {cs : List Value} (hf : ∀ (i : Nat) (f : Field), fs[i]? = some f → ∃ y, DataW.trod enc P W base spare held m f.type ((cs.drop f.offset).take (P.cellsOf f.type)) = some y) (i o k : Nat) {f : Field} (hi : fs[i]? = some f) (ho : f.offset = o) (hc : P.cellsOf f.type = k) :
  ∃ y, DataW.trod enc P W base spare held m f.type ((cs.drop o).take k) = some y := by
 subst ho; subst hc; exact hf i f hi
theorem opn_arg {t e : TypeId} {n : Nat} {α : Type} {Q : α → List Value → Prop} {a : Option Addr} {len cap : Nat} {d : DataW H} {p : List MemPlace} (ht : P.underlying t = some (.slice e)) (hC : P.cellsOf e = n) (hq : Opn enc P W base spare held e Q)
  (h : DataW.Trod enc P W base spare held t (.slice a len cap) d p) : (∃ R, zdv Q W n a len R) ∧ len ≤ cap := by
 obtain ⟨⟨R, cs, h1, h2, h3⟩, h4⟩ := zih (n := n) Q ht hC hq h
 exact ⟨⟨R, h1, cs, h2, h3⟩, h4⟩
end
namespace zdv
variable {α : Type} {Q Q' : α → List Value → Prop} {w w' : World} {n : Nat} {p : Option Addr} {len : Nat} {R : List α}
theorem some (h : zdv Q w n p len R) (h0 : 0 < len * n) : ∃ g o, p = Option.some ⟨g, o, none⟩ ∧ g < w.heap.size := by
 obtain ⟨_, cs, h2, _⟩ := h
 exact h2.some h0
theorem max (h : zdv Q w n p len R) : len ≤ maxLen := h.2.choose_spec.1.max
theorem get {i : Nat} (h : zdv Q w n p len R) (hi : i < len) : ∃ a, R[i]? = Option.some a := ⟨_, List.getElem?_eq_getElem (by have := h.1; omega)⟩
theorem to (h : zdv Q w n p len R) (hb : Below w.heap.size w w') (hq : ∀ r cs, Q r cs → Q' r cs) : zdv Q' w' n p len R := by
 obtain ⟨h1, cs, h2, h3⟩ := h
 exact ⟨h1, cs, h2.below hb (Nat.le_refl _), fun i r hi => hq r _ (h3 i r hi)⟩
theorem kpd {M : List Nat} (h : zdv Q w n p len R) (k : Kp M w w') (hM : ∀ b o, p = Option.some ⟨b, o, none⟩ → b ∉ M) : zdv Q w' n p len R := by
 obtain ⟨h1, cs, h2, h3⟩ := h
 exact ⟨h1, cs, h2.kpd k hM, h3⟩
theorem el {g o i : Nat} {a : α} (h : zdv Q w n (Option.some ⟨g, o, none⟩) len R) (hi : R[i]? = Option.some a) : ∃ cs, Q a cs ∧ cs.length = n ∧ ∀ j v, cs[j]? = Option.some v → w.cell? ⟨g, o + i * n + j, none⟩ = Option.some v := by
 obtain ⟨h1, cs, h2, h3⟩ := h
 have hn := (List.getElem?_eq_some_iff.1 hi).1
 have hl := h2.len
 have hle : i * n + n ≤ len * n := by rw [← Nat.succ_mul]; exact Nat.mul_le_mul_right _ (by omega)
 refine ⟨_, h3 i a hi, by rw [List.length_take, List.length_drop]; omega, fun j v hv => ?_⟩
 rw [List.getElem?_take] at hv
 split at hv
 ·rw [List.getElem?_drop] at hv
  have := h2.cell _ hv
  rw [Nat.add_assoc]; exact this
 ·cases hv
theorem ldB {P : Program} {t g o i : Nat} {a : α} (h : zdv Q w n (Option.some ⟨g, o, none⟩) len R) (ht : zic P t = true) (hs : zcN P t n = true) (hi : R[i]? = Option.some a) : ∃ cs, Q a cs ∧ cs.length = n ∧ ∀ w', Below w.heap.size w w' → Ld P w' t ⟨g, o + i * n, none⟩ (.agg cs.toArray) ∧ ∀ j v, cs[j]? = Option.some v → w'.cell? ⟨g, o + i * n + j, none⟩ = Option.some v := by
 obtain ⟨cs, h1, h2, h3⟩ := h.el hi
 have hlt : 0 < n → g < w.heap.size := fun h0 => by
  have hn := (List.getElem?_eq_some_iff.1 hi).1
  obtain ⟨g', o', e, hl⟩ := h.some (Nat.mul_pos (by have := h.1; omega) h0)
  cases e; exact hl
 refine ⟨cs, h1, h2, fun w' hb => ?_⟩
 have hc : ∀ j v, cs[j]? = Option.some v → w'.cell? ⟨g, o + i * n + j, none⟩ = Option.some v := fun j v hv => by
  have hj := (List.getElem?_eq_some_iff.1 hv).1
  rw [← h3 j v hv]
  simp only [World.cell?, hb.block g (hlt (by omega))]
 exact ⟨Ld.rng hc ht (by rw [h2]; exact hs), hc⟩
end zdv
theorem zhy (cs : List Value) (o k : Nat) : cs.drop o = (cs.drop o).take k ++ cs.drop (o + k) := by
 rw [← List.drop_drop, List.take_append_drop]
theorem el_ints {W : World} {p : Option Addr} {len : Nat} {R : List Int} (h : zdv (fun (i : Int) cs => cs = [.int .i64 i] ∧ (Lit.int .i64 i).wf = true) W 1 p len R) : za9 W p len 1 (iv R) ∧ okI R := by
 obtain ⟨h1, cs, h2, h3⟩ := h
 have hl := h2.len
 refine ⟨?_, fun x hx => ?_⟩
 ·have : cs = iv R := by
   refine List.ext_getElem? fun i => ?_
   by_cases hi : i < R.length
   ·have := (h3 i _ (List.getElem?_eq_getElem hi)).1
    have := congrArg (fun z => z[0]?) this
    rw [iv_get, List.getElem?_eq_getElem hi]
    simpa [List.getElem?_take, List.getElem?_drop] using this
   ·rw [List.getElem?_eq_none (by omega), List.getElem?_eq_none (by rw [zaM]; omega)]
  rw [← this]; exact h2
 ·obtain ⟨i, hi⟩ := List.mem_iff_getElem?.1 hx
  exact zeU (h3 i x hi).2
theorem zny {W : World} {p : Option Addr} {len : Nat} {R : List Int} (h : zdv (fun (i : Int) cs => cs = [.int .u8 i] ∧ (Lit.int .u8 i).wf = true) W 1 p len R) : ∃ l : List UInt8, l.length = len ∧ za9 W p len 1 (bv l) := by
 obtain ⟨h1, cs, h2, h3⟩ := h
 have hl := h2.len
 obtain ⟨l, rfl⟩ := zfn cs fun i hi => by
  obtain ⟨h4, h5⟩ := h3 i _ (List.getElem?_eq_getElem (by omega : i < R.length))
  obtain ⟨b, hb⟩ := byte_of_wf h5
  refine ⟨b, ?_⟩
  have := congrArg (fun z => z[0]?) h4
  rw [hb] at this
  show cs[i]? = some (Value.int .u8 (b.toNat : Int))
  simpa [List.getElem?_take, List.getElem?_drop] using this
 exact ⟨l, by simpa [zae] using hl, h2⟩
end Coup
namespace Go.Proofs.YtielfpkjoidomaaGreat
open Go Go.RowKit Coup
structure Ch where
 num : Int
 page : List UInt8
def chV (c : Ch) : List Value := .int .i64 c.num :: bv c.page
abbrev Rec := List Ch
def zbD (R : Rec) : Prop := ∀ c ∈ R, c.page.length = 512
def zbT (R : Rec) : List Value := R.flatMap chV
theorem zcX {c : Ch} (h : c.page.length = 512) : (chV c).length = 513 := by rw [chV, List.length_cons, zae, h]
theorem zcg {R : Rec} (h : zbD R) : (zbT R).length = R.length * 513 := by
 induction R with
 | nil => rfl
 | cons c R ih =>
  rw [zbT, List.flatMap_cons, List.length_append, zcX (h c (List.mem_cons_self ..)), List.length_cons]
  have := ih fun x hx => h x (List.mem_cons_of_mem _ hx)
  rw [zbT] at this
  omega
theorem zi3 {R : Rec} (h : zbD R) {i : Nat} {c : Ch} (hc : R[i]? = some c) : ((zbT R).drop (i * 513)).take 513 = chV c := by
 induction R generalizing i with
 | nil => simp at hc
 | cons d R ih =>
  have hd := zcX (h d (List.mem_cons_self ..))
  cases i with
  | zero =>
   obtain rfl : d = c := by simpa using hc
   rw [Nat.zero_mul, List.drop_zero, zbT, List.flatMap_cons, List.take_left' hd]
  | succ i =>
   have hc' : R[i]? = some c := by simpa using hc
   rw [zbT, List.flatMap_cons, show (i + 1) * 513 = (chV d).length + i * 513 by omega, List.drop_append, List.drop_of_length_le (by omega), List.nil_append, show (chV d).length + i * 513 - (chV d).length = i * 513 by omega]
   exact ih (fun x hx => h x (List.mem_cons_of_mem _ hx)) hc'
theorem zdN (R : Rec) (c : Ch) : zbT (R ++ [c]) = zbT R ++ chV c := by rw [zbT, List.flatMap_append]; simp [zbT]
theorem zdq (c : Ch) : ∀ v ∈ chV c, v.oneCell' = true := fun v hv => by
 rcases List.mem_cons.1 hv with rfl | hv
 ·rfl
 ·exact zaL _ v hv
theorem zoU (R : Rec) : ∀ v ∈ zbT R, v.oneCell' = true := fun v hv => by
 obtain ⟨c, _, h⟩ := List.mem_flatMap.1 hv
 exact zdq c v h
theorem zkZ {w : World} {g o n : Nat} {R : Rec} (h : za9 w (some ⟨g, o, none⟩) n 513 (zbT R)) (hR : zbD R) {i : Nat} {c : Ch} (hc : R[i]? = some c) : Ld Tryz.prog w 73 ⟨g, o + i * 513, none⟩ (.agg (chV c).toArray) := by
 have hi := (List.getElem?_eq_some_iff.1 hc).1
 have hl := zcg hR
 have := Ld.slN (P := Tryz.prog) (t := 73) (j := i * 513) (k := 513) h (by kernel_rfl) (by kernel_rfl) (by omega)
 rw [zi3 hR hc] at this
 exact this
def zbK (n : Int) : Int := if 1 ≤ n ∧ n ≤ 60 then (zaY (n.toNat * 516) : Nat) else 0
set_option maxRecDepth 20000 in
theorem zin (n : Int) (w : World) : Calls Tryz.prog 37 [.int .i64 n].toArray w (Ret fun v w' => v = .int .i64 (zbK n) ∧ w = w') := by
 refine zaw (fn := Tryz.f37) (rs := [.tmp 2]) (n := 12) Tryz.func37 rfl rfl Tryz.ntmps37 (by kernel_rfl) rfl ?_
 refine zak (zac (zaa rfl (zad) (zaf (zai (zak (zak (zac (zaa rfl (zab) ?_))))))))
 refine zaa rfl (zbd rfl rfl) ?_
 refine zaa rfl (zab) ?_
 refine zbJ 5 rfl (fun h1 => ?_) (fun h1 => ?_)
 ·
  refine zaE rfl rfl (zaE rfl rfl (zaa rfl (zay rfl) (zaf (zai ?_))))
  refine zkB rfl (rfl) ?_
  refine zak (zac (zaa rfl (zad) (zaf (zai (zax (zaT ?_))))))
  refine zar [_] ⟨rfl, trivial⟩ ?_
  exact ⟨by rw [zbK, if_neg (by omega)]; rfl, rfl⟩
 ·
  refine zas rfl (zaa rfl (zab) (zas rfl ?_))
  refine zaa rfl (zbU rfl rfl) ?_
  refine zaa rfl (zaz rfl) (zaf (zai ?_))
  refine zaZ rfl (fun h2 => ?_) (fun h2 => ?_)
  ·
   refine zak (zac (zaa rfl (zad) (zaf (zai (zax (zaT ?_))))))
   refine zar [_] ⟨rfl, trivial⟩ ?_
   exact ⟨by rw [zbK, if_neg (by omega)]; rfl, rfl⟩
  ·
   refine zau (zai (zak (zac (zaa rfl (zab) ?_))))
   refine zaa rfl (zd6 rfl rfl (Coup.w64 (by omega))) ?_
   refine zat rfl (zao (by kernel_rfl) rfl) (zno (n * 516) w) ?_
   rintro _ _ ⟨rfl, rfl⟩
   refine zaa rfl (zad) (zaf (zai (zax ?_)))
   refine zar [_] ⟨rfl, trivial⟩ ?_
   refine ⟨?_, rfl⟩
   show Value.int .i64 _ = _
   congr 1
   rw [zbK, if_pos (by omega), zh6, if_pos (by omega), show (n * 516).toNat = n.toNat * 516 by omega]
   rfl
set_option maxRecDepth 20000 in
theorem rneed11 (n : Int) (w : World) : Calls Tryz.prog 8 [.int .i64 n].toArray w (Ret fun v w' => v = .int .i64 (zbK n) ∧ w = w') := by
 refine zaw (fn := Tryz.f8) (rs := [.tmp 2]) (n := 12) Tryz.func8 rfl rfl Tryz.ntmps8 (by kernel_rfl) rfl ?_
 refine zak (zac (zaa rfl (zad) (zaf (zai (zak (zak (zac (zaa rfl (zab) ?_))))))))
 refine zaa rfl (zbd rfl rfl) ?_
 refine zaa rfl (zab) ?_
 refine zbJ 5 rfl (fun h1 => ?_) (fun h1 => ?_)
 ·
  refine zaE rfl rfl (zaE rfl rfl (zaa rfl (zay rfl) (zaf (zai ?_))))
  refine zkB rfl (rfl) ?_
  refine zak (zac (zaa rfl (zad) (zaf (zai (zax (zaT ?_))))))
  refine zar [_] ⟨rfl, trivial⟩ ?_
  exact ⟨by rw [zbK, if_neg (by omega)]; rfl, rfl⟩
 ·
  refine zas rfl (zaa rfl (zab) (zas rfl ?_))
  refine zaa rfl (zbU rfl rfl) ?_
  refine zaa rfl (zaz rfl) (zaf (zai ?_))
  refine zaZ rfl (fun h2 => ?_) (fun h2 => ?_)
  ·
   refine zak (zac (zaa rfl (zad) (zaf (zai (zax (zaT ?_))))))
   refine zar [_] ⟨rfl, trivial⟩ ?_
   exact ⟨by rw [zbK, if_neg (by omega)]; rfl, rfl⟩
  ·
   refine zau (zai (zak (zac (zaa rfl (zab) ?_))))
   refine zaa rfl (zd6 rfl rfl (Coup.w64 (by omega))) ?_
   refine zat rfl (zao (by kernel_rfl) rfl) (need13r (516 * n) w) ?_
   rintro _ _ ⟨rfl, rfl⟩
   refine zaa rfl (zad) (zaf (zai (zax ?_)))
   refine zar [_] ⟨rfl, trivial⟩ ?_
   refine ⟨?_, rfl⟩
   show Value.int .i64 _ = _
   congr 1
   rw [zbK, if_pos (by omega), zh6, if_pos (by omega), show (516 * n).toNat = n.toNat * 516 by omega]
   rfl
set_option maxRecDepth 20000 in
theorem zi4 (p : Option Addr) (n c : Nat) (l : List UInt8) (w : World) (h : za9 w p n 1 (bv l)) (hn : n ≤ 8) : Calls Tryz.prog 97 [.slice p n c].toArray w (Ret fun v w' => v = .int .u64 (zdK l) ∧ w = w') := by
 have hl : l.length = n := by simpa [zae] using h.len
 refine zaw (fn := Tryz.f97) (rs := [.tmp 2]) (n := 18) Tryz.func97 rfl rfl Tryz.ntmps97 (by kernel_rfl) rfl ?_
 refine zak (zac (zaa rfl (zad) (zaf (zai (zak (zak (zac (zaa rfl (zab) ?_))))))))
 refine zaa rfl (zaA (e := 5) (sz := 1) (by kernel_rfl) rfl rfl) ?_
 refine zaa rfl (zab) (zaf (zai (zaD ?_)))
 refine zbF (α := Nat) 0 (fun k => [(2, .int .u64 (zdK (l.take k) : Nat)), (7, .int .i64 (k : Nat)), (6, .int .i64 (n : Int)), (5, .slice p n c)]) (fun k w' => k ≤ n ∧ w = w') (fun k => n - k)
   ⟨rfl, rfl, rfl, rfl, rfl⟩ ⟨Nat.zero_le _, rfl⟩ ?_
 rintro k f wr ⟨hk, rfl⟩
 refine zak (zac ?_)
 refine zaa rfl (zbd rfl rfl) ?_
 refine zaf (zai (zak ?_))
 refine zaZ rfl (fun hlt => ?_) (fun hlt => ?_)
 ·
  refine zau (zai (zak (zaD (zak ?_))))
  have hobt : ∃ x, l[k]? = some x := ⟨_, List.getElem?_eq_getElem (by omega)⟩
  obtain ⟨x, hx⟩ := hobt
  have hobt := h.some (by omega)
  obtain ⟨g, o, rfl, hg⟩ := hobt
  have hsm := zjO l k (by omega)
  have hb := x.toNat_lt
  refine zac ?_
  refine zaa rfl (zbm (e := 5) (by kernel_rfl) rfl rfl (k) (by omega) (by omega)) ?_
  refine zaa rfl (zam rfl (Ld.sl1 h (by kernel_rfl) (show (bv l)[k]? = some (.int .u8 (x.toNat : Int)) by rw [zli, hx]; rfl))) ?_
  refine zaa rfl (zad) (zaf (zai (zac (zaa rfl (zab) ?_))))
  refine zaa rfl (rn_shl rfl rfl (by omega) (show IntKind.u64.wrap (((zdK (l.take k) : Nat) : Int) * 2 ^ (min (8 : Int).toNat IntKind.u64.bits)) = ((256 * zdK (l.take k) : Nat) : Int) by rw [show (2 : Int) ^ (min (8 : Int).toNat IntKind.u64.bits) = 256 from rfl, wu64 (by omega)]; omega)) ?_
  refine zaa rfl (zab) ?_
  refine zaa rfl (zc7 (k := .u64) (by kernel_rfl) (by kernel_rfl) rfl (wu64 (by omega))) ?_
  refine zaa rfl (rn_or rfl rfl ((orU 8 (zdK (l.take k) : Nat) (by omega) (by omega) (by omega) (by omega)).trans (show _ = ((zdK (l.take (k + 1)) : Nat) : Int) by rw [zlC l k x hx]; omega))) ?_
  refine zaa rfl (zad) (zaf (za2 (zai (zac ?_))))
  refine zaa rfl (zaV rfl rfl (Coup.w64 (by omega))) ?_
  refine zaa rfl (zab) (zaf ?_)
  refine zbq ⟨k + 1, by omega, ⟨rfl, by go_num, rfl, rfl, rfl⟩, by omega, rfl⟩
 ·
  refine zbp (zbW (zb9 (zbw (zai (zak (zac (zaa rfl (zab) (zaa rfl (zad) (zaf (zai (zax ?_)))))))))))
  refine zar [_] ⟨rfl, trivial⟩ ?_
  refine ⟨?_, rfl⟩
  rw [List.take_of_length_le (by omega)]
  rfl
theorem zf6 (x : Int) : ∃ b : UInt8, IntKind.u8.wrap x = (b.toNat : Int) := by
 have h : 0 ≤ IntKind.u8.wrap x ∧ IntKind.u8.wrap x < 256 := by rw [IntKind.wrap_u8]; omega
 refine ⟨UInt8.ofNat (IntKind.u8.wrap x).toNat, ?_⟩
 rw [UInt8.toNat_ofNat']
 omega
theorem zmv (n : Int) : ∃ l4 : List UInt8, l4.length = 4 ∧ (0 ≤ n → l4 = beB 4 n.toNat) ∧ [Value.int .u8 (IntKind.u8.wrap (n.fdiv (2 ^ (min (24 : Int).toNat IntKind.i64.bits)))), .int .u8 (IntKind.u8.wrap (n.fdiv (2 ^ (min (16 : Int).toNat IntKind.i64.bits)))), .int .u8 (IntKind.u8.wrap (n.fdiv (2 ^ (min (8 : Int).toNat IntKind.i64.bits)))), .int .u8 (IntKind.u8.wrap n)] = bv l4 := by
 show ∃ l4 : List UInt8, l4.length = 4 ∧ (0 ≤ n → l4 = beB 4 n.toNat) ∧ [Value.int .u8 (IntKind.u8.wrap (n.fdiv (2 ^ 24))), .int .u8 (IntKind.u8.wrap (n.fdiv (2 ^ 16))), .int .u8 (IntKind.u8.wrap (n.fdiv (2 ^ 8))), .int .u8 (IntKind.u8.wrap n)] = bv l4
 by_cases h : 0 ≤ n
 ·obtain ⟨k, rfl⟩ : ∃ k : Nat, n = k := ⟨n.toNat, by omega⟩
  exact ⟨beB 4 k, zaG _ _, fun _ => by rw [Int.toNat_natCast], bytes4 k⟩
 ·obtain ⟨a, ha⟩ := zf6 (n.fdiv (2 ^ 24))
  obtain ⟨b, hb⟩ := zf6 (n.fdiv (2 ^ 16))
  obtain ⟨c, hc⟩ := zf6 (n.fdiv (2 ^ 8))
  obtain ⟨d, hd⟩ := zf6 n
  exact ⟨[a, b, c, d], rfl, fun h' => absurd h' h, by rw [ha, hb, hc, hd]; rfl⟩
def zdU (n : Int) : Bool := decide (0 ≤ n ∧ n < 2147483648)
set_option maxRecDepth 20000 in
theorem put39 (c : Ch) (hc : c.page.length = 512) (gb base m : Nat) (u : Value) (xs : List UInt8) (w : World) (hr : row w gb [u] 31) (hu : zaJ w base 5 1 u m (bv xs)) (hgb : gb < base) (hbw : base ≤ w.heap.size) (hm : m ≤ 1000000) :
   Calls Tryz.prog 93 [.agg (chV c).toArray, .pointer (some ⟨gb, 0, none⟩)].toArray w (Ret fun v w' => v = .bool (zdU c.num) ∧ ∃ u' l4, l4.length = 4 ∧ (0 ≤ c.num → l4 = beB 4 c.num.toNat) ∧ row w' gb [u'] 31 ∧ zaJ w' base 5 1 u' (m + 516) (bv (xs ++ (l4 ++ c.page))) ∧ Kp (gb :: u.ownBlock.toList) w w') := by
 have hml : maxLen = 9223372036854775807 := by decide
 have hgl := hr.lt
 have hchl := zcX hc
 obtain ⟨l4, h41, h42, h43⟩ := zmv c.num
 have hu2 := fun b e => (hu.lt b e).2
 refine zaw (fn := Tryz.f93) (rs := [.tmp 3]) (n := 30) Tryz.func93 rfl rfl Tryz.ntmps93 (by kernel_rfl) rfl ?_
 refine zak (zac ?_)
 refine zaX rfl (zca ((chV c)) rfl (fun g2 w2 hg2 hr2 hb2 => ?_))
 have lt_gb_g2 : gb < g2 := Nat.lt_of_lt_of_le hr.lt hg2
 replace hr := hr.new hb2
 replace hu := hu.new hb2
 refine zaa rfl (zad) (zaf (zai (zak (zac (zaa rfl (zaj (off := 0) (by kernel_rfl) rfl) ?_)))))
 refine zaa rfl (zam rfl (Ld.zbb hr2 (by kernel_rfl) rfl)) ?_
 refine zaa rfl (zad) (zaf (zai (zak ?_)))
 refine zbg (gb :: u.ownBlock.toList) (by kernel_rfl) ?_
 intro w901 hb901 hS901
 replace hr := hr.new hb901
 replace hu := hu.new hb901
 replace hr2 := hr2.new hb901
 have hr_d901 := hr
 have hu_d901 := hu
 have hr2_d901 := hr2
 refine zah 1 (by kernel_rfl) rfl (fun _ _ => zab) ?_
 refine zah 2 (by kernel_rfl) rfl (fun _ _ => zgE rfl rfl (by omega) rfl) ?_
 refine zah 3 (by kernel_rfl) rfl (fun _ _ => zc7 (k := .u8) (by kernel_rfl) (by kernel_rfl) rfl rfl) ?_
 refine zah 4 (by kernel_rfl) rfl (fun _ _ => zab) ?_
 refine zah 5 (by kernel_rfl) rfl (fun _ _ => zgE rfl rfl (by omega) rfl) ?_
 refine zah 6 (by kernel_rfl) rfl (fun _ _ => zc7 (k := .u8) (by kernel_rfl) (by kernel_rfl) rfl rfl) ?_
 refine zah 7 (by kernel_rfl) rfl (fun _ _ => zab) ?_
 refine zah 8 (by kernel_rfl) rfl (fun _ _ => zgE rfl rfl (by omega) rfl) ?_
 refine zah 9 (by kernel_rfl) rfl (fun _ _ => zc7 (k := .u8) (by kernel_rfl) (by kernel_rfl) rfl rfl) ?_
 refine zah 10 (by kernel_rfl) rfl (fun _ _ => zab) ?_
 refine zah 11 (by kernel_rfl) rfl (fun _ _ => zc7 (k := .u8) (by kernel_rfl) (by kernel_rfl) rfl rfl) ?_
 refine zah 14 (by kernel_rfl) rfl (fun _ _ => zaj (off := 1) (by kernel_rfl) rfl) ?_
 refine zah 15 (by kernel_rfl) rfl (fun _ _ => zbl (e := 5) (n := 512) (0) (512) (512) (512) (by kernel_rfl) rfl rfl rfl rfl (by simp) (by omega) (by omega) (by omega) (by omega) (by omega)) ?_
 refine zfT 0 12 (by kernel_rfl) ?_ ?_
 ·
  refine zgD rfl rfl (zam rfl (Ld.zbb hr (by kernel_rfl) rfl)) hS901 ?_
  refine zaS 12 (by kernel_rfl) ?_
  have z1 := hr.lt
  refine zbN rfl rfl (zcU (e := 5) [(0, .int .u8 (IntKind.u8.wrap (c.num.fdiv (2 ^ (min (24 : Int).toNat IntKind.i64.bits))))), (1, .int .u8 (IntKind.u8.wrap (c.num.fdiv (2 ^ (min (16 : Int).toNat IntKind.i64.bits))))), (2, .int .u8 (IntKind.u8.wrap (c.num.fdiv (2 ^ (min (8 : Int).toNat IntKind.i64.bits))))), (3, .int .u8 (IntKind.u8.wrap c.num))] [.int .u8 0] 1 (by kernel_rfl) (by kernel_rfl) rfl (by omega) (by omega) (by intro i hi; rcases i with _ | _ | _ | _ | i <;> first | (simp [Value.cells]; done) | (exfalso; simp only [List.length_cons, List.length_nil] at hi; omega)) (by simp [Value.cells]) (fun g19 w19 hg19 hr19 hb19 => ?_))
  have hS903 := hS901.add0 hb19
  refine ⟨hS903, ?_⟩
  have ge_hS901_g19 := Nat.le_trans hS901.size hg19
  have lt_gb_g19 : gb < g19 := Nat.lt_of_lt_of_le hr.lt hg19
  have lt_g2_g19 : g2 < g19 := Nat.lt_of_lt_of_le hr2.lt hg19
  replace hr := hr.new hb19
  replace hu := hu.new hb19
  replace hr2 := hr2.new hb19
  replace hr19 : row w19 g19 (bv l4) 5 := by rw [← h43]; exact hr19
  refine zaS 13 (by kernel_rfl) ?_
  have hs19 := hr19.slA (m := 4) (sz := 1) (by rw [zae, h41]) (by omega)
  have hu0 := fun b e => (hu.lt b e).1
  have z3 := hb2.size
  have z4 := hb901.size
  have z5 := hS903.size
  have hr20 := hr2
  refine zbN rfl rfl (za7 (e := 5) (sz := 1) (bytes := 1) (z := Value.int .u8 0) (by kernel_rfl) rfl (by kernel_rfl) rfl (by decide) rfl hu rfl hs19 (zaL _) (by unfold maxLen; omega) (by omega) (fun hm0 => by omega) (fun v20 w20 hv20 hgr20 hfr20 => ?_))
  have hS904 := hS903.ownS hu hgr20 (by first | (left; omega) | exact Or.inr (fun _ h => h) | exact Or.inr (fun _ h => List.mem_cons_of_mem _ h))
  refine ⟨hS904, ?_⟩
  have kG := Kp.zba hgr20
  replace hr2 := hr2.kpd kG (fun hm => by have := hu2 g2 (Option.mem_toList.1 hm); have := hu0 g2 (Option.mem_toList.1 hm); omega)
  replace hr := hr.kpd kG (fun hm => by have := hu0 gb (Option.mem_toList.1 hm); omega)
  refine zaS 16 (by kernel_rfl) ?_
  have hp2 : za9 w20 (some ⟨g2, 0 + 1, none⟩) 512 1 (bv c.page) := by have h9 := hr2.sl (m := 512) (sz := 1) (0 + 1) (by omega) (by omega); rw [show (chV c).drop (0 + 1) = bv c.page from rfl, List.take_of_length_le (by rw [zae, hc]; omega)] at h9; exact h9
  have hv0 := fun b e => (hv20.lt b e).1
  have hw0 := fun b e => (hv20.lt b e).2
  refine zbN rfl rfl (za7 (e := 5) (sz := 1) (bytes := 1) (z := Value.int .u8 0) (by kernel_rfl) rfl (by kernel_rfl) rfl (by decide) rfl hv20 rfl hp2 (zaL _) (by unfold maxLen; omega) (by omega) (fun hm0 => by omega) (fun v23 w23 hv23 hgr23 hfr23 => ?_))
  have hS905 := hS904.add (Kp.zba hgr23) (fun g hm => by first | exact Or.inr hm | exact Or.inr (List.mem_cons_of_mem _ hm) | (have := (hv20.lt g (Option.mem_toList.1 hm)).1; left; omega) | exact (hfr20 g (Option.mem_toList.1 hm)).elim (fun e => Or.inr (Option.mem_toList.2 e)) (fun e => Or.inl (by omega)) | exact (hfr20 g (Option.mem_toList.1 hm)).elim (fun e => Or.inr (List.mem_cons_of_mem _ (Option.mem_toList.2 e))) (fun e => Or.inl (by omega)))
  refine ⟨hS905, ?_⟩
  have kG2 := Kp.zba hgr23
  have hform := hv23.form
  obtain ⟨p23, c23, rfl⟩ := hform
  replace hr := hr.kpd kG2 (fun hm => by have := hv0 gb (Option.mem_toList.1 hm); omega)
  refine zaS 17 (by kernel_rfl) ?_
  refine zdG rfl rfl (zaP rfl rfl rfl rfl hr (by kernel_rfl) (by first | (simp only [List.length_replicate]; omega) | (simp only [zaM]; omega) | (simp only [zae, List.length_set]; omega) | simp) (fun w907 hr ho907 => ?_))
  have hS906 := hS905.aq ho907
  refine ⟨hS906, ?_⟩
  have hfin := hS906
  have hv24 := hv23.only ho907 (by omega)
  refine zaR (by kernel_rfl) ?_
  refine zai (zak (zac (zaa rfl (zab) ?_)))
  refine zaa rfl (zeR rfl rfl) ?_
  refine zaa rfl (zab) ?_
  have hres : zaJ w907 base 5 1 (.slice p23 (m + 4 + 512) c23) (m + 516) (bv (xs ++ (l4 ++ c.page))) := by
    rw [← zbI, ← zbI, List.append_assoc] at hv24
    rw [show m + 516 = m + 4 + 512 by omega]
    exact hv24
  have hkf : Kp (gb :: u.ownBlock.toList) w w907 := (Kp.zcb hb2).trans ((Kp.zcb hb901).trans hfin)
  refine zbJ 26 rfl (fun hn0 => ?_) (fun hn0 => ?_)
  ·
   refine zas rfl (zaa rfl (zab) (zas rfl ?_))
   refine zaa rfl (zbd rfl rfl) ?_
   refine zaa rfl (zay rfl) (zaa rfl (zad) (zaf (zai (zax ?_))))
   refine zar [_] ⟨rfl, trivial⟩ ?_
   refine ⟨?_, _, l4, h41, h42, hr, hres, hkf⟩
   show Value.bool (decide _) = _
   congr 1
   unfold zdU
   by_cases h1 : c.num < 2147483648 <;> simp [hn0, h1]
  ·
   refine zaE rfl rfl (zaE rfl rfl (zaa rfl (zaz rfl) (zaa rfl (zad) (zaf (zai (zax ?_))))))
   refine zar [_] ⟨rfl, trivial⟩ ?_
   refine ⟨?_, _, l4, h41, h42, hr, hres, hkf⟩
   show Value.bool false = _
   congr 1
   unfold zdU
   rw [decide_eq_false (by omega)]
 ·
  have z1 := hr.lt
  refine zbN rfl rfl (zcU (e := 5) [(0, .int .u8 (IntKind.u8.wrap (c.num.fdiv (2 ^ (min (24 : Int).toNat IntKind.i64.bits))))), (1, .int .u8 (IntKind.u8.wrap (c.num.fdiv (2 ^ (min (16 : Int).toNat IntKind.i64.bits))))), (2, .int .u8 (IntKind.u8.wrap (c.num.fdiv (2 ^ (min (8 : Int).toNat IntKind.i64.bits))))), (3, .int .u8 (IntKind.u8.wrap c.num))] [.int .u8 0] 1 (by kernel_rfl) (by kernel_rfl) rfl (by omega) (by omega) (by intro i hi; rcases i with _ | _ | _ | _ | i <;> first | (simp [Value.cells]; done) | (exfalso; simp only [List.length_cons, List.length_nil] at hi; omega)) (by simp [Value.cells]) (fun g19 w19 hg19 hr19 hb19 => ?_))
  have hS908 := hS901.add0 hb19
  refine ⟨hS908, ?_⟩
  have ge_hS901_g19 := Nat.le_trans hS901.size hg19
  have lt_gb_g19 : gb < g19 := Nat.lt_of_lt_of_le hr.lt hg19
  have lt_g2_g19 : g2 < g19 := Nat.lt_of_lt_of_le hr2.lt hg19
  replace hr := hr.new hb19
  replace hu := hu.new hb19
  replace hr2 := hr2.new hb19
  replace hr19 : row w19 g19 (bv l4) 5 := by rw [← h43]; exact hr19
  refine zaS 0 (by kernel_rfl) ?_
  refine zgD rfl rfl (zam rfl (Ld.zbb hr (by kernel_rfl) rfl)) hS908 ?_
  refine zaS 13 (by kernel_rfl) ?_
  have hs19 := hr19.slA (m := 4) (sz := 1) (by rw [zae, h41]) (by omega)
  have hu0 := fun b e => (hu.lt b e).1
  have z3 := hb2.size
  have z4 := hb901.size
  have z5 := hS908.size
  have hr20 := hr2
  refine zbN rfl rfl (za7 (e := 5) (sz := 1) (bytes := 1) (z := Value.int .u8 0) (by kernel_rfl) rfl (by kernel_rfl) rfl (by decide) rfl hu rfl hs19 (zaL _) (by unfold maxLen; omega) (by omega) (fun hm0 => by omega) (fun v20 w20 hv20 hgr20 hfr20 => ?_))
  have hS910 := hS908.ownS hu hgr20 (by first | (left; omega) | exact Or.inr (fun _ h => h) | exact Or.inr (fun _ h => List.mem_cons_of_mem _ h))
  refine ⟨hS910, ?_⟩
  have kG := Kp.zba hgr20
  replace hr2 := hr2.kpd kG (fun hm => by have := hu2 g2 (Option.mem_toList.1 hm); have := hu0 g2 (Option.mem_toList.1 hm); omega)
  replace hr := hr.kpd kG (fun hm => by have := hu0 gb (Option.mem_toList.1 hm); omega)
  refine zaS 16 (by kernel_rfl) ?_
  have hp2 : za9 w20 (some ⟨g2, 0 + 1, none⟩) 512 1 (bv c.page) := by have h9 := hr2.sl (m := 512) (sz := 1) (0 + 1) (by omega) (by omega); rw [show (chV c).drop (0 + 1) = bv c.page from rfl, List.take_of_length_le (by rw [zae, hc]; omega)] at h9; exact h9
  have hv0 := fun b e => (hv20.lt b e).1
  have hw0 := fun b e => (hv20.lt b e).2
  refine zbN rfl rfl (za7 (e := 5) (sz := 1) (bytes := 1) (z := Value.int .u8 0) (by kernel_rfl) rfl (by kernel_rfl) rfl (by decide) rfl hv20 rfl hp2 (zaL _) (by unfold maxLen; omega) (by omega) (fun hm0 => by omega) (fun v23 w23 hv23 hgr23 hfr23 => ?_))
  have hS911 := hS910.add (Kp.zba hgr23) (fun g hm => by first | exact Or.inr hm | exact Or.inr (List.mem_cons_of_mem _ hm) | (have := (hv20.lt g (Option.mem_toList.1 hm)).1; left; omega) | exact (hfr20 g (Option.mem_toList.1 hm)).elim (fun e => Or.inr (Option.mem_toList.2 e)) (fun e => Or.inl (by omega)) | exact (hfr20 g (Option.mem_toList.1 hm)).elim (fun e => Or.inr (List.mem_cons_of_mem _ (Option.mem_toList.2 e))) (fun e => Or.inl (by omega)))
  refine ⟨hS911, ?_⟩
  have kG2 := Kp.zba hgr23
  have hform := hv23.form
  obtain ⟨p23, c23, rfl⟩ := hform
  replace hr := hr.kpd kG2 (fun hm => by have := hv0 gb (Option.mem_toList.1 hm); omega)
  refine zaS 17 (by kernel_rfl) ?_
  refine zdG rfl rfl (zaP rfl rfl rfl rfl hr (by kernel_rfl) (by first | (simp only [List.length_replicate]; omega) | (simp only [zaM]; omega) | (simp only [zae, List.length_set]; omega) | simp) (fun w913 hr ho913 => ?_))
  have hS912 := hS911.aq ho913
  refine ⟨hS912, ?_⟩
  have hfin := hS912
  have hv24 := hv23.only ho913 (by omega)
  refine zaR (by kernel_rfl) ?_
  refine zai (zak (zac (zaa rfl (zab) ?_)))
  refine zaa rfl (zeR rfl rfl) ?_
  refine zaa rfl (zab) ?_
  have hres : zaJ w913 base 5 1 (.slice p23 (m + 4 + 512) c23) (m + 516) (bv (xs ++ (l4 ++ c.page))) := by
    rw [← zbI, ← zbI, List.append_assoc] at hv24
    rw [show m + 516 = m + 4 + 512 by omega]
    exact hv24
  have hkf : Kp (gb :: u.ownBlock.toList) w w913 := (Kp.zcb hb2).trans ((Kp.zcb hb901).trans hfin)
  refine zbJ 26 rfl (fun hn0 => ?_) (fun hn0 => ?_)
  ·
   refine zas rfl (zaa rfl (zab) (zas rfl ?_))
   refine zaa rfl (zbd rfl rfl) ?_
   refine zaa rfl (zay rfl) (zaa rfl (zad) (zaf (zai (zax ?_))))
   refine zar [_] ⟨rfl, trivial⟩ ?_
   refine ⟨?_, _, l4, h41, h42, hr, hres, hkf⟩
   show Value.bool (decide _) = _
   congr 1
   unfold zdU
   by_cases h1 : c.num < 2147483648 <;> simp [hn0, h1]
  ·
   refine zaE rfl rfl (zaE rfl rfl (zaa rfl (zaz rfl) (zaa rfl (zad) (zaf (zai (zax ?_))))))
   refine zar [_] ⟨rfl, trivial⟩ ?_
   refine ⟨?_, _, l4, h41, h42, hr, hres, hkf⟩
   show Value.bool false = _
   congr 1
   unfold zdU
   rw [decide_eq_false (by omega)]
theorem put39b (c : Ch) (hc : c.page.length = 512) (gb base m : Nat) (u : Value) (xs : List UInt8) (w : World) (hr : row w gb [u] 31) (hu : zaJ w base 5 1 u m (bv xs)) (hgb : gb < base) (hbw : base ≤ w.heap.size) (hm : m ≤ 1000000) :
  Calls Tryz.prog 93 [.agg (chV c).toArray, .pointer (some ⟨gb, 0, none⟩)].toArray w (Ret fun v w' => v = .bool (zdU c.num) ∧ (∃ u' l4, l4.length = 4 ∧ (0 ≤ c.num → l4 = beB 4 c.num.toNat) ∧ row w' gb [u'] 31 ∧ zaJ w' base 5 1 u' (m + 516) (bv (xs ++ (l4 ++ c.page)))) ∧ Below gb w w') :=
 (put39 c hc gb base m u xs w hr hu hgb hbw hm).to fun v w' ⟨h1, u', l4, h2, h3, h4, h5, h6⟩ => ⟨h1, ⟨u', l4, h2, h3, h4, h5⟩, h6.os, h6.tape, h6.output, h6.size, fun i hi => h6.block i (Nat.lt_trans hi hr.lt) fun hm => by
  rcases List.mem_cons.1 hm with e | e
  ·omega
  ·have := (hu.lt i (Option.mem_toList.1 e)).1
   omega⟩
def zdi (R : Rec) : List UInt8 := R.flatMap fun c => beB 4 c.num.toNat ++ c.page
theorem zd0 {R : Rec} (h : zbD R) : (zdi R).length = 516 * R.length := by
 induction R with
 | nil => rfl
 | cons c R ih =>
  rw [zdi, List.flatMap_cons, List.length_append, List.length_append, zaG, h c (List.mem_cons_self ..), List.length_cons]
  have := ih fun x hx => h x (List.mem_cons_of_mem _ hx)
  rw [zdi] at this
  omega
theorem znz (R : Rec) (c : Ch) : zdi (R ++ [c]) = zdi R ++ (beB 4 c.num.toNat ++ c.page) := by rw [zdi, List.flatMap_append]; simp [zdi]
def zgU (R : Rec) : Bool := decide (1 ≤ R.length ∧ R.length ≤ 60) && R.all fun c => zdU c.num
theorem zdO {n : Nat} (h : 1 ≤ n ∧ n ≤ 60) : zbK n = (zaY (516 * n) : Nat) ∧ 0 < zaY (516 * n) := by
 rw [zbK, if_pos (by omega), Int.toNat_natCast, Nat.mul_comm n 516]
 exact ⟨rfl, by unfold zaY za1; omega⟩
theorem zio {n : Nat} (h : ¬ (1 ≤ n ∧ n ≤ 60)) : zbK n = 0 := by rw [zbK, if_neg (by omega)]
set_option maxRecDepth 20000 in
set_option maxHeartbeats 1000000 in
theorem bytes9 (R : Rec) (hR : zbD R) (p : Option Addr) (n cp : Nat) (w : World) (h : za9 w p n 513 (zbT R)) (hn : R.length = n) (hn2 : n ≤ 1000000) :
   Calls Tryz.prog 69 [.slice p n cp].toArray w (Ret fun v w' => ((zgU R = true ∧ ∃ g o c, v = .tuple #[.slice (some ⟨g, o, none⟩) (516 * n) c, .int .i64 0] ∧ w.heap.size ≤ g ∧ 516 * n ≤ c ∧ za9 w' (some ⟨g, o, none⟩) (516 * n) 1 (bv (zdi R))) ∨ (zgU R = false ∧ v = .tuple #[.slice none 0 0, .int .i64 2])) ∧ Below w.heap.size w w') := by
 have hB := Below.refl w.heap.size w
 have hml : maxLen = 9223372036854775807 := by decide
 refine zaw (fn := Tryz.f69) (rs := [.tmp 2, .tmp 3]) (n := 25) Tryz.func69 rfl rfl Tryz.ntmps69 (by kernel_rfl) rfl ?_
 refine zak (zac (zaa rfl (zad) (zaa rfl (zad) (zaf (zai (zak (zak (zac (zaa rfl (zab) ?_)))))))))
 refine zaa rfl (zaA (e := 73) (sz := 513) (by kernel_rfl) rfl rfl) ?_
 refine zat rfl (zao (by kernel_rfl) rfl) (zin (n : Int) w) ?_
 rintro _ _ ⟨rfl, rfl⟩
 refine zaa rfl (zbr rfl rfl) ?_
 refine zaf (zai ?_)
 refine zaZ rfl (fun h0 => ?_) (fun h0 => ?_)
 ·
  refine zak (zac (zaa rfl (zad) (zaa rfl (zad) (zaf (zai (zax (zaT ?_)))))))
  refine zar [_, _] ⟨rfl, rfl, trivial⟩ ?_
  have hno : ¬ (1 ≤ n ∧ n ≤ 60) := fun hc => by have := zdO hc; omega
  exact ⟨.inr ⟨by rw [zgU, hn, decide_eq_false hno]; rfl, rfl⟩, hB⟩
 ·
  have hyes : 1 ≤ n ∧ n ≤ 60 := by
    by_cases hc : 1 ≤ n ∧ n ≤ 60
    · exact hc
    · exact absurd (zio hc) h0
  refine zau (zai (zak (zac ?_)))
  refine zaX rfl (zaO ([Value.slice none 0 0]) (by kernel_rfl) (fun g4 w4 hg4 hr4 hb4 => ?_))
  have ge_hB_g4 := Nat.le_trans hB.size hg4
  replace hB := hB.acc hb4
  refine zaf (zai (zak (zac (zaa rfl (zcI) (zaa rfl (zad) (zaf (zai (zak (zak (zac (zaa rfl (zab) ?_)))))))))))
  refine zaa rfl (zaA (e := 73) (sz := 513) (by kernel_rfl) rfl rfl) ?_
  refine zaa rfl (zab) (zaf (zai (zaD ?_)))
  have l4 := hr4.lt
  refine zbF (α := Nat) 0 (fun k => [(15, .int .i64 (k : Nat)), (14, .int .i64 (n : Int)), (13, .slice p n cp), (5, .func (.func 93) #[] #[.pointer (some ⟨g4, 0, none⟩)]), (4, .pointer (some ⟨g4, 0, none⟩))])
    (fun k w' => k ≤ n ∧ (∃ u, row w' g4 [u] 31 ∧ zaJ w' (g4 + 1) 5 1 u (516 * k) (bv (zdi (R.take k)))) ∧ (∀ j c, j < k → R[j]? = some c → zdU c.num = true) ∧ Below w.heap.size w w') (fun k => n - k)
    ⟨rfl, rfl, rfl, rfl, rfl, rfl⟩ ⟨Nat.zero_le _, ⟨_, hr4, zby _ _ _ _⟩, (by intro j c hj; exact absurd hj (Nat.not_lt_zero _)), hB⟩ ?_
  clear hr4 hB
  rintro k f wr ⟨hk, ⟨u, hr4, hu⟩, hall, hB⟩
  refine zak (zac ?_)
  refine zaa rfl (zbd rfl rfl) ?_
  refine zaf (zai (zak ?_))
  refine zaZ rfl (fun hlt => ?_) (fun hlt => ?_)
  ·
   refine zau (zai (zak (zaD (zak ?_))))
   have hobt : ∃ c, R[k]? = some c := ⟨_, List.getElem?_eq_getElem (by omega)⟩
   obtain ⟨c, hc⟩ := hobt
   have hcl := hR c (List.mem_of_getElem? hc)
   have hchl := zcX hcl
   have hp := h.below hB (Nat.le_refl _)
   have hobt := h.some (by omega)
   obtain ⟨gp, op, rfl, hgp⟩ := hobt
   have hsn : R.take (k + 1) = R.take k ++ [c] := by rw [List.take_add_one, hc]; rfl
   have hch1 := zdq c
   have hul := fun b e => (hu.lt b e).2
   refine zac ?_
   refine zaa rfl (zaQ (e := 73) (sz := 513) (by kernel_rfl) rfl rfl (k) (by omega) (by omega)) ?_
   refine zaa rfl (zam rfl (zkZ (h.below hB (Nat.le_refl _)) hR hc)) ?_
   refine zaX rfl (zaO (([Value.int .i64 0]) ++ (List.replicate 512 (Value.int .u8 0))) (by kernel_rfl) (fun g7 w7 hg7 hr7 hb7 => ?_))
   have ge_hB_g7 := Nat.le_trans hB.size hg7
   have lt_g4_g7 : g4 < g7 := Nat.lt_of_lt_of_le hr4.lt hg7
   replace hr4 := hr4.new hb7
   replace hu := hu.new hb7
   replace hB := hB.acc hb7
   have hu9 := hu
   refine za4 rfl (zav 513 (chV c) rfl rfl hr7 (by kernel_rfl) (by first | assumption | (simp; done) | (simp [zae, *]; done)) (by first | assumption | (simp; done) | (simp [zae, *]; done) | rfl) (by first | exact zaL _ | assumption | (simp [Value.oneCell']; done)) (fun w901 hr7 ho901 => ?_))
   replace hr4 := hr4.only ho901 (Nat.ne_of_lt lt_g4_g7)
   replace hB := ho901.below hB ge_hB_g7
   have hu8 := hu9.kpd (Kp.zbx ho901) (fun b hb e => by have h1 := hul b e; have h2 : b = g7 := (by simpa using hb); omega)
   refine zaf (zai (zak (zac (zaa rfl (zab) ?_))))
   refine zaa rfl (zam rfl (Ld.zb5 (k := 513) hr7 (by kernel_rfl) (by kernel_rfl) (by first | (simp; done) | (simp [zae, *]; done) | assumption))) ?_
   have z1 := hr7.lt
   have z2 := hr4.lt
   refine zat rfl (zb8 (by kernel_rfl) rfl rfl) (put39b c hcl g4 (g4 + 1) (516 * k) u _ w901 hr4 hu8 (by omega) (by omega) (by omega)) ?_
   rintro _ w21 ⟨rfl, ⟨u2, lf, hl41, hl42, hr4, hu2⟩, hb21⟩
   replace hB := belLo hB hb21 (by omega)
   refine zaa rfl (zcr rfl) ?_
   refine zaf (zai ?_)
   refine zh9 rfl (fun hno => ?_) (fun hno => ?_)
   ·
    refine zak (zac (zaa rfl (zad) (zaa rfl (zad) (zaf (zai (zax (za6 (zaT (zc6 (za6 (zaT ?_)))))))))))
    refine zar [_, _] ⟨rfl, rfl, trivial⟩ ?_
    refine ⟨.inr ⟨?_, rfl⟩, hB⟩
    have hf : zdU c.num = false := by cases hx : zdU c.num with | false => rfl | true => simp [hx] at hno
    have hall2 : R.all (fun c => zdU c.num) = false := by
      rw [List.all_eq_false]
      exact ⟨c, List.mem_of_getElem? hc, by rw [hf]; simp⟩
    rw [zgU, hall2, Bool.and_false]
   ·
    have hnc : zdU c.num = true := by cases hx : zdU c.num with | true => rfl | false => simp [hx] at hno
    have hn0 : 0 ≤ c.num := (of_decide_eq_true hnc).1
    rw [hl42 hn0, ← znz, ← hsn, show 516 * k + 516 = 516 * (k + 1) by omega] at hu2
    refine zau (za2 (zai (zac ?_)))
    refine zaa rfl (zaV rfl rfl (Coup.w64 (by omega))) ?_
    refine zaa rfl (zab) (zaf ?_)
    refine zbq ⟨k + 1, by omega, ⟨by go_num, rfl, rfl, rfl, rfl, rfl⟩, by omega, ⟨_, hr4, hu2⟩, fun j d hj hd => ?_, hB⟩
    by_cases hjk : j < k
    · exact hall j d hjk hd
    · obtain rfl : j = k := by omega
      rw [hc] at hd; cases hd
      exact hnc
  ·
   have hkn : k = n := by omega
   rw [hkn, List.take_of_length_le (by omega)] at hu
   have hmay : zgU R = true := by
     rw [zgU, hn, decide_eq_true hyes, Bool.true_and, List.all_eq_true]
     intro c hc
     have hobt := List.getElem?_of_mem hc
     obtain ⟨j, hj⟩ := hobt
     exact hall j c (by have := (List.getElem?_eq_some_iff.1 hj).1; omega) hj
   have hobt := hu.form' (by omega)
   obtain ⟨g, o, c, rfl, hg1, hg2, hg3⟩ := hobt
   have hcap := hu.2
   refine zbp (zbW (zb9 (zbw (zai (zak (zac ?_))))))
   refine zaa rfl (zam rfl (Ld.zbb hr4 (by kernel_rfl) rfl)) ?_
   refine zaa rfl (zad) (zaa rfl (zad) (zaf (zai (zax ?_))))
   refine zar [_, _] ⟨rfl, rfl, trivial⟩ ?_
   refine ⟨.inl ⟨hmay, g, o, c, rfl, by omega, hg3, hu.sl⟩, hB⟩
def ziq (b : List UInt8) (i : Nat) : Ch := ⟨(zdK ((b.drop (516 * i)).take 4) : Nat), (b.drop (516 * i + 4)).take 512⟩
def ofL (b : List UInt8) (n : Nat) : Rec := (List.range n).map (ziq b)
def ofOk (b : List UInt8) : Bool := decide (b.length % 516 = 0) && decide (1 ≤ b.length / 516 ∧ b.length / 516 ≤ 60) && (ofL b (b.length / 516)).all fun c => zdU c.num
def ofR (b : List UInt8) : Option Rec := if ofOk b then some (ofL b (b.length / 516)) else none
theorem zoV (b : List UInt8) (n : Nat) : ofL b (n + 1) = ofL b n ++ [ziq b n] := by simp [ofL, List.range_succ]
theorem zhz (b : List UInt8) (n : Nat) : (ofL b n).length = n := by simp [ofL]
theorem ofL_at (b : List UInt8) {n i : Nat} (h : i < n) : (ofL b n)[i]? = some (ziq b i) := by rw [ofL, List.getElem?_map, List.getElem?_range h]; rfl
theorem zjY {b : List UInt8} {i : Nat} (h : 516 * i + 516 ≤ b.length) : (ziq b i).page.length = 512 := by
 show ((b.drop (516 * i + 4)).take 512).length = 512
 rw [List.length_take, List.length_drop]; omega
theorem zed {ρ : Env} {w : World} {d : Option Nat} {ty : TypeId} {pos : String} {af : Array Edge} {gd : Option (Nat × Bool)} {x y : Operand} {a : Int} {l : List UInt8} {L : List Value} (hl : l.length = 512) (hL : chV ⟨a, l⟩ = L) (hx : ev ρ x = .int .i64 a) (hy : ev ρ y = .agg (bv l).toArray) :
  (execOp (ev ρ) ⟨d, .build 73 #[(0, x), (1, y)], ty, pos, af, gd⟩).run Tryz.prog w = .ok (.value (.agg L.toArray)) w := by
 rw [← hL]
 have h := ziO (P := Tryz.prog) (t := 73) (ρ := ρ) (w := w) (d := d) (ty := ty) (pos := pos) (af := af) (gd := gd) (k := 513) (parts := [(0, x), (1, y)]) [(0, .int .i64 a), (1, .agg (bv l).toArray)] [(0, 1), (1, 512)] (by kernel_rfl) (by kernel_rfl) (by simp [hx, hy])
  (by
   intro i hi
   rcases i with _ | _ | i
   ·simp [Value.cells]
   ·simp [Value.cells, zae, hl]
   ·exfalso; simp only [List.length_cons, List.length_nil] at hi; omega) (by simp [Value.cells, zae, hl])
 rw [h]
 simp [Value.cells, chV]
set_option maxRecDepth 20000 in
set_option maxHeartbeats 1000000 in
theorem of13 (b : List UInt8) (p : Option Addr) (n cp : Nat) (w : World) (h : za9 w p n 1 (bv b)) (hcp : n ≤ cp) (hn2 : n ≤ 1000000) :
   Calls Tryz.prog 101 [.slice p n cp].toArray w (Ret fun v w' => ((∃ r g o c, ofR b = some r ∧ v = .tuple #[.slice (some ⟨g, o, none⟩) r.length c, .int .i64 0] ∧ w.heap.size ≤ g ∧ r.length ≤ c ∧ za9 w' (some ⟨g, o, none⟩) r.length 513 (zbT r)) ∨ (ofR b = none ∧ v = .tuple #[.slice none 0 0, .int .i64 4])) ∧ Below w.heap.size w w') := by
 have hB := Below.refl w.heap.size w
 have hml : maxLen = 9223372036854775807 := by decide
 have hl : b.length = n := by simpa [zae] using h.len
 refine zaw (fn := Tryz.f101) (rs := [.tmp 2, .tmp 3]) (n := 51) Tryz.func101 rfl rfl Tryz.ntmps101 (by kernel_rfl) rfl ?_
 refine zak (zac (zaa rfl (zad) (zaa rfl (zad) (zaf (zai (zak (zak (zac (zaa rfl (zab) ?_)))))))))
 refine zaa rfl (zaA (e := 5) (sz := 1) (by kernel_rfl) rfl rfl) ?_
 refine zaa rfl (zhe rfl rfl (by omega) (by omega)) ?_
 refine zaa rfl (zaW rfl rfl) ?_
 refine zaa rfl (zab) ?_
 refine zbJ 11 rfl (fun h0 => ?_) (fun h0 => ?_)
 ·
  refine zaE rfl rfl (zaE rfl rfl (zaE rfl rfl (zaE rfl rfl (zaE rfl rfl (zaa rfl (zay rfl) (zaf (zai ?_)))))))
  refine zkB rfl (rfl) ?_
  refine zak (zac (zaa rfl (zad) (zaa rfl (zad) (zaf (zai (zax (zaT ?_)))))))
  refine zar [_, _] ⟨rfl, rfl, trivial⟩ ?_
  exact ⟨.inr ⟨by rw [ofR, ofOk, hl, decide_eq_false (by omega)]; rfl, rfl⟩, hB⟩
 ·
  refine zas rfl (zaa rfl (zab) (zas rfl ?_))
  refine zaa rfl (zaA (e := 5) (sz := 1) (by kernel_rfl) rfl rfl) ?_
  refine zas rfl ?_
  refine zaa rfl (zep rfl rfl (by omega) (by omega)) ?_
  refine zas rfl ?_
  refine zat rfl (zao (by kernel_rfl) rfl) (zin ((n : Int) / 516) w) ?_
  rintro _ _ ⟨rfl, rfl⟩
  refine zas rfl ?_
  refine zaa rfl (zbr rfl rfl) ?_
  refine zaa rfl (zaz rfl) (zaf (zai ?_))
  refine zaZ rfl (fun h1 => ?_) (fun h1 => ?_)
  ·
   refine zak (zac (zaa rfl (zad) (zaa rfl (zad) (zaf (zai (zax (zaT ?_)))))))
   refine zar [_, _] ⟨rfl, rfl, trivial⟩ ?_
   have hno : ¬ (1 ≤ n / 516 ∧ n / 516 ≤ 60) := fun hc => by have := zdO hc; rw [show ((n / 516 : Nat) : Int) = (n : Int) / 516 by omega] at this; omega
   exact ⟨.inr ⟨by rw [ofR, ofOk, hl, decide_eq_false hno]; simp, rfl⟩, hB⟩
  ·
   have hyes : 1 ≤ n / 516 ∧ n / 516 ≤ 60 := by
     by_cases hc : 1 ≤ n / 516 ∧ n / 516 ≤ 60
     · exact hc
     · have := zio hc
       rw [show ((n / 516 : Nat) : Int) = (n : Int) / 516 by omega] at this
       exact absurd this h1
   have hob : ∃ m, n = 516 * m := ⟨n / 516, by omega⟩
   obtain ⟨m, hm⟩ := hob
   have hmm : n / 516 = m := by omega
   rw [hmm] at hyes
   refine zau (zai (zak (zac (zaa rfl (zad) (zaf (zai (zak (zak (zac (zaa rfl (zad) (zaf ?_)))))))))))
   refine zai (zaD ?_)
   refine zbF (α := Nat × Value) (0, .slice none 0 0) (fun k => [(5, .int .i64 ((516 * k.1 : Nat) : Int)), (4, k.2), (0, .slice p n cp)])
     (fun k w' => k.1 ≤ m ∧ zaJ w' w.heap.size 73 513 k.2 k.1 (zbT (ofL b k.1)) ∧ (∀ j, j < k.1 → zdU (ziq b j).num = true) ∧ Below w.heap.size w w') (fun k => m - k.1)
     ⟨rfl, rfl, rfl, rfl⟩ ⟨Nat.zero_le _, zby _ _ _ _, (by intro j hj; exact absurd hj (Nat.not_lt_zero _)), hB⟩ ?_
   clear hB
   rintro ⟨k, u⟩ f wr ⟨hk, hu, hall, hB⟩
   dsimp only at hk hu hall ⊢
   refine zak (zak (zac (zaa rfl (zab) (zaa rfl (zab) ?_))))
   refine zaa rfl (zaA (e := 5) (sz := 1) (by kernel_rfl) rfl rfl) ?_
   refine zaa rfl (zbd rfl rfl) ?_
   refine zaf (zai ?_)
   refine zaZ rfl (fun hlt => ?_) (fun hlt => ?_)
   ·
    refine zau (zai (zak (zaD (zak ?_))))
    have hs := h.below hB (Nat.le_refl _)
    have hobt := h.some (by omega)
    obtain ⟨gp, op, rfl, hgp⟩ := hobt
    have hs4 := hs.subB (516 * k) 4 (by omega)
    have hcp2 := zjY (b := b) (i := k) (by omega)
    have hobt : ∃ x, zdK ((b.drop (516 * k)).take 4) = x := ⟨_, rfl⟩
    obtain ⟨x, hx⟩ := hobt
    have hx4 : x < 4294967296 := by rw [← hx]; exact zcm _ 4 (by simp; omega)
    have hnu := fun c => zi4 (some ⟨gp, op + 516 * k, none⟩) 4 c _ wr hs4 (by omega)
    simp only [hx] at hnu
    refine zac (zaa rfl (zab) (zaa rfl (zab) (zaa rfl (zab) ?_)))
    refine zaa rfl (zaV rfl rfl (Coup.w64 (by omega))) ?_
    refine zaa rfl (zab) ?_
    refine zaa rfl (zaV rfl rfl (Coup.w64 (by omega))) ?_
    refine zaa rfl (zdW (e := 5) (516 * k) (516 * k + 4) (516 * k + 4) (4) (by kernel_rfl) rfl ⟨_, _, rfl, by omega⟩ ⟨_, _, rfl, by omega⟩ ⟨_, _, rfl, by omega⟩ (by simp) (by omega) (by omega) (by omega) (by omega) (by omega)) ?_
    refine zat rfl (zao (by kernel_rfl) rfl) (hnu _) ?_
    rintro _ _ ⟨rfl, rfl⟩
    refine zaa rfl (zad) (zaf (zai (zak (zak (zac (zaa rfl (zab) ?_))))))
    refine zaa rfl (zeR rfl rfl) ?_
    refine zaf (zai ?_)
    refine zaZ rfl (fun hbig => ?_) (fun hbig => ?_)
    ·
     refine zak (zac (zaa rfl (zad) (zaa rfl (zad) (zaf (zai (zax (zaT (za6 (zaT (zc6 (za6 ?_)))))))))))
     refine zaT ?_
     refine zar [_, _] ⟨rfl, rfl, trivial⟩ ?_
     have hno : ¬ (zdU (ziq b k).num = true) := fun hc => by
       have h1 := (of_decide_eq_true hc).2
       have h2 : (ziq b k).num = (x : Int) := by rw [← hx]; rfl
       omega
     have hof : ofR b = none := by
       have ha : (ofL b (b.length / 516)).all (fun c => zdU c.num) = false := by
         rw [List.all_eq_false]
         exact ⟨ziq b k, List.mem_of_getElem? (ofL_at b (n := b.length / 516) (i := k) (by omega)), hno⟩
       rw [ofR, ofOk, ha, Bool.and_false]; rfl
     exact ⟨.inr ⟨hof, rfl⟩, hB⟩
    ·
     have hnk : zdU (ziq b k).num = true := by
       have h2 : (ziq b k).num = (x : Int) := by rw [← hx]; rfl
       rw [zdU, h2]
       exact decide_eq_true (by omega)
     have hpg : ((bv b).drop (516 * k + 4)).take 512 = bv (ziq b k).page := by rw [← zcT, ← zdD]; rfl
     have hpl : (ziq b k).page.length = 512 := hcp2
     have hchc : chV ⟨(x : Int), (ziq b k).page⟩ = chV (ziq b k) := by rw [← hx]; rfl
     have hld : Ld Tryz.prog wr 37 ⟨gp, op + (516 * k + 4), none⟩ (.agg (bv (ziq b k).page).toArray) := by
       have h9 := Ld.slN (P := Tryz.prog) (t := 37) (j := 516 * k + 4) (k := 512) (h.below hB (Nat.le_refl _)) (by kernel_rfl) (by kernel_rfl) (by rw [zae]; omega)
       rw [hpg] at h9
       exact h9
     have hofs := zoV b k
     have hob : ∃ C, ziq b k = C := ⟨_, rfl⟩
     obtain ⟨C, hC⟩ := hob
     rw [hC] at hofs hld hpl hchc hnk
     have hchl := zcX hpl
     have hch1 := zdq C
     refine zau (zai (zac (zaa rfl (zab) (zaa rfl (zab) ?_))))
     refine zaa rfl (zc7 (k := .i64) (by kernel_rfl) (by kernel_rfl) rfl (show IntKind.i64.wrap (x : Int) = (x : Int) by rw [w64 (by omega)])) ?_
     refine zaa rfl (zab) (zaa rfl (zab) ?_)
     refine zaa rfl (zaV rfl rfl (Coup.w64 (by omega))) ?_
     refine zaa rfl (zab) ?_
     refine zaa rfl (zaV rfl rfl (Coup.w64 (by omega))) ?_
     refine zaa rfl (zab) ?_
     refine zaa rfl (zaV rfl rfl (Coup.w64 (by omega))) ?_
     refine zaa rfl (zdW (e := 5) (516 * k + 4) (516 * k + 516) (516 * k + 516) (512) (by kernel_rfl) rfl ⟨_, _, rfl, by omega⟩ ⟨_, _, rfl, by omega⟩ ⟨_, _, rfl, by omega⟩ (by simp) (by omega) (by omega) (by omega) (by omega) (by omega)) ?_
     refine zaa rfl (zie (n := 512) (e := 5) (sz := 1) (by kernel_rfl) rfl (by omega)) ?_
     refine zaa rfl (zam rfl (hld)) ?_
     refine zaa rfl (zed hpl hchc rfl rfl) ?_
     refine zaX rfl (zci (e := 73) (.agg (chV C).toArray) (chV C) (([Value.int .i64 0]) ++ (List.replicate 512 (Value.int .u8 0))) 513 (by kernel_rfl) (by kernel_rfl) rfl rfl (by first | rfl | (simp; done) | (simp [zae, *]; done)) ⟨by decide, by decide⟩ (fun g48 w48 hg48 hr48 hb48 => ?_))
     have ge_hB_g48 := Nat.le_trans hB.size hg48
     replace hu := hu.new hb48
     replace hB := hB.acc hb48
     have hs48 := hr48.slA (m := 1) (sz := 513) hchl (by omega)
     have sz_hB_49 := hB.size
     refine zaX rfl (za7 (e := 73) (sz := 513) (bytes := 520) (z := .agg (([Value.int .i64 0]) ++ (List.replicate 512 (Value.int .u8 0))).toArray) (by kernel_rfl) rfl (by kernel_rfl) rfl (by decide) rfl hu rfl hs48 hch1 (by unfold maxLen; omega) (by omega) (fun hm0 => by omega) (fun v49 w49 hv49 hgr49 hfr49 => ?_))
     replace hB := hB.own hu hgr49 (by omega)
     refine zaa rfl (zad) (zaf (za2 (zai (zac (zaa rfl (zab) ?_)))))
     refine zaa rfl (zaV rfl rfl (Coup.w64 (by omega))) ?_
     refine zaa rfl (zad) (zaf ?_)
     rw [← zdN, ← hofs] at hv49
     refine zbq ⟨(k + 1, v49), by omega, ⟨by go_num, rfl, rfl, rfl⟩, by omega, hv49, fun j hj => ?_, hB⟩
     by_cases hjk : j < k
     · exact hall j hjk
     · obtain rfl : j = k := by omega
       rw [hC]; exact hnk
   ·
    have hkm : k = m := by omega
    subst hkm
    have hof : ofR b = some (ofL b k) := by
      have ha : (ofL b k).all (fun c => zdU c.num) = true := by
        rw [List.all_eq_true]
        intro c hc
        obtain ⟨j, hj, rfl⟩ := List.mem_map.1 hc
        exact hall j (List.mem_range.1 hj)
      rw [ofR, ofOk, hl, hmm, ha, decide_eq_true (by omega : n % 516 = 0), decide_eq_true hyes]; rfl
    have hlen := zhz b k
    have hobt := hu.form' (by omega)
    obtain ⟨g, o, c, rfl, hg1, hg2, hg3⟩ := hobt
    refine zbp (zbW (zb9 (zbw (zai (zak (zac (zaa rfl (zab) (zaa rfl (zad) (zaa rfl (zad) (zaf (zai ?_)))))))))))
    refine zax ?_
    refine zar [_, _] ⟨rfl, rfl, trivial⟩ ?_
    exact ⟨.inl ⟨_, g, o, c, hof, by rw [hlen]; rfl, hg1, by rw [hlen]; exact hg3, by rw [hlen]; exact hu.sl⟩, hB⟩
end Go.Proofs.YtielfpkjoidomaaGreat
namespace Coup
open Go Go.RowKit
section
variable {P : Program} {ρ : Env} {w : World} {d : Option Nat} {ty : TypeId} {pos : String} {af : Array Edge} {gd : Option (Nat × Bool)} {K : Value → World → Prop}
theorem zoW {dT sT e : Nat} {x y : Operand} {dLen dCap : Nat} (cs : List UInt8) (hu : P.underlying dT = some (.slice e)) (hsz : zcN P e 1 = true) (g off : Nat) (hd : ev ρ x = .slice (some ⟨g, off, none⟩) dLen dCap) (hs : ev ρ y = strOf cs)
  {l : List Value} {t : Nat} (hr : row w g l t) (hle : cs.length ≤ dLen) (hfit : off + cs.length ≤ l.length)
  (h : ∀ w', row w' g (splice l off (bv cs)) t → Only g w w' → K (goInt cs.length) w') : Mk P ρ w ⟨d, .call ⟨.builtin .copy, #[x, y], #[dT, sT]⟩, ty, pos, af, gd⟩ K := by
 have hsize : ByteArray.size ⟨cs.toArray⟩ = cs.length := by simp [ByteArray.size]
 have hrun := Go.Lib.run_copy_row_string (P := P) w dT sT ty e g off dLen dCap ⟨cs.toArray⟩ l.toArray t hu (zfc hsz) hr (by rw [hsize]; exact hle) (by rw [hsize]; simpa using hfit)
 rw [hsize] at hrun
 have hc : (l.toArray.toList.take off ++ Go.Lib.byteCells (ByteArray.data ⟨cs.toArray⟩).toList ++ l.toArray.toList.drop (off + cs.length)) = splice l off (bv cs) := by
  rw [splice, zae, List.append_assoc]
  simp [Go.Lib.byteCells, bv, zcS]
 rw [hc] at hrun
 refine ⟨_, _, ?_, h _ (by simpa [row] using setRow_heap w g _ _ t _ hr) (Only.setRow _)⟩
 simp only [strOf] at hs
 simp [execOp, resolve, invoke, builtin, hd, hs, hrun, Result.andThen]
end
end Coup
namespace Go.Proofs.YtielfpkjoidomaaGreat
open Go Go.RowKit Coup
def magic : List UInt8 := [67, 80, 76, 71]
def zbO (c s : Nat) : List UInt8 := magic ++ (beB 8 c ++ (beB 8 s ++ zaI 108))
theorem zf7 (c s : Nat) : (zbO c s).length = 128 := by simp [zbO, magic, zaG, zaI]
def hdF (c s i j : Nat) : UInt8 := if j < 4 then magic.getD j 0 else if j < 12 then (if j - 4 < i then (beB 8 c).getD (j - 4) 0 else 0) else if j < 20 then (if j - 12 < i then (beB 8 s).getD (j - 12) 0 else 0) else 0
def hdL (c s i : Nat) : List UInt8 := (List.range 128).map (hdF c s i)
theorem zk0 (c s i j : Nat) : (hdL c s i)[j]? = if j < 128 then some (hdF c s i j) else none := by
 rw [hdL, List.getElem?_map]
 by_cases h : j < 128
 ·rw [List.getElem?_range h, if_pos h]; rfl
 ·rw [List.getElem?_eq_none (by rw [List.length_range]; omega), if_neg h]; rfl
theorem zi5 (c s i : Nat) : (hdL c s i).length = 128 := by simp [hdL]
theorem znA {x j : Nat} (h : j < 8) : (beB 8 x)[j]? = some ((beB 8 x).getD j 0) := by
 rw [List.getD_eq_getElem?_getD, List.getElem?_eq_getElem (by rw [zaG]; exact h)]; rfl
theorem znB (c s : Nat) : hdL c s 8 = zbO c s := by
 refine List.ext_getElem? fun j => ?_
 rw [zk0]
 unfold zbO hdF
 by_cases h1 : j < 4
 ·rw [if_pos (by omega), if_pos h1, List.getElem?_append_left (by simpa [magic] using h1)]
  match j, h1 with
  | 0, _ => rfl
  | 1, _ => rfl
  | 2, _ => rfl
  | 3, _ => rfl
 ·rw [List.getElem?_append_right (by simp [magic]; omega), show magic.length = 4 from rfl, if_neg h1]
  by_cases h2 : j < 12
  ·rw [if_pos (by omega), if_pos h2, if_pos (by omega), List.getElem?_append_left (by rw [zaG]; omega), znA (by omega)]
  ·rw [if_neg h2, List.getElem?_append_right (by rw [zaG]; omega), zaG, show j - 4 - 8 = j - 12 by omega]
   by_cases h3 : j < 20
   ·rw [if_pos (by omega), if_pos h3, if_pos (by omega), List.getElem?_append_left (by rw [zaG]; omega), znA (by omega)]
   ·rw [if_neg h3, List.getElem?_append_right (by rw [zaG]; omega), zaG]
    by_cases h4 : j < 128
    ·rw [if_pos h4, zaI, List.getElem?_replicate, if_pos (by omega)]
    ·rw [if_neg h4, zaI, List.getElem?_replicate, if_neg (by omega)]
theorem znC (c s : Nat) : splice (List.replicate 128 (Value.int .u8 0)) 0 (bv magic) = bv (hdL c s 0) := by
 have e : splice (List.replicate 128 (Value.int .u8 0)) 0 (bv magic) = bv (magic ++ zaI 124) := by
  simp only [splice, List.take_zero, List.nil_append, Nat.zero_add, zae, zbI, zf3]
  rw [show magic.length = 4 from rfl, List.drop_replicate]; rfl
 rw [e]
 congr 1
theorem zoX (c s i : Nat) (h : i < 8) : ((hdL c s i).set (4 + i) ((beB 8 c).getD i 0)).set (12 + i) ((beB 8 s).getD i 0) = hdL c s (i + 1) := by
 refine List.ext_getElem? fun j => ?_
 rw [List.getElem?_set, List.length_set, zi5, List.getElem?_set, zi5, zk0, zk0]
 unfold hdF
 by_cases h1 : 12 + i = j
 ·subst h1
  rw [if_pos rfl, if_pos (by omega), if_pos (by omega), if_neg (by omega), if_neg (by omega), if_pos (by omega), if_pos (by omega), Nat.add_sub_cancel_left]
 ·rw [if_neg h1]
  by_cases h2 : 4 + i = j
  ·subst h2
   rw [if_pos rfl, if_pos (by omega), if_pos (by omega), if_neg (by omega), if_pos (by omega), if_pos (by omega), Nat.add_sub_cancel_left]
  ·rw [if_neg h2]
   by_cases h3 : j < 128
   ·rw [if_pos h3, if_pos h3]
    congr 1
    by_cases h4 : j < 4
    ·rw [if_pos h4, if_pos h4]
    ·rw [if_neg h4, if_neg h4]
     by_cases h5 : j < 12
     ·rw [if_pos h5, if_pos h5]
      by_cases h6 : j - 4 < i
      ·rw [if_pos h6, if_pos (by omega)]
      ·rw [if_neg h6, if_neg (by omega)]
     ·rw [if_neg h5, if_neg h5]
      by_cases h7 : j < 20
      ·rw [if_pos h7, if_pos h7]
       by_cases h6 : j - 12 < i
       ·rw [if_pos h6, if_pos (by omega)]
       ·rw [if_neg h6, if_neg (by omega)]
      ·rw [if_neg h7, if_neg h7]
   ·rw [if_neg h3, if_neg h3]
theorem znD {x i : Nat} (h : i < 8) (s : Int) (hs : s = ((56 - 8 * i : Nat) : Int)) : IntKind.u8.wrap ((x : Int) / 2 ^ (56 - 8 * i)) = (((beB 8 x).getD i 0).toNat : Int) := by
 have h1 := zlD x (8 - 1 - i)
 rw [List.getD_eq_getElem?_getD, znm 8 x i h]
 rw [show 56 - 8 * i = 8 * (8 - 1 - i) by omega, IntKind.wrap_u8]
 injection h1
theorem znE (l : List UInt8) (i : Nat) (b : UInt8) : (bv l).set i (.int .u8 (b.toNat : Int)) = bv (l.set i b) := by simp [bv, List.map_set, zcS]
set_option maxRecDepth 20000 in
set_option maxHeartbeats 1000000 in
theorem zlH (c s : Nat) (w : World) (hc : c < 18446744073709551616) (hs : s < 18446744073709551616) :
   Calls Tryz.prog 99 [.agg #[.int .u64 c, .int .u64 s]].toArray w (Ret fun v w' => v = .agg (bv (zbO c s)).toArray ∧ Below w.heap.size w w') := by
 have hB := Below.refl w.heap.size w
 refine zaw (fn := Tryz.f99) (rs := [.cell 2 94]) (n := 31) Tryz.func99 rfl rfl Tryz.ntmps99 (by kernel_rfl) rfl ?_
 refine zak (zac ?_)
 refine zaX rfl (zca ([.int .u64 c, .int .u64 s]) rfl (fun g1 w1 hg1 hr1 hb1 => ?_))
 have ge_hB_g1 := Nat.le_trans hB.size hg1
 replace hB := hB.acc hb1
 refine zaX rfl (zaO (List.replicate 128 (Value.int .u8 0)) (by kernel_rfl) (fun g2 w2 hg2 hr2 hb2 => ?_))
 have ge_hB_g2 := Nat.le_trans hB.size hg2
 have lt_g1_g2 : g1 < g2 := Nat.lt_of_lt_of_le hr1.lt hg2
 replace hr1 := hr1.new hb2
 replace hB := hB.acc hb2
 refine zaf (zai (zak (zac ?_)))
 refine zaa rfl (zbl (e := 5) (n := 128) (0) (128) (128) (128) (by kernel_rfl) rfl rfl rfl rfl (by simp) (by omega) (by omega) (by omega) (by omega) (by omega)) ?_
 refine zaX rfl (zoW (e := 5) magic (by kernel_rfl) (by kernel_rfl) g2 0 rfl rfl hr2 (by decide) (by simp [magic]) (fun w5 hr2 ho5 => ?_))
 replace hr1 := hr1.only ho5 (Nat.ne_of_lt lt_g1_g2)
 replace hB := ho5.below hB ge_hB_g2
 rw [znC c s] at hr2
 refine zaf (zai (zak (zak (zac (zaa rfl (zab) (zaf (zai (zaD ?_))))))))
 refine zbF (α := Nat) 0 (fun i => [(6, .int .i64 (i : Nat)), (1, .pointer (some ⟨g1, 0, none⟩)), (2, .pointer (some ⟨g2, 0, none⟩))])
   (fun i w' => i ≤ 8 ∧ row w' g1 [.int .u64 c, .int .u64 s] 107 ∧ row w' g2 (bv (hdL c s i)) 94 ∧ Below w.heap.size w w') (fun i => 8 - i)
   ⟨rfl, rfl, rfl, rfl⟩ ⟨Nat.zero_le _, hr1, hr2, hB⟩ ?_
 clear hr1 hr2 hB
 rintro i f wr ⟨hi, hr1, hr2, hB⟩
 have hne : g1 ≠ g2 := by omega
 have hll : (bv (hdL c s i)).length = 128 := by rw [zae]; exact zi5 _ _ _
 refine zak (zac ?_)
 refine zaa rfl (zbd rfl rfl) ?_
 refine zaf (zai (zak ?_))
 refine zaZ rfl (fun hlt => ?_) (fun hlt => ?_)
 ·
  refine zau (zai (zak (zaD (zak (zac (zaa rfl (zab) (zaa rfl (zad) (zaf (zai ?_)))))))))
  have hob : ∃ L, hdL c s i = L := ⟨_, rfl⟩
  obtain ⟨L, hL⟩ := hob
  have hbc := znD (x := c) (i := i) (by omega) _ rfl
  have hbs := znD (x := s) (i := i) (by omega) _ rfl
  have hst := zoX c s i (by omega)
  have hLl : L.length = 128 := by rw [← hL]; exact zi5 _ _ _
  rw [hL] at hr2 hll hst
  refine zbg [g2] (by kernel_rfl) ?_
  intro w901 hb901 hS901
  replace hr1 := hr1.new hb901
  replace hr2 := hr2.new hb901
  replace hB := hB.acc hb901
  have hr1_d901 := hr1
  have hr2_d901 := hr2
  have hB_d901 := hB
  refine zah 0 (by kernel_rfl) rfl (fun _ _ => zab) ?_
  refine zah 1 (by kernel_rfl) rfl (fun _ _ => zaV rfl rfl (Coup.w64 (by omega))) ?_
  refine zah 2 (by kernel_rfl) rfl (fun _ _ => zab) ?_
  refine zah 3 (by kernel_rfl) rfl (fun _ _ => zaV rfl rfl (Coup.w64 (by omega))) ?_
  refine zah 4 (by kernel_rfl) rfl (fun _ _ => zaj (off := 0) (by kernel_rfl) rfl) ?_
  refine zah 5 (by kernel_rfl) rfl (fun w' hS' => zam rfl (Ld.zbb (hr1_d901.kq hS') (by kernel_rfl) rfl)) ?_
  refine zah 6 (by kernel_rfl) rfl (fun _ _ => zab) ?_
  refine zah 7 (by kernel_rfl) rfl (fun _ _ => zd6 rfl rfl (Coup.w64 (by omega))) ?_
  refine zah 8 (by kernel_rfl) rfl (fun _ _ => zeQ rfl rfl (Coup.w64 (by omega))) ?_
  refine zah 9 (by kernel_rfl) rfl (fun _ _ => zgE rfl rfl (by omega) (shrN (56 - 8 * i) (by omega) (by omega))) ?_
  refine zah 10 (by kernel_rfl) rfl (fun _ _ => zc7 (k := .u8) (by kernel_rfl) (by kernel_rfl) rfl hbc) ?_
  refine zah 11 (by kernel_rfl) rfl (fun _ _ => zaj (off := 1) (by kernel_rfl) rfl) ?_
  refine zah 12 (by kernel_rfl) rfl (fun w' hS' => zam rfl (Ld.zbb (hr1_d901.kq hS') (by kernel_rfl) rfl)) ?_
  refine zah 13 (by kernel_rfl) rfl (fun _ _ => zab) ?_
  refine zah 14 (by kernel_rfl) rfl (fun _ _ => zd6 rfl rfl (Coup.w64 (by omega))) ?_
  refine zah 15 (by kernel_rfl) rfl (fun _ _ => zeQ rfl rfl (Coup.w64 (by omega))) ?_
  refine zah 16 (by kernel_rfl) rfl (fun _ _ => zgE rfl rfl (by omega) (shrN (56 - 8 * i) (by omega) (by omega))) ?_
  refine zah 17 (by kernel_rfl) rfl (fun _ _ => zc7 (k := .u8) (by kernel_rfl) (by kernel_rfl) rfl hbs) ?_
  refine zah 18 (by kernel_rfl) rfl (fun _ _ => zfy (e := 5) (m := 128) (by kernel_rfl) rfl rfl (4 + i) (by omega) (by omega)) ?_
  refine zaS 19 (by kernel_rfl) ?_
  refine zdG rfl rfl (zaP rfl rfl rfl rfl hr2 (by kernel_rfl) (by first | (simp only [List.length_replicate]; omega) | (simp only [zaM]; omega) | (simp only [zae, List.length_set]; omega) | simp) (fun w903 hr2 ho903 => ?_))
  have hS902 := hS901.aq ho903
  refine ⟨hS902, ?_⟩
  replace hr1 := hr1.only ho903 (Nat.ne_of_lt lt_g1_g2)
  replace hB := ho903.below hB ge_hB_g2
  refine zah 20 (by kernel_rfl) rfl (fun _ _ => zfy (e := 5) (m := 128) (by kernel_rfl) rfl rfl (12 + i) (by omega) (by omega)) ?_
  refine zaS 21 (by kernel_rfl) ?_
  refine zdG rfl rfl (zaP rfl rfl rfl rfl hr2 (by kernel_rfl) (by first | (simp only [List.length_replicate]; omega) | (simp only [zaM]; omega) | (simp only [zae, List.length_set]; omega) | simp) (fun w905 hr2 ho905 => ?_))
  have hS904 := hS902.aq ho905
  refine ⟨hS904, ?_⟩
  replace hr1 := hr1.only ho905 (Nat.ne_of_lt lt_g1_g2)
  replace hB := ho905.below hB ge_hB_g2
  refine zaR (by kernel_rfl) ?_
  refine za2 (zai (zac ?_))
  refine zaa rfl (zaV rfl rfl (Coup.w64 (by omega))) ?_
  refine zaa rfl (zab) (zaf ?_)
  have hq : row w905 g2 (((bv L).set (0 + (4 + i)) (.int .u8 (((beB 8 c).getD i 0).toNat : Int))).set (0 + (12 + i)) (.int .u8 (((beB 8 s).getD i 0).toNat : Int))) 94 := hr2
  rw [Nat.zero_add, Nat.zero_add, znE, znE, hst] at hq
  refine zbq ⟨i + 1, by omega, ⟨by go_num, rfl, rfl, rfl⟩, by omega, hr1, hq, hB⟩
 ·
  have h8 : i = 8 := by omega
  subst h8
  rw [znB] at hr2
  rw [znB] at hll
  have hob : ∃ L, zbO c s = L := ⟨_, rfl⟩
  obtain ⟨L, hL⟩ := hob
  rw [hL] at hr2 hll
  rw [hL]
  refine zbp (zbW (zb9 (zbw (zai (zak (zac ?_))))))
  refine zaa rfl (zam rfl (Ld.zb5 (k := 128) hr2 (by kernel_rfl) (by kernel_rfl) (by first | (simp; done) | (simp [zae, *]; done) | assumption))) ?_
  refine za4 rfl (zav 128 (bv L) rfl rfl hr2 (by kernel_rfl) (by first | assumption | (simp; done) | (simp [zae, *]; done)) (by first | assumption | (simp; done) | (simp [zae, *]; done) | rfl) (by first | exact zaL _ | assumption | (simp [Value.oneCell']; done)) (fun w906 hr2 ho906 => ?_))
  replace hr1 := hr1.only ho906 (Nat.ne_of_lt lt_g1_g2)
  replace hB := ho906.below hB ge_hB_g2
  refine zaf (zai (zax ?_))
  refine zar [_] ⟨⟨_, rfl, Ld.zb5 (k := 128) hr2 (by kernel_rfl) (by kernel_rfl) (by first | (simp; done) | (simp [zae, *]; done) | assumption)⟩, trivial⟩ ?_
  exact ⟨rfl, hB⟩
def hdC (s : List UInt8) : Nat := zdK ((s.drop 4).take 8)
def hdS (s : List UInt8) : Nat := zdK ((s.drop 12).take 8)
def zlI (s : List UInt8) : Bool := decide (zf4 s zbv = zbO (hdC s) (hdS s)) && decide (1 ≤ hdS s) && decide (hdS s ≤ hdC s) && decide (hdC s ≤ 4611686018427387904)
theorem torn23w (a b : List UInt8) (ha : a.length = 128) (hb : b.length = 128) (w : World) : Calls Tryz.prog 98 [.agg (bv a).toArray, .agg (bv b).toArray].toArray w (Ret fun v w' => v = .agg (bv (zf4 a b)).toArray ∧ Below w.heap.size w w') := zcB (torn23 a b ha hb w)
set_option maxRecDepth 20000 in
set_option maxHeartbeats 1000000 in
theorem zoY (s : List UInt8) (w : World) (hs : s.length = 128) :
   Calls Tryz.prog 75 [.agg (bv s).toArray].toArray w (Ret fun v w' => v = .tuple #[.agg #[.int .u64 (hdC s), .int .u64 (hdS s)], .bool (zlI s)] ∧ Below w.heap.size w w') := by
 have hB := Below.refl w.heap.size w
 have hml : maxLen = 9223372036854775807 := by decide
 have hsl : (bv s).length = 128 := by rw [zae]; exact hs
 have hc8 : hdC s < 18446744073709551616 := zcm _ 8 (by simp; omega)
 have hs8 : hdS s < 18446744073709551616 := zcm _ 8 (by simp; omega)
 obtain ⟨Z, hzz, hzb, hzl⟩ := zlv
 refine zaw (fn := Tryz.f75) (rs := [.cell 2 107, .tmp 3]) (n := 36) Tryz.func75 rfl rfl Tryz.ntmps75 (by kernel_rfl) rfl ?_
 refine zak (zac ?_)
 refine zaX rfl (zca ((bv s)) rfl (fun g1 w1 hg1 hr1 hb1 => ?_))
 have ge_hB_g1 := Nat.le_trans hB.size hg1
 replace hB := hB.acc hb1
 refine zaX rfl (zaO ([Value.int .u64 0, Value.int .u64 0]) (by kernel_rfl) (fun g2 w2 hg2 hr2 hb2 => ?_))
 have ge_hB_g2 := Nat.le_trans hB.size hg2
 have lt_g1_g2 : g1 < g2 := Nat.lt_of_lt_of_le hr1.lt hg2
 replace hr1 := hr1.new hb2
 replace hB := hB.acc hb2
 refine zaa rfl (zad) (zaf (zai (zak ?_)))
 refine zbg [] (by kernel_rfl) ?_
 intro w901 hb901 hS901
 replace hr1 := hr1.new hb901
 replace hr2 := hr2.new hb901
 replace hB := hB.acc hb901
 have hr1_d901 := hr1
 have hr2_d901 := hr2
 have hB_d901 := hB
 refine zah 0 (by kernel_rfl) rfl (fun _ _ => zbl (e := 5) (n := 128) (4) (12) (128) (8) (by kernel_rfl) rfl ⟨_, _, rfl, rfl⟩ ⟨_, _, rfl, rfl⟩ rfl (by simp) (by omega) (by omega) (by omega) (by omega) (by omega)) ?_
 refine zdF 1 (by kernel_rfl) rfl (fun _ => zao (by kernel_rfl) rfl) (fun w' hS' => zi4 _ 8 _ _ w' ((hr1_d901.kq hS').slB 4 8 (by omega) (by omega)) (by omega)) ?_
 refine zah 2 (by kernel_rfl) rfl (fun _ _ => zbl (e := 5) (n := 128) (12) (20) (128) (8) (by kernel_rfl) rfl ⟨_, _, rfl, rfl⟩ ⟨_, _, rfl, rfl⟩ rfl (by simp) (by omega) (by omega) (by omega) (by omega) (by omega)) ?_
 refine zdF 3 (by kernel_rfl) rfl (fun _ => zao (by kernel_rfl) rfl) (fun w' hS' => zi4 _ 8 _ _ w' ((hr1_d901.kq hS').slB 12 8 (by omega) (by omega)) (by omega)) ?_
 refine zah 4 (by kernel_rfl) rfl (fun _ _ => ziP (k0 := .u64) (k1 := .u64) (by kernel_rfl) (by kernel_rfl) rfl rfl) ?_
 refine zaS 5 (by kernel_rfl) ?_
 refine zbN rfl rfl (zaO ([Value.int .u64 0, Value.int .u64 0]) (by kernel_rfl) (fun g4 w4 hg4 hr4 hb4 => ?_))
 have hS902 := hS901.add0 hb4
 refine ⟨hS902, ?_⟩
 have ge_hS901_g4 := Nat.le_trans hS901.size hg4
 have ge_hB_g4 := Nat.le_trans hB.size hg4
 have lt_g1_g4 : g1 < g4 := Nat.lt_of_lt_of_le hr1.lt hg4
 have lt_g2_g4 : g2 < g4 := Nat.lt_of_lt_of_le hr2.lt hg4
 replace hr1 := hr1.new hb4
 replace hr2 := hr2.new hb4
 replace hB := hB.acc hb4
 refine zaS 6 (by kernel_rfl) ?_
 refine zdG rfl rfl (zav 2 ([.int .u64 (hdC s), .int .u64 (hdS s)]) rfl rfl hr4 (by kernel_rfl) (by first | assumption | (simp; done) | (simp [zae, *]; done)) (by first | assumption | (simp; done) | (simp [zae, *]; done) | rfl) (by first | exact zaL _ | assumption | (simp [Value.oneCell']; done)) (fun w904 hr4 ho904 => ?_))
 have hS903 := hS902.aq ho904
 refine ⟨hS903, ?_⟩
 replace hr1 := hr1.only ho904 (Nat.ne_of_lt lt_g1_g4)
 replace hr2 := hr2.only ho904 (Nat.ne_of_lt lt_g2_g4)
 replace hB := ho904.below hB ge_hB_g4
 refine zaR (by kernel_rfl) ?_
 refine zai (zak ?_)
 refine zbg [] (by kernel_rfl) ?_
 intro w905 hb905 hS905
 replace hr1 := hr1.new hb905
 replace hr2 := hr2.new hb905
 replace hr4 := hr4.new hb905
 replace hB := hB.acc hb905
 have hr1_d905 := hr1
 have hr2_d905 := hr2
 have hr4_d905 := hr4
 have hB_d905 := hB
 refine zah 0 (by kernel_rfl) rfl (fun w' hS' => zam rfl (Ld.zb5 (k := 128) (hr1_d905.kq hS') (by kernel_rfl) (by kernel_rfl) (by first | (simp; done) | (simp [zae, *]; done) | assumption))) ?_
 refine zah 1 (by kernel_rfl) rfl (fun _ _ => zd8 (bv Z) (by rw [← hzb]; kernel_rfl)) ?_
 refine zah 3 (by kernel_rfl) rfl (fun w' hS' => zam rfl (Ld.zb5 (k := 2) (hr4_d905.kq hS') (by kernel_rfl) (by kernel_rfl) (by first | (simp; done) | (simp [zae, *]; done) | assumption))) ?_
 refine zaS 2 (by kernel_rfl) ?_
 have hZl : Z.length = 128 := by rw [← zae]; exact hzl
 have hT := fun w' => torn23w s Z hs hZl w'
 have hTl := zgL s Z hs hZl
 have hSc := fun w' => zlH (hdC s) (hdS s) w' hc8 hs8
 have hSl := zf7 (hdC s) (hdS s)
 have hob : ∃ T, zf4 s Z = T := ⟨_, rfl⟩
 obtain ⟨T, hTe⟩ := hob
 have hob : ∃ H, zbO (hdC s) (hdS s) = H := ⟨_, rfl⟩
 obtain ⟨H, hHe⟩ := hob
 rw [hTe] at hT hTl
 rw [hHe] at hSc hSl
 have hie : zlI s = (decide (T = H) && decide (1 ≤ hdS s) && decide (hdS s ≤ hdC s) && decide (hdC s ≤ 4611686018427387904)) := by rw [zlI, hzz, hTe, hHe]
 refine zcq rfl rfl (zao (by kernel_rfl) rfl) (hT w905) ?_
 rintro _ w13 ⟨rfl, hb13⟩
 have hS906 := hS905.add0 hb13
 refine ⟨hS906, ?_⟩
 replace hr1 := hr1.new hb13
 replace hr2 := hr2.new hb13
 replace hr4 := hr4.new hb13
 replace hB := hB.acc hb13
 refine zaS 4 (by kernel_rfl) ?_
 refine zcq rfl rfl (zao (by kernel_rfl) rfl) (hSc w13) ?_
 rintro _ w15 ⟨rfl, hb15⟩
 have hS907 := hS906.add0 hb15
 refine ⟨hS907, ?_⟩
 replace hr1 := hr1.new hb15
 replace hr2 := hr2.new hb15
 replace hr4 := hr4.new hb15
 replace hB := hB.acc hb15
 refine zah 5 (by kernel_rfl) rfl (fun _ _ => zkH (n := 128) (by kernel_rfl) rfl rfl hTl hSl) ?_
 refine zah 6 (by kernel_rfl) rfl (fun _ _ => zab) ?_
 refine zeN 17 rfl (fun hq1 => ?_) (fun hq1 => ?_)
 ·
  refine zah 7 (by kernel_rfl) rfl (fun _ _ => zaj (off := 1) (by kernel_rfl) rfl) ?_
  refine zah 8 (by kernel_rfl) rfl (fun w' hS' => zam rfl (Ld.zbb (hr4_d905.kq hS') (by kernel_rfl) rfl)) ?_
  refine zah 9 (by kernel_rfl) rfl (fun _ _ => zeR rfl rfl) ?_
  refine zah 10 (by kernel_rfl) rfl (fun _ _ => zay rfl) ?_
  refine zah 11 (by kernel_rfl) rfl (fun _ _ => zab) ?_
  refine zeN 22 rfl (fun hq2 => ?_) (fun hq2 => ?_)
  ·
   refine zah 12 (by kernel_rfl) rfl (fun _ _ => zaj (off := 1) (by kernel_rfl) rfl) ?_
   refine zah 13 (by kernel_rfl) rfl (fun w' hS' => zam rfl (Ld.zbb (hr4_d905.kq hS') (by kernel_rfl) rfl)) ?_
   refine zah 14 (by kernel_rfl) rfl (fun _ _ => zaj (off := 0) (by kernel_rfl) rfl) ?_
   refine zah 15 (by kernel_rfl) rfl (fun w' hS' => zam rfl (Ld.zbb (hr4_d905.kq hS') (by kernel_rfl) rfl)) ?_
   refine zah 16 (by kernel_rfl) rfl (fun _ _ => zhf rfl rfl) ?_
   refine zah 17 (by kernel_rfl) rfl (fun _ _ => zay rfl) ?_
   refine zah 18 (by kernel_rfl) rfl (fun _ _ => zab) ?_
   refine zeN 29 rfl (fun hq3 => ?_) (fun hq3 => ?_)
   ·
    refine zah 19 (by kernel_rfl) rfl (fun _ _ => zaj (off := 0) (by kernel_rfl) rfl) ?_
    refine zah 20 (by kernel_rfl) rfl (fun w' hS' => zam rfl (Ld.zbb (hr4_d905.kq hS') (by kernel_rfl) rfl)) ?_
    refine zah 21 (by kernel_rfl) rfl (fun _ _ => zhf rfl rfl) ?_
    refine zah 22 (by kernel_rfl) rfl (fun _ _ => zay rfl) ?_
    refine zah 23 (by kernel_rfl) rfl (fun _ _ => zad) ?_
    refine zaR (by kernel_rfl) ?_
    refine zai (zak (zac ?_))
    refine zaa rfl (zam rfl (Ld.zb5 (k := 2) hr4 (by kernel_rfl) (by kernel_rfl) (by first | (simp; done) | (simp [zae, *]; done) | assumption))) ?_
    refine zaa rfl (zab) ?_
    refine za4 rfl (zav 2 ([.int .u64 (hdC s), .int .u64 (hdS s)]) rfl rfl hr2 (by kernel_rfl) (by first | assumption | (simp; done) | (simp [zae, *]; done)) (by first | assumption | (simp; done) | (simp [zae, *]; done) | rfl) (by first | exact zaL _ | assumption | (simp [Value.oneCell']; done)) (fun w908 hr2 ho908 => ?_))
    replace hr1 := hr1.only ho908 (Nat.ne_of_lt lt_g1_g2)
    replace hr4 := hr4.only ho908 (Nat.ne_of_gt lt_g2_g4)
    replace hB := ho908.below hB ge_hB_g2
    refine zaa rfl (zad) (zaf (zai (zax ?_)))
    refine zar [_, _] ⟨⟨_, rfl, Ld.zb5 (k := 2) hr2 (by kernel_rfl) (by kernel_rfl) (by first | (simp; done) | (simp [zae, *]; done) | assumption)⟩, rfl, trivial⟩ ?_
    refine ⟨?_, hB⟩
    rw [hie]
    rw [decide_eq_true hq1, decide_eq_true (show 1 ≤ hdS s by omega), decide_eq_true (show hdS s ≤ hdC s by omega)]
    have e : decide ((hdC s : Int) ≤ 4611686018427387904) = decide (hdC s ≤ 4611686018427387904) := by
     by_cases hq4 : hdC s ≤ 4611686018427387904
     ·rw [decide_eq_true hq4, decide_eq_true (by omega)]
     ·rw [decide_eq_false hq4, decide_eq_false (by omega)]
    rw [← e]
    rfl
   ·
    have hz : zlI s = false := by rw [hie, decide_eq_false (show ¬ hdS s ≤ hdC s by omega), Bool.and_false, Bool.false_and]
    refine zaN 19 (by kernel_rfl) rfl ?_
    refine zaN 20 (by kernel_rfl) rfl ?_
    refine zaN 21 (by kernel_rfl) rfl ?_
    refine zah 22 (by kernel_rfl) rfl (fun _ _ => zaz rfl) ?_
    refine zah 23 (by kernel_rfl) rfl (fun _ _ => zad) ?_
    refine zaR (by kernel_rfl) ?_
    refine zai (zak (zac ?_))
    refine zaa rfl (zam rfl (Ld.zb5 (k := 2) hr4 (by kernel_rfl) (by kernel_rfl) (by first | (simp; done) | (simp [zae, *]; done) | assumption))) ?_
    refine zaa rfl (zab) ?_
    refine za4 rfl (zav 2 ([.int .u64 (hdC s), .int .u64 (hdS s)]) rfl rfl hr2 (by kernel_rfl) (by first | assumption | (simp; done) | (simp [zae, *]; done)) (by first | assumption | (simp; done) | (simp [zae, *]; done) | rfl) (by first | exact zaL _ | assumption | (simp [Value.oneCell']; done)) (fun w909 hr2 ho909 => ?_))
    replace hr1 := hr1.only ho909 (Nat.ne_of_lt lt_g1_g2)
    replace hr4 := hr4.only ho909 (Nat.ne_of_gt lt_g2_g4)
    replace hB := ho909.below hB ge_hB_g2
    refine zaa rfl (zad) (zaf (zai (zax ?_)))
    refine zar [_, _] ⟨⟨_, rfl, Ld.zb5 (k := 2) hr2 (by kernel_rfl) (by kernel_rfl) (by first | (simp; done) | (simp [zae, *]; done) | assumption)⟩, rfl, trivial⟩ ?_
    refine ⟨?_, hB⟩
    rw [hz]
    rfl
  ·
   have hz : zlI s = false := by rw [hie, decide_eq_false (show ¬ 1 ≤ hdS s by omega), Bool.and_false, Bool.false_and, Bool.false_and]
   refine zaN 12 (by kernel_rfl) rfl ?_
   refine zaN 13 (by kernel_rfl) rfl ?_
   refine zaN 14 (by kernel_rfl) rfl ?_
   refine zaN 15 (by kernel_rfl) rfl ?_
   refine zaN 16 (by kernel_rfl) rfl ?_
   refine zah 17 (by kernel_rfl) rfl (fun _ _ => zaz rfl) ?_
   refine zah 18 (by kernel_rfl) rfl (fun _ _ => zab) ?_
   refine zaN 19 (by kernel_rfl) rfl ?_
   refine zaN 20 (by kernel_rfl) rfl ?_
   refine zaN 21 (by kernel_rfl) rfl ?_
   refine zah 22 (by kernel_rfl) rfl (fun _ _ => zaz rfl) ?_
   refine zah 23 (by kernel_rfl) rfl (fun _ _ => zad) ?_
   refine zaR (by kernel_rfl) ?_
   refine zai (zak (zac ?_))
   refine zaa rfl (zam rfl (Ld.zb5 (k := 2) hr4 (by kernel_rfl) (by kernel_rfl) (by first | (simp; done) | (simp [zae, *]; done) | assumption))) ?_
   refine zaa rfl (zab) ?_
   refine za4 rfl (zav 2 ([.int .u64 (hdC s), .int .u64 (hdS s)]) rfl rfl hr2 (by kernel_rfl) (by first | assumption | (simp; done) | (simp [zae, *]; done)) (by first | assumption | (simp; done) | (simp [zae, *]; done) | rfl) (by first | exact zaL _ | assumption | (simp [Value.oneCell']; done)) (fun w910 hr2 ho910 => ?_))
   replace hr1 := hr1.only ho910 (Nat.ne_of_lt lt_g1_g2)
   replace hr4 := hr4.only ho910 (Nat.ne_of_gt lt_g2_g4)
   replace hB := ho910.below hB ge_hB_g2
   refine zaa rfl (zad) (zaf (zai (zax ?_)))
   refine zar [_, _] ⟨⟨_, rfl, Ld.zb5 (k := 2) hr2 (by kernel_rfl) (by kernel_rfl) (by first | (simp; done) | (simp [zae, *]; done) | assumption)⟩, rfl, trivial⟩ ?_
   refine ⟨?_, hB⟩
   rw [hz]
   rfl
 ·
  have hz : zlI s = false := by rw [hie, decide_eq_false hq1, Bool.false_and, Bool.false_and, Bool.false_and]
  refine zaN 7 (by kernel_rfl) rfl ?_
  refine zaN 8 (by kernel_rfl) rfl ?_
  refine zaN 9 (by kernel_rfl) rfl ?_
  refine zah 10 (by kernel_rfl) rfl (fun _ _ => zaz rfl) ?_
  refine zah 11 (by kernel_rfl) rfl (fun _ _ => zab) ?_
  refine zaN 12 (by kernel_rfl) rfl ?_
  refine zaN 13 (by kernel_rfl) rfl ?_
  refine zaN 14 (by kernel_rfl) rfl ?_
  refine zaN 15 (by kernel_rfl) rfl ?_
  refine zaN 16 (by kernel_rfl) rfl ?_
  refine zah 17 (by kernel_rfl) rfl (fun _ _ => zaz rfl) ?_
  refine zah 18 (by kernel_rfl) rfl (fun _ _ => zab) ?_
  refine zaN 19 (by kernel_rfl) rfl ?_
  refine zaN 20 (by kernel_rfl) rfl ?_
  refine zaN 21 (by kernel_rfl) rfl ?_
  refine zah 22 (by kernel_rfl) rfl (fun _ _ => zaz rfl) ?_
  refine zah 23 (by kernel_rfl) rfl (fun _ _ => zad) ?_
  refine zaR (by kernel_rfl) ?_
  refine zai (zak (zac ?_))
  refine zaa rfl (zam rfl (Ld.zb5 (k := 2) hr4 (by kernel_rfl) (by kernel_rfl) (by first | (simp; done) | (simp [zae, *]; done) | assumption))) ?_
  refine zaa rfl (zab) ?_
  refine za4 rfl (zav 2 ([.int .u64 (hdC s), .int .u64 (hdS s)]) rfl rfl hr2 (by kernel_rfl) (by first | assumption | (simp; done) | (simp [zae, *]; done)) (by first | assumption | (simp; done) | (simp [zae, *]; done) | rfl) (by first | exact zaL _ | assumption | (simp [Value.oneCell']; done)) (fun w911 hr2 ho911 => ?_))
  replace hr1 := hr1.only ho911 (Nat.ne_of_lt lt_g1_g2)
  replace hr4 := hr4.only ho911 (Nat.ne_of_gt lt_g2_g4)
  replace hB := ho911.below hB ge_hB_g2
  refine zaa rfl (zad) (zaf (zai (zax ?_)))
  refine zar [_, _] ⟨⟨_, rfl, Ld.zb5 (k := 2) hr2 (by kernel_rfl) (by kernel_rfl) (by first | (simp; done) | (simp [zae, *]; done) | assumption)⟩, rfl, trivial⟩ ?_
  refine ⟨?_, hB⟩
  rw [hz]
  rfl
end Go.Proofs.YtielfpkjoidomaaGreat
