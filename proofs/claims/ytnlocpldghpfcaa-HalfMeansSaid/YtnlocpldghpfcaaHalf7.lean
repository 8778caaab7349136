/- A half's bytes, whole. -/
import Derived.Test.YtnlocpldghpfcaaHalf6
namespace Go.Proofs.Ytnlocpldghpfcaa
open Go Go.RowKit Coup

/-- A half's bytes. -/
def halfB (c n p m : Nat) (b : List UInt8) : List UInt8 := beB 8 c ++ (beB 4 n ++ (beB 2 p ++ (beB 2 m ++ b)))
theorem halfB_length (c n p m : Nat) (b : List UInt8) : (halfB c n p m b).length = 16 + b.length := by simp [halfB, beB_length]; omega
theorem splice_head {α : Type} (pre x y post : List α) (h : x.length = y.length) : splice (pre ++ (x ++ post)) pre.length y = pre ++ (y ++ post) := by
  rw [splice, List.take_left, ← h, ← List.drop_drop, List.drop_left, List.drop_left]
theorem bytes_steps (c n p m : Nat) (b : List UInt8) (hb : b.length = 48) :
    splice (splice (splice (splice (splice (bv (zerosB 64)) 0 (bv (beB 8 c))) 8 (bv (beB 4 n))) 12 (bv (beB 2 p))) 14 (bv (beB 2 m))) 16 (bv b) = bv (halfB c n p m b) := by
  have z : bv (zerosB 64) = [] ++ (bv (zerosB 8) ++ (bv (zerosB 4) ++ (bv (zerosB 2) ++ (bv (zerosB 2) ++ bv (zerosB 48))))) := by simp only [← bv_append, List.nil_append]; rfl
  have l8 : (bv (zerosB 8)).length = (bv (beB 8 c)).length := by rw [bv_length, bv_length, beB_length]; rfl
  have l4 : (bv (zerosB 4)).length = (bv (beB 4 n)).length := by rw [bv_length, bv_length, beB_length]; rfl
  have l2 : (bv (zerosB 2)).length = (bv (beB 2 p)).length := by rw [bv_length, bv_length, beB_length]; rfl
  have l2' : (bv (zerosB 2)).length = (bv (beB 2 m)).length := by rw [bv_length, bv_length, beB_length]; rfl
  have l48 : (bv (zerosB 48)).length = (bv b).length := by rw [bv_length, bv_length, hb]; rfl
  have k8 : (bv (beB 8 c)).length = 8 := by rw [bv_length, beB_length]
  have k12 : (bv (beB 8 c) ++ bv (beB 4 n)).length = 12 := by rw [List.length_append, bv_length, bv_length, beB_length, beB_length]
  have k14 : ((bv (beB 8 c) ++ bv (beB 4 n)) ++ bv (beB 2 p)).length = 14 := by rw [List.length_append, k12, bv_length, beB_length]
  have k16 : (((bv (beB 8 c) ++ bv (beB 4 n)) ++ bv (beB 2 p)) ++ bv (beB 2 m)).length = 16 := by rw [List.length_append, k14, bv_length, beB_length]
  rw [z]
  have s1 := splice_head [] (bv (zerosB 8)) (bv (beB 8 c)) (bv (zerosB 4) ++ (bv (zerosB 2) ++ (bv (zerosB 2) ++ bv (zerosB 48)))) l8
  simp only [List.length_nil] at s1
  rw [s1, List.nil_append]
  have s2 := splice_head (bv (beB 8 c)) (bv (zerosB 4)) (bv (beB 4 n)) (bv (zerosB 2) ++ (bv (zerosB 2) ++ bv (zerosB 48))) l4
  rw [k8] at s2
  rw [s2, ← List.append_assoc]
  have s3 := splice_head (bv (beB 8 c) ++ bv (beB 4 n)) (bv (zerosB 2)) (bv (beB 2 p)) (bv (zerosB 2) ++ bv (zerosB 48)) l2
  rw [k12] at s3
  rw [s3, ← List.append_assoc]
  have s4 := splice_head ((bv (beB 8 c) ++ bv (beB 4 n)) ++ bv (beB 2 p)) (bv (zerosB 2)) (bv (beB 2 m)) (bv (zerosB 48)) l2'
  rw [k14] at s4
  rw [s4, ← List.append_assoc]
  have s5 := splice_head (((bv (beB 8 c) ++ bv (beB 4 n)) ++ bv (beB 2 p)) ++ bv (beB 2 m)) (bv (zerosB 48)) (bv b) [] l48
  rw [k16, List.append_nil, List.append_nil] at s5
  rw [s5, halfB]
  simp only [bv_append, List.append_assoc]

/-- What stands in memory while a half's bytes are written. -/
structure BI (B g1 g2 ga : Nat) (L l : List Value) (x : Int) (w0 w : World) : Prop where
  p : row w g1 L 61
  h : row w g2 l 59
  a : row w ga [.int .i64 x] 3
  b : Below B w0 w
  o1 : g1 < g2
  o2 : g2 < ga
  o3 : B ≤ g1
  len : l.length = 64

theorem put_call {B g1 g2 ga : Nat} {L l : List Value} {x : Nat} {w0 w : World} (h : BI B g1 g2 ga L l x w0 w) (v m : Nat) (hm : m ≤ 8) (hx : x + m ≤ 64) :
    Calls Try.prog 38 #[.int .u64 v, .int .i64 m, .pointer (some ⟨g2, 0, none⟩), .pointer (some ⟨ga, 0, none⟩)] w fun e w' => e = .returned (.tuple #[]) ∧ BI B g1 g2 ga L (splice l x (bv (beB m v))) ((x + m : Nat) : Int) w0 w' := by
  have := h.o2
  refine (put38 v m hm g2 ga l x w h.h h.len h.a hx (by omega)).mono ?_
  rintro e w' ⟨rfl, h1, h2, h3⟩
  have hb := h3 g2 (Nat.le_refl _) (by omega)
  exact ⟨rfl, h.p.below hb h.o1, h1, h2, h.b.trans (hb.mono (by have := h.o1; have := h.o3; omega)), h.o1, h.o2, h.o3, by rw [length_splice _ _ _ (by rw [bv_length, beB_length, h.len]; omega), h.len]⟩
theorem BI.c0 {B g1 g2 ga : Nat} {c n p m : Int} {b : List UInt8} {l : List Value} {x : Int} {w0 w : World} (h : BI B g1 g2 ga (pieceL c n p m b) l x w0 w) : w.cell? ⟨g1, 0, none⟩ = some (.int .u64 c) := h.p.cell 0 rfl
theorem BI.c1 {B g1 g2 ga : Nat} {c n p m : Int} {b : List UInt8} {l : List Value} {x : Int} {w0 w : World} (h : BI B g1 g2 ga (pieceL c n p m b) l x w0 w) : w.cell? ⟨g1, 1, none⟩ = some (.int .i64 n) := h.p.cell 1 rfl
theorem BI.c2 {B g1 g2 ga : Nat} {c n p m : Int} {b : List UInt8} {l : List Value} {x : Int} {w0 w : World} (h : BI B g1 g2 ga (pieceL c n p m b) l x w0 w) : w.cell? ⟨g1, 2, none⟩ = some (.int .i64 p) := h.p.cell 2 rfl
theorem BI.c3 {B g1 g2 ga : Nat} {c n p m : Int} {b : List UInt8} {l : List Value} {x : Int} {w0 w : World} (h : BI B g1 g2 ga (pieceL c n p m b) l x w0 w) : w.cell? ⟨g1, 3, none⟩ = some (.int .i64 m) := h.p.cell 3 rfl

theorem BI.start {L : List Value} {w : World} {g1 g2 ga : Nat} {w1 w2 w3 w4 : World} {l4 : List Value} (a1 : w.heap.size ≤ g1) (a2 : row w1 g1 L 61) (a3 : Below w.heap.size w w1) (b1 : w1.heap.size ≤ g2) (b2 : row w2 g2 (bv (zerosB 64)) 59) (b3 : Below w1.heap.size w1 w2)
    (c1 : w2.heap.size ≤ ga) (_c2 : row w3 ga [.int .i64 0] 3) (c3 : Below w2.heap.size w2 w3) (d1 : Hid (l4 = splice [.int .i64 0] 0 [.int .i64 0])) (d2 : row w4 ga l4 3) (d3 : Only ga w3 w4) : BI w.heap.size g1 g2 ga L (bv (zerosB 64)) ((0 : Nat) : Int) w w4 := by
  have e1 := a2.lt
  have e2 := b2.lt
  have e3 := a3.size
  have e4 := b3.size
  rw [show l4 = [.int .i64 0] from d1.out] at d2
  exact ⟨((a2.new b3).new c3).only d3 (by omega), (b2.new c3).only d3 (by omega), d2, d3.below ((a3.trans (b3.mono e3)).trans (c3.mono (by omega))) (by omega), by omega, by omega, a1, by rw [bv_length]; rfl⟩

theorem bytes27 (c n p m : Nat) (b : List UInt8) (hb : b.length = 48) (_hc : c < 18446744073709551616) (hn : n < 4294967296) (hp : p < 65536) (hm : m < 65536) (w : World) :
    Calls Try.prog 27 #[.agg (pieceL c n p m b).toArray] w fun e w' => e = .returned (.agg (bv (halfB c n p m b)).toArray) ∧ Below w.heap.size w w' := by
  have HB := Lib.hid hb
  clear hb
  have wn : IntKind.u64.wrap (n : Int) = n := by rw [IntKind.wrap_u64]; omega
  have wp : IntKind.u64.wrap (p : Int) = p := by rw [IntKind.wrap_u64]; omega
  have wm : IntKind.u64.wrap (m : Int) = m := by rw [IntKind.wrap_u64]; omega
  have hz3 : (Try.prog.info? 3).map (fun i => i.zero.map (·.cells)) = some (some [Value.int .i64 0].toArray) := by kernel_rfl
  go_enter Try.func27, Try.ntmps27
  go_wp2_with (first
    | (with_reducible refine at_op (.box 61 _) ?_; refine wpList_box_row rfl 61 _ rfl (pieceL c n p m b) rfl ?_; intro g1 w1 hg1 hr1 hb1)
    | (with_reducible refine at_op (.alloc 59) ?_; refine wpList_alloc_row rfl 59 rfl _ zero_cells59 ?_; intro g2 w2 hg2 hr2 hb2)
    | (with_reducible refine at_op (.alloc 3) ?_; refine wpList_alloc_row rfl 3 rfl _ hz3 ?_; intro ga w3 hga ha3 hb3)
    | (with_reducible refine at_op (.store 3 _ _) ?_; refine wpList_store_at rfl 3 _ _ rfl ga 0 rfl [.int .i64 0] rfl _ 3 ha3 (by kernel_rfl) (by simp) (by simp [Value.oneCell']) ?_; intro l4 w4 HL4 hr4 ho4
       have I0 := BI.start hg1 hr1 hb1 hg2 hr2 hb2 hga ha3 hb3 HL4 hr4 ho4
       clear hg1 hr1 hb1 hg2 hr2 hb2 hga ha3 hb3 HL4 hr4 ho4
       have q0 := I0.c0)
    | (go_at_call_of 38 (Value.int .u64 (c : Int)); refine (put_call I0 c 8 (by omega) (by omega)).mono ?_; rintro e w5 ⟨rfl, I1⟩; clear I0 q0; have q1 := I1.c1)
    | (go_at_call_of 38 (Value.int .u64 (n : Int)); refine (put_call I1 n 4 (by omega) (by omega)).mono ?_; rintro e w6 ⟨rfl, I2⟩; clear I1 q1; have q2 := I2.c2)
    | (go_at_call_of 38 (Value.int .u64 (p : Int)); refine (put_call I2 p 2 (by omega) (by omega)).mono ?_; rintro e w7 ⟨rfl, I3⟩; clear I2 q2; have q3 := I3.c3)
    | (go_at_call_of 38 (Value.int .u64 (m : Int)); refine (put_call I3 m 2 (by omega) (by omega)).mono ?_; rintro e w8 ⟨rfl, I4⟩; clear I3 q3))
  have hx : row w8 ga [.int .i64 16] 3 := I4.a
  have hg2 := I4.h
  rw [show ((0 + 8 + 4 : Nat) + 2 : Nat) = 14 from rfl, show ((0 + 8 : Nat) + 4 : Nat) = 12 from rfl, show (0 + 8 : Nat) = 8 from rfl] at hg2
  have hlen := I4.len
  rw [show ((0 + 8 + 4 : Nat) + 2 : Nat) = 14 from rfl, show ((0 + 8 : Nat) + 4 : Nat) = 12 from rfl, show (0 + 8 : Nat) = 8 from rfl] at hlen
  have hst := bytes_steps c n p m b HB.out
  generalize splice (splice (splice (splice (bv (zerosB 64)) 0 (bv (beB 8 c))) 8 (bv (beB 4 n))) 12 (bv (beB 2 p))) 14 (bv (beB 2 m)) = l8 at hg2 hlen hst
  have hp1 := I4.p
  have hob := I4.b
  have o2 := I4.o2
  have o1 := I4.o1
  have o3 := I4.o3
  clear I4
  have hx0 := hx.cell 0 (v := .int .i64 16) rfl
  have hsrc : ∀ j v, (bv b)[j]? = some v → w8.drew.cell? ((⟨g1, 4, none⟩ : Addr).add j) = some v := fun j v hv => by
    rw [Addr.add_lit]
    exact hp1.drew.cell (4 + j) (by rw [pieceL, List.getElem?_append_right (by simp)]; simpa using hv)
  have HS := Lib.hid hsrc
  have HST := Lib.hid hst
  have HL := Lib.hid hlen
  clear hsrc hst hlen
  go_region_held3 (fun w' => w'.cell? ⟨ga, 0, none⟩ = some (.int .i64 16)) (first | assumption | go_keep)
    (first
      | (refine step_copy_at rfl _ _ _ _ rfl 5 (by kernel_rfl) (by kernel_rfl) _ _ _ _ _ _ rfl rfl g2 16 l8 59 hg2.drew (bv b) (by rw [bv_length, HB.out]; rfl) (fun _ => ⟨rfl, _, rfl, HS.out⟩) (by rw [bv_length, HB.out, HL.out]; omega) (bv_one b) ?_; intro l9 w9 HL9 hr9 ho9
         have hx9 : w9.cell? ⟨ga, 0, none⟩ = some (.int .i64 16) := (hx.drew.only ho9 (by omega)).cell 0 rfl))
  have h9 : l9 = bv (halfB c n p m b) := by rw [HL9.out]; exact HST.out
  have h64 : (bv (halfB c n p m b)).length = 64 := by rw [bv_length, halfB_length, HB.out]
  have hb9 := ho9.below hob.drew (by omega)
  rw [h9] at hr9
  have HR9 := Lib.hid hr9
  have H64 := Lib.hid h64
  have HB9 := Lib.hid hb9
  clear h9 HL9 hr9 h64 hb9 hx9 hg2 ho9 HST HS hob hp1 hx hx0
  go_wp2_with (first
    | (with_reducible refine at_op (.load 59 _) ?_; refine wpList_load_rng rfl 59 _ rfl g2 0 rfl (bv (halfB c n p m b)) HR9.out.range_all row59 (by rw [H64.out]; exact size59) ?_)
    | (with_reducible refine at_op (.store 59 _ _) ?_; refine wpList_store_at rfl 59 _ _ rfl g2 0 rfl (bv (halfB c n p m b)) rfl _ 59 HR9.out (by rw [H64.out]; exact size59) (by rw [H64.out]; omega) (bv_one _) ?_; intro l10 w10 HL10 hr10 ho10))
  rw [show l10 = bv (halfB c n p m b) by rw [HL10.out, splice_all _ _ rfl]] at hr10
  refine bodyPost_ret (results_cell_rng rfl _ _ g2 59 _ rfl hr10 row59 (by rw [H64.out]; exact size59)) rfl ?_
  exact ⟨rfl, ho10.below HB9.out (by omega)⟩
end Go.Proofs.Ytnlocpldghpfcaa
