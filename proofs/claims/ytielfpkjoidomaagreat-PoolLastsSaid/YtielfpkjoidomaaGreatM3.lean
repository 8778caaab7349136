import Derived.Test.YtielfpkjoidomaaGreatM2
import Derived.Test.YtielfpkjoidomaaGreatM0
import Derived.Test.YtielfpkjoidomaaGreatM1
import Derived.Shelf.SlIterI.Nil
import Derived.Shelf.SortM.Plain
import Derived.Shelf.SortM.SortNone
import Derived.Test.YtielfpkjoidomaaGreatProg
namespace Go.Proofs.YtielfpkjoidomaaGreat
open Go Go.RowKit Coup
def zku (i : Int) : Prop := -9223372036854775808 ≤ i ∧ i ≤ 9223372036854775807
def zfE (all : Nat) (n : Int) : Bool := decide (4 ≤ n ∧ n ≤ 4000 ∧ 1 + n ≤ all)
section
variable {Y : World → List Nat → Prop} {g lo : Nat} {L : List Nat} {D : Dk} {w : World}
set_option maxRecDepth 20000 in
theorem may49 (h : Two (DZ g D) Y lo L w) (n : Int) (hn : zku n) : Calls Tryz.prog 74 [.pointer (some ⟨g, 0, none⟩), .int .i64 n].toArray w (Ret fun v w' => v = .int .i64 (if zfE D.V.length n then 0 else 2) ∧ w = w') := by
 have hS := ziZ h
 have hp := (tOk h).2
 have hn8 := (tOk h).1.n
 have h1 := hn.1
 have h2 := hn.2
 refine zaw (fn := Tryz.f74) (rs := [.tmp 4]) (n := 23) Tryz.func74 rfl rfl Tryz.ntmps74 (by kernel_rfl) rfl ?_
 refine zak (zac (zaa rfl (zad) (zaf (zai (zak (zaD (zak (zac (zaa rfl (zab) ?_)))))))))
 refine zat rfl (zao (by kernel_rfl) rfl) (hS) ?_
 rintro _ _ ⟨rfl, rfl⟩
 refine zaa rfl (zbr rfl rfl) ?_
 refine zaa rfl (zad) (zaf (zai ?_))
 refine zdT rfl ((by omega)) ?_
 refine zak (zac (zaa rfl (zab) ?_))
 refine zaa rfl (zbd rfl rfl) ?_
 refine zaa rfl (zab) ?_
 refine zbJ 12 rfl (fun h3 => ?_) (fun h3 => ?_)
 ·
  refine zaE rfl rfl (zaE rfl rfl (zaa rfl (zay rfl) (zaa rfl (zab) (zaE rfl rfl (zaE rfl rfl (zaE rfl rfl (zaE rfl rfl (zaE rfl rfl (zaa rfl (zay rfl) (zaa rfl (zad) (zaf ?_)))))))))))
  refine zai ?_
  refine zkB rfl (rfl) ?_
  refine zak (zac (zaa rfl (zad) (zaf (zai (zax (za6 (zaT ?_)))))))
  refine zar [_] ⟨rfl, trivial⟩ ?_
  have hz : zfE D.V.length n = false := decide_eq_false (by omega)
  exact ⟨by rw [hz]; rfl, rfl⟩
 ·
  refine zas rfl (zaa rfl (zab) (zas rfl ?_))
  refine zaa rfl (zbU rfl rfl) ?_
  refine zaa rfl (zaz rfl) (zaa rfl (zab) ?_)
  refine zbJ 16 rfl (fun h4 => ?_) (fun h4 => ?_)
  ·
   refine zaE rfl rfl (zaE rfl rfl (zaE rfl rfl (zaE rfl rfl (zaE rfl rfl (zaa rfl (zay rfl) (zaa rfl (zad) (zaf (zai ?_))))))))
   refine zkB rfl (rfl) ?_
   refine zak (zac (zaa rfl (zad) (zaf (zai (zax (za6 (zaT ?_)))))))
   refine zar [_] ⟨rfl, trivial⟩ ?_
   have hz : zfE D.V.length n = false := decide_eq_false (by omega)
   exact ⟨by rw [hz]; rfl, rfl⟩
  ·
   refine zas rfl (zaa rfl (zab) (zas rfl ?_))
   refine zat rfl (zao (by kernel_rfl) rfl) (hS) ?_
   rintro _ _ ⟨rfl, rfl⟩
   refine zas rfl (zaa rfl (zab) (zas rfl ?_))
   refine zaa rfl (zaV rfl rfl (Coup.w64 (by omega))) ?_
   refine zas rfl ?_
   refine zaa rfl (zbd rfl rfl) ?_
   refine zaa rfl (zaz rfl) (zaa rfl (zad) (zaf (zai ?_)))
   refine zaZ rfl (fun h5 => ?_) (fun h5 => ?_)
   ·
    refine zak (zac (zaa rfl (zad) (zaf (zai (zax (za6 (zaT ?_)))))))
    refine zar [_] ⟨rfl, trivial⟩ ?_
    have hz : zfE D.V.length n = false := decide_eq_false (by omega)
    exact ⟨by rw [hz]; rfl, rfl⟩
   ·
    refine zau (za2 (zai (zak (zac (zaa rfl (zad) (zaf (zai (zax ?_))))))))
    refine zar [_] ⟨rfl, trivial⟩ ?_
    have hz : zfE D.V.length n = true := decide_eq_true (by omega)
    exact ⟨by rw [hz]; rfl, rfl⟩
end
section
variable {Y : World → List Nat → Prop} [Thing Y] {g lo : Nat} {L : List Nat} {D : Dk} {w : World}
def zbt (D : Dk) (c s : Nat) : Dk := if za3 D then zbe (zbu D 0 (zbO c s)) else zbu D 0 (zbO c s)
set_option maxRecDepth 20000 in
theorem save54 (h : Two (DZ g D) Y lo L w) (c s : Nat) (hc : c < 18446744073709551616) (hs : s < 18446744073709551616) (hsh : zbf D 90000) :
   Calls Tryz.prog 79 [.pointer (some ⟨g, 0, none⟩), .agg #[.int .u64 c, .int .u64 s]].toArray w (Ret fun v w' => v = .int .i64 (if za3 D && za3 (zbu D 0 (zbO c s)) then 0 else 10) ∧ Two (DZ g (zbt D c s)) Y lo L w' ∧ LoL lo L w w') := by
 have hD := h
 have hLL := LoL.refl lo L w
 have hin : inD D 0 = true := decide_eq_true ⟨by omega, by have := (tOk h).2; omega⟩
 have hS := fun w' => zlH c s w' hc hs
 have hHl := zf7 c s
 have hob : ∃ H, zbO c s = H := ⟨_, rfl⟩
 obtain ⟨H, hH⟩ := hob
 rw [zbt, hH]
 rw [hH] at hS hHl
 refine zaw (fn := Tryz.f79) (rs := [.tmp 4]) (n := 15) Tryz.func79 rfl rfl Tryz.ntmps79 (by kernel_rfl) rfl ?_
 refine zak (zac ?_)
 refine zaX rfl (zca ([.int .u64 c, .int .u64 s]) rfl (fun g3 w3 hg3 hr3 hb3 => ?_))
 replace hD := hD.newc hb3 hg3 hr3.lt
 replace hLL := hLL.new hb3
 refine zaa rfl (zad) (zaf (zai (zak (zak (zac (zaa rfl (zab) ?_))))))
 refine zaa rfl (zam rfl (Ld.zb5 (k := 2) hr3 (by kernel_rfl) (by kernel_rfl) (by first | (simp; done) | (simp [zae, *]; done) | assumption))) ?_
 refine zat rfl (zao (by kernel_rfl) rfl) (hS w3) ?_
 rintro _ w8 ⟨rfl, hb8⟩
 replace hD := hD.new hb8
 replace hLL := hLL.new hb8
 replace hr3 := hr3.new hb8
 have hw := zlz hD 0 H hHl hsh
 rw [zhq, hin, if_pos rfl] at hw
 refine zat rfl (zao (by kernel_rfl) rfl) (hw) ?_
 rintro _ w9 ⟨rfl, hD, hb9⟩
 replace hLL := hLL.lq hb9
 replace hr3 := hr3.kl hb9
 refine zaa rfl (zad) (zaf (zai (zak (zac (zaa rfl (zab) ?_)))))
 refine zaa rfl (zaW rfl rfl) ?_
 refine zaf (zai ?_)
 refine zaZ rfl (fun hne => ?_) (fun hne => ?_)
 ·
  refine zak (zac (zaa rfl (zab) (zaa rfl (zad) (zaf (zai (zax (zaT ?_)))))))
  refine zar [_] ⟨rfl, trivial⟩ ?_
  have hf : za3 D = false := by cases hx : za3 D with | false => rfl | true => simp [hx] at hne
  refine ⟨by rw [hf]; rfl, ?_, hLL⟩
  rw [hf]
  exact hD.weak (fun b hb => List.mem_cons_of_mem _ hb)
 ·
  have hf : za3 D = true := by cases hx : za3 D with | true => rfl | false => simp [hx] at hne
  rw [hf, if_pos rfl, Bool.true_and]
  refine zau (zai (zak (zac (zaa rfl (zab) ?_))))
  refine zat rfl (zao (by kernel_rfl) rfl) (zlA hD) ?_
  rintro _ w14 ⟨rfl, hD, hb14⟩
  replace hLL := hLL.lq hb14
  replace hr3 := hr3.kl hb14
  refine zaa rfl (zad) (zaf (zai (zax ?_)))
  refine zar [_] ⟨rfl, trivial⟩ ?_
  exact ⟨rfl, hD.weak (fun b hb => List.mem_cons_of_mem _ hb), hLL⟩
def zeG (D : Dk) (m : Nat) : Dk := (List.range m).foldl (fun (D : Dk) (i : Nat) => zbu D (i : Int) zbv) D
theorem zfF (D : Dk) (m : Nat) : zeG D (m + 1) = zbu (zeG D m) (m : Int) zbv := by simp [zeG, List.range_succ]
theorem zex {D : Dk} {k : Nat} (h : zb6 D k) : ∀ m, zb6 (zeG D m) (m + k) ∧ (zeG D m).V.length = D.V.length
 | 0 => ⟨by rw [Nat.zero_add]; exact h, rfl⟩
 | m + 1 => by
  obtain ⟨h1, h2⟩ := zex h m
  rw [zfF]
  obtain ⟨e1, e2, _⟩ := h1.zbu (m : Int) zbv
  exact ⟨e1.weak (by omega), e2.trans h2⟩
def zoZ (D : Dk) (n : Nat) : Dk := zbe (zbu (zbe (zeG D (1 + n))) 0 (zbO 1 1))
set_option maxRecDepth 20000 in
set_option maxHeartbeats 1000000 in
theorem zo0 (h : Two (DZ g D) Y lo L w) (n : Int) (hn : zku n) (ha : zb6 D 80000) :
   Calls Tryz.prog 46 [.pointer (some ⟨g, 0, none⟩), .int .i64 n].toArray w (Ret fun v w' => v = .int .i64 (if zfE D.V.length n then 0 else 2) ∧ Two (DZ g (if zfE D.V.length n then zoZ D n.toNat else D)) Y lo L w' ∧ LoL lo L w w') := by
 have hD := h
 have hLL := LoL.refl lo L w
 have hM := may49 h n hn
 obtain ⟨Z, hzz, hzb, hzl⟩ := zlv
 have hZl : Z.length = 128 := by rw [← zae]; exact hzl
 have hzs := fun m => zfF D m
 simp only [hzz] at hzs
 obtain ⟨ft, hft⟩ : ∃ ft, zfE D.V.length n = ft := ⟨_, rfl⟩
 rw [hft] at hM ⊢
 refine zaw (fn := Tryz.f46) (rs := [.tmp 4]) (n := 36) Tryz.func46 rfl rfl Tryz.ntmps46 (by kernel_rfl) rfl ?_
 refine zak (zac (zaa rfl (zad) (zaf (zai (zak (zak (zac (zaa rfl (zab) (zaa rfl (zab) ?_)))))))))
 refine zat rfl (zao (by kernel_rfl) rfl) (hM) ?_
 rintro _ _ ⟨rfl, rfl⟩
 refine zaa rfl (zad) (zaf (zai (zak (zac (zaa rfl (zab) ?_)))))
 refine zaa rfl (zaW rfl rfl) ?_
 refine zaf (zai ?_)
 refine zaZ rfl (fun hne => ?_) (fun hne => ?_)
 ·
  refine zak (zac (zaa rfl (zab) (zaa rfl (zad) (zaf (zai (zax (zaT ?_)))))))
  refine zar [_] ⟨rfl, trivial⟩ ?_
  have hf : ft = false := by cases ft with | false => rfl | true => simp at hne
  subst hf
  exact ⟨rfl, hD, hLL⟩
 ·
  have hf : ft = true := by cases ft with | true => rfl | false => simp at hne
  subst hf
  have hfit := of_decide_eq_true hft
  have hobt : ∃ m : Nat, n = m := ⟨n.toNat, by omega⟩
  obtain ⟨m, rfl⟩ := hobt
  rw [if_pos rfl, if_pos rfl, Int.toNat_natCast]
  refine zau (zai (zak (zak (zac (zaa rfl (zab) ?_)))))
  refine zaa rfl (zaV rfl rfl (Coup.w64 (by omega))) ?_
  refine zaa rfl (zab) (zaf (zai (zaD ?_)))
  refine zbF (α := Nat) 0 (fun i => [(17, .int .i64 (i : Nat)), (16, .int .i64 (1 + (m : Int))), (0, .pointer (some ⟨g, 0, none⟩))])
    (fun i w' => i ≤ 1 + m ∧ Two (DZ g (zeG D i)) Y lo L w' ∧ LoL lo L w w') (fun i => 1 + m - i)
    ⟨rfl, rfl, rfl, rfl⟩ ⟨Nat.zero_le _, hD, hLL⟩ ?_
  clear hD hLL
  rintro i f wr ⟨hi, hD, hLL⟩
  have hal := zex ha i
  have hst := zcy hal.1.left hal.1.dead
  refine zak (zac ?_)
  refine zaa rfl (zbd rfl rfl) ?_
  refine zaf (zai (zak ?_))
  refine zaZ rfl (fun hlt => ?_) (fun hlt => ?_)
  ·
   refine zau (zai (zak (zaD (zak (zac (zaa rfl (zab) (zaa rfl (zad) (zaf (zai (zak (zac ?_)))))))))))
   refine zaa rfl (zab) (zaa rfl (zab) ?_)
   refine zaa rfl (zd8 (bv Z) (by rw [← hzb]; kernel_rfl)) ?_
   have hw := zlz hD (i : Int) Z hZl (zbE hal.1.short (by omega))
   have hin : inD (zeG D i) (i : Int) = true := decide_eq_true (by omega)
   rw [zhq, hin, hst.1, if_pos rfl, if_pos rfl, ← hzs] at hw
   refine zat rfl (zao (by kernel_rfl) rfl) (hw) ?_
   rintro _ w23 ⟨rfl, hD, hb23⟩
   replace hLL := hLL.lq hb23
   refine zaa rfl (zad) (zaf (zai (zak (zac (zaa rfl (zab) ?_)))))
   refine zaa rfl (zaW rfl rfl) ?_
   refine zaf (zai ?_)
   refine zdT rfl ((by omega)) ?_
   refine zau (za2 (zai (zac ?_)))
   refine zaa rfl (zaV rfl rfl (Coup.w64 (by omega))) ?_
   refine zaa rfl (zab) (zaf ?_)
   refine zbq ⟨i + 1, by omega, ⟨by go_num, rfl, rfl, rfl⟩, by omega, hD, hLL⟩
  ·
   have him : i = 1 + m := by omega
   subst him
   have hfa := zcK hal.1
   have hfl := zb0 (D := zeG D (1 + m))
   have hw1 := hfa.2.zbu 0 (zbO 1 1)
   have hst2 := zcy hfa.2.left hfa.2.dead
   have hst3 := zcy hw1.1.left hw1.1.dead
   refine zbp (zbW (zb9 (zbw (zai (zak (zak (zac (zaa rfl (zab) ?_))))))))
   have hf := zlA hD
   rw [hst.1, if_pos rfl] at hf
   refine zat rfl (zao (by kernel_rfl) rfl) (hf) ?_
   rintro _ w29 ⟨rfl, hD, hb29⟩
   replace hLL := hLL.lq hb29
   refine zaa rfl (zad) (zaf (zai (zak (zac (zaa rfl (zab) ?_)))))
   refine zaa rfl (zaW rfl rfl) ?_
   refine zaf (zai ?_)
   refine zdT rfl ((by omega)) ?_
   refine zau (zai (zak (zac (zaa rfl (zab) ?_))))
   refine zaa rfl (ziP (k0 := .u64) (k1 := .u64) (by kernel_rfl) (by kernel_rfl) rfl rfl) ?_
   have hsv := save54 hD 1 1 (by omega) (by omega) (zbE hfa.2.short (by omega))
   rw [zbt, hst2.1, if_pos rfl, hst3.1] at hsv
   refine zat rfl (zao (by kernel_rfl) rfl) (hsv) ?_
   rintro _ w35 ⟨rfl, hD, hb35⟩
   replace hLL := hLL.lq hb35
   refine zaa rfl (zad) (zaf (zai (zax ?_)))
   refine zar [_] ⟨rfl, trivial⟩ ?_
   exact ⟨rfl, hD, hLL⟩
end
structure Lg where
 count : Nat
 since : Nat
 size : Nat
 num : Nat
 at_ : Nat
 dead : Bool
def lgV (g : Nat) (G : Lg) : List Value := [.int .u64 (G.count : Int), .int .u64 (G.since : Int), .pointer (some ⟨g, 0, none⟩), .int .i64 (G.size : Int), .int .i64 (G.num : Int), .int .i64 (G.at_ : Int), .bool G.dead]
structure zdz (g x : Nat) (Y : World → List Nat → Prop) (lo : Nat) (L : List Nat) (D : Dk) (G : Lg) (w : World) : Prop where
 two : Two (DZ g D) Y lo (x :: L) w
 rowx : row w x (lgV g G) 109
 ge : lo ≤ x
 ni : x ∉ L
namespace zdz
variable {Y : World → List Nat → Prop} {g x lo gc : Nat} {L L2 M : List Nat} {D : Dk} {G : Lg} {w w' : World}
theorem lt (h : zdz g x Y lo L D G w) : x < w.heap.size := h.rowx.lt
theorem kpd [hY : Thing Y] (h : zdz g x Y lo L D G w) (k : Kp M w w') (hM : ∀ b ∈ M, b < lo ∨ b ∈ L) : zdz g x Y lo L D G w' :=
 ⟨h.two.kpd k fun b hb => (hM b hb).imp id (List.mem_cons_of_mem _), h.rowx.kpd k fun hm => (hM _ hm).elim (fun hl => absurd h.ge (Nat.not_le.2 hl)) h.ni, h.ge, h.ni⟩
theorem new [hY : Thing Y] (h : zdz g x Y lo L D G w) (hb : Below w.heap.size w w') : zdz g x Y lo L D G w' := h.kpd (M := []) (Kp.of_below hb) (by simp)
theorem only [hY : Thing Y] (h : zdz g x Y lo L D G w) (ho : Only gc w w') (hg : gc < lo ∨ gc ∈ L) : zdz g x Y lo L D G w' := h.kpd (Kp.zbx ho) fun b hb => by rw [List.mem_singleton.1 hb]; exact hg
theorem weak (h : zdz g x Y lo L D G w) (h2 : ∀ b ∈ L2, b ∈ L) : zdz g x Y lo L2 D G w := ⟨h.two.weak fun b hb => (List.mem_cons.1 hb).elim (fun e => e ▸ List.mem_cons_self ..) fun hm => List.mem_cons_of_mem _ (h2 b hm), h.rowx, h.ge, fun hm => h.ni (h2 _ hm)⟩
theorem newc [hY : Thing Y] (h : zdz g x Y lo L D G w) (hb : Below w.heap.size w w') (hg : w.heap.size ≤ gc) (hg' : gc < w'.heap.size) : zdz g x Y lo (gc :: L) D G w' :=
  ⟨(h.two.newc hb hg hg').weak (L2 := x :: gc :: L) fun b hm => by
    rcases List.mem_cons.1 hm with rfl | hm
    · exact List.mem_cons_of_mem _ (List.mem_cons_self ..)
    · rcases List.mem_cons.1 hm with rfl | hm
      · exact List.mem_cons_self ..
      · exact List.mem_cons_of_mem _ (List.mem_cons_of_mem _ hm), h.rowx.new hb, h.ge, fun hm => by
    rcases List.mem_cons.1 hm with e | hm
    · have := h.lt; omega
    · exact h.ni hm⟩
theorem fst (h : zdz g x Y lo L D G w) : Two (DZ g D) Y lo L w := h.two.weak fun _ hb => List.mem_cons_of_mem _ hb
end zdz
section
variable {Y : World → List Nat → Prop} [Thing Y] {g x lo : Nat} {L : List Nat} {D : Dk} {G : Lg} {w : World}
def nextG (G : Lg) (s : Nat) (ok : Bool) : Lg := if ok then { G with count := G.count + 1, since := s } else { G with dead := true }
def zcY (D : Dk) (c s : Nat) : Bool := za3 D && za3 (zbu D 0 (zbO c s))
set_option maxRecDepth 20000 in
theorem next48 (h : zdz g x Y lo L D G w) (s : Nat) (hc : G.count + 1 < 18446744073709551616) (hs : s < 18446744073709551616) (hsh : zbf D 90000) :
   Calls Tryz.prog 77 [.pointer (some ⟨x, 0, none⟩), .int .u64 (s : Int)].toArray w (Ret fun v w' => v = .int .i64 (if zcY D (G.count + 1) s then 0 else 10) ∧ zdz g x Y lo L (zbt D (G.count + 1) s) (nextG G s (zcY D (G.count + 1) s)) w' ∧ LoL lo L w w') := by
 obtain ⟨hD, hx, hge, hni⟩ := h
 have hLL := LoL.refl lo L w
 have hxl := hx.lt
 have hsv0 := fun (L : List Nat) (w' : World) (h : Two (DZ g D) Y lo L w') => save54 h (G.count + 1) s hc hs hsh
 obtain ⟨ok, hok⟩ : ∃ ok, zcY D (G.count + 1) s = ok := ⟨_, rfl⟩
 obtain ⟨D2, hD2⟩ : ∃ D2, zbt D (G.count + 1) s = D2 := ⟨_, rfl⟩
 rw [hok, hD2]
 unfold zcY at hok
 rw [hok, hD2] at hsv0
 obtain ⟨c, si, sz, nu, at_, de⟩ := G
 dsimp only [lgV, nextG] at *
 refine zaw (fn := Tryz.f77) (rs := [.tmp 4]) (n := 31) Tryz.func77 rfl rfl Tryz.ntmps77 (by kernel_rfl) rfl ?_
 refine zak (zac (zaa rfl (zad) (zaf (zai (zak (zac (zaa rfl (zab) (zaa rfl (zal rfl) (zaa rfl (zaj (off := 0) (by kernel_rfl) rfl) (zaa rfl (zaj (off := 0) (by kernel_rfl) rfl) ?_))))))))))
 refine zaa rfl (zam rfl (Ld.zbb hx (by kernel_rfl) rfl)) ?_
 refine zaa rfl (zaV rfl rfl (wu64 (by omega))) ?_
 refine zaa rfl (zab) ?_
 refine zaa rfl (ziP (k0 := .u64) (k1 := .u64) (by kernel_rfl) (by kernel_rfl) rfl rfl) ?_
 refine zaX rfl (zaO ([Value.int .u64 0, Value.int .u64 0]) (by kernel_rfl) (fun g5 w5 hg5 hr5 hb5 => ?_))
 have lt_x_g5 : x < g5 := Nat.lt_of_lt_of_le hx.lt hg5
 replace hD := hD.newc hb5 hg5 hr5.lt
 replace hx := hx.new hb5
 replace hLL := hLL.new hb5
 refine za4 rfl (zav 2 (_) rfl rfl hr5 (by kernel_rfl) (by first | assumption | (simp; done) | (simp [zae, *]; done)) (by first | assumption | (simp; done) | (simp [zae, *]; done) | rfl) (by first | exact zaL _ | assumption | (simp [Value.oneCell']; done)) (fun w901 hr5 ho901 => ?_))
 replace hD := hD.only ho901 (by first | (right; simp; done) | (left; omega))
 replace hx := hx.only ho901 (Nat.ne_of_lt lt_x_g5)
 replace hLL := hLL.oq ho901
 refine zaf (zai (zak (zak ?_)))
 refine zeZ (lo) ((g5 :: x :: L)) (by kernel_rfl) ?_
 intro w902 hb902 hn902 hS902
 replace hD := hD.new hb902
 replace hx := hx.new hb902
 replace hLL := hLL.new hb902
 replace hr5 := hr5.new hb902
 have hD_d902 := hD
 have hx_d902 := hx
 have hLL_d902 := hLL
 have hr5_d902 := hr5
 refine zah 0 (by kernel_rfl) rfl (fun _ _ => zab) ?_
 refine zah 1 (by kernel_rfl) rfl (fun _ _ => zal rfl) ?_
 refine zah 2 (by kernel_rfl) rfl (fun _ _ => zaj (off := 2) (by kernel_rfl) rfl) ?_
 refine zah 3 (by kernel_rfl) rfl (fun w' hS' => zam rfl (Ld.zbb (hx_d902.kL hS') (by kernel_rfl) rfl)) ?_
 refine zah 4 (by kernel_rfl) rfl (fun w' hS' => zam rfl (Ld.zb5 (k := 2) (hr5_d902.kL hS') (by kernel_rfl) (by kernel_rfl) (by first | (simp; done) | (simp [zae, *]; done) | assumption))) ?_
 refine zaS 5 (by kernel_rfl) ?_
 refine zcq rfl rfl (zao (by kernel_rfl) rfl) (hsv0 _ w902 hD) ?_
 rintro _ w20 ⟨rfl, hD, hb20⟩
 have hS903 := hS902.zjK hn902 hb20
 refine ⟨hS903, ?_⟩
 replace hx := hx.kl hb20
 replace hLL := hLL.lq hb20
 replace hr5 := hr5.kl hb20
 refine zah 6 (by kernel_rfl) rfl (fun _ _ => zad) ?_
 refine zaR (by kernel_rfl) ?_
 refine zai (zak (zac (zaa rfl (zab) ?_)))
 refine zaa rfl (zaW rfl rfl) ?_
 refine zaf (zai ?_)
 refine zaZ rfl (fun hne => ?_) (fun hne => ?_)
 ·
  refine zak (zac (zaa rfl (zab) (zaa rfl (zal rfl) (zaa rfl (zaj (off := 6) (by kernel_rfl) rfl) ?_))))
  refine za4 rfl (zaP rfl rfl rfl rfl hx (by kernel_rfl) (by first | (simp only [List.length_replicate]; omega) | (simp only [zaM]; omega) | (simp only [zae, List.length_set]; omega) | simp) (fun w904 hx ho904 => ?_))
  replace hD := hD.only ho904 (by first | (right; simp; done) | (left; omega))
  replace hLL := hLL.oq ho904
  replace hr5 := hr5.only ho904 (Nat.ne_of_gt lt_x_g5)
  refine zaf (zai (zak (zac (zaa rfl (zab) (zaa rfl (zad) (zaf (zai (zax (zaT ?_)))))))))
  refine zar [_] ⟨rfl, trivial⟩ ?_
  have hf : ok = false := by cases ok with | false => rfl | true => simp at hne
  subst hf
  exact ⟨rfl, ⟨hD.weak (fun b hb => List.mem_cons_of_mem _ hb), hx, hge, hni⟩, hLL⟩
 ·
  have hf : ok = true := by cases ok with | true => rfl | false => simp at hne
  subst hf
  refine zau (zai (zak (zac (zaa rfl (zab) ?_))))
  refine zaa rfl (zam rfl (Ld.zb5 (k := 2) hr5 (by kernel_rfl) (by kernel_rfl) (by first | (simp; done) | (simp [zae, *]; done) | assumption))) ?_
  refine zaa rfl (zal rfl) (zaa rfl (zaj (off := 0) (by kernel_rfl) rfl) ?_)
  refine za4 rfl (zgW [.int .u64 ((c : Int) + 1), .int .u64 (s : Int)] rfl rfl hx (by kernel_rfl) (by simp) (by simp [Value.oneCell']) (fun w905 hx ho905 => ?_))
  replace hD := hD.only ho905 (by first | (right; simp; done) | (left; omega))
  replace hLL := hLL.oq ho905
  replace hr5 := hr5.only ho905 (Nat.ne_of_gt lt_x_g5)
  refine zaf (zai (zak (zac (zaa rfl (zad) (zaf (zai (zax ?_)))))))
  refine zar [_] ⟨rfl, trivial⟩ ?_
  exact ⟨rfl, ⟨hD.weak (fun b hb => List.mem_cons_of_mem _ hb), hx, hge, hni⟩, hLL⟩
omit [Thing Y]
set_option maxRecDepth 20000 in
theorem zi6 (h : zdz g x Y lo L D G w) : Calls Tryz.prog 68 [.pointer (some ⟨x, 0, none⟩)].toArray w (Ret fun v w' => v = .int .i64 (if G.dead then 10 else 0) ∧ w = w') := by
 obtain ⟨hD, hx, hge, hni⟩ := h
 obtain ⟨c, si, sz, nu, at_, de⟩ := G
 dsimp only [lgV] at *
 refine zaw (fn := Tryz.f68) (rs := [.tmp 2]) (n := 18) Tryz.func68 rfl rfl Tryz.ntmps68 (by kernel_rfl) rfl ?_
 refine zak (zac (zaa rfl (zad) (zaf (zai (zak (zaD (zak (zac (zaa rfl (zab) ?_)))))))))
 refine zaa rfl (zcF (by kernel_rfl) rfl rfl) ?_
 refine zaa rfl (zab) ?_
 refine WR_fb 6 rfl (rfl) ?_
 refine zas rfl (zaa rfl (zab) (zas rfl (zaa rfl (zal rfl) (zas rfl (zaa rfl (zaj (off := 2) (by kernel_rfl) rfl) (zas rfl ?_))))))
 refine zaa rfl (zam rfl (Ld.zbb hx (by kernel_rfl) rfl)) ?_
 refine zas rfl ?_
 refine zaa rfl (zcF (by kernel_rfl) rfl rfl) ?_
 refine zaa rfl (zaz rfl) (zaa rfl (zad) (zaf (zai ?_)))
 refine zln rfl (rfl) ?_
 refine zak (zac (zaa rfl (zab) (zaa rfl (zal rfl) (zaa rfl (zaj (off := 6) (by kernel_rfl) rfl) ?_))))
 refine zaa rfl (zam rfl (Ld.zbb hx (by kernel_rfl) rfl)) ?_
 refine zaa rfl (zad) (zaf (zai ?_))
 refine zlm rfl (fun hde => ?_) (fun hde => ?_)
 ·
  refine zak (zac (zaa rfl (zad) (zaf (zai (zax (za6 (zaT ?_)))))))
  refine zar [_] ⟨rfl, trivial⟩ ?_
  subst hde
  exact ⟨rfl, rfl⟩
 ·
  refine zau (za2 (zai (zak (zac (zaa rfl (zad) (zaf (zai (zax ?_))))))))
  refine zar [_] ⟨rfl, trivial⟩ ?_
  have hf : de = false := by cases de with | false => rfl | true => cases hde
  subst hf
  exact ⟨rfl, rfl⟩
set_option maxRecDepth 20000 in
theorem znF (h : zdz g x Y lo L D G w) (hle : G.at_ ≤ G.size) (hsz : G.size ≤ 4000) : Calls Tryz.prog 38 [.pointer (some ⟨x, 0, none⟩)].toArray w (Ret fun v w' => v = .int .i64 ((G.size - G.at_ : Nat) : Int) ∧ Below w.heap.size w w') := by
 obtain ⟨hD, hx, hge, hni⟩ := h
 obtain ⟨c, si, sz, nu, at_, de⟩ := G
 dsimp only [lgV] at *
 have hB := Below.refl w.heap.size w
 refine zaw (fn := Tryz.f38) (rs := [.tmp 2]) (n := 14) Tryz.func38 rfl rfl Tryz.ntmps38 (by kernel_rfl) rfl ?_
 refine zak (zac (zaa rfl (zad) (zaf (zai (zak (zak (zac (zaa rfl (zab) ?_))))))))
 refine zaa rfl (zcF (by kernel_rfl) rfl rfl) ?_
 refine zaf (zai ?_)
 refine zln rfl (rfl) ?_
 refine zau (zai (zak ?_))
 refine zbg [] (by kernel_rfl) ?_
 intro w901 hb901 hS901
 replace hx := hx.new hb901
 replace hB := hB.acc hb901
 have hx_d901 := hx
 have hB_d901 := hB
 refine zah 0 (by kernel_rfl) rfl (fun _ _ => zab) ?_
 refine zah 1 (by kernel_rfl) rfl (fun _ _ => zal rfl) ?_
 refine zah 2 (by kernel_rfl) rfl (fun _ _ => zaj (off := 3) (by kernel_rfl) rfl) ?_
 refine zah 3 (by kernel_rfl) rfl (fun w' hS' => zam rfl (Ld.zbb (hx_d901.kq hS') (by kernel_rfl) rfl)) ?_
 refine zah 4 (by kernel_rfl) rfl (fun _ _ => zab) ?_
 refine zah 5 (by kernel_rfl) rfl (fun _ _ => zal rfl) ?_
 refine zah 6 (by kernel_rfl) rfl (fun _ _ => zaj (off := 5) (by kernel_rfl) rfl) ?_
 refine zah 7 (by kernel_rfl) rfl (fun w' hS' => zam rfl (Ld.zbb (hx_d901.kq hS') (by kernel_rfl) rfl)) ?_
 refine zah 8 (by kernel_rfl) rfl (fun _ _ => zeQ rfl rfl (Coup.w64 (by omega))) ?_
 refine zah 9 (by kernel_rfl) rfl (fun _ _ => zad) ?_
 refine zaR (by kernel_rfl) ?_
 refine zai (zax ?_)
 refine zar [_] ⟨rfl, trivial⟩ ?_
 have he : (sz : Int) - at_ = ((sz - at_ : Nat) : Int) := by omega
 exact ⟨by show Value.int .i64 ((sz : Int) - at_) = _; rw [he], hB⟩
end
def zaF (D : Dk) (at_ : Nat) : List Sec → Dk × Bool
 | [] => (D, true)
 | s :: l => if za3 D then zaF (zbu D (at_ : Int) s) (at_ + 1) l else (zbu D (at_ : Int) s, false)
theorem ze0 : ∀ (l : List Sec) (D : Dk) (a : Nat) (s : Sec), (zaF D a l).2 = true → zaF D a (l ++ [s]) = (zbu (zaF D a l).1 ((a + l.length : Nat) : Int) s, za3 (zaF D a l).1)
 | [], D, a, s, _ => by
  simp only [List.nil_append, zaF, List.length_nil, Nat.add_zero]
  split
  ·rename_i h; rw [h]
  ·rename_i h; cases hx : za3 D with
   | true => exact absurd hx h
   | false => rfl
 | t :: l, D, a, s, h => by
  rw [List.cons_append, zaF]
  rw [zaF] at h ⊢
  by_cases hs : za3 D = true
  ·rw [if_pos hs] at h ⊢
   rw [if_pos hs, ze0 l _ _ s h, List.length_cons, show a + 1 + l.length = a + (l.length + 1) by omega]
  ·rw [if_neg hs] at h; cases h
theorem zfG : ∀ (l m : List Sec) (D : Dk) (a : Nat), (zaF D a l).2 = false → zaF D a (l ++ m) = zaF D a l
 | [], m, D, a, h => by cases h
 | t :: l, m, D, a, h => by
  rw [List.cons_append, zaF]
  rw [zaF] at h ⊢
  by_cases hs : za3 D = true
  ·rw [if_pos hs] at h ⊢
   rw [if_pos hs, zfG l m _ _ h]
  ·rw [if_neg hs, if_neg hs]
theorem zfi (D : Dk) (i : Int) (s : Sec) : (zbu D i s).V.length = D.V.length := by
 unfold zbu zfo
 split
 ·split
  ·show ((zcs D).V.set _ _).length = _
   rw [List.length_set, zco]
  ·rw [zco]
 ·rfl
theorem zgN {D : Dk} {k : Nat} (h : zbf D k) (i : Int) (s : Sec) : zbf (zbu D i s) (k + 1) := by
 unfold zbu zfo
 split
 ·rename_i hin
  obtain ⟨m, rfl, hm⟩ := zkP hin
  have hsh := h.ver hm
  split
  ·intro v hv
   rcases List.mem_or_eq_of_mem_set hv with e | e
   ·rw [zco] at e; exact Nat.le_trans (h v e) (by omega)
   ·rw [e, List.length_append, List.length_singleton, Int.toNat_natCast]; omega
  ·intro v hv; rw [zco] at hv; exact Nat.le_trans (h v hv) (by omega)
 ·exact zbE h (by omega)
theorem zbo : ∀ (l : List Sec) (D : Dk) (a : Nat), (zaF D a l).1.V.length = D.V.length
 | [], D, a => rfl
 | t :: l, D, a => by
  have h : (zbu D (a : Int) t).V.length = D.V.length := zfi _ _ _
  rw [zaF]
  split
  ·rw [zbo l, h]
  ·exact h
theorem zcZ : ∀ (l : List Sec) (D : Dk) (a k : Nat), zbf D k → zbf (zaF D a l).1 (k + l.length)
 | [], D, a, k, h => h
 | t :: l, D, a, k, h => by
  have h1 : zbf (zbu D (a : Int) t) (k + 1) := zgN h _ _
  rw [zaF, List.length_cons]
  split
  ·exact zbE (zcZ l _ _ _ h1) (by omega)
  ·exact zbE h1 (by omega)
def za8 (b : List UInt8) (n : Nat) : List Sec := (List.range n).map fun i => (b.drop (128 * i)).take 128
theorem zbB (b : List UInt8) (n : Nat) : (za8 b n).length = n := by simp [za8]
theorem zgt (b : List UInt8) {n i : Nat} (h : i < n) : (za8 b n)[i]? = some ((b.drop (128 * i)).take 128) := by
 rw [za8, List.getElem?_map, List.getElem?_range h]; rfl
theorem zjZ {b : List UInt8} {n : Nat} (h : b.length = 128 * n) : zbV (za8 b n) := fun s hs => by
 obtain ⟨i, hi, rfl⟩ := List.mem_map.1 hs
 have := List.mem_range.1 hi
 rw [List.length_take, List.length_drop]; omega
theorem zhA (b : List UInt8) (n : Nat) : za8 b (n + 1) = za8 b n ++ [(b.drop (128 * n)).take 128] := by simp [za8, List.range_succ]
theorem zfH (b : List UInt8) : ∀ n, (za8 b n).flatten = b.take (128 * n)
 | 0 => rfl
 | n + 1 => by
  rw [zhA, List.flatten_append, zfH b n, List.flatten_singleton, Nat.mul_succ, List.take_add]
section
variable {Y : World → List Nat → Prop} [Thing Y] {g x lo : Nat} {L : List Nat} {D : Dk} {G : Lg} {w : World}
def zcO (D : Dk) (a : Nat) (R : List Sec) : Dk × Bool := if (zaF D a R).2 then (zbe (zaF D a R).1, za3 (zaF D a R).1) else zaF D a R
set_option maxRecDepth 20000 in
set_option maxHeartbeats 1000000 in
theorem write47 (h : zdz g x Y lo L D G w) (R : List Sec) (hR : zbV R) (p n c : Nat) (hp : p ∈ L) (hn : R.length = n) (hrow : za9 w (some ⟨p, 0, none⟩) n 128 (bv R.flatten)) (hfit : 1 + G.at_ + n ≤ D.V.length) (hsh : zbf D 80000) (hn2 : n ≤ 4000) :
   Calls Tryz.prog 71 [.pointer (some ⟨x, 0, none⟩), .slice (some ⟨p, 0, none⟩) n c].toArray w (Ret fun v w' => v = .int .i64 (if (zcO D (1 + G.at_) R).2 then 0 else 10) ∧ zdz g x Y lo L (zcO D (1 + G.at_) R).1 G w' ∧ LoL lo L w w') := by
 obtain ⟨hD, hx, hge, hni⟩ := h
 have hLL := LoL.refl lo L w
 have hxl := hx.lt
 have hpl := hD.lt p (List.mem_cons_of_mem _ hp)
 have hVn := (tOk hD).1.n
 obtain ⟨cc, si, sz, nu, at_, de⟩ := G
 dsimp only [lgV] at *
 refine zaw (fn := Tryz.f71) (rs := [.tmp 4]) (n := 37) Tryz.func71 rfl rfl Tryz.ntmps71 (by kernel_rfl) rfl ?_
 refine zak (zac (zaa rfl (zad) (zaf (zai (zak (zak (zac (zaa rfl (zab) ?_))))))))
 refine zaa rfl (zaA (e := 94) (sz := 128) (by kernel_rfl) rfl rfl) ?_
 refine zaa rfl (zab) (zaf (zai (zaD ?_)))
 refine zbF (α := Nat) 0 (fun i => [(10, .int .i64 (i : Nat)), (9, .int .i64 (n : Int)), (8, .slice (some ⟨p, 0, none⟩) n c), (0, .pointer (some ⟨x, 0, none⟩))])
   (fun i w' => i ≤ n ∧ (zaF D (1 + at_) (R.take i)).2 = true ∧ zdz g x Y lo L (zaF D (1 + at_) (R.take i)).1 ⟨cc, si, sz, nu, at_, de⟩ w' ∧ za9 w' (some ⟨p, 0, none⟩) n 128 (bv R.flatten) ∧ LoL lo L w w') (fun i => n - i)
   ⟨rfl, rfl, rfl, rfl, rfl⟩ ⟨Nat.zero_le _, rfl, ⟨hD, hx, hge, hni⟩, hrow, hLL⟩ ?_
 clear hD hLL hx hrow
 rintro i f wr ⟨hi, hok, ⟨hD, hx, -, -⟩, hrow, hLL⟩
 dsimp only [lgV] at hx
 have hsz := hLL.size
 have hshi := zcZ (R.take i) D (1 + at_) 80000 hsh
 have hlni := zbo (R.take i) D (1 + at_)
 rw [List.length_take] at hshi
 refine zak (zac ?_)
 refine zaa rfl (zbd rfl rfl) ?_
 refine zaf (zai (zak ?_))
 refine zaZ rfl (fun hlt => ?_) (fun hlt => ?_)
 ·
  refine zau (zai (zak (zaD (zak (zac ?_)))))
  have hix : ∃ s, R[i]? = some s := ⟨_, List.getElem?_eq_getElem (by omega)⟩
  obtain ⟨s, hs⟩ := hix
  have htk : R.take (i + 1) = R.take i ++ [s] := by rw [List.take_add_one, hs]; rfl
  have hsn := ze0 (R.take i) D (1 + at_) s hok
  rw [← htk, List.length_take, Nat.min_eq_left (by omega)] at hsn
  have hsl : s.length = 128 := hR s (List.mem_of_getElem? hs)
  refine zaa rfl (zab) ?_
  refine zaa rfl (zaQ (e := 94) (sz := 128) (by kernel_rfl) rfl rfl (i) (by omega) (by omega)) ?_
  refine zaa rfl (zam rfl (zii hrow hR hs)) ?_
  refine zaX rfl (zaO (List.replicate 128 (Value.int .u8 0)) (by kernel_rfl) (fun g6 w6 hg6 hr6 hb6 => ?_))
  have lt_x_g6 : x < g6 := Nat.lt_of_lt_of_le hx.lt hg6
  replace hD := hD.newc hb6 hg6 hr6.lt
  replace hx := hx.new hb6
  replace hrow := hrow.new hb6
  replace hLL := hLL.new hb6
  refine zaa rfl (zad) ?_
  refine za4 rfl (zav 128 (_) rfl rfl hr6 (by kernel_rfl) (by first | assumption | (simp; done) | (simp [zae, *]; done)) (by first | assumption | (simp; done) | (simp [zae, *]; done) | rfl) (by first | exact zaL _ | assumption | (simp [Value.oneCell']; done)) (fun w901 hr6 ho901 => ?_))
  replace hD := hD.only ho901 (by first | (right; simp; done) | (left; omega))
  replace hx := hx.only ho901 (Nat.ne_of_lt lt_x_g6)
  replace hrow := hrow.only ho901 (by omega)
  replace hLL := hLL.oq ho901
  refine zaf (zai (zak ?_))
  refine zeZ (lo) ((g6 :: x :: L)) (by kernel_rfl) ?_
  intro w902 hb902 hn902 hS902
  replace hD := hD.new hb902
  replace hx := hx.new hb902
  replace hrow := hrow.new hb902
  replace hLL := hLL.new hb902
  replace hr6 := hr6.new hb902
  have hD_d902 := hD
  have hx_d902 := hx
  have hrow_d902 := hrow
  have hLL_d902 := hLL
  have hr6_d902 := hr6
  refine zah 0 (by kernel_rfl) rfl (fun _ _ => zab) ?_
  refine zah 1 (by kernel_rfl) rfl (fun _ _ => zal rfl) ?_
  refine zah 2 (by kernel_rfl) rfl (fun _ _ => zaj (off := 2) (by kernel_rfl) rfl) ?_
  refine zah 3 (by kernel_rfl) rfl (fun w' hS' => zam rfl (Ld.zbb (hx_d902.kL hS') (by kernel_rfl) rfl)) ?_
  refine zah 4 (by kernel_rfl) rfl (fun _ _ => zab) ?_
  refine zah 5 (by kernel_rfl) rfl (fun _ _ => zal rfl) ?_
  refine zah 6 (by kernel_rfl) rfl (fun _ _ => zaj (off := 5) (by kernel_rfl) rfl) ?_
  refine zah 7 (by kernel_rfl) rfl (fun w' hS' => zam rfl (Ld.zbb (hx_d902.kL hS') (by kernel_rfl) rfl)) ?_
  refine zah 8 (by kernel_rfl) rfl (fun _ _ => zaV rfl rfl (Coup.w64 (by omega))) ?_
  refine zah 9 (by kernel_rfl) rfl (fun _ _ => zab) ?_
  refine zah 10 (by kernel_rfl) rfl (fun _ _ => zaV rfl rfl (Coup.w64 (by omega))) ?_
  refine zah 11 (by kernel_rfl) rfl (fun w' hS' => zam rfl (Ld.zb5 (k := 128) (hr6_d902.kL hS') (by kernel_rfl) (by kernel_rfl) (by first | (simp; done) | (simp [zae, *]; done) | assumption))) ?_
  refine zaS 12 (by kernel_rfl) ?_
  have hw := zlz hD ((1 + (at_ : Int)) + (i : Int)) s hsl (zbE hshi (by omega))
  refine zcq rfl rfl (zao (by kernel_rfl) rfl) (hw) ?_
  rintro _ w27 ⟨rfl, hD, hb27⟩
  have hS903 := hS902.zjK hn902 hb27
  refine ⟨hS903, ?_⟩
  replace hx := hx.kl hb27
  replace hrow := hrow.kpd hb27.kp (by first | (refine zaH ?_; left; omega) | (refine zaH ?_; right; simp; done) | (intro b o e; cases e; first | (refine zaH ?_; left; omega) | (refine zaH ?_; right; simp; done) | (refine zaH ?_; right; simp [*]; done)) | (intro b hb; refine zaH ?_; left; omega) | (intro b hb e; cases e; exact zaH (by right; simp [*]) hb))
  replace hLL := hLL.lq hb27
  replace hr6 := hr6.kl hb27
  refine zah 13 (by kernel_rfl) rfl (fun _ _ => zad) ?_
  refine zaR (by kernel_rfl) ?_
  refine zai (zak (zac ?_))
  have hin : inD (zaF D (1 + at_) (R.take i)).1 ((1 + (at_ : Int)) + (i : Int)) = true := decide_eq_true (by omega)
  have hcast : (1 + (at_ : Int)) + (i : Int) = ((1 + at_ + i : Nat) : Int) := by omega
  rw [zhq, hin, if_pos rfl]
  rw [hcast] at hD
  refine zaa rfl (zab) ?_
  refine zaa rfl (zaW rfl rfl) ?_
  refine zaf (zai ?_)
  refine zaZ rfl (fun hne => ?_) (fun hne => ?_)
  ·
   refine zak (zac (zaa rfl (zab) (zaa rfl (zad) (zaf (zai (zax (za6 (zaT (zc6 (za6 (zaT ?_)))))))))))
   refine zar [_] ⟨rfl, trivial⟩ ?_
   have hf : za3 (zaF D (1 + at_) (R.take i)).1 = false := by cases hq : za3 (zaF D (1 + at_) (R.take i)).1 with | false => rfl | true => simp [hq] at hne
   rw [hf] at hsn
   have hbd := zfG (R.take (i + 1)) (R.drop (i + 1)) D (1 + at_) (by rw [hsn])
   rw [List.take_append_drop, hsn] at hbd
   rw [zcO, hbd]
   exact ⟨by rw [hf]; rfl, ⟨hD.weak (fun b hb => List.mem_cons_of_mem _ hb), hx, hge, hni⟩, hLL⟩
  ·
   have hf : za3 (zaF D (1 + at_) (R.take i)).1 = true := by cases hq : za3 (zaF D (1 + at_) (R.take i)).1 with | true => rfl | false => simp [hq] at hne
   refine zau (za2 (zai (zac ?_)))
   refine zaa rfl (zaV rfl rfl (Coup.w64 (by omega))) ?_
   refine zaa rfl (zab) (zaf ?_)
   refine zbq ⟨i + 1, by omega, ⟨by go_num, rfl, rfl, rfl, rfl⟩, by omega, by rw [hsn]; exact hf, ?_, hrow, hLL⟩
   rw [hsn]
   exact ⟨hD.weak (fun b hb => List.mem_cons_of_mem _ hb), hx, hge, hni⟩
 ·
  have hin : i = n := by omega
  subst hin
  rw [List.take_of_length_le (by omega)] at hok hD hshi hlni
  refine zbp (zbW (zb9 (zbw (zai (zak (zac (zaa rfl (zab) (zaa rfl (zal rfl) (zaa rfl (zaj (off := 2) (by kernel_rfl) rfl) ?_)))))))))
  refine zaa rfl (zam rfl (Ld.zbb hx (by kernel_rfl) rfl)) ?_
  refine zat rfl (zao (by kernel_rfl) rfl) (zlA hD) ?_
  rintro _ w36 ⟨rfl, hD, hb36⟩
  replace hx := hx.kl hb36
  replace hrow := hrow.kpd hb36.kp (by first | (refine zaH ?_; left; omega) | (refine zaH ?_; right; simp; done) | (intro b o e; cases e; first | (refine zaH ?_; left; omega) | (refine zaH ?_; right; simp; done) | (refine zaH ?_; right; simp [*]; done)) | (intro b hb; refine zaH ?_; left; omega) | (intro b hb e; cases e; exact zaH (by right; simp [*]) hb))
  replace hLL := hLL.lq hb36
  refine zaa rfl (zad) (zaf (zai (zax ?_)))
  refine zar [_] ⟨rfl, trivial⟩ ?_
  rw [zcO, hok, if_pos rfl]
  exact ⟨rfl, ⟨hD, hx, hge, hni⟩, hLL⟩
def zfq (G : Lg) : Lg := { G with count := G.count + 1, since := G.count + 1, num := 0, at_ := 0 }
set_option maxRecDepth 20000 in
theorem trunc18 (h : zdz g x Y lo L D G w) (hc : G.count ≤ 4611686018427387904) (hsh : zbf D 90000) :
    Calls Tryz.prog 67 [.pointer (some ⟨x, 0, none⟩)].toArray w (Ret fun v w' => ∃ e : Int, v = .int .i64 e ∧ LoL lo L w w' ∧
      ((G.dead = true ∧ e = 10 ∧ zdz g x Y lo L D G w') ∨ (G.dead = false ∧ G.count = 4611686018427387904 ∧ e = 8 ∧ zdz g x Y lo L D G w') ∨
        (G.dead = false ∧ G.count < 4611686018427387904 ∧ zcY D (G.count + 1) (G.count + 1) = false ∧ e = 10 ∧ zdz g x Y lo L (zbt D (G.count + 1) (G.count + 1)) { G with dead := true } w') ∨
        (G.dead = false ∧ G.count < 4611686018427387904 ∧ zcY D (G.count + 1) (G.count + 1) = true ∧ e = 0 ∧ zdz g x Y lo L (zbt D (G.count + 1) (G.count + 1)) (zfq G) w'))) := by
  have hLL := LoL.refl lo L w
  have hrd := zi6 h
  have hG := h
  have hxl := h.lt
  obtain ⟨dd, hdd⟩ : ∃ dd, G.dead = dd := ⟨_, rfl⟩
  rw [hdd] at hrd ⊢
  refine zaw (fn := Tryz.f67) (rs := [.tmp 2]) (n := 33) Tryz.func67 rfl rfl Tryz.ntmps67 (by kernel_rfl) rfl ?_
  refine zak (zac (zaa rfl (zad) (zaf (zai (zak (zak (zac (zaa rfl (zab) ?_))))))))
  refine zat rfl (zao (by kernel_rfl) rfl) (hrd) ?_
  rintro _ _ ⟨rfl, rfl⟩
  refine zaa rfl (zad) (zaf (zai (zak (zac (zaa rfl (zab) ?_)))))
  refine zaa rfl (zaW rfl rfl) ?_
  refine zaf (zai ?_)
  refine zaZ rfl (fun hne => ?_) (fun hne => ?_)
  ·
   refine zak (zac (zaa rfl (zab) (zaa rfl (zad) (zaf (zai (zax (zaT ?_)))))))
   refine zar [_] ⟨rfl, trivial⟩ ?_
   have hf : dd = true := by cases dd with | true => rfl | false => simp at hne
   subst hf
   exact ⟨_, rfl, hLL, .inl ⟨rfl, rfl, hG⟩⟩
  ·
   have hf : dd = false := by cases dd with | false => rfl | true => simp at hne
   subst hf
   refine zau (zai (zak (zak (zac (zaa rfl (zab) (zaa rfl (zal rfl) (zaa rfl (zaj (off := 0) (by kernel_rfl) rfl) (zaa rfl (zaj (off := 0) (by kernel_rfl) rfl) ?_))))))))
   refine zaa rfl (zam rfl ((Ld.zbb hG.rowx (by kernel_rfl) rfl))) ?_
   refine zaa rfl (zbr rfl rfl) ?_
   refine zaf (zai ?_)
   refine zaZ rfl (fun he => ?_) (fun he => ?_)
   ·
    refine zak (zac (zaa rfl (zad) (zaf (zai (zax (zaT ?_))))))
    refine zar [_] ⟨rfl, trivial⟩ ?_
    exact ⟨_, rfl, hLL, .inr (.inl ⟨rfl, by omega, rfl, hG⟩)⟩
   ·
    have hcl : G.count < 4611686018427387904 := by omega
    have hobt : ∃ ok, zcY D (G.count + 1) (G.count + 1) = ok := ⟨_, rfl⟩
    obtain ⟨ok, hok⟩ := hobt
    have hnx := next48 hG (G.count + 1) (by omega) (by omega) hsh
    rw [hok] at hnx ⊢
    refine zau (zai (zak (zak (zac (zaa rfl (zab) (zaa rfl (zab) (zaa rfl (zal rfl) (zaa rfl (zaj (off := 0) (by kernel_rfl) rfl) (zaa rfl (zaj (off := 0) (by kernel_rfl) rfl) ?_)))))))))
    refine zaa rfl (zam rfl ((Ld.zbb hG.rowx (by kernel_rfl) rfl))) ?_
    refine zaa rfl (zaV rfl rfl (wu64 (by omega))) ?_
    refine zat rfl (zao (by kernel_rfl) rfl) (hnx) ?_
    rintro _ w23 ⟨rfl, hG, hb23⟩
    replace hLL := hLL.lq hb23
    refine zaa rfl (zad) (zaf (zai (zak (zac (zaa rfl (zab) ?_)))))
    refine zaa rfl (zaW rfl rfl) ?_
    refine zaf (zai ?_)
    refine zaZ rfl (fun hn2 => ?_) (fun hn2 => ?_)
    ·
     refine zak (zac (zaa rfl (zab) (zaa rfl (zad) (zaf (zai (zax (zaT ?_)))))))
     refine zar [_] ⟨rfl, trivial⟩ ?_
     have hf : ok = false := by cases ok with | false => rfl | true => simp at hn2
     subst hf
     exact ⟨_, rfl, hLL, .inr (.inr (.inl ⟨rfl, hcl, rfl, rfl, hG⟩))⟩
    ·
     have hf : ok = true := by cases ok with | true => rfl | false => simp at hn2
     subst hf
     obtain ⟨hD, hx, hge, hni⟩ := hG
     obtain ⟨c, si, sz, nu, at_, de⟩ := G
     dsimp only [lgV, nextG] at hx hdd
     subst hdd
     rw [if_pos rfl] at hx
     dsimp only at hx
     refine zau (zai (zak (zac (zaa rfl (zab) (zaa rfl (zab) (zaa rfl (zal rfl) (zaa rfl (zaj (off := 4) (by kernel_rfl) rfl) ?_)))))))
     refine za4 rfl (zaP rfl rfl rfl rfl hx (by kernel_rfl) (by first | (simp only [List.length_replicate]; omega) | (simp only [zaM]; omega) | (simp only [zae, List.length_set]; omega) | simp) (fun w901 hx ho901 => ?_))
     replace hLL := hLL.oq ho901
     replace hD := hD.only ho901 (by first | (right; simp; done) | (left; omega))
     refine zaa rfl (zal rfl) (zaa rfl (zaj (off := 5) (by kernel_rfl) rfl) ?_)
     refine za4 rfl (zaP rfl rfl rfl rfl hx (by kernel_rfl) (by first | (simp only [List.length_replicate]; omega) | (simp only [zaM]; omega) | (simp only [zae, List.length_set]; omega) | simp) (fun w902 hx ho902 => ?_))
     replace hLL := hLL.oq ho902
     replace hD := hD.only ho902 (by first | (right; simp; done) | (left; omega))
     refine zaf (zai (zak (zac (zaa rfl (zad) (zaf (zai (zax ?_)))))))
     refine zar [_] ⟨rfl, trivial⟩ ?_
     exact ⟨_, rfl, hLL, .inr (.inr (.inr ⟨rfl, hcl, rfl, rfl, ⟨hD, hx, hge, hni⟩⟩))⟩
end
structure zo1 (D : Dk) (G : Lg) : Prop where
 s1 : 1 ≤ G.since
 sc : G.since ≤ G.count
 cm : G.count ≤ 4611686018427387904
 sz4 : 4 ≤ G.size
 szm : G.size ≤ 4000
 at_ : G.at_ ≤ G.size
 num : G.num ≤ G.at_
 fit : 1 + G.size ≤ D.V.length
def zc3 (G : Lg) (R : Rec) : List Sec := za8 (zgT G.count G.num (zdi R)) (zaY (516 * R.length))
theorem zey (G : Lg) (R : Rec) : (zc3 G R).length = zaY (516 * R.length) := zbB _ _
theorem zf8 (G : Lg) {R : Rec} (h : zbD R) : (zc3 G R).flatten = zgT G.count G.num (zdi R) ∧ zbV (zc3 G R) := by
 have hl := zg0 G.count G.num (zdi R)
 rw [zd0 h] at hl
 refine ⟨?_, zjZ hl⟩
 rw [zc3, zfH, ← hl, List.take_length]
def zbs (D : Dk) (G : Lg) (R : Rec) : Int × Dk × Lg :=
 if G.dead then (10, D, G) else if zgU R = false then (2, D, G) else if G.size < G.at_ + (zc3 G R).length then (8, D, G)
 else if (zcO D (1 + G.at_) (zc3 G R)).2 then (0, (zcO D (1 + G.at_) (zc3 G R)).1, { G with at_ := G.at_ + (zc3 G R).length, num := G.num + 1 }) else (10, (zcO D (1 + G.at_) (zc3 G R)).1, { G with dead := true })
section
variable {Y : World → List Nat → Prop} [Thing Y] {g x lo : Nat} {L : List Nat} {D : Dk} {G : Lg} {w : World}
set_option maxRecDepth 20000 in
omit [Thing Y] in
theorem zk1 (h : zdz g x Y lo L D G w) (hd : G.dead = true) (R : Rec) (p : Option Addr) (n cp : Nat) :
  Calls Tryz.prog 41 [.pointer (some ⟨x, 0, none⟩), .slice p n cp].toArray w (Ret fun v w' => v = .int .i64 (zbs D G R).1 ∧ zdz g x Y lo L (zbs D G R).2.1 (zbs D G R).2.2 w' ∧ LoL lo L w w') := by
 have hLL := LoL.refl lo L w
 have hrd := zi6 h
 have hG := h
 rw [hd] at hrd
 rw [zbs, hd, if_pos rfl]
 refine zaw (fn := Tryz.f41) (rs := [.tmp 4]) (n := 72) Tryz.func41 rfl rfl Tryz.ntmps41 (by kernel_rfl) rfl ?_
 refine zak (zac (zaa rfl (zad) (zaf (zai (zak (zak (zac (zaa rfl (zab) ?_))))))))
 refine zat rfl (zao (by kernel_rfl) rfl) (hrd) ?_
 rintro _ _ ⟨rfl, rfl⟩
 refine zaa rfl (zad) (zaf (zai (zak (zac (zaa rfl (zab) ?_)))))
 refine zaa rfl (zaW rfl rfl) ?_
 refine zaf (zai ?_)
 refine zkt rfl ((by simp)) ?_
 refine zak (zac (zaa rfl (zab) (zaa rfl (zad) (zaf (zai (zax (zaT ?_)))))))
 refine zar [_] ⟨rfl, trivial⟩ ?_
 exact ⟨rfl, hG, hLL⟩
set_option maxRecDepth 20000 in
theorem znG (h : zdz g x Y lo L D G w) (hd : G.dead = false) (R : Rec) (hR : zbD R) (hm : zgU R = false) (p : Option Addr) (n cp : Nat) (hs : za9 w p n 513 (zbT R)) (hn : R.length = n) (hn2 : n ≤ 1000000) :
  Calls Tryz.prog 41 [.pointer (some ⟨x, 0, none⟩), .slice p n cp].toArray w (Ret fun v w' => v = .int .i64 (zbs D G R).1 ∧ zdz g x Y lo L (zbs D G R).2.1 (zbs D G R).2.2 w' ∧ LoL lo L w w') := by
 have hLL := LoL.refl lo L w
 have hrd := zi6 h
 have hG := h
 have hby := (bytes9 R hR p n cp w hs hn hn2).to fun v w' (h : ((zgU R = true ∧ ∃ g o c, v = .tuple #[.slice (some ⟨g, o, none⟩) (516 * n) c, .int .i64 0] ∧ w.heap.size ≤ g ∧ 516 * n ≤ c ∧ za9 w' (some ⟨g, o, none⟩) (516 * n) 1 (bv (zdi R))) ∨ (zgU R = false ∧ v = .tuple #[.slice none 0 0, .int .i64 2])) ∧ Below w.heap.size w w') => (show v = .tuple #[.slice none 0 0, .int .i64 2] ∧ Below w.heap.size w w' from ⟨h.1.elim (fun h => by rw [hm] at h; cases h.1) fun h => h.2, h.2⟩)
 rw [hd] at hrd
 rw [zbs, hd, if_neg (by simp), if_pos hm]
 refine zaw (fn := Tryz.f41) (rs := [.tmp 4]) (n := 72) Tryz.func41 rfl rfl Tryz.ntmps41 (by kernel_rfl) rfl ?_
 refine zak (zac (zaa rfl (zad) (zaf (zai (zak (zak (zac (zaa rfl (zab) ?_))))))))
 refine zat rfl (zao (by kernel_rfl) rfl) (hrd) ?_
 rintro _ _ ⟨rfl, rfl⟩
 refine zaa rfl (zad) (zaf (zai (zak (zac (zaa rfl (zab) ?_)))))
 refine zaa rfl (zaW rfl rfl) ?_
 refine zaf (zai ?_)
 refine zdT rfl ((by simp)) ?_
 refine zau (zai (zak (zac (zaa rfl (zab) ?_))))
 refine zat rfl (zao (by kernel_rfl) rfl) (hby) ?_
 rintro _ w18 ⟨rfl, hb18⟩
 replace hG := hG.new hb18
 replace hLL := hLL.new hb18
 refine zaa rfl (zab) (zaa rfl (zan rfl rfl) (zaa rfl (zan rfl rfl) (zaa rfl (zad) (zaa rfl (zad) (zaf (zai (zak (zaD (zak (zac (zaa rfl (zab) ?_)))))))))))
 refine zaa rfl (zaW rfl rfl) ?_
 refine zaa rfl (zad) (zaf (zai ?_))
 refine zkt rfl ((by simp)) ?_
 refine zak (zac (zaa rfl (zab) (zaa rfl (zad) (zaf (zai (zax (za6 (zaT ?_))))))))
 refine zar [_] ⟨rfl, trivial⟩ ?_
 exact ⟨rfl, hG, hLL⟩
set_option maxRecDepth 20000 in
set_option maxHeartbeats 1000000 in
theorem zmw (h : zdz g x Y lo L D G w) (hok : zo1 D G) (hsh : zbf D 80000) (hd : G.dead = false) (R : Rec) (hR : zbD R) (hm : zgU R = true) (p : Option Addr) (n cp : Nat) (hs : za9 w p n 513 (zbT R)) (hn : R.length = n) (hn2 : n ≤ 1000000) :
   Calls Tryz.prog 41 [.pointer (some ⟨x, 0, none⟩), .slice p n cp].toArray w (Ret fun v w' => v = .int .i64 (zbs D G R).1 ∧ zdz g x Y lo L (zbs D G R).2.1 (zbs D G R).2.2 w' ∧ LoL lo L w w') := by
 have hLL := LoL.refl lo L w
 have hrd := zi6 h
 have hG := h
 have hby := (bytes9 R hR p n cp w hs hn hn2).to fun v w' (h : ((zgU R = true ∧ ∃ g o c, v = .tuple #[.slice (some ⟨g, o, none⟩) (516 * n) c, .int .i64 0] ∧ w.heap.size ≤ g ∧ 516 * n ≤ c ∧ za9 w' (some ⟨g, o, none⟩) (516 * n) 1 (bv (zdi R))) ∨ (zgU R = false ∧ v = .tuple #[.slice none 0 0, .int .i64 2])) ∧ Below w.heap.size w w') => (show ∃ g o c, v = .tuple #[.slice (some ⟨g, o, none⟩) (516 * n) c, .int .i64 0] ∧ w.heap.size ≤ g ∧ za9 w' (some ⟨g, o, none⟩) (516 * n) 1 (bv (zdi R)) ∧ Below w.heap.size w w' from h.1.elim (fun ⟨_, g, o, c, h1, h2, _, h3⟩ => ⟨g, o, c, h1, h2, h3, h.2⟩) fun h => by rw [hm] at h; cases h.1)
 rw [hd] at hrd
 have hn60 : 1 ≤ n ∧ n ≤ 60 := by
   have := of_decide_eq_true (Bool.and_eq_true_iff.1 hm).1
   rwa [hn] at this
 have hnw := (zdO hn60).1
 have hnd := (zdO hn60).2
 have hlen := zey G R
 obtain ⟨hfl, hso⟩ := zf8 G hR
 have hrl := zg0 G.count G.num (zdi R)
 rw [zd0 hR, hn] at hrl
 rw [hn] at hlen
 have hN : zaY (516 * n) ≤ 1000 := by unfold zaY za1; omega
 have hmt : zeb (G.count : Int) (G.num : Int) = true := by
   have h1 := hok.s1
   have h2 := hok.sc
   have h3 := hok.cm
   have h4 := hok.szm
   have h5 := hok.at_
   have h6 := hok.num
   unfold zeb
   rw [decide_eq_true (by omega), decide_eq_true (by unfold zi0; omega), decide_eq_true (by omega), decide_eq_true (by omega)]; rfl
 have hfit := hok.fit
 have hat := hok.at_
 have hszm := hok.szm
 have hnum := hok.num
 rw [zbs, hd, if_neg (by simp), if_neg (by rw [hm]; simp), hlen]
 generalize zc3 G R = RW at *
 generalize hNe : zaY (516 * n) = N at *
 obtain ⟨pw, hpw⟩ : ∃ pw, zcO D (1 + G.at_) RW = pw := ⟨_, rfl⟩
 rw [hpw]
 obtain ⟨D2, ok⟩ := pw
 refine zaw (fn := Tryz.f41) (rs := [.tmp 4]) (n := 72) Tryz.func41 rfl rfl Tryz.ntmps41 (by kernel_rfl) rfl ?_
 refine zak (zac (zaa rfl (zad) (zaf (zai (zak (zak (zac (zaa rfl (zab) ?_))))))))
 refine zat rfl (zao (by kernel_rfl) rfl) (hrd) ?_
 rintro _ _ ⟨rfl, rfl⟩
 refine zaa rfl (zad) (zaf (zai (zak (zac (zaa rfl (zab) ?_)))))
 refine zaa rfl (zaW rfl rfl) ?_
 refine zaf (zai ?_)
 refine zdT rfl ((by simp)) ?_
 refine zau (zai (zak (zac (zaa rfl (zab) ?_))))
 refine zat rfl (zao (by kernel_rfl) rfl) (hby) ?_
 rintro _ w18 ⟨gb, ob, cb, rfl, hgb, hbs, hb18⟩
 replace hG := hG.new hb18
 replace hLL := hLL.new hb18
 refine zaa rfl (zab) (zaa rfl (zan rfl rfl) (zaa rfl (zan rfl rfl) (zaa rfl (zad) (zaa rfl (zad) (zaf (zai (zak (zaD (zak (zac (zaa rfl (zab) ?_)))))))))))
 refine zaa rfl (zaW rfl rfl) ?_
 refine zaa rfl (zad) (zaf (zai ?_))
 refine zdT rfl ((by simp)) ?_
 refine zak (zac (zaa rfl (zab) ?_))
 refine zaa rfl (zaA (e := 73) (sz := 513) (by kernel_rfl) rfl rfl) ?_
 refine zat rfl (zao (by kernel_rfl) rfl) (zin n w18) ?_
 rintro _ _ ⟨rfl, rfl⟩
 refine zaa rfl (zab) ?_
 refine zat rfl (zao (by kernel_rfl) rfl) (znF hG hat hszm) ?_
 rintro _ w30 ⟨rfl, hb30⟩
 replace hG := hG.new hb30
 replace hLL := hLL.new hb30
 replace hbs := hbs.new hb30
 rw [hnw]
 refine zaa rfl (zbU rfl rfl) ?_
 refine zaa rfl (zad) (zaf (zai ?_))
 refine zaZ rfl (fun hgt => ?_) (fun hgt => ?_)
 ·
  refine zak (zac (zaa rfl (zad) (zaf (zai (zax (za6 (zaT ?_)))))))
  refine zar [_] ⟨rfl, trivial⟩ ?_
  have hlt : G.size < G.at_ + N := by omega
  rw [if_pos hlt]
  exact ⟨rfl, hG, hLL⟩
 ·
  have hlt : ¬ G.size < G.at_ + N := by omega
  rw [if_neg hlt]
  refine zau (za2 (zai (zak ?_)))
  refine zbg [] (by kernel_rfl) ?_
  intro w901 hb901 hS901
  replace hG := hG.new hb901
  replace hLL := hLL.new hb901
  replace hbs := hbs.new hb901
  have hG_d901 := hG
  have hLL_d901 := hLL
  have hbs_d901 := hbs
  refine zah 0 (by kernel_rfl) rfl (fun _ _ => zab) ?_
  refine zah 1 (by kernel_rfl) rfl (fun _ _ => zal rfl) ?_
  refine zah 2 (by kernel_rfl) rfl (fun _ _ => zaj (off := 0) (by kernel_rfl) rfl) ?_
  refine zah 3 (by kernel_rfl) rfl (fun _ _ => zaj (off := 0) (by kernel_rfl) rfl) ?_
  refine zah 4 (by kernel_rfl) rfl (fun w' hS' => zam rfl ((Ld.zbb (hG_d901.kpd hS' (by first | (simp; done) | (simp; omega) | (simp [*]; done) | exact zaH (Or.inl (by omega)) | exact zaH (Or.inr (by simp)) | exact fun g hm => Nat.le_trans (by omega) (zel hm).1 | (intro b o e; cases e; exact zaH (Or.inl (by omega))) | (intro b hm; have := (hu.lt b (Option.mem_toList.1 hm)).1; omega) | (intro b o e; cases e; intro hm; have := (hu.lt _ (Option.mem_toList.1 hm)).1; omega))).rowx (by kernel_rfl) rfl))) ?_
  refine zah 5 (by kernel_rfl) rfl (fun _ _ => zab) ?_
  refine zah 6 (by kernel_rfl) rfl (fun _ _ => zal rfl) ?_
  refine zah 7 (by kernel_rfl) rfl (fun _ _ => zaj (off := 4) (by kernel_rfl) rfl) ?_
  refine zah 8 (by kernel_rfl) rfl (fun w' hS' => zam rfl ((Ld.zbb (hG_d901.kpd hS' (by first | (simp; done) | (simp; omega) | (simp [*]; done) | exact zaH (Or.inl (by omega)) | exact zaH (Or.inr (by simp)) | exact fun g hm => Nat.le_trans (by omega) (zel hm).1 | (intro b o e; cases e; exact zaH (Or.inl (by omega))) | (intro b hm; have := (hu.lt b (Option.mem_toList.1 hm)).1; omega) | (intro b o e; cases e; intro hm; have := (hu.lt _ (Option.mem_toList.1 hm)).1; omega))).rowx (by kernel_rfl) rfl))) ?_
  refine zah 9 (by kernel_rfl) rfl (fun _ _ => ziP (k0 := .u64) (k1 := .i64) (by kernel_rfl) (by kernel_rfl) rfl rfl) ?_
  refine zah 10 (by kernel_rfl) rfl (fun _ _ => zab) ?_
  refine zaS 11 (by kernel_rfl) ?_
  have hsp := znp G.count G.num hmt (zdi R) _ (516 * n) cb w901 hbs (by omega)
  rw [hNe] at hsp
  refine zcq rfl rfl (zao (by kernel_rfl) rfl) (hsp) ?_
  rintro _ w44 ⟨gq, rfl, hgq, hrq, hb44⟩
  replace hG := hG.newc hb44 hgq hrq.lt
  have hS902 := hS901.add0 hb44
  refine ⟨hS902, ?_⟩
  replace hLL := hLL.new hb44
  refine zah 12 (by kernel_rfl) rfl (fun _ _ => zab) ?_
  refine zah 13 (by kernel_rfl) rfl (fun _ _ => zan rfl rfl) ?_
  refine zah 14 (by kernel_rfl) rfl (fun _ _ => zan rfl rfl) ?_
  refine zah 15 (by kernel_rfl) rfl (fun _ _ => zad) ?_
  refine zah 16 (by kernel_rfl) rfl (fun _ _ => zad) ?_
  refine zaR (by kernel_rfl) ?_
  refine zai (zak (zak (zac (zaa rfl (zab) (zaa rfl (zab) ?_)))))
  have hrs := hrq.slA (m := N) (sz := 128) (by rw [zae, hrl]; omega) (by unfold maxLen; omega)
  rw [← hfl] at hrs
  have hwr := write47 hG RW hso gq N N (List.mem_cons_self ..) hlen hrs (by omega) hsh (by omega)
  rw [hpw] at hwr
  clear hrl hNe hnw
  refine zat rfl (zao (by kernel_rfl) rfl) (hwr) ?_
  rintro _ w49 ⟨rfl, hG, hb49⟩
  replace hLL := hLL.lq hb49
  refine zaa rfl (zad) (zaf (zai (zak (zac ?_))))
  obtain ⟨hD, hx, hge, hni⟩ := hG
  obtain ⟨c, si, sz, nu, at_, de⟩ := G
  dsimp only [lgV] at hx hd hnum hat hszm hfit
  subst hd
  replace hD := hD.weak (L2 := x :: L) (fun b hb => (List.mem_cons.1 hb).elim (fun e => e ▸ List.mem_cons_self ..) fun hm => List.mem_cons_of_mem _ (List.mem_cons_of_mem _ hm))
  replace hni : x ∉ L := fun hm => hni (List.mem_cons_of_mem _ hm)
  refine zaa rfl (zab) ?_
  refine zaa rfl (zaW rfl rfl) ?_
  refine zaf (zai ?_)
  refine zaZ rfl (fun hne => ?_) (fun hne => ?_)
  ·
   refine zak (zac (zaa rfl (zab) (zaa rfl (zal rfl) (zaa rfl (zaj (off := 6) (by kernel_rfl) rfl) ?_))))
   refine za4 rfl (zaP rfl rfl rfl rfl hx (by kernel_rfl) (by first | (simp only [List.length_replicate]; omega) | (simp only [zaM]; omega) | (simp only [zae, List.length_set]; omega) | simp) (fun w903 hx ho903 => ?_))
   replace hLL := hLL.oq ho903
   replace hD := hD.only ho903 (by first | (right; simp; done) | (left; omega))
   refine zaf (zai (zak (zac (zaa rfl (zab) (zaa rfl (zad) (zaf (zai (zax (zaT ?_)))))))))
   refine zar [_] ⟨rfl, trivial⟩ ?_
   have hf : ok = false := by cases ok with | false => rfl | true => simp at hne
   subst hf
   exact ⟨rfl, ⟨hD, hx, hge, hni⟩, hLL⟩
  ·
   have hf : ok = true := by cases ok with | true => rfl | false => simp at hne
   subst hf
   refine zau (zai (zak (zac (zaa rfl (zab) (zaa rfl (zal rfl) (zaa rfl (zaj (off := 5) (by kernel_rfl) rfl) ?_))))))
   refine zaa rfl (zam rfl (Ld.zbb hx (by kernel_rfl) rfl)) ?_
   refine zaa rfl (zab) ?_
   refine zaa rfl (zaA (e := 94) (sz := 128) (by kernel_rfl) rfl rfl) ?_
   refine zaa rfl (zaV rfl rfl (Coup.w64 (by omega))) ?_
   refine zaa rfl (zal rfl) (zaa rfl (zaj (off := 5) (by kernel_rfl) rfl) ?_)
   refine za4 rfl (zaP rfl rfl rfl rfl hx (by kernel_rfl) (by first | (simp only [List.length_replicate]; omega) | (simp only [zaM]; omega) | (simp only [zae, List.length_set]; omega) | simp) (fun w904 hx ho904 => ?_))
   replace hLL := hLL.oq ho904
   replace hD := hD.only ho904 (by first | (right; simp; done) | (left; omega))
   refine zaf (zai (zak (zac ?_)))
   have hx2 : row w904 x [.int .u64 (c : Int), .int .u64 (si : Int), .pointer (some ⟨g, 0, none⟩), .int .i64 (sz : Int), .int .i64 (nu : Int), .int .i64 ((at_ : Int) + (N : Int)), .bool false] 109 := hx
   replace hx := hx2
   clear hx2
   refine zaa rfl (zab) (zaa rfl (zal rfl) (zaa rfl (zaj (off := 4) (by kernel_rfl) rfl) ?_))
   refine zaa rfl (zam rfl (Ld.zbb hx (by kernel_rfl) rfl)) ?_
   refine zaa rfl (zaV rfl rfl (Coup.w64 (by omega))) ?_
   refine zaa rfl (zal rfl) (zaa rfl (zaj (off := 4) (by kernel_rfl) rfl) ?_)
   refine za4 rfl (zaP rfl rfl rfl rfl hx (by kernel_rfl) (by first | (simp only [List.length_replicate]; omega) | (simp only [zaM]; omega) | (simp only [zae, List.length_set]; omega) | simp) (fun w905 hx ho905 => ?_))
   replace hLL := hLL.oq ho905
   replace hD := hD.only ho905 (by first | (right; simp; done) | (left; omega))
   refine zaf (zai (zak (zac (zaa rfl (zad) (zaf (zai (zax ?_)))))))
   refine zar [_] ⟨rfl, trivial⟩ ?_
   exact ⟨rfl, ⟨hD, hx, hge, hni⟩, hLL⟩
theorem zo2 (h : zdz g x Y lo L D G w) (hok : zo1 D G) (hsh : zbf D 80000) (R : Rec) (hR : zbD R) (p : Option Addr) (n cp : Nat) (hs : za9 w p n 513 (zbT R)) (hn : R.length = n) (hn2 : n ≤ 1000000) :
  Calls Tryz.prog 41 [.pointer (some ⟨x, 0, none⟩), .slice p n cp].toArray w (Ret fun v w' => v = .int .i64 (zbs D G R).1 ∧ zdz g x Y lo L (zbs D G R).2.1 (zbs D G R).2.2 w' ∧ LoL lo L w w') := by
 cases hd : G.dead with
 | true => exact zk1 h hd R p n cp
 | false =>
  cases hm : zgU R with
  | true => exact zmw h hok hsh hd R hR hm p n cp hs hn hn2
  | false => exact znG h hd R hR hm p n cp hs hn hn2
end
end Go.Proofs.YtielfpkjoidomaaGreat
namespace Coup
open Go Go.RowKit
def SeqU (P : Program) (gf : Nat) (lb : List Value) (m : Nat) (V : Nat → List Value → World → Prop) (ks : List Nat) (w : World) : Prop :=
 ∀ (l : Nat) (J : Nat → World → Prop) (Jx : World → Prop) (W : World), Below w.heap.size w W →
  (∀ k W W', J k W → Below W.heap.size W W' → J k W') → (∀ W W', Jx W → Below W.heap.size W W' → Jx W') →
  (∀ k v W1, k < m → V k v W1 → J k W1 → zlq P l v W1 fun e W' => (e = .returned (.bool true) ∧ J (k + 1) W' ∧ (∀ b, b ∈ ks → W'.heap[b]? = W1.heap[b]?) ∧ W1.heap.size ≤ W'.heap.size) ∨ (e = .returned (.bool false) ∧ Jx W')) →
  J 0 W → Calls P gf (.func (.yield l) #[] #[] :: lb).toArray W (Ret fun _ W' => J m W' ∨ Jx W')
section
variable {md : Option Nat → Prop} {P : Program} {n : Nat} {Q : Post} {ρ : Env} {w w0 : World}
theorem zj0 {g : Operand} {ps : List Nat} {assign body : Code} {gf : Nat} {lb : List Value} {m : Nat} {V : Nat → List Value → World → Prop} {ks : List Nat} (hmd : ∀ rd, md rd → rd = none)
  (hg : ev ρ g = .func (.func gf) #[] lb.toArray) (hcan : zeO P gf = true) (hseq : SeqU P gf lb m V ks w0) (hb0 : Below w0.heap.size w0 w) (hps : ∀ k v W, V k v W → v.length = ps.length) (hpn : ps.all (Nat.blt · n) = true) (hnd : ps.Nodup)
  (hks : ∀ b, b ∈ ks → b < w.heap.size)
  (I : Nat → World → Prop) (Ix : Code → World → Prop) (hI : ∀ k W W', I k W → zdX w.heap.size W W' → I k W') (hIx : ∀ c W W', Ix c W → zdX w.heap.size W W' → Ix c W') (h0 : I 0 w)
  (round : ∀ l k v W1, k < m → V k v W1 → I k W1 → w.heap.size ≤ W1.heap.size → W (fun rd => rd = some l) P n assign
   (fun e ρ' W' => e = .normal ∧ Below W1.heap.size W1 W' ∧ ∀ W2, zdX w.heap.size W' W2 → W (fun rd => rd = some l) P n body (roundQ w.heap.size ks I Ix k W2) ρ' W2) (zmh ρ.f ps v) W1)
  (hdone : ∀ D W, w.heap.size ≤ D → I m W → W.heap[D]? = some (.deferred (some [])) → Q .normal ⟨ρ.f, D :: ρ.ms⟩ W)
  (hstop : ∀ D c W', w.heap.size ≤ D → Ix c W' → W'.heap[D]? = some (.deferred (some [])) → codeOk n c = true ∧ W md P n c Q ⟨ρ.f, D :: ρ.ms⟩ W') :
  W md P n (.rangeFunc g ps.toArray assign body) Q ρ w := by
 intro hc rd a hrd ha
 obtain rfl := hmd rd hrd
 simp only [codeOk, Bool.and_eq_true] at hc
 have hpn' : ∀ p, p ∈ ps → p < n := fun p hp => by have := List.all_eq_true.1 hpn p hp; simpa using this
 refine wpIn_rangeFunc ?_
 intro fn hfn
 obtain ⟨rec, hrec⟩ : ∃ rec : LoopState → Option Code → Loop, rec = fun st pe => { state := st, pending := pe, fn, tmps := a.tmps, params := ps.toArray, assign, body, defers := w.heap.size } := ⟨_, rfl⟩
 obtain ⟨W1, hW1⟩ : ∃ W1, (w.alloc (.deferred (some []))).alloc (.loop (rec .ready none)) = W1 := ⟨_, rfl⟩
 have hs1 : W1.heap.size = w.heap.size + 2 := by rw [← hW1]; simp
 have hL1 : W1.heap[w.heap.size + 1]? = some (.loop (rec .ready none)) := by
  rw [← hW1]; have := World.alloc_heap_new (w.alloc (.deferred (some []))) (.loop (rec .ready none)); rwa [World.size_alloc] at this
 have hK1 : W1.heap[w.heap.size]? = some (.deferred (some [])) := by
  rw [← hW1]; exact (Below.heap_alloc _ _ _ (by simp)).trans (World.alloc_heap_new w _)
 have hbw : Below w.heap.size w W1 := by rw [← hW1]; exact ((Below.refl _ w).alloc (Nat.le_refl _) _).alloc (by simp) _
 have hI1 : I 0 W1 := hI 0 w W1 h0 (zdX.of_below hbw)
 have hb1 : Below w0.heap.size w0 W1 := hb0.acc hbw
 have hro : (fr none).round = none := rfl
 obtain ⟨lw, hlw⟩ : ∃ lw, lw = w.heap.size + 1 := ⟨_, rfl⟩
 have hcall : (callFunc gf (.func (.yield lw) #[] #[] :: lb).toArray).run P W1 = .ok (.enter gf (.func (.yield lw) #[] #[] :: lb).toArray) W1 := by
  unfold zeO at hcan
  cases hfn : P.funcs[gf]? with
  | none => simp [hfn] at hcan
  | some f =>
   rw [hfn] at hcan
   simp only [Bool.and_eq_true, Bool.not_eq_true'] at hcan
   cases hb : f.body with
   | none => simp [hb] at hcan
   | some c =>
    have hn : ¬ f.name = "runtime.NumGoroutine" := by simpa using hcan.1
    simp [callFunc, program, Sem.run, hfn, hn, hb, Result.andThen]
 have hae : a.eval g = .func (.func gf) #[] lb.toArray := by rw [ha.ev]; exact hg
 refine ⟨lw, [mkD w.heap.size], W1, { target := .fn (.func gf) lb.toArray, args := #[.func (.yield lw) #[] #[]] }, W1, gf, (.func (.yield lw) #[] #[] :: lb).toArray, W1, ?_, ?_, fun f' _ => zmU none f', ?_, fun hdp => by (rw [zgV] at hdp; cases hdp), ?_⟩
 ·rw [hro, hlw, ← hW1, hrec]; exact run_enterLoop_outer _ _ _ _ _
 ·simp only [resolve, rangeCall, hae]
  simp [Deferred.ofValue, Act.eval]
 ·have e : #[Value.func (.yield lw) #[] #[]] ++ lb.toArray = (.func (.yield lw) #[] #[] :: lb).toArray := by simp
  simp only [invoke, e]
  exact hcall
 ·refine ziI ((hseq lw (fun k W => I k W ∧ W.heap[w.heap.size + 1]? = some (.loop (rec .ready none)) ∧ W.heap[w.heap.size]? = some (.deferred (some [])))
   (fun W => ∃ c, Ix c W ∧ W.heap[w.heap.size + 1]? = some (.loop (rec .done (some c))) ∧ W.heap[w.heap.size]? = some (.deferred (some []))) W1 hb1 ?_ ?_ ?_ ⟨hI1, hL1, hK1⟩).mono ?_)
  ·rintro k A B ⟨h1, h2, h3⟩ hAB
   exact ⟨hI k A B h1 (zdX.of_below hAB), by rw [hAB.block _ (Array.getElem?_eq_some_iff.1 h2).1]; exact h2, by rw [hAB.block _ (Array.getElem?_eq_some_iff.1 h3).1]; exact h3⟩
  ·rintro A B ⟨c, h1, h2, h3⟩ hAB
   exact ⟨c, hIx c A B h1 (zdX.of_below hAB), by rw [hAB.block _ (Array.getElem?_eq_some_iff.1 h2).1]; exact h2, by rw [hAB.block _ (Array.getElem?_eq_some_iff.1 h3).1]; exact h3⟩
  ·rintro k v W hkm hv ⟨hi, hl, hk⟩
   have hlt : w.heap.size + 1 < W.heap.size := (Array.getElem?_eq_some_iff.1 hl).1
   have hvl := hps k v W hv
   have hy := run_yield (P := P) (args := v.toArray) hl (by rw [hrec]; simpa using hvl)
   rw [hrec] at hy
   refine ⟨fn, _, assign, body, by rw [hlw]; exact hy, ?_⟩
   clear hy
   refine roundIn_of_wpIn (F := Fence.wide) (n := 0) trivial ?_
   have hag : Ag n { tmps := (ps.toArray.zip v.toArray).foldl (fun t (p, u) => t.setIfInBounds p u) a.tmps, defers := [] } (zmh ρ.f ps v) := by
    have := zm4 ha ps v a.tmps ha.s ha.t hpn' hnd
    rw [← Array.foldl_toList, Array.toList_zip]
    exact this
   have hA := round lw k v W hkm hv hi (by omega) hc.1 (some lw) _ rfl hag
   have hA' : assign.wpIn (Fence.wide.inRound lw) 0 P _ _ W := fun b k' cs h1 h2 h3 => hA b k' cs h1 h2 (room_wide _)
   refine wpIn_mono hA' ?_
   rintro e a' Wa ⟨ρ', h1, rfl, hbel, hbody⟩
   show ∃ w2, _
   have hl2 : Wa.heap[w.heap.size + 1]? = some (.loop (rec .ready none)) := by rw [hbel.block _ hlt]; exact hl
   have hk2 : Wa.heap[w.heap.size]? = some (.deferred (some [])) := by rw [hbel.block _ (by omega)]; exact hk
   have hlt2 := (Array.getElem?_eq_some_iff.1 hl2).1
   refine ⟨_, by rw [hlw]; exact run_beginRound hl2 (by rw [hrec]), ?_⟩
   obtain ⟨W2, hW2⟩ : ∃ W2, W2 = Wa.putObj (w.heap.size + 1) (.loop { rec .ready none with state := .busy }) := ⟨_, rfl⟩
   have hl3 : W2.heap[w.heap.size + 1]? = some (.loop { rec .ready none with state := .busy }) := by rw [hW2]; exact World.putObj_heap_same hlt2
   have hk3 : W2.heap[w.heap.size]? = some (.deferred (some [])) := by rw [hW2]; exact (World.putObj_heap_other (by omega)).trans hk2
   have hsf : zdX w.heap.size Wa W2 := by rw [hW2]; exact zdX.put _ hl2 (by omega) rfl
   rw [← hW2]
   have hB := hbody W2 hsf hc.2 (some lw) a' rfl h1
   have hB' : body.wpIn (Fence.wide.inRound lw) 0 P _ a' W2 := fun b k' cs h1 h2 h3 => hB b k' cs h1 h2 (room_wide _)
   refine wpIn_mono hB' ?_
   have fin : ∀ (jump : Option Code) (W3 : World), KeepsFrom w.heap.size W2 W3 →
     (Instr.endRound lw jump).run P W3 = .ok (.bool jump.isNone) (W3.putObj (w.heap.size + 1) (.loop (rec (if jump.isNone then .ready else .done) jump))) ∧
     zdX w.heap.size W3 (W3.putObj (w.heap.size + 1) (.loop (rec (if jump.isNone then .ready else .done) jump))) ∧
     (W3.putObj (w.heap.size + 1) (.loop (rec (if jump.isNone then .ready else .done) jump))).heap[w.heap.size + 1]? = some (.loop (rec (if jump.isNone then .ready else .done) jump)) ∧
     (W3.putObj (w.heap.size + 1) (.loop (rec (if jump.isNone then .ready else .done) jump))).heap[w.heap.size]? = some (.deferred (some [])) := fun jump W3 hk3' => by
    have hl4 := hk3'.same _ _ (by omega) hl3 rfl
    have := run_endRound (P := P) jump hl4
    rw [hrec] at this ⊢
    refine ⟨by rw [hlw]; exact this, zdX.put _ hl4 (by omega) rfl, World.putObj_heap_same (Array.getElem?_eq_some_iff.1 hl4).1, (World.putObj_heap_other (by omega)).trans (hk3'.same _ _ (Nat.le_refl _) hk3 rfl)⟩
   rintro e a3 W3 ⟨ρ3, _, hp⟩
   have hkw : ∀ b, b ∈ ks → W2.heap[b]? = W.heap[b]? := fun b hb => by
    have := hks b hb
    rw [hW2, World.putObj_heap_other (by omega), hbel.block b (by omega)]
   have hsz2 : W.heap.size ≤ W2.heap.size := by rw [hW2]; simpa using hbel.size
   cases e with
   | normal =>
    obtain ⟨hp1, hp2, hp3⟩ := hp
    obtain ⟨hr, hs, hl5, hk5⟩ := fin none W3 hp1
    refine ⟨_, _, hr, .inl ⟨rfl, ⟨hI _ _ _ hp3 hs, hl5, hk5⟩, fun b hb => ?_, ?_⟩⟩
    ·have := hks b hb
     rw [World.putObj_heap_other (by omega), hp2 b hb, hkw b hb]
    ·have := hp1.size; simp; omega
   | ret =>
    obtain ⟨hp1, hp2⟩ := hp
    obtain ⟨hr, hs, hl5, hk5⟩ := fin (some .ret) W3 hp1
    exact ⟨_, _, hr, .inr ⟨rfl, .ret, hIx _ _ _ hp2 hs, hl5, hk5⟩⟩
   | exit id =>
    obtain ⟨hp1, hp2⟩ := hp
    obtain ⟨hr, hs, hl5, hk5⟩ := fin (some (.exit id)) W3 hp1
    exact ⟨_, _, hr, .inr ⟨rfl, .exit id, hIx _ _ _ hp2 hs, hl5, hk5⟩⟩
   | goto t => exact hp.elim
   | panic ch => exact hp.elim
   | outgrown => exact hp.elim
  ·rintro e W2 ⟨v, rfl, (⟨hi, hl, hk⟩ | ⟨c, hi, hl, hk⟩)⟩
   ·refine ⟨none, _, by have := run_endLoop (P := P) hl (by rw [hrec]; simp); rw [hrec] at this; rw [hlw]; exact this, ?_⟩
    refine ⟨⟨ρ.f, w.heap.size :: ρ.ms⟩, ⟨by simp [ha.d], ha.s, ha.t⟩, hdone w.heap.size _ (Nat.le_refl _) (hI _ _ _ hi (zdX.put _ hl (by omega) rfl)) ((World.putObj_heap_other (by omega)).trans hk)⟩
   ·refine ⟨some c, _, by have := run_endLoop (P := P) hl (by rw [hrec]; simp); rw [hrec] at this; rw [hlw]; exact this, ?_⟩
    obtain ⟨h1, h2⟩ := hstop w.heap.size c _ (Nat.le_refl _) (hIx _ _ _ hi (zdX.put _ hl (by omega) rfl)) ((World.putObj_heap_other (by omega)).trans hk)
    exact h2 h1 none _ hrd ⟨by simp [ha.d], ha.s, ha.t⟩
end
end Coup
namespace Go.Proofs.YtielfpkjoidomaaGreat
open Go Go.RowKit Coup
structure zi7 where
 c : Nat
 nn : Nat
 b : List UInt8
def zb2 : Nat → List UInt8 → Nat → List zi7
 | 0, _, _ => []
 | f + 1, l, n => if zbA l n then ⟨za0 (zaq l 0), zcR (zaq l 0), zbn l⟩ :: zb2 f (l.drop (128 * zaY (zbn l).length)) (n - zaY (zbn l).length) else []
theorem zo3 (p : Option Addr) (n cp : Nat) (l : List UInt8) (w : World) (h : za9 w p n 128 (bv l)) (hn : n ≤ 1000000) (hj : zbA l n = false) : Calls Tryz.prog 109 [.slice p n cp].toArray w (Ret fun v w' => v = zoL ∧ Below w.heap.size w w') := by
 have hJ : Calls Tryz.prog 109 [.slice p n cp].toArray w (Ret fun v w' => JR l n w v w') := by
  by_cases h0 : 0 < n
  ·cases hm : zeb (za0 (zaq l 0)) (zcR (zaq l 0)) with
   | true => exact joinT p n cp l w h hn h0 hm
   | false => exact joinF p n cp l w h hn h0 hm
  ·obtain rfl : n = 0 := by omega
   exact join0 p cp l w
 exact hJ.to fun v w' ⟨h1, h2⟩ => by
  rcases h2 with ⟨_, h2⟩ | ⟨h3, _⟩
  ·exact ⟨h2, h1⟩
  ·rw [hj] at h3; cases h3
theorem zdb {l : List UInt8} {n : Nat} (hj : zbA l n = true) : 0 < n ∧ zeb (za0 (zaq l 0)) (zcR (zaq l 0)) = true ∧ (l.length = n * 128 → zaY (zbn l).length ≤ n ∧ 1 ≤ zaY (zbn l).length) := by
 rw [zbA, Bool.and_eq_true, Bool.and_eq_true] at hj
 obtain ⟨⟨h1, h2⟩, h3⟩ := hj
 have h0 := of_decide_eq_true h1
 rw [zgr, Bool.and_eq_true, Bool.and_eq_true, Bool.and_eq_true] at h2
 obtain ⟨⟨⟨h4, h5⟩, h6⟩, h7⟩ := h2
 have h7 := of_decide_eq_true h7
 rw [zec, Bool.and_eq_true, Bool.and_eq_true, Bool.and_eq_true] at h3
 obtain ⟨⟨⟨_, h8⟩, h9⟩, _⟩ := h3
 have h9 := of_decide_eq_true h9
 refine ⟨h0, h4, fun hl => ?_⟩
 have hb : (zbn l).length ≤ zcj l (zbH (zaq l 0)) := by rw [zbn, List.length_take]; omega
 have hk : za1 (zbn l).length ≤ za1 (zcj l (zbH (zaq l 0))) := by unfold za1; omega
 rw [h9] at hk
 have hp : 1 ≤ za1 (zbn l).length := by unfold za1; omega
 unfold zaY
 omega
theorem zo4 (p : Option Addr) (n cp : Nat) (l : List UInt8) (w : World) (h : za9 w p n 128 (bv l)) (hn : n ≤ 1000000) (hj : zbA l n = true) : Calls Tryz.prog 109 [.slice p n cp].toArray w
  (Ret fun v w' => ∃ sp, v = .tuple #[.agg #[.int .u64 (za0 (zaq l 0)), .int .i64 (zcR (zaq l 0))], .slice sp (zbn l).length (zbn l).length, .int .i64 (zaY (zbn l).length : Nat), .int .i64 0] ∧ za9 w' sp (zbn l).length 1 (bv (zbn l)) ∧ Below w.heap.size w w') := by
 obtain ⟨h0, hm, _⟩ := zdb hj
 exact (joinT p n cp l w h hn h0 hm).to fun v w' ⟨h1, h2⟩ => by
  rcases h2 with ⟨h3, _⟩ | ⟨_, sp, h3, h4⟩
  ·rw [hj] at h3; cases h3
  ·exact ⟨sp, h3, h4, h1⟩
theorem zo5 {w : World} {q : Option Addr} {m c sz j : Nat} {cs : List Value} (h : za9 w q m sz cs) (hj : j ≤ m) (hc : m ≤ c) : za9 w (if c = j then q else q.map (·.add (j * sz))) (m - j) sz (cs.drop (j * sz)) := by
 refine ⟨by rw [List.length_drop, h.len, Nat.sub_mul], Nat.le_trans (Nat.sub_le _ _) h.max, fun h0 => ?_⟩
 have hs : 0 < (m - j) * sz := h0
 have hmj : 0 < m - j := Nat.pos_of_mul_pos_right hs
 have hmul : (m - j) * sz + j * sz = m * sz := by rw [← Nat.add_mul]; congr 1; omega
 obtain ⟨b, off, hp, hlt, hcell⟩ := h.at_ (by omega)
 refine ⟨b, off + j * sz, by rw [if_neg (by omega), hp, Option.map_some, Addr.add_lit], hlt, fun i hi => ?_⟩
 rw [List.getElem?_drop, ← hcell (j * sz + i) (by omega)]
 congr 2; omega
def RowV (R : List zi7) (k : Nat) (v : List Value) (W : World) : Prop := ∃ r, R[k]? = some r ∧ ∃ sp, v = [.agg #[.int .u64 (r.c : Int), .int .i64 (r.nn : Int)], .slice sp r.b.length r.b.length] ∧ za9 W sp r.b.length 1 (bv r.b)
set_option maxRecDepth 20000 in
set_option maxHeartbeats 1000000 in
theorem rowsSeq (l : List UInt8) (g1 ga oa n c : Nat) (w : World) (hn : n ≤ 1000000) (h0n : 0 < n) (hcn : n ≤ c) (r1 : row w g1 [.slice (some ⟨ga, oa, none⟩) n c] 81)
  (hs : za9 w (some ⟨ga, oa, none⟩) n 128 (bv l)) : SeqU Tryz.prog 108 [.pointer (some ⟨g1, 0, none⟩)] (zb2 n l n).length (RowV (zb2 n l n)) [g1, ga] w := by
 intro ly J Jx W hbW hJ hJx hy h0
 have r1W := r1.new hbW
 have hsW := hs.new hbW
 have hgaW := hsW.some (by omega)
 obtain ⟨_, _, heq, hgaW⟩ := hgaW
 cases heq
 have hB := Below.refl W.heap.size W
 obtain ⟨R, hR⟩ : ∃ R, zb2 n l n = R := ⟨_, rfl⟩
 rw [hR] at hy ⊢
 refine zaw (fn := Tryz.f108) (rs := []) (n := 28) Tryz.func108 rfl rfl Tryz.ntmps108 (by kernel_rfl) rfl ?_
 refine zak (zac ?_)
 refine zaa rfl (zam rfl (Ld.zbb r1W (by kernel_rfl) rfl)) ?_
 refine zaa rfl (zad) (zaf (zai (zaD ?_)))
 refine zbF (α := Nat × Nat × Nat × Option Addr × List UInt8) (0, n, c, some ⟨ga, oa, none⟩, l) (fun k => [(0, .func (.yield ly) #[] #[]), (1, .pointer (some ⟨g1, 0, none⟩)), (3, .slice k.2.2.2.1 k.2.1 k.2.2.1)])
  (fun k w' => k.1 ≤ R.length ∧ k.2.1 ≤ k.2.2.1 ∧ k.2.1 ≤ n ∧ (∃ f, k.2.1 ≤ f ∧ R.drop k.1 = zb2 f k.2.2.2.2 k.2.1) ∧ za9 W k.2.2.2.1 k.2.1 128 (bv k.2.2.2.2) ∧ (∀ b o, k.2.2.2.1 = some ⟨b, o, none⟩ → 0 < k.2.1 → b = ga) ∧ J k.1 w' ∧ (∀ x, x ∈ [g1, ga] → w'.heap[x]? = W.heap[x]?) ∧ W.heap.size ≤ w'.heap.size) (fun k => k.2.1) ⟨rfl, rfl, rfl, rfl⟩ ⟨Nat.zero_le _, hcn, Nat.le_refl _, ⟨n, Nat.le_refl _, hR.symm⟩, hsW, (fun b o e _ => by cases e; rfl), h0, fun _ _ => rfl, Nat.le_refl _⟩ ?_
 rintro ⟨k, m, cm, q, lr⟩ f wr ⟨hk, hcm, hmn, ⟨fu, hfu, hdr⟩, hsm, hqa, hJk, hkp, hsz⟩
 dsimp only at *
 have hBr := Below.refl wr.heap.size wr
 have hlr : lr.length = m * 128 := by simpa [zae] using hsm.len
 have hsr : za9 wr q m 128 (bv lr) := by
  by_cases h0m : 0 < m
  ·obtain ⟨b, o, rfl, _⟩ := hsm.some (by omega)
   obtain rfl := hqa b o rfl h0m
   exact hsm.blk (hkp b (by simp)) hsz
  ·exact ⟨hsm.len, hsm.max, fun h => absurd h (by rw [show m = 0 by omega, Nat.zero_mul]; exact Nat.lt_irrefl 0)⟩
 cases hj : zbA lr m with
 | false =>
  have hkR : k = R.length := by
   have h1 := congrArg List.length hdr
   cases fu with
   | zero => rw [zb2, List.length_drop, List.length_nil] at h1; omega
   | succ fu => rw [zb2, hj, if_neg (by simp), List.length_drop, List.length_nil] at h1; omega
  refine zaD (zak (zac (zaa rfl (zab) ?_)))
  refine zat rfl (zao (by kernel_rfl) rfl) (zo3 q m cm lr wr (hsr.new hBr) (by omega) hj) ?_
  rintro _ w11 ⟨rfl, hb11⟩
  replace hBr := hBr.acc hb11
  refine zaa rfl (zab) (zaa rfl (zan rfl rfl) (zaa rfl (zan rfl rfl) (zaa rfl (zan rfl rfl) (zaa rfl (zan rfl rfl) ?_))))
  refine zaX rfl (zaO ([Value.int .u64 0, Value.int .i64 0]) (by kernel_rfl) (fun g4 w4 hg4 hr4 hb4 => ?_))
  have ge_hBr_g4 := Nat.le_trans hBr.size hg4
  replace hBr := hBr.acc hb4
  refine za4 rfl (zav 2 (_) rfl rfl hr4 (by kernel_rfl) (by first | assumption | (simp; done) | (simp [zae, *]; done)) (by first | assumption | (simp; done) | (simp [zae, *]; done) | rfl) (by first | exact zaL _ | assumption | (simp [Value.oneCell']; done)) (fun w901 hr4 ho901 => ?_))
  replace hBr := ho901.below hBr ge_hBr_g4
  refine zaa rfl (zad) (zaa rfl (zad) (zaa rfl (zad) (zaf (zai (zak (zak (zac (zaa rfl (zab) ?_))))))))
  refine zaa rfl (zaW rfl rfl) ?_
  refine zaa rfl (zab) ?_
  refine zjz 18 rfl ((by decide)) ?_
  refine zaE rfl rfl (zaE rfl rfl (zaE rfl rfl (zaE rfl rfl (zaE rfl rfl (zaa rfl (zay rfl) (zaf (zai ?_)))))))
  refine W_t rfl ?_
  refine zax (zaT (za6 (zc6 (za6 ?_))))
  refine zar [] trivial ?_
  exact Or.inl (hkR ▸ hJ _ _ _ hJk hBr)
 | true =>
  have hjf := zdb hj
  have hnd := hjf.2.2 hlr
  have hobt : ∃ z, fu = z + 1 := ⟨fu - 1, by omega⟩
  obtain ⟨fu, rfl⟩ := hobt
  rw [zb2, hj, if_pos rfl] at hdr
  have hkl : k < R.length := by
   have h1 := congrArg List.length hdr
   rw [List.length_drop, List.length_cons] at h1; omega
  have hRk : R[k]? = some ⟨za0 (zaq lr 0), zcR (zaq lr 0), zbn lr⟩ := by
   have h1 := congrArg (fun z => z[0]?) hdr
   simpa [List.getElem?_drop] using h1
  have hdr2 : R.drop (k + 1) = zb2 fu (lr.drop (128 * zaY (zbn lr).length)) (m - zaY (zbn lr).length) := by
   have h1 := congrArg (List.drop 1) hdr
   rw [List.drop_drop] at h1
   exact h1
  have hj2 := zo4 q m cm lr
  generalize za0 (zaq lr 0) = C at *
  generalize zcR (zaq lr 0) = NN at *
  generalize zbn lr = JB at *
  generalize zaY JB.length = ND at *
  refine zaD (zak (zac (zaa rfl (zab) ?_)))
  refine zat rfl (zao (by kernel_rfl) rfl) (hj2 wr (hsr.new hBr) (by omega) hj) ?_
  rintro _ w11 ⟨sp, rfl, hsp, hb11⟩
  replace hBr := hBr.acc hb11
  have hBs := Below.refl (w11).heap.size w11
  refine zaa rfl (zab) (zaa rfl (zan rfl rfl) (zaa rfl (zan rfl rfl) (zaa rfl (zan rfl rfl) (zaa rfl (zan rfl rfl) ?_))))
  refine zaX rfl (zaO ([Value.int .u64 0, Value.int .i64 0]) (by kernel_rfl) (fun g4 w4 hg4 hr4 hb4 => ?_))
  have ge_hBr_g4 := Nat.le_trans hBr.size hg4
  have ge_hBs_g4 := Nat.le_trans hBs.size hg4
  replace hBr := hBr.acc hb4
  replace hBs := hBs.acc hb4
  refine za4 rfl (zav 2 (_) rfl rfl hr4 (by kernel_rfl) (by first | assumption | (simp; done) | (simp [zae, *]; done)) (by first | assumption | (simp; done) | (simp [zae, *]; done) | rfl) (by first | exact zaL _ | assumption | (simp [Value.oneCell']; done)) (fun w902 hr4 ho902 => ?_))
  replace hBr := ho902.below hBr ge_hBr_g4
  replace hBs := ho902.below hBs ge_hBs_g4
  refine zaa rfl (zad) (zaa rfl (zad) (zaa rfl (zad) (zaf (zai (zak (zak (zac (zaa rfl (zab) ?_))))))))
  refine zaa rfl (zaW rfl rfl) ?_
  refine zaa rfl (zab) ?_
  refine ziK 18 rfl ((by simp)) ?_
  refine zas rfl (zaa rfl (zab) (zas rfl ?_))
  refine zaa rfl (zam rfl (Ld.zb5 (k := 2) hr4 (by kernel_rfl) (by kernel_rfl) (by first | (simp; done) | (simp [zae, *]; done) | assumption))) ?_
  refine zas rfl (zaa rfl (zab) (zas rfl ?_))
  have hYk := hy k _ w902 hkl ⟨_, hRk, sp, rfl, hsp.below hBs (Nat.le_refl _)⟩ (hJ _ _ _ hJk hBr)
  refine zlr (vl := [.agg #[.int .u64 (C : Int), .int .i64 (NN : Int)], .slice sp JB.length JB.length]) rfl rfl hYk ?_
  have hdz := zo5 hsm hnd.1 hcm
  have hdl : (lr.drop (128 * ND)).length = (m - ND) * 128 := by rw [List.length_drop, hlr]; omega
  replace hdz : za9 W (if cm = ND then q else q.map (·.add (ND * 128))) (m - ND) 128 (bv (lr.drop (128 * ND))) := by rw [Nat.mul_comm 128 ND, zcT]; exact hdz
  rintro e wy (⟨rfl, hJy, hky, hsy⟩ | ⟨rfl, hJxy⟩)
  ·refine ⟨_, rfl, ?_⟩
   refine zas rfl ?_
   refine zaa rfl (zcr rfl) ?_
   refine zaa rfl (zaz rfl) (zaf (zai ?_))
   refine W_f rfl ?_
   refine zau (zai (zac (zaa rfl (zab) (zaa rfl (zab) ?_))))
   refine zaa rfl (zc8 (e := 94) (sz := 128) ND m cm (by kernel_rfl) rfl ⟨_, _, rfl, rfl⟩ rfl rfl (by simp) (by omega) (by omega) (by omega)) ?_
   refine zaa rfl (zad) (zaf (za2 ?_))
   refine zbq ⟨(k + 1, m - ND, cm - ND, if cm = ND then q else q.map (·.add (ND * 128)), lr.drop (128 * ND)), by show m - ND < m; omega, ⟨rfl, rfl, rfl, rfl⟩, by show k + 1 ≤ _; omega, by show m - ND ≤ cm - ND; omega, by show m - ND ≤ n; omega, ⟨fu, by show m - ND ≤ fu; omega, hdr2⟩, hdz, fun b o e h => ?_, hJy, fun x hx => ?_, ?_⟩
   ·have hpos : 0 < m - ND := h
    have e : (if cm = ND then q else q.map (·.add (ND * 128))) = some ⟨b, o, none⟩ := e
    rw [if_neg (by omega)] at e
    have hobt := hsm.some (by omega)
    obtain ⟨b2, o2, e2, _⟩ := hobt
    rw [e2, Option.map_some, Addr.add_lit] at e
    cases e
    exact hqa _ _ e2 (by omega)
   ·have hxx : x < wr.heap.size := by
     simp only [List.mem_cons, List.not_mem_nil, or_false] at hx
     have h1 := r1W.lt
     rcases hx with rfl | rfl <;> omega
    rw [hky x hx, hBr.block x hxx, hkp x hx]
   ·have := hBr.size; omega
  ·refine ⟨_, rfl, ?_⟩
   refine zas rfl ?_
   refine zaa rfl (zcr rfl) ?_
   refine zaa rfl (zaz rfl) (zaf (zai ?_))
   refine W_t rfl ?_
   refine zax (zaT (za6 (zc6 (za6 ?_))))
   refine zar [] trivial ?_
   exact Or.inr hJxy
set_option maxRecDepth 20000 in
theorem rows73 (l : List UInt8) (ga oa : Nat) (n cp : Nat) (w : World) (h : za9 w (some ⟨ga, oa, none⟩) n 128 (bv l)) (hn : n ≤ 1000000) (h0n : 0 < n) (hcn : n ≤ cp) :
  Calls Tryz.prog 100 [.slice (some ⟨ga, oa, none⟩) n cp].toArray w (Ret fun v w' => ∃ g1, v = .func (.func 108) #[] [.pointer (some ⟨g1, 0, none⟩)].toArray ∧ g1 < w'.heap.size ∧ w.heap.size ≤ g1 ∧ Below w.heap.size w w' ∧
   SeqU Tryz.prog 108 [.pointer (some ⟨g1, 0, none⟩)] (zb2 n l n).length (RowV (zb2 n l n)) [g1, ga] w') := by
 have hB := Below.refl w.heap.size w
 refine zaw (fn := Tryz.f100) (rs := [.tmp 2]) (n := 4) Tryz.func100 rfl rfl Tryz.ntmps100 (by kernel_rfl) rfl ?_
 refine zak (zac ?_)
 refine zaX rfl (zca ([_]) rfl (fun g1 w1 hg1 hr1 hb1 => ?_))
 have ge_hB_g1 := Nat.le_trans hB.size hg1
 replace hB := hB.acc hb1
 refine zaa rfl (zad) (zaf (zai (zak (zac (zaa rfl (zcI) (zaa rfl (zad) (zaf (zai (zax ?_)))))))))
 refine zar [_] ⟨rfl, trivial⟩ ?_
 have hg := hB.size
 exact ⟨_, rfl, hr1.lt, by omega, hB, rowsSeq l _ ga oa n cp _ hn h0n hcn hr1 (h.below hB (Nat.le_refl _))⟩
theorem zmx {l : List UInt8} {n : Nat} (hj : zbA l n = true) : (zbn l).length ≤ 32768 := by
 rw [zbA, Bool.and_eq_true, Bool.and_eq_true] at hj
 have h3 := hj.2
 rw [zec, Bool.and_eq_true, Bool.and_eq_true, Bool.and_eq_true] at h3
 have h8 := of_decide_eq_true h3.1.1.2
 rw [zbn, List.length_take]; omega
theorem zhB : ∀ (f : Nat) (l : List UInt8) (n : Nat) (r : zi7), r ∈ zb2 f l n → r.b.length ≤ 32768
 | 0, l, n, r, h => by cases h
 | f + 1, l, n, r, h => by
  rw [zb2] at h
  split at h
  ·rename_i hj
   rcases List.mem_cons.1 h with rfl | h
   ·exact zmx hj
   ·exact zhB f _ _ r h
  ·cases h
theorem zj1 : ∀ (f : Nat) (l : List UInt8) (n : Nat), (zb2 f l n).length ≤ f
 | 0, l, n => Nat.le_refl 0
 | f + 1, l, n => by
  rw [zb2]
  split
  ·rw [List.length_cons]; have := zj1 f (l.drop (128 * zaY (zbn l).length)) (n - zaY (zbn l).length); omega
  ·simp
structure zeI (w : World) (lo : Nat) (o : Option Nat) (vs : List Value) (L : List Rec) : Prop where
 len : vs.length = L.length
 at_ : ∀ (i : Nat) l, L[i]? = some l → ∃ b off c, vs[i]? = some (.slice (some ⟨b, off, none⟩) l.length c) ∧ za9 w (some ⟨b, off, none⟩) l.length 513 (zbT l) ∧ b < w.heap.size ∧ some b ≠ o ∧ l.length ≤ c ∧ lo ≤ b
namespace zeI
variable {w w' : World} {lo : Nat} {o : Option Nat} {vs : List Value} {L : List Rec}
theorem nil (w : World) (lo : Nat) (o : Option Nat) : zeI w lo o [] [] := ⟨rfl, fun i l h => by simp at h⟩
theorem kp {M : List Nat} (h : zeI w lo o vs L) (k : Kp M w w') (hM : ∀ g, g ∈ M → w.heap.size ≤ g ∨ o = some g ∨ g < lo) : zeI w' lo o vs L := ⟨h.len, fun i l hl => by
 obtain ⟨b, off, c, h1, h2, h3, h4, h5⟩ := h.at_ i l hl
 refine ⟨b, off, c, h1, h2.kpd k fun b' o' e hm => ?_, Nat.lt_of_lt_of_le h3 k.size, h4, h5⟩
 cases e
 rcases hM b hm with e | e | e
 ·omega
 ·exact h4 e.symm
 ·omega⟩
theorem new (h : zeI w lo o vs L) (hb : Below w.heap.size w w') : zeI w' lo o vs L := h.kp (M := []) (Kp.of_below hb) (by simp)
theorem only {g : Nat} (h : zeI w lo o vs L) (ho : Only g w w') (hg : g < lo) : zeI w' lo o vs L := h.kp (Kp.zbx ho) fun b hb => by rw [List.mem_singleton.1 hb]; exact .inr (.inr hg)
theorem soft {B : Nat} (h : zeI w lo o vs L) (k : zdX B w w') : zeI w' lo o vs L := ⟨h.len, fun i l hl => by
 obtain ⟨b, off, c, h1, h2, h3, h4⟩ := h.at_ i l hl
 exact ⟨b, off, c, h1, h2.soft k, Nat.lt_of_lt_of_le h3 k.size, h4⟩⟩
theorem grow {v v' : Value} (h : zeI w lo v.ownBlock vs L) (hg : w.grownBy w' v.ownBlock) (hf : ∀ g, v'.ownBlock = some g → v.ownBlock = some g ∨ w.heap.size ≤ g) : zeI w' lo v'.ownBlock vs L := ⟨h.len, fun i l hl => by
 obtain ⟨b, off, c, h1, h2, h3, h4, h5⟩ := h.at_ i l hl
 refine ⟨b, off, c, h1, h2.kpd (Kp.zba hg) fun b' o' e hm => ?_, Nat.lt_of_lt_of_le h3 hg.size, fun e => (hf b e.symm).elim (fun e' => h4 e'.symm) (fun e' => by omega), h5⟩
 cases e
 simp only [Option.mem_toList] at hm
 exact h4 hm.symm⟩
theorem snoc {b off c : Nat} {l : Rec} (h : zeI w lo o vs L) (h2 : za9 w (some ⟨b, off, none⟩) l.length 513 (zbT l)) (h3 : b < w.heap.size) (h4 : some b ≠ o) (h5 : l.length ≤ c) (h6 : lo ≤ b) : zeI w lo o (vs ++ [.slice (some ⟨b, off, none⟩) l.length c]) (L ++ [l]) :=
 ⟨by simp [h.len], fun i l' hl => by
  by_cases hi : i < L.length
  ·rw [List.getElem?_append_left hi] at hl
   obtain ⟨b', off', c', e1, e2, e3, e4, e5⟩ := h.at_ i l' hl
   exact ⟨b', off', c', by rw [List.getElem?_append_left (by rw [h.len]; exact hi)]; exact e1, e2, e3, e4, e5⟩
  ·have hi' : i = L.length := by
    have := (List.getElem?_eq_some_iff.1 hl).1
    simp at this; omega
   subst hi'
   simp at hl
   subst hl
   exact ⟨b, off, c, by rw [← h.len]; simp, h2, h3, h4, h5, h6⟩⟩
end zeI
def zj2 (p : Option Addr) (S : List Rec) : World → List Nat → Prop := fun w C => (∀ b ∈ C, b < w.heap.size) ∧ ∃ vs, za9 w p S.length 1 vs ∧ (0 < S.length → ∀ b o, p = some ⟨b, o, none⟩ → b ∈ C) ∧
 ∀ (i : Nat) r, S[i]? = some r → ∃ b off c, vs[i]? = some (.slice (some ⟨b, off, none⟩) r.length c) ∧ za9 w (some ⟨b, off, none⟩) r.length 513 (zbT r) ∧ b ∈ C
theorem znH {M : List Nat} {w w' : World} {p : Option Addr} {m sz : Nat} {cs : List Value} (h : za9 w p m sz cs) (k : Kp M w w') (hM : 0 < m → ∀ b o, p = some ⟨b, o, none⟩ → b ∉ M) : za9 w' p m sz cs := by
 by_cases h0 : 0 < m
 ·exact h.kpd k (hM h0)
 ·exact ⟨h.len, h.max, fun h1 => absurd h1 (by rw [show m = 0 by omega, Nat.zero_mul]; exact Nat.lt_irrefl 0)⟩
instance (p : Option Addr) (S : List Rec) : Thing (zj2 p S) :=
 ⟨fun {w w' B M} ⟨h1, vs, h2, h3, h4⟩ k hM => ⟨fun b hb => Nat.lt_of_lt_of_le (h1 b hb) k.size, vs, znH h2 k fun h0 b o e => hM b (h3 h0 b o e), h3, fun i r hr => by
  obtain ⟨b, off, c, e1, e2, e3⟩ := h4 i r hr
  exact ⟨b, off, c, e1, e2.kpd k (fun b' o' e => by cases e; exact hM _ e3), e3⟩⟩, fun h b hb => h.1 b hb⟩
def zk2 (Y Z : World → List Nat → Prop) : World → List Nat → Prop := fun w C => ∃ C1 C2, C = C1 ++ C2 ∧ Y w C1 ∧ Z w C2
instance (Y Z : World → List Nat → Prop) [hY : Thing Y] [hZ : Thing Z] : Thing (zk2 Y Z) :=
 ⟨fun {w w' B M} ⟨C1, C2, e, h1, h2⟩ k hM => ⟨C1, C2, e, hY.kpd h1 k fun b hb => hM b (by rw [e]; exact List.mem_append_left _ hb), hZ.kpd h2 k fun b hb => hM b (by rw [e]; exact List.mem_append_right _ hb)⟩,
  fun {w B} ⟨C1, C2, e, h1, h2⟩ b hb => by
   rw [e] at hb
   exact (List.mem_append.1 hb).elim (hY.lt h1 b) (hZ.lt h2 b)⟩
theorem znI {X Y Z : World → List Nat → Prop} [hX : Thing X] [hY : Thing Y] {lo : Nat} {L M C : List Nat} {w w' : World} (h : Two X Y lo L w) (k : Kp M w w') (hM : ∀ b ∈ M, b < lo ∨ b ∈ L) (hz : Z w' C) (hC : ∀ b ∈ C, w.heap.size ≤ b) : Two X (zk2 Y Z) lo L w' := by
 obtain ⟨⟨B, E, h1, h2, h3, h4⟩, h5, h6⟩ := h
 have hXl := fun b hb => hX.lt h1 b hb
 exact ⟨⟨B, E ++ C, hX.kpd h1 k fun b hb hm => (hM b hm).elim (fun hl => absurd (h3 b hb).1 (Nat.not_le.2 hl)) (h3 b hb).2.2,
  ⟨E, C, rfl, hY.kpd h2 k fun b hb hm => (hM b hm).elim (fun hl => absurd (h4 b hb).1 (Nat.not_le.2 hl)) (h4 b hb).2, hz⟩,
  fun b hb => ⟨(h3 b hb).1, fun hm => (List.mem_append.1 hm).elim (h3 b hb).2.1 fun hc => absurd (hXl b hb) (Nat.not_lt.2 (hC b hc)), (h3 b hb).2.2⟩,
  fun b hb => (List.mem_append.1 hb).elim (h4 b) fun hc => ⟨Nat.le_trans h5 (hC b hc), fun hm => absurd (h6 b hm) (Nat.not_lt.2 (hC b hc))⟩⟩, Nat.le_trans h5 k.size, fun b hb => Nat.lt_of_lt_of_le (h6 b hb) k.size⟩
def zd1 (D : Dk) (n : Nat) : List UInt8 := ((List.range n).map fun i => zaB D (1 + i)).flatten
theorem zj3 (D : Dk) (n : Nat) : zd1 D (n + 1) = zd1 D n ++ zaB D (1 + n) := by simp [zd1, List.range_succ]
theorem zdP {D : Dk} (h : zcG D) {i : Nat} (hi : i < D.V.length) : (zaB D i).length = 128 := zfZ (zdI h hi).2.1
def zf9 (s c k : Nat) (r : zi7) : Option Rec := if r.nn = k ∧ s ≤ r.c ∧ r.c ≤ c then ofR r.b else none
def zdQ (s c : Nat) : Nat → List zi7 → List Rec
 | _, [] => []
 | k, r :: R => match zf9 s c k r with
  | some x => x :: zdQ s c (k + 1) R
  | none => []
def atS (S : List Rec) : Nat := (S.map fun r => zaY (516 * r.length)).sum
def zck (D : Dk) (G : Lg) : List Rec := zdQ G.since G.count 0 (zb2 G.size (zd1 D G.size) G.size)
structure RdAt (w0 : World) (B x g g1 g2 cc si n : Nat) (de : Bool) (T : List Rec) (W : World) : Prop where
 rx : row W x [.int .u64 (cc : Int), .int .u64 (si : Int), .pointer (some ⟨g, 0, none⟩), .int .i64 (n : Int), .int .i64 ((T.length : Nat) : Int), .int .i64 ((atS T : Nat) : Int), .bool de] 109
 r1 : row W g1 [.pointer (some ⟨x, 0, none⟩)] 50
 ow : ∃ v vs, row W g2 [v] 78 ∧ zaJ W B 52 1 v T.length vs ∧ zeI W B v.ownBlock vs T
 kb : Kp [x] w0 W
theorem RdAt.soft {w0 W W' : World} {B B' x g g1 g2 cc si n : Nat} {de : Bool} {T : List Rec} (h : RdAt w0 B x g g1 g2 cc si n de T W) (hs : zdX B' W W') (hB : w0.heap.size ≤ B') : RdAt w0 B x g g1 g2 cc si n de T W' :=
 ⟨h.rx.soft hs, h.r1.soft hs, let ⟨v, vs, h1, h2, h3⟩ := h.ow; ⟨v, vs, h1.soft hs, h2.soft hs, h3.soft hs⟩, h.kb.soft hs hB⟩
theorem all_of {w0 W : World} {B e : Nat} {p : Option Addr} {c : Nat} {vs : List Value} {o : Option Nat} {S : List Rec} (hv : zaJ W B e 1 (.slice p S.length c) S.length vs) (hr : zeI W B o vs S) (hB : w0.heap.size ≤ B) :
  zj2 p S W (List.range' w0.heap.size (W.heap.size - w0.heap.size)) := by
 have hC : ∀ b, w0.heap.size ≤ b → b < W.heap.size → b ∈ List.range' w0.heap.size (W.heap.size - w0.heap.size) := fun b h1 h2 => List.mem_range'_1.2 ⟨h1, by omega⟩
 refine ⟨fun b hb => by have := List.mem_range'_1.1 hb; omega, vs, hv.sl, fun h0 b o e => ?_, fun i r hi => ?_⟩
 ·subst e
  have := hv.lt b rfl
  exact hC b (by omega) this.2
 ·obtain ⟨b, off, c, h1, h2, h3, _, _, h6⟩ := hr.at_ i r hi
  exact ⟨b, off, c, h1, h2, hC b (by omega) h3⟩
theorem znJ {w : World} {base e sz m b : Nat} {v : Value} {xs : List Value} (h : zaJ w base e sz v m xs) (hb : v.ownBlock = some b) : ∃ o : Obj, w.heap[b]? = some o ∧ o.isCells = true := by
 rcases h.2 with hn | ⟨g, off, cap, cur, rfl, hb', hgg, rest⟩
 ·simp [hn, Value.ownBlock] at hb
 ·cases hb; exact ⟨_, hgg, rfl⟩
theorem znK {w : World} {base e sz m c : Nat} {p : Option Addr} {xs : List Value} (h : zaJ w base e sz (.slice p m c) m xs) : m ≤ c := by
 rcases h.2 with ⟨hn, _⟩ | ⟨g, off, cap, cur, he, hb', hgg, hmc, _⟩
 ·cases hn; exact Nat.le_refl _
 ·cases he; exact hmc
theorem zdA {s c k : Nat} {r : zi7} {R : List zi7} (h : zf9 s c k r = none) : zdQ s c k (r :: R) = [] := by rw [zdQ, h]
theorem zgu {s c k : Nat} {r : zi7} {R : List zi7} {x : Rec} (h : zf9 s c k r = some x) : zdQ s c k (r :: R) = x :: zdQ s c (k + 1) R := by rw [zdQ, h]
theorem zlJ (T : List Rec) (r : Rec) : atS (T ++ [r]) = atS T + zaY (516 * r.length) := by simp [atS]
theorem ofR_may {b : List UInt8} {r : Rec} (h : ofR b = some r) : 1 ≤ r.length ∧ r.length ≤ 60 := by
 unfold ofR at h
 split at h
 ·rename_i hok
  cases h
  rw [ofOk, Bool.and_eq_true, Bool.and_eq_true] at hok
  have := of_decide_eq_true hok.1.2
  rwa [zhz]
 ·cases h
section
variable {Y : World → List Nat → Prop} [Thing Y] {g x lo : Nat} {L : List Nat} {D : Dk} {G : Lg} {w : World}
set_option maxRecDepth 20000 in
set_option maxHeartbeats 2000000 in
theorem read52 (h : zdz g x Y lo L D G w) (hok : zo1 D G) (h0 : G.num = 0) (h1 : G.at_ = 0) :
   Calls Tryz.prog 76 [.pointer (some ⟨x, 0, none⟩)].toArray w (Ret fun v w' => ∃ p c, v = .tuple #[.slice p (zck D G).length c, .int .i64 0] ∧ (zck D G).length ≤ c ∧
     zdz g x (zk2 Y (zj2 p (zck D G))) lo L D { G with num := (zck D G).length, at_ := atS (zck D G) } w' ∧ LoL lo L w w') := by
 have hB := Below.refl w.heap.size w
 have hx := h.rowx
 have hxl := hx.lt
 have hge := h.ge
 have hni := h.ni
 have hfit := hok.fit
 have hszm := hok.szm
 have hsz4 := hok.sz4
 have hDk := (tOk h.two).1
 have hml : maxLen = 9223372036854775807 := by decide
 have hrec : zck D G = zdQ G.since G.count 0 (zb2 G.size (zd1 D G.size) G.size) := rfl
 have hTw := fun w' (hb : Below w.heap.size w w') i => tRead (h.new hb).two i
 generalize zck D G = S at *
 obtain ⟨cc, si, sz, nu, at_, de⟩ := G
 dsimp only [lgV] at *
 subst h0 h1
 refine zaw (fn := Tryz.f76) (rs := [.cell 2 78, .tmp 3]) (n := 99) Tryz.func76 rfl rfl Tryz.ntmps76 (by kernel_rfl) rfl ?_
 refine zak (zac ?_)
 refine zaX rfl (zca ([_]) rfl (fun g1 w1 hg1 hr1 hb1 => ?_))
 have ge_hB_g1 := Nat.le_trans hB.size hg1
 have lt_x_g1 : x < g1 := Nat.lt_of_lt_of_le hx.lt hg1
 replace hx := hx.new hb1
 replace hB := hB.acc hb1
 refine zaX rfl (zaO ([Value.slice none 0 0]) (by kernel_rfl) (fun g2 w2 hg2 hr2 hb2 => ?_))
 have ge_hB_g2 := Nat.le_trans hB.size hg2
 have lt_x_g2 : x < g2 := Nat.lt_of_lt_of_le hx.lt hg2
 have lt_g1_g2 : g1 < g2 := Nat.lt_of_lt_of_le hr1.lt hg2
 replace hx := hx.new hb2
 replace hr1 := hr1.new hb2
 replace hB := hB.acc hb2
 refine zaa rfl (zad) (zaf (zai (zak (zac (zaa rfl (zad) (zaf (zai (zak (zak (zac ?_))))))))))
 refine zaa rfl (zam rfl (Ld.zbb hr1 (by kernel_rfl) rfl)) ?_
 refine zaa rfl (zal rfl) (zaa rfl (zaj (off := 3) (by kernel_rfl) rfl) ?_)
 refine zaa rfl (zam rfl (Ld.zbb hx (by kernel_rfl) rfl)) ?_
 refine zaa rfl (zab) (zaf (zai (zaD ?_)))
 have hx2 := hx.lt
 have h12 := hr1.lt
 have h22 := hr2.lt
 have hb2 := hB.size
 refine zbF (α := Nat × Value) (0, .slice none 0 0) (fun k => [(16, .int .i64 (k.1 : Nat)), (15, .int .i64 (sz : Int)), (4, k.2), (1, .pointer (some ⟨g1, 0, none⟩)), (2, .pointer (some ⟨g2, 0, none⟩))])
   (fun k w' => k.1 ≤ sz ∧ zaJ w' w2.heap.size 94 128 k.2 k.1 (bv (zd1 D k.1)) ∧ row w' x [.int .u64 (cc : Int), .int .u64 (si : Int), .pointer (some ⟨g, 0, none⟩), .int .i64 (sz : Int), .int .i64 ((0 : Nat) : Int), .int .i64 ((0 : Nat) : Int), .bool de] 109 ∧ row w' g1 [.pointer (some ⟨x, 0, none⟩)] 50 ∧ row w' g2 [.slice none 0 0] 78 ∧ Below w.heap.size w w' ∧ w2.heap.size ≤ w'.heap.size) (fun k => sz - k.1)
   ⟨rfl, rfl, rfl, rfl, rfl, rfl⟩ ⟨Nat.zero_le _, zby _ _ _ _, hx, hr1, hr2, hB, Nat.le_refl _⟩ ?_
 clear hx hr1 hr2 hB
 rintro ⟨i, u⟩ f wr ⟨hi, hu, hx, hr1, hr2, hB, hsw⟩
 dsimp only at *
 have hBr := Below.refl wr.heap.size wr
 refine zak (zac ?_)
 refine zaa rfl (zbd rfl rfl) ?_
 refine zaf (zai (zak ?_))
 refine zaZ rfl (fun hlt => ?_) (fun hlt => ?_)
 ·
  refine zau (zai (zak (zaD (zak (zac (zaa rfl (zab) (zaa rfl (zad) (zaf (zai (zak (zac ?_)))))))))))
  have hcast : ((1 + i : Nat) : Int) = 1 + (i : Int) := by omega
  have hin : inD D ((1 + i : Nat) : Int) = true := decide_eq_true (by omega)
  have hsl := zdP hDk (i := 1 + i) (by omega)
  have hlsn := zj3 D i
  have hex : ∃ s, zaB D (1 + i) = s := ⟨_, rfl⟩
  obtain ⟨s, hs⟩ := hex
  rw [hs] at hsl hlsn
  refine zaa rfl (zam rfl (Ld.zbb hr1 (by kernel_rfl) rfl)) ?_
  refine zaa rfl (zal rfl) (zaa rfl (zaj (off := 2) (by kernel_rfl) rfl) ?_)
  refine zaa rfl (zam rfl (Ld.zbb hx (by kernel_rfl) rfl)) ?_
  refine zaa rfl (zab) ?_
  refine zaa rfl (zaV rfl rfl (Coup.w64 (by omega))) ?_
  have hrd := hTw _ hB ((1 + i : Nat) : Int)
  rw [hin, if_pos rfl, if_pos rfl, Int.toNat_natCast, hs, hcast] at hrd
  refine zat rfl (zao (by kernel_rfl) rfl) (hrd) ?_
  rintro _ w26 ⟨rfl, hb26⟩
  replace hx := hx.new hb26
  replace hr1 := hr1.new hb26
  replace hr2 := hr2.new hb26
  replace hB := hB.acc hb26
  replace hBr := hBr.acc hb26
  refine zaa rfl (zab) (zaa rfl (zan rfl rfl) (zaa rfl (zan rfl rfl) ?_))
  refine zaX rfl (zaO (List.replicate 128 (Value.int .u8 0)) (by kernel_rfl) (fun g6 w6 hg6 hr6 hb6 => ?_))
  have ge_hB_g6 := Nat.le_trans hB.size hg6
  have ge_hBr_g6 := Nat.le_trans hBr.size hg6
  have lt_x_g6 : x < g6 := Nat.lt_of_lt_of_le hx.lt hg6
  have lt_g1_g6 : g1 < g6 := Nat.lt_of_lt_of_le hr1.lt hg6
  have lt_g2_g6 : g2 < g6 := Nat.lt_of_lt_of_le hr2.lt hg6
  replace hx := hx.new hb6
  replace hr1 := hr1.new hb6
  replace hr2 := hr2.new hb6
  replace hB := hB.acc hb6
  replace hBr := hBr.acc hb6
  refine za4 rfl (zav 128 (bv s) rfl rfl hr6 (by kernel_rfl) (by first | assumption | (simp; done) | (simp [zae, *]; done)) (by first | assumption | (simp; done) | (simp [zae, *]; done) | rfl) (by first | exact zaL _ | assumption | (simp [Value.oneCell']; done)) (fun w901 hr6 ho901 => ?_))
  replace hx := hx.only ho901 (Nat.ne_of_lt lt_x_g6)
  replace hr1 := hr1.only ho901 (Nat.ne_of_lt lt_g1_g6)
  replace hr2 := hr2.only ho901 (Nat.ne_of_lt lt_g2_g6)
  replace hB := ho901.below hB ge_hB_g6
  replace hBr := ho901.below hBr ge_hBr_g6
  refine zaa rfl (zad) (zaf (zai (zak (zak (zac (zaa rfl (zab) ?_))))))
  refine zaa rfl (zaW rfl rfl) ?_
  refine zaf (zai ?_)
  refine zdT rfl ((by simp)) ?_
  refine zau (zai (zac (zaa rfl (zab) ?_)))
  refine zaa rfl (zam rfl (Ld.zb5 (k := 128) hr6 (by kernel_rfl) (by kernel_rfl) (by rw [zae, hsl]))) ?_
  refine zaX rfl (zci (e := 94) (.agg (bv s).toArray) (bv s) (List.replicate 128 (Value.int .u8 0)) 128 (by kernel_rfl) (by kernel_rfl) rfl rfl (by first | rfl | (simp; done) | (simp [zae, *]; done)) ⟨by decide, by decide⟩ (fun g34 w34 hg34 hr34 hb34 => ?_))
  have ge_hB_g34 := Nat.le_trans hB.size hg34
  have ge_hBr_g34 := Nat.le_trans hBr.size hg34
  have lt_x_g34 : x < g34 := Nat.lt_of_lt_of_le hx.lt hg34
  have lt_g1_g34 : g1 < g34 := Nat.lt_of_lt_of_le hr1.lt hg34
  have lt_g2_g34 : g2 < g34 := Nat.lt_of_lt_of_le hr2.lt hg34
  have lt_g6_g34 : g6 < g34 := Nat.lt_of_lt_of_le hr6.lt hg34
  replace hx := hx.new hb34
  replace hr1 := hr1.new hb34
  replace hr2 := hr2.new hb34
  replace hr6 := hr6.new hb34
  replace hB := hB.acc hb34
  replace hBr := hBr.acc hb34
  have hs34 := hr34.slA (m := 1) (sz := 128) (by rw [zae, hsl]) (by omega)
  replace hu := hu.new hBr
  have hbz := hBr.size
  have sz_hB_35 := hB.size
  refine zaX rfl (za7 (e := 94) (sz := 128) (bytes := 128) (z := .agg (List.replicate 128 (Value.int .u8 0)).toArray) (by kernel_rfl) rfl (by kernel_rfl) rfl (by decide) rfl hu rfl hs34 (zaL _) (by unfold maxLen; omega) (by omega) (fun hm0 => by omega) (fun v35 w35 hv35 hgr35 hfr35 => ?_))
  replace hx := hx.own hu hgr35 (by omega)
  replace hr1 := hr1.own hu hgr35 (by omega)
  replace hr2 := hr2.own hu hgr35 (by omega)
  replace hB := hB.own hu hgr35 (by omega)
  refine zaa rfl (zad) (zaf (za2 (zai (zac ?_))))
  refine zaa rfl (zaV rfl rfl (Coup.w64 (by omega))) ?_
  refine zaa rfl (zab) (zaf ?_)
  rw [← zbI, ← hlsn] at hv35
  refine zbq ⟨(i + 1, v35), by show _ - (i + 1) < _ - i; omega, ⟨by go_num, rfl, rfl, rfl, rfl, rfl⟩, by show i + 1 ≤ _; omega, hv35, hx, hr1, hr2, hB, by have := hgr35.size; have := hBr.size; omega⟩
 ·
  have him : i = sz := by omega
  subst him
  have hobt := hu.form' (by omega)
  obtain ⟨ga, oa, ca, rfl, hga1, hga2, hca⟩ := hobt
  have hall := hu.sl
  refine zbp (zbW (zb9 (zbw (zai (zak (zak (zac (zaa rfl (zab) ?_))))))))
  refine zat rfl (zao (by kernel_rfl) rfl) (rows73 (zd1 D i) ga oa i ca wr hall (by omega) (by omega) hca) ?_
  rintro _ w38 ⟨gr, rfl, hgr, hgr2, hb38, hseq⟩
  replace hx := hx.new hb38
  replace hr1 := hr1.new hb38
  replace hr2 := hr2.new hb38
  replace hB := hB.acc hb38
  refine zaf (zai (zaD ?_))
  have hRs := zhB i (zd1 D i) i
  have hRl := zj1 i (zd1 D i) i
  have hobt : ∃ R, zb2 i (zd1 D i) i = R := ⟨_, rfl⟩
  obtain ⟨R, hR⟩ := hobt
  rw [hR] at hseq hrec hRs hRl
  have hbs := hB.size
  have hobt : ∃ b, (w38).heap.size = b := ⟨_, rfl⟩
  obtain ⟨BB, hBB⟩ := hobt
  have hg1l := hr1.lt
  have hg2l := hr2.lt
  have hRd : RdAt w BB x g g1 g2 cc si i de [] w38 := ⟨hx, hr1, ⟨_, [], hr2, zby _ _ _ _, zeI.nil _ _ _⟩, Kp.zcb hB⟩
  refine zj0 (ps := [39, 40]) (m := R.length) (V := RowV R) (ks := [gr, ga]) (fun _ h => h) rfl (by kernel_rfl) hseq (Below.refl _ _) (by rintro k v W ⟨r, _, sp, rfl, _⟩; rfl) (by kernel_rfl) (by simp)
    (by intro y hy; simp only [List.mem_cons, List.not_mem_nil, or_false] at hy; rcases hy with rfl | rfl <;> omega)
    (fun k W => k ≤ R.length ∧ ∃ T : List Rec, T.length = k ∧ atS T ≤ 1000 * k ∧ S = T ++ zdQ si cc k (R.drop k) ∧ RdAt w BB x g g1 g2 cc si i de T W)
    (fun c W => c = .exit 2 ∧ RdAt w BB x g g1 g2 cc si i de S W) (fun k W W' ⟨h1, T, h2, ha, h3, h4⟩ hs => ⟨h1, T, h2, ha, h3, h4.soft hs hbs⟩) (fun c W W' ⟨h1, h2⟩ hs => ⟨h1, h2.soft hs hbs⟩) ⟨Nat.zero_le _, [], rfl, Nat.le_refl _, hrec, hRd⟩ ?_ ?_ ?_
  · intro l k v W1 hkR hv hI hsz
    obtain ⟨hk, T, hTk, hat, hST, hT⟩ := hI
    obtain ⟨r, hRk, sp, rfl, hsp⟩ := hv
    have hrs := hRs r (List.mem_of_getElem? hRk)
    have hdr : R.drop k = r :: R.drop (k + 1) := by rw [List.drop_eq_getElem_cons hkR]; congr 1; exact Option.some.inj ((List.getElem?_eq_getElem hkR).symm.trans hRk)
    rw [hdr] at hST
    have hBa := Below.refl W1.heap.size W1
    refine zak (zac ?_)
    refine zaX rfl (zaO ([Value.int .u64 0, Value.int .i64 0]) (by kernel_rfl) (fun g8 w8 hg8 hr8 hb8 => ?_))
    have ge_hBa_g8 := Nat.le_trans hBa.size hg8
    replace hBa := hBa.acc hb8
    refine za4 rfl (zav 2 ([.int .u64 (r.c : Int), .int .i64 (r.nn : Int)]) rfl rfl hr8 (by kernel_rfl) (by first | assumption | (simp; done) | (simp [zae, *]; done)) (by first | assumption | (simp; done) | (simp [zae, *]; done) | rfl) (by first | exact zaL _ | assumption | (simp [Value.oneCell']; done)) (fun w902 hr8 ho902 => ?_))
    replace hBa := ho902.below hBa ge_hBa_g8
    refine zaf (zai (zac (zaa rfl (zad) (zaf ?_))))
    refine ⟨rfl, hBa, fun W2 hs => ?_⟩
    have hr8 := hr8.soft hs
    have hsp := (hsp.new hBa).soft hs
    have hsz2 := hs.size
    have hsz1 := hBa.size
    have hT2 : RdAt w BB x g g1 g2 cc si i de T W2 := RdAt.soft (w0 := w) ⟨hT.rx.new hBa, hT.r1.new hBa, let ⟨v, vs, q1, q2, q3⟩ := hT.ow; ⟨v, vs, q1.new hBa, q2.new hBa, q3.new hBa⟩, hT.kb.trans (Kp.zcb hBa)⟩ hs hbs
    obtain ⟨hx, hr1, ⟨v, vs, hr2, hu, hrl⟩, hkb⟩ := hT2
    obtain ⟨pu, cu, rfl⟩ := hu.form
    have hBi := Below.refl W2.heap.size W2
    have hof := fun w' (h : za9 w' sp r.b.length 1 (bv r.b)) => of13 r.b sp r.b.length r.b.length w' h (Nat.le_refl _) (by omega)
    cases hrb : ofR r.b with
    | none =>
      have hS2 : S = T := by rw [hST, zdA (by rw [zf9, hrb]; split <;> rfl), List.append_nil]
      have hof2 := fun w' (h : za9 w' sp r.b.length 1 (bv r.b)) => (hof w' h).to fun v w2 h => (show v = .tuple #[.slice none 0 0, .int .i64 4] ∧ Below w'.heap.size w' w2 from ⟨h.1.elim (fun ⟨_, _, _, _, h1, _⟩ => by rw [hrb] at h1; cases h1) fun h => h.2, h.2⟩)
      refine zaD (zak (zac (zaa rfl (zab) ?_)))
      refine zat rfl (zao (by kernel_rfl) rfl) (hof2 _ (hsp.new hBi)) ?_
      rintro _ w43 ⟨rfl, hb43⟩
      replace hr8 := hr8.new hb43
      replace hx := hx.new hb43
      replace hr1 := hr1.new hb43
      replace hBi := hBi.acc hb43
      refine zaa rfl (zab) (zaa rfl (zan rfl rfl) (zaa rfl (zan rfl rfl) (zaa rfl (zad) (zaa rfl (zad) (zaf (zai (zak (zak ?_))))))))
      refine zbg [] (by kernel_rfl) ?_
      intro w903 hb903 hS903
      replace hr8 := hr8.new hb903
      replace hx := hx.new hb903
      replace hr1 := hr1.new hb903
      replace hBi := hBi.acc hb903
      have hr8_d903 := hr8
      have hx_d903 := hx
      have hr1_d903 := hr1
      have hBi_d903 := hBi
      refine zah 0 (by kernel_rfl) rfl (fun _ _ => zab) ?_
      refine zah 1 (by kernel_rfl) rfl (fun _ _ => zaW rfl rfl) ?_
      refine zah 2 (by kernel_rfl) rfl (fun _ _ => zab) ?_
      refine WA_tp 48 rfl ((by decide)) ?_
      refine zaN 3 (by kernel_rfl) rfl ?_
      refine zaN 4 (by kernel_rfl) rfl ?_
      refine zaN 5 (by kernel_rfl) rfl ?_
      refine zaN 6 (by kernel_rfl) rfl ?_
      refine zaN 7 (by kernel_rfl) rfl ?_
      refine zaN 8 (by kernel_rfl) rfl ?_
      refine zaN 9 (by kernel_rfl) rfl ?_
      refine zah 10 (by kernel_rfl) rfl (fun _ _ => zay rfl) ?_
      refine zah 11 (by kernel_rfl) rfl (fun _ _ => zab) ?_
      refine zaN 12 (by kernel_rfl) rfl ?_
      refine zaN 13 (by kernel_rfl) rfl ?_
      refine zaN 14 (by kernel_rfl) rfl ?_
      refine zaN 15 (by kernel_rfl) rfl ?_
      refine zaN 16 (by kernel_rfl) rfl ?_
      refine zaN 17 (by kernel_rfl) rfl ?_
      refine zaN 18 (by kernel_rfl) rfl ?_
      refine zaN 19 (by kernel_rfl) rfl ?_
      refine zah 20 (by kernel_rfl) rfl (fun _ _ => zay rfl) ?_
      refine zah 21 (by kernel_rfl) rfl (fun _ _ => zab) ?_
      refine zaN 22 (by kernel_rfl) rfl ?_
      refine zaN 23 (by kernel_rfl) rfl ?_
      refine zaN 24 (by kernel_rfl) rfl ?_
      refine zaN 25 (by kernel_rfl) rfl ?_
      refine zaN 26 (by kernel_rfl) rfl ?_
      refine zaN 27 (by kernel_rfl) rfl ?_
      refine zaN 28 (by kernel_rfl) rfl ?_
      refine zaN 29 (by kernel_rfl) rfl ?_
      refine zah 30 (by kernel_rfl) rfl (fun _ _ => zay rfl) ?_
      refine zaR (by kernel_rfl) ?_
      refine zai ?_
      refine W_t rfl ?_
      refine zbp (zbW (zlk rfl ?_))
      exact ⟨zbR (M := []) (Kp.of_below hBi) (by simp), rfl, hS2 ▸ ⟨hx, hr1, ⟨_, vs, hr2.new hBi, hu.new hBi, hrl.new hBi⟩, hkb.trans (Kp.zcb hBi)⟩⟩
    | some rr =>
      have hof3 := fun w' (h : za9 w' sp r.b.length 1 (bv r.b)) => (hof w' h).to fun v w2 h => (show ∃ g o c, v = .tuple #[.slice (some ⟨g, o, none⟩) rr.length c, .int .i64 0] ∧ w'.heap.size ≤ g ∧ rr.length ≤ c ∧ za9 w2 (some ⟨g, o, none⟩) rr.length 513 (zbT rr) ∧ Below w'.heap.size w' w2 from h.1.elim (fun ⟨r2, g, o, c, h1, h2, h3, h4, h5⟩ => by rw [hrb] at h1; cases h1; exact ⟨g, o, c, h2, h3, h4, h5, h.2⟩) fun h => by rw [hrb] at h; cases h.1)
      have hrr := ofR_may hrb
      have hnw := zdO hrr
      have hN : zaY (516 * rr.length) ≤ 1000 := by unfold zaY za1; omega
      refine zaD (zak (zac (zaa rfl (zab) ?_)))
      refine zat rfl (zao (by kernel_rfl) rfl) (hof3 _ (hsp.new hBi)) ?_
      rintro _ w43 ⟨gq, oq, cq, rfl, hgq, hcq, hsq, hb43⟩
      replace hr8 := hr8.new hb43
      replace hx := hx.new hb43
      replace hr1 := hr1.new hb43
      replace hBi := hBi.acc hb43
      refine zaa rfl (zab) (zaa rfl (zan rfl rfl) (zaa rfl (zan rfl rfl) (zaa rfl (zad) (zaa rfl (zad) (zaf (zai (zak (zak ?_))))))))
      refine zbg [] (by kernel_rfl) ?_
      intro w904 hb904 hS904
      replace hr8 := hr8.new hb904
      replace hx := hx.new hb904
      replace hr1 := hr1.new hb904
      replace hsq := hsq.new hb904
      replace hBi := hBi.acc hb904
      have hr8_d904 := hr8
      have hx_d904 := hx
      have hr1_d904 := hr1
      have hsq_d904 := hsq
      have hBi_d904 := hBi
      refine zah 0 (by kernel_rfl) rfl (fun _ _ => zab) ?_
      refine zah 1 (by kernel_rfl) rfl (fun _ _ => zaW rfl rfl) ?_
      refine zah 2 (by kernel_rfl) rfl (fun _ _ => zab) ?_
      refine WA_fp 48 rfl ((by simp)) ?_
      refine zah 3 (by kernel_rfl) rfl (fun _ _ => zaj (off := 1) (by kernel_rfl) rfl) ?_
      refine zah 4 (by kernel_rfl) rfl (fun w' hS' => zam rfl (Ld.zbb (hr8_d904.kq hS') (by kernel_rfl) rfl)) ?_
      refine zah 5 (by kernel_rfl) rfl (fun w' hS' => zam rfl (Ld.zbb (hr1_d904.kq hS') (by kernel_rfl) rfl)) ?_
      refine zah 6 (by kernel_rfl) rfl (fun _ _ => zal rfl) ?_
      refine zah 7 (by kernel_rfl) rfl (fun _ _ => zaj (off := 4) (by kernel_rfl) rfl) ?_
      refine zah 8 (by kernel_rfl) rfl (fun w' hS' => zam rfl (Ld.zbb (hx_d904.kq hS') (by kernel_rfl) rfl)) ?_
      refine zah 9 (by kernel_rfl) rfl (fun _ _ => zaW rfl rfl) ?_
      refine zah 10 (by kernel_rfl) rfl (fun _ _ => zaz rfl) ?_
      refine zah 11 (by kernel_rfl) rfl (fun _ _ => zab) ?_
      refine zeN 57 rfl (fun hnn => ?_) (fun hnn => ?_)
      ·
       refine zaN 12 (by kernel_rfl) rfl ?_
       refine zaN 13 (by kernel_rfl) rfl ?_
       refine zaN 14 (by kernel_rfl) rfl ?_
       refine zaN 15 (by kernel_rfl) rfl ?_
       refine zaN 16 (by kernel_rfl) rfl ?_
       refine zaN 17 (by kernel_rfl) rfl ?_
       refine zaN 18 (by kernel_rfl) rfl ?_
       refine zaN 19 (by kernel_rfl) rfl ?_
       refine zah 20 (by kernel_rfl) rfl (fun _ _ => zay rfl) ?_
       refine zah 21 (by kernel_rfl) rfl (fun _ _ => zab) ?_
       refine zaN 22 (by kernel_rfl) rfl ?_
       refine zaN 23 (by kernel_rfl) rfl ?_
       refine zaN 24 (by kernel_rfl) rfl ?_
       refine zaN 25 (by kernel_rfl) rfl ?_
       refine zaN 26 (by kernel_rfl) rfl ?_
       refine zaN 27 (by kernel_rfl) rfl ?_
       refine zaN 28 (by kernel_rfl) rfl ?_
       refine zaN 29 (by kernel_rfl) rfl ?_
       refine zah 30 (by kernel_rfl) rfl (fun _ _ => zay rfl) ?_
       refine zaR (by kernel_rfl) ?_
       refine zai ?_
       refine W_t rfl ?_
       refine zbp (zbW (zlk rfl ?_))
       have hS2 : S = T := by rw [hST, zdA (by rw [zf9, if_neg (by omega)]), List.append_nil]
       exact ⟨zbR (M := []) (Kp.of_below hBi) (by simp), rfl, hS2 ▸ ⟨hx, hr1, ⟨_, vs, hr2.new hBi, hu.new hBi, hrl.new hBi⟩, hkb.trans (Kp.zcb hBi)⟩⟩
      ·
       refine zah 12 (by kernel_rfl) rfl (fun _ _ => zaj (off := 0) (by kernel_rfl) rfl) ?_
       refine zah 13 (by kernel_rfl) rfl (fun w' hS' => zam rfl (Ld.zbb (hr8_d904.kq hS') (by kernel_rfl) rfl)) ?_
       refine zah 14 (by kernel_rfl) rfl (fun w' hS' => zam rfl (Ld.zbb (hr1_d904.kq hS') (by kernel_rfl) rfl)) ?_
       refine zah 15 (by kernel_rfl) rfl (fun _ _ => zal rfl) ?_
       refine zah 16 (by kernel_rfl) rfl (fun _ _ => zaj (off := 0) (by kernel_rfl) rfl) ?_
       refine zah 17 (by kernel_rfl) rfl (fun _ _ => zaj (off := 1) (by kernel_rfl) rfl) ?_
       refine zah 18 (by kernel_rfl) rfl (fun w' hS' => zam rfl (Ld.zbb (hx_d904.kq hS') (by kernel_rfl) rfl)) ?_
       refine zah 19 (by kernel_rfl) rfl (fun _ _ => zbd rfl rfl) ?_
       refine zah 20 (by kernel_rfl) rfl (fun _ _ => zaz rfl) ?_
       refine zah 21 (by kernel_rfl) rfl (fun _ _ => zab) ?_
       refine zeN 67 rfl (fun hsi => ?_) (fun hsi => ?_)
       ·
        refine zaN 22 (by kernel_rfl) rfl ?_
        refine zaN 23 (by kernel_rfl) rfl ?_
        refine zaN 24 (by kernel_rfl) rfl ?_
        refine zaN 25 (by kernel_rfl) rfl ?_
        refine zaN 26 (by kernel_rfl) rfl ?_
        refine zaN 27 (by kernel_rfl) rfl ?_
        refine zaN 28 (by kernel_rfl) rfl ?_
        refine zaN 29 (by kernel_rfl) rfl ?_
        refine zah 30 (by kernel_rfl) rfl (fun _ _ => zay rfl) ?_
        refine zaR (by kernel_rfl) ?_
        refine zai ?_
        refine W_t rfl ?_
        refine zbp (zbW (zlk rfl ?_))
        have hS2 : S = T := by rw [hST, zdA (by rw [zf9, if_neg (by omega)]), List.append_nil]
        exact ⟨zbR (M := []) (Kp.of_below hBi) (by simp), rfl, hS2 ▸ ⟨hx, hr1, ⟨_, vs, hr2.new hBi, hu.new hBi, hrl.new hBi⟩, hkb.trans (Kp.zcb hBi)⟩⟩
       ·
        refine zah 22 (by kernel_rfl) rfl (fun _ _ => zaj (off := 0) (by kernel_rfl) rfl) ?_
        refine zah 23 (by kernel_rfl) rfl (fun w' hS' => zam rfl (Ld.zbb (hr8_d904.kq hS') (by kernel_rfl) rfl)) ?_
        refine zah 24 (by kernel_rfl) rfl (fun w' hS' => zam rfl (Ld.zbb (hr1_d904.kq hS') (by kernel_rfl) rfl)) ?_
        refine zah 25 (by kernel_rfl) rfl (fun _ _ => zal rfl) ?_
        refine zah 26 (by kernel_rfl) rfl (fun _ _ => zaj (off := 0) (by kernel_rfl) rfl) ?_
        refine zah 27 (by kernel_rfl) rfl (fun _ _ => zaj (off := 0) (by kernel_rfl) rfl) ?_
        refine zah 28 (by kernel_rfl) rfl (fun w' hS' => zam rfl (Ld.zbb (hx_d904.kq hS') (by kernel_rfl) rfl)) ?_
        refine zah 29 (by kernel_rfl) rfl (fun _ _ => zbU rfl rfl) ?_
        refine zah 30 (by kernel_rfl) rfl (fun _ _ => zaz rfl) ?_
        refine zaR (by kernel_rfl) ?_
        refine zai ?_
        refine zaZ rfl (fun hcc => ?_) (fun hcc => ?_)
        ·
         refine zbp (zbW (zlk rfl ?_))
         have hS2 : S = T := by rw [hST, zdA (by rw [zf9, if_neg (by omega)]), List.append_nil]
         exact ⟨zbR (M := []) (Kp.of_below hBi) (by simp), rfl, hS2 ▸ ⟨hx, hr1, ⟨_, vs, hr2.new hBi, hu.new hBi, hrl.new hBi⟩, hkb.trans (Kp.zcb hBi)⟩⟩
        ·
         have hok2 : zf9 si cc k r = some rr := by rw [zf9, if_pos (by omega), hrb]
         rw [zgu hok2] at hST
         have hu2 := hu
         have hsi2 := hsi
         refine zau (zai (zak (zac ?_)))
         replace hr2 := hr2.new hBi
         replace hu := hu.new hBi
         replace hrl := hrl.new hBi
         have hBe := hBi
         have hKx : KpB (x :: g2 :: (Value.slice pu T.length cu).ownBlock.toList) W2 w904 := ⟨Kp.zcb hBi⟩
         have hwz := hBi.size
         refine zaa rfl (zam rfl (Ld.zbb hr2 (by kernel_rfl) rfl)) ?_
         refine zaa rfl (zab) ?_
         refine zaX rfl (zci (e := 52) (.slice (some ⟨gq, oq, none⟩) rr.length cq) ([.slice (some ⟨gq, oq, none⟩) rr.length cq]) ([Value.slice none 0 0]) 1 (by kernel_rfl) (by kernel_rfl) rfl rfl rfl ⟨by decide, by decide⟩ (fun g79 w79 hg79 hr79 hb79 => ?_))
         have lt_x_g79 : x < g79 := Nat.lt_of_lt_of_le hx.lt hg79
         have lt_g1_g79 : g1 < g79 := Nat.lt_of_lt_of_le hr1.lt hg79
         have lt_g2_g79 : g2 < g79 := Nat.lt_of_lt_of_le hr2.lt hg79
         replace hx := hx.new hb79
         replace hr1 := hr1.new hb79
         replace hsq := hsq.new hb79
         replace hr2 := hr2.new hb79
         replace hu := hu.new hb79
         replace hrl := hrl.new hb79
         replace hKx := hKx.new hb79
         have hs79 := hr79.slA (m := 1) (sz := 1) rfl (by omega)
         have hgq2 := (hsq.some (by omega))
         obtain ⟨_, _, hqe, hgq3⟩ := hgq2
         cases hqe
         have hwz2 := hb79.size
         refine zaX rfl (za7 (e := 52) (sz := 1) (bytes := 24) (z := Value.slice none 0 0) (by kernel_rfl) rfl (by kernel_rfl) rfl (by decide) rfl hu rfl hs79 (by simp [Value.oneCell']) (by unfold maxLen; omega) (by omega) (fun hm0 => by omega) (fun v80 w80 hv80 hgr80 hfr80 => ?_))
         replace hx := hx.own hu hgr80 (by omega)
         replace hr1 := hr1.own hu hgr80 (by omega)
         replace hr2 := hr2.own hu hgr80 (by omega)
         obtain ⟨p80, c80, rfl⟩ := hv80.form
         have hne : ∀ b, (Value.slice pu T.length cu).ownBlock = some b → BB ≤ b ∧ b < W2.heap.size := hu2.lt
         have hsq2 := hsq.kpd (Kp.zba hgr80) (fun b o e hm => by cases e; have := (hne _ (Option.mem_toList.1 hm)).2; omega)
         have hrl2 := (hrl.grow hgr80 hfr80).snoc hsq2 (Nat.lt_of_lt_of_le hgq3 hgr80.size) (fun e => (hfr80 gq e.symm).elim (fun e' => by have := (hne _ e').2; omega) (fun e' => by omega)) hcq (by omega)
         replace hKx := hKx.kpd (Kp.zba hgr80) (fun b hb => .inl (List.mem_cons_of_mem _ (List.mem_cons_of_mem _ hb)))
         refine za4 rfl (zaP rfl rfl rfl rfl hr2 (by kernel_rfl) (by first | (simp only [List.length_replicate]; omega) | (simp only [zaM]; omega) | (simp only [zae, List.length_set]; omega) | simp) (fun w905 hr2 ho905 => ?_))
         replace hx := hx.only ho905 (Nat.ne_of_lt lt_x_g2)
         replace hr1 := hr1.only ho905 (Nat.ne_of_lt lt_g1_g2)
         replace hv80 := hv80.only ho905 (by omega)
         replace hKx := hKx.only ho905 (by first | (simp; done) | (right; omega))
         replace hrl2 := hrl2.only ho905 (by omega)
         refine zaf (zai (zak (zac ?_)))
         refine zaa rfl (zam rfl (Ld.zbb hr1 (by kernel_rfl) rfl)) ?_
         refine zaa rfl (zal rfl) (zaa rfl (zaj (off := 4) (by kernel_rfl) rfl) ?_)
         refine zaa rfl (zam rfl (Ld.zbb hx (by kernel_rfl) rfl)) ?_
         refine zaa rfl (zaV rfl rfl (Coup.w64 (by omega))) ?_
         refine zaa rfl (zal rfl) (zaa rfl (zaj (off := 4) (by kernel_rfl) rfl) ?_)
         refine za4 rfl (zaP rfl rfl rfl rfl hx (by kernel_rfl) (by first | (simp only [List.length_replicate]; omega) | (simp only [zaM]; omega) | (simp only [zae, List.length_set]; omega) | simp) (fun w906 hx ho906 => ?_))
         replace hr1 := hr1.only ho906 (Nat.ne_of_gt lt_x_g1)
         replace hr2 := hr2.only ho906 (Nat.ne_of_gt lt_x_g2)
         replace hv80 := hv80.only ho906 (by omega)
         replace hKx := hKx.only ho906 (by first | (simp; done) | (right; omega))
         replace hrl2 := hrl2.only ho906 (by omega)
         refine zaf (zai ?_)
         have hx2 : row w906 x [.int .u64 (cc : Int), .int .u64 (si : Int), .pointer (some ⟨g, 0, none⟩), .int .i64 (i : Int), .int .i64 (((T.length : Nat) : Int) + 1), .int .i64 ((atS T : Nat) : Int), .bool de] 109 := hx
         replace hx := hx2
         clear hx2
         refine zbg [x] (by kernel_rfl) ?_
         intro w907 hb907 hS907
         replace hx := hx.new hb907
         replace hr1 := hr1.new hb907
         replace hr2 := hr2.new hb907
         replace hv80 := hv80.new hb907
         replace hKx := hKx.new hb907
         replace hrl2 := hrl2.new hb907
         have hx_d907 := hx
         have hr1_d907 := hr1
         have hr2_d907 := hr2
         have hv80_d907 := hv80
         have hKx_d907 := hKx
         have hrl2_d907 := hrl2
         refine zah 0 (by kernel_rfl) rfl (fun w' hS' => zam rfl (Ld.zbb (hr1_d907.kq hS') (by kernel_rfl) rfl)) ?_
         refine zah 1 (by kernel_rfl) rfl (fun _ _ => zal rfl) ?_
         refine zah 2 (by kernel_rfl) rfl (fun _ _ => zaj (off := 5) (by kernel_rfl) rfl) ?_
         refine zah 4 (by kernel_rfl) rfl (fun _ _ => zab) ?_
         refine zah 5 (by kernel_rfl) rfl (fun _ _ => zaA (e := 73) (sz := 513) (by kernel_rfl) rfl rfl) ?_
         refine zdF 6 (by kernel_rfl) rfl (fun _ => zao (by kernel_rfl) rfl) (fun w' hS' => zin rr.length w') ?_
         refine zaS 3 (by kernel_rfl) ?_
         refine zgD rfl rfl (zam rfl (Ld.zbb hx (by kernel_rfl) rfl)) hS907 ?_
         refine zah 7 (by kernel_rfl) rfl (fun _ _ => zaV rfl rfl (Coup.w64 (by rw [hnw.1]; omega))) ?_
         refine zah 8 (by kernel_rfl) rfl (fun _ _ => zal rfl) ?_
         refine zah 9 (by kernel_rfl) rfl (fun _ _ => zaj (off := 5) (by kernel_rfl) rfl) ?_
         refine zaS 10 (by kernel_rfl) ?_
         refine zdG rfl rfl (zaP rfl rfl rfl rfl hx (by kernel_rfl) (by first | (simp only [List.length_replicate]; omega) | (simp only [zaM]; omega) | (simp only [zae, List.length_set]; omega) | simp) (fun w910 hx ho910 => ?_))
         have hS909 := hS907.aq ho910
         refine ⟨hS909, ?_⟩
         replace hr1 := hr1.only ho910 (Nat.ne_of_gt lt_x_g1)
         replace hr2 := hr2.only ho910 (Nat.ne_of_gt lt_x_g2)
         replace hv80 := hv80.only ho910 (by omega)
         replace hKx := hKx.only ho910 (by first | (simp; done) | (right; omega))
         replace hrl2 := hrl2.only ho910 (by omega)
         refine zaR (by kernel_rfl) ?_
         refine za2 ?_
         have e1 : (((T ++ [rr]).length : Nat) : Int) = ((T.length : Nat) : Int) + 1 := by rw [List.length_append]; rfl
         have e2 : ((atS (T ++ [rr]) : Nat) : Int) = ((atS T : Nat) : Int) + zbK rr.length := by rw [zlJ, hnw.1]; rfl
         refine ⟨zbR hKx.k fun b hb => ?_, fun b hb => ?_, by omega, T ++ [rr], by rw [List.length_append, List.length_singleton]; omega, by rw [zlJ]; omega, by rw [List.append_assoc]; exact hST, by rw [e1, e2]; exact hx, hr1, ⟨_, _, hr2, by rw [List.length_append]; exact hv80, hrl2⟩, ?_⟩
         ·rcases List.mem_cons.1 hb with rfl | hb
          ·left; omega
          ·rcases List.mem_cons.1 hb with rfl | hb
           ·left; omega
           ·right; exact znJ hu2 (Option.mem_toList.1 hb)
         ·have hbl : b < BB ∧ b ≠ x ∧ b ≠ g2 := by
           simp only [List.mem_cons, List.not_mem_nil, or_false] at hb
           rcases hb with rfl | rfl <;> omega
          refine hKx.k.block b (by omega) fun hm => ?_
          rcases List.mem_cons.1 hm with e | hm
          ·exact hbl.2.1 e
          ·rcases List.mem_cons.1 hm with e | hm
           ·exact hbl.2.2 e
           ·have := (hne _ (Option.mem_toList.1 hm)).1; omega
         ·refine ((⟨hkb⟩ : KpB [x] w W2).kpd hKx.k fun b hm => ?_).k
          rcases List.mem_cons.1 hm with e | hm
          ·left; simp [e]
          ·rcases List.mem_cons.1 hm with e | hm
           ·right; omega
           ·have := (hne _ (Option.mem_toList.1 hm)).1; right; omega
  · intro Dd W hD hI hdef
    obtain ⟨hk, T, hTk, hat, hST, hT⟩ := hI
    rw [List.drop_length, zdQ, List.append_nil] at hST
    subst hST
    obtain ⟨hx, hr1, ⟨v, vs, hr2, hu, hrl⟩, hkb⟩ := hT
    obtain ⟨pu, cu, rfl⟩ := hu.form
    refine za2 (zai (zak (zac ?_)))
    refine zaa rfl (zam rfl (Ld.zbb hr2 (by kernel_rfl) rfl)) ?_
    refine za4 rfl (zaP rfl rfl rfl rfl hr2 (by kernel_rfl) (by first | (simp only [List.length_replicate]; omega) | (simp only [zaM]; omega) | (simp only [zae, List.length_set]; omega) | simp) (fun w911 hr2 ho911 => ?_))
    have hdef2 : (w911).heap[Dd]? = some (.deferred (some [])) := ((Kp.zbx ho911).block Dd (Array.getElem?_eq_some_iff.1 hdef).1 (by simp; omega)).trans hdef
    replace hdef := hdef2
    clear hdef2
    have hput := zdX.put (B := w.heap.size) (.deferred none) hdef (by omega) rfl
    have hr2n : row w911 g2 [.slice pu S.length cu] 78 := hr2
    have hr2p := hr2n.soft hput
    have hx2 := (hx.only ho911 (by omega)).soft hput
    have hu2 := (hu.only ho911 (by omega)).soft hput
    have hrl2 := (hrl.only ho911 (by omega)).soft hput
    have hk2 := ((⟨hkb⟩ : KpB [x] w W).only ho911 (by right; omega)).k.soft hput (Nat.le_refl _)
    refine zaa rfl (zad) (zaf (zai (zax ?_)))
    refine ziJ [_, _] Dd hdef ⟨⟨_, rfl, Ld.zbb hr2p (by kernel_rfl) rfl⟩, rfl, trivial⟩ ?_
    exact ⟨pu, cu, rfl, znK hu2, ⟨znI h.two hk2 (fun b hb => .inr (by simp at hb; simp [hb])) (all_of hu2 hrl2 (by omega)) (fun b hb => (List.mem_range'_1.1 hb).1), hx2, hge, hni⟩, LoL.zhp hk2 (fun b hb => .inl (by simp at hb; subst hb; exact ⟨hge, hni⟩))⟩
  · intro Dd c W' hD hI hdef
    obtain ⟨rfl, hT⟩ := hI
    obtain ⟨hx, hr1, ⟨v, vs, hr2, hu, hrl⟩, hkb⟩ := hT
    obtain ⟨pu, cu, rfl⟩ := hu.form
    refine ⟨by kernel_rfl, zbp ?_⟩
    refine zbw (zai (zak (zac ?_)))
    refine zaa rfl (zam rfl (Ld.zbb hr2 (by kernel_rfl) rfl)) ?_
    refine za4 rfl (zaP rfl rfl rfl rfl hr2 (by kernel_rfl) (by first | (simp only [List.length_replicate]; omega) | (simp only [zaM]; omega) | (simp only [zae, List.length_set]; omega) | simp) (fun w912 hr2 ho912 => ?_))
    have hdef2 : (w912).heap[Dd]? = some (.deferred (some [])) := ((Kp.zbx ho912).block Dd (Array.getElem?_eq_some_iff.1 hdef).1 (by simp; omega)).trans hdef
    replace hdef := hdef2
    clear hdef2
    have hput := zdX.put (B := w.heap.size) (.deferred none) hdef (by omega) rfl
    have hr2n : row w912 g2 [.slice pu S.length cu] 78 := hr2
    have hr2p := hr2n.soft hput
    have hx2 := (hx.only ho912 (by omega)).soft hput
    have hu2 := (hu.only ho912 (by omega)).soft hput
    have hrl2 := (hrl.only ho912 (by omega)).soft hput
    have hk2 := ((⟨hkb⟩ : KpB [x] w W').only ho912 (by right; omega)).k.soft hput (Nat.le_refl _)
    refine zaa rfl (zad) (zaf (zai (zax ?_)))
    refine ziJ [_, _] Dd hdef ⟨⟨_, rfl, Ld.zbb hr2p (by kernel_rfl) rfl⟩, rfl, trivial⟩ ?_
    exact ⟨pu, cu, rfl, znK hu2, ⟨znI h.two hk2 (fun b hb => .inr (by simp at hb; simp [hb])) (all_of hu2 hrl2 (by omega)) (fun b hb => (List.mem_range'_1.1 hb).1), hx2, hge, hni⟩, LoL.zhp hk2 (fun b hb => .inl (by simp at hb; subst hb; exact ⟨hge, hni⟩))⟩
end
theorem znL {P : Program} {ρ : Env} {w : World} {d : Option Nat} {ty : TypeId} {pos : String} {af : Array Edge} {gd : Option (Nat × Bool)} {t i j k : Nat} {x y z : Operand} (v u s : Value) (cs : List Value) (hx : ev ρ x = v) (hy : ev ρ y = u) (hz : ev ρ z = s) (hb : P.built t [(i, v), (j, u), (k, s)] = some cs.toArray) :
  (execOp (ev ρ) ⟨d, .build t #[(i, x), (j, y), (k, z)], ty, pos, af, gd⟩).run P w = .ok (.value (.agg cs.toArray)) w := by
 have := run_build (P := P) w t #[(i, v), (j, u), (k, s)] cs.toArray (by simpa using hb)
 simp only [execOp, List.map_toArray, List.map_cons, List.map_nil, hx, hy, hz, Sem.run_bind, this, Result.andThen_ok]
 rfl
theorem zi8 {X Y Z : World → List Nat → Prop} {lo : Nat} {L : List Nat} {w : World} (h : Two X (zk2 Y Z) lo L w) : Two X Y lo L w := by
 obtain ⟨⟨B, _, h1, ⟨C1, C2, rfl, h2, _⟩, h3, h4⟩, h5, h6⟩ := h
 exact ⟨⟨B, C1, h1, h2, fun b hb => ⟨(h3 b hb).1, fun hm => (h3 b hb).2.1 (List.mem_append_left _ hm), (h3 b hb).2.2⟩, fun b hb => h4 b (List.mem_append_left _ hb)⟩, h5, h6⟩
def ze1 (D : Dk) (n : Int) : Int := if zfE D.V.length n then (if zlI (zaB D 0) then (if hdC (zaB D 0) = 4611686018427387904 then 8 else 0) else 6) else 2
def zdr (D : Dk) (n : Int) : Lg := ⟨hdC (zaB D 0), hdS (zaB D 0), n.toNat, 0, 0, false⟩
section
variable {Y : World → List Nat → Prop} [Thing Y] {g lo : Nat} {L : List Nat} {D : Dk} {w : World}
def zo6 (e : Int) : Value := .tuple #[.pointer none, .slice none 0 0, .int .i64 e]
set_option maxRecDepth 20000 in
set_option maxHeartbeats 1000000 in
theorem znM (h : Two (DZ g D) Y lo L w) (n : Nat) (he : ze1 D n = 0) (hsh : zbf D 90000) :
    Calls Tryz.prog 44 [.pointer (some ⟨g, 0, none⟩), .int .i64 (n : Int)].toArray w (Ret fun v w' => ∃ ok D2 C s S, zcY D (C + 1) s = ok ∧ zbt D (C + 1) s = D2 ∧ hdC (zaB D 0) = C ∧ hdS (zaB D 0) = s ∧ zck D (zdr D n) = S ∧ LoL lo L w w' ∧
      ((ok = false ∧ v = zo6 10 ∧ Two (DZ g D2) Y lo L w') ∨ (ok = true ∧ ∃ x p c, v = .tuple #[.pointer (some ⟨x, 0, none⟩), .slice p S.length c, .int .i64 0] ∧ S.length ≤ c ∧
        zdz g x (zk2 Y (zj2 p S)) lo L D2 ⟨C + 1, s, n, S.length, atS S, false⟩ w'))) := by
  have hfit : zfE D.V.length n = true := Decidable.byContradiction fun hc => by
    unfold ze1 at he; rw [if_neg hc] at he; cases he
  have his : zlI (zaB D 0) = true := Decidable.byContradiction fun hc => by
    unfold ze1 at he; rw [if_pos hfit, if_neg hc] at he; cases he
  have hCn : hdC (zaB D 0) ≠ 4611686018427387904 := fun hc => by
    unfold ze1 at he; rw [if_pos hfit, if_pos his] at he; rw [if_pos hc] at he; cases he
  have hft := of_decide_eq_true hfit
  have hi2 := his
  rw [zlI, Bool.and_eq_true, Bool.and_eq_true, Bool.and_eq_true] at hi2
  have hs1 := of_decide_eq_true hi2.1.1.2
  have hsc := of_decide_eq_true hi2.1.2
  have hcm := of_decide_eq_true hi2.2
  have hB := Below.refl w.heap.size w
  have hM := may49 h n ⟨by omega, by omega⟩
  rw [hfit] at hM
  have hpos := (tOk h).2
  have hin : inD D 0 = true := decide_eq_true ⟨by omega, by omega⟩
  have hrd := fun w' (hb : Below w.heap.size w w') => tRead (h.new hb) 0
  rw [hin, if_pos rfl, if_pos rfl] at hrd
  have hsl := zdP (tOk h).1 hpos
  have hz : (0 : Int).toNat = 0 := rfl
  rw [hz] at hrd
  have hhd := fun w' => zoY (zaB D 0) w' hsl
  rw [his] at hhd
  have hHG : zdr D n = ⟨hdC (zaB D 0), hdS (zaB D 0), n, 0, 0, false⟩ := by rw [zdr, Int.toNat_natCast]
  obtain ⟨C, hC⟩ : ∃ C, hdC (zaB D 0) = C := ⟨_, rfl⟩
  obtain ⟨s, hS⟩ : ∃ s, hdS (zaB D 0) = s := ⟨_, rfl⟩
  rw [hC, hS] at hHG hhd
  rw [hC] at hCn hsc hcm
  rw [hS] at hsc hs1
  obtain ⟨S, hR⟩ : ∃ S, zck D (zdr D n) = S := ⟨_, rfl⟩
  have hrec := fun (x : Nat) (w' : World) (h : zdz g x Y lo L D ⟨C, s, n, 0, 0, false⟩ w') => read52 h ⟨hs1, hsc, hcm, by show 4 ≤ n; omega, by show n ≤ 4000; omega, Nat.zero_le _, Nat.le_refl _, by show 1 + n ≤ _; omega⟩ rfl rfl
  rw [← hHG, hR, hHG] at hrec
  dsimp only at hrec
  obtain ⟨ok, hok⟩ : ∃ ok, zcY D (C + 1) s = ok := ⟨_, rfl⟩
  obtain ⟨D2, hD2⟩ : ∃ D2, zbt D (C + 1) s = D2 := ⟨_, rfl⟩
  have hnx := fun (x : Nat) (p : Option Addr) (w' : World) (h : zdz g x (zk2 Y (zj2 p S)) lo L D ⟨C, s, n, S.length, atS S, false⟩ w') => next48 h s (by show C + 1 < _; omega) (by omega) hsh
  dsimp only at hnx
  rw [hok, hD2] at hnx
  generalize zaB D 0 = sc at *
  have hlo := h.lo
  have hlt := h.lt
  have hLL := LoL.refl lo L w
  have hD := h
  refine Calls.to (R := fun v w' => LoL lo L w w' ∧ ((ok = false ∧ v = zo6 10 ∧ Two (DZ g D2) Y lo L w') ∨ (ok = true ∧ ∃ x p c, v = .tuple #[.pointer (some ⟨x, 0, none⟩), .slice p S.length c, .int .i64 0] ∧ S.length ≤ c ∧
        zdz g x (zk2 Y (zj2 p S)) lo L D2 ⟨C + 1, s, n, S.length, atS S, false⟩ w'))) ?_ (fun v w' hh => ⟨ok, D2, C, s, S, hok, hD2, hC, hS, hR, hh.1, hh.2⟩)
  clear he
  refine zaw (fn := Tryz.f44) (rs := [.tmp 4, .tmp 5, .tmp 6]) (n := 64) Tryz.func44 rfl rfl Tryz.ntmps44 (by kernel_rfl) rfl ?_
  refine zak (zac (zaa rfl (zad) (zaa rfl (zad) (zaa rfl (zad) (zaf (zai (zak (zak (zac (zaa rfl (zab) (zaa rfl (zab) ?_)))))))))))
  refine zat rfl (zao (by kernel_rfl) rfl) (hM) ?_
  rintro _ _ ⟨rfl, rfl⟩
  refine zaa rfl (zad) (zaf (zai (zak (zac (zaa rfl (zab) ?_)))))
  refine zaa rfl (zaW rfl rfl) ?_
  refine zaf (zai ?_)
  refine zdT rfl ((by simp)) ?_
  refine zau (zai (zak (zac (zaa rfl (zab) ?_))))
  refine zat rfl (zao (by kernel_rfl) rfl) (hrd _ hB) ?_
  rintro _ w22 ⟨rfl, hb22⟩
  replace hLL := hLL.new hb22
  replace hB := hB.acc hb22
  refine zaa rfl (zab) (zaa rfl (zan rfl rfl) (zaa rfl (zan rfl rfl) ?_))
  refine zaX rfl (zaO (List.replicate 128 (Value.int .u8 0)) (by kernel_rfl) (fun g8 w8 hg8 hr8 hb8 => ?_))
  have ge_hB_g8 := Nat.le_trans hB.size hg8
  replace hLL := hLL.new hb8
  replace hB := hB.acc hb8
  refine za4 rfl (zav 128 (bv sc) rfl rfl hr8 (by kernel_rfl) (by first | assumption | (simp; done) | (simp [zae, *]; done)) (by first | assumption | (simp; done) | (simp [zae, *]; done) | rfl) (by first | exact zaL _ | assumption | (simp [Value.oneCell']; done)) (fun w901 hr8 ho901 => ?_))
  replace hLL := hLL.oq ho901
  replace hB := ho901.below hB ge_hB_g8
  refine zaa rfl (zad) (zaf (zai (zak (zak (zac (zaa rfl (zab) ?_))))))
  refine zaa rfl (zaW rfl rfl) ?_
  refine zaf (zai ?_)
  refine zdT rfl ((by simp)) ?_
  refine zau (zai (zak (zac ?_)))
  refine zaa rfl (zam rfl (Ld.zb5 (k := 128) hr8 (by kernel_rfl) (by kernel_rfl) (by rw [zae, hsl]))) ?_
  refine zat rfl (zao (by kernel_rfl) rfl) (hhd w901) ?_
  rintro _ w30 ⟨rfl, hb30⟩
  replace hLL := hLL.new hb30
  replace hr8 := hr8.new hb30
  replace hB := hB.acc hb30
  refine zaa rfl (zab) (zaa rfl (zan rfl rfl) (zaa rfl (zan rfl rfl) ?_))
  refine zaX rfl (zaO ([Value.int .u64 0, Value.int .u64 0]) (by kernel_rfl) (fun g10 w10 hg10 hr10 hb10 => ?_))
  have ge_hB_g10 := Nat.le_trans hB.size hg10
  have lt_g8_g10 : g8 < g10 := Nat.lt_of_lt_of_le hr8.lt hg10
  replace hLL := hLL.new hb10
  replace hr8 := hr8.new hb10
  replace hB := hB.acc hb10
  refine za4 rfl (zav 2 ([.int .u64 (C : Int), .int .u64 (s : Int)]) rfl rfl hr10 (by kernel_rfl) (by first | assumption | (simp; done) | (simp [zae, *]; done)) (by first | assumption | (simp; done) | (simp [zae, *]; done) | rfl) (by first | exact zaL _ | assumption | (simp [Value.oneCell']; done)) (fun w902 hr10 ho902 => ?_))
  replace hLL := hLL.oq ho902
  replace hr8 := hr8.only ho902 (Nat.ne_of_lt lt_g8_g10)
  replace hB := ho902.below hB ge_hB_g10
  refine zaa rfl (zad) (zaf (zai (zak (zaD (zak (zac (zaa rfl (zab) ?_)))))))
  refine zaa rfl (zcr rfl) ?_
  refine zaa rfl (zad) (zaf (zai ?_))
  refine W_fnb rfl (rfl) ?_
  refine zak (zac (zaa rfl (zaj (off := 0) (by kernel_rfl) rfl) ?_))
  refine zaa rfl (zam rfl (Ld.zbb hr10 (by kernel_rfl) rfl)) ?_
  refine zaa rfl (zbr rfl rfl) ?_
  refine zaa rfl (zad) (zaf (zai ?_))
  refine zdT rfl ((by omega)) ?_
  refine zau (za2 (zai (zak (zac ?_))))
  refine zaa rfl (zam rfl (Ld.zb5 (k := 2) hr10 (by kernel_rfl) (by kernel_rfl) (by first | (simp; done) | (simp [zae, *]; done) | assumption))) ?_
  refine zaa rfl (zab) (zaa rfl (zab) ?_)
  refine zaa rfl (znL (.agg #[.int .u64 (C : Int), .int .u64 (s : Int)]) (.pointer (some ⟨g, 0, none⟩)) (.int .i64 (n : Int)) [.int .u64 (C : Int), .int .u64 (s : Int), .pointer (some ⟨g, 0, none⟩), .int .i64 (n : Int), .int .i64 0, .int .i64 0, .bool false] rfl rfl rfl (by kernel_rfl)) ?_
  have hDw := h.new hB
  refine zaX rfl (zca ([.int .u64 (C : Int), .int .u64 (s : Int), .pointer (some ⟨g, 0, none⟩), .int .i64 (n : Int), .int .i64 0, .int .i64 0, .bool false]) rfl (fun g44 w44 hg44 hr44 hb44 => ?_))
  have ge_hB_g44 := Nat.le_trans hB.size hg44
  have lt_g8_g44 : g8 < g44 := Nat.lt_of_lt_of_le hr8.lt hg44
  have lt_g10_g44 : g10 < g44 := Nat.lt_of_lt_of_le hr10.lt hg44
  replace hLL := hLL.new hb44
  replace hr8 := hr8.new hb44
  replace hr10 := hr10.new hb44
  replace hB := hB.acc hb44
  have hbz := hB.size
  have hG : zdz g g44 Y lo L D ⟨C, s, n, 0, 0, false⟩ w44 := ⟨hDw.newc hb44 hg44 hr44.lt, hr44, by omega, fun hm => by have := hDw.lt _ hm; omega⟩
  refine zaa rfl (zad) (zaf (zai (zak (zac (zaa rfl (zab) ?_)))))
  refine zat rfl (zao (by kernel_rfl) rfl) (hrec _ w44 hG) ?_
  rintro _ w47 ⟨p, cp, rfl, hcp, hG, hb47⟩
  replace hLL := hLL.lq hb47
  refine zaa rfl (zab) (zaa rfl (zan rfl rfl) (zaa rfl (zan rfl rfl) (zaa rfl (zad) (zaa rfl (zad) (zaf (zai (zak (zak (zac (zaa rfl (zab) ?_))))))))))
  refine zaa rfl (zbr rfl rfl) ?_
  refine zaf (zai ?_)
  refine zkt rfl (rfl) ?_
  refine zac (zaa rfl (zab) (zaa rfl (zab) (zaa rfl (zal rfl) (zaa rfl (zaj (off := 0) (by kernel_rfl) rfl) (zaa rfl (zaj (off := 1) (by kernel_rfl) rfl) ?_)))))
  refine zaa rfl (zam rfl (Ld.zbb hG.rowx (by kernel_rfl) rfl)) ?_
  refine zat rfl (zao (by kernel_rfl) rfl) (hnx _ _ w47 hG) ?_
  rintro _ w58 ⟨rfl, hG, hb58⟩
  replace hLL := hLL.lq hb58
  refine zaa rfl (zad) (zaf (zai (zak (zak (zac (zaa rfl (zab) ?_))))))
  refine zaa rfl (zaW rfl rfl) ?_
  refine zaf (zai ?_)
  refine zaZ rfl (fun hne => ?_) (fun hne => ?_)
  ·
   refine zak (zac (zaa rfl (zab) (zaa rfl (zad) (zaa rfl (zad) (zaa rfl (zad) (zaf (zai (zax (zaT ?_)))))))))
   refine zar [_, _, _] ⟨rfl, rfl, rfl, trivial⟩ ?_
   have hf : ok = false := by cases ok with | false => rfl | true => simp at hne
   subst hf
   exact ⟨hLL, .inl ⟨rfl, rfl, zi8 hG.fst⟩⟩
  ·
   have hf : ok = true := by cases ok with | true => rfl | false => simp at hne
   subst hf
   refine zau (zai (zak (zac (zaa rfl (zab) (zaa rfl (zab) (zaa rfl (zad) (zaa rfl (zad) (zaa rfl (zad) (zaf (zai (zax ?_)))))))))))
   refine zar [_, _, _] ⟨rfl, rfl, rfl, trivial⟩ ?_
   exact ⟨hLL, .inr ⟨rfl, _, p, cp, rfl, hcp, hG⟩⟩
end
def zfr (n : Nat) (s : Int) : Nat := if s < 4 ∨ 4000 < s then 0 else (n - 1 - s.toNat) / 4
section
variable {Y : World → List Nat → Prop} {g lo : Nat} {L : List Nat} {D : Dk} {w : World}
set_option maxRecDepth 20000 in
theorem countP (h : Two (DZ g D) Y lo L w) (s : Int) (hs : zku s) : Calls Tryz.prog 28 [.pointer (some ⟨g, 0, none⟩), .int .i64 s].toArray w (Ret fun v w' => v = .int .i64 ((zfr D.V.length s : Nat) : Int) ∧ w = w') := by
 have hS := ziZ h
 have hn8 := (tOk h).1.n
 have h1 := hs.1
 have h2 := hs.2
 refine zaw (fn := Tryz.f28) (rs := [.tmp 4]) (n := 18) Tryz.func28 rfl rfl Tryz.ntmps28 (by kernel_rfl) rfl ?_
 refine zak (zac (zaa rfl (zad) (zaf (zai (zak (zak (zac (zaa rfl (zab) ?_))))))))
 refine zaa rfl (zbd rfl rfl) ?_
 refine zaa rfl (zab) ?_
 refine zbJ 7 rfl (fun h3 => ?_) (fun h3 => ?_)
 ·
  refine zaE rfl rfl (zaE rfl rfl (zaa rfl (zay rfl) (zaf (zai ?_))))
  refine zkB rfl (rfl) ?_
  refine zak (zac (zaa rfl (zad) (zaf (zai (zax (zaT ?_))))))
  refine zar [_] ⟨rfl, trivial⟩ ?_
  exact ⟨by rw [zfr, if_pos (.inl h3)]; rfl, rfl⟩
 ·
  refine zas rfl (zaa rfl (zab) (zas rfl ?_))
  refine zaa rfl (zbU rfl rfl) ?_
  refine zaa rfl (zaz rfl) (zaf (zai ?_))
  refine zaZ rfl (fun h4 => ?_) (fun h4 => ?_)
  ·
   refine zak (zac (zaa rfl (zad) (zaf (zai (zax (zaT ?_))))))
   refine zar [_] ⟨rfl, trivial⟩ ?_
   exact ⟨by rw [zfr, if_pos (.inr h4)]; rfl, rfl⟩
  ·
   have hobt : ∃ m : Nat, s = m := ⟨s.toNat, by omega⟩
   obtain ⟨m, rfl⟩ := hobt
   refine zau (zai (zak (zac (zaa rfl (zab) ?_))))
   refine zat rfl (zao (by kernel_rfl) rfl) (hS) ?_
   rintro _ _ ⟨rfl, rfl⟩
   refine zaa rfl (zeQ rfl rfl (Coup.w64 (by omega))) ?_
   refine zaa rfl (zab) ?_
   refine zaa rfl (zeQ rfl rfl (Coup.w64 (by omega))) ?_
   refine zaa rfl (zkF rfl rfl) ?_
   refine zaa rfl (zep rfl rfl (by omega) (by omega)) ?_
   refine zaa rfl (zad) (zaf (zai (zax ?_)))
   refine zar [_] ⟨rfl, trivial⟩ ?_
   refine ⟨?_, rfl⟩
   show Value.int .i64 (max ((D.V.length : Int) - 1 - m) 0 / 4) = _
   rw [zfr, if_neg (by omega), Int.toNat_natCast]
   congr 1
   omega
set_option maxRecDepth 20000 in
theorem mayP (h : Two (DZ g D) Y lo L w) (s : Int) (hs : zku s) : Calls Tryz.prog 43 [.pointer (some ⟨g, 0, none⟩), .int .i64 s].toArray w (Ret fun v w' => v = .int .i64 (if zfr D.V.length s < 4 then 2 else 0) ∧ w = w') := by
 have hS := ziZ h
 have hp := (tOk h).2
 have hC := countP h s hs
 refine zaw (fn := Tryz.f43) (rs := [.tmp 4]) (n := 14) Tryz.func43 rfl rfl Tryz.ntmps43 (by kernel_rfl) rfl ?_
 refine zak (zac (zaa rfl (zad) (zaf (zai (zak (zaD (zak (zac (zaa rfl (zab) ?_)))))))))
 refine zat rfl (zao (by kernel_rfl) rfl) (hS) ?_
 rintro _ _ ⟨rfl, rfl⟩
 refine zaa rfl (zbr rfl rfl) ?_
 refine zaa rfl (zad) (zaf (zai ?_))
 refine zdT rfl ((by omega)) ?_
 refine zak (zac (zaa rfl (zab) (zaa rfl (zab) ?_)))
 refine zat rfl (zao (by kernel_rfl) rfl) (hC) ?_
 rintro _ _ ⟨rfl, rfl⟩
 refine zaa rfl (zbd rfl rfl) ?_
 refine zaa rfl (zad) (zaf (zai ?_))
 refine zaZ rfl (fun h3 => ?_) (fun h3 => ?_)
 ·
  refine zak (zac (zaa rfl (zad) (zaf (zai (zax (za6 (zaT ?_)))))))
  refine zar [_] ⟨rfl, trivial⟩ ?_
  exact ⟨by rw [if_pos (by omega)]; rfl, rfl⟩
 ·
  refine zau (za2 (zai (zak (zac (zaa rfl (zad) (zaf (zai (zax ?_))))))))
  refine zar [_] ⟨rfl, trivial⟩ ?_
  exact ⟨by rw [if_neg (by omega)]; rfl, rfl⟩
end
set_option maxRecDepth 20000 in
theorem placeP (s n : Nat) (w : World) (hs : s ≤ 4000) (hn : n ≤ 8192) : Calls Tryz.prog 62 [.int .i64 (s : Int), .int .i64 (n : Int)].toArray w (Ret fun v w' => v = .int .i64 ((1 + s + n * 4 : Nat) : Int) ∧ w = w') := by
 refine zaw (fn := Tryz.f62) (rs := [.tmp 4]) (n := 10) Tryz.func62 rfl rfl Tryz.ntmps62 (by kernel_rfl) rfl ?_
 refine zak (zac (zaa rfl (zad) (zaf (zai (zak (zac (zaa rfl (zab) ?_)))))))
 refine zaa rfl (zaV rfl rfl (Coup.w64 (by omega))) ?_
 refine zaa rfl (zab) ?_
 refine zaa rfl (zd6 rfl rfl (Coup.w64 (by omega))) ?_
 refine zaa rfl (zaV rfl rfl (Coup.w64 (by omega))) ?_
 refine zaa rfl (zad) (zaf (zai (zax ?_)))
 refine zar [_] ⟨rfl, trivial⟩ ?_
 exact ⟨by show Value.int .i64 (1 + (s : Int) + n * 4) = _; congr 1, rfl⟩
theorem zk3 (b : List UInt8) {m n : Nat} (h : m ≤ n) : (za8 b n).take m = za8 b m := by
 rw [za8, za8, ← List.map_take, List.take_range, Nat.min_eq_left h]
section
variable {Y : World → List Nat → Prop} [Thing Y] {g lo : Nat} {L : List Nat} {D : Dk} {w : World}
set_option maxRecDepth 20000 in
set_option maxHeartbeats 1000000 in
theorem writeP (h : Two (DZ g D) Y lo L w) (s n : Nat) (X : List UInt8) (hX : X.length = 512) (hs : s ≤ 4000) (hn : 1 + s + n * 4 + 4 ≤ D.V.length) (hsh : zbf D 80000) :
   Calls Tryz.prog 45 [.pointer (some ⟨g, 0, none⟩), .int .i64 (s : Int), .int .i64 (n : Int), .agg (bv X).toArray].toArray w (Ret fun v w' => v = .int .i64 (if (zaF D (1 + s + n * 4) (za8 X 4)).2 then 0 else 10) ∧ Two (DZ g (zaF D (1 + s + n * 4) (za8 X 4)).1) Y lo L w' ∧ LoL lo L w w') := by
 have hD := h
 have hLL := LoL.refl lo L w
 have hn8 := (tOk hD).1.n
 have hpl := fun w' => placeP s n w' hs (by omega)
 obtain ⟨a, ha⟩ : ∃ a, 1 + s + n * 4 = a := ⟨_, rfl⟩
 rw [ha] at hpl hn ⊢
 have hXb : (bv X).length = 512 := by rw [zae]; exact hX
 refine zaw (fn := Tryz.f45) (rs := [.tmp 8]) (n := 33) Tryz.func45 rfl rfl Tryz.ntmps45 (by kernel_rfl) rfl ?_
 refine zak (zac ?_)
 refine zaX rfl (zca (bv X) rfl (fun g7 w7 hg7 hr7 hb7 => ?_))
 replace hD := hD.newc hb7 hg7 hr7.lt
 replace hLL := hLL.new hb7
 refine zaa rfl (zad) (zaf (zai (zak (zak (zac (zaa rfl (zab) (zaf (zai (zaD ?_)))))))))
 refine zbF (α := Nat) 0 (fun i => [(11, .int .i64 (i : Nat)), (7, .pointer (some ⟨g7, 0, none⟩)), (0, .pointer (some ⟨g, 0, none⟩)), (1, .int .i64 (s : Int)), (2, .int .i64 (n : Int))])
   (fun i w' => i ≤ 4 ∧ (zaF D a (za8 X i)).2 = true ∧ row w' g7 (bv X) 37 ∧ Two (DZ g (zaF D a (za8 X i)).1) Y lo (g7 :: L) w' ∧ LoL lo L w w') (fun i => 4 - i)
   ⟨rfl, rfl, rfl, rfl, rfl, rfl⟩ ⟨Nat.zero_le _, rfl, hr7, hD, hLL⟩ ?_
 clear hD hLL hr7
 rintro i f wr ⟨hi, hok, hr7, hD, hLL⟩
 have hshi := zcZ (za8 X i) D a 80000 hsh
 have hlni := zbo (za8 X i) D a
 rw [zbB] at hshi
 refine zak (zac ?_)
 refine zaa rfl (zbd rfl rfl) ?_
 refine zaf (zai (zak ?_))
 refine zaZ rfl (fun hlt => ?_) (fun hlt => ?_)
 ·
  refine zau (zai (zak (zaD (zak (zac (zaa rfl (zab) (zaa rfl (zad) (zaf (zai (zak ?_))))))))))
  have hobS : ∃ S, (X.drop (128 * i)).take 128 = S := ⟨_, rfl⟩
  obtain ⟨S, hS⟩ := hobS
  have hSb : bv S = ((bv X).drop (0 + 128 * i)).take 128 := by rw [← hS, zdD, zcT, Nat.zero_add]
  have hSl : S.length = 128 := by rw [← hS, List.length_take, List.length_drop]; omega
  have hsx := zhA X i
  rw [hS] at hsx
  have hsn := ze0 (za8 X i) D a S hok
  rw [← hsx, zbB] at hsn
  refine zeZ (lo) ((g7 :: L)) (by kernel_rfl) ?_
  intro w901 hb901 hn901 hS901
  replace hD := hD.new hb901
  replace hLL := hLL.new hb901
  replace hr7 := hr7.new hb901
  have hD_d901 := hD
  have hLL_d901 := hLL
  have hr7_d901 := hr7
  refine zah 0 (by kernel_rfl) rfl (fun _ _ => zab) ?_
  refine zah 1 (by kernel_rfl) rfl (fun _ _ => zab) ?_
  refine zah 2 (by kernel_rfl) rfl (fun _ _ => zab) ?_
  refine zdF 3 (by kernel_rfl) rfl (fun _ => zao (by kernel_rfl) rfl) (fun w' hS' => hpl w') ?_
  refine zah 4 (by kernel_rfl) rfl (fun _ _ => zab) ?_
  refine zah 5 (by kernel_rfl) rfl (fun _ _ => zaV rfl rfl (Coup.w64 (by omega))) ?_
  refine zah 6 (by kernel_rfl) rfl (fun _ _ => zab) ?_
  refine zah 7 (by kernel_rfl) rfl (fun _ _ => zd6 rfl rfl (Coup.w64 (by omega))) ?_
  refine zah 8 (by kernel_rfl) rfl (fun _ _ => zab) ?_
  refine zah 9 (by kernel_rfl) rfl (fun _ _ => zaV rfl rfl (Coup.w64 (by omega))) ?_
  refine zah 10 (by kernel_rfl) rfl (fun _ _ => zd6 rfl rfl (Coup.w64 (by omega))) ?_
  refine zah 11 (by kernel_rfl) rfl (fun _ _ => zbl (e := 5) (n := 512) (128 * i) (128 * i + 128) (512) (128) (by kernel_rfl) rfl ⟨_, _, rfl, by omega⟩ ⟨_, _, rfl, by omega⟩ rfl (by simp) (by omega) (by omega) (by omega) (by omega) (by omega)) ?_
  refine zah 12 (by kernel_rfl) rfl (fun _ _ => zie (n := 128) (e := 5) (sz := 1) (by kernel_rfl) rfl (by omega)) ?_
  refine zah 13 (by kernel_rfl) rfl (fun w' hS' => zam rfl (Ld.rowN (k := 128) (off := 0 + 128 * i) (hr7_d901.kL hS') (by kernel_rfl) (by kernel_rfl) (by omega))) ?_
  refine zaS 14 (by kernel_rfl) ?_
  have hw := zlz hD ((a : Int) + (i : Int)) S hSl (zbE hshi (by omega))
  rw [hSb] at hw
  refine zcq rfl rfl (zao (by kernel_rfl) rfl) (hw) ?_
  rintro _ w28 ⟨rfl, hD, hb28⟩
  have hS902 := hS901.zjK hn901 hb28
  refine ⟨hS902, ?_⟩
  replace hLL := hLL.lq hb28
  replace hr7 := hr7.kl hb28
  refine zah 15 (by kernel_rfl) rfl (fun _ _ => zad) ?_
  refine zaR (by kernel_rfl) ?_
  refine zai (zak (zac ?_))
  have hin : inD (zaF D a (za8 X i)).1 ((a : Int) + (i : Int)) = true := decide_eq_true (by omega)
  rw [zhq, hin, if_pos rfl]
  rw [show (a : Int) + (i : Int) = ((a + i : Nat) : Int) by omega] at hD
  refine zaa rfl (zab) ?_
  refine zaa rfl (zaW rfl rfl) ?_
  refine zaf (zai ?_)
  refine zaZ rfl (fun hne => ?_) (fun hne => ?_)
  ·
   refine zak (zac (zaa rfl (zab) (zaa rfl (zad) (zaf (zai (zax (za6 (zaT (zc6 (za6 (zaT ?_)))))))))))
   refine zar [_] ⟨rfl, trivial⟩ ?_
   have hf : za3 (zaF D a (za8 X i)).1 = false := by cases hq : za3 (zaF D a (za8 X i)).1 with | false => rfl | true => simp [hq] at hne
   rw [hf] at hsn
   have hbd := zfG (za8 X (i + 1)) ((za8 X 4).drop (i + 1)) D a (by rw [hsn])
   rw [show za8 X (i + 1) ++ (za8 X 4).drop (i + 1) = za8 X 4 by rw [← zk3 X (show i + 1 ≤ 4 by omega), List.take_append_drop], hsn] at hbd
   rw [hbd]
   exact ⟨by rw [hf]; rfl, hD.weak (fun b hb => List.mem_cons_of_mem _ hb), hLL⟩
  ·
   have hf : za3 (zaF D a (za8 X i)).1 = true := by cases hq : za3 (zaF D a (za8 X i)).1 with | true => rfl | false => simp [hq] at hne
   refine zau (za2 (zai (zac ?_)))
   refine zaa rfl (zaV rfl rfl (Coup.w64 (by omega))) ?_
   refine zaa rfl (zab) (zaf ?_)
   refine zbq ⟨i + 1, by omega, ⟨by go_num, rfl, rfl, rfl, rfl, rfl⟩, by omega, by rw [hsn]; exact hf, hr7, by rw [hsn]; exact hD, hLL⟩
 ·
  have hi4 : i = 4 := by omega
  subst hi4
  refine zbp (zbW (zb9 (zbw (zai (zak (zac (zaa rfl (zad) (zaf (zai (zax ?_))))))))))
  refine zar [_] ⟨rfl, trivial⟩ ?_
  exact ⟨by rw [hok]; rfl, hD.weak (fun b hb => List.mem_cons_of_mem _ hb), hLL⟩
theorem zd4 : ∀ (l : List Sec) {D : Dk} {k : Nat} (a : Nat), zb6 D k → (zaF D a l).2 = true ∧ zb6 (zaF D a l).1 (k + l.length)
 | [], D, k, a, h => ⟨rfl, h⟩
 | t :: l, D, k, a, h => by
  rw [zaF, (zcy h.left h.dead).1, if_pos rfl]
  obtain ⟨h1, h2⟩ := zd4 l (a + 1) (h.zbu (a : Int) t).1
  exact ⟨h1, h2.weak (by rw [List.length_cons]; omega)⟩
def zcM : List UInt8 := List.replicate 512 0
def zpD (D : Dk) (s : Nat) : Nat → Dk
 | 0 => D
 | m + 1 => (zaF (zpD D s m) (1 + s + m * 4) (za8 zcM 4)).1
theorem zga {D : Dk} {k s : Nat} (h : zb6 D k) : ∀ m, zb6 (zpD D s m) (k + m * 4) ∧ (zpD D s m).V.length = D.V.length
 | 0 => ⟨by rw [Nat.zero_mul, Nat.add_zero]; exact h, rfl⟩
 | m + 1 => by
  obtain ⟨h1, h2⟩ := zga (s := s) h m
  refine ⟨?_, (zbo _ _ _).trans h2⟩
  exact (zd4 (za8 zcM 4) (1 + s + m * 4) h1).2.weak (by rw [zbB]; omega)
set_option maxRecDepth 20000 in
set_option maxHeartbeats 1000000 in
theorem formatP (h : Two (DZ g D) Y lo L w) (s : Int) (hs : zku s) (ha : zb6 D 60000) :
   Calls Tryz.prog 27 [.pointer (some ⟨g, 0, none⟩), .int .i64 s].toArray w (Ret fun v w' => v = .int .i64 (if zfr D.V.length s < 4 then 2 else 0) ∧ Two (DZ g (if zfr D.V.length s < 4 then D else zoZ (zpD D s.toNat (zfr D.V.length s)) s.toNat)) Y lo L w' ∧ LoL lo L w w') := by
 have hD := h
 have hLL := LoL.refl lo L w
 have hM := mayP h s hs
 have hC := countP h s hs
 have hn8 := (tOk hD).1.n
 obtain ⟨c, hc⟩ : ∃ c, zfr D.V.length s = c := ⟨_, rfl⟩
 rw [hc] at hM hC ⊢
 refine zaw (fn := Tryz.f27) (rs := [.tmp 4]) (n := 32) Tryz.func27 rfl rfl Tryz.ntmps27 (by kernel_rfl) rfl ?_
 refine zak (zac (zaa rfl (zad) (zaf (zai (zak (zak (zac (zaa rfl (zab) (zaa rfl (zab) ?_)))))))))
 refine zat rfl (zao (by kernel_rfl) rfl) (hM) ?_
 rintro _ _ ⟨rfl, rfl⟩
 refine zaa rfl (zad) (zaf (zai (zak (zac (zaa rfl (zab) ?_)))))
 refine zaa rfl (zaW rfl rfl) ?_
 refine zaf (zai ?_)
 refine zaZ rfl (fun hne => ?_) (fun hne => ?_)
 ·
  refine zak (zac (zaa rfl (zab) (zaa rfl (zad) (zaf (zai (zax (zaT ?_)))))))
  refine zar [_] ⟨rfl, trivial⟩ ?_
  have hf : c < 4 := by
    by_cases h : c < 4
    ·exact h
    ·rw [if_neg h] at hne; simp at hne
  rw [if_pos hf, if_pos hf]
  exact ⟨rfl, hD, hLL⟩
 ·
  have hf : ¬ c < 4 := fun h => by rw [if_pos h] at hne; simp at hne
  rw [if_neg hf, if_neg hf]
  have hcn : ¬ (s < 4 ∨ 4000 < s) ∧ (D.V.length - 1 - s.toNat) / 4 = c := by
    rw [zfr] at hc
    by_cases h : s < 4 ∨ 4000 < s
    ·rw [if_pos h] at hc; omega
    ·rw [if_neg h] at hc; exact ⟨h, hc⟩
  have hobt : ∃ m : Nat, s = m := ⟨s.toNat, by omega⟩
  obtain ⟨m, rfl⟩ := hobt
  rw [Int.toNat_natCast] at hcn ⊢
  have hZl : zcM.length = 512 := List.length_replicate ..
  have hobt : ∃ Z, zcM = Z := ⟨_, rfl⟩
  obtain ⟨Z, hZ⟩ := hobt
  have hzs := fun i => show zpD D m (i + 1) = (zaF (zpD D m i) (1 + m + i * 4) (za8 zcM 4)).1 from rfl
  have hzb : bv Z = List.replicate 512 (.int .u8 0) := by rw [← hZ]; kernel_rfl
  have hwa := fun i => (zd4 (za8 zcM 4) (1 + m + i * 4) (zga (s := m) ha i).1).1
  rw [hZ] at hzs hZl hwa
  refine zau (zai (zak (zak (zac (zaa rfl (zab) (zaa rfl (zab) ?_))))))
  refine zat rfl (zao (by kernel_rfl) rfl) (hC) ?_
  rintro _ _ ⟨rfl, rfl⟩
  refine zaa rfl (zab) (zaf (zai (zaD ?_)))
  refine zbF (α := Nat) 0 (fun i => [(17, .int .i64 (i : Nat)), (16, .int .i64 (c : Int)), (0, .pointer (some ⟨g, 0, none⟩)), (1, .int .i64 (m : Int))])
    (fun i w' => i ≤ c ∧ Two (DZ g (zpD D m i)) Y lo L w' ∧ LoL lo L w w') (fun i => c - i)
    ⟨rfl, rfl, rfl, rfl, rfl⟩ ⟨Nat.zero_le _, hD, hLL⟩ ?_
  clear hD hLL
  rintro i f wr ⟨hi, hD, hLL⟩
  have hal := zga (s := m) ha i
  refine zak (zac ?_)
  refine zaa rfl (zbd rfl rfl) ?_
  refine zaf (zai (zak ?_))
  refine zaZ rfl (fun hlt => ?_) (fun hlt => ?_)
  ·
   refine zau (zai (zak (zaD (zak (zac (zaa rfl (zab) (zaa rfl (zad) (zaf (zai (zak (zac ?_)))))))))))
   refine zaa rfl (zab) (zaa rfl (zab) (zaa rfl (zab) ?_))
   refine zaa rfl (zd8 (bv Z) (by rw [hzb]; kernel_rfl)) ?_
   have hw := writeP hD m i Z hZl (by omega) (by omega) (zbE hal.1.short (by omega))
   rw [hwa i, if_pos rfl, ← hzs] at hw
   refine zat rfl (zao (by kernel_rfl) rfl) (hw) ?_
   rintro _ w24 ⟨rfl, hD, hb24⟩
   replace hLL := hLL.lq hb24
   refine zaa rfl (zad) (zaf (zai (zak (zac (zaa rfl (zab) ?_)))))
   refine zaa rfl (zaW rfl rfl) ?_
   refine zaf (zai ?_)
   refine zdT rfl ((by omega)) ?_
   refine zau (za2 (zai (zac ?_)))
   refine zaa rfl (zaV rfl rfl (Coup.w64 (by omega))) ?_
   refine zaa rfl (zab) (zaf ?_)
   refine zbq ⟨i + 1, by omega, ⟨by go_num, rfl, rfl, rfl, rfl⟩, by omega, hD, hLL⟩
  ·
   have him : i = c := by omega
   subst him
   refine zbp (zbW (zb9 (zbw (zai (zak (zac (zaa rfl (zab) (zaa rfl (zab) ?_))))))))
   have hfm := zo0 hD (m : Int) ⟨by omega, by omega⟩ (hal.1.weak (by omega))
   rw [hal.2, show zfE D.V.length (m : Int) = true from decide_eq_true (by omega), if_pos rfl, if_pos rfl, Int.toNat_natCast] at hfm
   refine zat rfl (zao (by kernel_rfl) rfl) (hfm) ?_
   rintro _ w31 ⟨rfl, hD, hb31⟩
   replace hLL := hLL.lq hb31
   refine zaa rfl (zad) (zaf (zai (zax ?_)))
   refine zar [_] ⟨rfl, trivial⟩ ?_
   exact ⟨rfl, hD, hLL⟩
end
set_option maxRecDepth 20000 in
theorem isA (c : Ch) (b : Nat) (n : Int) (w : World) (hb : row w b [.int .i64 n] 3) : Calls Tryz.prog 59 [.agg (chV c).toArray, .pointer (some ⟨b, 0, none⟩)].toArray w (Ret fun v w' => v = .bool (decide (c.num = n)) ∧ Below w.heap.size w w') := by
 have hB := Below.refl w.heap.size w
 refine zaw (fn := Tryz.f59) (rs := [.tmp 3]) (n := 8) Tryz.func59 rfl rfl Tryz.ntmps59 (by kernel_rfl) rfl ?_
 refine zak (zac ?_)
 refine zaX rfl (zca (chV c) rfl (fun g2 w2 hg2 hr2 hb2 => ?_))
 have ge_hB_g2 := Nat.le_trans hB.size hg2
 have lt_b_g2 : b < g2 := Nat.lt_of_lt_of_le hb.lt hg2
 replace hb := hb.new hb2
 replace hB := hB.acc hb2
 refine zaa rfl (zad) (zaf (zai (zak (zac (zaa rfl (zaj (off := 0) (by kernel_rfl) rfl) ?_)))))
 refine zaa rfl (zam rfl (Ld.zbb hr2 (by kernel_rfl) rfl)) ?_
 refine zaa rfl (zam rfl (Ld.zbb hb (by kernel_rfl) rfl)) ?_
 refine zaa rfl (zbr rfl rfl) ?_
 refine zaa rfl (zad) (zaf (zai (zax ?_)))
 refine zar [_] ⟨rfl, trivial⟩ ?_
 exact ⟨rfl, hB⟩
set_option maxRecDepth 20000 in
theorem isB (c : Ch) (b : Nat) (n : Int) (w : World) (hb : row w b [.int .i64 n] 3) : Calls Tryz.prog 73 [.agg (chV c).toArray, .pointer (some ⟨b, 0, none⟩)].toArray w (Ret fun v w' => v = .bool (decide (c.num = n)) ∧ Below w.heap.size w w') := by
 have hB := Below.refl w.heap.size w
 refine zaw (fn := Tryz.f73) (rs := [.tmp 3]) (n := 8) Tryz.func73 rfl rfl Tryz.ntmps73 (by kernel_rfl) rfl ?_
 refine zak (zac ?_)
 refine zaX rfl (zca (chV c) rfl (fun g2 w2 hg2 hr2 hb2 => ?_))
 have ge_hB_g2 := Nat.le_trans hB.size hg2
 have lt_b_g2 : b < g2 := Nat.lt_of_lt_of_le hb.lt hg2
 replace hb := hb.new hb2
 replace hB := hB.acc hb2
 refine zaa rfl (zad) (zaf (zai (zak (zac (zaa rfl (zaj (off := 0) (by kernel_rfl) rfl) ?_)))))
 refine zaa rfl (zam rfl (Ld.zbb hr2 (by kernel_rfl) rfl)) ?_
 refine zaa rfl (zam rfl (Ld.zbb hb (by kernel_rfl) rfl)) ?_
 refine zaa rfl (zbr rfl rfl) ?_
 refine zaa rfl (zad) (zaf (zai (zax ?_)))
 refine zar [_] ⟨rfl, trivial⟩ ?_
 exact ⟨rfl, hB⟩
def zez (R : Rec) (n : Int) : Nat := R.findIdx fun c => decide (c.num = n)
theorem znN {R : Rec} {n : Int} {i : Nat} {c : Ch} (h : R[i]? = some c) (hi : i ≤ zez R n) (hc : c.num = n) : zez R n = i := by
 obtain ⟨h1, h2⟩ := List.getElem?_eq_some_iff.1 h
 by_cases he : i = zez R n
 ·exact he.symm
 ·have hlt : i < List.findIdx (fun c : Ch => decide (c.num = n)) R := by
   have : i < zez R n := by omega
   exact this
  have := List.not_of_lt_findIdx hlt
  rw [h2] at this
  simp [hc] at this
theorem znO {R : Rec} {n : Int} {i : Nat} {c : Ch} (h : R[i]? = some c) (hi : i ≤ zez R n) (hc : ¬ c.num = n) : i + 1 ≤ zez R n := by
 obtain ⟨h1, h2⟩ := List.getElem?_eq_some_iff.1 h
 by_cases he : i = zez R n
 ·exfalso
  have := List.findIdx_getElem (p := fun c : Ch => decide (c.num = n)) (xs := R) (w := by rw [← show i = List.findIdx _ R from he]; exact h1)
  have e : R[zez R n]? = some c := by rw [← he]; exact h
  have e2 := (List.getElem?_eq_some_iff.1 e).2
  unfold zez at e2
  rw [e2] at this
  simp [hc] at this
 ·omega
set_option maxRecDepth 20000 in
set_option maxHeartbeats 1000000 in
theorem indexA (R : Rec) (hR : zbD R) (p : Option Addr) (c m : Nat) (hm : m = R.length) (b : Nat) (n : Int) (w : World) (h : za9 w p m 513 (zbT R)) (hb : row w b [.int .i64 n] 3) :
   Calls Tryz.prog 58 [.slice p m c, .func (.func 59) #[] #[.pointer (some ⟨b, 0, none⟩)]].toArray w (Ret fun v w' => v = .int .i64 (if zez R n < m then (zez R n : Int) else -1) ∧ Below w.heap.size w w') := by
 have hB := Below.refl w.heap.size w
 have hml : maxLen = 9223372036854775807 := by decide
 have hmax := h.max
 refine zaw (fn := Tryz.f58) (rs := [.tmp 4]) (n := 19) Tryz.func58 rfl rfl Tryz.ntmps58 (by kernel_rfl) rfl ?_
 refine zak (zac (zaa rfl (zad) (zaf (zai (zak (zak (zac (zaa rfl (zab) ?_))))))))
 refine zaa rfl (zaA (e := 73) (sz := 513) (by kernel_rfl) rfl rfl) ?_
 refine zaa rfl (zab) (zaf (zai (zaD ?_)))
 refine zbF (α := Nat) 0 (fun k => [(8, .int .i64 (k : Nat)), (7, .int .i64 (m : Nat)), (0, .slice p m c), (1, .func (.func 59) #[] #[.pointer (some ⟨b, 0, none⟩)])]) (fun k w' => k ≤ m ∧ k ≤ zez R n ∧ Below w.heap.size w w') (fun k => m - k)
   ⟨rfl, rfl, rfl, rfl, rfl⟩ ⟨Nat.zero_le _, Nat.zero_le _, hB⟩ ?_
 rintro i f wr ⟨hi, hfr, hB⟩
 refine zak (zac ?_)
 refine zaa rfl (zbd rfl rfl) ?_
 refine zaf (zai (zak ?_))
 refine zaZ rfl (fun hlt => ?_) (fun hlt => ?_)
 ·
  refine zau (zai (zak (zaD (zak (zac (zaa rfl (zab) (zaa rfl (zad) (zaf (zai (zak ?_))))))))))
  have hci : ∃ ch, R[i]? = some ch := ⟨_, List.getElem?_eq_getElem (by omega)⟩
  obtain ⟨ch, hci⟩ := hci
  have hobt := h.some (by omega)
  obtain ⟨gp, off, rfl, hgp⟩ := hobt
  have hbB := hb.new hB
  refine zac (zaa rfl (zab) (zaa rfl (zab) (zaa rfl (zab) ?_)))
  refine zaa rfl (zaQ (e := 73) (sz := 513) (by kernel_rfl) rfl rfl (i) (by omega) (by omega)) ?_
  refine zaa rfl (zam rfl (zkZ (h.below hB (Nat.le_refl _)) hR hci)) ?_
  refine zat rfl (zb8 (by kernel_rfl) rfl rfl) (isA ch b n wr hbB) ?_
  rintro _ w16 ⟨rfl, hb16⟩
  replace hB := hB.acc hb16
  refine zaf (zai ?_)
  refine zlm rfl (fun hq => ?_) (fun hq => ?_)
  ·
   refine zak (zac (zaa rfl (zab) (zaa rfl (zad) (zaf (zai (zax (za6 (zaT (zc6 (za6 (zaT ?_)))))))))))
   refine zar [_] ⟨rfl, trivial⟩ ?_
   have hfi := znN hci hfr (of_decide_eq_true hq)
   refine ⟨?_, hB⟩
   rw [if_pos (by omega), hfi]; rfl
  ·
   have hfg := znO hci hfr (of_decide_eq_false hq)
   refine zau (za2 (zai (zac ?_)))
   refine zaa rfl (zaV rfl rfl (Coup.w64 (by omega))) ?_
   refine zaa rfl (zab) (zaf ?_)
   refine zbq ⟨i + 1, by omega, ⟨rfl, rfl, rfl, rfl, rfl⟩, by omega, hfg, hB⟩
 ·
  obtain rfl : i = m := by omega
  refine zbp (zbW (zb9 (zbw (zai (zak (zac (zaa rfl (zad) (zaf (zai (zax ?_))))))))))
  refine zar [_] ⟨rfl, trivial⟩ ?_
  refine ⟨?_, hB⟩
  rw [if_neg (by omega)]; rfl
set_option maxRecDepth 20000 in
set_option maxHeartbeats 1000000 in
theorem indexB (R : Rec) (hR : zbD R) (p : Option Addr) (c m : Nat) (hm : m = R.length) (b : Nat) (n : Int) (w : World) (h : za9 w p m 513 (zbT R)) (hb : row w b [.int .i64 n] 3) :
   Calls Tryz.prog 58 [.slice p m c, .func (.func 73) #[] #[.pointer (some ⟨b, 0, none⟩)]].toArray w (Ret fun v w' => v = .int .i64 (if zez R n < m then (zez R n : Int) else -1) ∧ Below w.heap.size w w') := by
 have hB := Below.refl w.heap.size w
 have hml : maxLen = 9223372036854775807 := by decide
 have hmax := h.max
 refine zaw (fn := Tryz.f58) (rs := [.tmp 4]) (n := 19) Tryz.func58 rfl rfl Tryz.ntmps58 (by kernel_rfl) rfl ?_
 refine zak (zac (zaa rfl (zad) (zaf (zai (zak (zak (zac (zaa rfl (zab) ?_))))))))
 refine zaa rfl (zaA (e := 73) (sz := 513) (by kernel_rfl) rfl rfl) ?_
 refine zaa rfl (zab) (zaf (zai (zaD ?_)))
 refine zbF (α := Nat) 0 (fun k => [(8, .int .i64 (k : Nat)), (7, .int .i64 (m : Nat)), (0, .slice p m c), (1, .func (.func 73) #[] #[.pointer (some ⟨b, 0, none⟩)])]) (fun k w' => k ≤ m ∧ k ≤ zez R n ∧ Below w.heap.size w w') (fun k => m - k)
   ⟨rfl, rfl, rfl, rfl, rfl⟩ ⟨Nat.zero_le _, Nat.zero_le _, hB⟩ ?_
 rintro i f wr ⟨hi, hfr, hB⟩
 refine zak (zac ?_)
 refine zaa rfl (zbd rfl rfl) ?_
 refine zaf (zai (zak ?_))
 refine zaZ rfl (fun hlt => ?_) (fun hlt => ?_)
 ·
  refine zau (zai (zak (zaD (zak (zac (zaa rfl (zab) (zaa rfl (zad) (zaf (zai (zak ?_))))))))))
  have hci : ∃ ch, R[i]? = some ch := ⟨_, List.getElem?_eq_getElem (by omega)⟩
  obtain ⟨ch, hci⟩ := hci
  have hobt := h.some (by omega)
  obtain ⟨gp, off, rfl, hgp⟩ := hobt
  have hbB := hb.new hB
  refine zac (zaa rfl (zab) (zaa rfl (zab) (zaa rfl (zab) ?_)))
  refine zaa rfl (zaQ (e := 73) (sz := 513) (by kernel_rfl) rfl rfl (i) (by omega) (by omega)) ?_
  refine zaa rfl (zam rfl (zkZ (h.below hB (Nat.le_refl _)) hR hci)) ?_
  refine zat rfl (zb8 (by kernel_rfl) rfl rfl) (isB ch b n wr hbB) ?_
  rintro _ w16 ⟨rfl, hb16⟩
  replace hB := hB.acc hb16
  refine zaf (zai ?_)
  refine zlm rfl (fun hq => ?_) (fun hq => ?_)
  ·
   refine zak (zac (zaa rfl (zab) (zaa rfl (zad) (zaf (zai (zax (za6 (zaT (zc6 (za6 (zaT ?_)))))))))))
   refine zar [_] ⟨rfl, trivial⟩ ?_
   have hfi := znN hci hfr (of_decide_eq_true hq)
   refine ⟨?_, hB⟩
   rw [if_pos (by omega), hfi]; rfl
  ·
   have hfg := znO hci hfr (of_decide_eq_false hq)
   refine zau (za2 (zai (zac ?_)))
   refine zaa rfl (zaV rfl rfl (Coup.w64 (by omega))) ?_
   refine zaa rfl (zab) (zaf ?_)
   refine zbq ⟨i + 1, by omega, ⟨rfl, rfl, rfl, rfl, rfl⟩, by omega, hfg, hB⟩
 ·
  obtain rfl : i = m := by omega
  refine zbp (zbW (zb9 (zbw (zai (zak (zac (zaa rfl (zad) (zaf (zai (zax ?_))))))))))
  refine zar [_] ⟨rfl, trivial⟩ ?_
  refine ⟨?_, hB⟩
  rw [if_neg (by omega)]; rfl
end Go.Proofs.YtielfpkjoidomaaGreat
namespace Coup
open Go Go.RowKit Go.Maps
section
variable {P : Program} {ρ : Env} {w : World} {d : Option Nat} {ty : TypeId} {pos : String} {af : Array Edge} {gd : Option (Nat × Bool)} {K : Value → World → Prop}
theorem zfI {t k e : TypeId} {x : Operand} {m N : Nat} {f : Nat → Option Value} (ht : P.underlying t = some (.map k e)) (hm : MapAt P k w m N f) (hx : ev ρ x = .map (some m))
  (h : ∀ w', MapAt P k w' m N (fun _ => none) → Only m w w' → K (.tuple #[]) w') : Mk P ρ w ⟨d, .call ⟨.builtin .clear, #[x], #[t]⟩, ty, pos, af, gd⟩ K := by
 obtain ⟨es, clock, hb, F, hs, hD⟩ := hm
 have hlt := (Array.getElem?_eq_some_iff.1 hb).1
 refine ⟨.tuple #[], Go.ChangeMaps.setBlock w m (.map #[] clock), ?_, h _ ⟨#[], clock, ?_, ⟨by simp, Go.MapKept.stamped_empty clock, by simp⟩, Nat.zero_le _, by rw [ziU]; rfl⟩ (zfA ⟨es, clock, #[], clock, hb, rfl⟩)⟩
 ·have h1 := Go.MapKept.run_getObj_map (P := P) hb
  have h2 := Go.MapKept.run_setObj_map (P := P) (.map #[] clock) hb
  simp [execOp, resolve, invoke, builtin, Builtin.clear_, hx, run_underlying ht, h1, h2, Result.andThen, Go.ChangeMaps.setBlock]
 ·simp [Go.ChangeMaps.setBlock, hlt]
theorem zir {g o : Nat} {base e sz m c : Nat} {xs : List Value} (vs : List Value) (j : Nat) (hown : zeV w base e sz g o m c xs) (hfit : j + vs.length ≤ xs.length) :
  ∃ cur, row w g cur e ∧ o + j + vs.length ≤ cur.length ∧ ∀ w', row w' g (splice cur (o + j) vs) e → zeV w' base e sz g o m c (splice xs j vs) := by
 have hlen := hown.1
 rcases hown.2 with ⟨hn, _⟩ | ⟨g', off, cap, cur, he, hb, hg, hmc, hmx, hsz, hcur⟩
 ·cases hn
 ·cases he
  have hrow : row w g cur.toList e := by unfold row; simpa using hg
  have hle : m * sz ≤ c * sz := Nat.mul_le_mul_right _ hmc
  have hcl : cur.toList.length = cur.size := by simp
  refine ⟨cur.toList, hrow, by omega, fun w' hr => ⟨?_, Or.inr ⟨g, o, c, (splice cur.toList (o + j) vs).toArray, rfl, hb, hr, hmc, hmx, ?_, ?_⟩⟩⟩
  ·simp only [splice, List.length_append, List.length_take, List.length_drop]; omega
  ·simp only [splice, List.size_toArray, List.length_append, List.length_take, List.length_drop]; omega
  ·rw [← hcur]
   have hm2 : ((cur.toList.drop o).take (m * sz)).length = m * sz := by rw [List.length_take, List.length_drop]; omega
   refine List.ext_getElem? fun i => ?_
   rw [List.getElem?_take, List.getElem?_drop, zfd (by omega), zfd (by rw [hm2]; omega), List.getElem?_take, List.getElem?_drop]
   by_cases hi : i < m * sz
   ·rw [if_pos hi]
    by_cases h2 : i < j
    ·rw [if_pos (by omega), if_pos h2, if_pos hi]
    ·rw [if_neg (by omega), if_neg h2]
     by_cases h3 : i < j + vs.length
     ·rw [if_pos (by omega), if_pos h3]; congr 1; omega
     ·rw [if_neg (by omega), if_neg h3, if_pos hi]
   ·rw [if_neg hi, if_neg (by omega), if_neg (by omega), if_neg hi]
theorem zi9 {z : Array Value} (hz : ∀ v ∈ z.toList, v.oneCell' = true) (n : Nat) : ∀ v ∈ (Builtin.zeroCells z n).toList, v.oneCell' = true := fun v hv => by
 unfold Builtin.zeroCells at hv
 rw [Array.toList_map, List.mem_map] at hv
 obtain ⟨i, hi, rfl⟩ := hv
 have hi2 : i < n * z.size := by simpa using hi
 have hp : 0 < z.size := Nat.pos_of_ne_zero fun h0 => by rw [h0, Nat.mul_zero] at hi2; omega
 have hlt := Nat.mod_lt i hp
 rw [getElem!_pos z (i % z.size) hlt]
 exact hz _ (by simp)
theorem zj4 {t e0 : TypeId} {x : Operand} {z : Value} {g o base e sz m c k cc : Nat} {xs : List Value} (j : Nat) (ht : P.underlying t = some (.slice e0)) (hz : ∀ w, (zeroValue e0).run P w = .ok z w) (hzs : z.cells.size = sz)
  (hz1 : ∀ v ∈ z.cells.toList, v.oneCell' = true) (hown : zeV w base e sz g o m c xs) (hx : ev ρ x = .slice (some ⟨g, o + j * sz, none⟩) k cc) (hfit : j + k ≤ m)
  (h : ∀ w' zs, zs.length = k * sz → zeV w' base e sz g o m c (splice xs (j * sz) zs) → Only g w w' → K (.tuple #[]) w') : Mk P ρ w ⟨d, .call ⟨.builtin .clear, #[x], #[t]⟩, ty, pos, af, gd⟩ K := by
 have hlen := hown.1
 have hle : (j + k) * sz ≤ m * sz := Nat.mul_le_mul_right _ hfit
 rw [Nat.add_mul] at hle
 cases k with
 | zero =>
  refine ⟨.tuple #[], w, ?_, h w [] (by simp) ?_ ⟨rfl, rfl, rfl, rfl, fun _ _ => rfl⟩⟩
  ·simp [execOp, resolve, invoke, builtin, Builtin.clear_, hx, run_underlying ht, Result.andThen]
  ·have : splice xs (j * sz) [] = xs := by simp [splice]
   rw [this]; exact hown
 | succ k =>
  have hzl : (Builtin.zeroCells z.cells (k + 1)).toList.length = (k + 1) * sz := by rw [Array.length_toList, size_zeroCells, hzs]
  have hf2 : j * sz + (Builtin.zeroCells z.cells (k + 1)).toList.length ≤ xs.length := by rw [hzl]; omega
  obtain ⟨cur, hr, hf, hafter⟩ := zir (Builtin.zeroCells z.cells (k + 1)).toList (j * sz) hown hf2
  have hst := run_storeCells_at P g (o + j * sz) e (Builtin.zeroCells z.cells (k + 1)).toList 0 cur.toArray w hr (by simpa using hf) (zi9 hz1 _)
  refine ⟨.tuple #[], _, ?_, h (w.setRow g (splice cur (o + j * sz) (Builtin.zeroCells z.cells (k + 1)).toList).toArray) _ hzl (hafter _ (setRow_heap w g _ _ e _ hr)) (Only.setRow _)⟩
  simp only [Nat.add_zero] at hst
  have hst2 : (storeCells ⟨g, o + j * sz, none⟩ (Builtin.zeroCells z.cells (k + 1)).toList).run P w = .ok () (w.setRow g (splice cur (o + j * sz) (Builtin.zeroCells z.cells (k + 1)).toList).toArray) := by simpa [splice] using hst
  simp [execOp, resolve, invoke, builtin, Builtin.clear_, hx, run_underlying ht, hz, hst2, Result.andThen]
theorem zmy {t t' e base sz g o m n cap k c g1 o1 : Nat} {s x : Operand} {ys news : List Value} (ht : P.underlying t = some (.slice e)) (ht' : t' = t) (hsz : zcN P e sz = true) (hs : ev ρ s = .slice (some ⟨g, o, none⟩) n cap)
  (hown : zeV w base e sz g o m cap ys) (hx : ev ρ x = .slice (some ⟨g1, o1, none⟩) k c) (hsrc : za9 w (some ⟨g1, o1, none⟩) k sz news) (h1 : ∀ u ∈ news, u.oneCell' = true) (hroom : n + k ≤ m)
  (h : ∀ w', zeV w' base e sz g o m cap (splice ys (n * sz) news) → Only g w w' → K (.slice (some ⟨g, o, none⟩) (n + k) cap) w') : Mk P ρ w ⟨d, .call ⟨.builtin .append, #[s, x], #[t, t']⟩, ty, pos, af, gd⟩ K := by
 subst ht'
 obtain ⟨i, hq, hi⟩ := zcu hsz
 subst hi
 have hl := hsrc.len
 have hlen := hown.1
 have hle : (n + k) * i.size ≤ m * i.size := Nat.mul_le_mul_right _ hroom
 rw [Nat.add_mul] at hle
 have hmc : m ≤ cap := by
  rcases hown.2 with ⟨hn, _⟩ | ⟨g', off, cap', cur, he, hb, hg, hmc, _⟩
  ·cases hn
  ·cases he; exact hmc
 obtain ⟨cur, hr, hf, hafter⟩ := zir news (n * i.size) hown (by omega)
 have hrun := zdV (P := P) w t' ty e i ht hq g o n cap cur.toArray hr ⟨g1, o1, none⟩ k c news hl (fun j u hu => by rw [Addr.add_lit]; exact hsrc.cell j hu) h1 (by omega) (by simpa using hf)
 have hrun2 : (Builtin.append_ #[t', t'] ty #[.slice (some ⟨g, o, none⟩) n cap, .slice (some ⟨g1, o1, none⟩) k c]).run P w = .ok (.slice (some ⟨g, o, none⟩) (n + k) cap) (w.setRow g (splice cur (o + n * i.size) news).toArray) := by simpa [splice] using hrun
 refine ⟨_, w.setRow g (splice cur (o + n * i.size) news).toArray, ?_, h _ (hafter _ (setRow_heap w g _ _ e _ hr)) (Only.setRow _)⟩
 simp [execOp, resolve, invoke, builtin, hs, hx, hrun2, Result.andThen]
end
end Coup
namespace Go.Proofs.YtielfpkjoidomaaGreat
open Go Go.RowKit Coup
theorem zj5 {w : World} {base e sz g o m n c : Nat} {xs : List Value} (h : zeV w base e sz g o m c xs) (hn : n ≤ m) : zeV w base e sz g o n c (xs.take (n * sz)) := by
 have hlen := h.1
 have hle : n * sz ≤ m * sz := Nat.mul_le_mul_right _ hn
 refine ⟨by rw [List.length_take]; omega, ?_⟩
 rcases h.2 with ⟨hn, _⟩ | ⟨g', off, cap, cur, he, hb, hg, hmc, hmx, hsz, hcur⟩
 ·cases hn
 ·cases he
  exact .inr ⟨g, o, c, cur, rfl, hb, hg, Nat.le_trans hn hmc, hmx, hsz, by rw [← hcur, List.take_take, Nat.min_eq_left hle]⟩
theorem zj6 {R : Rec} (h : zbD R) (k : Nat) : (zbT R).take (k * 513) = zbT (R.take k) := by
 by_cases hk : k ≤ R.length
 ·have h1 : zbD (R.take k) := fun c hc => h c (List.mem_of_mem_take hc)
  have e : zbT R = zbT (R.take k) ++ zbT (R.drop k) := by
   rw [zbT, zbT, zbT, ← List.flatMap_append, List.take_append_drop]
  have hl := zcg h1
  rw [List.length_take, Nat.min_eq_left hk] at hl
  rw [e, List.take_left' hl]
 ·rw [List.take_of_length_le (l := R) (by omega), List.take_of_length_le]
  rw [zcg h]
  exact Nat.mul_le_mul_right _ (by omega)
theorem zo7 {R : Rec} (h : zbD R) {i : Nat} {c : Ch} (hi : i < R.length) (hc : c.page.length = 512) : splice (zbT R) (i * 513) (chV c) = zbT (R.set i c) := by
 have h1 : zbD (R.take i) := fun c hc => h c (List.mem_of_mem_take hc)
 have hl := zcg h1
 rw [List.length_take, Nat.min_eq_left (by omega)] at hl
 have hcl := zcX hc
 have hd : ∀ k, (zbT R).drop (k * 513) = zbT (R.drop k) := fun k => by
  by_cases hk : k ≤ R.length
  ·have h2 : zbD (R.take k) := fun c hc => h c (List.mem_of_mem_take hc)
   have e : zbT R = zbT (R.take k) ++ zbT (R.drop k) := by
    rw [zbT, zbT, zbT, ← List.flatMap_append, List.take_append_drop]
   have hl := zcg h2
   rw [List.length_take, Nat.min_eq_left hk] at hl
   rw [e, List.drop_left' hl]
  ·rw [List.drop_of_length_le (l := R) (by omega), List.drop_of_length_le]
   ·rfl
   ·rw [zcg h]
    exact Nat.mul_le_mul_right _ (by omega)
 have e2 : R.set i c = R.take i ++ (c :: R.drop (i + 1)) := List.set_eq_take_append_cons_drop.trans (by rw [if_pos hi])
 unfold splice
 rw [zj6 h, hcl, show i * 513 + 513 = (i + 1) * 513 by omega, hd, e2]
 simp [zbT]
def without (R : Rec) (n : Int) : Rec := R.filter fun c => !decide (c.num = n)
theorem zj7 {R : Rec} {n : Int} (h : ¬ zez R n < R.length) : without R n = R := by
 refine List.filter_eq_self.2 fun c hc => ?_
 have h2 : ¬ ∃ x ∈ R, decide (x.num = n) = true := fun he => h (List.findIdx_lt_length.2 he)
 cases hd : decide (c.num = n) with
 | false => rfl
 | true => exact absurd ⟨c, hc, hd⟩ h2
theorem zja {R : Rec} {n : Int} (h : zez R n < R.length) : R.take (zez R n) = without (R.take (zez R n + 1)) n := by
 have hp : decide ((R[zez R n]).num = n) = true := List.findIdx_getElem (p := fun c : Ch => decide (c.num = n)) (xs := R) (w := h)
 rw [List.take_add_one, List.getElem?_eq_getElem h, without, List.filter_append]
 have h1 : (R.take (zez R n)).filter (fun c => !decide (c.num = n)) = R.take (zez R n) := by
  refine List.filter_eq_self.2 fun c hc => ?_
  obtain ⟨i, hi, rfl⟩ := List.mem_take_iff_getElem.1 hc
  have hlt : i < List.findIdx (fun c : Ch => decide (c.num = n)) R := by
   have : i < zez R n := by omega
   exact this
  have h3 := List.not_of_lt_findIdx hlt
  rw [h3]; rfl
 rw [h1, Option.toList_some, List.filter_cons, hp]
 simp
theorem zj8 {R : Rec} {n : Int} {j : Nat} {c : Ch} (h : R[j]? = some c) : without (R.take (j + 1)) n = if c.num = n then without (R.take j) n else without (R.take j) n ++ [c] := by
 rw [List.take_add_one, h, without, List.filter_append, Option.toList_some]
 by_cases hc : c.num = n
 ·rw [if_pos hc]; simp [without, hc]
 ·rw [if_neg hc]; simp [without, hc]
theorem zeroCh (w : World) : (zeroValue 73).run Tryz.prog w = .ok (.agg (chV ⟨0, List.replicate 512 0⟩).toArray) w := by kernel_rfl
theorem zgO {xs zs : List Value} (a : Nat) (h : a ≤ xs.length) : (splice xs a zs).take a = xs.take a := by
 unfold splice
 first
  | rw [List.take_left' (by rw [List.length_take]; omega)]
  | rw [List.append_assoc, List.take_left' (by rw [List.length_take]; omega)]
theorem own_le {w : World} {base e sz g o m c : Nat} {xs : List Value} (h : zeV w base e sz g o m c xs) : m ≤ c := by
 rcases h.2 with ⟨hn, _⟩ | ⟨g', off, cap, cur, he, hb, hg, hmc, _⟩
 ·cases hn
 ·cases he; exact hmc
set_option maxRecDepth 20000 in
set_option maxHeartbeats 2000000 in
theorem deleteB (R : Rec) (hR : zbD R) (g o m c base : Nat) (hm : m = R.length) (b : Nat) (n : Int) (w : World) (h : zeV w base 73 513 g o m c (zbT R)) (hb : row w b [.int .i64 n] 3) (hbg : b ≠ g) :
   Calls Tryz.prog 72 [.slice (some ⟨g, o, none⟩) m c, .func (.func 73) #[] #[.pointer (some ⟨b, 0, none⟩)]].toArray w (Ret fun v w' => v = .slice (some ⟨g, o, none⟩) (without R n).length c ∧ zeV w' base 73 513 g o (without R n).length c (zbT (without R n)) ∧ KpB [g] w w') := by
 have hK := KpB.refl [g] w
 have hml : maxLen = 9223372036854775807 := by decide
 have hmx := h.sl.max
 obtain ⟨q, hq⟩ : ∃ q : Int, (if zez R n < m then (zez R n : Int) else -1) = q := ⟨_, rfl⟩
 have hix := fun w' (h : za9 w' (some ⟨g, o, none⟩) m 513 (zbT R)) (hb : row w' b [.int .i64 n] 3) => indexB R hR (some ⟨g, o, none⟩) c m hm b n w' h hb
 simp only [hq] at hix
 have hgl := h.lt
 have hcap := own_le h
 have hbl := hb.lt
 refine zaw (fn := Tryz.f72) (rs := [.tmp 4]) (n := 42) Tryz.func72 rfl rfl Tryz.ntmps72 (by kernel_rfl) rfl ?_
 refine zak (zac (zaa rfl (zad) (zaf (zai (zak (zac (zaa rfl (zab) (zaa rfl (zab) ?_))))))))
 refine zat rfl (zao (by kernel_rfl) rfl) (hix w h.sl hb) ?_
 rintro _ w10 ⟨rfl, hb10⟩
 replace hK := hK.new hb10
 replace h := h.new hb10
 replace hb := hb.new hb10
 refine zaa rfl (zad) (zaf (zai (zak (zak (zac (zaa rfl (zab) ?_))))))
 refine zaa rfl (zbr rfl rfl) ?_
 refine zaf (zai ?_)
 refine zaZ rfl (fun hne => ?_) (fun hne => ?_)
 ·
  refine zak (zac (zaa rfl (zab) (zaa rfl (zad) (zaf (zai (zax (zaT ?_)))))))
  refine zar [_] ⟨rfl, trivial⟩ ?_
  have hni : ¬ zez R n < R.length := fun hl => by rw [if_pos (by omega)] at hq; omega
  rw [zj7 hni, ← hm]
  exact ⟨rfl, h, hK⟩
 ·
  have hil : zez R n < R.length := by
    by_cases hl : zez R n < R.length
    ·exact hl
    ·rw [if_neg (by omega)] at hq; exact absurd hq.symm hne
  rw [if_pos (by omega)] at hq
  subst hq
  refine zau (zai (zak (zak (zac (zaa rfl (zab) ?_)))))
  refine zaa rfl (zaV rfl rfl (Coup.w64 (by omega))) ?_
  refine zaa rfl (zad) (zaf (zai (zaD ?_)))
  refine zbF (α := Nat × Nat × Rec) (zez R n, zez R n + 1, R) (fun a => [(5, .int .i64 (a.1 : Nat)), (6, .int .i64 (a.2.1 : Nat)), (0, .slice (some ⟨g, o, none⟩) m c), (1, .func (.func 73) #[] #[.pointer (some ⟨b, 0, none⟩)])])
    (fun a w' => a.1 < a.2.1 ∧ a.2.1 ≤ m ∧ a.2.2.length = m ∧ zbD a.2.2 ∧ (∀ k, a.2.1 ≤ k → a.2.2[k]? = R[k]?) ∧ a.2.2.take a.1 = without (R.take a.2.1) n ∧ zeV w' base 73 513 g o m c (zbT a.2.2) ∧ row w' b [.int .i64 n] 3 ∧ KpB [g] w w') (fun a => m - a.2.1)
    ⟨rfl, rfl, rfl, rfl, rfl⟩ ⟨Nat.lt_succ_self _, by show zez R n + 1 ≤ m; omega, hm.symm, hR, fun _ _ => rfl, zja hil, h, hb, hK⟩ ?_
  clear h hb hK
  rintro ⟨i, j, T⟩ f wr ⟨hij, hj, hTl, hT, hTR, hTw, h, hb, hK⟩
  dsimp only at *
  refine zak (zak (zac (zaa rfl (zab) (zaa rfl (zab) ?_))))
  refine zaa rfl (zaA (e := 73) (sz := 513) (by kernel_rfl) rfl rfl) ?_
  refine zaa rfl (zbd rfl rfl) ?_
  refine zaf (zai ?_)
  refine zaZ rfl (fun hlt => ?_) (fun hlt => ?_)
  ·
   refine zau (zai (zak (zaD (zak ?_))))
   have hob : ∃ ch, R[j]? = some ch := ⟨_, List.getElem?_eq_getElem (by omega)⟩
   obtain ⟨ch, hch⟩ := hob
   have hTj := (hTR j (Nat.le_refl _)).trans hch
   have hcl := hR ch (List.mem_of_getElem? hch)
   have hws := zj8 (n := n) hch
   have hcl2 := zcX hcl
   have hco := zdq ch
   have hKs := hK.k.size
   refine zac (zaa rfl (zab) (zaa rfl (zab) ?_))
   refine zaa rfl (zaQ (e := 73) (sz := 513) (by kernel_rfl) rfl rfl (j) (by omega) (by omega)) ?_
   refine zaa rfl (zam rfl (zkZ h.sl hT hTj)) ?_
   refine zaX rfl (zaO (([Value.int .i64 0]) ++ (List.replicate 512 (Value.int .u8 0))) (by kernel_rfl) (fun g7 w7 hg7 hr7 hb7 => ?_))
   have lt_g_g7 : g < g7 := Nat.lt_of_lt_of_le h.lt hg7
   have lt_b_g7 : b < g7 := Nat.lt_of_lt_of_le hb.lt hg7
   replace hK := hK.new hb7
   replace h := h.new hb7
   replace hb := hb.new hb7
   refine za4 rfl (zav 513 (chV ch) rfl rfl hr7 (by kernel_rfl) (by first | assumption | (simp; done) | (simp [zae, *]; done)) (by first | assumption | (simp; done) | (simp [zae, *]; done) | rfl) (by first | exact zaL _ | assumption | (simp [Value.oneCell']; done)) (fun w901 hr7 ho901 => ?_))
   replace hK := hK.only ho901 (by first | (simp; done) | (right; omega))
   replace h := h.only ho901 (Nat.ne_of_lt lt_g_g7)
   replace hb := hb.only ho901 (Nat.ne_of_lt lt_b_g7)
   refine zaf (zai (zak (zac (zaa rfl (zab) ?_))))
   refine zaa rfl (zam rfl (Ld.zb5 (k := 513) hr7 (by kernel_rfl) (by kernel_rfl) (by first | (simp; done) | (simp [zae, *]; done) | assumption))) ?_
   refine zat rfl (zb8 (by kernel_rfl) rfl rfl) (isB ch b n w901 hb) ?_
   rintro _ w28 ⟨rfl, hb28⟩
   replace hK := hK.new hb28
   replace h := h.new hb28
   replace hb := hb.new hb28
   replace hr7 := hr7.new hb28
   refine zaa rfl (zcr rfl) ?_
   refine zaf (zai ?_)
   refine zh9 rfl (fun hnot => ?_) (fun hnot => ?_)
   ·
    refine zak ?_
    have hne2 : ¬ ch.num = n := by simpa using hnot
    rw [if_neg hne2] at hws
    have hTl2 := zcg hT
    have hTs := zo7 hT (i := i) (c := ch) (by omega) hcl
    refine zac (zaa rfl (zab) (zaa rfl (zab) ?_))
    refine zaa rfl (zam rfl (Ld.zb5 (k := 513) hr7 (by kernel_rfl) (by kernel_rfl) (by first | (simp; done) | (simp [zae, *]; done) | assumption))) ?_
    refine zaa rfl (zaQ (e := 73) (sz := 513) (by kernel_rfl) rfl rfl (i) (by omega) (by omega)) ?_
    refine za4 rfl (zhh (chV ch) (i * 513) h rfl rfl (by rw [hcl2]; kernel_rfl) (by first | (simp only [zae]; omega) | omega) hco (fun w902 h ho902 => ?_))
    replace hK := hK.only ho902 (by first | (simp; done) | (right; omega))
    replace hb := hb.only ho902 (by omega)
    replace hr7 := hr7.only ho902 (Nat.ne_of_gt lt_g_g7)
    rw [hTs] at h
    refine zaf (zai (zac (zaa rfl (zab) ?_)))
    refine zaa rfl (zaV rfl rfl (Coup.w64 (by omega))) ?_
    refine zaa rfl (zad) (zaf (za2 (zai (zac (zaa rfl (zab) ?_)))))
    refine zaa rfl (zaV rfl rfl (Coup.w64 (by omega))) ?_
    refine zaa rfl (zad) (zaf ?_)
    refine zbq ⟨(i + 1, j + 1, T.set i ch), by show m - (j + 1) < m - j; omega, ⟨by go_num, by go_num, rfl, rfl, rfl⟩, by show i + 1 < j + 1; omega, by show j + 1 ≤ m; omega, by show (T.set i ch).length = m; rw [List.length_set]; exact hTl, ?_, ?_, ?_, h, hb, hK⟩
    ·intro c hc
     rcases List.mem_or_eq_of_mem_set hc with e | e
     ·exact hT c e
     ·rw [e]; exact hcl
    ·intro k hk
     show (T.set i ch)[k]? = _
     rw [List.getElem?_set, if_neg (by have : j + 1 ≤ k := hk; omega)]
     exact hTR k (Nat.le_trans (Nat.le_succ _) hk)
    ·show (T.set i ch).take (i + 1) = without (R.take (j + 1)) n
     rw [hws, ← hTw, List.take_add_one, List.getElem?_set, if_pos rfl, if_pos (by omega), List.take_set_of_le (Nat.le_refl _)]; rfl
   ·
    have hne2 : ch.num = n := by simpa using hnot
    rw [if_pos hne2] at hws
    refine zau (za2 (zai (zac (zaa rfl (zab) ?_))))
    refine zaa rfl (zaV rfl rfl (Coup.w64 (by omega))) ?_
    refine zaa rfl (zad) (zaf ?_)
    refine zbq ⟨(i, j + 1, T), by show m - (j + 1) < m - j; omega, ⟨rfl, by go_num, rfl, rfl, rfl⟩, by show i < j + 1; omega, by show j + 1 ≤ m; omega, hTl, hT, fun k hk => hTR k (Nat.le_trans (Nat.le_succ _) hk), hTw.trans hws.symm, h, hb, hK⟩
  ·
   obtain rfl : j = m := by omega
   rw [List.take_of_length_le (l := R) (by omega)] at hTw
   have hln : (without R n).length = i := by rw [← hTw, List.length_take]; omega
   have hzo := zdq ⟨0, List.replicate 512 0⟩
   refine zbp (zbW (zb9 (zbw (zai (zak (zac (zaa rfl (zab) (zaa rfl (zab) ?_))))))))
   refine zaa rfl (zcJ (e := 73) (sz := 513) (i) (j) (c) (j - i) (by kernel_rfl) rfl ⟨_, _, rfl, by omega⟩ rfl rfl (by simp) (by omega) (by omega) (by omega) (by omega) (by omega)) ?_
   refine zaX rfl (zj4 (e0 := 73) (i) (by kernel_rfl) zeroCh (by kernel_rfl) hzo h rfl (by omega) (fun w903 zs903 hzs903 h ho903 => ?_))
   replace hK := hK.only ho903 (by first | (simp; done) | (right; omega))
   replace hb := hb.only ho903 (by omega)
   refine zaf (zai (zak (zac (zaa rfl (zab) (zaa rfl (zab) ?_)))))
   refine zaa rfl (zcJ (e := 73) (sz := 513) (0) (i) (c) (i) (by kernel_rfl) rfl rfl ⟨_, _, rfl, by omega⟩ rfl (by simp) (by omega) (by omega) (by omega) (by omega) (by omega)) ?_
   refine zaa rfl (zad) (zaf (zai (zax ?_)))
   refine zar [_] ⟨rfl, trivial⟩ ?_
   have hsh := zj5 h (n := i) (by omega)
   rw [zgO _ (by rw [zcg hT]; exact Nat.mul_le_mul_right _ (by omega)), zj6 hT, hTw] at hsh
   rw [hln]
   exact ⟨rfl, hsh, hK⟩
theorem znP {R : Rec} (h : zbD R) (k : Nat) : (zbT R).drop (k * 513) = zbT (R.drop k) := by
 by_cases hk : k ≤ R.length
 ·have h2 : zbD (R.take k) := fun c hc => h c (List.mem_of_mem_take hc)
  have e : zbT R = zbT (R.take k) ++ zbT (R.drop k) := by
   rw [zbT, zbT, zbT, ← List.flatMap_append, List.take_append_drop]
  have hl := zcg h2
  rw [List.length_take, Nat.min_eq_left hk] at hl
  rw [e, List.drop_left' hl]
 ·rw [List.drop_of_length_le (l := R) (by omega), List.drop_of_length_le]
  ·rfl
  ·rw [zcg h]
   exact Nat.mul_le_mul_right _ (by omega)
theorem zj9 {l n : List Value} : (splice l 0 n).take n.length = n := by simp [splice]
theorem zk4 {l n : List Value} (h : n.length ≤ l.length) : (splice l (0 * 513) n).length = l.length := by
 simp [splice]; omega
set_option maxRecDepth 20000 in
set_option maxHeartbeats 2000000 in
theorem deleteF (R : Rec) (hR : zbD R) (g o m c base : Nat) (hm : m = R.length) (h2 : 2 ≤ m) (w : World) (h : zeV w base 73 513 g o m c (zbT R)) :
  Calls Tryz.prog 85 [.slice (some ⟨g, o, none⟩) m c, .int .i64 0, .int .i64 1].toArray w (Ret fun v w' => v = .slice (some ⟨g, o, none⟩) (R.drop 1).length c ∧ zeV w' base 73 513 g o (R.drop 1).length c (zbT (R.drop 1)) ∧ KpB [g] w w') := by
 have hK := KpB.refl [g] w
 have hml : maxLen = 9223372036854775807 := by decide
 have hmx := h.sl.max
 have hgl := h.lt
 have hcap := own_le h
 have hsr := fun w' (h : zeV w' base 73 513 g o m c (zbT R)) => (show za9 w' (some ⟨g, o + 1 * 513, none⟩) (m - 1) 513 (zbT (R.drop 1)) from by
  have h1 := h.sl.sub 1 (m - 1) (by omega)
  rw [znP hR 1, List.take_of_length_le] at h1
  ·exact h1
  ·rw [zcg (fun c hc => hR c (List.mem_of_mem_drop hc)), List.length_drop, ← hm]; exact Nat.le_refl _)
 have hdl : (R.drop 1).length = m - 1 := by rw [List.length_drop, hm]
 have hd1 := zoU (R.drop 1)
 have hzo := zdq ⟨0, List.replicate 512 0⟩
 refine zaw (fn := Tryz.f85) (rs := [.tmp 6]) (n := 33) Tryz.func85 rfl rfl Tryz.ntmps85 (by kernel_rfl) rfl ?_
 refine zak (zac (zaa rfl (zad) (zaf (zai (zak (zac (zaa rfl (zab) (zaa rfl (zab) (zaa rfl (zab) (zaa rfl (zab) ?_))))))))))
 refine zaa rfl (zaA (e := 73) (sz := 513) (by kernel_rfl) rfl rfl) ?_
 refine zaa rfl (zcJ (e := 73) (sz := 513) (0) (1) (m) (1) (by kernel_rfl) rfl ⟨_, _, rfl, by omega⟩ ⟨_, _, rfl, by omega⟩ ⟨_, _, rfl, by omega⟩ (by simp) (by omega) (by omega) (by omega) (by omega) (by omega)) ?_
 refine zaf (zai (zak (zak (zac (zaa rfl (zab) (zaa rfl (zab) ?_))))))
 refine zaa rfl (zbr rfl rfl) ?_
 refine zaf (zai ?_)
 refine zdT rfl ((by omega)) ?_
 refine zau (zai (zak (zac (zaa rfl (zab) ?_))))
 refine zaa rfl (zaA (e := 73) (sz := 513) (by kernel_rfl) rfl rfl) ?_
 refine zaa rfl (zad) (zaf (zai (zak ?_)))
 refine zbg [g] (by kernel_rfl) ?_
 intro w901 hb901 hS901
 replace hK := hK.new hb901
 replace h := h.new hb901
 have hK_d901 := hK
 have h_d901 := h
 refine zah 0 (by kernel_rfl) rfl (fun _ _ => zab) ?_
 refine zah 1 (by kernel_rfl) rfl (fun _ _ => zab) ?_
 refine zah 2 (by kernel_rfl) rfl (fun _ _ => zcJ (e := 73) (sz := 513) (0) (0) (c) (0) (by kernel_rfl) rfl rfl ⟨_, _, rfl, by omega⟩ rfl (by simp) (by omega) (by omega) (by omega) (by omega) (by omega)) ?_
 refine zah 3 (by kernel_rfl) rfl (fun _ _ => zab) ?_
 refine zah 4 (by kernel_rfl) rfl (fun _ _ => zab) ?_
 refine zah 5 (by kernel_rfl) rfl (fun _ _ => zcJ (e := 73) (sz := 513) (1) (m) (c) (m - 1) (by kernel_rfl) rfl ⟨_, _, rfl, by omega⟩ rfl rfl (by simp) (by omega) (by omega) (by omega) (by omega) (by omega)) ?_
 refine zaS 6 (by kernel_rfl) ?_
 refine zbN rfl rfl (zmy (e := 73) (sz := 513) (by kernel_rfl) rfl (by kernel_rfl) rfl h rfl (hsr _ h) hd1 (by omega) (fun w26 h ho26 => ?_))
 have hS902 := hS901.aq ho26
 refine ⟨hS902, ?_⟩
 replace hK := hK.only ho26 (by first | (simp; done) | (right; omega))
 refine zah 7 (by kernel_rfl) rfl (fun _ _ => zad) ?_
 refine zaR (by kernel_rfl) ?_
 refine zai (zak (zac (zaa rfl (zab) (zaa rfl (zab) ?_))))
 refine zaa rfl (zaA (e := 73) (sz := 513) (by kernel_rfl) rfl rfl) ?_
 refine zaa rfl (zab) ?_
 refine zaa rfl (zcJ (e := 73) (sz := 513) (m - 1) (m) (c) (1) (by kernel_rfl) rfl ⟨_, _, rfl, by omega⟩ ⟨_, _, rfl, by omega⟩ rfl (by simp) (by omega) (by omega) (by omega) (by omega) (by omega)) ?_
 refine zaX rfl (zj4 (e0 := 73) ((m - 1)) (by kernel_rfl) zeroCh (by kernel_rfl) hzo h rfl (by omega) (fun w903 zs903 hzs903 h ho903 => ?_))
 replace hK := hK.only ho903 (by first | (simp; done) | (right; omega))
 refine zaf (zai (zak (zac (zaa rfl (zab) (zaa rfl (zad) (zaf (zai (zax ?_))))))))
 refine zar [_] ⟨rfl, trivial⟩ ?_
 have hsh := zj5 h (n := m - 1) (by omega)
 have hld := zcg (fun c hc => hR c (List.mem_of_mem_drop hc) : zbD (R.drop 1))
 rw [hdl] at hld
 have hlR := zcg hR
 rw [zgO _ (by rw [zk4 (by omega)]; omega), Nat.zero_mul, Nat.add_zero, Nat.sub_zero, ← hld, zj9] at hsh
 rw [hdl]
 exact ⟨by show Value.slice (some ⟨g, o + 0 * 513, none⟩) (0 + (m - 1)) (c - 0) = _; rw [Nat.zero_mul, Nat.add_zero, Nat.zero_add, Nat.sub_zero], hsh, hK⟩
end Go.Proofs.YtielfpkjoidomaaGreat
namespace Go.Proofs
open Go.Shelf
def Tryz.zka : Go.Shelf.Ren := ⟨fun | 7 => 64 | 10 => 90 | n => n, fun | 23 => 51 | 26 => 3 | 3 => 37 | 28 => 103 | 0 => 0 | 27 => 102 | 33 => 132 | 4 => 4 | n => n, fun | n => n⟩
theorem Tryz.zfJ : Go.Proofs.SlLaysZI.n7 Tryz.prog Tryz.zka := {
 mixed := by kernel_rfl
 f7 := ⟨Tryz.f64.name, by decide, Tryz.func64.trans (congrArg some (by kernel_rfl))⟩
 f10 := ⟨Tryz.f90.name, by decide, Tryz.func90.trans (congrArg some (by kernel_rfl))⟩
 t0 := Tryz.underlying0
 a0 := Tryz.isAgg0
 z0 := Tryz.sizeOf0
 v0 := Tryz.zeroValue0
 t4 := Tryz.underlying4
 a4 := Tryz.isAgg4
 z4 := Tryz.sizeOf4
 v4 := Tryz.zeroValue4
 t23 := Tryz.underlying51
 a23 := Tryz.isAgg51
 z23 := Tryz.sizeOf51
 v23 := Tryz.zeroValue51
 t26 := Tryz.underlying3
 a26 := Tryz.isAgg3
 z26 := Tryz.sizeOf3
 v26 := Tryz.zeroValue3
 t27 := Tryz.underlying102
 a27 := Tryz.isAgg102
 z27 := Tryz.sizeOf102
 v27 := Tryz.zeroValue102
 t28 := Tryz.underlying103
 a28 := Tryz.isAgg103
 z28 := Tryz.sizeOf103
 v28 := Tryz.zeroValue103
 t33 := Tryz.underlying132
 a33 := Tryz.isAgg132
 z33 := Tryz.sizeOf132
 v33 := Tryz.zeroValue132 }
end Go.Proofs
namespace Go.Proofs.YtielfpkjoidomaaGreat
open Go Go.RowKit Go.Maps Go.Sort Go.Shelf Coup
theorem keysCP (mb : Option Nat) (w : World) : Calls Tryz.prog 64 [.map mb].toArray w (Ret fun v w' => v = .func (.func 90) #[] #[.pointer (some ⟨w.heap.size, 0, none⟩)] ∧ w' = w.alloc (.cells #[.map mb] 51) ∧ Below w.heap.size w w') := by
 have h : CallsIn Fence.wide 5 Tryz.prog 64 #[.map mb] w fun e w' => e = .returned (.func (.func 90) #[] #[.pointer (some ⟨w.heap.size, 0, none⟩)]) ∧ w' = w.alloc (.cells #[.map mb] 51) := AnyZI.keys_in Tryz.zfJ Fence.wide 5 trivial rfl mb w
 refine (callsIn_wide.1 h).mono ?_
 rintro e w' ⟨rfl, rfl⟩
 exact ⟨_, rfl, rfl, rfl, (Below.refl _ w).alloc (Nat.le_refl _) _⟩
theorem zo8 {b N : Nat} {f : Nat → Option Value} (w W : World) (hW : W = w.alloc (.cells #[.map (some b)] 51)) (h : MapAt Tryz.prog 3 w b N f) (hN : N ≤ 1000000) :
  Calls Tryz.prog 63 [.func (.func 90) #[] #[.pointer (some ⟨w.heap.size, 0, none⟩)]].toArray W (Ret fun v w' => ∃ p c, v = .slice p (keysOf f 0 N).length c ∧ za9 w' p (keysOf f 0 N).length 1 (iv (keysOf f 0 N)) ∧ (∀ b o, p = some ⟨b, o, none⟩ → W.heap.size ≤ b) ∧ Below W.heap.size W w') := by
 subst hW
 have hbl := h.lt
 have hle := ziQ f N 0
 have hml : maxLen = 9223372036854775807 := by decide
 have hsz : Maps.size (DataW.map (kvL f 0 N)) ≤ N := hle
 have hown : (w.alloc (.cells #[.map (some b)] 51)).ownsMap Tryz.prog 3 RH b N (.map (kvL f 0 N)) := by
  obtain ⟨es, clock, hb, Ft, hs, hD⟩ := h
  exact ⟨es, clock, (Below.heap_alloc _ _ b hbl).trans hb, Ft, hs, hD⟩
 have hseq : SeqGives Fence.wide 2 Tryz.prog 90 #[.pointer (some ⟨w.heap.size, 0, none⟩)] encZ (fun ss => ss.Perm (intKeys (DataW.map (kvL f 0 N)))) (Maps.size (DataW.map (kvL f 0 N))) (w.alloc (.cells #[.map (some b)] 51)) :=
  AnyZI.keys_gives (ρ := Tryz.zka) { Tryz.zfJ with } Fence.wide _ trivial rfl (by omega) w.heap.size b N _ _ (by simp) (by simp) hown
 have cS := AnyZI.sorted_in Tryz.zna Fence.wide 5 trivial trivial trivial trivial rfl (by omega) (sortsA _) (enters_of Tryz.func89 (by kernel_rfl) rfl) 90 #[.pointer (some ⟨w.heap.size, 0, none⟩)] trivial (enters_of Tryz.func90 (by kernel_rfl) rfl) _ _ (by omega) (by omega) _ hseq
 change CallsIn _ _ Tryz.prog 63 _ _ _ at cS
 refine (callsIn_wide.1 cS).mono ?_
 rintro e w' ⟨v, ss, rfl, hS, hrow, hnil, hb⟩
 have hlen : ss.length = (keysOf f 0 N).length := by rw [← zfe, hS.length_eq]
 rw [zfX f N 0 hS, hlen] at hrow
 have ho := zfP hrow
 obtain ⟨p, c, rfl⟩ := ho.form
 exact ⟨_, rfl, p, c, rfl, ho.sl, fun b o e => (ho.lt b (by rw [e]; rfl)).1, hb⟩
end Go.Proofs.YtielfpkjoidomaaGreat
namespace Go.Proofs.YtielfpkjoidomaaGreat
open Go Go.RowKit Coup
set_option maxRecDepth 20000 in
theorem keysF {m N : Nat} {f : Nat → Option Value} (w : World) (h : MapAt Tryz.prog 3 w m N f) (hN : N ≤ 1000000) :
  Calls Tryz.prog 36 [.map (some m)].toArray w (Ret fun v w' => (∃ p c, v = .slice p (keysOf f 0 N).length c ∧ za9 w' p (keysOf f 0 N).length 1 (iv (keysOf f 0 N)) ∧ ∀ b o, p = some ⟨b, o, none⟩ → w.heap.size ≤ b) ∧ Below w.heap.size w w') := by
 have hB := Below.refl w.heap.size w
 have hS := fun w' W hW (h' : MapAt Tryz.prog 3 w' m N f) => zo8 w' W hW h' hN
 refine zaw (fn := Tryz.f36) (rs := [.tmp 2]) (n := 6) Tryz.func36 rfl rfl Tryz.ntmps36 (by kernel_rfl) rfl ?_
 refine zak (zac (zaa rfl (zad) (zaf (zai (zak (zac (zaa rfl (zab) ?_)))))))
 refine zat rfl (zao (by kernel_rfl) rfl) (keysCP (some m) w) ?_
 rintro _ w4 ⟨rfl, hkw, hb4⟩
 replace hB := hB.acc hb4
 have hsz := hB.size
 refine zat rfl (zao (by kernel_rfl) rfl) (hS w w4 hkw h) ?_
 rintro _ w5 ⟨p, c, rfl, hsl, hpb, hb5⟩
 replace hB := hB.acc hb5
 refine zaa rfl (zad) (zaf (zai (zax ?_)))
 refine zar [_] ⟨rfl, trivial⟩ ?_
 exact ⟨⟨p, c, rfl, hsl, fun b o e => Nat.le_trans hsz (hpb b o e)⟩, hB⟩
abbrev Pg := List UInt8
abbrev PgM := Nat → Option Pg
def pgV (b : Pg) : Value := .agg (bv b).toArray
def zeA (c : PgM) : Nat → Option Value := fun i => (c i).map pgV
def zdB (c : PgM) (i : Nat) (v : Option Pg) : PgM := fun j => if j = i then v else c j
def noP : PgM := fun _ => none
theorem zlK (c : PgM) (i : Nat) (v : Option Pg) : zh0 (zeA c) i (v.map pgV) = zeA (zdB c i v) := by
 funext j
 unfold zh0 zeA zdB
 split <;> rfl
theorem zhC (c : PgM) (i : Nat) (b : Pg) : zh0 (zeA c) i (some (.agg (bv b).toArray)) = zeA (zdB c i (some b)) := zlK c i (some b)
theorem znQ (c : PgM) (i : Nat) : zh0 (zeA c) i none = zeA (zdB c i none) := zlK c i none
structure Pl where
 D : Dk
 G : Lg
 fr : Nat
 ch : PgM
 di : PgM
 cl : Rec
 dead : Bool
def Pl.n (P : Pl) : Nat := zfr P.D.V.length P.G.size
structure zh2 (P : Pl) : Prop where
 lg : zo1 P.D P.G
 n4 : 4 ≤ P.n
 fr2 : 2 ≤ P.fr
 frm : P.fr ≤ 100
 ch : ∀ i b, P.ch i = some b → b.length = 512
 di : ∀ i b, P.di i = some b → b.length = 512
 cl : zbD P.cl
 cll : P.cl.length ≤ P.fr
def plV (g x s f mc md : Nat) (rv : Value) (dead : Bool) : List Value := [.pointer (some ⟨g, 0, none⟩), .pointer (some ⟨x, 0, none⟩), .int .i64 (s : Int), .int .i64 (f : Int), .map (some mc), .map (some md), rv, .bool dead]
structure zbc (g x q mc md : Nat) (rv cv : Value) (Y : World → List Nat → Prop) (lo : Nat) (L : List Nat) (P : Pl) (w : World) : Prop where
 lg : zdz g x Y lo (cv.ownBlock.toList ++ q :: mc :: md :: L) P.D P.G w
 row : row w q (plV g x P.G.size P.fr mc md rv P.dead) 54
 mch : MapAt Tryz.prog 3 w mc P.n (zeA P.ch)
 mdi : MapAt Tryz.prog 3 w md P.n (zeA P.di)
 own : zaJ w 0 73 513 cv P.cl.length (zbT P.cl)
 qm : q ≠ mc
 qd : q ≠ md
 md' : mc ≠ md
 cq : ∀ b ∈ cv.ownBlock.toList, b ≠ q ∧ b ≠ mc ∧ b ≠ md ∧ lo ≤ b ∧ b ∉ L
 ql : lo ≤ q ∧ q ∉ L
 mcl : lo ≤ mc ∧ mc ∉ L
 mdl : lo ≤ md ∧ md ∉ L
def PZ (q : Nat) (P : Pl) : World → List Nat → Prop := fun w B => ∃ g x mc md cv BD, B = BD ++ (x :: (cv.ownBlock.toList ++ [q, mc, md])) ∧ DkX w g BD P.D ∧ Coup.row w x (lgV g P.G) 109 ∧
 Coup.row w q (plV g x P.G.size P.fr mc md cv P.dead) 54 ∧ MapAt Tryz.prog 3 w mc P.n (zeA P.ch) ∧ MapAt Tryz.prog 3 w md P.n (zeA P.di) ∧ zaJ w 0 73 513 cv P.cl.length (zbT P.cl) ∧
 (∀ b ∈ BD, b ∉ (x :: (cv.ownBlock.toList ++ [q, mc, md]))) ∧ x ∉ cv.ownBlock.toList ++ [q, mc, md] ∧ q ≠ mc ∧ q ≠ md ∧ mc ≠ md ∧ ∀ b ∈ cv.ownBlock.toList, b ≠ q ∧ b ≠ mc ∧ b ≠ md
instance (q : Nat) (P : Pl) : Thing (PZ q P) :=
 ⟨fun {w w' B M} ⟨g, x, mc, md, cv, BD, e, h1, h2, h3, h4, h5, h6, h7⟩ k hM => by
   subst e
   exact ⟨g, x, mc, md, cv, BD, rfl, h1.kpd k fun b hb => hM b (by simp [hb]), h2.kpd k (hM x (by simp)), h3.kpd k (hM q (by simp)), h4.kpd k (hM mc (by simp)), h5.kpd k (hM md (by simp)), h6.kpd k (fun b hb e => hM b (by simp [e]) hb), h7⟩,
  fun {w B} ⟨g, x, mc, md, cv, BD, e, h1, h2, h3, h4, h5, h6, h7⟩ b hb => by
   subst e
   simp only [List.mem_append, List.mem_cons, List.not_mem_nil, or_false] at hb
   rcases hb with hb | rfl | hb | rfl | rfl | rfl
   ·exact h1.lt b hb
   ·exact h2.lt
   ·exact (h6.lt b (Option.mem_toList.1 hb)).2
   ·exact h3.lt
   ·exact h4.lt
   ·exact h5.lt⟩
section
variable {Y : World → List Nat → Prop} {g x q mc md lo gc : Nat} {rv cv cv2 : Value} {L L2 M : List Nat} {P : Pl} {w w' : World}
namespace zbc
theorem lo' (h : zbc g x q mc md rv cv Y lo L P w) : lo ≤ w.heap.size := h.lg.two.lo
theorem lts (h : zbc g x q mc md rv cv Y lo L P w) : q < w.heap.size ∧ mc < w.heap.size ∧ md < w.heap.size := ⟨h.row.lt, h.mch.lt, h.mdi.lt⟩
theorem ltL (h : zbc g x q mc md rv cv Y lo L P w) : ∀ b ∈ L, b < w.heap.size := fun b hb => h.lg.two.lt b (by simp [hb])
theorem kpd [hY : Thing Y] (h : zbc g x q mc md rv cv Y lo L P w) (k : Kp M w w') (hM : ∀ b ∈ M, b < lo ∨ b ∈ L) : zbc g x q mc md rv cv Y lo L P w' := by
 have hn : ∀ b, lo ≤ b ∧ b ∉ L → b ∉ M := fun b hb hm => (hM b hm).elim (fun hl => absurd hb.1 (Nat.not_le.2 hl)) hb.2
 exact ⟨h.lg.kpd k fun b hb => (hM b hb).imp id fun hm => by simp [hm], h.row.kpd k (hn q h.ql), h.mch.kpd k (hn mc h.mcl), h.mdi.kpd k (hn md h.mdl), h.own.kpd k fun b hb e => hn b (h.cq b (by simp [e])).2.2.2 hb, h.qm, h.qd, h.md', h.cq, h.ql, h.mcl, h.mdl⟩
theorem new [hY : Thing Y] (h : zbc g x q mc md rv cv Y lo L P w) (hb : Below w.heap.size w w') : zbc g x q mc md rv cv Y lo L P w' := h.kpd (M := []) (Kp.of_below hb) (by simp)
theorem only [hY : Thing Y] (h : zbc g x q mc md rv cv Y lo L P w) (ho : Only gc w w') (hg : gc < lo ∨ gc ∈ L) : zbc g x q mc md rv cv Y lo L P w' := h.kpd (Kp.zbx ho) fun b hb => by rw [List.mem_singleton.1 hb]; exact hg
theorem weak (h : zbc g x q mc md rv cv Y lo L P w) (h2 : ∀ b ∈ L2, b ∈ L) : zbc g x q mc md rv cv Y lo L2 P w :=
 ⟨h.lg.weak fun b hb => by
  simp only [List.mem_append, List.mem_cons] at hb ⊢
  rcases hb with hm | hm | hm | hm | hm
  ·exact .inl hm
  ·exact .inr (.inl hm)
  ·exact .inr (.inr (.inl hm))
  ·exact .inr (.inr (.inr (.inl hm)))
  ·exact .inr (.inr (.inr (.inr (h2 b hm)))), h.row, h.mch, h.mdi, h.own, h.qm, h.qd, h.md', fun b hb => ⟨(h.cq b hb).1, (h.cq b hb).2.1, (h.cq b hb).2.2.1, (h.cq b hb).2.2.2.1, fun hm => (h.cq b hb).2.2.2.2 (h2 b hm)⟩, ⟨h.ql.1, fun hm => h.ql.2 (h2 _ hm)⟩, ⟨h.mcl.1, fun hm => h.mcl.2 (h2 _ hm)⟩, ⟨h.mdl.1, fun hm => h.mdl.2 (h2 _ hm)⟩⟩
theorem newc [hY : Thing Y] (h : zbc g x q mc md rv cv Y lo L P w) (hb : Below w.heap.size w w') (hg : w.heap.size ≤ gc) (hg' : gc < w'.heap.size) : zbc g x q mc md rv cv Y lo (gc :: L) P w' := by
 have h2 := h.new hb
 have hlt := h.lts
 refine ⟨(h.lg.newc hb hg hg').weak fun b hb => ?_, h2.row, h2.mch, h2.mdi, h2.own, h.qm, h.qd, h.md', fun b hb => ⟨(h.cq b hb).1, (h.cq b hb).2.1, (h.cq b hb).2.2.1, (h.cq b hb).2.2.2.1, fun hm => ?_⟩, ⟨h.ql.1, fun hm => ?_⟩, ⟨h.mcl.1, fun hm => ?_⟩, ⟨h.mdl.1, fun hm => ?_⟩⟩
 ·simp only [List.mem_append, List.mem_cons] at hb ⊢
  rcases hb with hm | hm | hm | hm | hm | hm
  ·exact .inr (.inl hm)
  ·exact .inr (.inr (.inl hm))
  ·exact .inr (.inr (.inr (.inl hm)))
  ·exact .inr (.inr (.inr (.inr (.inl hm))))
  ·exact .inl hm
  ·exact .inr (.inr (.inr (.inr (.inr hm))))
 ·rcases List.mem_cons.1 hm with rfl | hm
  ·have := (h.own.lt b (Option.mem_toList.1 hb)).2; omega
  ·exact (h.cq b hb).2.2.2.2 hm
 ·rcases List.mem_cons.1 hm with rfl | hm
  ·omega
  ·exact h.ql.2 hm
 ·rcases List.mem_cons.1 hm with rfl | hm
  ·omega
  ·exact h.mcl.2 hm
 ·rcases List.mem_cons.1 hm with rfl | hm
  ·omega
  ·exact h.mdl.2 hm
theorem xne (h : zbc g x q mc md rv cv Y lo L P w) : x ≠ q ∧ x ≠ mc ∧ x ≠ md ∧ x ∉ cv.ownBlock.toList ∧ x ∉ L := by
 have h2n := h.lg.ni
 simp only [List.mem_append, List.mem_cons, not_or] at h2n
 exact ⟨h2n.2.1, h2n.2.2.1, h2n.2.2.2.1, h2n.1, h2n.2.2.2.2⟩
theorem setRow [hY : Thing Y] {rv2 : Value} {b : Bool} (h : zbc g x q mc md rv cv Y lo L P w) (hr : Coup.row w' q (plV g x P.G.size P.fr mc md rv2 b) 54) (ho : Only q w w') : zbc g x q mc md rv2 cv Y lo L { P with dead := b } w' :=
 ⟨h.lg.only ho (.inr (by simp)), hr, h.mch.only ho (Ne.symm h.qm), h.mdi.only ho (Ne.symm h.qd), h.own.kpd (Kp.zbx ho) (fun b hb e => by rw [List.mem_singleton.1 hb] at e; exact (h.cq q (by simp [e])).1 rfl), h.qm, h.qd, h.md', h.cq, h.ql, h.mcl, h.mdl⟩
theorem zfK [hY : Thing Y] {c : PgM} (h : zbc g x q mc md rv cv Y lo L P w) (hr : MapAt Tryz.prog 3 w' mc P.n (zeA c)) (ho : Only mc w w') : zbc g x q mc md rv cv Y lo L { P with ch := c } w' :=
 ⟨h.lg.only ho (.inr (by simp)), h.row.only ho h.qm, hr, h.mdi.only ho (Ne.symm h.md'), h.own.kpd (Kp.zbx ho) (fun b hb e => by rw [List.mem_singleton.1 hb] at e; exact (h.cq mc (by simp [e])).2.1 rfl), h.qm, h.qd, h.md', h.cq, h.ql, h.mcl, h.mdl⟩
theorem setDi [hY : Thing Y] {c : PgM} (h : zbc g x q mc md rv cv Y lo L P w) (hr : MapAt Tryz.prog 3 w' md P.n (zeA c)) (ho : Only md w w') : zbc g x q mc md rv cv Y lo L { P with di := c } w' :=
 ⟨h.lg.only ho (.inr (by simp)), h.row.only ho h.qd, h.mch.only ho h.md', hr, h.own.kpd (Kp.zbx ho) (fun b hb e => by rw [List.mem_singleton.1 hb] at e; exact (h.cq md (by simp [e])).2.2.1 rfl), h.qm, h.qd, h.md', h.cq, h.ql, h.mcl, h.mdl⟩
theorem zlL [hY : Thing Y] {R : Rec} (h : zbc g x q mc md rv cv Y lo L P w) (hv : zaJ w' 0 73 513 cv2 R.length (zbT R)) (k : Kp cv.ownBlock.toList w w') (hf : ∀ b, cv2.ownBlock = some b → cv.ownBlock = some b ∨ w.heap.size ≤ b) : zbc g x q mc md rv cv2 Y lo L { P with cl := R } w' := by
 have hlt := h.lts
 have hx := h.xne
 have hloz := h.lo'
 have hLl := h.ltL
 have hG := h.lg.kpd k fun b hb => .inr (by simp [hb])
 have hS : ∀ b ∈ cv2.ownBlock.toList, b ∈ cv.ownBlock.toList ∨ w.heap.size ≤ b := fun b hb => (hf b (Option.mem_toList.1 hb)).imp (fun e => Option.mem_toList.2 e) id
 have hc2 : ∀ b ∈ cv2.ownBlock.toList, b ≠ q ∧ b ≠ mc ∧ b ≠ md ∧ lo ≤ b ∧ b ∉ L := fun b hb => (hS b hb).elim (h.cq b) fun hs => ⟨by omega, by omega, by omega, by omega, fun hm => by have := hLl b hm; omega⟩
 obtain ⟨⟨⟨B, C, h1, h2, h3, h4⟩, h5, h6⟩, h7, h8, h9⟩ := h.lg
 have hDl := fun b hb => (inferInstance : Thing (DZ g P.D)).lt h1 b hb
 have hYl := fun b hb => hY.lt h2 b hb
 refine ⟨⟨⟨⟨B, C, ?_, ?_, fun b hb => ⟨(h3 b hb).1, (h3 b hb).2.1, fun hm => ?_⟩, fun b hb => ⟨(h4 b hb).1, fun hm => ?_⟩⟩, Nat.le_trans h5 k.size, fun b hm => ?_⟩, hG.rowx, h8, fun hm => ?_⟩, h.row.kpd k fun hm => (h.cq q hm).1 rfl, h.mch.kpd k fun hm => (h.cq mc hm).2.1 rfl, h.mdi.kpd k fun hm => (h.cq md hm).2.2.1 rfl, hv, h.qm, h.qd, h.md', hc2, h.ql, h.mcl, h.mdl⟩
 ·exact (inferInstance : Thing (DZ g P.D)).kpd h1 k fun b hb hm => (h3 b hb).2.2 (by simp [hm])
 ·exact hY.kpd h2 k fun b hb hm => (h4 b hb).2 (by simp [hm])
 ·have h3b := (h3 b hb).2.2
  simp only [List.mem_cons, List.mem_append, not_or] at h3b hm
  rcases hm with hm | hm | hm | hm | hm | hm
  ·exact h3b.1 hm
  ·exact (hS b hm).elim h3b.2.1 fun hs => by have := hDl b hb; omega
  ·exact h3b.2.2.1 hm
  ·exact h3b.2.2.2.1 hm
  ·exact h3b.2.2.2.2.1 hm
  ·exact h3b.2.2.2.2.2 hm
 ·have h4b := (h4 b hb).2
  simp only [List.mem_cons, List.mem_append, not_or] at h4b hm
  rcases hm with hm | hm | hm | hm | hm | hm
  ·exact h4b.1 hm
  ·exact (hS b hm).elim h4b.2.1 fun hs => by have := hYl b hb; omega
  ·exact h4b.2.2.1 hm
  ·exact h4b.2.2.2.1 hm
  ·exact h4b.2.2.2.2.1 hm
  ·exact h4b.2.2.2.2.2 hm
 ·simp only [List.mem_cons, List.mem_append] at hm
  rcases hm with hm | hm | hm | hm | hm | hm
  ·exact Nat.lt_of_lt_of_le (h6 b (by simp [hm])) k.size
  ·exact (hv.lt b (Option.mem_toList.1 hm)).2
  ·exact Nat.lt_of_lt_of_le (h6 b (by simp [hm])) k.size
  ·exact Nat.lt_of_lt_of_le (h6 b (by simp [hm])) k.size
  ·exact Nat.lt_of_lt_of_le (h6 b (by simp [hm])) k.size
  ·exact Nat.lt_of_lt_of_le (h6 b (by simp [hm])) k.size
 ·simp only [List.mem_append, List.mem_cons] at hm
  rcases hm with hm | hm | hm | hm | hm
  ·refine (hS x hm).elim hx.2.2.2.1 fun hs => ?_
   have := h7.lt; omega
  ·exact hx.1 hm
  ·exact hx.2.1 hm
  ·exact hx.2.2.1 hm
  ·exact hx.2.2.2.2 hm
theorem setLg {D : Dk} {G : Lg} (h : zbc g x q mc md rv cv Y lo L P w) (hG : zdz g x Y lo (cv.ownBlock.toList ++ q :: mc :: md :: L) D G w') (k : LoL lo (cv.ownBlock.toList ++ q :: mc :: md :: L) w w') (hs : G.size = P.G.size) (hD : D.V.length = P.D.V.length) : zbc g x q mc md rv cv Y lo L { P with D := D, G := G } w' := by
 have hn : ({ P with D := D, G := G } : Pl).n = P.n := by unfold Pl.n; dsimp only; rw [hs, hD]
 refine ⟨hG, ?_, ?_, ?_, h.own.kpd k.kp fun b hb e => zaH (.inr (by simp [e])) hb, h.qm, h.qd, h.md', h.cq, h.ql, h.mcl, h.mdl⟩
 ·dsimp only; rw [hs]; exact h.row.kpd k.kp (zaH (.inr (by simp)))
 ·rw [hn]; exact h.mch.kpd k.kp (zaH (.inr (by simp)))
 ·rw [hn]; exact h.mdi.kpd k.kp (zaH (.inr (by simp)))
theorem outLo (h : zbc g x q mc md rv cv Y lo L P w) (k : LoL lo (cv.ownBlock.toList ++ q :: mc :: md :: L) w w') : LoL lo L w w' := k.weak (Nat.le_refl _) fun b hb => by simp [hb]
theorem outC (h : zbc g x q mc md rv cv Y lo L P w) (k : Kp cv.ownBlock.toList w w') : LoL lo L w w' := LoL.zhp k fun b hb => .inl (h.cq b hb).2.2.2
end zbc
end
end Go.Proofs.YtielfpkjoidomaaGreat
