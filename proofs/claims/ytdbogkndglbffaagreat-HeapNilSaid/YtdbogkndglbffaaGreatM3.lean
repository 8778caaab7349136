import Derived.Test.YtdbogkndglbffaaGreatM2
import Derived.Test.YtdbogkndglbffaaGreatM0
import Derived.Test.YtdbogkndglbffaaGreatM1
import Derived.Lib.BufferWrite
namespace Go.Proofs.YtdbogkndglbffaaGreat
open Go Go.RowKit Coup
theorem zh6 (p : Option Addr) (n c : Nat) (l : List UInt8) (i : Nat) (w : World) (h : zaT w p n 128 (bv l)) (hi : i / 2 < n) (hn : n ≤ 1000000) :
 Calls Tryz.prog 197 [.slice p n c, .int .i64 i].toArray w (Ret fun v w' => v = .agg (bv (zaC l i)).toArray ∧ Below w.heap.size w w') := zdd (half32 p n c l i w h hi hn)
theorem zj8 (hb : List UInt8) (hl : hb.length = 64) (b : Bool) (hm : zga (zbn hb) (zd4 hb) = b) (w : World) :
  Calls Tryz.prog 196 [.agg (bv hb).toArray].toArray w (Ret fun v w' => v = .tuple #[.agg (zbD (zbn hb) (zd4 hb) (zeI hb) (zcH hb) (zdi hb)).toArray, .bool b] ∧ Below w.heap.size w w') := by
 have := zdd (read31 hb hl w)
 rwa [hm] at this
theorem zcZ (w : World) : Calls Tryz.prog 195 [].toArray w (Ret fun v w' => v = zop ∧ Below w.heap.size w w') := zdd (none30 w)
theorem zm5 (p : Option Addr) (n c : Nat) (l : List UInt8) (w : World) (h : zaT w p n 1 (bv l)) (hn : n ≤ 8) : Calls Tryz.prog 198 [.slice p n c].toArray w (Ret fun v w' => v = .int .u64 (zc4 l) ∧ w = w') := zdd (zfl p n c l w h hn)
def zlI (h : List UInt8) (c nn i m : Nat) : Bool := zga (zbn h) (zd4 h) && decide (zbn h = c ∧ zd4 h = nn) && decide (zeI h = i) && decide (zcH h = m)
def bodies (l : List UInt8) (m : Nat) : List UInt8 := (List.range m).flatMap fun i => zdi (zaC l i)
theorem zgD (l : List UInt8) (m : Nat) : bodies l (m + 1) = bodies l m ++ zdi (zaC l m) := by simp [bodies, List.range_succ]
theorem zfn (l : List UInt8) : ∀ m, 64 * m ≤ l.length → (bodies l m).length = 48 * m
 | 0, _ => rfl
 | m + 1, h => by rw [zgD, List.length_append, zfn l m (by omega), zdi, List.length_drop, zcG _ _ (by omega)]; omega
def zfH (l : List UInt8) (m : Nat) : Nat := zc4 ((bodies l m).take 4)
def zfX (l : List UInt8) (c nn m : Nat) : Bool :=
 (List.range m).all (fun i => zlI (zaC l i) c nn i m) && decide (zfH l m ≤ 32768) && decide (zcM (zfH l m) = m) && ((bodies l m).drop (4 + zfH l m)).all (· == 0)
def zj9 (l : List UInt8) (n c nn m : Nat) : Bool := zga c nn && decide (1 ≤ m) && decide (m ≤ 683) && decide ((m + 1) / 2 ≤ n)
def zbZ (l : List UInt8) (n : Nat) : Bool :=
 decide (0 < n) && zj9 l n (zbn (zaC l 0)) (zd4 (zaC l 0)) (zcH (zaC l 0)) && zfX l (zbn (zaC l 0)) (zd4 (zaC l 0)) (zcH (zaC l 0))
def zbA (l : List UInt8) : List UInt8 := ((bodies l (zcH (zaC l 0))).drop 4).take (zfH l (zcH (zaC l 0)))
def JR (l : List UInt8) (n : Nat) (w : World) (v : Value) (w' : World) : Prop :=
 Below w.heap.size w w' ∧ ((zbZ l n = false ∧ v = zop) ∨ (zbZ l n = true ∧ ∃ sp, v = .tuple #[.agg #[.int .u64 (zbn (zaC l 0)), .int .i64 (zd4 (zaC l 0))], .slice sp (zbA l).length (zbA l).length, .int .i64 (zb2 (zbA l).length : Nat), .int .i64 0] ∧
  zaT w' sp (zbA l).length 1 (bv (zbA l))))
theorem zor (l : List UInt8) (m : Nat) : zfH l m < 4294967296 := zbV _ 4 (by simp; omega)
set_option maxRecDepth 20000 in
theorem join0 (p : Option Addr) (cp : Nat) (l : List UInt8) (w : World) : Calls Tryz.prog 188 [.slice p 0 cp].toArray w (Ret fun v w' => JR l 0 w v w') := by
 have hB := Below.refl w.heap.size w
 have hJ : zbZ l 0 = false := by simp [zbZ]
 refine zas (fn := Tryz.f188) (rs := [.cell 2 212, .tmp 3, .tmp 4, .tmp 5]) (n := 152) Tryz.func188 rfl rfl Tryz.ntmps188 (by kernel_rfl) rfl ?_
 refine zaf (zaa ?_)
 refine zay rfl (zar ([.int .u64 0, .int .i64 0]) (by kernel_rfl) (fun g2 w2 hg2 hr2 hb2 => ?_))
 have ge_hB_g2 := Nat.le_trans hB.size hg2
 replace hB := hB.acc hb2
 refine zad (zac) (zad (zac) (zad (zac) (zae (zah (zaf (zaa (zad (zac) (zae (zah (zaf (zaf ?_)))))))))))
 refine zaa (zad (zab) ?_)
 refine zad (zaJ (e := 172) (sz := 128) (by kernel_rfl) rfl rfl) ?_
 refine zad (za9 rfl rfl) ?_
 refine zae (zah ?_)
 refine ze6 rfl (rfl) ?_
 refine zaf (zaa (zad (zab) ?_))
 refine zao rfl (zbL (by kernel_rfl) rfl rfl) (zcZ w2) ?_
 rintro _ w20 ⟨rfl, hb20⟩
 replace hr2 := hr2.new hb20
 replace hB := hB.acc hb20
 refine zad (zai rfl rfl) (zad (zai rfl rfl) (zad (zai rfl rfl) (zad (zai rfl rfl) ?_)))
 refine zaG rfl (zaO 2 ([.int .u64 0, .int .i64 0]) hr2 (fun w901 hr2 ho901 => ?_))
 replace hB := ho901.below hB ge_hB_g2
 refine zad (zac) (zad (zac) (zad (zac) (zae (zah (zaz (zaP ?_))))))
 refine zam [_, _, _, _] ⟨⟨_, rfl, Ld.zbX (k := 2) hr2 (by kernel_rfl) (by kernel_rfl) (by first | (simp; done) | (simp [zal, *]; done) | assumption)⟩, rfl, rfl, rfl, trivial⟩ ?_
 exact ⟨hB, .inl ⟨hJ, rfl⟩⟩
set_option maxRecDepth 20000 in
theorem joinF (p : Option Addr) (n cp : Nat) (l : List UInt8) (w : World) (h : zaT w p n 128 (bv l)) (hn : n ≤ 1000000) (h0 : 0 < n) (hm : zga (zbn (zaC l 0)) (zd4 (zaC l 0)) = false) :
  Calls Tryz.prog 188 [.slice p n cp].toArray w (Ret fun v w' => JR l n w v w') := by
 have hB := Below.refl w.heap.size w
 have hl : l.length = n * 128 := by simpa [zal] using h.len
 have hJ : zbZ l n = false := by simp [zbZ, zj9, hm]
 have hd : (zaC l 0).length = 64 := zcG _ _ (by omega)
 obtain ⟨L, hL⟩ : ∃ L, L = zbD (zbn (zaC l 0)) (zd4 (zaC l 0)) (zeI (zaC l 0)) (zcH (zaC l 0)) (zdi (zaC l 0)) := ⟨_, rfl⟩
 have hLl : L.length = 52 := by rw [hL, zcj, zdi, List.length_drop, hd]
 have hone : ∀ v ∈ L, v.oneCell' = true := by rw [hL]; exact zez _ _ _ _ _
 have hC := fun w' => zj8 (zaC l 0) hd false hm w'
 rw [← hL] at hC
 clear hL
 refine zas (fn := Tryz.f188) (rs := [.cell 2 212, .tmp 3, .tmp 4, .tmp 5]) (n := 152) Tryz.func188 rfl rfl Tryz.ntmps188 (by kernel_rfl) rfl ?_
 refine zaf (zaa ?_)
 refine zay rfl (zar ([.int .u64 0, .int .i64 0]) (by kernel_rfl) (fun g2 w2 hg2 hr2 hb2 => ?_))
 have ge_hB_g2 := Nat.le_trans hB.size hg2
 replace hB := hB.acc hb2
 refine zad (zac) (zad (zac) (zad (zac) (zae (zah (zaf (zaa (zad (zac) (zae (zah (zaf (zaf ?_)))))))))))
 refine zaa (zad (zab) ?_)
 refine zad (zaJ (e := 172) (sz := 128) (by kernel_rfl) rfl rfl) ?_
 refine zad (za9 rfl rfl) ?_
 refine zae (zah ?_)
 refine zcL rfl ((by omega)) ?_
 refine zau (zah (zaf (zaa (zad (zab) ?_))))
 refine zao rfl (zaj (by kernel_rfl) rfl) (zh6 p n cp l 0 w2 (h.below hB (Nat.le_refl _)) (by omega) hn) ?_
 rintro _ w27 ⟨rfl, hb27⟩
 replace hr2 := hr2.new hb27
 replace hB := hB.acc hb27
 refine zao rfl (zaj (by kernel_rfl) rfl) (hC w27) ?_
 rintro _ w28 ⟨rfl, hb28⟩
 replace hr2 := hr2.new hb28
 replace hB := hB.acc hb28
 refine zad (zab) (zad (zai rfl rfl) (zad (zai rfl rfl) ?_))
 refine zay rfl (zar (zbD 0 0 0 0 (zaY 48)) (by kernel_rfl) (fun g7 w7 hg7 hr7 hb7 => ?_))
 have ge_hB_g7 := Nat.le_trans hB.size hg7
 have lt_g2_g7 : g2 < g7 := Nat.lt_of_lt_of_le hr2.lt hg7
 replace hr2 := hr2.new hb7
 replace hB := hB.acc hb7
 refine zaG rfl (zaO 52 (L) hr7 (fun w901 hr7 ho901 => ?_))
 replace hr2 := hr2.only ho901 (Nat.ne_of_lt lt_g2_g7)
 replace hB := ho901.below hB ge_hB_g7
 refine zad (zac) (zae (zah (zaf (zaf (zaa (zad (zab) ?_))))))
 refine zad (zbS rfl) ?_
 refine zad (zab) ?_
 refine WR_tnb 33 rfl (rfl) ?_
 refine zaK rfl rfl (zaK rfl rfl (zaK rfl rfl (zad (zaA rfl) (zad (zab) (zaK rfl rfl (zaK rfl rfl (zaK rfl rfl (zad (zaA rfl) (zad (zab) (zaK rfl rfl (zaK rfl rfl ?_)))))))))))
 refine zaK rfl rfl (zaK rfl rfl (zaK rfl rfl (zaK rfl rfl (zaK rfl rfl (zad (zaA rfl) (zae (zah ?_)))))))
 refine W_t rfl ?_
 refine zaf (zaa (zad (zab) ?_))
 refine zao rfl (zbL (by kernel_rfl) rfl rfl) (zcZ w901) ?_
 rintro _ w53 ⟨rfl, hb53⟩
 replace hr2 := hr2.new hb53
 replace hB := hB.acc hb53
 refine zad (zai rfl rfl) (zad (zai rfl rfl) (zad (zai rfl rfl) (zad (zai rfl rfl) ?_)))
 refine zaG rfl (zaO 2 ([.int .u64 0, .int .i64 0]) hr2 (fun w902 hr2 ho902 => ?_))
 replace hB := ho902.below hB ge_hB_g2
 refine zad (zac) (zad (zac) (zad (zac) (zae (zah (zaz (zaP ?_))))))
 refine zam [_, _, _, _] ⟨⟨_, rfl, Ld.zbX (k := 2) hr2 (by kernel_rfl) (by kernel_rfl) (by first | (simp; done) | (simp [zal, *]; done) | assumption)⟩, rfl, rfl, rfl, trivial⟩ ?_
 exact ⟨hB, .inl ⟨hJ, rfl⟩⟩
theorem zlJ {l : List UInt8} {c nn m i : Nat} (hi : i < m) (h : zlI (zaC l i) c nn i m = false) : zfX l c nn m = false := by
 have : (List.range m).all (fun i => zlI (zaC l i) c nn i m) = false := List.all_eq_false.2 ⟨i, List.mem_range.2 hi, by simp [h]⟩
 simp [zfX, this]
set_option maxRecDepth 20000 in
set_option maxHeartbeats 2000000 in
theorem joinT (p : Option Addr) (n cp : Nat) (l : List UInt8) (w : World) (h : zaT w p n 128 (bv l)) (hn : n ≤ 1000000) (h0 : 0 < n) (hm : zga (zbn (zaC l 0)) (zd4 (zaC l 0)) = true) :
   Calls Tryz.prog 188 [.slice p n cp].toArray w (Ret fun v w' => JR l n w v w') := by
 have hB := Below.refl w.heap.size w
 have hl : l.length = n * 128 := by simpa [zal] using h.len
 have hd : (zaC l 0).length = 64 := zcG _ _ (by omega)
 obtain ⟨L, hL⟩ : ∃ L, L = zbD (zbn (zaC l 0)) (zd4 (zaC l 0)) (zeI (zaC l 0)) (zcH (zaC l 0)) (zdi (zaC l 0)) := ⟨_, rfl⟩
 have hLl : L.length = 52 := by rw [hL, zcj, zdi, List.length_drop, hd]
 have hone : ∀ v ∈ L, v.oneCell' = true := by rw [hL]; exact zez _ _ _ _ _
 have hC := fun w' => zj8 (zaC l 0) hd true hm w'
 have e0 : L[0]? = some (.int .u64 (zbn (zaC l 0))) := by rw [hL]; rfl
 have e1 : L[1]? = some (.int .i64 (zd4 (zaC l 0))) := by rw [hL]; rfl
 have e3 : L[3]? = some (.int .i64 (zcH (zaC l 0))) := by rw [hL]; rfl
 have hJR : ∀ v w', JR l n w v w' = (Below w.heap.size w w' ∧ ((zbZ l n = false ∧ v = zop) ∨ (zbZ l n = true ∧ ∃ sp, v = .tuple #[.agg #[.int .u64 (zbn (zaC l 0)), .int .i64 (zd4 (zaC l 0))], .slice sp (zbA l).length (zbA l).length, .int .i64 (zb2 (zbA l).length : Nat), .int .i64 0] ∧
   zaT w' sp (zbA l).length 1 (bv (zbA l))))) := fun _ _ => rfl
 have hJI : zbZ l n = (decide (0 < n) && (zga (zbn (zaC l 0)) (zd4 (zaC l 0)) && decide (1 ≤ zcH (zaC l 0)) && decide (zcH (zaC l 0) ≤ 683) && decide ((zcH (zaC l 0) + 1) / 2 ≤ n)) && zfX l (zbn (zaC l 0)) (zd4 (zaC l 0)) (zcH (zaC l 0))) := rfl
 have hJB : zbA l = ((bodies l (zcH (zaC l 0))).drop 4).take (zfH l (zcH (zaC l 0))) := rfl
 have hmb : zcH (zaC l 0) < 65536 := zbV _ 2 (by simp; omega)
 simp only [hJR]
 clear hJR
 rw [← hL] at hC
 clear hL
 generalize zbn (zaC l 0) = c at *
 generalize zd4 (zaC l 0) = nn at *
 generalize zcH (zaC l 0) = m at *
 generalize zbZ l n = J at *
 generalize zbA l = JB at *
 have hJF : zfX l c nn m = false → J = false := by intro q; rw [hJI, q, Bool.and_false]
 refine zas (fn := Tryz.f188) (rs := [.cell 2 212, .tmp 3, .tmp 4, .tmp 5]) (n := 152) Tryz.func188 rfl rfl Tryz.ntmps188 (by kernel_rfl) rfl ?_
 refine zaf (zaa ?_)
 refine zay rfl (zar ([.int .u64 0, .int .i64 0]) (by kernel_rfl) (fun g2 w2 hg2 hr2 hb2 => ?_))
 have ge_hB_g2 := Nat.le_trans hB.size hg2
 replace hB := hB.acc hb2
 refine zad (zac) (zad (zac) (zad (zac) (zae (zah (zaf (zaa (zad (zac) (zae (zah (zaf (zaf ?_)))))))))))
 refine zaa (zad (zab) ?_)
 refine zad (zaJ (e := 172) (sz := 128) (by kernel_rfl) rfl rfl) ?_
 refine zad (za9 rfl rfl) ?_
 refine zae (zah ?_)
 refine zcL rfl ((by omega)) ?_
 refine zau (zah (zaf (zaa (zad (zab) ?_))))
 refine zao rfl (zaj (by kernel_rfl) rfl) (zh6 p n cp l 0 w2 (h.below hB (Nat.le_refl _)) (by omega) hn) ?_
 rintro _ w27 ⟨rfl, hb27⟩
 replace hr2 := hr2.new hb27
 replace hB := hB.acc hb27
 refine zao rfl (zaj (by kernel_rfl) rfl) (hC w27) ?_
 rintro _ w28 ⟨rfl, hb28⟩
 replace hr2 := hr2.new hb28
 replace hB := hB.acc hb28
 refine zad (zab) (zad (zai rfl rfl) (zad (zai rfl rfl) ?_))
 refine zay rfl (zar (zbD 0 0 0 0 (zaY 48)) (by kernel_rfl) (fun g7 w7 hg7 hr7 hb7 => ?_))
 have ge_hB_g7 := Nat.le_trans hB.size hg7
 have lt_g2_g7 : g2 < g7 := Nat.lt_of_lt_of_le hr2.lt hg7
 replace hr2 := hr2.new hb7
 replace hB := hB.acc hb7
 refine zaG rfl (zaO 52 (L) hr7 (fun w901 hr7 ho901 => ?_))
 replace hr2 := hr2.only ho901 (Nat.ne_of_lt lt_g2_g7)
 replace hB := ho901.below hB ge_hB_g7
 refine zad (zac) (zae (zah (zaf (zaf (zaa (zad (zab) ?_))))))
 refine zad (zbS rfl) ?_
 refine zad (zab) ?_
 refine zkC 33 rfl (rfl) ?_
 refine zan rfl (zad (zav 3) (zan rfl ?_))
 refine zad (zaI rfl (Ld.zdY hr7 (by kernel_rfl) e3)) ?_
 refine zan rfl ?_
 refine zad (za2 rfl rfl) ?_
 refine zad (zaw rfl) (zad (zab) ?_)
 refine zb8 38 rfl (fun hc1 => ?_) (fun hc1 => ?_)
 ·
  refine zaK rfl rfl (zaK rfl rfl (zaK rfl rfl (zad (zaA rfl) (zad (zab) (zaK rfl rfl (zaK rfl rfl (zaK rfl rfl (zaK rfl rfl (zaK rfl rfl (zaK rfl rfl (zaK rfl rfl ?_)))))))))))
  refine zad (zaA rfl) (zae (zah ?_))
  refine W_t rfl ?_
  refine zaf (zaa (zad (zab) ?_))
  refine zao rfl (zbL (by kernel_rfl) rfl rfl) (zcZ w901) ?_
  rintro _ w53 ⟨rfl, hb53⟩
  replace hr2 := hr2.new hb53
  replace hB := hB.acc hb53
  refine zad (zai rfl rfl) (zad (zai rfl rfl) (zad (zai rfl rfl) (zad (zai rfl rfl) ?_)))
  refine zaG rfl (zaO 2 ([.int .u64 0, .int .i64 0]) hr2 (fun w902 hr2 ho902 => ?_))
  replace hB := ho902.below hB ge_hB_g2
  refine zad (zac) (zad (zac) (zad (zac) (zae (zah (zaz (zaP ?_))))))
  refine zam [_, _, _, _] ⟨⟨_, rfl, Ld.zbX (k := 2) hr2 (by kernel_rfl) (by kernel_rfl) (by first | (simp; done) | (simp [zal, *]; done) | assumption)⟩, rfl, rfl, rfl, trivial⟩ ?_
  · refine ⟨hB, .inl ⟨?_, rfl⟩⟩
    rw [hJI, show decide (1 ≤ m) = false from decide_eq_false (by omega)]
    simp
 ·
  refine zan rfl (zad (zav 3) (zan rfl ?_))
  refine zad (zaI rfl (Ld.zdY hr7 (by kernel_rfl) e3)) ?_
  refine zan rfl ?_
  refine zad (zbu rfl rfl) ?_
  refine zad (zaw rfl) (zad (zab) ?_)
  refine zb8 43 rfl (fun hc2 => ?_) (fun hc2 => ?_)
  ·
   refine zaK rfl rfl (zaK rfl rfl (zaK rfl rfl (zaK rfl rfl (zaK rfl rfl (zaK rfl rfl (zaK rfl rfl (zad (zaA rfl) (zae (zah ?_)))))))))
   refine W_t rfl ?_
   refine zaf (zaa (zad (zab) ?_))
   refine zao rfl (zbL (by kernel_rfl) rfl rfl) (zcZ w901) ?_
   rintro _ w53 ⟨rfl, hb53⟩
   replace hr2 := hr2.new hb53
   replace hB := hB.acc hb53
   refine zad (zai rfl rfl) (zad (zai rfl rfl) (zad (zai rfl rfl) (zad (zai rfl rfl) ?_)))
   refine zaG rfl (zaO 2 ([.int .u64 0, .int .i64 0]) hr2 (fun w903 hr2 ho903 => ?_))
   replace hB := ho903.below hB ge_hB_g2
   refine zad (zac) (zad (zac) (zad (zac) (zae (zah (zaz (zaP ?_))))))
   refine zam [_, _, _, _] ⟨⟨_, rfl, Ld.zbX (k := 2) hr2 (by kernel_rfl) (by kernel_rfl) (by first | (simp; done) | (simp [zal, *]; done) | assumption)⟩, rfl, rfl, rfl, trivial⟩ ?_
   · refine ⟨hB, .inl ⟨?_, rfl⟩⟩
     rw [hJI, show decide (m ≤ 683) = false from decide_eq_false (by omega)]
     simp
  ·
   refine zan rfl (zad (zav 3) (zan rfl ?_))
   refine zad (zaI rfl (Ld.zdY hr7 (by kernel_rfl) e3)) ?_
   refine zan rfl ?_
   refine zad (zaN rfl rfl (w64 (by omega))) ?_
   refine zan rfl ?_
   refine zad (zgk rfl rfl (by omega) (by omega)) ?_
   refine zan rfl (zad (zab) (zan rfl ?_))
   refine zad (zaJ (e := 172) (sz := 128) (by kernel_rfl) rfl rfl) ?_
   refine zan rfl ?_
   refine zad (zbu rfl rfl) ?_
   refine zad (zaw rfl) (zae (zah ?_))
   refine zbf rfl (fun hc3 => ?_) (fun hc3 => ?_)
   ·
    refine zaf (zaa (zad (zab) ?_))
    refine zao rfl (zbL (by kernel_rfl) rfl rfl) (zcZ w901) ?_
    rintro _ w53 ⟨rfl, hb53⟩
    replace hr2 := hr2.new hb53
    replace hB := hB.acc hb53
    refine zad (zai rfl rfl) (zad (zai rfl rfl) (zad (zai rfl rfl) (zad (zai rfl rfl) ?_)))
    refine zaG rfl (zaO 2 ([.int .u64 0, .int .i64 0]) hr2 (fun w904 hr2 ho904 => ?_))
    replace hB := ho904.below hB ge_hB_g2
    refine zad (zac) (zad (zac) (zad (zac) (zae (zah (zaz (zaP ?_))))))
    refine zam [_, _, _, _] ⟨⟨_, rfl, Ld.zbX (k := 2) hr2 (by kernel_rfl) (by kernel_rfl) (by first | (simp; done) | (simp [zal, *]; done) | assumption)⟩, rfl, rfl, rfl, trivial⟩ ?_
    · refine ⟨hB, .inl ⟨?_, rfl⟩⟩
      rw [hJI, show decide ((m + 1) / 2 ≤ n) = false from decide_eq_false (by omega)]
      simp
   ·
    refine zau (zah (zaf (zaa (zad (zac) (zae (zah (zaf (zaf (zaa (zad (zav 3) ?_))))))))))
    refine zad (zaI rfl (Ld.zdY hr7 (by kernel_rfl) e3)) ?_
    refine zad (zab) (zae (zah (zaE ?_)))
    have q7 := hr7.lt
    have q2 := hr2.lt
    refine zbB (α := Nat × Value) (0, .slice none 0 0) (fun k => [(60, .int .i64 (k.1 : Nat)), (9, k.2), (59, .int .i64 m), (0, .slice p n cp), (6, .func (.func 195) #[] #[]), (7, .pointer (some ⟨g7, 0, none⟩)), (2, .pointer (some ⟨g2, 0, none⟩))])
      (fun k w' => k.1 ≤ m ∧ (∀ j, j < k.1 → zlI (zaC l j) c nn j m = true) ∧ zaB w' w901.heap.size 5 1 k.2 (48 * k.1) (bv (bodies l k.1)) ∧ row w' g7 L 240 ∧ row w' g2 [.int .u64 0, .int .i64 0] 212 ∧ Below w.heap.size w w' ∧ w901.heap.size ≤ w'.heap.size) (fun k => m - k.1)
      ⟨rfl, rfl, rfl, rfl, rfl, rfl, rfl, rfl⟩ ⟨Nat.zero_le _, (by intro j hj; exact absurd hj (Nat.not_lt_zero _)), zbI _ _ _ _, hr7, hr2, hB, Nat.le_refl _⟩ ?_
    rintro ⟨k, v9⟩ f wr ⟨hk, hgood, hv9, hr7, hr2, hBr, hsr⟩
    simp only at hk hgood hv9
    have hBi := Below.refl wr.heap.size wr
    have hszr := hBr.size
    by_cases hlt : k < m
    · have hdk : (zaC l k).length = 64 := zcG _ _ (by omega)
      have hobt : ∃ L, L = zbD (zbn (zaC l k)) (zd4 (zaC l k)) (zeI (zaC l k)) (zcH (zaC l k)) (zdi (zaC l k)) := ⟨_, rfl⟩
      obtain ⟨LK, hLK⟩ := hobt
      have hLKl : LK.length = 52 := by rw [hLK, zcj, zdi, List.length_drop, hdk]
      have honek : ∀ v ∈ LK, v.oneCell' = true := by rw [hLK]; exact zez _ _ _ _ _
      have hCK := fun b (hb : zga (zbn (zaC l k)) (zd4 (zaC l k)) = b) w' => zj8 (zaC l k) hdk b hb w'
      have k0 : LK[0]? = some (.int .u64 (zbn (zaC l k))) := by rw [hLK]; rfl
      have k1 : LK[1]? = some (.int .i64 (zd4 (zaC l k))) := by rw [hLK]; rfl
      have k2 : LK[2]? = some (.int .i64 (zeI (zaC l k))) := by rw [hLK]; rfl
      have k3 : LK[3]? = some (.int .i64 (zcH (zaC l k))) := by rw [hLK]; rfl
      have hkb : (LK.drop 4).take (48 * 1) = bv (zdi (zaC l k)) := by
        rw [hLK]
        exact List.take_of_length_le (by show (bv (zdi (zaC l k))).length ≤ _; rw [zal, zdi, List.length_drop, hdk]; omega)
      have hGB : zlI (zaC l k) c nn k m = (zga (zbn (zaC l k)) (zd4 (zaC l k)) && decide (zbn (zaC l k) = c ∧ zd4 (zaC l k) = nn) && decide (zeI (zaC l k) = k) && decide (zcH (zaC l k) = m)) := rfl
      have hbs := zgD l k
      have hbl : (zdi (zaC l k)).length = 48 := by rw [zdi, List.length_drop, hdk]
      rw [← hLK] at hCK
      clear hLK
      generalize zbn (zaC l k) = c' at *
      generalize zd4 (zaC l k) = n' at *
      generalize zeI (zaC l k) = p' at *
      generalize zcH (zaC l k) = m' at *
      have hbad : zlI (zaC l k) c nn k m = false → J = false := fun q => hJF (zlJ hlt q)
      rcases hmk : zga (c' : Int) n' with _ | _
      · skip
        refine zaf (zaa ?_)
        refine zad (za2 rfl rfl) ?_
        refine zae (zah (zaf ?_))
        refine ze6 rfl ((by omega)) ?_
        refine zau (zah (zaf (zaE (zaf (zaa (zad (zab) (zad (zac) (zae (zah (zaf (zaa ?_)))))))))))
        refine zad (zab) (zad (zab) ?_)
        refine zao rfl (zaj (by kernel_rfl) rfl) (zh6 p n cp l k wr ((h.below hBr (Nat.le_refl _)).below hBi (Nat.le_refl _)) (by omega) hn) ?_
        rintro _ w66 ⟨rfl, hb66⟩
        replace hBr := hBr.acc hb66
        replace hBi := hBi.acc hb66
        refine zao rfl (zaj (by kernel_rfl) rfl) (hCK _ hmk w66) ?_
        rintro _ w67 ⟨rfl, hb67⟩
        replace hBr := hBr.acc hb67
        replace hBi := hBi.acc hb67
        refine zad (zab) (zad (zai rfl rfl) (zad (zai rfl rfl) ?_))
        refine zay rfl (zar (zbD 0 0 0 0 (zaY 48)) (by kernel_rfl) (fun g11 w11 hg11 hr11 hb11 => ?_))
        have ge_hBr_g11 := Nat.le_trans hBr.size hg11
        have ge_hBi_g11 := Nat.le_trans hBi.size hg11
        replace hBr := hBr.acc hb11
        replace hBi := hBi.acc hb11
        refine zaG rfl (zaO 52 (LK) hr11 (fun w905 hr11 ho905 => ?_))
        replace hBr := ho905.below hBr ge_hBr_g11
        replace hBi := ho905.below hBi ge_hBi_g11
        refine zad (zac) (zae (zah (zaf (zaf (zaa (zad (zab) ?_))))))
        refine zad (zbS rfl) ?_
        refine zad (zab) ?_
        refine WR_tnb 72 rfl (rfl) ?_
        refine zaK rfl rfl (zaK rfl rfl (zaK rfl rfl (zaK rfl rfl (zaK rfl rfl (zad (zaA rfl) (zad (zab) (zaK rfl rfl (zaK rfl rfl (zaK rfl rfl (zaK rfl rfl (zad (zaA rfl) ?_)))))))))))
        refine zad (zab) (zaK rfl rfl (zaK rfl rfl (zaK rfl rfl (zaK rfl rfl (zaK rfl rfl (zad (zaA rfl) (zae (zah ?_))))))))
        refine W_t rfl ?_
        refine zaf (zaa (zad (zab) ?_))
        refine zao rfl (zbL (by kernel_rfl) rfl rfl) (zcZ w905) ?_
        rintro _ w93 ⟨rfl, hb93⟩
        replace hBr := hBr.acc hb93
        replace hBi := hBi.acc hb93
        refine zad (zai rfl rfl) (zad (zai rfl rfl) (zad (zai rfl rfl) (zad (zai rfl rfl) ?_)))
        have hr2 := hr2.new hBi
        have hBs := hBi.size
        refine zaG rfl (zaO 2 ([.int .u64 0, .int .i64 0]) hr2 (fun w906 hr2 ho906 => ?_))
        replace hBr := ho906.below hBr (by omega)
        refine zad (zac) (zad (zac) (zad (zac) (zae (zah (zaz (zaP (zbd (zaP (zeL (zbd (zaP ?_)))))))))))
        refine zam [_, _, _, _] ⟨⟨_, rfl, Ld.zbX (k := 2) hr2 (by kernel_rfl) (by kernel_rfl) (by first | (simp; done) | (simp [zal, *]; done) | assumption)⟩, rfl, rfl, rfl, trivial⟩ ?_
        exact ⟨hBr, .inl ⟨hbad (by rw [hGB, hmk]; rfl), rfl⟩⟩
      · skip
        refine zaf (zaa ?_)
        refine zad (za2 rfl rfl) ?_
        refine zae (zah (zaf ?_))
        refine ze6 rfl ((by omega)) ?_
        refine zau (zah (zaf (zaE (zaf (zaa (zad (zab) (zad (zac) (zae (zah (zaf (zaa ?_)))))))))))
        refine zad (zab) (zad (zab) ?_)
        refine zao rfl (zaj (by kernel_rfl) rfl) (zh6 p n cp l k wr ((h.below hBr (Nat.le_refl _)).below hBi (Nat.le_refl _)) (by omega) hn) ?_
        rintro _ w66 ⟨rfl, hb66⟩
        replace hBr := hBr.acc hb66
        replace hBi := hBi.acc hb66
        refine zao rfl (zaj (by kernel_rfl) rfl) (hCK _ hmk w66) ?_
        rintro _ w67 ⟨rfl, hb67⟩
        replace hBr := hBr.acc hb67
        replace hBi := hBi.acc hb67
        refine zad (zab) (zad (zai rfl rfl) (zad (zai rfl rfl) ?_))
        refine zay rfl (zar (zbD 0 0 0 0 (zaY 48)) (by kernel_rfl) (fun g11 w11 hg11 hr11 hb11 => ?_))
        have ge_hBr_g11 := Nat.le_trans hBr.size hg11
        have ge_hBi_g11 := Nat.le_trans hBi.size hg11
        replace hBr := hBr.acc hb11
        replace hBi := hBi.acc hb11
        refine zaG rfl (zaO 52 (LK) hr11 (fun w907 hr11 ho907 => ?_))
        replace hBr := ho907.below hBr ge_hBr_g11
        replace hBi := ho907.below hBi ge_hBi_g11
        refine zad (zac) (zae (zah (zaf (zaf (zaa (zad (zab) ?_))))))
        refine zad (zbS rfl) ?_
        refine zad (zab) ?_
        refine zkC 72 rfl (rfl) ?_
        refine zan rfl (zad (zav 0) (zan rfl ?_))
        refine zad (zaI rfl (Ld.rng (hr11.range 0 [.int .u64 c', .int .i64 n'] (zgC k0 k1)) (by kernel_rfl) (by kernel_rfl))) ?_
        refine zan rfl (zad (zav 0) (zan rfl ?_))
        refine zad (zaI rfl (Ld.rng ((hr7.new hBi).range 0 [.int .u64 c, .int .i64 nn] (zgC e0 e1)) (by kernel_rfl) (by kernel_rfl))) ?_
        refine zan rfl ?_
        refine zad (rn_neqP (k0 := .u64) (k1 := .i64) (by kernel_rfl) rfl rfl) ?_
        refine zad (zaw rfl) (zad (zab) ?_)
        refine zep 79 rfl (fun hq1 => ?_) (fun hq1 => ?_)
        ·
         refine zaK rfl rfl (zaK rfl rfl (zaK rfl rfl (zaK rfl rfl (zad (zaA rfl) (zad (zab) (zaK rfl rfl (zaK rfl rfl (zaK rfl rfl (zaK rfl rfl (zaK rfl rfl (zad (zaA rfl) ?_)))))))))))
         refine zae (zah ?_)
         refine W_t rfl ?_
         refine zaf (zaa (zad (zab) ?_))
         refine zao rfl (zbL (by kernel_rfl) rfl rfl) (zcZ w907) ?_
         rintro _ w93 ⟨rfl, hb93⟩
         replace hBr := hBr.acc hb93
         replace hBi := hBi.acc hb93
         refine zad (zai rfl rfl) (zad (zai rfl rfl) (zad (zai rfl rfl) (zad (zai rfl rfl) ?_)))
         have hr2 := hr2.new hBi
         have hBs := hBi.size
         refine zaG rfl (zaO 2 ([.int .u64 0, .int .i64 0]) hr2 (fun w908 hr2 ho908 => ?_))
         replace hBr := ho908.below hBr (by omega)
         refine zad (zac) (zad (zac) (zad (zac) (zae (zah (zaz (zaP (zbd (zaP (zeL (zbd (zaP ?_)))))))))))
         refine zam [_, _, _, _] ⟨⟨_, rfl, Ld.zbX (k := 2) hr2 (by kernel_rfl) (by kernel_rfl) (by first | (simp; done) | (simp [zal, *]; done) | assumption)⟩, rfl, rfl, rfl, trivial⟩ ?_
         · simp only [Bool.not_eq_true', decide_eq_false_iff_not] at hq1
           exact ⟨hBr, .inl ⟨hbad (by rw [hGB, hmk, show decide (c' = c ∧ n' = nn) = false from decide_eq_false (by omega)]; rfl), rfl⟩⟩
        ·
         simp only [Bool.not_eq_false', decide_eq_true_eq] at hq1
         refine zan rfl (zad (zav 2) (zan rfl ?_))
         refine zad (zaI rfl (Ld.zdY hr11 (by kernel_rfl) k2)) ?_
         refine zan rfl (zad (zab) (zan rfl ?_))
         refine zad (zaM rfl rfl) ?_
         refine zad (zaw rfl) (zad (zab) ?_)
         refine zb8 85 rfl (fun hq2 => ?_) (fun hq2 => ?_)
         ·
          refine zaK rfl rfl (zaK rfl rfl (zaK rfl rfl (zaK rfl rfl (zaK rfl rfl (zad (zaA rfl) (zae (zah ?_)))))))
          refine W_t rfl ?_
          refine zaf (zaa (zad (zab) ?_))
          refine zao rfl (zbL (by kernel_rfl) rfl rfl) (zcZ w907) ?_
          rintro _ w93 ⟨rfl, hb93⟩
          replace hBr := hBr.acc hb93
          replace hBi := hBi.acc hb93
          refine zad (zai rfl rfl) (zad (zai rfl rfl) (zad (zai rfl rfl) (zad (zai rfl rfl) ?_)))
          have hr2 := hr2.new hBi
          have hBs := hBi.size
          refine zaG rfl (zaO 2 ([.int .u64 0, .int .i64 0]) hr2 (fun w909 hr2 ho909 => ?_))
          replace hBr := ho909.below hBr (by omega)
          refine zad (zac) (zad (zac) (zad (zac) (zae (zah (zaz (zaP (zbd (zaP (zeL (zbd (zaP ?_)))))))))))
          refine zam [_, _, _, _] ⟨⟨_, rfl, Ld.zbX (k := 2) hr2 (by kernel_rfl) (by kernel_rfl) (by first | (simp; done) | (simp [zal, *]; done) | assumption)⟩, rfl, rfl, rfl, trivial⟩ ?_
          · exact ⟨hBr, .inl ⟨hbad (by rw [hGB, show decide (p' = k) = false from decide_eq_false (by omega), Bool.and_false]; rfl), rfl⟩⟩
         ·
          refine zan rfl (zad (zav 3) (zan rfl ?_))
          refine zad (zaI rfl (Ld.zdY hr11 (by kernel_rfl) k3)) ?_
          refine zan rfl (zad (zav 3) (zan rfl ?_))
          refine zad (zaI rfl (Ld.zdY (hr7.new hBi) (by kernel_rfl) e3)) ?_
          refine zan rfl ?_
          refine zad (zaM rfl rfl) ?_
          refine zad (zaw rfl) (zae (zah ?_))
          refine zbf rfl (fun hq3 => ?_) (fun hq3 => ?_)
          ·
           refine zaf (zaa (zad (zab) ?_))
           refine zao rfl (zbL (by kernel_rfl) rfl rfl) (zcZ w907) ?_
           rintro _ w93 ⟨rfl, hb93⟩
           replace hBr := hBr.acc hb93
           replace hBi := hBi.acc hb93
           refine zad (zai rfl rfl) (zad (zai rfl rfl) (zad (zai rfl rfl) (zad (zai rfl rfl) ?_)))
           have hr2 := hr2.new hBi
           have hBs := hBi.size
           refine zaG rfl (zaO 2 ([.int .u64 0, .int .i64 0]) hr2 (fun w910 hr2 ho910 => ?_))
           replace hBr := ho910.below hBr (by omega)
           refine zad (zac) (zad (zac) (zad (zac) (zae (zah (zaz (zaP (zbd (zaP (zeL (zbd (zaP ?_)))))))))))
           refine zam [_, _, _, _] ⟨⟨_, rfl, Ld.zbX (k := 2) hr2 (by kernel_rfl) (by kernel_rfl) (by first | (simp; done) | (simp [zal, *]; done) | assumption)⟩, rfl, rfl, rfl, trivial⟩ ?_
           · exact ⟨hBr, .inl ⟨hbad (by rw [hGB, show decide (m' = m) = false from decide_eq_false (by omega), Bool.and_false]), rfl⟩⟩
          ·
           refine zau (zah (zaa (zad (zab) (zad (zav 4) ?_))))
           refine zad (zbe (e := 5) (n := 48) (0) (48) (48) (48) (by kernel_rfl) rfl rfl rfl rfl (by simp) (by omega) (by omega) (by omega) (by omega) (by omega)) ?_
           have hs100 := hr11.sl (m := 48) (sz := 1) 4 (by omega) (by unfold maxLen; omega)
           rw [hkb] at hs100
           have hv9 := hv9.new hBi
           have hr7 := hr7.new hBi
           have hr2 := hr2.new hBi
           have hBs := hBi.size
           refine zay rfl (zbq (e := 5) (sz := 1) (bytes := 1) (z := Value.int .u8 0) (by kernel_rfl) rfl (by kernel_rfl) rfl (by decide) rfl hv9 rfl hs100 (zb5 _) (by unfold maxLen; omega) (by omega) (fun hm0 => by omega) (fun v101 w101 hv101 hgr101 hfr101 => ?_))
           replace hr7 := hr7.own hv9 hgr101 (by omega)
           replace hr2 := hr2.own hv9 hgr101 (by omega)
           replace hBr := hBr.own hv9 hgr101 (by omega)
           refine zad (zac) (zae (za6 (zah (zaa ?_))))
           refine zad (zaN rfl rfl (Coup.w64 (by omega))) ?_
           refine zad (zab) (zae ?_)
           refine zbw ⟨(k + 1, v101), by simp only; omega, ⟨rfl, by go_num, rfl, rfl, rfl, rfl, rfl, rfl⟩, by simp only; omega, ?_, ?_, hr7, hr2, hBr, by have := hgr101.size; omega⟩
           · intro j hj
             rcases Nat.lt_or_ge j k with hj' | hj'
             · exact hgood j hj'
             · obtain rfl : j = k := by simp only at hj; omega
               rw [hGB, hmk, decide_eq_true (by omega : c' = c ∧ n' = nn), decide_eq_true (by omega : p' = j), decide_eq_true (by omega : m' = m)]; rfl
           · simp only
             rw [hbs, zcD, show 48 * (k + 1) = 48 * k + 48 by omega]
             exact hv101
    · obtain rfl : k = m := by omega
      have hobt := hv9.form' (by omega)
      obtain ⟨g9, o9, c9, rfl, b9, l9, hc9⟩ := hobt
      have hx9 := hv9.sl
      have hbl := zfn l k (by omega)
      have hobt : ∃ Z, Z = (bodies l k).drop (4 + zfH l k) := ⟨_, rfl⟩
      obtain ⟨Z, hZ⟩ := hobt
      have hK := zor l k
      have hJ2 : J = (decide (zfH l k ≤ 32768) && decide (zcM (zfH l k) = k) && Z.all (· == 0)) := by
        rw [hJI, hm, decide_eq_true h0, decide_eq_true (by omega : 1 ≤ k), decide_eq_true (by omega : k ≤ 683), decide_eq_true (by omega : (k + 1) / 2 ≤ n), zfX, ← hZ, List.all_eq_true.2 (fun j hj => hgood j (List.mem_range.1 hj))]
        simp only [Bool.true_and]
      have hx4 : zaT wr (some ⟨g9, o9 + 0, none⟩) 4 1 (bv ((bodies l k).take 4)) := by
        have := hx9.subB 0 4 (by omega)
        rwa [List.drop_zero] at this
      have hN : ∀ q c w', zaT w' q 4 1 (bv ((bodies l k).take 4)) → Calls Tryz.prog 198 [.slice q 4 c].toArray w' (Ret fun v w2 => v = .int .u64 (zfH l k) ∧ w' = w2) := fun q c w' hs => zm5 q 4 c _ w' hs (by omega)
      clear hJI hJF
      generalize zfH l k = K at *
      refine zaf (zaa ?_)
      refine zad (za2 rfl rfl) ?_
      refine zae (zah (zaf ?_))
      refine zcL rfl ((by omega)) ?_
      refine zbm (zbW (zcr (zbt (zah (zaf (zaa (zad (zab) ?_)))))))
      refine zad (zcb (e := 5) (0) (4) (4) (4) (by kernel_rfl) rfl rfl ⟨_, _, rfl, rfl⟩ ⟨_, _, rfl, rfl⟩ (by simp) (by omega) (by omega) (by omega) (by omega) (by omega)) ?_
      refine zao rfl (zaj (by kernel_rfl) rfl) (hN _ _ wr hx4) ?_
      rintro _ _ ⟨rfl, rfl⟩
      refine zad (zbz (k := .i64) (by kernel_rfl) (by kernel_rfl) rfl (w64 (by omega))) ?_
      refine zad (zac) (zae (zah (zaf (zaf ?_))))
      refine za5 [] (by kernel_rfl) ?_
      intro w911 hb911 hS911
      replace hr2 := hr2.new hb911
      replace hr7 := hr7.new hb911
      replace hx9 := hx9.new hb911
      replace hBr := hBr.acc hb911
      have hr7_d911 := hr7
      refine zat 0 (zab) ?_
      refine zat 1 (zbu rfl rfl) ?_
      refine zat 2 (zab) ?_
      refine zea 109 rfl (fun hk1 => ?_) (fun hk1 => ?_)
      ·
       refine zaF 3 (by kernel_rfl) rfl ?_
       refine zaF 5 (by kernel_rfl) rfl ?_
       refine zaF 6 (by kernel_rfl) rfl ?_
       refine zaF 4 (by kernel_rfl) rfl ?_
       refine zaF 7 (by kernel_rfl) rfl ?_
       refine zat 8 (zaA rfl) ?_
       refine zaL (by kernel_rfl) ?_
       refine zah ?_
       refine W_t rfl ?_
       refine zaf (zaa (zad (zab) ?_))
       refine zao rfl (zbL (by kernel_rfl) rfl rfl) (zcZ w911) ?_
       rintro _ w117 ⟨rfl, hb117⟩
       replace hr2 := hr2.new hb117
       replace hBr := hBr.acc hb117
       refine zad (zai rfl rfl) (zad (zai rfl rfl) (zad (zai rfl rfl) (zad (zai rfl rfl) ?_)))
       refine zaG rfl (zaO 2 ([.int .u64 0, .int .i64 0]) hr2 (fun w912 hr2 ho912 => ?_))
       replace hBr := ho912.below hBr (by omega)
       refine zad (zac) (zad (zac) (zad (zac) (zae (zah (zaz (zaP ?_))))))
       refine zam [_, _, _, _] ⟨⟨_, rfl, Ld.zbX (k := 2) hr2 (by kernel_rfl) (by kernel_rfl) (by first | (simp; done) | (simp [zal, *]; done) | assumption)⟩, rfl, rfl, rfl, trivial⟩ ?_
       · exact ⟨hBr, .inl ⟨by rw [hJ2, decide_eq_false (by omega)]; rfl, rfl⟩⟩
      ·
       refine zat 3 (zab) ?_
       refine zdA 4 (by kernel_rfl) rfl (fun _ => zaj (by kernel_rfl) rfl) (fun w' hS' => zm4 K (by omega) w') ?_
       refine zat 5 (zav 3) ?_
       refine zbp 6 (fun w' hS' => zaI rfl (Ld.zdY (hr7_d911.kq hS') (by kernel_rfl) e3)) ?_
       refine zat 7 (zaM rfl rfl) ?_
       refine zat 8 (zaw rfl) ?_
       refine zaL (by kernel_rfl) ?_
       refine zah ?_
       refine zbf rfl (fun hk2 => ?_) (fun hk2 => ?_)
       ·
        refine zaf (zaa (zad (zab) ?_))
        refine zao rfl (zbL (by kernel_rfl) rfl rfl) (zcZ w911) ?_
        rintro _ w117 ⟨rfl, hb117⟩
        replace hr2 := hr2.new hb117
        replace hBr := hBr.acc hb117
        refine zad (zai rfl rfl) (zad (zai rfl rfl) (zad (zai rfl rfl) (zad (zai rfl rfl) ?_)))
        refine zaG rfl (zaO 2 ([.int .u64 0, .int .i64 0]) hr2 (fun w913 hr2 ho913 => ?_))
        replace hBr := ho913.below hBr (by omega)
        refine zad (zac) (zad (zac) (zad (zac) (zae (zah (zaz (zaP ?_))))))
        refine zam [_, _, _, _] ⟨⟨_, rfl, Ld.zbX (k := 2) hr2 (by kernel_rfl) (by kernel_rfl) (by first | (simp; done) | (simp [zal, *]; done) | assumption)⟩, rfl, rfl, rfl, trivial⟩ ?_
        · exact ⟨hBr, .inl ⟨by rw [hJ2, decide_eq_false (by omega : ¬ zcM K = k), Bool.and_false]; rfl, rfl⟩⟩
       ·
        have hmk : zcM K = k := by omega
        have hmle := zoq K
        rw [hmk] at hmle
        refine zau (zah (zaf (zaf (zaa (zad (zab) (zad (zab) ?_))))))
        refine zad (zaN rfl rfl (w64 (by omega))) ?_
        refine zad (zdE (e := 5) (sz := 1) (4 + K) (_) (_) (by kernel_rfl) rfl ⟨_, _, rfl, by omega⟩ rfl rfl (by simp) (by omega) (by omega) (by omega)) ?_
        refine zad (zaJ (e := 5) (sz := 1) (by kernel_rfl) rfl rfl) ?_
        refine zad (zab) (zae (zah (zaE ?_)))
        have hZl : Z.length = 48 * k - (4 + K) := by rw [hZ, List.length_drop, hbl]
        obtain ⟨oA, hA, hz9⟩ : ∃ oA, (if c9 = 4 + K then some (⟨g9, o9, none⟩ : Addr) else Option.map (fun x : Addr => x.add ((4 + K) * 1)) (some (⟨g9, o9, none⟩ : Addr))) = some ⟨g9, oA, none⟩ ∧ zaT w911 (some ⟨g9, oA, none⟩) (48 * k - (4 + K)) 1 (bv Z) := by
          by_cases hq : c9 = 4 + K
          · refine ⟨o9, if_pos hq, by rw [zal, hZl, Nat.mul_one], by unfold maxLen; omega, fun q => by omega⟩
          · refine ⟨o9 + (4 + K) * 1, by rw [if_neg hq, Option.map_some, Addr.add_lit], ?_⟩
            have := hx9.subB (4 + K) (48 * k - (4 + K)) (by omega)
            rw [← hZ, List.take_of_length_le (by omega)] at this
            rw [Nat.mul_one]; exact this
        refine zbB (α := Nat) 0 (fun i => [(127, .int .i64 (i : Nat)), (126, .int .i64 ((48 * k - (4 + K) : Nat) : Int)), (125, .slice (some ⟨g9, oA, none⟩) (48 * k - (4 + K)) (c9 - (4 + K))), (9, .slice (some ⟨g9, o9, none⟩) (48 * k) c9), (13, .int .i64 K), (6, .func (.func 195) #[] #[]), (7, .pointer (some ⟨g7, 0, none⟩)), (2, .pointer (some ⟨g2, 0, none⟩))])
          (fun i w' => i ≤ 48 * k - (4 + K) ∧ (∀ j, j < i → Z[j]? = some 0) ∧ w' = w911) (fun i => 48 * k - (4 + K) - i)
          ⟨rfl, rfl, by rw [← hA]; rfl, rfl, rfl, rfl, rfl, rfl, rfl⟩ ⟨Nat.zero_le _, (by intro j hj; exact absurd hj (Nat.not_lt_zero _)), rfl⟩ ?_
        rintro i f2 wz ⟨hi, hzero, rfl⟩
        refine zaf (zaa ?_)
        refine zad (za2 rfl rfl) ?_
        refine zae (zah (zaf ?_))
        refine zbf rfl (fun hlt2 => ?_) (fun hlt2 => ?_)
        ·
         refine zau (zah (zaf (zaE (zaf (zaa ?_)))))
         have hobt : ∃ z, Z[i]? = some z := ⟨_, List.getElem?_eq_getElem (by omega)⟩
         obtain ⟨z, hz⟩ := hobt
         refine zad (zaX (e := 5) (by kernel_rfl) rfl rfl (i) (by omega) (by omega)) ?_
         refine zad (zaI rfl (Ld.sl1 hz9 (by kernel_rfl) (v := zdm z) (by rw [zir, hz]; rfl))) ?_
         refine zad (zac) (zae (zah (zaf (zaa (zad (zab) ?_)))))
         refine zad (zaM rfl rfl) ?_
         refine zae (zah ?_)
         refine zbf rfl (fun hnz => ?_) (fun hnz => ?_)
         ·
          refine zaf (zaa (zad (zab) ?_))
          refine zao rfl (zbL (by kernel_rfl) rfl rfl) (zcZ wz) ?_
          rintro _ w134 ⟨rfl, hb134⟩
          replace hr2 := hr2.new hb134
          replace hBr := hBr.acc hb134
          refine zad (zai rfl rfl) (zad (zai rfl rfl) (zad (zai rfl rfl) (zad (zai rfl rfl) ?_)))
          refine zaG rfl (zaO 2 ([.int .u64 0, .int .i64 0]) hr2 (fun w914 hr2 ho914 => ?_))
          replace hBr := ho914.below hBr (by omega)
          refine zad (zac) (zad (zac) (zad (zac) (zae (zah (zaz (zbd (zaP (zeL (zbd (zaP ?_))))))))))
          refine zam [_, _, _, _] ⟨⟨_, rfl, Ld.zbX (k := 2) hr2 (by kernel_rfl) (by kernel_rfl) (by first | (simp; done) | (simp [zal, *]; done) | assumption)⟩, rfl, rfl, rfl, trivial⟩ ?_
          · refine ⟨hBr, .inl ⟨?_, rfl⟩⟩
            have : Z.all (· == 0) = false := List.all_eq_false.2 ⟨z, List.mem_of_getElem? hz, by
              intro q
              have q' : z = 0 := by simpa using q
              exact hnz (by rw [q']; rfl)⟩
            rw [hJ2, this, Bool.and_false]
         ·
          refine zau (za6 (zah (zaa ?_)))
          refine zad (zaN rfl rfl (Coup.w64 (by omega))) ?_
          refine zad (zab) (zae ?_)
          have hz0 : z = 0 := by
            exact UInt8.toNat_inj.1 (by show z.toNat = 0; omega)
          refine zbw ⟨i + 1, by omega, ⟨rfl, rfl, rfl, rfl, rfl, rfl, rfl, rfl, rfl⟩, by omega, ?_, rfl⟩
          intro j hj
          rcases Nat.lt_or_ge j i with hj' | hj'
          · exact hzero j hj'
          · obtain rfl : j = i := by omega
            rw [hz, hz0]
        ·
         have hJt : J = true := by
           have : Z.all (· == 0) = true := List.all_eq_true.2 fun x hx => by
             have hobt := List.mem_iff_getElem?.1 hx
             obtain ⟨j, hj⟩ := hobt
             have := hzero j (by have := (List.getElem?_eq_some_iff.1 hj).1; omega)
             rw [hj] at this
             simpa using this
           rw [hJ2, this, decide_eq_true hmk, decide_eq_true (by omega)]; rfl
         have hJl : JB.length = K := by rw [hJB, List.length_take, List.length_drop, hbl]; omega
         obtain ⟨oC, hC, hzc⟩ : ∃ oC, (if 4 + K = 4 then some (⟨g9, o9, none⟩ : Addr) else Option.map (fun x : Addr => x.add (4 * 1)) (some (⟨g9, o9, none⟩ : Addr))) = some ⟨g9, oC, none⟩ ∧ ∀ w', zaT w' (some ⟨g9, o9, none⟩) (48 * k) 1 (bv (bodies l k)) → zaT w' (some ⟨g9, oC, none⟩) K 1 (bv JB) := by
           by_cases hq : 4 + K = 4
           · refine ⟨o9, if_pos hq, fun w' _ => ⟨by rw [zal, hJl, Nat.mul_one], by unfold maxLen; omega, fun q => by omega⟩⟩
           · refine ⟨o9 + 4 * 1, by rw [if_neg hq, Option.map_some, Addr.add_lit], fun w' hw => ?_⟩
             have := hw.subB 4 K (by omega)
             rwa [← hJB] at this
         refine zbm (zbW (zcr (zbt (zah (zaf ?_)))))
         refine za5 [g2] (by kernel_rfl) ?_
         intro w915 hb915 hS915
         replace hr2 := hr2.new hb915
         replace hr7 := hr7.new hb915
         replace hx9 := hx9.new hb915
         replace hBr := hBr.acc hb915
         have hr7_d915 := hr7
         refine zat 0 (zav 0) ?_
         refine zbp 1 (fun w' hS' => zaI rfl (Ld.rng ((hr7_d915.kq hS').range 0 [.int .u64 c, .int .i64 nn] (zgC e0 e1)) (by kernel_rfl) (by kernel_rfl))) ?_
         refine zat 2 (zab) ?_
         refine zat 3 (zab) ?_
         refine zat 4 (zaN rfl rfl (w64 (by omega))) ?_
         refine zat 5 (zab) ?_
         refine zat 6 (zaN rfl rfl (w64 (by omega))) ?_
         refine zat 7 (zdE (e := 5) (sz := 1) (4) (4 + K) (4 + K) (by kernel_rfl) rfl ⟨_, _, rfl, rfl⟩ ⟨_, _, rfl, by omega⟩ ⟨_, _, rfl, by omega⟩ (by simp) (by omega) (by omega) (by omega)) ?_
         refine zat 8 (zav 3) ?_
         refine zbp 9 (fun w' hS' => zaI rfl (Ld.zdY (hr7_d915.kq hS') (by kernel_rfl) e3)) ?_
         refine zat 10 (zaN rfl rfl (w64 (by omega))) ?_
         refine zat 11 (zgk rfl rfl (by omega) (by omega)) ?_
         refine zaH 12 (by kernel_rfl) ?_
         refine zbO rfl rfl (zaO 2 ([.int .u64 c, .int .i64 nn]) hr2 (fun w917 hr2 ho917 => ?_))
         have hS916 := hS915.aq ho917
         refine ⟨hS916, ?_⟩
         replace hx9 := hx9.only ho917 (by omega)
         replace hBr := ho917.below hBr (by omega)
         refine zat 13 (zac) ?_
         refine zat 14 (zac) ?_
         refine zat 15 (zac) ?_
         refine zaL (by kernel_rfl) ?_
         refine zah (zaz ?_)
         refine zam [_, _, _, _] ⟨⟨_, rfl, Ld.zbX (k := 2) hr2 (by kernel_rfl) (by kernel_rfl) (by first | (simp; done) | (simp [zal, *]; done) | assumption)⟩, rfl, rfl, rfl, trivial⟩ ?_
         refine ⟨hBr, .inr ⟨hJt, some ⟨g9, oC, none⟩, ?_, by rw [hJl]; exact hzc _ hx9⟩⟩
         have e : Value.tuple #[.agg #[.int .u64 c, .int .i64 nn], .slice (if 4 + K = 4 then some (⟨g9, o9, none⟩ : Addr) else Option.map (fun x : Addr => x.add (4 * 1)) (some (⟨g9, o9, none⟩ : Addr))) (4 + K - 4) (4 + K - 4), .int .i64 (((k : Int) + 1) / 2), .int .i64 0] =
             .tuple #[.agg #[.int .u64 c, .int .i64 nn], .slice (some ⟨g9, oC, none⟩) JB.length JB.length, .int .i64 (zb2 JB.length : Nat), .int .i64 0] := by
           rw [hC, hJl, zb2, hmk, Nat.add_sub_cancel_left]; rfl
         exact e
def refOk (l : List UInt8) (m : Nat) : Bool := (List.range m).all fun i => decide ((zj7 (tagC (zaC l 0)) (tagN (zaC l 0)) (zbA l))[i]? = some (zaC l i))
def refK (l : List UInt8) : Nat := zc4 (((zaC l 0).drop 16).take 4)
def refIs (l : List UInt8) (n : Nat) : Bool :=
 decide (0 < n) && zga (tagC (zaC l 0)) (tagN (zaC l 0)) && decide (1 ≤ zcH (zaC l 0) ∧ zcH (zaC l 0) ≤ 2 * n) && decide (refK l ≤ 32768 ∧ zcM (refK l) = zcH (zaC l 0)) && refOk l (zcH (zaC l 0))
def noneR : Value := .tuple #[.agg #[.int .u64 0, .int .i64 0], .slice none 0 0, .int .i64 0, .bool false]
def RR (l : List UInt8) (n : Nat) (w : World) (v : Value) (w' : World) : Prop :=
 Below w.heap.size w w' ∧ ((refIs l n = false ∧ v = noneR) ∨ (refIs l n = true ∧ ∃ sp c, v = .tuple #[.agg #[.int .u64 (tagC (zaC l 0)), .int .i64 (tagN (zaC l 0))], .slice sp (zbA l).length c, .int .i64 (zb2 (zbA l).length : Nat), .bool true] ∧
  zaT w' sp (zbA l).length 1 (bv (zbA l)) ∧ (zbA l).length ≤ c))
structure Told (l : List UInt8) (n c nn : Nat) (b : List UInt8) : Prop where
 is : zbZ l n = true
 c : zbn (zaC l 0) = c
 n : zd4 (zaC l 0) = nn
 b : zbA l = b
end Go.Proofs.YtdbogkndglbffaaGreat
namespace Coup
open Go Go.RowKit Go.ChangeShapes Go.WideShapes Go.Deep
section
variable {H : Type} {enc : TypeId × Value → H} {P : Program} {W : World} {base : Nat} {spare : Nat → Bool} {held : Bool}
def Opn (enc : TypeId × Value → H) (P : Program) (W : World) (base : Nat) (spare : Nat → Bool) (held : Bool) (e : TypeId) {α : Type} (Q : α → List Value → Prop) : Prop :=
 ∀ fuel cs x, DataW.trod enc P W base spare held fuel e cs = some x → ∃ r, Q r cs
def zh7 {α : Type} (Q : α → List Value → Prop) (W : World) (n : Nat) (p : Option Addr) (len : Nat) (R : List α) : Prop :=
 R.length = len ∧ ∃ cs, zaT W p len n cs ∧ ∀ (i : Nat) (r : α), R[i]? = some r → Q r ((cs.drop (i * n)).take n)
end
namespace zh7
variable {α : Type} {Q Q' : α → List Value → Prop} {w w' : World} {n : Nat} {p : Option Addr} {len : Nat} {R : List α}
theorem some (h : zh7 Q w n p len R) (h0 : 0 < len * n) : ∃ g o, p = Option.some ⟨g, o, none⟩ ∧ g < w.heap.size := by
 obtain ⟨_, cs, h2, _⟩ := h
 exact h2.some h0
theorem max (h : zh7 Q w n p len R) : len ≤ maxLen := h.2.choose_spec.1.max
theorem get {i : Nat} (h : zh7 Q w n p len R) (hi : i < len) : ∃ a, R[i]? = Option.some a := ⟨_, List.getElem?_eq_getElem (by have := h.1; omega)⟩
theorem to (h : zh7 Q w n p len R) (hb : Below w.heap.size w w') (hq : ∀ r cs, Q r cs → Q' r cs) : zh7 Q' w' n p len R := by
 obtain ⟨h1, cs, h2, h3⟩ := h
 exact ⟨h1, cs, h2.below hb (Nat.le_refl _), fun i r hi => hq r _ (h3 i r hi)⟩
theorem kpd {M : List Nat} (h : zh7 Q w n p len R) (k : Kp M w w') (hM : ∀ b o, p = Option.some ⟨b, o, none⟩ → b ∉ M) : zh7 Q w' n p len R := by
 obtain ⟨h1, cs, h2, h3⟩ := h
 exact ⟨h1, cs, h2.kpd k hM, h3⟩
end zh7
end Coup
namespace Go.Proofs.YtdbogkndglbffaaGreat
open Go Go.RowKit Coup
structure Ch where
 num : Int
 page : List UInt8
def chV (c : Ch) : List Value := .int .i64 c.num :: bv c.page
abbrev Rec := List Ch
def zce (R : Rec) : Prop := ∀ c ∈ R, c.page.length = 512
def zb3 (R : Rec) : List Value := R.flatMap chV
theorem zej {c : Ch} (h : c.page.length = 512) : (chV c).length = 513 := by rw [chV, List.length_cons, zal, h]
theorem zb0 {R : Rec} (h : zce R) : (zb3 R).length = R.length * 513 := by
 induction R with
 | nil => rfl
 | cons c R ih =>
  rw [zb3, List.flatMap_cons, List.length_append, zej (h c (List.mem_cons_self ..)), List.length_cons]
  have := ih fun x hx => h x (List.mem_cons_of_mem _ hx)
  rw [zb3] at this
  omega
theorem zm6 {R : Rec} (h : zce R) {i : Nat} {c : Ch} (hc : R[i]? = some c) : ((zb3 R).drop (i * 513)).take 513 = chV c := by
 induction R generalizing i with
 | nil => simp at hc
 | cons d R ih =>
  have hd := zej (h d (List.mem_cons_self ..))
  cases i with
  | zero =>
   obtain rfl : d = c := by simpa using hc
   rw [Nat.zero_mul, List.drop_zero, zb3, List.flatMap_cons, List.take_left' hd]
  | succ i =>
   have hc' : R[i]? = some c := by simpa using hc
   rw [zb3, List.flatMap_cons, show (i + 1) * 513 = (chV d).length + i * 513 by omega, List.drop_append, List.drop_of_length_le (by omega), List.nil_append, show (chV d).length + i * 513 - (chV d).length = i * 513 by omega]
   exact ih (fun x hx => h x (List.mem_cons_of_mem _ hx)) hc'
theorem zgE (R : Rec) (c : Ch) : zb3 (R ++ [c]) = zb3 R ++ chV c := by rw [zb3, List.flatMap_append]; simp [zb3]
theorem zeU (c : Ch) : ∀ v ∈ chV c, v.oneCell' = true := fun v hv => by
 rcases List.mem_cons.1 hv with rfl | hv
 ·rfl
 ·exact zb5 _ v hv
theorem zos (R : Rec) : ∀ v ∈ zb3 R, v.oneCell' = true := fun v hv => by
 obtain ⟨c, _, h⟩ := List.mem_flatMap.1 hv
 exact zeU c v h
theorem zot {w : World} {g o n : Nat} {R : Rec} (h : zaT w (some ⟨g, o, none⟩) n 513 (zb3 R)) (hR : zce R) {i : Nat} {c : Ch} (hc : R[i]? = some c) : Ld Tryz.prog w 147 ⟨g, o + i * 513, none⟩ (.agg (chV c).toArray) := by
 have hi := (List.getElem?_eq_some_iff.1 hc).1
 have hl := zb0 hR
 have := Ld.slN (P := Tryz.prog) (t := 147) (j := i * 513) (k := 513) h (by kernel_rfl) (by kernel_rfl) (by omega)
 rw [zm6 hR hc] at this
 exact this
def zdC (n : Int) : Int := if 1 ≤ n ∧ n ≤ 60 then (zb2 (n.toNat * 516) : Nat) else 0
set_option maxRecDepth 20000 in
theorem need10 (n : Int) (w : World) : Calls Tryz.prog 119 [.int .i64 n].toArray w (Ret fun v w' => v = .int .i64 (zdC n) ∧ w = w') := by
 refine zas (fn := Tryz.f119) (rs := [.tmp 2]) (n := 12) Tryz.func119 rfl rfl Tryz.ntmps119 (by kernel_rfl) rfl ?_
 refine zaf (zaa (zad (zac) (zae (zah (zaf (zaf (zaa (zad (zab) ?_))))))))
 refine zad (za2 rfl rfl) ?_
 refine zad (zab) ?_
 refine zb8 5 rfl (fun h1 => ?_) (fun h1 => ?_)
 ·
  refine zaK rfl rfl (zaK rfl rfl (zad (zaA rfl) (zae (zah ?_))))
  refine zin rfl (rfl) ?_
  refine zaf (zaa (zad (zac) (zae (zah (zaz (zaP ?_))))))
  refine zam [_] ⟨rfl, trivial⟩ ?_
  exact ⟨by rw [zdC, if_neg (by omega)]; rfl, rfl⟩
 ·
  refine zan rfl (zad (zab) (zan rfl ?_))
  refine zad (zbu rfl rfl) ?_
  refine zad (zaw rfl) (zae (zah ?_))
  refine zbf rfl (fun h2 => ?_) (fun h2 => ?_)
  ·
   refine zaf (zaa (zad (zac) (zae (zah (zaz (zaP ?_))))))
   refine zam [_] ⟨rfl, trivial⟩ ?_
   exact ⟨by rw [zdC, if_neg (by omega)]; rfl, rfl⟩
  ·
   refine zau (zah (zaf (zaa (zad (zab) ?_))))
   refine zad (zc1 rfl rfl (Coup.w64 (by omega))) ?_
   refine zao rfl (zaj (by kernel_rfl) rfl) (need12r (n * 516) w) ?_
   rintro _ _ ⟨rfl, rfl⟩
   refine zad (zac) (zae (zah (zaz ?_)))
   refine zam [_] ⟨rfl, trivial⟩ ?_
   refine ⟨?_, rfl⟩
   show Value.int .i64 _ = _
   congr 1
   rw [zdC, if_pos (by omega), zlB, if_pos (by omega), show (n * 516).toNat = n.toNat * 516 by omega]
   rfl
set_option maxRecDepth 20000 in
theorem zh8 (p : Option Addr) (n c : Nat) (l : List UInt8) (w : World) (h : zaT w p n 1 (bv l)) (hn : n ≤ 8) : Calls Tryz.prog 172 [.slice p n c].toArray w (Ret fun v w' => v = .int .u64 (zc4 l) ∧ w = w') := by
 have hl : l.length = n := by simpa [zal] using h.len
 refine zas (fn := Tryz.f172) (rs := [.tmp 2]) (n := 18) Tryz.func172 rfl rfl Tryz.ntmps172 (by kernel_rfl) rfl ?_
 refine zaf (zaa (zad (zac) (zae (zah (zaf (zaf (zaa (zad (zab) ?_))))))))
 refine zad (zaJ (e := 5) (sz := 1) (by kernel_rfl) rfl rfl) ?_
 refine zad (zab) (zae (zah (zaE ?_)))
 refine zbB (α := Nat) 0 (fun k => [(2, .int .u64 (zc4 (l.take k) : Nat)), (7, .int .i64 (k : Nat)), (6, .int .i64 (n : Int)), (5, .slice p n c)]) (fun k w' => k ≤ n ∧ w = w') (fun k => n - k)
   ⟨rfl, rfl, rfl, rfl, rfl⟩ ⟨Nat.zero_le _, rfl⟩ ?_
 rintro k f wr ⟨hk, rfl⟩
 refine zaf (zaa ?_)
 refine zad (za2 rfl rfl) ?_
 refine zae (zah (zaf ?_))
 refine zbf rfl (fun hlt => ?_) (fun hlt => ?_)
 ·
  refine zau (zah (zaf (zaE (zaf ?_))))
  have hobt : ∃ x, l[k]? = some x := ⟨_, List.getElem?_eq_getElem (by omega)⟩
  obtain ⟨x, hx⟩ := hobt
  have hobt := h.some (by omega)
  obtain ⟨g, o, rfl, hg⟩ := hobt
  have hsm := ziX l k (by omega)
  have hb := x.toNat_lt
  refine zaa ?_
  refine zad (zaX (e := 5) (by kernel_rfl) rfl rfl (k) (by omega) (by omega)) ?_
  refine zad (zaI rfl (Ld.sl1 h (by kernel_rfl) (show (bv l)[k]? = some (.int .u8 (x.toNat : Int)) by rw [zir, hx]; rfl))) ?_
  refine zad (zac) (zae (zah (zaa (zad (zab) ?_))))
  refine zad (ziA rfl rfl (by omega) (show IntKind.u64.wrap (((zc4 (l.take k) : Nat) : Int) * 2 ^ (min (8 : Int).toNat IntKind.u64.bits)) = ((256 * zc4 (l.take k) : Nat) : Int) by rw [show (2 : Int) ^ (min (8 : Int).toNat IntKind.u64.bits) = 256 from rfl, wu64 (by omega)]; omega)) ?_
  refine zad (zab) ?_
  refine zad (zbz (k := .u64) (by kernel_rfl) (by kernel_rfl) rfl (wu64 (by omega))) ?_
  refine zad (zml rfl rfl ((orU 8 (zc4 (l.take k) : Nat) (by omega) (by omega) (by omega) (by omega)).trans (show _ = ((zc4 (l.take (k + 1)) : Nat) : Int) by rw [zh3 l k x hx]; omega))) ?_
  refine zad (zac) (zae (za6 (zah (zaa ?_))))
  refine zad (zaN rfl rfl (Coup.w64 (by omega))) ?_
  refine zad (zab) (zae ?_)
  refine zbw ⟨k + 1, by omega, ⟨rfl, by go_num, rfl, rfl, rfl⟩, by omega, rfl⟩
 ·
  refine zbm (zbW (zcr (zbt (zah (zaf (zaa (zad (zab) (zad (zac) (zae (zah (zaz ?_)))))))))))
  refine zam [_] ⟨rfl, trivial⟩ ?_
  refine ⟨?_, rfl⟩
  rw [List.take_of_length_le (by omega)]
  rfl
theorem zfo (x : Int) : ∃ b : UInt8, IntKind.u8.wrap x = (b.toNat : Int) := by
 have h : 0 ≤ IntKind.u8.wrap x ∧ IntKind.u8.wrap x < 256 := by rw [IntKind.wrap_u8]; omega
 refine ⟨UInt8.ofNat (IntKind.u8.wrap x).toNat, ?_⟩
 rw [UInt8.toNat_ofNat']
 omega
theorem zlK (n : Int) : ∃ l4 : List UInt8, l4.length = 4 ∧ (0 ≤ n → l4 = beB 4 n.toNat) ∧ [Value.int .u8 (IntKind.u8.wrap (n.fdiv (2 ^ (min (24 : Int).toNat IntKind.i64.bits)))), .int .u8 (IntKind.u8.wrap (n.fdiv (2 ^ (min (16 : Int).toNat IntKind.i64.bits)))), .int .u8 (IntKind.u8.wrap (n.fdiv (2 ^ (min (8 : Int).toNat IntKind.i64.bits)))), .int .u8 (IntKind.u8.wrap n)] = bv l4 := by
 show ∃ l4 : List UInt8, l4.length = 4 ∧ (0 ≤ n → l4 = beB 4 n.toNat) ∧ [Value.int .u8 (IntKind.u8.wrap (n.fdiv (2 ^ 24))), .int .u8 (IntKind.u8.wrap (n.fdiv (2 ^ 16))), .int .u8 (IntKind.u8.wrap (n.fdiv (2 ^ 8))), .int .u8 (IntKind.u8.wrap n)] = bv l4
 by_cases h : 0 ≤ n
 ·obtain ⟨k, rfl⟩ : ∃ k : Nat, n = k := ⟨n.toNat, by omega⟩
  exact ⟨beB 4 k, zaQ _ _, fun _ => by rw [Int.toNat_natCast], bytes4 k⟩
 ·obtain ⟨a, ha⟩ := zfo (n.fdiv (2 ^ 24))
  obtain ⟨b, hb⟩ := zfo (n.fdiv (2 ^ 16))
  obtain ⟨c, hc⟩ := zfo (n.fdiv (2 ^ 8))
  obtain ⟨d, hd⟩ := zfo n
  exact ⟨[a, b, c, d], rfl, fun h' => absurd h' h, by rw [ha, hb, hc, hd]; rfl⟩
def zi3 (n : Int) : Bool := decide (0 ≤ n ∧ n < 2147483648)
def recB (R : Rec) : List UInt8 := R.flatMap fun c => beB 4 c.num.toNat ++ c.page
def mayR (R : Rec) : Bool := decide (1 ≤ R.length ∧ R.length ≤ 60) && R.all fun c => zi3 c.num
theorem zi4 {n : Nat} (h : 1 ≤ n ∧ n ≤ 60) : zdC n = (zb2 (516 * n) : Nat) ∧ 0 < zb2 (516 * n) := by
 rw [zdC, if_pos (by omega), Int.toNat_natCast, Nat.mul_comm n 516]
 exact ⟨rfl, by unfold zb2 zcM; omega⟩
theorem zlL {n : Nat} (h : ¬ (1 ≤ n ∧ n ≤ 60)) : zdC n = 0 := by rw [zdC, if_neg (by omega)]
def zjE (b : List UInt8) (i : Nat) : Ch := ⟨(zc4 ((b.drop (516 * i)).take 4) : Nat), (b.drop (516 * i + 4)).take 512⟩
def ofL (b : List UInt8) (n : Nat) : Rec := (List.range n).map (zjE b)
def ofOk (b : List UInt8) : Bool := decide (b.length % 516 = 0) && decide (1 ≤ b.length / 516 ∧ b.length / 516 ≤ 60) && (ofL b (b.length / 516)).all fun c => zi3 c.num
def ofR (b : List UInt8) : Option Rec := if ofOk b then some (ofL b (b.length / 516)) else none
theorem zou (b : List UInt8) (n : Nat) : ofL b (n + 1) = ofL b n ++ [zjE b n] := by simp [ofL, List.range_succ]
theorem zka (b : List UInt8) (n : Nat) : (ofL b n).length = n := by simp [ofL]
theorem ofL_at (b : List UInt8) {n i : Nat} (h : i < n) : (ofL b n)[i]? = some (zjE b i) := by rw [ofL, List.getElem?_map, List.getElem?_range h]; rfl
theorem zi5 {b : List UInt8} {i : Nat} (h : 516 * i + 516 ≤ b.length) : (zjE b i).page.length = 512 := by
 show ((b.drop (516 * i + 4)).take 512).length = 512
 rw [List.length_take, List.length_drop]; omega
theorem zht {ρ : Env} {w : World} {d : Option Nat} {ty : TypeId} {pos : String} {af : Array Edge} {gd : Option (Nat × Bool)} {x y : Operand} {a : Int} {l : List UInt8} {L : List Value} (hl : l.length = 512) (hL : chV ⟨a, l⟩ = L) (hx : ev ρ x = .int .i64 a) (hy : ev ρ y = .agg (bv l).toArray) :
  (execOp (ev ρ) ⟨d, .build 147 #[(0, x), (1, y)], ty, pos, af, gd⟩).run Tryz.prog w = .ok (.value (.agg L.toArray)) w := by
 rw [← hL]
 have h := zkH (P := Tryz.prog) (t := 147) (ρ := ρ) (w := w) (d := d) (ty := ty) (pos := pos) (af := af) (gd := gd) (k := 513) (parts := [(0, x), (1, y)]) [(0, .int .i64 a), (1, .agg (bv l).toArray)] [(0, 1), (1, 512)] (by kernel_rfl) (by kernel_rfl) (by simp [hx, hy])
  (by
   intro i hi
   rcases i with _ | _ | i
   ·simp [Value.cells]
   ·simp [Value.cells, zal, hl]
   ·exfalso; simp only [List.length_cons, List.length_nil] at hi; omega) (by simp [Value.cells, zal, hl])
 rw [h]
 simp [Value.cells, chV]
set_option maxRecDepth 20000 in
set_option maxHeartbeats 1000000 in
theorem of13 (b : List UInt8) (p : Option Addr) (n cp : Nat) (w : World) (h : zaT w p n 1 (bv b)) (hcp : n ≤ cp) (hn2 : n ≤ 1000000) :
   Calls Tryz.prog 175 [.slice p n cp].toArray w (Ret fun v w' => ((∃ r g o c, ofR b = some r ∧ v = .tuple #[.slice (some ⟨g, o, none⟩) r.length c, .int .i64 0] ∧ w.heap.size ≤ g ∧ r.length ≤ c ∧ zaT w' (some ⟨g, o, none⟩) r.length 513 (zb3 r)) ∨ (ofR b = none ∧ v = .tuple #[.slice none 0 0, .int .i64 4])) ∧ Below w.heap.size w w') := by
 have hB := Below.refl w.heap.size w
 have hml : maxLen = 9223372036854775807 := by decide
 have hl : b.length = n := by simpa [zal] using h.len
 refine zas (fn := Tryz.f175) (rs := [.tmp 2, .tmp 3]) (n := 51) Tryz.func175 rfl rfl Tryz.ntmps175 (by kernel_rfl) rfl ?_
 refine zaf (zaa (zad (zac) (zad (zac) (zae (zah (zaf (zaf (zaa (zad (zab) ?_)))))))))
 refine zad (zaJ (e := 5) (sz := 1) (by kernel_rfl) rfl rfl) ?_
 refine zad (rn_rem0 rfl rfl (by omega) (by omega)) ?_
 refine zad (zaM rfl rfl) ?_
 refine zad (zab) ?_
 refine zb8 11 rfl (fun h0 => ?_) (fun h0 => ?_)
 ·
  refine zaK rfl rfl (zaK rfl rfl (zaK rfl rfl (zaK rfl rfl (zaK rfl rfl (zad (zaA rfl) (zae (zah ?_)))))))
  refine zin rfl (rfl) ?_
  refine zaf (zaa (zad (zac) (zad (zac) (zae (zah (zaz (zaP ?_)))))))
  refine zam [_, _] ⟨rfl, rfl, trivial⟩ ?_
  exact ⟨.inr ⟨by rw [ofR, ofOk, hl, decide_eq_false (by omega)]; rfl, rfl⟩, hB⟩
 ·
  refine zan rfl (zad (zab) (zan rfl ?_))
  refine zad (zaJ (e := 5) (sz := 1) (by kernel_rfl) rfl rfl) ?_
  refine zan rfl ?_
  refine zad (zgk rfl rfl (by omega) (by omega)) ?_
  refine zan rfl ?_
  refine zao rfl (zaj (by kernel_rfl) rfl) (need10 ((n : Int) / 516) w) ?_
  rintro _ _ ⟨rfl, rfl⟩
  refine zan rfl ?_
  refine zad (za9 rfl rfl) ?_
  refine zad (zaw rfl) (zae (zah ?_))
  refine zbf rfl (fun h1 => ?_) (fun h1 => ?_)
  ·
   refine zaf (zaa (zad (zac) (zad (zac) (zae (zah (zaz (zaP ?_)))))))
   refine zam [_, _] ⟨rfl, rfl, trivial⟩ ?_
   have hno : ¬ (1 ≤ n / 516 ∧ n / 516 ≤ 60) := fun hc => by have := zi4 hc; rw [show ((n / 516 : Nat) : Int) = (n : Int) / 516 by omega] at this; omega
   exact ⟨.inr ⟨by rw [ofR, ofOk, hl, decide_eq_false hno]; simp, rfl⟩, hB⟩
  ·
   have hyes : 1 ≤ n / 516 ∧ n / 516 ≤ 60 := by
     by_cases hc : 1 ≤ n / 516 ∧ n / 516 ≤ 60
     · exact hc
     · have := zlL hc
       rw [show ((n / 516 : Nat) : Int) = (n : Int) / 516 by omega] at this
       exact absurd this h1
   have hob : ∃ m, n = 516 * m := ⟨n / 516, by omega⟩
   obtain ⟨m, hm⟩ := hob
   have hmm : n / 516 = m := by omega
   rw [hmm] at hyes
   refine zau (zah (zaf (zaa (zad (zac) (zae (zah (zaf (zaf (zaa (zad (zac) (zae ?_)))))))))))
   refine zah (zaE ?_)
   refine zbB (α := Nat × Value) (0, .slice none 0 0) (fun k => [(5, .int .i64 ((516 * k.1 : Nat) : Int)), (4, k.2), (0, .slice p n cp)])
     (fun k w' => k.1 ≤ m ∧ zaB w' w.heap.size 147 513 k.2 k.1 (zb3 (ofL b k.1)) ∧ (∀ j, j < k.1 → zi3 (zjE b j).num = true) ∧ Below w.heap.size w w') (fun k => m - k.1)
     ⟨rfl, rfl, rfl, rfl⟩ ⟨Nat.zero_le _, zbI _ _ _ _, (by intro j hj; exact absurd hj (Nat.not_lt_zero _)), hB⟩ ?_
   clear hB
   rintro ⟨k, u⟩ f wr ⟨hk, hu, hall, hB⟩
   dsimp only at hk hu hall ⊢
   refine zaf (zaf (zaa (zad (zab) (zad (zab) ?_))))
   refine zad (zaJ (e := 5) (sz := 1) (by kernel_rfl) rfl rfl) ?_
   refine zad (za2 rfl rfl) ?_
   refine zae (zah ?_)
   refine zbf rfl (fun hlt => ?_) (fun hlt => ?_)
   ·
    refine zau (zah (zaf (zaE (zaf ?_))))
    have hs := h.below hB (Nat.le_refl _)
    have hobt := h.some (by omega)
    obtain ⟨gp, op, rfl, hgp⟩ := hobt
    have hs4 := hs.subB (516 * k) 4 (by omega)
    have hcp2 := zi5 (b := b) (i := k) (by omega)
    have hobt : ∃ x, zc4 ((b.drop (516 * k)).take 4) = x := ⟨_, rfl⟩
    obtain ⟨x, hx⟩ := hobt
    have hx4 : x < 4294967296 := by rw [← hx]; exact zbV _ 4 (by simp; omega)
    have hnu := fun c => zh8 (some ⟨gp, op + 516 * k, none⟩) 4 c _ wr hs4 (by omega)
    simp only [hx] at hnu
    refine zaa (zad (zab) (zad (zab) (zad (zab) ?_)))
    refine zad (zaN rfl rfl (Coup.w64 (by omega))) ?_
    refine zad (zab) ?_
    refine zad (zaN rfl rfl (Coup.w64 (by omega))) ?_
    refine zad (zcb (e := 5) (516 * k) (516 * k + 4) (516 * k + 4) (4) (by kernel_rfl) rfl ⟨_, _, rfl, by omega⟩ ⟨_, _, rfl, by omega⟩ ⟨_, _, rfl, by omega⟩ (by simp) (by omega) (by omega) (by omega) (by omega) (by omega)) ?_
    refine zao rfl (zaj (by kernel_rfl) rfl) (hnu _) ?_
    rintro _ _ ⟨rfl, rfl⟩
    refine zad (zac) (zae (zah (zaf (zaf (zaa (zad (zab) ?_))))))
    refine zad (zc2 rfl rfl) ?_
    refine zae (zah ?_)
    refine zbf rfl (fun hbig => ?_) (fun hbig => ?_)
    ·
     refine zaf (zaa (zad (zac) (zad (zac) (zae (zah (zaz (zaP (zbd (zaP (zeL (zbd ?_)))))))))))
     refine zaP ?_
     refine zam [_, _] ⟨rfl, rfl, trivial⟩ ?_
     have hno : ¬ (zi3 (zjE b k).num = true) := fun hc => by
       have h1 := (of_decide_eq_true hc).2
       have h2 : (zjE b k).num = (x : Int) := by rw [← hx]; rfl
       omega
     have hof : ofR b = none := by
       have ha : (ofL b (b.length / 516)).all (fun c => zi3 c.num) = false := by
         rw [List.all_eq_false]
         exact ⟨zjE b k, List.mem_of_getElem? (ofL_at b (n := b.length / 516) (i := k) (by omega)), hno⟩
       rw [ofR, ofOk, ha, Bool.and_false]; rfl
     exact ⟨.inr ⟨hof, rfl⟩, hB⟩
    ·
     have hnk : zi3 (zjE b k).num = true := by
       have h2 : (zjE b k).num = (x : Int) := by rw [← hx]; rfl
       rw [zi3, h2]
       exact decide_eq_true (by omega)
     have hpg : ((bv b).drop (516 * k + 4)).take 512 = bv (zjE b k).page := by rw [← zcP, ← zc9]; rfl
     have hpl : (zjE b k).page.length = 512 := hcp2
     have hchc : chV ⟨(x : Int), (zjE b k).page⟩ = chV (zjE b k) := by rw [← hx]; rfl
     have hld : Ld Tryz.prog wr 62 ⟨gp, op + (516 * k + 4), none⟩ (.agg (bv (zjE b k).page).toArray) := by
       have h9 := Ld.slN (P := Tryz.prog) (t := 62) (j := 516 * k + 4) (k := 512) (h.below hB (Nat.le_refl _)) (by kernel_rfl) (by kernel_rfl) (by rw [zal]; omega)
       rw [hpg] at h9
       exact h9
     have hofs := zou b k
     have hob : ∃ C, zjE b k = C := ⟨_, rfl⟩
     obtain ⟨C, hC⟩ := hob
     rw [hC] at hofs hld hpl hchc hnk
     have hchl := zej hpl
     have hch1 := zeU C
     refine zau (zah (zaa (zad (zab) (zad (zab) ?_))))
     refine zad (zbz (k := .i64) (by kernel_rfl) (by kernel_rfl) rfl (show IntKind.i64.wrap (x : Int) = (x : Int) by rw [w64 (by omega)])) ?_
     refine zad (zab) (zad (zab) ?_)
     refine zad (zaN rfl rfl (Coup.w64 (by omega))) ?_
     refine zad (zab) ?_
     refine zad (zaN rfl rfl (Coup.w64 (by omega))) ?_
     refine zad (zab) ?_
     refine zad (zaN rfl rfl (Coup.w64 (by omega))) ?_
     refine zad (zcb (e := 5) (516 * k + 4) (516 * k + 516) (516 * k + 516) (512) (by kernel_rfl) rfl ⟨_, _, rfl, by omega⟩ ⟨_, _, rfl, by omega⟩ ⟨_, _, rfl, by omega⟩ (by simp) (by omega) (by omega) (by omega) (by omega) (by omega)) ?_
     refine zad (zhk (n := 512) (e := 5) (sz := 1) (by kernel_rfl) rfl (by omega)) ?_
     refine zad (zaI rfl (hld)) ?_
     refine zad (zht hpl hchc rfl rfl) ?_
     refine zay rfl (zdF (e := 147) (.agg (chV C).toArray) (chV C) (([Value.int .i64 0]) ++ (List.replicate 512 (Value.int .u8 0))) 513 (by kernel_rfl) (by kernel_rfl) rfl rfl (by first | rfl | (simp; done) | (simp [zal, *]; done)) ⟨by decide, by decide⟩ (fun g48 w48 hg48 hr48 hb48 => ?_))
     have ge_hB_g48 := Nat.le_trans hB.size hg48
     replace hu := hu.new hb48
     replace hB := hB.acc hb48
     have hs48 := hr48.slA (m := 1) (sz := 513) hchl (by omega)
     have sz_hB_49 := hB.size
     refine zay rfl (zbq (e := 147) (sz := 513) (bytes := 520) (z := .agg (([Value.int .i64 0]) ++ (List.replicate 512 (Value.int .u8 0))).toArray) (by kernel_rfl) rfl (by kernel_rfl) rfl (by decide) rfl hu rfl hs48 hch1 (by unfold maxLen; omega) (by omega) (fun hm0 => by omega) (fun v49 w49 hv49 hgr49 hfr49 => ?_))
     replace hB := hB.own hu hgr49 (by omega)
     refine zad (zac) (zae (za6 (zah (zaa (zad (zab) ?_)))))
     refine zad (zaN rfl rfl (Coup.w64 (by omega))) ?_
     refine zad (zac) (zae ?_)
     rw [← zgE, ← hofs] at hv49
     refine zbw ⟨(k + 1, v49), by omega, ⟨by go_num, rfl, rfl, rfl⟩, by omega, hv49, fun j hj => ?_, hB⟩
     by_cases hjk : j < k
     · exact hall j hjk
     · obtain rfl : j = k := by omega
       rw [hC]; exact hnk
   ·
    have hkm : k = m := by omega
    subst hkm
    have hof : ofR b = some (ofL b k) := by
      have ha : (ofL b k).all (fun c => zi3 c.num) = true := by
        rw [List.all_eq_true]
        intro c hc
        obtain ⟨j, hj, rfl⟩ := List.mem_map.1 hc
        exact hall j (List.mem_range.1 hj)
      rw [ofR, ofOk, hl, hmm, ha, decide_eq_true (by omega : n % 516 = 0), decide_eq_true hyes]; rfl
    have hlen := zka b k
    have hobt := hu.form' (by omega)
    obtain ⟨g, o, c, rfl, hg1, hg2, hg3⟩ := hobt
    refine zbm (zbW (zcr (zbt (zah (zaf (zaa (zad (zab) (zad (zac) (zad (zac) (zae (zah ?_)))))))))))
    refine zaz ?_
    refine zam [_, _] ⟨rfl, rfl, trivial⟩ ?_
    exact ⟨.inl ⟨_, g, o, c, hof, by rw [hlen]; rfl, hg1, by rw [hlen]; exact hg3, by rw [hlen]; exact hu.sl⟩, hB⟩
end Go.Proofs.YtdbogkndglbffaaGreat
namespace Coup
open Go Go.RowKit
section
variable {P : Program} {ρ : Env} {w : World} {d : Option Nat} {ty : TypeId} {pos : String} {af : Array Edge} {gd : Option (Nat × Bool)} {K : Value → World → Prop}
theorem zov {dT sT e : Nat} {x y : Operand} {dLen dCap : Nat} (cs : List UInt8) (hu : P.underlying dT = some (.slice e)) (hsz : zcm P e 1 = true) (g off : Nat) (hd : ev ρ x = .slice (some ⟨g, off, none⟩) dLen dCap) (hs : ev ρ y = strOf cs)
  {l : List Value} {t : Nat} (hr : row w g l t) (hle : cs.length ≤ dLen) (hfit : off + cs.length ≤ l.length)
  (h : ∀ w', row w' g (splice l off (bv cs)) t → Only g w w' → K (goInt cs.length) w') : Mk P ρ w ⟨d, .call ⟨.builtin .copy, #[x, y], #[dT, sT]⟩, ty, pos, af, gd⟩ K := by
 have hsize : ByteArray.size ⟨cs.toArray⟩ = cs.length := by simp [ByteArray.size]
 have hrun := Go.Lib.run_copy_row_string (P := P) w dT sT ty e g off dLen dCap ⟨cs.toArray⟩ l.toArray t hu (zer hsz) hr (by rw [hsize]; exact hle) (by rw [hsize]; simpa using hfit)
 rw [hsize] at hrun
 have hc : (l.toArray.toList.take off ++ Go.Lib.byteCells (ByteArray.data ⟨cs.toArray⟩).toList ++ l.toArray.toList.drop (off + cs.length)) = splice l off (bv cs) := by
  rw [splice, zal, List.append_assoc]
  simp [Go.Lib.byteCells, bv, zdm]
 rw [hc] at hrun
 refine ⟨_, _, ?_, h _ (by simpa [row] using setRow_heap w g _ _ t _ hr) (Only.setRow _)⟩
 simp only [strOf] at hs
 simp [execOp, resolve, invoke, builtin, hd, hs, hrun, Result.andThen]
end
end Coup
namespace Go.Proofs.YtdbogkndglbffaaGreat
open Go Go.RowKit Coup
def magic : List UInt8 := [67, 80, 76, 71]
def zcx (c s : Nat) : List UInt8 := magic ++ (beB 8 c ++ (beB 8 s ++ zaY 108))
theorem zi6 (c s : Nat) : (zcx c s).length = 128 := by simp [zcx, magic, zaQ, zaY]
def hdF (c s i j : Nat) : UInt8 := if j < 4 then magic.getD j 0 else if j < 12 then (if j - 4 < i then (beB 8 c).getD (j - 4) 0 else 0) else if j < 20 then (if j - 12 < i then (beB 8 s).getD (j - 12) 0 else 0) else 0
def hdL (c s i : Nat) : List UInt8 := (List.range 128).map (hdF c s i)
theorem zkb (c s i j : Nat) : (hdL c s i)[j]? = if j < 128 then some (hdF c s i j) else none := by
 rw [hdL, List.getElem?_map]
 by_cases h : j < 128
 ·rw [List.getElem?_range h, if_pos h]; rfl
 ·rw [List.getElem?_eq_none (by rw [List.length_range]; omega), if_neg h]; rfl
theorem zh9 (c s i : Nat) : (hdL c s i).length = 128 := by simp [hdL]
theorem zm7 {x j : Nat} (h : j < 8) : (beB 8 x)[j]? = some ((beB 8 x).getD j 0) := by
 rw [List.getD_eq_getElem?_getD, List.getElem?_eq_getElem (by rw [zaQ]; exact h)]; rfl
theorem zm8 (c s : Nat) : hdL c s 8 = zcx c s := by
 refine List.ext_getElem? fun j => ?_
 rw [zkb]
 unfold zcx hdF
 by_cases h1 : j < 4
 ·rw [if_pos (by omega), if_pos h1, List.getElem?_append_left (by simpa [magic] using h1)]
  match j, h1 with
  | 0, _ => rfl
  | 1, _ => rfl
  | 2, _ => rfl
  | 3, _ => rfl
 ·rw [List.getElem?_append_right (by simp [magic]; omega), show magic.length = 4 from rfl, if_neg h1]
  by_cases h2 : j < 12
  ·rw [if_pos (by omega), if_pos h2, if_pos (by omega), List.getElem?_append_left (by rw [zaQ]; omega), zm7 (by omega)]
  ·rw [if_neg h2, List.getElem?_append_right (by rw [zaQ]; omega), zaQ, show j - 4 - 8 = j - 12 by omega]
   by_cases h3 : j < 20
   ·rw [if_pos (by omega), if_pos h3, if_pos (by omega), List.getElem?_append_left (by rw [zaQ]; omega), zm7 (by omega)]
   ·rw [if_neg h3, List.getElem?_append_right (by rw [zaQ]; omega), zaQ]
    by_cases h4 : j < 128
    ·rw [if_pos h4, zaY, List.getElem?_replicate, if_pos (by omega)]
    ·rw [if_neg h4, zaY, List.getElem?_replicate, if_neg (by omega)]
theorem zm9 (c s : Nat) : splice (List.replicate 128 (Value.int .u8 0)) 0 (bv magic) = bv (hdL c s 0) := by
 have e : splice (List.replicate 128 (Value.int .u8 0)) 0 (bv magic) = bv (magic ++ zaY 124) := by
  simp only [splice, List.take_zero, List.nil_append, Nat.zero_add, zal, zcD, zh4]
  rw [show magic.length = 4 from rfl, List.drop_replicate]; rfl
 rw [e]
 congr 1
theorem zow (c s i : Nat) (h : i < 8) : ((hdL c s i).set (4 + i) ((beB 8 c).getD i 0)).set (12 + i) ((beB 8 s).getD i 0) = hdL c s (i + 1) := by
 refine List.ext_getElem? fun j => ?_
 rw [List.getElem?_set, List.length_set, zh9, List.getElem?_set, zh9, zkb, zkb]
 unfold hdF
 by_cases h1 : 12 + i = j
 ·subst h1
  rw [if_pos rfl, if_pos (by omega), if_pos (by omega), if_neg (by omega), if_neg (by omega), if_pos (by omega), if_pos (by omega), Nat.add_sub_cancel_left]
 ·rw [if_neg h1]
  by_cases h2 : 4 + i = j
  ·subst h2
   rw [if_pos rfl, if_pos (by omega), if_pos (by omega), if_neg (by omega), if_pos (by omega), if_pos (by omega), Nat.add_sub_cancel_left]
  ·rw [if_neg h2]
   by_cases h3 : j < 128
   ·rw [if_pos h3, if_pos h3]
    congr 1
    by_cases h4 : j < 4
    ·rw [if_pos h4, if_pos h4]
    ·rw [if_neg h4, if_neg h4]
     by_cases h5 : j < 12
     ·rw [if_pos h5, if_pos h5]
      by_cases h6 : j - 4 < i
      ·rw [if_pos h6, if_pos (by omega)]
      ·rw [if_neg h6, if_neg (by omega)]
     ·rw [if_neg h5, if_neg h5]
      by_cases h7 : j < 20
      ·rw [if_pos h7, if_pos h7]
       by_cases h6 : j - 12 < i
       ·rw [if_pos h6, if_pos (by omega)]
       ·rw [if_neg h6, if_neg (by omega)]
      ·rw [if_neg h7, if_neg h7]
   ·rw [if_neg h3, if_neg h3]
theorem zna {x i : Nat} (h : i < 8) (s : Int) (hs : s = ((56 - 8 * i : Nat) : Int)) : IntKind.u8.wrap ((x : Int) / 2 ^ (56 - 8 * i)) = (((beB 8 x).getD i 0).toNat : Int) := by
 have h1 := zoo x (8 - 1 - i)
 rw [List.getD_eq_getElem?_getD, beB_get 8 x i h]
 rw [show 56 - 8 * i = 8 * (8 - 1 - i) by omega, IntKind.wrap_u8]
 injection h1
theorem set_bv (l : List UInt8) (i : Nat) (b : UInt8) : (bv l).set i (.int .u8 (b.toNat : Int)) = bv (l.set i b) := by simp [bv, List.map_set, zdm]
set_option maxRecDepth 20000 in
set_option maxHeartbeats 1000000 in
theorem zkV (c s : Nat) (w : World) (hc : c < 18446744073709551616) (hs : s < 18446744073709551616) :
   Calls Tryz.prog 171 [.agg #[.int .u64 c, .int .u64 s]].toArray w (Ret fun v w' => v = .agg (bv (zcx c s)).toArray ∧ Below w.heap.size w w') := by
 have hB := Below.refl w.heap.size w
 refine zas (fn := Tryz.f171) (rs := [.cell 2 172]) (n := 31) Tryz.func171 rfl rfl Tryz.ntmps171 (by kernel_rfl) rfl ?_
 refine zaf (zaa ?_)
 refine zay rfl (zaU ([.int .u64 c, .int .u64 s]) rfl (fun g1 w1 hg1 hr1 hb1 => ?_))
 replace hB := hB.acc hb1
 refine zay rfl (zar (List.replicate 128 (Value.int .u8 0)) (by kernel_rfl) (fun g2 w2 hg2 hr2 hb2 => ?_))
 have ge_hB_g2 := Nat.le_trans hB.size hg2
 have lt_g1_g2 : g1 < g2 := Nat.lt_of_lt_of_le hr1.lt hg2
 replace hr1 := hr1.new hb2
 replace hB := hB.acc hb2
 refine zae (zah (zaf (zaa ?_)))
 refine zad (zbe (e := 5) (n := 128) (0) (128) (128) (128) (by kernel_rfl) rfl rfl rfl rfl (by simp) (by omega) (by omega) (by omega) (by omega) (by omega)) ?_
 refine zay rfl (zov (e := 5) magic (by kernel_rfl) (by kernel_rfl) g2 0 rfl rfl hr2 (by decide) (by simp [magic]) (fun w5 hr2 ho5 => ?_))
 replace hr1 := hr1.only ho5 (Nat.ne_of_lt lt_g1_g2)
 replace hB := ho5.below hB ge_hB_g2
 rw [zm9 c s] at hr2
 refine zae (zah (zaf (zaf (zaa (zad (zab) (zae (zah (zaE ?_))))))))
 refine zbB (α := Nat) 0 (fun i => [(6, .int .i64 (i : Nat)), (1, .pointer (some ⟨g1, 0, none⟩)), (2, .pointer (some ⟨g2, 0, none⟩))])
   (fun i w' => i ≤ 8 ∧ row w' g1 [.int .u64 c, .int .u64 s] 193 ∧ row w' g2 (bv (hdL c s i)) 172 ∧ Below w.heap.size w w') (fun i => 8 - i)
   ⟨rfl, rfl, rfl, rfl⟩ ⟨Nat.zero_le _, hr1, hr2, hB⟩ ?_
 clear hr1 hr2 hB
 rintro i f wr ⟨hi, hr1, hr2, hB⟩
 have hne : g1 ≠ g2 := by omega
 have hll : (bv (hdL c s i)).length = 128 := by rw [zal]; exact zh9 _ _ _
 refine zaf (zaa ?_)
 refine zad (za2 rfl rfl) ?_
 refine zae (zah (zaf ?_))
 refine zbf rfl (fun hlt => ?_) (fun hlt => ?_)
 ·
  refine zau (zah (zaf (zaE (zaf (zaa (zad (zab) (zad (zac) (zae (zah ?_)))))))))
  have hob : ∃ L, hdL c s i = L := ⟨_, rfl⟩
  obtain ⟨L, hL⟩ := hob
  have hbc := zna (x := c) (i := i) (by omega) _ rfl
  have hbs := zna (x := s) (i := i) (by omega) _ rfl
  have hst := zow c s i (by omega)
  have hLl : L.length = 128 := by rw [← hL]; exact zh9 _ _ _
  rw [hL] at hr2 hll hst
  refine za5 [g2] (by kernel_rfl) ?_
  intro w901 hb901 hS901
  replace hr1 := hr1.new hb901
  replace hr2 := hr2.new hb901
  replace hB := hB.acc hb901
  have hr1_d901 := hr1
  refine zat 0 (zab) ?_
  refine zat 1 (zaN rfl rfl (Coup.w64 (by omega))) ?_
  refine zat 2 (zab) ?_
  refine zat 3 (zaN rfl rfl (Coup.w64 (by omega))) ?_
  refine zat 4 (zav 0) ?_
  refine zbp 5 (fun w' hS' => zax (hr1_d901.kq hS')) ?_
  refine zat 6 (zab) ?_
  refine zat 7 (zc1 rfl rfl (Coup.w64 (by omega))) ?_
  refine zat 8 (zc0 rfl rfl (Coup.w64 (by omega))) ?_
  refine zat 9 (zeG rfl rfl (by omega) (shrN (56 - 8 * i) (by omega) (by omega))) ?_
  refine zat 10 (zbz (k := .u8) (by kernel_rfl) (by kernel_rfl) rfl hbc) ?_
  refine zat 11 (zav 1) ?_
  refine zbp 12 (fun w' hS' => zax (hr1_d901.kq hS')) ?_
  refine zat 13 (zab) ?_
  refine zat 14 (zc1 rfl rfl (Coup.w64 (by omega))) ?_
  refine zat 15 (zc0 rfl rfl (Coup.w64 (by omega))) ?_
  refine zat 16 (zeG rfl rfl (by omega) (shrN (56 - 8 * i) (by omega) (by omega))) ?_
  refine zat 17 (zbz (k := .u8) (by kernel_rfl) (by kernel_rfl) rfl hbs) ?_
  refine zat 18 (zbj (e := 5) (m := 128) (by kernel_rfl) rfl rfl (4 + i) (by omega) (by omega)) ?_
  refine zaH 19 (by kernel_rfl) ?_
  refine zbO rfl rfl (zbg hr2 (fun w903 hr2 ho903 => ?_))
  have hS902 := hS901.aq ho903
  refine ⟨hS902, ?_⟩
  replace hr1 := hr1.only ho903 (Nat.ne_of_lt lt_g1_g2)
  replace hB := ho903.below hB ge_hB_g2
  refine zat 20 (zbj (e := 5) (m := 128) (by kernel_rfl) rfl rfl (12 + i) (by omega) (by omega)) ?_
  refine zaH 21 (by kernel_rfl) ?_
  refine zbO rfl rfl (zbg hr2 (fun w905 hr2 ho905 => ?_))
  have hS904 := hS902.aq ho905
  refine ⟨hS904, ?_⟩
  replace hr1 := hr1.only ho905 (Nat.ne_of_lt lt_g1_g2)
  replace hB := ho905.below hB ge_hB_g2
  refine zaL (by kernel_rfl) ?_
  refine za6 (zah (zaa ?_))
  refine zad (zaN rfl rfl (Coup.w64 (by omega))) ?_
  refine zad (zab) (zae ?_)
  have hq : row w905 g2 (((bv L).set (0 + (4 + i)) (.int .u8 (((beB 8 c).getD i 0).toNat : Int))).set (0 + (12 + i)) (.int .u8 (((beB 8 s).getD i 0).toNat : Int))) 172 := hr2
  rw [Nat.zero_add, Nat.zero_add, set_bv, set_bv, hst] at hq
  refine zbw ⟨i + 1, by omega, ⟨by go_num, rfl, rfl, rfl⟩, by omega, hr1, hq, hB⟩
 ·
  have h8 : i = 8 := by omega
  subst h8
  rw [zm8] at hr2
  rw [zm8] at hll
  have hob : ∃ L, zcx c s = L := ⟨_, rfl⟩
  obtain ⟨L, hL⟩ := hob
  rw [hL] at hr2 hll
  rw [hL]
  refine zbm (zbW (zcr (zbt (zah (zaf (zaa ?_))))))
  refine zad (zbc 128 hr2) ?_
  refine zaG rfl (zaO 128 (bv L) hr2 (fun w906 hr2 ho906 => ?_))
  replace hB := ho906.below hB ge_hB_g2
  refine zae (zah (zaz ?_))
  refine zam [_] ⟨⟨_, rfl, Ld.zbX (k := 128) hr2 (by kernel_rfl) (by kernel_rfl) (by first | (simp; done) | (simp [zal, *]; done) | assumption)⟩, trivial⟩ ?_
  exact ⟨rfl, hB⟩
def hdC (s : List UInt8) : Nat := zc4 ((s.drop 4).take 8)
def hdS (s : List UInt8) : Nat := zc4 ((s.drop 12).take 8)
def zkW (s : List UInt8) : Bool := decide (zfm s zbJ = zcx (hdC s) (hdS s)) && decide (1 ≤ hdS s) && decide (hdS s ≤ hdC s) && decide (hdC s ≤ 4611686018427387904)
theorem torn23w (a b : List UInt8) (ha : a.length = 128) (hb : b.length = 128) (w : World) : Calls Tryz.prog 173 [.agg (bv a).toArray, .agg (bv b).toArray].toArray w (Ret fun v w' => v = .agg (bv (zfm a b)).toArray ∧ Below w.heap.size w w') := zdd (torn23 a b ha hb w)
set_option maxRecDepth 20000 in
set_option maxHeartbeats 1000000 in
theorem zox (s : List UInt8) (w : World) (hs : s.length = 128) :
   Calls Tryz.prog 140 [.agg (bv s).toArray].toArray w (Ret fun v w' => v = .tuple #[.agg #[.int .u64 (hdC s), .int .u64 (hdS s)], .bool (zkW s)] ∧ Below w.heap.size w w') := by
 have hB := Below.refl w.heap.size w
 have hml : maxLen = 9223372036854775807 := by decide
 have hsl : (bv s).length = 128 := by rw [zal]; exact hs
 have hc8 : hdC s < 18446744073709551616 := zbV _ 8 (by simp; omega)
 have hs8 : hdS s < 18446744073709551616 := zbV _ 8 (by simp; omega)
 obtain ⟨Z, hzz, hzb, hzl⟩ := zmQ
 refine zas (fn := Tryz.f140) (rs := [.cell 2 193, .tmp 3]) (n := 36) Tryz.func140 rfl rfl Tryz.ntmps140 (by kernel_rfl) rfl ?_
 refine zaf (zaa ?_)
 refine zay rfl (zaU ((bv s)) rfl (fun g1 w1 hg1 hr1 hb1 => ?_))
 replace hB := hB.acc hb1
 refine zay rfl (zar ([Value.int .u64 0, Value.int .u64 0]) (by kernel_rfl) (fun g2 w2 hg2 hr2 hb2 => ?_))
 have ge_hB_g2 := Nat.le_trans hB.size hg2
 replace hr1 := hr1.new hb2
 replace hB := hB.acc hb2
 refine zad (zac) (zae (zah (zaf ?_)))
 refine za5 [] (by kernel_rfl) ?_
 intro w901 hb901 hS901
 replace hr1 := hr1.new hb901
 replace hr2 := hr2.new hb901
 replace hB := hB.acc hb901
 have hr1_d901 := hr1
 refine zat 0 (zbe (e := 5) (n := 128) (4) (12) (128) (8) (by kernel_rfl) rfl ⟨_, _, rfl, rfl⟩ ⟨_, _, rfl, rfl⟩ rfl (by simp) (by omega) (by omega) (by omega) (by omega) (by omega)) ?_
 refine zdA 1 (by kernel_rfl) rfl (fun _ => zaj (by kernel_rfl) rfl) (fun w' hS' => zh8 _ 8 _ _ w' ((hr1_d901.kq hS').slB 4 8 (by omega) (by omega)) (by omega)) ?_
 refine zat 2 (zbe (e := 5) (n := 128) (12) (20) (128) (8) (by kernel_rfl) rfl ⟨_, _, rfl, rfl⟩ ⟨_, _, rfl, rfl⟩ rfl (by simp) (by omega) (by omega) (by omega) (by omega) (by omega)) ?_
 refine zdA 3 (by kernel_rfl) rfl (fun _ => zaj (by kernel_rfl) rfl) (fun w' hS' => zh8 _ 8 _ _ w' ((hr1_d901.kq hS').slB 12 8 (by omega) (by omega)) (by omega)) ?_
 refine zat 4 (zjW (k0 := .u64) (k1 := .u64) (by kernel_rfl) (by kernel_rfl) rfl rfl) ?_
 refine zaH 5 (by kernel_rfl) ?_
 refine zco rfl rfl (zar ([Value.int .u64 0, Value.int .u64 0]) (by kernel_rfl) (fun g4 w4 hg4 hr4 hb4 => ?_))
 have hS902 := hS901.add0 hb4
 refine ⟨hS902, ?_⟩
 have ge_hB_g4 := Nat.le_trans hB.size hg4
 have lt_g1_g4 : g1 < g4 := Nat.lt_of_lt_of_le hr1.lt hg4
 have lt_g2_g4 : g2 < g4 := Nat.lt_of_lt_of_le hr2.lt hg4
 replace hr1 := hr1.new hb4
 replace hr2 := hr2.new hb4
 replace hB := hB.acc hb4
 refine zaH 6 (by kernel_rfl) ?_
 refine zbO rfl rfl (zaO 2 ([.int .u64 (hdC s), .int .u64 (hdS s)]) hr4 (fun w904 hr4 ho904 => ?_))
 have hS903 := hS902.aq ho904
 refine ⟨hS903, ?_⟩
 replace hr1 := hr1.only ho904 (Nat.ne_of_lt lt_g1_g4)
 replace hr2 := hr2.only ho904 (Nat.ne_of_lt lt_g2_g4)
 replace hB := ho904.below hB ge_hB_g4
 refine zaL (by kernel_rfl) ?_
 refine zah (zaf ?_)
 refine za5 [] (by kernel_rfl) ?_
 intro w905 hb905 hS905
 replace hr1 := hr1.new hb905
 replace hr2 := hr2.new hb905
 replace hr4 := hr4.new hb905
 replace hB := hB.acc hb905
 have hr1_d905 := hr1
 have hr4_d905 := hr4
 refine zbp 0 (fun w' hS' => zbc 128 (hr1_d905.kq hS')) ?_
 refine zat 1 (zbi (bv Z) (by rw [← hzb]; kernel_rfl)) ?_
 refine zbp 3 (fun w' hS' => zbc 2 (hr4_d905.kq hS')) ?_
 refine zaH 2 (by kernel_rfl) ?_
 have hZl : Z.length = 128 := by rw [← zal]; exact hzl
 have hT := fun w' => torn23w s Z hs hZl w'
 have hTl := zfW s Z hs hZl
 have hSc := fun w' => zkV (hdC s) (hdS s) w' hc8 hs8
 have hSl := zi6 (hdC s) (hdS s)
 have hob : ∃ T, zfm s Z = T := ⟨_, rfl⟩
 obtain ⟨T, hTe⟩ := hob
 have hob : ∃ H, zcx (hdC s) (hdS s) = H := ⟨_, rfl⟩
 obtain ⟨H, hHe⟩ := hob
 rw [hTe] at hT hTl
 rw [hHe] at hSc hSl
 have hie : zkW s = (decide (T = H) && decide (1 ≤ hdS s) && decide (hdS s ≤ hdC s) && decide (hdC s ≤ 4611686018427387904)) := by rw [zkW, hzz, hTe, hHe]
 refine zbb rfl rfl (zaj (by kernel_rfl) rfl) (hT w905) ?_
 rintro _ w13 ⟨rfl, hb13⟩
 have hS906 := hS905.add0 hb13
 refine ⟨hS906, ?_⟩
 replace hr2 := hr2.new hb13
 replace hr4 := hr4.new hb13
 replace hB := hB.acc hb13
 refine zaH 4 (by kernel_rfl) ?_
 refine zbb rfl rfl (zaj (by kernel_rfl) rfl) (hSc w13) ?_
 rintro _ w15 ⟨rfl, hb15⟩
 have hS907 := hS906.add0 hb15
 refine ⟨hS907, ?_⟩
 replace hr2 := hr2.new hb15
 replace hr4 := hr4.new hb15
 replace hB := hB.acc hb15
 refine zat 5 (zms (n := 128) (by kernel_rfl) rfl rfl hTl hSl) ?_
 refine zat 6 (zab) ?_
 refine zea 17 rfl (fun hq1 => ?_) (fun hq1 => ?_)
 ·
  refine zat 7 (zav 1) ?_
  refine zbp 8 (fun w' hS' => zax (hr4_d905.kq hS')) ?_
  refine zat 9 (zc2 rfl rfl) ?_
  refine zat 10 (zaA rfl) ?_
  refine zat 11 (zab) ?_
  refine zea 22 rfl (fun hq2 => ?_) (fun hq2 => ?_)
  ·
   refine zat 12 (zav 1) ?_
   refine zbp 13 (fun w' hS' => zax (hr4_d905.kq hS')) ?_
   refine zat 14 (zav 0) ?_
   refine zbp 15 (fun w' hS' => zax (hr4_d905.kq hS')) ?_
   refine zat 16 (zmm rfl rfl) ?_
   refine zat 17 (zaA rfl) ?_
   refine zat 18 (zab) ?_
   refine zea 29 rfl (fun hq3 => ?_) (fun hq3 => ?_)
   ·
    refine zat 19 (zav 0) ?_
    refine zbp 20 (fun w' hS' => zax (hr4_d905.kq hS')) ?_
    refine zat 21 (zmm rfl rfl) ?_
    refine zat 22 (zaA rfl) ?_
    refine zat 23 (zac) ?_
    refine zaL (by kernel_rfl) ?_
    refine zah (zaf (zaa ?_))
    refine zad (zbc 2 hr4) ?_
    refine zad (zab) ?_
    refine zaG rfl (zaO 2 ([.int .u64 (hdC s), .int .u64 (hdS s)]) hr2 (fun w908 hr2 ho908 => ?_))
    replace hB := ho908.below hB ge_hB_g2
    refine zad (zac) (zae (zah (zaz ?_)))
    refine zam [_, _] ⟨⟨_, rfl, Ld.zbX (k := 2) hr2 (by kernel_rfl) (by kernel_rfl) (by first | (simp; done) | (simp [zal, *]; done) | assumption)⟩, rfl, trivial⟩ ?_
    refine ⟨?_, hB⟩
    rw [hie]
    rw [decide_eq_true hq1, decide_eq_true (show 1 ≤ hdS s by omega), decide_eq_true (show hdS s ≤ hdC s by omega)]
    have e : decide ((hdC s : Int) ≤ 4611686018427387904) = decide (hdC s ≤ 4611686018427387904) := by
     by_cases hq4 : hdC s ≤ 4611686018427387904
     ·rw [decide_eq_true hq4, decide_eq_true (by omega)]
     ·rw [decide_eq_false hq4, decide_eq_false (by omega)]
    rw [← e]
    rfl
   ·
    have hz : zkW s = false := by rw [hie, decide_eq_false (show ¬ hdS s ≤ hdC s by omega), Bool.and_false, Bool.false_and]
    refine zaF 19 (by kernel_rfl) rfl ?_
    refine zaF 20 (by kernel_rfl) rfl ?_
    refine zaF 21 (by kernel_rfl) rfl ?_
    refine zat 22 (zaw rfl) ?_
    refine zat 23 (zac) ?_
    refine zaL (by kernel_rfl) ?_
    refine zah (zaf (zaa ?_))
    refine zad (zbc 2 hr4) ?_
    refine zad (zab) ?_
    refine zaG rfl (zaO 2 ([.int .u64 (hdC s), .int .u64 (hdS s)]) hr2 (fun w909 hr2 ho909 => ?_))
    replace hB := ho909.below hB ge_hB_g2
    refine zad (zac) (zae (zah (zaz ?_)))
    refine zam [_, _] ⟨⟨_, rfl, Ld.zbX (k := 2) hr2 (by kernel_rfl) (by kernel_rfl) (by first | (simp; done) | (simp [zal, *]; done) | assumption)⟩, rfl, trivial⟩ ?_
    refine ⟨?_, hB⟩
    rw [hz]
    rfl
  ·
   have hz : zkW s = false := by rw [hie, decide_eq_false (show ¬ 1 ≤ hdS s by omega), Bool.and_false, Bool.false_and, Bool.false_and]
   refine zaF 12 (by kernel_rfl) rfl ?_
   refine zaF 13 (by kernel_rfl) rfl ?_
   refine zaF 14 (by kernel_rfl) rfl ?_
   refine zaF 15 (by kernel_rfl) rfl ?_
   refine zaF 16 (by kernel_rfl) rfl ?_
   refine zat 17 (zaw rfl) ?_
   refine zat 18 (zab) ?_
   refine zaF 19 (by kernel_rfl) rfl ?_
   refine zaF 20 (by kernel_rfl) rfl ?_
   refine zaF 21 (by kernel_rfl) rfl ?_
   refine zat 22 (zaw rfl) ?_
   refine zat 23 (zac) ?_
   refine zaL (by kernel_rfl) ?_
   refine zah (zaf (zaa ?_))
   refine zad (zbc 2 hr4) ?_
   refine zad (zab) ?_
   refine zaG rfl (zaO 2 ([.int .u64 (hdC s), .int .u64 (hdS s)]) hr2 (fun w910 hr2 ho910 => ?_))
   replace hB := ho910.below hB ge_hB_g2
   refine zad (zac) (zae (zah (zaz ?_)))
   refine zam [_, _] ⟨⟨_, rfl, Ld.zbX (k := 2) hr2 (by kernel_rfl) (by kernel_rfl) (by first | (simp; done) | (simp [zal, *]; done) | assumption)⟩, rfl, trivial⟩ ?_
   refine ⟨?_, hB⟩
   rw [hz]
   rfl
 ·
  have hz : zkW s = false := by rw [hie, decide_eq_false hq1, Bool.false_and, Bool.false_and, Bool.false_and]
  refine zaF 7 (by kernel_rfl) rfl ?_
  refine zaF 8 (by kernel_rfl) rfl ?_
  refine zaF 9 (by kernel_rfl) rfl ?_
  refine zat 10 (zaw rfl) ?_
  refine zat 11 (zab) ?_
  refine zaF 12 (by kernel_rfl) rfl ?_
  refine zaF 13 (by kernel_rfl) rfl ?_
  refine zaF 14 (by kernel_rfl) rfl ?_
  refine zaF 15 (by kernel_rfl) rfl ?_
  refine zaF 16 (by kernel_rfl) rfl ?_
  refine zat 17 (zaw rfl) ?_
  refine zat 18 (zab) ?_
  refine zaF 19 (by kernel_rfl) rfl ?_
  refine zaF 20 (by kernel_rfl) rfl ?_
  refine zaF 21 (by kernel_rfl) rfl ?_
  refine zat 22 (zaw rfl) ?_
  refine zat 23 (zac) ?_
  refine zaL (by kernel_rfl) ?_
  refine zah (zaf (zaa ?_))
  refine zad (zbc 2 hr4) ?_
  refine zad (zab) ?_
  refine zaG rfl (zaO 2 ([.int .u64 (hdC s), .int .u64 (hdS s)]) hr2 (fun w911 hr2 ho911 => ?_))
  replace hB := ho911.below hB ge_hB_g2
  refine zad (zac) (zae (zah (zaz ?_)))
  refine zam [_, _] ⟨⟨_, rfl, Ld.zbX (k := 2) hr2 (by kernel_rfl) (by kernel_rfl) (by first | (simp; done) | (simp [zal, *]; done) | assumption)⟩, rfl, trivial⟩ ?_
  refine ⟨?_, hB⟩
  rw [hz]
  rfl
def wf64 (i : Int) : Prop := -9223372036854775808 ≤ i ∧ i ≤ 9223372036854775807
def zfp (all : Nat) (n : Int) : Bool := decide (4 ≤ n ∧ n ≤ 4000 ∧ 1 + n ≤ all)
section
variable {Y : World → List Nat → Prop} {g lo : Nat} {L : List Nat} {D : Dk} {w : World}
set_option maxRecDepth 20000 in
theorem may49 (h : Two (DZ g D) Y lo L w) (n : Int) (hn : wf64 n) : Calls Tryz.prog 137 [.pointer (some ⟨g, 0, none⟩), .int .i64 n].toArray w (Ret fun v w' => v = .int .i64 (if zfp D.V.length n then 0 else 2) ∧ w = w') := by
 have hS := zh2 h
 have hp := (tOk h).2
 have hn8 := (tOk h).1.n
 have h1 := hn.1
 have h2 := hn.2
 refine zas (fn := Tryz.f137) (rs := [.tmp 4]) (n := 23) Tryz.func137 rfl rfl Tryz.ntmps137 (by kernel_rfl) rfl ?_
 refine zaf (zaa (zad (zac) (zae (zah (zaf (zaE (zaf (zaa (zad (zab) ?_)))))))))
 refine zao rfl (zaj (by kernel_rfl) rfl) (hS) ?_
 rintro _ _ ⟨rfl, rfl⟩
 refine zad (za9 rfl rfl) ?_
 refine zad (zac) (zae (zah ?_))
 refine zcL rfl ((by omega)) ?_
 refine zaf (zaa (zad (zab) ?_))
 refine zad (za2 rfl rfl) ?_
 refine zad (zab) ?_
 refine zb8 12 rfl (fun h3 => ?_) (fun h3 => ?_)
 ·
  refine zaK rfl rfl (zaK rfl rfl (zad (zaA rfl) (zad (zab) (zaK rfl rfl (zaK rfl rfl (zaK rfl rfl (zaK rfl rfl (zaK rfl rfl (zad (zaA rfl) (zad (zac) (zae ?_)))))))))))
  refine zah ?_
  refine zin rfl (rfl) ?_
  refine zaf (zaa (zad (zac) (zae (zah (zaz (zbd (zaP ?_)))))))
  refine zam [_] ⟨rfl, trivial⟩ ?_
  have hz : zfp D.V.length n = false := decide_eq_false (by omega)
  exact ⟨by rw [hz]; rfl, rfl⟩
 ·
  refine zan rfl (zad (zab) (zan rfl ?_))
  refine zad (zbu rfl rfl) ?_
  refine zad (zaw rfl) (zad (zab) ?_)
  refine zb8 16 rfl (fun h4 => ?_) (fun h4 => ?_)
  ·
   refine zaK rfl rfl (zaK rfl rfl (zaK rfl rfl (zaK rfl rfl (zaK rfl rfl (zad (zaA rfl) (zad (zac) (zae (zah ?_))))))))
   refine zin rfl (rfl) ?_
   refine zaf (zaa (zad (zac) (zae (zah (zaz (zbd (zaP ?_)))))))
   refine zam [_] ⟨rfl, trivial⟩ ?_
   have hz : zfp D.V.length n = false := decide_eq_false (by omega)
   exact ⟨by rw [hz]; rfl, rfl⟩
  ·
   refine zan rfl (zad (zab) (zan rfl ?_))
   refine zao rfl (zaj (by kernel_rfl) rfl) (hS) ?_
   rintro _ _ ⟨rfl, rfl⟩
   refine zan rfl (zad (zab) (zan rfl ?_))
   refine zad (zaN rfl rfl (Coup.w64 (by omega))) ?_
   refine zan rfl ?_
   refine zad (za2 rfl rfl) ?_
   refine zad (zaw rfl) (zad (zac) (zae (zah ?_)))
   refine zbf rfl (fun h5 => ?_) (fun h5 => ?_)
   ·
    refine zaf (zaa (zad (zac) (zae (zah (zaz (zbd (zaP ?_)))))))
    refine zam [_] ⟨rfl, trivial⟩ ?_
    have hz : zfp D.V.length n = false := decide_eq_false (by omega)
    exact ⟨by rw [hz]; rfl, rfl⟩
   ·
    refine zau (za6 (zah (zaf (zaa (zad (zac) (zae (zah (zaz ?_))))))))
    refine zam [_] ⟨rfl, trivial⟩ ?_
    have hz : zfp D.V.length n = true := decide_eq_true (by omega)
    exact ⟨by rw [hz]; rfl, rfl⟩
end
section
variable {Y : World → List Nat → Prop} [Thing Y] {g lo : Nat} {L : List Nat} {D : Dk} {w : World}
def zct (D : Dk) (c s : Nat) : Dk := if za1 D then zbk (zbC D 0 (zcx c s)) else zbC D 0 (zcx c s)
set_option maxRecDepth 20000 in
theorem save54 (h : Two (DZ g D) Y lo L w) (c s : Nat) (hc : c < 18446744073709551616) (hs : s < 18446744073709551616) (hsh : zbE D 90000) :
   Calls Tryz.prog 139 [.pointer (some ⟨g, 0, none⟩), .agg #[.int .u64 c, .int .u64 s]].toArray w (Ret fun v w' => v = .int .i64 (if za1 D && za1 (zbC D 0 (zcx c s)) then 0 else 10) ∧ Two (DZ g (zct D c s)) Y lo L w' ∧ LoL lo L w w') := by
 have hD := h
 have hLL := LoL.refl lo L w
 have hin : inD D 0 = true := decide_eq_true ⟨by omega, by have := (tOk h).2; omega⟩
 have hS := fun w' => zkV c s w' hc hs
 have hHl := zi6 c s
 have hob : ∃ H, zcx c s = H := ⟨_, rfl⟩
 obtain ⟨H, hH⟩ := hob
 rw [zct, hH]
 rw [hH] at hS hHl
 refine zas (fn := Tryz.f139) (rs := [.tmp 4]) (n := 15) Tryz.func139 rfl rfl Tryz.ntmps139 (by kernel_rfl) rfl ?_
 refine zaf (zaa ?_)
 refine zay rfl (zaU ([.int .u64 c, .int .u64 s]) rfl (fun g3 w3 hg3 hr3 hb3 => ?_))
 replace hD := hD.newc hb3 hg3 hr3.lt
 replace hLL := hLL.new hb3
 refine zad (zac) (zae (zah (zaf (zaf (zaa (zad (zab) ?_))))))
 refine zad (zbc 2 hr3) ?_
 refine zao rfl (zaj (by kernel_rfl) rfl) (hS w3) ?_
 rintro _ w8 ⟨rfl, hb8⟩
 replace hD := hD.new hb8
 replace hLL := hLL.new hb8
 have hw := zmX hD 0 H hHl hsh
 rw [zhs, hin, if_pos rfl] at hw
 refine zao rfl (zaj (by kernel_rfl) rfl) (hw) ?_
 rintro _ w9 ⟨rfl, hD, hb9⟩
 replace hLL := hLL.lq hb9
 refine zad (zac) (zae (zah (zaf (zaa (zad (zab) ?_)))))
 refine zad (zaM rfl rfl) ?_
 refine zae (zah ?_)
 refine zbf rfl (fun hne => ?_) (fun hne => ?_)
 ·
  refine zaf (zaa (zad (zab) (zad (zac) (zae (zah (zaz (zaP ?_)))))))
  refine zam [_] ⟨rfl, trivial⟩ ?_
  have hf : za1 D = false := by cases hx : za1 D with | false => rfl | true => simp [hx] at hne
  refine ⟨by rw [hf]; rfl, ?_, hLL⟩
  rw [hf]
  exact hD.weak (fun b hb => List.mem_cons_of_mem _ hb)
 ·
  have hf : za1 D = true := by cases hx : za1 D with | true => rfl | false => simp [hx] at hne
  rw [hf, if_pos rfl, Bool.true_and]
  refine zau (zah (zaf (zaa (zad (zab) ?_))))
  refine zao rfl (zaj (by kernel_rfl) rfl) (zmY hD) ?_
  rintro _ w14 ⟨rfl, hD, hb14⟩
  replace hLL := hLL.lq hb14
  refine zad (zac) (zae (zah (zaz ?_)))
  refine zam [_] ⟨rfl, trivial⟩ ?_
  exact ⟨rfl, hD.weak (fun b hb => List.mem_cons_of_mem _ hb), hLL⟩
def zdZ (D : Dk) (m : Nat) : Dk := (List.range m).foldl (fun (D : Dk) (i : Nat) => zbC D (i : Int) zbJ) D
theorem zeV (D : Dk) (m : Nat) : zdZ D (m + 1) = zbC (zdZ D m) (m : Int) zbJ := by simp [zdZ, List.range_succ]
theorem zdT {D : Dk} {k : Nat} (h : zb1 D k) : ∀ m, zb1 (zdZ D m) (m + k) ∧ (zdZ D m).V.length = D.V.length
 | 0 => ⟨by rw [Nat.zero_add]; exact h, rfl⟩
 | m + 1 => by
  obtain ⟨h1, h2⟩ := zdT h m
  rw [zeV]
  obtain ⟨e1, e2, _⟩ := h1.zbC (m : Int) zbJ
  exact ⟨e1.weak (by omega), e2.trans h2⟩
def fmtD (D : Dk) (n : Nat) : Dk := zbk (zbC (zbk (zdZ D (1 + n))) 0 (zcx 1 1))
set_option maxRecDepth 20000 in
set_option maxHeartbeats 1000000 in
theorem zoy (h : Two (DZ g D) Y lo L w) (n : Int) (hn : wf64 n) (ha : zb1 D 80000) :
   Calls Tryz.prog 88 [.pointer (some ⟨g, 0, none⟩), .int .i64 n].toArray w (Ret fun v w' => v = .int .i64 (if zfp D.V.length n then 0 else 2) ∧ Two (DZ g (if zfp D.V.length n then fmtD D n.toNat else D)) Y lo L w' ∧ LoL lo L w w') := by
 have hD := h
 have hLL := LoL.refl lo L w
 have hM := may49 h n hn
 obtain ⟨Z, hzz, hzb, hzl⟩ := zmQ
 have hZl : Z.length = 128 := by rw [← zal]; exact hzl
 have hzs := fun m => zeV D m
 simp only [hzz] at hzs
 obtain ⟨ft, hft⟩ : ∃ ft, zfp D.V.length n = ft := ⟨_, rfl⟩
 rw [hft] at hM ⊢
 refine zas (fn := Tryz.f88) (rs := [.tmp 4]) (n := 36) Tryz.func88 rfl rfl Tryz.ntmps88 (by kernel_rfl) rfl ?_
 refine zaf (zaa (zad (zac) (zae (zah (zaf (zaf (zaa (zad (zab) (zad (zab) ?_)))))))))
 refine zao rfl (zaj (by kernel_rfl) rfl) (hM) ?_
 rintro _ _ ⟨rfl, rfl⟩
 refine zad (zac) (zae (zah (zaf (zaa (zad (zab) ?_)))))
 refine zad (zaM rfl rfl) ?_
 refine zae (zah ?_)
 refine zbf rfl (fun hne => ?_) (fun hne => ?_)
 ·
  refine zaf (zaa (zad (zab) (zad (zac) (zae (zah (zaz (zaP ?_)))))))
  refine zam [_] ⟨rfl, trivial⟩ ?_
  have hf : ft = false := by cases ft with | false => rfl | true => simp at hne
  subst hf
  exact ⟨rfl, hD, hLL⟩
 ·
  have hf : ft = true := by cases ft with | true => rfl | false => simp at hne
  subst hf
  have hfit := of_decide_eq_true hft
  have hobt : ∃ m : Nat, n = m := ⟨n.toNat, by omega⟩
  obtain ⟨m, rfl⟩ := hobt
  rw [if_pos rfl, if_pos rfl, Int.toNat_natCast]
  refine zau (zah (zaf (zaf (zaa (zad (zab) ?_)))))
  refine zad (zaN rfl rfl (Coup.w64 (by omega))) ?_
  refine zad (zab) (zae (zah (zaE ?_)))
  refine zbB (α := Nat) 0 (fun i => [(17, .int .i64 (i : Nat)), (16, .int .i64 (1 + (m : Int))), (0, .pointer (some ⟨g, 0, none⟩))])
    (fun i w' => i ≤ 1 + m ∧ Two (DZ g (zdZ D i)) Y lo L w' ∧ LoL lo L w w') (fun i => 1 + m - i)
    ⟨rfl, rfl, rfl, rfl⟩ ⟨Nat.zero_le _, hD, hLL⟩ ?_
  clear hD hLL
  rintro i f wr ⟨hi, hD, hLL⟩
  have hal := zdT ha i
  have hst := zci hal.1.left hal.1.dead
  refine zaf (zaa ?_)
  refine zad (za2 rfl rfl) ?_
  refine zae (zah (zaf ?_))
  refine zbf rfl (fun hlt => ?_) (fun hlt => ?_)
  ·
   refine zau (zah (zaf (zaE (zaf (zaa (zad (zab) (zad (zac) (zae (zah (zaf (zaa ?_)))))))))))
   refine zad (zab) (zad (zab) ?_)
   refine zad (zbi (bv Z) (by rw [← hzb]; kernel_rfl)) ?_
   have hw := zmX hD (i : Int) Z hZl (zbY hal.1.short (by omega))
   have hin : inD (zdZ D i) (i : Int) = true := decide_eq_true (by omega)
   rw [zhs, hin, hst.1, if_pos rfl, if_pos rfl, ← hzs] at hw
   refine zao rfl (zaj (by kernel_rfl) rfl) (hw) ?_
   rintro _ w23 ⟨rfl, hD, hb23⟩
   replace hLL := hLL.lq hb23
   refine zad (zac) (zae (zah (zaf (zaa (zad (zab) ?_)))))
   refine zad (zaM rfl rfl) ?_
   refine zae (zah ?_)
   refine zcL rfl ((by omega)) ?_
   refine zau (za6 (zah (zaa ?_)))
   refine zad (zaN rfl rfl (Coup.w64 (by omega))) ?_
   refine zad (zab) (zae ?_)
   refine zbw ⟨i + 1, by omega, ⟨by go_num, rfl, rfl, rfl⟩, by omega, hD, hLL⟩
  ·
   have him : i = 1 + m := by omega
   subst him
   have hfa := zdh hal.1
   have hfl := zcW (D := zdZ D (1 + m))
   have hw1 := hfa.2.zbC 0 (zcx 1 1)
   have hst2 := zci hfa.2.left hfa.2.dead
   have hst3 := zci hw1.1.left hw1.1.dead
   refine zbm (zbW (zcr (zbt (zah (zaf (zaf (zaa (zad (zab) ?_))))))))
   have hf := zmY hD
   rw [hst.1, if_pos rfl] at hf
   refine zao rfl (zaj (by kernel_rfl) rfl) (hf) ?_
   rintro _ w29 ⟨rfl, hD, hb29⟩
   replace hLL := hLL.lq hb29
   refine zad (zac) (zae (zah (zaf (zaa (zad (zab) ?_)))))
   refine zad (zaM rfl rfl) ?_
   refine zae (zah ?_)
   refine zcL rfl ((by omega)) ?_
   refine zau (zah (zaf (zaa (zad (zab) ?_))))
   refine zad (zjW (k0 := .u64) (k1 := .u64) (by kernel_rfl) (by kernel_rfl) rfl rfl) ?_
   have hsv := save54 hD 1 1 (by omega) (by omega) (zbY hfa.2.short (by omega))
   rw [zct, hst2.1, if_pos rfl, hst3.1] at hsv
   refine zao rfl (zaj (by kernel_rfl) rfl) (hsv) ?_
   rintro _ w35 ⟨rfl, hD, hb35⟩
   replace hLL := hLL.lq hb35
   refine zad (zac) (zae (zah (zaz ?_)))
   refine zam [_] ⟨rfl, trivial⟩ ?_
   exact ⟨rfl, hD, hLL⟩
end
structure Lg where
 count : Nat
 since : Nat
 size : Nat
 num : Nat
 at_ : Nat
 dead : Bool
def lgV (g : Nat) (G : Lg) : List Value := [.int .u64 (G.count : Int), .int .u64 (G.since : Int), .pointer (some ⟨g, 0, none⟩), .int .i64 (G.size : Int), .int .i64 (G.num : Int), .int .i64 (G.at_ : Int), .bool G.dead]
structure zd5 (g x : Nat) (Y : World → List Nat → Prop) (lo : Nat) (L : List Nat) (D : Dk) (G : Lg) (w : World) : Prop where
 two : Two (DZ g D) Y lo (x :: L) w
 rowx : row w x (lgV g G) 197
 ge : lo ≤ x
 ni : x ∉ L
namespace zd5
variable {Y : World → List Nat → Prop} {g x lo gc : Nat} {L L2 M : List Nat} {D : Dk} {G : Lg} {w w' : World}
theorem lt (h : zd5 g x Y lo L D G w) : x < w.heap.size := h.rowx.lt
theorem kpd [hY : Thing Y] (h : zd5 g x Y lo L D G w) (k : Kp M w w') (hM : ∀ b ∈ M, b < lo ∨ b ∈ L) : zd5 g x Y lo L D G w' :=
 ⟨h.two.kpd k fun b hb => (hM b hb).imp id (List.mem_cons_of_mem _), h.rowx.kpd k fun hm => (hM _ hm).elim (fun hl => absurd h.ge (Nat.not_le.2 hl)) h.ni, h.ge, h.ni⟩
theorem new [hY : Thing Y] (h : zd5 g x Y lo L D G w) (hb : Below w.heap.size w w') : zd5 g x Y lo L D G w' := h.kpd (M := []) (Kp.of_below hb) (by simp)
theorem only [hY : Thing Y] (h : zd5 g x Y lo L D G w) (ho : Only gc w w') (hg : gc < lo ∨ gc ∈ L) : zd5 g x Y lo L D G w' := h.kpd (Kp.za7 ho) fun b hb => by rw [List.mem_singleton.1 hb]; exact hg
theorem weak (h : zd5 g x Y lo L D G w) (h2 : ∀ b ∈ L2, b ∈ L) : zd5 g x Y lo L2 D G w := ⟨h.two.weak fun b hb => (List.mem_cons.1 hb).elim (fun e => e ▸ List.mem_cons_self ..) fun hm => List.mem_cons_of_mem _ (h2 b hm), h.rowx, h.ge, fun hm => h.ni (h2 _ hm)⟩
theorem newc [hY : Thing Y] (h : zd5 g x Y lo L D G w) (hb : Below w.heap.size w w') (hg : w.heap.size ≤ gc) (hg' : gc < w'.heap.size) : zd5 g x Y lo (gc :: L) D G w' :=
  ⟨(h.two.newc hb hg hg').weak (L2 := x :: gc :: L) fun b hm => by
    rcases List.mem_cons.1 hm with rfl | hm
    · exact List.mem_cons_of_mem _ (List.mem_cons_self ..)
    · rcases List.mem_cons.1 hm with rfl | hm
      · exact List.mem_cons_self ..
      · exact List.mem_cons_of_mem _ (List.mem_cons_of_mem _ hm), h.rowx.new hb, h.ge, fun hm => by
    rcases List.mem_cons.1 hm with e | hm
    · have := h.lt; omega
    · exact h.ni hm⟩
theorem fst (h : zd5 g x Y lo L D G w) : Two (DZ g D) Y lo L w := h.two.weak fun _ hb => List.mem_cons_of_mem _ hb
end zd5
section
variable {Y : World → List Nat → Prop} [Thing Y] {g x lo : Nat} {L : List Nat} {D : Dk} {G : Lg} {w : World}
def nextG (G : Lg) (s : Nat) (ok : Bool) : Lg := if ok then { G with count := G.count + 1, since := s } else { G with dead := true }
def zdK (D : Dk) (c s : Nat) : Bool := za1 D && za1 (zbC D 0 (zcx c s))
set_option maxRecDepth 20000 in
theorem next48 (h : zd5 g x Y lo L D G w) (s : Nat) (hc : G.count + 1 < 18446744073709551616) (hs : s < 18446744073709551616) (hsh : zbE D 90000) :
   Calls Tryz.prog 142 [.pointer (some ⟨x, 0, none⟩), .int .u64 (s : Int)].toArray w (Ret fun v w' => v = .int .i64 (if zdK D (G.count + 1) s then 0 else 10) ∧ zd5 g x Y lo L (zct D (G.count + 1) s) (nextG G s (zdK D (G.count + 1) s)) w' ∧ LoL lo L w w') := by
 obtain ⟨hD, hx, hge, hni⟩ := h
 have hLL := LoL.refl lo L w
 have hxl := hx.lt
 have hsv0 := fun (L : List Nat) (w' : World) (h : Two (DZ g D) Y lo L w') => save54 h (G.count + 1) s hc hs hsh
 obtain ⟨ok, hok⟩ : ∃ ok, zdK D (G.count + 1) s = ok := ⟨_, rfl⟩
 obtain ⟨D2, hD2⟩ : ∃ D2, zct D (G.count + 1) s = D2 := ⟨_, rfl⟩
 rw [hok, hD2]
 unfold zdK at hok
 rw [hok, hD2] at hsv0
 obtain ⟨c, si, sz, nu, at_, de⟩ := G
 dsimp only [lgV, nextG] at *
 refine zas (fn := Tryz.f142) (rs := [.tmp 4]) (n := 31) Tryz.func142 rfl rfl Tryz.ntmps142 (by kernel_rfl) rfl ?_
 refine zaf (zaa (zad (zac) (zae (zah (zaf (zaa (zad (zab) (zad (zak rfl) (zad (zav 0) (zad (zav 0) ?_))))))))))
 refine zad (zax hx) ?_
 refine zad (zaN rfl rfl (wu64 (by omega))) ?_
 refine zad (zab) ?_
 refine zad (zjW (k0 := .u64) (k1 := .u64) (by kernel_rfl) (by kernel_rfl) rfl rfl) ?_
 refine zay rfl (zar ([Value.int .u64 0, Value.int .u64 0]) (by kernel_rfl) (fun g5 w5 hg5 hr5 hb5 => ?_))
 have lt_x_g5 : x < g5 := Nat.lt_of_lt_of_le hx.lt hg5
 replace hD := hD.newc hb5 hg5 hr5.lt
 replace hx := hx.new hb5
 replace hLL := hLL.new hb5
 refine zaG rfl (zaO 2 (_) hr5 (fun w901 hr5 ho901 => ?_))
 replace hD := hD.only ho901 (by first | (right; simp; done) | (left; omega) | (right; simp [*]; done))
 replace hx := hx.only ho901 (Nat.ne_of_lt lt_x_g5)
 replace hLL := hLL.oq ho901
 refine zae (zah (zaf (zaf ?_)))
 refine zcY (lo) ((g5 :: x :: L)) (by kernel_rfl) ?_
 intro w902 hb902 hn902 hS902
 replace hD := hD.new hb902
 replace hx := hx.new hb902
 replace hLL := hLL.new hb902
 replace hr5 := hr5.new hb902
 have hx_d902 := hx
 have hr5_d902 := hr5
 refine zat 0 (zab) ?_
 refine zat 1 (zak rfl) ?_
 refine zat 2 (zav 2) ?_
 refine zbp 3 (fun w' hS' => zax (hx_d902.kL hS')) ?_
 refine zbp 4 (fun w' hS' => zbc 2 (hr5_d902.kL hS')) ?_
 refine zaH 5 (by kernel_rfl) ?_
 refine zbb rfl rfl (zaj (by kernel_rfl) rfl) (hsv0 _ w902 hD) ?_
 rintro _ w20 ⟨rfl, hD, hb20⟩
 have hS903 := hS902.zgA hn902 hb20.wk
 refine ⟨hS903, ?_⟩
 replace hx := hx.kl hb20
 replace hLL := hLL.lq hb20
 replace hr5 := hr5.kl hb20
 refine zat 6 (zac) ?_
 refine zaL (by kernel_rfl) ?_
 refine zah (zaf (zaa (zad (zab) ?_)))
 refine zad (zaM rfl rfl) ?_
 refine zae (zah ?_)
 refine zbf rfl (fun hne => ?_) (fun hne => ?_)
 ·
  refine zaf (zaa (zad (zab) (zad (zak rfl) (zad (zav 6) ?_))))
  refine zaG rfl (zbg hx (fun w904 hx ho904 => ?_))
  replace hD := hD.only ho904 (by first | (right; simp; done) | (left; omega) | (right; simp [*]; done))
  replace hLL := hLL.oq ho904
  refine zae (zah (zaf (zaa (zad (zab) (zad (zac) (zae (zah (zaz (zaP ?_)))))))))
  refine zam [_] ⟨rfl, trivial⟩ ?_
  have hf : ok = false := by cases ok with | false => rfl | true => simp at hne
  subst hf
  exact ⟨rfl, ⟨hD.weak (fun b hb => List.mem_cons_of_mem _ hb), hx, hge, hni⟩, hLL⟩
 ·
  have hf : ok = true := by cases ok with | true => rfl | false => simp at hne
  subst hf
  refine zau (zah (zaf (zaa (zad (zab) ?_))))
  refine zad (zbc 2 hr5) ?_
  refine zad (zak rfl) (zad (zav 0) ?_)
  refine zaG rfl (zf5 [.int .u64 ((c : Int) + 1), .int .u64 (s : Int)] rfl rfl hx (by kernel_rfl) (by simp) (by simp [Value.oneCell']) (fun w905 hx ho905 => ?_))
  replace hD := hD.only ho905 (by first | (right; simp; done) | (left; omega) | (right; simp [*]; done))
  replace hLL := hLL.oq ho905
  refine zae (zah (zaf (zaa (zad (zac) (zae (zah (zaz ?_)))))))
  refine zam [_] ⟨rfl, trivial⟩ ?_
  exact ⟨rfl, ⟨hD.weak (fun b hb => List.mem_cons_of_mem _ hb), hx, hge, hni⟩, hLL⟩
omit [Thing Y]
set_option maxRecDepth 20000 in
theorem ready45 (h : zd5 g x Y lo L D G w) : Calls Tryz.prog 155 [.pointer (some ⟨x, 0, none⟩)].toArray w (Ret fun v w' => v = .int .i64 (if G.dead then 10 else 0) ∧ w = w') := by
 obtain ⟨hD, hx, hge, hni⟩ := h
 obtain ⟨c, si, sz, nu, at_, de⟩ := G
 dsimp only [lgV] at *
 refine zas (fn := Tryz.f155) (rs := [.tmp 2]) (n := 18) Tryz.func155 rfl rfl Tryz.ntmps155 (by kernel_rfl) rfl ?_
 refine zaf (zaa (zad (zac) (zae (zah (zaf (zaE (zaf (zaa (zad (zab) ?_)))))))))
 refine zad (zch (by kernel_rfl) rfl rfl) ?_
 refine zad (zab) ?_
 refine zn3 6 rfl (rfl) ?_
 refine zan rfl (zad (zab) (zan rfl (zad (zak rfl) (zan rfl (zad (zav 2) (zan rfl ?_))))))
 refine zad (zax hx) ?_
 refine zan rfl ?_
 refine zad (zch (by kernel_rfl) rfl rfl) ?_
 refine zad (zaw rfl) (zad (zac) (zae (zah ?_)))
 refine zjC rfl (rfl) ?_
 refine zaf (zaa (zad (zab) (zad (zak rfl) (zad (zav 6) ?_))))
 refine zad (zax hx) ?_
 refine zad (zac) (zae (zah ?_))
 refine zjB rfl (fun hde => ?_) (fun hde => ?_)
 ·
  refine zaf (zaa (zad (zac) (zae (zah (zaz (zbd (zaP ?_)))))))
  refine zam [_] ⟨rfl, trivial⟩ ?_
  subst hde
  exact ⟨rfl, rfl⟩
 ·
  refine zau (za6 (zah (zaf (zaa (zad (zac) (zae (zah (zaz ?_))))))))
  refine zam [_] ⟨rfl, trivial⟩ ?_
  have hf : de = false := by cases de with | false => rfl | true => cases hde
  subst hf
  exact ⟨rfl, rfl⟩
end
def zaS (D : Dk) (at_ : Nat) : List Sec → Dk × Bool
 | [] => (D, true)
 | s :: l => if za1 D then zaS (zbC D (at_ : Int) s) (at_ + 1) l else (zbC D (at_ : Int) s, false)
theorem zfY : ∀ (l : List Sec) (D : Dk) (a : Nat) (s : Sec), (zaS D a l).2 = true → zaS D a (l ++ [s]) = (zbC (zaS D a l).1 ((a + l.length : Nat) : Int) s, za1 (zaS D a l).1)
 | [], D, a, s, _ => by
  simp only [List.nil_append, zaS, List.length_nil, Nat.add_zero]
  split
  ·rename_i h; rw [h]
  ·rename_i h; cases hx : za1 D with
   | true => exact absurd hx h
   | false => rfl
 | t :: l, D, a, s, h => by
  rw [List.cons_append, zaS]
  rw [zaS] at h ⊢
  by_cases hs : za1 D = true
  ·rw [if_pos hs] at h ⊢
   rw [if_pos hs, zfY l _ _ s h, List.length_cons, show a + 1 + l.length = a + (l.length + 1) by omega]
  ·rw [if_neg hs] at h; cases h
theorem zgF : ∀ (l m : List Sec) (D : Dk) (a : Nat), (zaS D a l).2 = false → zaS D a (l ++ m) = zaS D a l
 | [], m, D, a, h => by cases h
 | t :: l, m, D, a, h => by
  rw [List.cons_append, zaS]
  rw [zaS] at h ⊢
  by_cases hs : za1 D = true
  ·rw [if_pos hs] at h ⊢
   rw [if_pos hs, zgF l m _ _ h]
  ·rw [if_neg hs, if_neg hs]
theorem zfI (D : Dk) (i : Int) (s : Sec) : (zbC D i s).V.length = D.V.length := by
 unfold zbC zgv
 split
 ·split
  ·show ((zcw D).V.set _ _).length = _
   rw [List.length_set, zdg]
  ·rw [zdg]
 ·rfl
theorem zi7 {D : Dk} {k : Nat} (h : zbE D k) (i : Int) (s : Sec) : zbE (zbC D i s) (k + 1) := by
 unfold zbC zgv
 split
 ·rename_i hin
  obtain ⟨m, rfl, hm⟩ := zmW hin
  have hsh := h.ver hm
  split
  ·intro v hv
   rcases List.mem_or_eq_of_mem_set hv with e | e
   ·rw [zdg] at e; exact Nat.le_trans (h v e) (by omega)
   ·rw [e, List.length_append, List.length_singleton, Int.toNat_natCast]; omega
  ·intro v hv; rw [zdg] at hv; exact Nat.le_trans (h v hv) (by omega)
 ·exact zbY h (by omega)
theorem zbP : ∀ (l : List Sec) (D : Dk) (a : Nat), (zaS D a l).1.V.length = D.V.length
 | [], D, a => rfl
 | t :: l, D, a => by
  have h : (zbC D (a : Int) t).V.length = D.V.length := zfI _ _ _
  rw [zaS]
  split
  ·rw [zbP l, h]
  ·exact h
theorem zdU : ∀ (l : List Sec) (D : Dk) (a k : Nat), zbE D k → zbE (zaS D a l).1 (k + l.length)
 | [], D, a, k, h => h
 | t :: l, D, a, k, h => by
  have h1 : zbE (zbC D (a : Int) t) (k + 1) := zi7 h _ _
  rw [zaS, List.length_cons]
  split
  ·exact zbY (zdU l _ _ _ h1) (by omega)
  ·exact zbY h1 (by omega)
def za4 (b : List UInt8) (n : Nat) : List Sec := (List.range n).map fun i => (b.drop (128 * i)).take 128
theorem zck (b : List UInt8) (n : Nat) : (za4 b n).length = n := by simp [za4]
theorem zfJ (b : List UInt8) {n i : Nat} (h : i < n) : (za4 b n)[i]? = some ((b.drop (128 * i)).take 128) := by
 rw [za4, List.getElem?_map, List.getElem?_range h]; rfl
theorem zgG (b : List UInt8) (n : Nat) : za4 b (n + 1) = za4 b n ++ [(b.drop (128 * n)).take 128] := by simp [za4, List.range_succ]
theorem zgH (b : List UInt8) : ∀ n, (za4 b n).flatten = b.take (128 * n)
 | 0 => rfl
 | n + 1 => by
  rw [zgG, List.flatten_append, zgH b n, List.flatten_singleton, Nat.mul_succ, List.take_add]
section
variable {Y : World → List Nat → Prop} [Thing Y] {g x lo : Nat} {L : List Nat} {D : Dk} {G : Lg} {w : World}
def zl9 (D : Dk) (a : Nat) (R : List Sec) : Dk × Bool := if (zaS D a R).2 then (zbk (zaS D a R).1, za1 (zaS D a R).1) else zaS D a R
def zi8 (G : Lg) : Lg := { G with count := G.count + 1, since := G.count + 1, num := 0, at_ := 0 }
set_option maxRecDepth 20000 in
theorem trunc18 (h : zd5 g x Y lo L D G w) (hc : G.count ≤ 4611686018427387904) (hsh : zbE D 90000) :
    Calls Tryz.prog 154 [.pointer (some ⟨x, 0, none⟩)].toArray w (Ret fun v w' => ∃ e : Int, v = .int .i64 e ∧ LoL lo L w w' ∧
      ((G.dead = true ∧ e = 10 ∧ zd5 g x Y lo L D G w') ∨ (G.dead = false ∧ G.count = 4611686018427387904 ∧ e = 8 ∧ zd5 g x Y lo L D G w') ∨
        (G.dead = false ∧ G.count < 4611686018427387904 ∧ zdK D (G.count + 1) (G.count + 1) = false ∧ e = 10 ∧ zd5 g x Y lo L (zct D (G.count + 1) (G.count + 1)) { G with dead := true } w') ∨
        (G.dead = false ∧ G.count < 4611686018427387904 ∧ zdK D (G.count + 1) (G.count + 1) = true ∧ e = 0 ∧ zd5 g x Y lo L (zct D (G.count + 1) (G.count + 1)) (zi8 G) w'))) := by
  have hLL := LoL.refl lo L w
  have hrd := ready45 h
  have hG := h
  have hxl := h.lt
  obtain ⟨dd, hdd⟩ : ∃ dd, G.dead = dd := ⟨_, rfl⟩
  rw [hdd] at hrd ⊢
  refine zas (fn := Tryz.f154) (rs := [.tmp 2]) (n := 33) Tryz.func154 rfl rfl Tryz.ntmps154 (by kernel_rfl) rfl ?_
  refine zaf (zaa (zad (zac) (zae (zah (zaf (zaf (zaa (zad (zab) ?_))))))))
  refine zao rfl (zaj (by kernel_rfl) rfl) (hrd) ?_
  rintro _ _ ⟨rfl, rfl⟩
  refine zad (zac) (zae (zah (zaf (zaa (zad (zab) ?_)))))
  refine zad (zaM rfl rfl) ?_
  refine zae (zah ?_)
  refine zbf rfl (fun hne => ?_) (fun hne => ?_)
  ·
   refine zaf (zaa (zad (zab) (zad (zac) (zae (zah (zaz (zaP ?_)))))))
   refine zam [_] ⟨rfl, trivial⟩ ?_
   have hf : dd = true := by cases dd with | true => rfl | false => simp at hne
   subst hf
   exact ⟨_, rfl, hLL, .inl ⟨rfl, rfl, hG⟩⟩
  ·
   have hf : dd = false := by cases dd with | false => rfl | true => simp at hne
   subst hf
   refine zau (zah (zaf (zaf (zaa (zad (zab) (zad (zak rfl) (zad (zav 0) (zad (zav 0) ?_))))))))
   refine zad (zaI rfl ((Ld.zdY hG.rowx (by kernel_rfl) rfl))) ?_
   refine zad (za9 rfl rfl) ?_
   refine zae (zah ?_)
   refine zbf rfl (fun he => ?_) (fun he => ?_)
   ·
    refine zaf (zaa (zad (zac) (zae (zah (zaz (zaP ?_))))))
    refine zam [_] ⟨rfl, trivial⟩ ?_
    exact ⟨_, rfl, hLL, .inr (.inl ⟨rfl, by omega, rfl, hG⟩)⟩
   ·
    have hcl : G.count < 4611686018427387904 := by omega
    have hobt : ∃ ok, zdK D (G.count + 1) (G.count + 1) = ok := ⟨_, rfl⟩
    obtain ⟨ok, hok⟩ := hobt
    have hnx := next48 hG (G.count + 1) (by omega) (by omega) hsh
    rw [hok] at hnx ⊢
    refine zau (zah (zaf (zaf (zaa (zad (zab) (zad (zab) (zad (zak rfl) (zad (zav 0) (zad (zav 0) ?_)))))))))
    refine zad (zaI rfl ((Ld.zdY hG.rowx (by kernel_rfl) rfl))) ?_
    refine zad (zaN rfl rfl (wu64 (by omega))) ?_
    refine zao rfl (zaj (by kernel_rfl) rfl) (hnx) ?_
    rintro _ w23 ⟨rfl, hG, hb23⟩
    replace hLL := hLL.lq hb23
    refine zad (zac) (zae (zah (zaf (zaa (zad (zab) ?_)))))
    refine zad (zaM rfl rfl) ?_
    refine zae (zah ?_)
    refine zbf rfl (fun hn2 => ?_) (fun hn2 => ?_)
    ·
     refine zaf (zaa (zad (zab) (zad (zac) (zae (zah (zaz (zaP ?_)))))))
     refine zam [_] ⟨rfl, trivial⟩ ?_
     have hf : ok = false := by cases ok with | false => rfl | true => simp at hn2
     subst hf
     exact ⟨_, rfl, hLL, .inr (.inr (.inl ⟨rfl, hcl, rfl, rfl, hG⟩))⟩
    ·
     have hf : ok = true := by cases ok with | true => rfl | false => simp at hn2
     subst hf
     obtain ⟨hD, hx, hge, hni⟩ := hG
     obtain ⟨c, si, sz, nu, at_, de⟩ := G
     dsimp only [lgV, nextG] at hx hdd
     subst hdd
     rw [if_pos rfl] at hx
     dsimp only at hx
     refine zau (zah (zaf (zaa (zad (zab) (zad (zab) (zad (zak rfl) (zad (zav 4) ?_)))))))
     refine zaG rfl (zbg hx (fun w901 hx ho901 => ?_))
     replace hLL := hLL.oq ho901
     replace hD := hD.only ho901 (by first | (right; simp; done) | (left; omega) | (right; simp [*]; done))
     refine zad (zak rfl) (zad (zav 5) ?_)
     refine zaG rfl (zbg hx (fun w902 hx ho902 => ?_))
     replace hLL := hLL.oq ho902
     replace hD := hD.only ho902 (by first | (right; simp; done) | (left; omega) | (right; simp [*]; done))
     refine zae (zah (zaf (zaa (zad (zac) (zae (zah (zaz ?_)))))))
     refine zam [_] ⟨rfl, trivial⟩ ?_
     exact ⟨_, rfl, hLL, .inr (.inr (.inr ⟨rfl, hcl, rfl, rfl, ⟨hD, hx, hge, hni⟩⟩))⟩
end
structure LgOk (D : Dk) (G : Lg) : Prop where
 s1 : 1 ≤ G.since
 sc : G.since ≤ G.count
 cm : G.count ≤ 4611686018427387904
 sz4 : 4 ≤ G.size
 szm : G.size ≤ 4000
 at_ : G.at_ ≤ G.size
 num : G.num ≤ G.at_
 fit : 1 + G.size ≤ D.V.length
def zhu (G : Lg) (R : Rec) : List Sec := za4 (rowB G.count G.num (recB R)) (zb2 (516 * R.length))
theorem zkX (G : Lg) (R : Rec) : (zhu G R).length = zb2 (516 * R.length) := zck _ _
def zek (D : Dk) (G : Lg) (R : Rec) : Int × Dk × Lg :=
 if G.dead then (10, D, G) else if mayR R = false then (2, D, G) else if G.size < G.at_ + (zhu G R).length then (8, D, G)
 else if (zl9 D (1 + G.at_) (zhu G R)).2 then (0, (zl9 D (1 + G.at_) (zhu G R)).1, { G with at_ := G.at_ + (zhu G R).length, num := G.num + 1 }) else (10, (zl9 D (1 + G.at_) (zhu G R)).1, { G with dead := true })
section
variable {Y : World → List Nat → Prop} [Thing Y] {g x lo : Nat} {L : List Nat} {D : Dk} {G : Lg} {w : World}
end
end Go.Proofs.YtdbogkndglbffaaGreat
namespace Coup
open Go Go.RowKit
def SeqU (P : Program) (gf : Nat) (lb : List Value) (m : Nat) (V : Nat → List Value → World → Prop) (ks : List Nat) (w : World) : Prop :=
 ∀ (l : Nat) (J : Nat → World → Prop) (Jx : World → Prop) (W : World), Below w.heap.size w W →
  (∀ k W W', J k W → Below W.heap.size W W' → J k W') → (∀ W W', Jx W → Below W.heap.size W W' → Jx W') →
  (∀ k v W1, k < m → V k v W1 → J k W1 → ziF P l v W1 fun e W' => (e = .returned (.bool true) ∧ J (k + 1) W' ∧ (∀ b, b ∈ ks → W'.heap[b]? = W1.heap[b]?) ∧ W1.heap.size ≤ W'.heap.size) ∨ (e = .returned (.bool false) ∧ Jx W')) →
  J 0 W → Calls P gf (.func (.yield l) #[] #[] :: lb).toArray W (Ret fun _ W' => J m W' ∨ Jx W')
section
variable {md : Option Nat → Prop} {P : Program} {n : Nat} {Q : Post} {ρ : Env} {w w0 : World}
theorem zi9 {g : Operand} {ps : List Nat} {assign body : Code} {gf : Nat} {lb : List Value} {m : Nat} {V : Nat → List Value → World → Prop} {ks : List Nat} (hmd : ∀ rd, md rd → rd = none)
  (hg : ev ρ g = .func (.func gf) #[] lb.toArray) (hcan : zb9 P gf = true) (hseq : SeqU P gf lb m V ks w0) (hb0 : Below w0.heap.size w0 w) (hps : ∀ k v W, V k v W → v.length = ps.length) (hpn : ps.all (Nat.blt · n) = true) (hnd : ps.Nodup)
  (hks : ∀ b, b ∈ ks → b < w.heap.size)
  (I : Nat → World → Prop) (Ix : Code → World → Prop) (hI : ∀ k W W', I k W → zds w.heap.size W W' → I k W') (hIx : ∀ c W W', Ix c W → zds w.heap.size W W' → Ix c W') (h0 : I 0 w)
  (round : ∀ l k v W1, k < m → V k v W1 → I k W1 → w.heap.size ≤ W1.heap.size → W (fun rd => rd = some l) P n assign
   (fun e ρ' W' => e = .normal ∧ Below W1.heap.size W1 W' ∧ ∀ W2, zds w.heap.size W' W2 → W (fun rd => rd = some l) P n body (roundQ w.heap.size ks I Ix k W2) ρ' W2) (zio ρ.f ps v) W1)
  (hdone : ∀ D W, w.heap.size ≤ D → I m W → W.heap[D]? = some (.deferred (some [])) → Q .normal ⟨ρ.f, D :: ρ.ms⟩ W)
  (hstop : ∀ D c W', w.heap.size ≤ D → Ix c W' → W'.heap[D]? = some (.deferred (some [])) → codeOk n c = true ∧ W md P n c Q ⟨ρ.f, D :: ρ.ms⟩ W') :
  W md P n (.rangeFunc g ps.toArray assign body) Q ρ w := by
 intro hc rd a hrd ha
 obtain rfl := hmd rd hrd
 simp only [codeOk, Bool.and_eq_true] at hc
 have hpn' : ∀ p, p ∈ ps → p < n := fun p hp => by have := List.all_eq_true.1 hpn p hp; simpa using this
 refine wpIn_rangeFunc ?_
 intro fn hfn
 obtain ⟨rec, hrec⟩ : ∃ rec : LoopState → Option Code → Loop, rec = fun st pe => { state := st, pending := pe, fn, tmps := a.tmps, params := ps.toArray, assign, body, defers := w.heap.size } := ⟨_, rfl⟩
 obtain ⟨W1, hW1⟩ : ∃ W1, (w.alloc (.deferred (some []))).alloc (.loop (rec .ready none)) = W1 := ⟨_, rfl⟩
 have hs1 : W1.heap.size = w.heap.size + 2 := by rw [← hW1]; simp
 have hL1 : W1.heap[w.heap.size + 1]? = some (.loop (rec .ready none)) := by
  rw [← hW1]; have := World.alloc_heap_new (w.alloc (.deferred (some []))) (.loop (rec .ready none)); rwa [World.size_alloc] at this
 have hK1 : W1.heap[w.heap.size]? = some (.deferred (some [])) := by
  rw [← hW1]; exact (Below.heap_alloc _ _ _ (by simp)).trans (World.alloc_heap_new w _)
 have hbw : Below w.heap.size w W1 := by rw [← hW1]; exact ((Below.refl _ w).alloc (Nat.le_refl _) _).alloc (by simp) _
 have hI1 : I 0 W1 := hI 0 w W1 h0 (zds.of_below hbw)
 have hb1 : Below w0.heap.size w0 W1 := hb0.acc hbw
 have hro : (fr none).round = none := rfl
 obtain ⟨lw, hlw⟩ : ∃ lw, lw = w.heap.size + 1 := ⟨_, rfl⟩
 have hcall : (callFunc gf (.func (.yield lw) #[] #[] :: lb).toArray).run P W1 = .ok (.enter gf (.func (.yield lw) #[] #[] :: lb).toArray) W1 := by
  unfold zb9 at hcan
  cases hfn : P.funcs[gf]? with
  | none => simp [hfn] at hcan
  | some f =>
   rw [hfn] at hcan
   simp only [Bool.and_eq_true, Bool.not_eq_true'] at hcan
   cases hb : f.body with
   | none => simp [hb] at hcan
   | some c =>
    have hn : ¬ f.name = "runtime.NumGoroutine" := by simpa using hcan.1
    simp [callFunc, program, Sem.run, hfn, hn, hb, Result.andThen]
 have hae : a.eval g = .func (.func gf) #[] lb.toArray := by rw [ha.ev]; exact hg
 refine ⟨lw, [mkD w.heap.size], W1, { target := .fn (.func gf) lb.toArray, args := #[.func (.yield lw) #[] #[]] }, W1, gf, (.func (.yield lw) #[] #[] :: lb).toArray, W1, ?_, ?_, fun f' _ => zhN none f', ?_, fun hdp => by (rw [zdO] at hdp; cases hdp), ?_⟩
 ·rw [hro, hlw, ← hW1, hrec]; exact run_enterLoop_outer _ _ _ _ _
 ·simp only [resolve, rangeCall, hae]
  simp [Deferred.ofValue, Act.eval]
 ·have e : #[Value.func (.yield lw) #[] #[]] ++ lb.toArray = (.func (.yield lw) #[] #[] :: lb).toArray := by simp
  simp only [invoke, e]
  exact hcall
 ·refine ze9 ((hseq lw (fun k W => I k W ∧ W.heap[w.heap.size + 1]? = some (.loop (rec .ready none)) ∧ W.heap[w.heap.size]? = some (.deferred (some [])))
   (fun W => ∃ c, Ix c W ∧ W.heap[w.heap.size + 1]? = some (.loop (rec .done (some c))) ∧ W.heap[w.heap.size]? = some (.deferred (some []))) W1 hb1 ?_ ?_ ?_ ⟨hI1, hL1, hK1⟩).mono ?_)
  ·rintro k A B ⟨h1, h2, h3⟩ hAB
   exact ⟨hI k A B h1 (zds.of_below hAB), by rw [hAB.block _ (Array.getElem?_eq_some_iff.1 h2).1]; exact h2, by rw [hAB.block _ (Array.getElem?_eq_some_iff.1 h3).1]; exact h3⟩
  ·rintro A B ⟨c, h1, h2, h3⟩ hAB
   exact ⟨c, hIx c A B h1 (zds.of_below hAB), by rw [hAB.block _ (Array.getElem?_eq_some_iff.1 h2).1]; exact h2, by rw [hAB.block _ (Array.getElem?_eq_some_iff.1 h3).1]; exact h3⟩
  ·rintro k v W hkm hv ⟨hi, hl, hk⟩
   have hlt : w.heap.size + 1 < W.heap.size := (Array.getElem?_eq_some_iff.1 hl).1
   have hvl := hps k v W hv
   have hy := run_yield (P := P) (args := v.toArray) hl (by rw [hrec]; simpa using hvl)
   rw [hrec] at hy
   refine ⟨fn, _, assign, body, by rw [hlw]; exact hy, ?_⟩
   clear hy
   refine roundIn_of_wpIn (F := Fence.wide) (n := 0) trivial ?_
   have hag : Ag n { tmps := (ps.toArray.zip v.toArray).foldl (fun t (p, u) => t.setIfInBounds p u) a.tmps, defers := [] } (zio ρ.f ps v) := by
    have := zjT ha ps v a.tmps ha.s ha.t hpn' hnd
    rw [← Array.foldl_toList, Array.toList_zip]
    exact this
   have hA := round lw k v W hkm hv hi (by omega) hc.1 (some lw) _ rfl hag
   have hA' : assign.wpIn (Fence.wide.inRound lw) 0 P _ _ W := fun b k' cs h1 h2 h3 => hA b k' cs h1 h2 (room_wide _)
   refine wpIn_mono hA' ?_
   rintro e a' Wa ⟨ρ', h1, rfl, hbel, hbody⟩
   show ∃ w2, _
   have hl2 : Wa.heap[w.heap.size + 1]? = some (.loop (rec .ready none)) := by rw [hbel.block _ hlt]; exact hl
   have hk2 : Wa.heap[w.heap.size]? = some (.deferred (some [])) := by rw [hbel.block _ (by omega)]; exact hk
   have hlt2 := (Array.getElem?_eq_some_iff.1 hl2).1
   refine ⟨_, by rw [hlw]; exact run_beginRound hl2 (by rw [hrec]), ?_⟩
   obtain ⟨W2, hW2⟩ : ∃ W2, W2 = Wa.putObj (w.heap.size + 1) (.loop { rec .ready none with state := .busy }) := ⟨_, rfl⟩
   have hl3 : W2.heap[w.heap.size + 1]? = some (.loop { rec .ready none with state := .busy }) := by rw [hW2]; exact World.putObj_heap_same hlt2
   have hk3 : W2.heap[w.heap.size]? = some (.deferred (some [])) := by rw [hW2]; exact (World.putObj_heap_other (by omega)).trans hk2
   have hsf : zds w.heap.size Wa W2 := by rw [hW2]; exact zds.put _ hl2 (by omega) rfl
   rw [← hW2]
   have hB := hbody W2 hsf hc.2 (some lw) a' rfl h1
   have hB' : body.wpIn (Fence.wide.inRound lw) 0 P _ a' W2 := fun b k' cs h1 h2 h3 => hB b k' cs h1 h2 (room_wide _)
   refine wpIn_mono hB' ?_
   have fin : ∀ (jump : Option Code) (W3 : World), KeepsFrom w.heap.size W2 W3 →
     (Instr.endRound lw jump).run P W3 = .ok (.bool jump.isNone) (W3.putObj (w.heap.size + 1) (.loop (rec (if jump.isNone then .ready else .done) jump))) ∧
     zds w.heap.size W3 (W3.putObj (w.heap.size + 1) (.loop (rec (if jump.isNone then .ready else .done) jump))) ∧
     (W3.putObj (w.heap.size + 1) (.loop (rec (if jump.isNone then .ready else .done) jump))).heap[w.heap.size + 1]? = some (.loop (rec (if jump.isNone then .ready else .done) jump)) ∧
     (W3.putObj (w.heap.size + 1) (.loop (rec (if jump.isNone then .ready else .done) jump))).heap[w.heap.size]? = some (.deferred (some [])) := fun jump W3 hk3' => by
    have hl4 := hk3'.same _ _ (by omega) hl3 rfl
    have := run_endRound (P := P) jump hl4
    rw [hrec] at this ⊢
    refine ⟨by rw [hlw]; exact this, zds.put _ hl4 (by omega) rfl, World.putObj_heap_same (Array.getElem?_eq_some_iff.1 hl4).1, (World.putObj_heap_other (by omega)).trans (hk3'.same _ _ (Nat.le_refl _) hk3 rfl)⟩
   rintro e a3 W3 ⟨ρ3, _, hp⟩
   have hkw : ∀ b, b ∈ ks → W2.heap[b]? = W.heap[b]? := fun b hb => by
    have := hks b hb
    rw [hW2, World.putObj_heap_other (by omega), hbel.block b (by omega)]
   have hsz2 : W.heap.size ≤ W2.heap.size := by rw [hW2]; simpa using hbel.size
   cases e with
   | normal =>
    obtain ⟨hp1, hp2, hp3⟩ := hp
    obtain ⟨hr, hs, hl5, hk5⟩ := fin none W3 hp1
    refine ⟨_, _, hr, .inl ⟨rfl, ⟨hI _ _ _ hp3 hs, hl5, hk5⟩, fun b hb => ?_, ?_⟩⟩
    ·have := hks b hb
     rw [World.putObj_heap_other (by omega), hp2 b hb, hkw b hb]
    ·have := hp1.size; simp; omega
   | ret =>
    obtain ⟨hp1, hp2⟩ := hp
    obtain ⟨hr, hs, hl5, hk5⟩ := fin (some .ret) W3 hp1
    exact ⟨_, _, hr, .inr ⟨rfl, .ret, hIx _ _ _ hp2 hs, hl5, hk5⟩⟩
   | exit id =>
    obtain ⟨hp1, hp2⟩ := hp
    obtain ⟨hr, hs, hl5, hk5⟩ := fin (some (.exit id)) W3 hp1
    exact ⟨_, _, hr, .inr ⟨rfl, .exit id, hIx _ _ _ hp2 hs, hl5, hk5⟩⟩
   | goto t => exact hp.elim
   | panic ch => exact hp.elim
   | outgrown => exact hp.elim
  ·rintro e W2 ⟨v, rfl, (⟨hi, hl, hk⟩ | ⟨c, hi, hl, hk⟩)⟩
   ·refine ⟨none, _, by have := run_endLoop (P := P) hl (by rw [hrec]; simp); rw [hrec] at this; rw [hlw]; exact this, ?_⟩
    refine ⟨⟨ρ.f, w.heap.size :: ρ.ms⟩, ⟨by simp [ha.d, Dm.d], ha.s, ha.t⟩, hdone w.heap.size _ (Nat.le_refl _) (hI _ _ _ hi (zds.put _ hl (by omega) rfl)) ((World.putObj_heap_other (by omega)).trans hk)⟩
   ·refine ⟨some c, _, by have := run_endLoop (P := P) hl (by rw [hrec]; simp); rw [hrec] at this; rw [hlw]; exact this, ?_⟩
    obtain ⟨h1, h2⟩ := hstop w.heap.size c _ (Nat.le_refl _) (hIx _ _ _ hi (zds.put _ hl (by omega) rfl)) ((World.putObj_heap_other (by omega)).trans hk)
    exact h2 h1 none _ hrd ⟨by simp [ha.d, Dm.d], ha.s, ha.t⟩
end
end Coup
namespace Go.Proofs.YtdbogkndglbffaaGreat
open Go Go.RowKit Coup
structure zia where
 c : Nat
 nn : Nat
 b : List UInt8
def zcy : Nat → List UInt8 → Nat → List zia
 | 0, _, _ => []
 | f + 1, l, n => if zbZ l n then ⟨zbn (zaC l 0), zd4 (zaC l 0), zbA l⟩ :: zcy f (l.drop (128 * zb2 (zbA l).length)) (n - zb2 (zbA l).length) else []
theorem zoz (p : Option Addr) (n cp : Nat) (l : List UInt8) (w : World) (h : zaT w p n 128 (bv l)) (hn : n ≤ 1000000) (hj : zbZ l n = false) : Calls Tryz.prog 188 [.slice p n cp].toArray w (Ret fun v w' => v = zop ∧ Below w.heap.size w w') := by
 have hJ : Calls Tryz.prog 188 [.slice p n cp].toArray w (Ret fun v w' => JR l n w v w') := by
  by_cases h0 : 0 < n
  ·cases hm : zga (zbn (zaC l 0)) (zd4 (zaC l 0)) with
   | true => exact joinT p n cp l w h hn h0 hm
   | false => exact joinF p n cp l w h hn h0 hm
  ·obtain rfl : n = 0 := by omega
   exact join0 p cp l w
 exact hJ.to fun v w' ⟨h1, h2⟩ => by
  rcases h2 with ⟨_, h2⟩ | ⟨h3, _⟩
  ·exact ⟨h2, h1⟩
  ·rw [hj] at h3; cases h3
theorem zeA {l : List UInt8} {n : Nat} (hj : zbZ l n = true) : 0 < n ∧ zga (zbn (zaC l 0)) (zd4 (zaC l 0)) = true ∧ (l.length = n * 128 → zb2 (zbA l).length ≤ n ∧ 1 ≤ zb2 (zbA l).length) := by
 rw [zbZ, Bool.and_eq_true, Bool.and_eq_true] at hj
 obtain ⟨⟨h1, h2⟩, h3⟩ := hj
 have h0 := of_decide_eq_true h1
 rw [zj9, Bool.and_eq_true, Bool.and_eq_true, Bool.and_eq_true] at h2
 obtain ⟨⟨⟨h4, h5⟩, h6⟩, h7⟩ := h2
 have h7 := of_decide_eq_true h7
 rw [zfX, Bool.and_eq_true, Bool.and_eq_true, Bool.and_eq_true] at h3
 obtain ⟨⟨⟨_, h8⟩, h9⟩, _⟩ := h3
 have h9 := of_decide_eq_true h9
 refine ⟨h0, h4, fun hl => ?_⟩
 have hb : (zbA l).length ≤ zfH l (zcH (zaC l 0)) := by rw [zbA, List.length_take]; omega
 have hk : zcM (zbA l).length ≤ zcM (zfH l (zcH (zaC l 0))) := by unfold zcM; omega
 rw [h9] at hk
 have hp : 1 ≤ zcM (zbA l).length := by unfold zcM; omega
 unfold zb2
 omega
theorem zoA (p : Option Addr) (n cp : Nat) (l : List UInt8) (w : World) (h : zaT w p n 128 (bv l)) (hn : n ≤ 1000000) (hj : zbZ l n = true) : Calls Tryz.prog 188 [.slice p n cp].toArray w
  (Ret fun v w' => ∃ sp, v = .tuple #[.agg #[.int .u64 (zbn (zaC l 0)), .int .i64 (zd4 (zaC l 0))], .slice sp (zbA l).length (zbA l).length, .int .i64 (zb2 (zbA l).length : Nat), .int .i64 0] ∧ zaT w' sp (zbA l).length 1 (bv (zbA l)) ∧ Below w.heap.size w w') := by
 obtain ⟨h0, hm, _⟩ := zeA hj
 exact (joinT p n cp l w h hn h0 hm).to fun v w' ⟨h1, h2⟩ => by
  rcases h2 with ⟨h3, _⟩ | ⟨_, sp, h3, h4⟩
  ·rw [hj] at h3; cases h3
  ·exact ⟨sp, h3, h4, h1⟩
theorem zkY {w : World} {q : Option Addr} {m c sz j : Nat} {cs : List Value} (h : zaT w q m sz cs) (hj : j ≤ m) (hc : m ≤ c) : zaT w (if c = j then q else q.map (·.add (j * sz))) (m - j) sz (cs.drop (j * sz)) := by
 refine ⟨by rw [List.length_drop, h.len, Nat.sub_mul], Nat.le_trans (Nat.sub_le _ _) h.max, fun h0 => ?_⟩
 have hs : 0 < (m - j) * sz := h0
 have hmj : 0 < m - j := Nat.pos_of_mul_pos_right hs
 have hmul : (m - j) * sz + j * sz = m * sz := by rw [← Nat.add_mul]; congr 1; omega
 obtain ⟨b, off, hp, hlt, hcell⟩ := h.at_ (by omega)
 refine ⟨b, off + j * sz, by rw [if_neg (by omega), hp, Option.map_some, Addr.add_lit], hlt, fun i hi => ?_⟩
 rw [List.getElem?_drop, ← hcell (j * sz + i) (by omega)]
 congr 2; omega
def RowV (R : List zia) (k : Nat) (v : List Value) (W : World) : Prop := ∃ r, R[k]? = some r ∧ ∃ sp, v = [.agg #[.int .u64 (r.c : Int), .int .i64 (r.nn : Int)], .slice sp r.b.length r.b.length] ∧ zaT W sp r.b.length 1 (bv r.b)
set_option maxRecDepth 20000 in
set_option maxHeartbeats 1000000 in
theorem rowsSeq (l : List UInt8) (g1 ga oa n c : Nat) (w : World) (hn : n ≤ 1000000) (h0n : 0 < n) (hcn : n ≤ c) (r1 : row w g1 [.slice (some ⟨ga, oa, none⟩) n c] 137)
  (hs : zaT w (some ⟨ga, oa, none⟩) n 128 (bv l)) : SeqU Tryz.prog 187 [.pointer (some ⟨g1, 0, none⟩)] (zcy n l n).length (RowV (zcy n l n)) [g1, ga] w := by
 intro ly J Jx W hbW hJ hJx hy h0
 have r1W := r1.new hbW
 have hsW := hs.new hbW
 have hgaW := hsW.some (by omega)
 obtain ⟨_, _, heq, hgaW⟩ := hgaW
 cases heq
 have hB := Below.refl W.heap.size W
 obtain ⟨R, hR⟩ : ∃ R, zcy n l n = R := ⟨_, rfl⟩
 rw [hR] at hy ⊢
 refine zas (fn := Tryz.f187) (rs := []) (n := 28) Tryz.func187 rfl rfl Tryz.ntmps187 (by kernel_rfl) rfl ?_
 refine zaf (zaa ?_)
 refine zad (zax r1W) ?_
 refine zad (zac) (zae (zah (zaE ?_)))
 refine zbB (α := Nat × Nat × Nat × Option Addr × List UInt8) (0, n, c, some ⟨ga, oa, none⟩, l) (fun k => [(0, .func (.yield ly) #[] #[]), (1, .pointer (some ⟨g1, 0, none⟩)), (3, .slice k.2.2.2.1 k.2.1 k.2.2.1)])
  (fun k w' => k.1 ≤ R.length ∧ k.2.1 ≤ k.2.2.1 ∧ k.2.1 ≤ n ∧ (∃ f, k.2.1 ≤ f ∧ R.drop k.1 = zcy f k.2.2.2.2 k.2.1) ∧ zaT W k.2.2.2.1 k.2.1 128 (bv k.2.2.2.2) ∧ (∀ b o, k.2.2.2.1 = some ⟨b, o, none⟩ → 0 < k.2.1 → b = ga) ∧ J k.1 w' ∧ (∀ x, x ∈ [g1, ga] → w'.heap[x]? = W.heap[x]?) ∧ W.heap.size ≤ w'.heap.size) (fun k => k.2.1) ⟨rfl, rfl, rfl, rfl⟩ ⟨Nat.zero_le _, hcn, Nat.le_refl _, ⟨n, Nat.le_refl _, hR.symm⟩, hsW, (fun b o e _ => by cases e; rfl), h0, fun _ _ => rfl, Nat.le_refl _⟩ ?_
 rintro ⟨k, m, cm, q, lr⟩ f wr ⟨hk, hcm, hmn, ⟨fu, hfu, hdr⟩, hsm, hqa, hJk, hkp, hsz⟩
 dsimp only at *
 have hBr := Below.refl wr.heap.size wr
 have hlr : lr.length = m * 128 := by simpa [zal] using hsm.len
 have hsr : zaT wr q m 128 (bv lr) := by
  by_cases h0m : 0 < m
  ·obtain ⟨b, o, rfl, _⟩ := hsm.some (by omega)
   obtain rfl := hqa b o rfl h0m
   exact hsm.blk (hkp b (by simp)) hsz
  ·exact ⟨hsm.len, hsm.max, fun h => absurd h (by rw [show m = 0 by omega, Nat.zero_mul]; exact Nat.lt_irrefl 0)⟩
 cases hj : zbZ lr m with
 | false =>
  have hkR : k = R.length := by
   have h1 := congrArg List.length hdr
   cases fu with
   | zero => rw [zcy, List.length_drop, List.length_nil] at h1; omega
   | succ fu => rw [zcy, hj, if_neg (by simp), List.length_drop, List.length_nil] at h1; omega
  refine zaE (zaf (zaa (zad (zab) ?_)))
  refine zao rfl (zaj (by kernel_rfl) rfl) (zoz q m cm lr wr (hsr.new hBr) (by omega) hj) ?_
  rintro _ w11 ⟨rfl, hb11⟩
  replace hBr := hBr.acc hb11
  refine zad (zab) (zad (zai rfl rfl) (zad (zai rfl rfl) (zad (zai rfl rfl) (zad (zai rfl rfl) ?_))))
  refine zay rfl (zar ([Value.int .u64 0, Value.int .i64 0]) (by kernel_rfl) (fun g4 w4 hg4 hr4 hb4 => ?_))
  have ge_hBr_g4 := Nat.le_trans hBr.size hg4
  replace hBr := hBr.acc hb4
  refine zaG rfl (zaO 2 (_) hr4 (fun w901 hr4 ho901 => ?_))
  replace hBr := ho901.below hBr ge_hBr_g4
  refine zad (zac) (zad (zac) (zad (zac) (zae (zah (zaf (zaf (zaa (zad (zab) ?_))))))))
  refine zad (zaM rfl rfl) ?_
  refine zad (zab) ?_
  refine zdz 18 rfl ((by decide)) ?_
  refine zaK rfl rfl (zaK rfl rfl (zaK rfl rfl (zaK rfl rfl (zaK rfl rfl (zad (zaA rfl) (zae (zah ?_)))))))
  refine W_t rfl ?_
  refine zaz (zaP (zbd (zeL (zbd ?_))))
  refine zam [] trivial ?_
  exact Or.inl (hkR ▸ hJ _ _ _ hJk hBr)
 | true =>
  have hjf := zeA hj
  have hnd := hjf.2.2 hlr
  have hobt : ∃ z, fu = z + 1 := ⟨fu - 1, by omega⟩
  obtain ⟨fu, rfl⟩ := hobt
  rw [zcy, hj, if_pos rfl] at hdr
  have hkl : k < R.length := by
   have h1 := congrArg List.length hdr
   rw [List.length_drop, List.length_cons] at h1; omega
  have hRk : R[k]? = some ⟨zbn (zaC lr 0), zd4 (zaC lr 0), zbA lr⟩ := by
   have h1 := congrArg (fun z => z[0]?) hdr
   simpa [List.getElem?_drop] using h1
  have hdr2 : R.drop (k + 1) = zcy fu (lr.drop (128 * zb2 (zbA lr).length)) (m - zb2 (zbA lr).length) := by
   have h1 := congrArg (List.drop 1) hdr
   rw [List.drop_drop] at h1
   exact h1
  have hj2 := zoA q m cm lr
  generalize zbn (zaC lr 0) = C at *
  generalize zd4 (zaC lr 0) = NN at *
  generalize zbA lr = JB at *
  generalize zb2 JB.length = ND at *
  refine zaE (zaf (zaa (zad (zab) ?_)))
  refine zao rfl (zaj (by kernel_rfl) rfl) (hj2 wr (hsr.new hBr) (by omega) hj) ?_
  rintro _ w11 ⟨sp, rfl, hsp, hb11⟩
  replace hBr := hBr.acc hb11
  have hBs := Below.refl (w11).heap.size w11
  refine zad (zab) (zad (zai rfl rfl) (zad (zai rfl rfl) (zad (zai rfl rfl) (zad (zai rfl rfl) ?_))))
  refine zay rfl (zar ([Value.int .u64 0, Value.int .i64 0]) (by kernel_rfl) (fun g4 w4 hg4 hr4 hb4 => ?_))
  have ge_hBr_g4 := Nat.le_trans hBr.size hg4
  have ge_hBs_g4 := Nat.le_trans hBs.size hg4
  replace hBr := hBr.acc hb4
  replace hBs := hBs.acc hb4
  refine zaG rfl (zaO 2 (_) hr4 (fun w902 hr4 ho902 => ?_))
  replace hBr := ho902.below hBr ge_hBr_g4
  replace hBs := ho902.below hBs ge_hBs_g4
  refine zad (zac) (zad (zac) (zad (zac) (zae (zah (zaf (zaf (zaa (zad (zab) ?_))))))))
  refine zad (zaM rfl rfl) ?_
  refine zad (zab) ?_
  refine zdc 18 rfl ((by simp)) ?_
  refine zan rfl (zad (zab) (zan rfl ?_))
  refine zad (zbc 2 hr4) ?_
  refine zan rfl (zad (zab) (zan rfl ?_))
  have hYk := hy k _ w902 hkl ⟨_, hRk, sp, rfl, hsp.below hBs (Nat.le_refl _)⟩ (hJ _ _ _ hJk hBr)
  refine zkI (vl := [.agg #[.int .u64 (C : Int), .int .i64 (NN : Int)], .slice sp JB.length JB.length]) rfl rfl hYk ?_
  have hdz := zkY hsm hnd.1 hcm
  have hdl : (lr.drop (128 * ND)).length = (m - ND) * 128 := by rw [List.length_drop, hlr]; omega
  replace hdz : zaT W (if cm = ND then q else q.map (·.add (ND * 128))) (m - ND) 128 (bv (lr.drop (128 * ND))) := by rw [Nat.mul_comm 128 ND, zcP]; exact hdz
  rintro e wy (⟨rfl, hJy, hky, hsy⟩ | ⟨rfl, hJxy⟩)
  ·refine ⟨_, rfl, ?_⟩
   refine zan rfl ?_
   refine zad (zbS rfl) ?_
   refine zad (zaw rfl) (zae (zah ?_))
   refine W_f rfl ?_
   refine zau (zah (zaa (zad (zab) (zad (zab) ?_))))
   refine zad (zdE (e := 172) (sz := 128) ND m cm (by kernel_rfl) rfl ⟨_, _, rfl, rfl⟩ rfl rfl (by simp) (by omega) (by omega) (by omega)) ?_
   refine zad (zac) (zae (za6 ?_))
   refine zbw ⟨(k + 1, m - ND, cm - ND, if cm = ND then q else q.map (·.add (ND * 128)), lr.drop (128 * ND)), by show m - ND < m; omega, ⟨rfl, rfl, rfl, rfl⟩, by show k + 1 ≤ _; omega, by show m - ND ≤ cm - ND; omega, by show m - ND ≤ n; omega, ⟨fu, by show m - ND ≤ fu; omega, hdr2⟩, hdz, fun b o e h => ?_, hJy, fun x hx => ?_, ?_⟩
   ·have hpos : 0 < m - ND := h
    have e : (if cm = ND then q else q.map (·.add (ND * 128))) = some ⟨b, o, none⟩ := e
    rw [if_neg (by omega)] at e
    have hobt := hsm.some (by omega)
    obtain ⟨b2, o2, e2, _⟩ := hobt
    rw [e2, Option.map_some, Addr.add_lit] at e
    cases e
    exact hqa _ _ e2 (by omega)
   ·have hxx : x < wr.heap.size := by
     simp only [List.mem_cons, List.not_mem_nil, or_false] at hx
     have h1 := r1W.lt
     rcases hx with rfl | rfl <;> omega
    rw [hky x hx, hBr.block x hxx, hkp x hx]
   ·have := hBr.size; omega
  ·refine ⟨_, rfl, ?_⟩
   refine zan rfl ?_
   refine zad (zbS rfl) ?_
   refine zad (zaw rfl) (zae (zah ?_))
   refine W_t rfl ?_
   refine zaz (zaP (zbd (zeL (zbd ?_))))
   refine zam [] trivial ?_
   exact Or.inr hJxy
set_option maxRecDepth 20000 in
theorem rows73 (l : List UInt8) (ga oa : Nat) (n cp : Nat) (w : World) (h : zaT w (some ⟨ga, oa, none⟩) n 128 (bv l)) (hn : n ≤ 1000000) (h0n : 0 < n) (hcn : n ≤ cp) :
  Calls Tryz.prog 174 [.slice (some ⟨ga, oa, none⟩) n cp].toArray w (Ret fun v w' => ∃ g1, v = .func (.func 187) #[] [.pointer (some ⟨g1, 0, none⟩)].toArray ∧ g1 < w'.heap.size ∧ w.heap.size ≤ g1 ∧ Below w.heap.size w w' ∧
   SeqU Tryz.prog 187 [.pointer (some ⟨g1, 0, none⟩)] (zcy n l n).length (RowV (zcy n l n)) [g1, ga] w') := by
 have hB := Below.refl w.heap.size w
 refine zas (fn := Tryz.f174) (rs := [.tmp 2]) (n := 4) Tryz.func174 rfl rfl Tryz.ntmps174 (by kernel_rfl) rfl ?_
 refine zaf (zaa ?_)
 refine zay rfl (zaU ([_]) rfl (fun g1 w1 hg1 hr1 hb1 => ?_))
 replace hB := hB.acc hb1
 refine zad (zac) (zae (zah (zaf (zaa (zad (zaW) (zad (zac) (zae (zah (zaz ?_)))))))))
 refine zam [_] ⟨rfl, trivial⟩ ?_
 have hg := hB.size
 exact ⟨_, rfl, hr1.lt, by omega, hB, rowsSeq l _ ga oa n cp _ hn h0n hcn hr1 (h.below hB (Nat.le_refl _))⟩
theorem zlM {l : List UInt8} {n : Nat} (hj : zbZ l n = true) : (zbA l).length ≤ 32768 := by
 rw [zbZ, Bool.and_eq_true, Bool.and_eq_true] at hj
 have h3 := hj.2
 rw [zfX, Bool.and_eq_true, Bool.and_eq_true, Bool.and_eq_true] at h3
 have h8 := of_decide_eq_true h3.1.1.2
 rw [zbA, List.length_take]; omega
theorem zgI : ∀ (f : Nat) (l : List UInt8) (n : Nat) (r : zia), r ∈ zcy f l n → r.b.length ≤ 32768
 | 0, l, n, r, h => by cases h
 | f + 1, l, n, r, h => by
  rw [zcy] at h
  split at h
  ·rename_i hj
   rcases List.mem_cons.1 h with rfl | h
   ·exact zlM hj
   ·exact zgI f _ _ r h
  ·cases h
theorem zja : ∀ (f : Nat) (l : List UInt8) (n : Nat), (zcy f l n).length ≤ f
 | 0, l, n => Nat.le_refl 0
 | f + 1, l, n => by
  rw [zcy]
  split
  ·rw [List.length_cons]; have := zja f (l.drop (128 * zb2 (zbA l).length)) (n - zb2 (zbA l).length); omega
  ·simp
structure zd0 (w : World) (lo : Nat) (o : Option Nat) (vs : List Value) (L : List Rec) : Prop where
 len : vs.length = L.length
 at_ : ∀ (i : Nat) l, L[i]? = some l → ∃ b off c, vs[i]? = some (.slice (some ⟨b, off, none⟩) l.length c) ∧ zaT w (some ⟨b, off, none⟩) l.length 513 (zb3 l) ∧ b < w.heap.size ∧ some b ≠ o ∧ l.length ≤ c ∧ lo ≤ b
namespace zd0
variable {w w' : World} {lo : Nat} {o : Option Nat} {vs : List Value} {L : List Rec}
theorem nil (w : World) (lo : Nat) (o : Option Nat) : zd0 w lo o [] [] := ⟨rfl, fun i l h => by simp at h⟩
theorem kp {M : List Nat} (h : zd0 w lo o vs L) (k : Kp M w w') (hM : ∀ g, g ∈ M → w.heap.size ≤ g ∨ o = some g ∨ g < lo) : zd0 w' lo o vs L := ⟨h.len, fun i l hl => by
 obtain ⟨b, off, c, h1, h2, h3, h4, h5⟩ := h.at_ i l hl
 refine ⟨b, off, c, h1, h2.kpd k fun b' o' e hm => ?_, Nat.lt_of_lt_of_le h3 k.size, h4, h5⟩
 cases e
 rcases hM b hm with e | e | e
 ·omega
 ·exact h4 e.symm
 ·omega⟩
theorem new (h : zd0 w lo o vs L) (hb : Below w.heap.size w w') : zd0 w' lo o vs L := h.kp (M := []) (Kp.of_below hb) (by simp)
theorem only {g : Nat} (h : zd0 w lo o vs L) (ho : Only g w w') (hg : g < lo) : zd0 w' lo o vs L := h.kp (Kp.za7 ho) fun b hb => by rw [List.mem_singleton.1 hb]; exact .inr (.inr hg)
theorem soft {B : Nat} (h : zd0 w lo o vs L) (k : zds B w w') : zd0 w' lo o vs L := ⟨h.len, fun i l hl => by
 obtain ⟨b, off, c, h1, h2, h3, h4⟩ := h.at_ i l hl
 exact ⟨b, off, c, h1, h2.soft k, Nat.lt_of_lt_of_le h3 k.size, h4⟩⟩
theorem grow {v v' : Value} (h : zd0 w lo v.ownBlock vs L) (hg : w.grownBy w' v.ownBlock) (hf : ∀ g, v'.ownBlock = some g → v.ownBlock = some g ∨ w.heap.size ≤ g) : zd0 w' lo v'.ownBlock vs L := ⟨h.len, fun i l hl => by
 obtain ⟨b, off, c, h1, h2, h3, h4, h5⟩ := h.at_ i l hl
 refine ⟨b, off, c, h1, h2.kpd (Kp.za8 hg) fun b' o' e hm => ?_, Nat.lt_of_lt_of_le h3 hg.size, fun e => (hf b e.symm).elim (fun e' => h4 e'.symm) (fun e' => by omega), h5⟩
 cases e
 simp only [Option.mem_toList] at hm
 exact h4 hm.symm⟩
theorem snoc {b off c : Nat} {l : Rec} (h : zd0 w lo o vs L) (h2 : zaT w (some ⟨b, off, none⟩) l.length 513 (zb3 l)) (h3 : b < w.heap.size) (h4 : some b ≠ o) (h5 : l.length ≤ c) (h6 : lo ≤ b) : zd0 w lo o (vs ++ [.slice (some ⟨b, off, none⟩) l.length c]) (L ++ [l]) :=
 ⟨by simp [h.len], fun i l' hl => by
  by_cases hi : i < L.length
  ·rw [List.getElem?_append_left hi] at hl
   obtain ⟨b', off', c', e1, e2, e3, e4, e5⟩ := h.at_ i l' hl
   exact ⟨b', off', c', by rw [List.getElem?_append_left (by rw [h.len]; exact hi)]; exact e1, e2, e3, e4, e5⟩
  ·have hi' : i = L.length := by
    have := (List.getElem?_eq_some_iff.1 hl).1
    simp at this; omega
   subst hi'
   simp at hl
   subst hl
   exact ⟨b, off, c, by rw [← h.len]; simp, h2, h3, h4, h5, h6⟩⟩
end zd0
def zkc (p : Option Addr) (S : List Rec) : World → List Nat → Prop := fun w C => (∀ b ∈ C, b < w.heap.size) ∧ ∃ vs, zaT w p S.length 1 vs ∧ (0 < S.length → ∀ b o, p = some ⟨b, o, none⟩ → b ∈ C) ∧
 ∀ (i : Nat) r, S[i]? = some r → ∃ b off c, vs[i]? = some (.slice (some ⟨b, off, none⟩) r.length c) ∧ zaT w (some ⟨b, off, none⟩) r.length 513 (zb3 r) ∧ b ∈ C
theorem sl_kp0 {M : List Nat} {w w' : World} {p : Option Addr} {m sz : Nat} {cs : List Value} (h : zaT w p m sz cs) (k : Kp M w w') (hM : 0 < m → ∀ b o, p = some ⟨b, o, none⟩ → b ∉ M) : zaT w' p m sz cs := by
 by_cases h0 : 0 < m
 ·exact h.kpd k (hM h0)
 ·exact ⟨h.len, h.max, fun h1 => absurd h1 (by rw [show m = 0 by omega, Nat.zero_mul]; exact Nat.lt_irrefl 0)⟩
instance (p : Option Addr) (S : List Rec) : Thing (zkc p S) :=
 ⟨fun {w w' B M} ⟨h1, vs, h2, h3, h4⟩ k hM => ⟨fun b hb => Nat.lt_of_lt_of_le (h1 b hb) k.size, vs, sl_kp0 h2 k fun h0 b o e => hM b (h3 h0 b o e), h3, fun i r hr => by
  obtain ⟨b, off, c, e1, e2, e3⟩ := h4 i r hr
  exact ⟨b, off, c, e1, e2.kpd k (fun b' o' e => by cases e; exact hM _ e3), e3⟩⟩, fun h b hb => h.1 b hb⟩
def zkd (Y Z : World → List Nat → Prop) : World → List Nat → Prop := fun w C => ∃ C1 C2, C = C1 ++ C2 ∧ Y w C1 ∧ Z w C2
instance (Y Z : World → List Nat → Prop) [hY : Thing Y] [hZ : Thing Z] : Thing (zkd Y Z) :=
 ⟨fun {w w' B M} ⟨C1, C2, e, h1, h2⟩ k hM => ⟨C1, C2, e, hY.kpd h1 k fun b hb => hM b (by rw [e]; exact List.mem_append_left _ hb), hZ.kpd h2 k fun b hb => hM b (by rw [e]; exact List.mem_append_right _ hb)⟩,
  fun {w B} ⟨C1, C2, e, h1, h2⟩ b hb => by
   rw [e] at hb
   exact (List.mem_append.1 hb).elim (hY.lt h1 b) (hZ.lt h2 b)⟩
theorem znb {X Y Z : World → List Nat → Prop} [hX : Thing X] [hY : Thing Y] {lo : Nat} {L M C : List Nat} {w w' : World} (h : Two X Y lo L w) (k : Kp M w w') (hM : ∀ b ∈ M, b < lo ∨ b ∈ L) (hz : Z w' C) (hC : ∀ b ∈ C, w.heap.size ≤ b) : Two X (zkd Y Z) lo L w' := by
 obtain ⟨⟨B, E, h1, h2, h3, h4⟩, h5, h6⟩ := h
 have hXl := fun b hb => hX.lt h1 b hb
 exact ⟨⟨B, E ++ C, hX.kpd h1 k fun b hb hm => (hM b hm).elim (fun hl => absurd (h3 b hb).1 (Nat.not_le.2 hl)) (h3 b hb).2.2,
  ⟨E, C, rfl, hY.kpd h2 k fun b hb hm => (hM b hm).elim (fun hl => absurd (h4 b hb).1 (Nat.not_le.2 hl)) (h4 b hb).2, hz⟩,
  fun b hb => ⟨(h3 b hb).1, fun hm => (List.mem_append.1 hm).elim (h3 b hb).2.1 fun hc => absurd (hXl b hb) (Nat.not_lt.2 (hC b hc)), (h3 b hb).2.2⟩,
  fun b hb => (List.mem_append.1 hb).elim (h4 b) fun hc => ⟨Nat.le_trans h5 (hC b hc), fun hm => absurd (h6 b hm) (Nat.not_lt.2 (hC b hc))⟩⟩, Nat.le_trans h5 k.size, fun b hb => Nat.lt_of_lt_of_le (h6 b hb) k.size⟩
def zlN (D : Dk) (n : Nat) : List UInt8 := ((List.range n).map fun i => zaV D (1 + i)).flatten
theorem zjb (D : Dk) (n : Nat) : zlN D (n + 1) = zlN D n ++ zaV D (1 + n) := by simp [zlN, List.range_succ]
theorem zfq {D : Dk} (h : ziO D) {i : Nat} (hi : i < D.V.length) : (zaV D i).length = 128 := zf9 (zfj h hi).2.1
def zgJ (s c k : Nat) (r : zia) : Option Rec := if r.nn = k ∧ s ≤ r.c ∧ r.c ≤ c then ofR r.b else none
def zd1 (s c : Nat) : Nat → List zia → List Rec
 | _, [] => []
 | k, r :: R => match zgJ s c k r with
  | some x => x :: zd1 s c (k + 1) R
  | none => []
def atS (S : List Rec) : Nat := (S.map fun r => zb2 (516 * r.length)).sum
def zcA (D : Dk) (G : Lg) : List Rec := zd1 G.since G.count 0 (zcy G.size (zlN D G.size) G.size)
end Go.Proofs.YtdbogkndglbffaaGreat
