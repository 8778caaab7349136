import Derived.Test.YtdbogkndglbffaaGreatM7
import Derived.Test.YtdbogkndglbffaaGreatM5
import Derived.Test.YtdbogkndglbffaaGreatM3
namespace Go.Proofs.YtdbogkndglbffaaGreat
open Go Go.RowKit Coup
section
variable {Y : World → List Nat → Prop} [hYT : Thing Y] {q jb mw N lo : Nat} {L : List Nat} {G G0 V : Nat → Pg} {k : Nat} {H : HS} {fl rl pd : List Nat} {R : Nat → Nat → Prop} {P : Nat → Nat → List Nat} {B : Nat → Nat → List UInt8} {m s : Nat} {w : World}
theorem partsH (h : JH q jb mw N G0 V k H fl Y lo L w) {c b : List UInt8} {l : List Nat} (hcl : CellIs H c b l) (p : Option Addr) (cap : Nat) (hs : zaT w p c.length 1 (bv c)) (hcap : c.length ≤ cap) (hpL : ∀ g o, p = some ⟨g, o, none⟩ → g < lo ∨ g ∈ L) :
  Calls Tryz.prog 56 [.pointer (some ⟨jb, 0, none⟩), .slice p c.length cap].toArray w (Ret fun v w' => ∃ up pb cb M, v = .tuple #[up, .slice pb b.length cb] ∧ zaT w' pb b.length 1 (bv b) ∧ b.length ≤ cb ∧ (∀ g o, pb = some ⟨g, o, none⟩ → g < lo ∨ g ∈ M ++ L) ∧
   zaB w' w.heap.size 3 1 up l.length (nv l) ∧ (∀ g ∈ up.ownBlock.toList, g ∈ M) ∧ JH q jb mw N G0 V k H fl Y lo (M ++ L) w' ∧ LoL lo L w w') := by
 rcases hcl with ⟨h1, h2, h3⟩ | ⟨x, h0, h1, h2⟩
 ·subst h2
  subst h3
  exact (partsS (.pointer (some ⟨jb, 0, none⟩)) p cap b w (by simpa using hs) (by simpa using hcap) (by omega)).to fun v w' ⟨⟨q9, c9, e, h3, h4, h5⟩, h6⟩ => ⟨_, q9, c9, [], e, h3, h4, fun g o e => (by obtain ⟨o2, e2⟩ := h5 g o e; exact hpL g o2 e2), zbI _ _ _ _, fun g hg => (by cases hg), h.new h6, LoL.of_below h6⟩
 ·subst h1
  obtain ⟨hH, G, hG, hT⟩ := h
  have e9 : (1 :: (beB 4 b.length ++ beB 4 x)).length = 9 := by rw [List.length_cons, List.length_append, zaQ, zaQ]
  rw [e9] at hs hcap ⊢
  refine (zoO hT hH.fN (h2.ok hH hG) p cap hs hcap).to fun v w' ⟨up, ub, e, h3, h4, h5, h6⟩ => ?_
  obtain ⟨pb, ob, cb, rfl, h7, h8, h9⟩ := h5.form' (by have := h2.b1; omega)
  have hfl := h2.flat
  refine ⟨up, _, cb, up.ownBlock.toList ++ (Value.slice (some ⟨pb, ob, none⟩) b.length cb).ownBlock.toList, e, ?_, h9, fun g o e2 => ?_, h4, fun g hg => by simp only [List.mem_append]; exact .inl hg, ⟨hH, G, hG, h3⟩, h6⟩
  ·have := h5.sl
   rw [hfl] at this
   exact this
  ·cases e2
   exact .inr (by simp [Value.ownBlock])
omit hYT in
theorem JH.inO {base e sz n : Nat} {v : Value} {xs : List Value} (h : JH q jb mw N G0 V k H fl Y lo (v.ownBlock.toList ++ L) w) (hv : zaB w base e sz v n xs) (hl : ∀ b ∈ v.ownBlock.toList, lo ≤ b ∧ b ∉ L) : JH q jb mw N G0 V k H fl (AddO Y e sz v n xs) lo L w := let ⟨G, h1, h2⟩ := h.ex; ⟨h.ok, G, h1, two_inO h2 hv hl⟩
set_option maxRecDepth 20000 in
theorem get55 (ga g : Nat) (h : JH q jb mw N G0 V k H fl (ze5 Y g [.slice none 0 0] 33) lo L w) (hI : HI N H fl rl R P B pd) (hr : R m s) (hx1 : row w ga [.int .i64 (m : Int), .int .i64 (s : Int)] 38) (hgL : ga ∈ L) :
  Calls Tryz.prog 55 [.pointer (some ⟨jb, 0, none⟩), .pointer (some ⟨ga, 0, none⟩), .pointer (some ⟨g, 0, none⟩)].toArray w
  (Ret fun _ w' => ∃ v, JH q jb mw N G0 V k H fl (AddO (ze5 Y g [v] 33) 5 1 v (B m s).length (bv (B m s))) lo L w' ∧ LoL lo L w w') := by
 have hLL := LoL.refl lo L w
 obtain ⟨hm, c, hc, hcl⟩ := hI.cell m s hr
 have hcn := hcl.len
 have hfi := findR h hI hr hc hcn.1
 have hlt := h.lo'
 have hnL0 := h.cell.2.2
 obtain ⟨b, hb⟩ : ∃ b, B m s = b := ⟨_, rfl⟩
 rw [hb] at hcl ⊢
 have hpa := fun p cap L' w' hs hcap hpL (h' : JH q jb mw N G0 V k H fl (ze5 Y g [.slice none 0 0] 33) lo L' w') => partsH h' hcl p cap hs hcap hpL
 have hbl : b.length ≤ 20000 := by rcases hcl with ⟨h1, _⟩ | ⟨_, _, _, h1⟩; omega; exact h1.b2
 have hml : maxLen = 9223372036854775807 := by decide
 have fun_q : ∀ gq oq : Nat, ∀ (g : Nat) (o : Nat), (some ⟨gq, oq, none⟩ : Option Addr) = some ⟨g, o, none⟩ → g < lo ∨ g ∈ oB (some ⟨gq, oq, none⟩) ++ L := fun gq oq g o e => by
  cases e
  exact .inr (by simp [oB])
 refine zas (fn := Tryz.f55) (rs := []) (n := 17) Tryz.func55 rfl rfl Tryz.ntmps55 (by kernel_rfl) rfl ?_
 refine zaf (zaa (zad (zab) (zad (zab) ?_)))
 refine zad (zaI rfl (Ld.zbX (k := 2) hx1 (by kernel_rfl) (by kernel_rfl) rfl)) ?_
 refine zao rfl (zaj (by kernel_rfl) rfl) (hfi) ?_
 rintro _ w10 ⟨qa, cc, rfl, hsq, hcc, hJ, hb10⟩
 have hx1 := hx1.kl hb10 (.inr hgL)
 replace hLL := hLL.lq hb10
 have hobt := hsq.some (by omega)
 obtain ⟨gq, oq, rfl, hgq⟩ := hobt
 refine zao rfl (zaj (by kernel_rfl) rfl) (hpa _ _ _ w10 hsq hcc (fun_q gq oq) hJ) ?_
 rintro _ w11 ⟨up, pb, cb, M, rfl, hsb, hcb, hpb, hup, hupM, hJ2, hb11⟩
 replace hLL := hLL.ll hb11 (fun b hb => by simp [hb])
 refine zad (zab) (zad (zai rfl rfl) (zad (zai rfl rfl) (zad (zac) (zad (zac) (zae (zah ?_))))))
 have hc9 := hJ2.cell
 obtain ⟨hx6, hlo6, hnL6⟩ := hc9
 have hsz := hLL.size
 have hgl := hx6.lt
 refine zaa ?_
 refine zad (zax hx6) ?_
 refine zad (zab) ?_
 refine zay rfl (zbq (e := 5) (sz := 1) (bytes := 1) (z := Value.int .u8 0) (by kernel_rfl) rfl (by kernel_rfl) rfl (by decide) rfl (zbI w11 w11.heap.size 5 1) rfl hsb (zb5 _) (by unfold maxLen; omega) (by omega) (fun _ => Nat.le_refl _) (fun v16 w16 hv16 hgr16 hfr16 => ?_))
 have hb16 := ziD hgr16
 replace hLL := hLL.new hb16
 replace hx6 := hx6.new hb16
 simp only [Nat.zero_add, List.nil_append] at hv16
 have hfm := hv16.form
 obtain ⟨p16, c16, rfl⟩ := hfm
 have hJ3 := (hJ2.addL hb16 (M := (Value.slice p16 b.length c16).ownBlock.toList) (fun b hb => hv16.lt b (Option.mem_toList.1 hb))).weak (L2 := (Value.slice p16 b.length c16).ownBlock.toList ++ L) (fun b hb => by simp only [List.mem_append] at hb ⊢; rcases hb with h | h <;> simp [h])
 have hvl := hv16.lt
 refine zaG rfl (zbg hx6 (fun w901 hx6 ho901 => ?_))
 replace hLL := hLL.oq ho901
 replace hv16 := hv16.only ho901 (by omega)
 have hJ4 := hJ3.setc hx6 ho901
 refine zae ?_
 refine zbr [] trivial ?_
 exact ⟨_, hJ4.inO hv16 fun b hb => ⟨by have := hvl b (Option.mem_toList.1 hb); omega, fun hm => by have := hvl b (Option.mem_toList.1 hb); have := hlt.2 b hm; omega⟩, hLL⟩
theorem getM (hb m s : Nat) (h : Two (GZ q N (pgH H) V k) Y lo L w) (hI : HI N H fl rl R P B pd) (hR : R m s) (hr : row w hb [.pointer (some ⟨q, 0, none⟩)] 50) (hbL : hb < lo ∨ hb ∈ L) :
  Calls Tryz.prog 17 [.pointer (some ⟨hb, 0, none⟩), .agg #[.int .i64 (m : Int), .int .i64 (s : Int)]].toArray w (Ret fun v w' => ∃ p c, v = .tuple #[.slice p (B m s).length c, .int .i64 0] ∧ zaB w' lo 5 1 (.slice p (B m s).length c) (B m s).length (bv (B m s)) ∧ Two (GZ q N (pgH H) V k) Y lo ((Value.slice p (B m s).length c).ownBlock.toList ++ L) w' ∧ LoL lo L w w') := by
 have hLL := LoL.refl lo L w
 have hrun : ∀ ga g W L2, ga ∈ L2 → row W hb [.pointer (some ⟨q, 0, none⟩)] 50 → row W ga [.int .i64 (m : Int), .int .i64 (s : Int)] 38 → Two (GZ q N (pgH H) V k) (ze5 Y g [.slice none 0 0] 33) lo L2 W → Calls Tryz.prog 34 [.pointer (some ⟨hb, 0, none⟩), .func (.func 55) #[] [.pointer (some ⟨ga, 0, none⟩), .pointer (some ⟨g, 0, none⟩)].toArray].toArray W
   (Ret fun v w' => v = .int .i64 0 ∧ LoL lo L2 W w' ∧ ∃ u, Two (GZ q N (pgH H) V k) (AddO (ze5 Y g [u] 33) 5 1 u (B m s).length (bv (B m s))) lo L2 w') := fun ga g W L2 hga hr hra h => by
  refine (run34 hb h hI.ok hr 55 [.pointer (some ⟨ga, 0, none⟩), .pointer (some ⟨g, 0, none⟩)] (by kernel_rfl) (fun H' fl' Y' => H' = H ∧ ∃ u, Y' = AddO (ze5 Y g [u] 33) 5 1 u (B m s).length (bv (B m s)))
   (fun e Y' => False) (fun H' fl' Y' ⟨_, _, e⟩ => by subst e; infer_instance) (fun e Y' h => h.elim) (fun H' fl' Y' ⟨e, _⟩ => by rw [e]; exact Nat.le_refl _) fun jb mw L' w' hs2 hl hJ => ?_).to fun v w' h => ?_
  ·exact (get55 ga g hJ hI hR (hra.kl hl (.inr hga)) (hs2 ga hga)).toP fun v w2 ⟨u, h2, h3⟩ => ⟨H, fl, _, ⟨rfl, u, rfl⟩, h2, h3⟩
  ·rcases h with ⟨H', fl', Y', ⟨rfl, u, rfl⟩, h4, h3, h5, h6⟩ | ⟨e, Y', h, _⟩
   ·exact ⟨h3, h6, u, h5⟩
   ·exact h.elim
 refine zas (fn := Tryz.f17) (rs := [.tmp 4, .tmp 5]) (n := 13) Tryz.func17 rfl rfl Tryz.ntmps17 (by kernel_rfl) rfl ?_
 refine zaf (zaa ?_)
 refine zay rfl (zaU ([.int .i64 (m : Int), .int .i64 (s : Int)]) rfl (fun g3 w3 hg3 hr3 hb3 => ?_))
 replace hLL := hLL.new hb3
 replace hr := hr.new hb3
 replace h := h.newc hb3 hg3 hr3.lt
 refine zad (zac) (zad (zac) (zae (zah (zaf (zaa ?_)))))
 have hp6 := h
 refine zay rfl (zar ([Value.slice none 0 0]) (by kernel_rfl) (fun g6 w6 hg6 hr6 hb6 => ?_))
 replace hLL := hLL.new hb6
 replace hr := hr.new hb6
 replace hr3 := hr3.new hb6
 have h6 := zkv hp6 hb6 hr6 hg6
 have hl3 := hr3.lt
 refine zae (zah (zaf (zaa (zad (zab) (zad (zaW) ?_)))))
 refine zao rfl (zaj (by kernel_rfl) rfl) (hrun g3 g6 w6 (g3 :: L) (by simp) hr hr3 h6) ?_
 rintro _ w10 ⟨rfl, hb10, u, h7⟩
 replace hLL := hLL.ll hb10 (fun b hb => by simp [hb])
 refine zad (zac) (zae (zah (zaf ?_)))
 have hout := zoZ h7
 obtain ⟨h8, hu⟩ := hout
 have hc := zfy h8
 obtain ⟨hx6, hlo6, hnL6⟩ := hc
 obtain ⟨pu, cu, rfl⟩ := hu.form
 refine zaa ?_
 refine zad (zax hx6) ?_
 refine zad (zab) (zad (zac) (zad (zac) (zae (zah (zaz ?_)))))
 refine zam [_, _] ⟨rfl, rfl, trivial⟩ ?_
 exact ⟨pu, cu, rfl, hu, (zge h8).weak fun b hb => by simp only [List.mem_cons, List.mem_append] at hb ⊢; rcases hb with h | h <;> simp [h], hLL⟩
end
def F0 : Fst := ⟨1, 0, 0, 0, 0⟩
def H0 : HS := ⟨F0, fun _ => zdo 0⟩
theorem H0_ok {N : Nat} (h : 1 ≤ N) : HOk N H0 [] := ⟨Nat.le_refl _, h, (fun n h1 h2 => by have h3 : n < 1 := h2; omega), rfl, (fun n hn => by cases hn), List.nodup_nil, rfl, (by show 0 < 1; omega), (by show 0 < N; omega)⟩
theorem H0_in {N : Nat} (h : 1 ≤ N) : HI N H0 [] [] (fun _ _ => False) (fun _ _ => []) (fun _ _ => []) [] :=
 ⟨H0_ok h, ⟨rfl, (fun m hm => by cases hm), List.nodup_nil⟩, (fun m s h => h.elim), (fun m s m' s' n h => h.elim), (fun n hn => by cases hn), (fun n h1 h2 => by have h3 : n < 1 := h2; omega), (fun n h1 h2 => by have h3 : n < 1 := h2; omega), fun n h1 h2 => by have h3 : n < 1 := h2; omega⟩
theorem zkx : Full H0 [] (fun _ _ => False) := fun m hm => by cases hm
theorem pg0 (n : Nat) : zfv (fun _ => zbl) 0 (zaD (zcB F0)) n = pgH H0 n := by
 unfold zfv pgH
 split
 ·rfl
 ·rw [if_neg (by show ¬ n < 1; omega)]
section
variable {Y : World → List Nat → Prop} [hYT : Thing Y] {q N lo : Nat} {L : List Nat} {G V : Nat → Pg} {k : Nat} {H : HS} {fl : List Nat} {w : World}
set_option maxRecDepth 20000 in
theorem formatH (h : Two (GZ q N (fun _ => zbl) V k) Y lo L w) : Calls Tryz.prog 24 [.pointer (some ⟨q, 0, none⟩)].toArray w (Ret fun v w' => v = .int .i64 0 ∧ Two (GZ q N (pgH H0) V k) Y lo L w' ∧ LoL lo L w w') := by
 have hg := zii h
 have hpg := fun w' => zlg F0 w'
 have hl := zbv (zcB F0) (zdk F0).size
 have hpu := fun L' w' (h' : Two (GZ q N (fun _ => zbl) V k) Y lo L' w') => (gPut h' 0 (by omega) hl).to fun v w2 ⟨h1, h2, h3⟩ => (show v = Value.int .i64 0 ∧ Two (GZ q N (pgH H0) V k) Y lo L' w2 ∧ LoL lo L' w' w2 from ⟨h1, zgY h2 fun _ hB => GZ.congr hB fun n _ => pg0 n, h3⟩)
 have hLL := LoL.refl lo L w
 obtain ⟨Q, hQ⟩ : ∃ Q, zaD (zcB F0) = Q := ⟨_, rfl⟩
 simp only [hQ] at hpg hpu
 refine zas (fn := Tryz.f24) (rs := [.tmp 2]) (n := 7) Tryz.func24 rfl rfl Tryz.ntmps24 (by kernel_rfl) rfl ?_
 refine zaf (zaa (zad (zac) (zae (zah (zaf (zaa (zad (zab) ?_)))))))
 refine zad (zee (.int .i64 1) (zfA F0) rfl (by kernel_rfl)) ?_
 refine zao rfl (zaj (by kernel_rfl) rfl) (hpg w) ?_
 rintro _ w5 ⟨rfl, hb5⟩
 replace hLL := hLL.new hb5
 replace h := h.new hb5
 refine zao rfl (zaj (by kernel_rfl) rfl) (hpu _ w5 h) ?_
 rintro _ w6 ⟨rfl, h, hb6⟩
 replace hLL := hLL.lq hb6
 refine zad (zac) (zae (zah (zaz ?_)))
 refine zam [_] ⟨rfl, trivial⟩ ?_
 exact ⟨rfl, h, hLL⟩
set_option maxRecDepth 20000 in
theorem open65 (a : Value) (w : World) : Calls Tryz.prog 65 [a].toArray w (Ret fun _ w' => w = w') := by
 refine zas (fn := Tryz.f65) (rs := []) (n := 2) Tryz.func65 rfl rfl Tryz.ntmps65 (by kernel_rfl) rfl ?_
 refine zau ?_
 refine zbr [] trivial ?_
 exact rfl
set_option maxRecDepth 20000 in
theorem openH (h : Two (GZ q N (pgH H) V k) Y lo L w) (hH : HOk N H fl) : Calls Tryz.prog 22 [.pointer (some ⟨q, 0, none⟩)].toArray w (Ret fun v w' => ∃ hb, v = .tuple #[.pointer (some ⟨hb, 0, none⟩), .int .i64 0] ∧ row w' hb [.pointer (some ⟨q, 0, none⟩)] 50 ∧ w.heap.size ≤ hb ∧ Two (GZ q N (pgH H) V k) Y lo (hb :: L) w' ∧ LoL lo L w w') := by
 have hLL := LoL.refl lo L w
 have hrun : Calls Tryz.prog 64 [.pointer (some ⟨q, 0, none⟩), .func (.func 65) #[] ([] : List Value).toArray].toArray w (Ret fun v w' => v = .int .i64 0 ∧ Two (GZ q N (pgH H) V k) Y lo L w' ∧ LoL lo L w w') := by
  refine (run64 h hH.hr 65 [] (by kernel_rfl) (fun H' fl' Y' => H' = H ∧ Y' = Y) (fun e Y' => False)
   (fun H' fl' Y' ⟨_, e⟩ => by subst e; infer_instance) (fun e Y' h => h.elim) (fun H' fl' Y' ⟨e, _⟩ => by rw [e]; exact Nat.le_refl _) fun jb mw L' w' hs hl hJ => ?_).to fun v w' h => ?_
  ·exact (open65 _ w').toP fun v w2 e => by subst e; exact ⟨H, fl, Y, ⟨rfl, rfl⟩, hJ, LoL.refl _ _ _⟩
  ·rcases h with ⟨H', fl', Y', G', ⟨rfl, rfl⟩, h3, h4, h5, h6⟩ | ⟨e, Y', h, _⟩
   ·exact ⟨h3, h4.two h5, h6⟩
   ·exact h.elim
 refine zas (fn := Tryz.f22) (rs := [.tmp 2, .tmp 3]) (n := 13) Tryz.func22 rfl rfl Tryz.ntmps22 (by kernel_rfl) rfl ?_
 refine zaf (zaa (zad (zac) (zad (zac) (zae (zah (zaf (zaf (zaa (zad (zab) ?_)))))))))
 refine zao rfl (zaj (by kernel_rfl) rfl) (hrun) ?_
 rintro _ w6 ⟨rfl, h, hb6⟩
 replace hLL := hLL.lq hb6
 refine zad (zac) (zae (zah (zaf (zaa (zad (zab) ?_)))))
 refine zad (zaM rfl rfl) ?_
 refine zae (zah ?_)
 refine zcL rfl ((by decide)) ?_
 refine zau (zah (zaf (zaa (zad (zab) ?_))))
 refine zad (zee (.pointer (some ⟨q, 0, none⟩)) [.pointer (some ⟨q, 0, none⟩)] rfl (by kernel_rfl)) ?_
 refine zay rfl (zaU ([.pointer (some ⟨q, 0, none⟩)]) rfl (fun g12 w12 hg12 hr12 hb12 => ?_))
 have sz_g12 := hLL.size
 replace hLL := hLL.new hb12
 replace h := h.newc hb12 hg12 hr12.lt
 refine zad (zac) (zad (zac) (zae (zah (zaz ?_))))
 refine zam [_, _] ⟨rfl, rfl, trivial⟩ ?_
 exact ⟨g12, rfl, hr12, by have := hLL.size; omega, h, hLL⟩
set_option maxRecDepth 20000 in
set_option maxHeartbeats 1000000 in
theorem begun8 (h : Two Y None lo L w) (pages : Nat) (hp4 : 4 ≤ pages) (hp : pages ≤ 400) :
  Calls Tryz.prog 8 [.int .i64 (pages : Int)].toArray w (Ret fun v w' => ∃ q hb, v = .tuple #[.pointer (some ⟨q, 0, none⟩), .pointer (some ⟨hb, 0, none⟩), .bool true] ∧ Two (GZ q pages (pgH H0) (fun _ => zbl) 2) Y lo (hb :: L) w' ∧ row w' hb [.pointer (some ⟨q, 0, none⟩)] 50 ∧ w.heap.size ≤ hb ∧ LoL lo L w w') := by
 have hLL := LoL.refl lo L w
 have hN := newC (w := w) (1 + 400 + 4 * pages) (by omega) (by omega)
 rw [show ((1 + 400 + 4 * pages : Nat) : Int) = 401 + 4 * (pages : Int) by omega] at hN
 have hfm := fun g w' (h' : Two (DZ g (zg2 (1 + 400 + 4 * pages))) Y lo L w') => formatP h' 400 ⟨by omega, by omega⟩ ((ziV (n := 1 + 400 + 4 * pages) (by omega)).weak (by omega))
 have hcn := cnt_fr (pages := pages) (s := 400) (by omega) (by omega)
 have hcn2 : zfZ (1 + 400 + 4 * pages) 400 = pages := hcn
 simp only [zey, show Int.toNat 400 = 400 from rfl, hcn2, if_neg (show ¬ pages < 4 by omega)] at hfm
 obtain ⟨a1, a2, a3⟩ := zif (pages := pages) (s := 400) (by omega) (by omega) (by omega)
 obtain ⟨b1, b2, b3, b4⟩ := zk8 (pages := pages) (s := 400) (by omega) (by omega) (by omega)
 obtain ⟨c1, c2⟩ := zoI (pages := pages) (s := 400) 20 (by omega) (by omega) (by omega)
 have hpn : (frP pages 400 20).n = pages := (zkk (pages := pages) (s := 400) 20 (by omega) (by omega) (by omega)).2.2.1
 have hPG : PG (frP pages 400 20) pages (fun _ => zbl) (fun _ => zbl) 2 := ⟨frP_inv (by omega) (by omega) (by omega) (by omega) (by omega) (by omega), hpn, fun n hn => rfl, rfl⟩
 have hop := fun g w' (h' : Two (DZ g (frD pages 400)) Y lo L w') => (openOk h' 400 20 (by rw [a2, hcn]; omega) ⟨by omega, by omega⟩ b1 (zbY a1.short (by omega)) c1).to fun v w'' ⟨hh, k⟩ => (show (∃ q, v = Value.tuple #[Value.pointer (some ⟨q, 0, none⟩), Value.int .i64 0] ∧ Two (GZ q pages (fun _ => zbl) (fun _ => zbl) 2) Y lo L w'') ∧ LoL lo L w' w'' from by
  rw [c2] at hh
  rcases hh with ⟨h1, _⟩ | ⟨_, x, q, mc, md, cv, e, hP⟩
  ·exact absurd rfl h1
  ·exact ⟨⟨q, e, zkq hPG (zk1 hP)⟩, k⟩)
 have hfe : fmtD (zpD (zg2 (1 + 400 + 4 * pages)) 400 pages) 400 = frD pages 400 := rfl
 rw [hfe] at hfm
 generalize frD pages 400 = D1 at *
 have hfo := fun q w' (h' : Two (GZ q pages (fun _ => zbl) (fun _ => zbl) 2) Y lo L w') => formatH h'
 have hoh := fun q w' (h' : Two (GZ q pages (pgH H0) (fun _ => zbl) 2) Y lo L w') => openH h' (H0_ok (by omega))
 refine zas (fn := Tryz.f8) (rs := [.tmp 2, .tmp 3, .tmp 4]) (n := 46) Tryz.func8 rfl rfl Tryz.ntmps8 (by kernel_rfl) rfl ?_
 refine zaf (zaa (zad (zac) (zad (zac) (zad (zac) (zae (zah (zaf (zaa (zad (zab) ?_)))))))))
 refine zad (zc1 rfl rfl (Coup.w64 (by omega))) ?_
 refine zad (zaN rfl rfl (Coup.w64 (by omega))) ?_
 refine zao rfl (zaj (by kernel_rfl) rfl) (hN) ?_
 rintro _ w15 ⟨g, B, rfl, hX, hBf, hb15⟩
 have hT := (h.add (Y := DZ g (zg2 (1 + 400 + 4 * pages))) hb15 hX hBf).swap
 replace hLL := hLL.new hb15
 refine zad (zab) (zad (zai rfl rfl) (zad (zai rfl rfl) (zad (zac) (zad (zac) (zae (zah (zaf (zaf (zaa (zad (zab) ?_))))))))))
 refine zad (zaM rfl rfl) ?_
 refine zad (zab) ?_
 refine zdc 20 rfl ((by simp)) ?_
 refine zan rfl (zad (zab) (zan rfl ?_))
 refine zao rfl (zaj (by kernel_rfl) rfl) (hfm g w15 hT) ?_
 rintro _ w22 ⟨rfl, hT, hb22⟩
 replace hLL := hLL.lq hb22
 refine zan rfl ?_
 refine zad (zaM rfl rfl) ?_
 refine zad (zaw rfl) (zae (zah ?_))
 refine zcL rfl ((by simp)) ?_
 refine zau (zah (zaf (zaa (zad (zab) ?_))))
 refine zao rfl (zaj (by kernel_rfl) rfl) (hop g w22 hT) ?_
 rintro _ w27 ⟨⟨q, rfl, hP⟩, hb27⟩
 replace hLL := hLL.lq hb27
 refine zad (zab) (zad (zai rfl rfl) (zad (zai rfl rfl) (zad (zac) (zad (zac) (zae (zah (zaf (zaf (zaa (zad (zab) ?_))))))))))
 refine zad (zaM rfl rfl) ?_
 refine zad (zab) ?_
 refine zdc 32 rfl ((by simp)) ?_
 refine zan rfl (zad (zab) (zan rfl ?_))
 refine zao rfl (zaj (by kernel_rfl) rfl) (hfo q w27 hP) ?_
 rintro _ w34 ⟨rfl, hP, hb34⟩
 replace hLL := hLL.lq hb34
 refine zan rfl ?_
 refine zad (zaM rfl rfl) ?_
 refine zad (zaw rfl) (zae (zah ?_))
 refine zcL rfl ((by simp)) ?_
 refine zau (zah (zaf (zaa (zad (zab) ?_))))
 have hsz := hLL.size
 refine zao rfl (zaj (by kernel_rfl) rfl) (hoh q w34 hP) ?_
 rintro _ w39 ⟨hb, rfl, hrb, hsb, hPh, hb39⟩
 replace hLL := hLL.lq hb39
 refine zad (zab) (zad (zai rfl rfl) (zad (zai rfl rfl) (zad (zac) (zad (zac) (zae (zah (zaf (zaa (zad (zab) (zad (zab) (zad (zab) ?_)))))))))))
 refine zad (za9 rfl rfl) ?_
 refine zad (zac) (zad (zac) (zad (zac) (zae (zah (zaz ?_)))))
 refine zam [_, _, _] ⟨rfl, rfl, rfl, trivial⟩ ?_
 exact ⟨q, hb, rfl, hPh, hrb, by omega, hLL⟩
end
theorem znT (b : List UInt8) (hb : b.length = 1000) : ∃ H4, ziq 5 b H0 [] = some (4, 0, H4) ∧ zkw 5 H4 = 0 := by
 have h3 : (b.length + 399) / 400 = 3 := by omega
 unfold ziq cellS
 rw [if_neg (by omega), h3]
 exact ⟨_, rfl, rfl⟩
set_option maxRecDepth 20000 in
set_option maxHeartbeats 2000000 in
theorem known7 (w : World) : Calls Tryz.prog 7 [].toArray w (Ret fun v w' => v = .bool true ∧ Below w.heap.size w w') := by
 have hLL := LoL.refl w.heap.size [] w
 have hml : maxLen = 9223372036854775807 := by decide
 have hN0 : Two None None w.heap.size [] w := ⟨⟨[], [], rfl, rfl, (fun b hb => nomatch hb), fun b hb => nomatch hb⟩, Nat.le_refl _, fun b hb => nomatch hb⟩
 have hbg := begun8 hN0 5 (by omega) (by omega)
 obtain ⟨b, hbe⟩ : ∃ b, (zaY 1000).set 999 (7 : UInt8) = b := ⟨_, rfl⟩
 have hbl : b.length = 1000 := by rw [← hbe, List.length_set]; simp [zaY]
 have hbv : (bv (zaY 1000)).set 999 (.int .u8 7) = bv b := by rw [← hbe]; exact zbM (b := 7) (by simp [zaY])
 obtain ⟨H4, hl4, hr4⟩ := znT b hbl
 obtain ⟨fl4, rl4, l4, hI4, hF4, -, -⟩ := (H0_in (N := 5) (by omega)).ziq (by omega) zkx (by omega) hl4
 have hB4 : up2 (fun _ _ => ([] : List UInt8)) 4 0 b 4 0 = b := zeE ..
 have hR4 : zl3 (fun _ _ => False) 4 0 4 0 := .inr ⟨rfl, rfl⟩
 have hrm0 := fun q hb w' (h : Two (GZ q 5 (pgH H0) (fun _ => zbl) 2) None w.heap.size [hb] w') hr => roomM hb h (H0_ok (by omega)) hr (.inr (by simp))
 rw [show ((zkw 5 H0 : Nat) : Int) = 4 from rfl] at hrm0
 have hly := fun q hb L' p cap w' (h : Two (GZ q 5 (pgH H0) (fun _ => zbl) 2) None w.heap.size L' w') hr hbL hs hcap hpL => (layM hb p cap b h (H0_in (by omega)) zkx hr hbL hs hcap hpL).to fun v w2 ⟨h1, h2⟩ => (show v = Value.tuple #[.agg #[.int .i64 4, .int .i64 0], .int .i64 0] ∧ Two (GZ q 5 (pgH H4) (fun _ => zbl) 2) None w.heap.size L' w2 ∧ LoL w.heap.size L' w' w2 from by
  rcases h1 with ⟨h1, _⟩ | ⟨_, h1, _⟩ | ⟨_, m, s, H', h1, h3, h4⟩
  ·omega
  ·rw [hl4] at h1; cases h1
  ·rw [hl4] at h1
   cases h1
   exact ⟨h3, h4, h2⟩)
 have hge := fun q hb L' w' (h : Two (GZ q 5 (pgH H4) (fun _ => zbl) 2) None w.heap.size L' w') hr hbL => getM hb 4 0 h hI4 hR4 hr hbL
 have hrm4 := fun q hb L' w' (h : Two (GZ q 5 (pgH H4) (fun _ => zbl) 2) None w.heap.size L' w') hr hbL => roomM hb h hI4.ok hr hbL
 rw [hr4] at hrm4
 simp only [hB4] at hge
 rw [hbl] at hly hge
 have hnd := fun w' => zgS 1000 w'
 rw [show ((zko 1000 : Nat) : Int) = 3 from rfl] at hnd
 clear hI4 hF4 hR4 hB4
 have hp21 : ∀ g h : Nat, ∀ c o, (some ⟨g, 0, none⟩ : Option Addr) = some ⟨c, o, none⟩ → c < w.heap.size ∨ c ∈ [g, h] := fun g h c o e => by cases e; exact .inr (by simp)
 generalize pgH H4 = P4 at *
 generalize pgH H0 = P0 at *
 refine zas (fn := Tryz.f7) (rs := [.tmp 0]) (n := 58) Tryz.func7 rfl rfl Tryz.ntmps7 (by kernel_rfl) rfl ?_
 refine zaf (zaa (zad (zac) (zae (zah (zaf (zaa ?_))))))
 refine zao rfl (zaj (by kernel_rfl) rfl) (hbg) ?_
 rintro _ w10 ⟨q, hb, rfl, hT, hrb, hsb, hb10⟩
 replace hLL := hLL.lq hb10
 refine zad (zab) (zad (zai rfl rfl) (zad (zai rfl rfl) (zad (zai rfl rfl) (zad (zac) (zad (zac) (zad (zac) (zae (zah (zaf (zaf (zaa ?_)))))))))))
 refine zad (zab) ?_
 refine zad (zbS rfl) ?_
 refine zad (zab) ?_
 refine zkC 16 rfl ((by simp)) ?_
 refine zan rfl (zad (zab) (zan rfl ?_))
 refine zao rfl (zaj (by kernel_rfl) rfl) (hrm0 q hb w10 hT hrb) ?_
 rintro _ w18 ⟨rfl, hT, hb18⟩
 replace hLL := hLL.lq hb18
 replace hrb := hrb.kpd hb18.kp (by first | (refine zaq ?_; left; omega) | (refine zaq ?_; right; simp; done) | (intro b o e; cases e; first | (refine zaq ?_; left; omega) | (refine zaq ?_; right; simp; done) | (refine zaq ?_; right; simp [*]; done)) | (intro b hb; refine zaq ?_; left; omega) | (intro b hb e; cases e; exact zaq (by right; simp [*]) hb))
 refine zan rfl ?_
 refine zad (zaM rfl rfl) ?_
 refine zad (zaw rfl) (zae (zah ?_))
 refine zcL rfl ((by simp)) ?_
 refine zau (zah (zaf (zaa ?_)))
 refine zay rfl (zjS (e := 5) 1000 [zdm 0] 1 1 (zdm 0) (by kernel_rfl) (by kernel_rfl) ⟨_, rfl, rfl⟩ ⟨_, rfl, rfl⟩ (by simp) (by simp) (by omega) (by omega) (fun g21 w21 hg21 hr21 hb21 => ?_))
 have lt_hb_g21 : hb < g21 := Nat.lt_of_lt_of_le hrb.lt hg21
 replace hLL := hLL.new hb21
 replace hT := hT.newc hb21 hg21 hr21.lt
 replace hrb := hrb.new hb21
 rw [show List.replicate (1000 * 1) (zdm 0) = bv (zaY 1000) by rw [zh4, Nat.mul_one]] at hr21
 have hzl : (bv (zaY 1000)).length = 1000 := by simp [zal, zaY]
 refine zad (zac) (zae (zah (zaf (zaa (zad (zab) ?_)))))
 refine zad (zaX (e := 5) (by kernel_rfl) rfl rfl (999) (by omega) (by omega)) ?_
 refine zaG rfl (zbg hr21 (fun w901 hr21 ho901 => ?_))
 replace hLL := hLL.oq ho901
 replace hT := hT.only ho901 (by first | (right; simp; done) | (left; omega) | (right; simp [*]; done))
 replace hrb := hrb.only ho901 (Nat.ne_of_lt lt_hb_g21)
 replace hr21 : row w901 g21 ((bv (zaY 1000)).set 999 (.int .u8 7)) 5 := hr21
 rw [hbv] at hr21
 have hlb : (bv b).length = 1000 * 1 := by rw [zal, hbl]
 refine zae (zah (zaf (zaa (zad (zab) (zad (zab) ?_)))))
 have hs27 := hr21.slA (m := 1000) (sz := 1) hlb (by omega)
 refine zao rfl (zaj (by kernel_rfl) rfl) (hly q hb _ _ _ w901 hT hrb (.inr (by simp)) hs27 (Nat.le_refl _) (hp21 g21 hb)) ?_
 rintro _ w27 ⟨rfl, hT2, hb27⟩
 replace hLL := hLL.lq hb27
 replace hrb := hrb.kpd hb27.kp (by first | (refine zaq ?_; left; omega) | (refine zaq ?_; right; simp; done) | (intro b o e; cases e; first | (refine zaq ?_; left; omega) | (refine zaq ?_; right; simp; done) | (refine zaq ?_; right; simp [*]; done)) | (intro b hb; refine zaq ?_; left; omega) | (intro b hb e; cases e; exact zaq (by right; simp [*]) hb))
 replace hr21 := hr21.kl hb27
 refine zad (zab) (zad (zai rfl rfl) (zad (zai rfl rfl) ?_))
 refine zay rfl (zar ([Value.int .i64 0, Value.int .i64 0]) (by kernel_rfl) (fun g5 w5 hg5 hr5 hb5 => ?_))
 have lt_hb_g5 : hb < g5 := Nat.lt_of_lt_of_le hrb.lt hg5
 have lt_g21_g5 : g21 < g5 := Nat.lt_of_lt_of_le hr21.lt hg5
 replace hLL := hLL.new hb5
 replace hrb := hrb.new hb5
 replace hr21 := hr21.new hb5
 replace hT2 := hT2.newc hb5 hg5 hr5.lt
 refine zaG rfl (zaO 2 ([.int .i64 4, .int .i64 0]) hr5 (fun w902 hr5 ho902 => ?_))
 replace hLL := hLL.oq ho902
 replace hrb := hrb.only ho902 (Nat.ne_of_lt lt_hb_g5)
 replace hr21 := hr21.only ho902 (Nat.ne_of_lt lt_g21_g5)
 replace hT2 := hT2.only ho902 (by first | (right; simp; done) | (left; omega) | (right; simp [*]; done))
 refine zad (zac) (zae (zah (zaf (zaa (zad (zab) ?_)))))
 refine zad (zaI rfl (Ld.zbX (k := 2) hr5 (by kernel_rfl) (by kernel_rfl) rfl)) ?_
 refine zao rfl (zaj (by kernel_rfl) rfl) (hge q hb _ w902 hT2 hrb (.inr (by simp))) ?_
 rintro _ w33 ⟨pc, cc, rfl, hoc, hT3, hb33⟩
 replace hLL := hLL.lq hb33
 replace hrb := hrb.kpd hb33.kp (by first | (refine zaq ?_; left; omega) | (refine zaq ?_; right; simp; done) | (intro b o e; cases e; first | (refine zaq ?_; left; omega) | (refine zaq ?_; right; simp; done) | (refine zaq ?_; right; simp [*]; done)) | (intro b hb; refine zaq ?_; left; omega) | (intro b hb e; cases e; exact zaq (by right; simp [*]) hb))
 replace hr21 := hr21.kl hb33
 refine zad (zab) (zad (zai rfl rfl) (zad (zai rfl rfl) (zad (zac) (zad (zac) (zae (zah (zaf ?_)))))))
 have hs45 := hr21.slA (m := 1000) (sz := 1) hlb (by omega)
 refine zaa (zad (zab) ?_)
 refine zad (za9 rfl rfl) ?_
 refine zad (zab) ?_
 refine zdz 38 rfl (rfl) ?_
 refine zan rfl (zad (zab) (zan rfl ?_))
 refine zad (za9 rfl rfl) ?_
 refine zad (zaA rfl) (zad (zab) ?_)
 refine zdz 42 rfl (rfl) ?_
 refine zan rfl (zad (zab) (zan rfl ?_))
 refine zad (rn_str (e := 5) (l := b) (by kernel_rfl) (by kernel_rfl) (by kernel_rfl) rfl hoc.sl) ?_
 refine zan rfl (zad (zab) (zan rfl ?_))
 refine zad (rn_str (e := 5) (l := b) (by kernel_rfl) (by kernel_rfl) (by kernel_rfl) rfl hs45) ?_
 refine zan rfl ?_
 refine zad (rn_eqlS rfl rfl) ?_
 refine zad (zaA rfl) (zad (zab) ?_)
 refine zdz 49 rfl (rfl) ?_
 refine zan rfl (zad (zab) (zan rfl ?_))
 refine zao rfl (zaj (by kernel_rfl) rfl) (hrm4 q hb _ w33 hT3 hrb (.inr (by simp))) ?_
 rintro _ w51 ⟨rfl, hT3, hb51⟩
 replace hLL := hLL.lq hb51
 refine zan rfl ?_
 refine zad (za9 rfl rfl) ?_
 refine zad (zaA rfl) (zad (zab) ?_)
 refine zdz 54 rfl (rfl) ?_
 refine zan rfl ?_
 refine zao rfl (zaj (by kernel_rfl) rfl) (hnd w51) ?_
 rintro _ _ ⟨rfl, rfl⟩
 refine zan rfl ?_
 refine zad (za9 rfl rfl) ?_
 refine zad (zaA rfl) (zad (zac) (zae (zah (zaz ?_))))
 refine zam [_] ⟨rfl, trivial⟩ ?_
 exact ⟨rfl, ziU (Below.refl _ _) hLL (Nat.le_refl _)⟩
end Go.Proofs.YtdbogkndglbffaaGreat
namespace Coup
open Go Go.RowKit
structure zhe (w : World) (ds : List Nat) : Prop where
 d : ∀ D ∈ ds, w.heap[D]? = some (.deferred (some []))
 nd : ds.Nodup
namespace zhe
variable {w w' : World} {ds : List Nat}
theorem nil (w : World) : zhe w [] := ⟨(fun _ h => nomatch h), List.nodup_nil⟩
theorem lt (h : zhe w ds) : ∀ D ∈ ds, D < w.heap.size := fun D hD => (Array.getElem?_eq_some_iff.1 (h.d D hD)).1
theorem kpd {M : List Nat} (h : zhe w ds) (k : Kp M w w') (hM : ∀ D ∈ ds, D ∉ M) : zhe w' ds := ⟨fun D hD => (k.block D (h.lt D hD) (hM D hD)).trans (h.d D hD), h.nd⟩
theorem new (h : zhe w ds) (hb : Below w.heap.size w w') : zhe w' ds := h.kpd (M := []) (Kp.of_below hb) fun _ _ h => nomatch h
theorem only {g : Nat} (h : zhe w ds) (ho : Only g w w') (hg : g ∉ ds) : zhe w' ds := h.kpd (Kp.za7 ho) fun D hD hm => hg (List.mem_singleton.1 hm ▸ hD)
theorem cons {D : Nat} (h : zhe w ds) (hd : w.heap[D]? = some (.deferred (some []))) (hn : D ∉ ds) : zhe w (D :: ds) := ⟨fun E hE => (List.mem_cons.1 hE).elim (fun e => e ▸ hd) (h.d E), List.nodup_cons.2 ⟨hn, h.nd⟩⟩
theorem soft {B : Nat} (h : zhe w ds) (k : zds B w w') (hB : ∀ D ∈ ds, D < B) : zhe w' ds := ⟨fun D hD => by
 rcases k.block D (h.lt D hD) with e | ⟨e, _⟩
 ·rw [e]; exact h.d D hD
 ·have := hB D hD; omega, h.nd⟩
end zhe
def dms (ds : List Nat) : List Dm := ds.map Dm.m
section
variable {md : Option Nat → Prop} {P : Program} {n : Nat} {Q : Post} {ρ : Env} {w : World}
theorem W_loopM {c : Code} {α : Type} (k0 : α) (ms : α → List Dm) (L : α → List (Nat × Value)) (I : α → World → Prop) (m : α → Nat) (hs : SlM (ms k0) ρ (L k0)) (hI : I k0 w)
  (round : ∀ k (f : Nat → Value) w', I k w' → W md P n c (zjJ (fun ρ'' w'' => ∃ k', m k' < m k ∧ SlM (ms k') ρ'' (L k') ∧ I k' w'') Q) (ups ⟨f, ms k⟩ (L k)) w') : W md P n (.loop c) Q ρ w := by
 intro hc rd a hmd ha
 refine zfR (fun k a2 w2 => ∃ ρ2, Ag n a2 ρ2 ∧ SlM (ms k) ρ2 (L k) ∧ I k w2) m k0 ⟨ρ, ha, hs, hI⟩ ?_
 rintro k a2 w2 ⟨ρ2, h2, hs2, hI2⟩
 have he := SlM.env hs2
 have := round k ρ2.f w2 hI2 hc rd a2 hmd (by rw [← he]; exact h2)
 refine wpIn_mono this ?_
 rintro e a3 w3 ⟨ρ3, h3, hq⟩
 cases e with
 | normal =>
  obtain ⟨k', hlt, hs3, hI3⟩ := hq
  exact ⟨k', hlt, ρ3, h3, hs3, hI3⟩
 | _ => exact ⟨ρ3, h3, hq⟩
theorem zgZ {rs : List ResultVar} {R : Value → World → Prop} : ∀ {ds : List Nat} {w : World}, zhe w ds → (∀ w', Kp ds w w' → ∃ vs, zg5 P w' ρ rs vs ∧ R (pack vs) w') → zfb P rs R ρ (dms ds) w
 | [], w, _, h => h w (Kp.refl _ _)
 | D :: ds, w, hm, h => by
  have hnd := List.nodup_cons.1 hm.nd
  have ho : Only D w (w.putObj D (.deferred none)) := zcK _
  have hm2 : zhe (w.putObj D (.deferred none)) ds := (show zhe w ds from ⟨fun E hE => hm.d E (List.mem_cons_of_mem _ hE), hnd.2⟩).only ho hnd.1
  refine ⟨hm.d D (by simp), zgZ hm2 fun w' hk => h w' ?_⟩
  exact ((Kp.za7 ho).weak fun k _ hk => by rw [List.mem_singleton.1 hk]; simp).trans (hk.weak fun k _ hk => by simp [hk])
theorem znU {rs : List ResultVar} {R : Value → World → Prop} (ds : List Nat) (hm : zhe w ds) (hms : ρ.ms = dms ds) (h : ∀ w', Kp ds w w' → ∃ vs, zg5 P w' ρ rs vs ∧ R (pack vs) w') : retQ P rs R .ret ρ w := by
 show zfb P rs R ρ ρ.ms w
 rw [hms]; exact zgZ hm h
def funcT (P : Program) (t : Nat) : Bool := match P.underlying t with | some (.func _ _ _) => true | _ => false
theorem zo0 {d : Option Nat} {ty : TypeId} {pos : String} {af : Array Edge} {gd : Option (Nat × Bool)} {t t' : Nat} {x : Operand} {f : Fn} {a b : Array Value} (ht : funcT P t = true) (hx : ev ρ x = .func f a b) : (execOp (ev ρ) ⟨d, .binOp .eql t x (.const .nilFunc) t', ty, pos, af, gd⟩).run P w = .ok (.value (.bool false)) w := by
 unfold funcT at ht
 split at ht
 ·rename_i hu
  have h1 : (eqGuard .eql t x (.const .nilFunc) (.func f a b) .nilFunc).run P w = .ok () w := by
   unfold eqGuard
   simp
  have h2 : ∀ n, (Op.equalIn (n + 1) t (.func f a b) .nilFunc).run P w = .ok false w := fun n => by
   simp only [Op.equalIn, Sem.run_bind, run_underlying hu, Result.andThen_ok]
   rfl
  have h3 : (binOp .eql t (.func f a b) .nilFunc).run P w = .ok (.bool false) w := by
   simp only [binOp]
   simp [Op.equal, Op.maxDepth, h2 9999]
  have h4 : ev ρ (.const .nilFunc) = .nilFunc := rfl
  simp only [execOp, hx, h4, Sem.run_bind, h1, h3, Result.andThen_ok]
  rfl
 ·cases ht
end
end Coup
namespace Go.Proofs.YtdbogkndglbffaaGreat
open Go Go.RowKit Coup
def zjG (w : World) (v : Value) : Prop := v = .pointer none ∨ ∃ g, v = .pointer (some ⟨g, 0, none⟩) ∧ row w g [.pointer none] 50
theorem zjG.new {w w' : World} {v : Value} (h : zjG w v) (hb : Below w.heap.size w w') : zjG w' v := h.imp id fun ⟨g, e, hr⟩ => ⟨g, e, hr.new hb⟩
set_option maxRecDepth 20000 in
theorem nrun {w : World} {v : Value} (h : zjG w v) (f : Value) : Calls Tryz.prog 34 [v, f].toArray w (Ret fun v w' => v = .int .i64 1 ∧ w = w') := by
 rcases h with rfl | ⟨g, rfl, hr⟩
 ·have h0 : True := trivial
  refine zas (fn := Tryz.f34) (rs := [.tmp 4]) (n := 25) Tryz.func34 rfl rfl Tryz.ntmps34 (by kernel_rfl) rfl ?_
  refine zaf (zaa (zad (zac) (zae (zah (zaf (zaf (zaa (zad (zab) ?_))))))))
  refine zad (zf6 (by kernel_rfl) rfl rfl) ?_
  refine zad (zab) ?_
  refine WR_is 7 (.bool true) (rfl) ?_
  refine zaK rfl rfl (zaK rfl rfl (zaK rfl rfl (zaK rfl rfl (zaK rfl rfl (zad (zaA rfl) (zae (zah ?_)))))))
  refine zin rfl (rfl) ?_
  refine zaf (zaa (zad (zac) (zae (zah (zaz (zaP ?_))))))
  refine zam [_] ⟨rfl, trivial⟩ ?_
  exact ⟨rfl, rfl⟩
 ·have hh := hr
  refine zas (fn := Tryz.f34) (rs := [.tmp 4]) (n := 25) Tryz.func34 rfl rfl Tryz.ntmps34 (by kernel_rfl) rfl ?_
  refine zaf (zaa (zad (zac) (zae (zah (zaf (zaf (zaa (zad (zab) ?_))))))))
  refine zad (zch (by kernel_rfl) rfl rfl) ?_
  refine zad (zab) ?_
  refine WR_is 7 (.bool false) (rfl) ?_
  refine zan rfl (zad (zab) (zan rfl (zad (zak rfl) (zan rfl (zad (zav 0) (zan rfl ?_))))))
  refine zad (zax hr) ?_
  refine zan rfl ?_
  refine zad (zf6 (by kernel_rfl) rfl rfl) ?_
  refine zad (zaw rfl) (zae (zah ?_))
  refine zin rfl (rfl) ?_
  refine zaf (zaa (zad (zac) (zae (zah (zaz (zaP ?_))))))
  refine zam [_] ⟨rfl, trivial⟩ ?_
  exact ⟨rfl, rfl⟩
section
variable {w : World} {v : Value}
set_option maxRecDepth 20000 in
theorem ngive (h : zjG w v) : Calls Tryz.prog 14 [v].toArray w (Ret fun u w' => u = .tuple #[.int .i64 0, .int .i64 1] ∧ Below w.heap.size w w') := by
 have hB := Below.refl w.heap.size w
 refine zas (fn := Tryz.f14) (rs := [.cell 2 3, .tmp 3]) (n := 9) Tryz.func14 rfl rfl Tryz.ntmps14 (by kernel_rfl) rfl ?_
 refine zaf (zaa ?_)
 refine zay rfl (zar ([Value.int .i64 0]) (by kernel_rfl) (fun g2 w2 hg2 hr2 hb2 => ?_))
 have ge_hB_g2 := Nat.le_trans hB.size hg2
 replace hB := hB.acc hb2
 refine zad (zac) (zae (zah (zaf (zaa (zad (zab) (zad (zaW) ?_))))))
 refine zao rfl (zaj (by kernel_rfl) rfl) (nrun (h.new hB) _) ?_
 rintro _ _ ⟨rfl, rfl⟩
 refine zad (zac) (zae (zah (zaf (zaa ?_))))
 refine zad (zax hr2) ?_
 refine zad (zab) ?_
 refine zaG rfl (zbg hr2 (fun w901 hr2 ho901 => ?_))
 replace hB := ho901.below hB ge_hB_g2
 refine zad (zac) (zae (zah (zaz ?_)))
 refine zam [_, _] ⟨⟨_, rfl, Ld.zdY hr2 (by kernel_rfl) rfl⟩, rfl, trivial⟩ ?_
 exact ⟨rfl, hB⟩
set_option maxRecDepth 20000 in
theorem nlay (h : zjG w v) (b : Value) : Calls Tryz.prog 11 [v, .slice none 0 0].toArray w (Ret fun u w' => u = .tuple #[.agg #[.int .i64 0, .int .i64 0], .int .i64 1] ∧ Below w.heap.size w w') := by
 have hB := Below.refl w.heap.size w
 refine zas (fn := Tryz.f11) (rs := [.cell 4 38, .tmp 5]) (n := 16) Tryz.func11 rfl rfl Tryz.ntmps11 (by kernel_rfl) rfl ?_
 refine zaf (zaa ?_)
 refine zay rfl (zaU ([_]) rfl (fun g3 w3 hg3 hr3 hb3 => ?_))
 replace hB := hB.acc hb3
 refine zay rfl (zar ([Value.int .i64 0, Value.int .i64 0]) (by kernel_rfl) (fun g4 w4 hg4 hr4 hb4 => ?_))
 have ge_hB_g4 := Nat.le_trans hB.size hg4
 replace hB := hB.acc hb4
 refine zad (zac) (zae (zah (zaf (zaa ?_))))
 refine zay rfl (zar ([Value.int .i64 0, Value.int .i64 0]) (by kernel_rfl) (fun g6 w6 hg6 hr6 hb6 => ?_))
 replace hr4 := hr4.new hb6
 replace hB := hB.acc hb6
 refine zae (zah (zaf (zaa (zad (zab) (zad (zaW) ?_)))))
 refine zao rfl (zaj (by kernel_rfl) rfl) (nrun (h.new hB) _) ?_
 rintro _ _ ⟨rfl, rfl⟩
 refine zad (zac) (zae (zah (zaf (zaf (zaa (zad (zab) ?_))))))
 refine zad (zaM rfl rfl) ?_
 refine zae (zah ?_)
 refine ze6 rfl ((by decide)) ?_
 refine zaf (zaa ?_)
 refine zad (zbi ([Value.int .i64 0, Value.int .i64 0]) (by kernel_rfl)) ?_
 refine zad (zab) ?_
 refine zaG rfl (zaO 2 ([.int .i64 0, .int .i64 0]) hr4 (fun w901 hr4 ho901 => ?_))
 replace hB := ho901.below hB ge_hB_g4
 refine zad (zac) (zae (zah (zaz (zaP ?_))))
 refine zam [_, _] ⟨⟨_, rfl, Ld.zbX (k := 2) hr4 (by kernel_rfl) (by kernel_rfl) (by first | (simp; done) | (simp [zal, *]; done) | assumption)⟩, rfl, trivial⟩ ?_
 exact ⟨rfl, hB⟩
set_option maxRecDepth 20000 in
theorem nget (h : zjG w v) (a s : Int) : Calls Tryz.prog 17 [v, .agg #[.int .i64 a, .int .i64 s]].toArray w (Ret fun u w' => u = .tuple #[.slice none 0 0, .int .i64 1] ∧ Below w.heap.size w w') := by
 have hB := Below.refl w.heap.size w
 refine zas (fn := Tryz.f17) (rs := [.tmp 4, .tmp 5]) (n := 13) Tryz.func17 rfl rfl Tryz.ntmps17 (by kernel_rfl) rfl ?_
 refine zaf (zaa ?_)
 refine zay rfl (zaU ([.int .i64 a, .int .i64 s]) rfl (fun g3 w3 hg3 hr3 hb3 => ?_))
 replace hB := hB.acc hb3
 refine zad (zac) (zad (zac) (zae (zah (zaf (zaa ?_)))))
 refine zay rfl (zar ([Value.slice none 0 0]) (by kernel_rfl) (fun g6 w6 hg6 hr6 hb6 => ?_))
 replace hB := hB.acc hb6
 refine zae (zah (zaf (zaa (zad (zab) (zad (zaW) ?_)))))
 refine zao rfl (zaj (by kernel_rfl) rfl) (nrun (h.new hB) _) ?_
 rintro _ _ ⟨rfl, rfl⟩
 refine zad (zac) (zae (zah (zaf (zaa ?_))))
 refine zad (zax hr6) ?_
 refine zad (zab) (zad (zac) (zad (zac) (zae (zah (zaz ?_)))))
 refine zam [_, _] ⟨rfl, rfl, trivial⟩ ?_
 exact ⟨rfl, hB⟩
set_option maxRecDepth 20000 in
theorem nput (h : zjG w v) (a s : Int) : Calls Tryz.prog 12 [v, .agg #[.int .i64 a, .int .i64 s], .slice none 0 0].toArray w (Ret fun u w' => u = .tuple #[.agg #[.int .i64 0, .int .i64 0], .int .i64 1] ∧ Below w.heap.size w w') := by
 have hB := Below.refl w.heap.size w
 refine zas (fn := Tryz.f12) (rs := [.cell 6 38, .tmp 7]) (n := 19) Tryz.func12 rfl rfl Tryz.ntmps12 (by kernel_rfl) rfl ?_
 refine zaf (zaa ?_)
 refine zay rfl (zaU ([.int .i64 a, .int .i64 s]) rfl (fun g4 w4 hg4 hr4 hb4 => ?_))
 replace hB := hB.acc hb4
 refine zay rfl (zaU ([_]) rfl (fun g5 w5 hg5 hr5 hb5 => ?_))
 replace hr4 := hr4.new hb5
 replace hB := hB.acc hb5
 refine zay rfl (zar ([Value.int .i64 0, Value.int .i64 0]) (by kernel_rfl) (fun g6 w6 hg6 hr6 hb6 => ?_))
 have ge_hB_g6 := Nat.le_trans hB.size hg6
 replace hr4 := hr4.new hb6
 replace hB := hB.acc hb6
 refine zad (zac) (zae (zah (zaf (zaa ?_))))
 refine zad (zaI rfl (Ld.zbX (k := 2) hr4 (by kernel_rfl) (by kernel_rfl) rfl)) ?_
 refine zay rfl (zar ([Value.int .i64 0, Value.int .i64 0]) (by kernel_rfl) (fun g8 w8 hg8 hr8 hb8 => ?_))
 have ge_hB_g8 := Nat.le_trans hB.size hg8
 have lt_g6_g8 : g6 < g8 := Nat.lt_of_lt_of_le hr6.lt hg8
 replace hr6 := hr6.new hb8
 replace hB := hB.acc hb8
 refine zaG rfl (zaO 2 ([.int .i64 a, .int .i64 s]) hr8 (fun w901 hr8 ho901 => ?_))
 replace hr6 := hr6.only ho901 (Nat.ne_of_lt lt_g6_g8)
 replace hB := ho901.below hB ge_hB_g8
 refine zae (zah (zaf (zaa (zad (zab) (zad (zaW) ?_)))))
 refine zao rfl (zaj (by kernel_rfl) rfl) (nrun (h.new hB) _) ?_
 rintro _ _ ⟨rfl, rfl⟩
 refine zad (zac) (zae (zah (zaf (zaf (zaa (zad (zab) ?_))))))
 refine zad (zaM rfl rfl) ?_
 refine zae (zah ?_)
 refine ze6 rfl ((by decide)) ?_
 refine zaf (zaa ?_)
 refine zad (zbi ([Value.int .i64 0, Value.int .i64 0]) (by kernel_rfl)) ?_
 refine zad (zab) ?_
 refine zaG rfl (zaO 2 ([.int .i64 0, .int .i64 0]) hr6 (fun w902 hr6 ho902 => ?_))
 replace hB := ho902.below hB ge_hB_g6
 refine zad (zac) (zae (zah (zaz (zaP ?_))))
 refine zam [_, _] ⟨⟨_, rfl, Ld.zbX (k := 2) hr6 (by kernel_rfl) (by kernel_rfl) (by first | (simp; done) | (simp [zal, *]; done) | assumption)⟩, rfl, trivial⟩ ?_
 exact ⟨rfl, hB⟩
set_option maxRecDepth 20000 in
theorem nback (h : zjG w v) (n : Int) : Calls Tryz.prog 16 [v, .int .i64 n].toArray w (Ret fun u w' => u = .int .i64 1 ∧ Below w.heap.size w w') := by
 have hB := Below.refl w.heap.size w
 refine zas (fn := Tryz.f16) (rs := [.tmp 4]) (n := 8) Tryz.func16 rfl rfl Tryz.ntmps16 (by kernel_rfl) rfl ?_
 refine zaf (zaa ?_)
 refine zay rfl (zaU ([.int .i64 n]) rfl (fun g3 w3 hg3 hr3 hb3 => ?_))
 replace hB := hB.acc hb3
 refine zad (zac) (zae (zah (zaf (zaa (zad (zab) (zad (zaW) ?_))))))
 refine zao rfl (zaj (by kernel_rfl) rfl) (nrun (h.new hB) _) ?_
 rintro _ _ ⟨rfl, rfl⟩
 refine zad (zac) (zae (zah (zaz ?_)))
 refine zam [_] ⟨rfl, trivial⟩ ?_
 exact ⟨rfl, hB⟩
set_option maxRecDepth 20000 in
theorem nsetroot (h : zjG w v) (n : Int) : Calls Tryz.prog 18 [v, .int .i64 n].toArray w (Ret fun u w' => u = .int .i64 1 ∧ Below w.heap.size w w') := by
 have hB := Below.refl w.heap.size w
 refine zas (fn := Tryz.f18) (rs := [.tmp 4]) (n := 8) Tryz.func18 rfl rfl Tryz.ntmps18 (by kernel_rfl) rfl ?_
 refine zaf (zaa ?_)
 refine zay rfl (zaU ([.int .i64 n]) rfl (fun g3 w3 hg3 hr3 hb3 => ?_))
 replace hB := hB.acc hb3
 refine zad (zac) (zae (zah (zaf (zaa (zad (zab) (zad (zaW) ?_))))))
 refine zao rfl (zaj (by kernel_rfl) rfl) (nrun (h.new hB) _) ?_
 rintro _ _ ⟨rfl, rfl⟩
 refine zad (zac) (zae (zah (zaz ?_)))
 refine zam [_] ⟨rfl, trivial⟩ ?_
 exact ⟨rfl, hB⟩
set_option maxRecDepth 20000 in
theorem ntake (h : zjG w v) (a s : Int) : Calls Tryz.prog 13 [v, .agg #[.int .i64 a, .int .i64 s]].toArray w (Ret fun u w' => u = .int .i64 1 ∧ Below w.heap.size w w') := by
 have hB := Below.refl w.heap.size w
 refine zas (fn := Tryz.f13) (rs := [.tmp 4]) (n := 8) Tryz.func13 rfl rfl Tryz.ntmps13 (by kernel_rfl) rfl ?_
 refine zaf (zaa ?_)
 refine zay rfl (zaU ([.int .i64 a, .int .i64 s]) rfl (fun g3 w3 hg3 hr3 hb3 => ?_))
 replace hB := hB.acc hb3
 refine zad (zac) (zae (zah (zaf (zaa (zad (zab) (zad (zaW) ?_))))))
 refine zao rfl (zaj (by kernel_rfl) rfl) (nrun (h.new hB) _) ?_
 rintro _ _ ⟨rfl, rfl⟩
 refine zad (zac) (zae (zah (zaz ?_)))
 refine zam [_] ⟨rfl, trivial⟩ ?_
 exact ⟨rfl, hB⟩
set_option maxRecDepth 20000 in
theorem nroom (h : zjG w v) : Calls Tryz.prog 9 [v].toArray w (Ret fun u w' => u = .int .i64 0 ∧ Below w.heap.size w w') := by
 have hB := Below.refl w.heap.size w
 refine zas (fn := Tryz.f9) (rs := [.cell 2 3]) (n := 7) Tryz.func9 rfl rfl Tryz.ntmps9 (by kernel_rfl) rfl ?_
 refine zaf (zaa ?_)
 refine zay rfl (zar ([Value.int .i64 0]) (by kernel_rfl) (fun g2 w2 hg2 hr2 hb2 => ?_))
 have ge_hB_g2 := Nat.le_trans hB.size hg2
 replace hB := hB.acc hb2
 refine zae (zah (zaf (zaa (zad (zab) (zad (zaW) ?_)))))
 refine zao rfl (zaj (by kernel_rfl) rfl) (nrun (h.new hB) _) ?_
 rintro _ _ ⟨rfl, rfl⟩
 refine zae (zah (zaf (zaa ?_)))
 refine zad (zax hr2) ?_
 refine zaG rfl (zbg hr2 (fun w901 hr2 ho901 => ?_))
 replace hB := ho901.below hB ge_hB_g2
 refine zae (zah (zaz ?_))
 refine zam [_] ⟨⟨_, rfl, Ld.zdY hr2 (by kernel_rfl) rfl⟩, trivial⟩ ?_
 exact ⟨rfl, hB⟩
set_option maxRecDepth 20000 in
theorem nroot (h : zjG w v) : Calls Tryz.prog 19 [v].toArray w (Ret fun u w' => u = .int .i64 0 ∧ Below w.heap.size w w') := by
 have hB := Below.refl w.heap.size w
 refine zas (fn := Tryz.f19) (rs := [.cell 2 3]) (n := 7) Tryz.func19 rfl rfl Tryz.ntmps19 (by kernel_rfl) rfl ?_
 refine zaf (zaa ?_)
 refine zay rfl (zar ([Value.int .i64 0]) (by kernel_rfl) (fun g2 w2 hg2 hr2 hb2 => ?_))
 have ge_hB_g2 := Nat.le_trans hB.size hg2
 replace hB := hB.acc hb2
 refine zae (zah (zaf (zaa (zad (zab) (zad (zaW) ?_)))))
 refine zao rfl (zaj (by kernel_rfl) rfl) (nrun (h.new hB) _) ?_
 rintro _ _ ⟨rfl, rfl⟩
 refine zae (zah (zaf (zaa ?_)))
 refine zad (zax hr2) ?_
 refine zaG rfl (zbg hr2 (fun w901 hr2 ho901 => ?_))
 replace hB := ho901.below hB ge_hB_g2
 refine zae (zah (zaz ?_))
 refine zam [_] ⟨⟨_, rfl, Ld.zdY hr2 (by kernel_rfl) rfl⟩, trivial⟩ ?_
 exact ⟨rfl, hB⟩
set_option maxRecDepth 20000 in
theorem nuses (h : zjG w v) : Calls Tryz.prog 20 [v].toArray w (Ret fun u w' => u = .slice none 0 0 ∧ Below w.heap.size w w') := by
 have hB := Below.refl w.heap.size w
 refine zas (fn := Tryz.f20) (rs := [.tmp 2]) (n := 11) Tryz.func20 rfl rfl Tryz.ntmps20 (by kernel_rfl) rfl ?_
 refine zaf (zaa (zad (zac) (zae (zah (zaf (zaa ?_))))))
 refine zay rfl (zar ([Value.slice none 0 0]) (by kernel_rfl) (fun g3 w3 hg3 hr3 hb3 => ?_))
 replace hB := hB.acc hb3
 refine zae (zah (zaf (zaa (zad (zab) (zad (zaW) ?_)))))
 refine zao rfl (zaj (by kernel_rfl) rfl) (nrun (h.new hB) _) ?_
 rintro _ _ ⟨rfl, rfl⟩
 refine zad (zac) (zae (zah (zaf (zaf (zaa (zad (zab) ?_))))))
 refine zad (zaM rfl rfl) ?_
 refine zae (zah ?_)
 refine ze6 rfl ((by decide)) ?_
 refine zaf (zaa (zad (zac) (zae (zah (zaz (zaP ?_))))))
 refine zam [_] ⟨rfl, trivial⟩ ?_
 exact ⟨rfl, hB⟩
set_option maxRecDepth 20000 in
theorem nallSeq (g : Nat) (w : World) (hr : row w g [.slice none 0 0] 107) : SeqT Tryz.prog 63 [.pointer (some ⟨g, 0, none⟩)] [] [g] w := by
 intro l J Jx W hb hJ hJx hy h0
 have hrW : row W g [.slice none 0 0] 107 := hr.new hb
 refine zas (fn := Tryz.f63) (rs := []) (n := 20) Tryz.func63 rfl rfl Tryz.ntmps63 (by kernel_rfl) rfl ?_
 refine zaf (zaa ?_)
 refine zad (zax hrW) ?_
 refine zad (zaJ (e := 109) (sz := 3) (by kernel_rfl) rfl rfl) ?_
 refine zad (zab) (zae (zah (zaE ?_)))
 refine zbB (α := Unit) () (fun _ => [(6, .int .i64 0), (7, .int .i64 0)]) (fun _ w' => J 0 w') (fun _ => 0) ⟨rfl, rfl, rfl⟩ h0 ?_
 rintro _ f wr h0
 refine zaf (zaa ?_)
 refine zad (za2 rfl rfl) ?_
 refine zae (zah (zaf ?_))
 refine zcL rfl ((by omega)) ?_
 refine zbm (zbW (zcr (zbt ?_)))
 refine zbr [] trivial ?_
 exact .inl h0
set_option maxRecDepth 20000 in
theorem nall (h : zjG w v) : Calls Tryz.prog 21 [v].toArray w (Ret fun u w' => ∃ g, u = .func (.func 63) #[] [.pointer (some ⟨g, 0, none⟩)].toArray ∧ w.heap.size ≤ g ∧ g < w'.heap.size ∧ SeqT Tryz.prog 63 [.pointer (some ⟨g, 0, none⟩)] [] [g] w' ∧ Below w.heap.size w w') := by
 have hB := Below.refl w.heap.size w
 refine zas (fn := Tryz.f21) (rs := [.tmp 2]) (n := 11) Tryz.func21 rfl rfl Tryz.ntmps21 (by kernel_rfl) rfl ?_
 refine zaf (zaa (zad (zac) (zae (zah (zaf (zaa ?_))))))
 refine zay rfl (zar ([Value.slice none 0 0]) (by kernel_rfl) (fun g3 w3 hg3 hr3 hb3 => ?_))
 have ge_hB_g3 := Nat.le_trans hB.size hg3
 replace hB := hB.acc hb3
 refine zae (zah (zaf (zaa (zad (zab) (zad (zaW) ?_)))))
 refine zao rfl (zaj (by kernel_rfl) rfl) (nrun (h.new hB) _) ?_
 rintro _ _ ⟨rfl, rfl⟩
 refine zad (zac) (zae (zah (zaf (zaf (zaa (zad (zab) ?_))))))
 refine zad (zaM rfl rfl) ?_
 refine zae (zah ?_)
 refine ze6 rfl ((by decide)) ?_
 refine zaa ?_
 refine zaG rfl (zbg hr3 (fun w901 hr3 ho901 => ?_))
 replace hB := ho901.below hB ge_hB_g3
 refine zae (zah (zaf (zaa (zad (zaW) (zad (zac) (zae (zah (zaz ?_))))))))
 refine zam [_] ⟨rfl, trivial⟩ ?_
 exact ⟨g3, rfl, by omega, hr3.lt, nallSeq g3 _ hr3, hB⟩
end
theorem zky {i : Nat} (h : i + 2 ≤ 512) : At2 zbl i 0 := ⟨by omega, by rw [zcJ]; exact h, by
 unfold zbl
 rw [List.drop_replicate, List.take_replicate, show min 2 (512 - i) = 2 by omega]; rfl⟩
theorem zero_no : zaD (zdo 0) ≠ zbl := fun e => by
 have h1 := (zmG (zdo 0) (zbx (kind := 0) (by omega)).size)
 have h2 : (zaD (zdo 0))[4]? = zbl[4]? := by rw [e]
 rw [getB (zdo 0) (zbx (kind := 0) (by omega)).size 4 (by omega), zbl, List.getElem?_replicate, if_pos (by omega)] at h2
 revert h2
 decide
set_option maxRecDepth 20000 in
theorem readZ (w : World) : Calls Tryz.prog 97 [.agg (bv zbl).toArray].toArray w (Ret fun v w' => v = .tuple #[.agg #[.int .i64 0, .int .i64 0, .slice none 0 0], .bool false] ∧ Below w.heap.size w w') := by
 have hB := Below.refl w.heap.size w
 have hml : maxLen = 9223372036854775807 := by decide
 have h8 := zky (i := 8) (by omega)
 have h10 := zky (i := 10) (by omega)
 have h2 := zky (i := 2) (by omega)
 have h0 : zbl[0]? = some (u8 0) := by rw [zbl, List.getElem?_replicate, if_pos (by omega)]; rfl
 have hne := zero_no
 have hgd := zbx (kind := 0) (by omega)
 have hsz := fun w' => zmC (zdo 0) none 0 [] w' 0 [] ⟨rfl, Nat.zero_le _, fun h => absurd h (by show ¬ 0 < 0 * 1; omega)⟩ (za0.nil _ _ _) (by show 12 + 4 * 0 + 0 ≤ 1000000; omega)
 have hpg := fun w' => ziH (zdo 0) none 0 [] w' 0 [] ⟨rfl, Nat.zero_le _, fun h => absurd h (by show ¬ 0 < 0 * 1; omega)⟩ (za0.nil _ _ _) (by show 0 < 256; omega) (by show 0 < 2147483648; omega) (by show 12 + 4 * 0 + 0 ≤ 512; omega)
 have hl := zbv (zdo 0) hgd.size
 have hzl := zcJ
 obtain ⟨Q, hQ⟩ : ∃ Q, zbl = Q := ⟨_, rfl⟩
 obtain ⟨P0, hP0⟩ : ∃ P0, zaD (zdo 0) = P0 := ⟨_, rfl⟩
 rw [hQ] at h8 h10 h2 h0 hne hzl ⊢
 rw [hP0] at hne hl
 simp only [hP0] at hpg
 refine zas (fn := Tryz.f97) (rs := [.cell 2 155, .tmp 3]) (n := 116) Tryz.func97 rfl rfl Tryz.ntmps97 (by kernel_rfl) rfl ?_
 refine zaf (zaa ?_)
 refine zay rfl (zaU ((bv Q)) rfl (fun g1 w1 hg1 hr1 hb1 => ?_))
 replace hB := hB.acc hb1
 refine zay rfl (zar ([Value.int .i64 0, Value.int .i64 0, Value.slice none 0 0]) (by kernel_rfl) (fun g2 w2 hg2 hr2 hb2 => ?_))
 have ge_hB_g2 := Nat.le_trans hB.size hg2
 have lt_g1_g2 : g1 < g2 := Nat.lt_of_lt_of_le hr1.lt hg2
 replace hr1 := hr1.new hb2
 replace hB := hB.acc hb2
 refine zad (zac) (zae (zah (zaf (zaa ?_))))
 refine zad (zbj (e := 5) (m := 512) (by kernel_rfl) rfl rfl (0) rfl (by omega)) ?_
 refine zad (zaI rfl (Ld.zdY hr1 (by kernel_rfl) (show (bv Q)[0]? = some (.int .u8 ((u8 0).toNat : Int)) by rw [bv, List.getElem?_map, h0]; rfl))) ?_
 refine zad (zbz (k := .i64) (by kernel_rfl) (by kernel_rfl) rfl (show IntKind.i64.wrap ((u8 0).toNat : Int) = ((0 : Nat) : Int) by rw [zkK (by omega)]; exact w64 (by omega))) ?_
 refine zad (zav 0) ?_
 refine zaG rfl (zbg hr2 (fun w901 hr2 ho901 => ?_))
 replace hr1 := hr1.only ho901 (Nat.ne_of_lt lt_g1_g2)
 replace hB := ho901.below hB ge_hB_g2
 refine zae (zah (zaf ?_))
 refine za5 [g2] (by kernel_rfl) ?_
 intro w902 hb902 hS902
 replace hr1 := hr1.new hb902
 replace hr2 := hr2.new hb902
 replace hB := hB.acc hb902
 refine zat 0 (zbe (e := 5) (n := 512) (8) (10) (512) (2) (by kernel_rfl) rfl ⟨_, _, rfl, rfl⟩ ⟨_, _, rfl, rfl⟩ rfl (by simp) (by omega) (by omega) (by omega) (by omega) (by omega)) ?_
 refine zat 3 (zbe (e := 5) (n := 512) (10) (12) (512) (2) (by kernel_rfl) rfl ⟨_, _, rfl, rfl⟩ ⟨_, _, rfl, rfl⟩ rfl (by simp) (by omega) (by omega) (by omega) (by omega) (by omega)) ?_
 refine zaH 1 (by kernel_rfl) ?_
 refine zbb rfl rfl (zaj (by kernel_rfl) rfl) (zfT Q g1 _ _ 8 0 _ _ w902 hr1 h8 rfl rfl) ?_
 rintro _ w15 ⟨rfl, hb15⟩
 have hS903 := hS902.add0 hb15
 refine ⟨hS903, ?_⟩
 replace hr1 := hr1.new hb15
 replace hr2 := hr2.new hb15
 replace hB := hB.acc hb15
 refine zat 2 (ziA rfl rfl (by omega) (show IntKind.i64.wrap (((0 : Nat) : Int) * 2 ^ 16) = ((0 : Nat) : Int) by rw [w64 (by omega)]; omega)) ?_
 refine zaH 4 (by kernel_rfl) ?_
 refine zbb rfl rfl (zaj (by kernel_rfl) rfl) (zfT Q g1 _ _ 10 0 _ _ w15 hr1 h10 rfl rfl) ?_
 rintro _ w18 ⟨rfl, hb18⟩
 have hS904 := hS903.add0 hb18
 refine ⟨hS904, ?_⟩
 replace hr1 := hr1.new hb18
 replace hr2 := hr2.new hb18
 replace hB := hB.acc hb18
 refine zat 5 (zml rfl rfl (show _ = ((0 : Nat) : Int) from (orI 16 (0 : Nat) (by omega) (by omega) (by omega) (by omega)).trans (by omega))) ?_
 refine zat 6 (zav 1) ?_
 refine zaH 7 (by kernel_rfl) ?_
 refine zbO rfl rfl (zbg hr2 (fun w906 hr2 ho906 => ?_))
 have hS905 := hS904.aq ho906
 refine ⟨hS905, ?_⟩
 replace hr1 := hr1.only ho906 (Nat.ne_of_lt lt_g1_g2)
 replace hB := ho906.below hB ge_hB_g2
 refine zaL (by kernel_rfl) ?_
 refine zah (zaf (zaa ?_))
 refine zad (zbe (e := 5) (n := 512) (2) (4) (512) (2) (by kernel_rfl) rfl ⟨_, _, rfl, rfl⟩ ⟨_, _, rfl, rfl⟩ rfl (by simp) (by omega) (by omega) (by omega) (by omega) (by omega)) ?_
 refine zao rfl (zaj (by kernel_rfl) rfl) (zfT Q g1 _ _ 2 0 _ _ w906 hr1 h2 rfl rfl) ?_
 rintro _ w22 ⟨rfl, hb22⟩
 replace hr1 := hr1.new hb22
 replace hr2 := hr2.new hb22
 replace hB := hB.acc hb22
 refine zad (zac) (zae (zah (zaf (zaf (zaa (zad (zav 0) ?_))))))
 refine zad (zax hr2) ?_
 refine zad (zbu rfl rfl) ?_
 refine zad (zab) ?_
 refine zdc 26 rfl ((by omega)) ?_
 refine zan rfl (zad (zav 1) (zan rfl ?_))
 refine zad (zax hr2) ?_
 refine zan rfl ?_
 refine zad (zc2 rfl rfl) ?_
 refine zad (zaw rfl) (zad (zab) ?_)
 refine zdc 31 rfl ((by omega)) ?_
 refine zan rfl (zad (zab) (zan rfl ?_))
 refine zad (zc1 rfl rfl (Coup.w64 (by omega))) ?_
 refine zan rfl ?_
 refine zad (zaN rfl rfl (Coup.w64 (by omega))) ?_
 refine zan rfl ?_
 refine zad (zbu rfl rfl) ?_
 refine zad (zaw rfl) (zae (zah ?_))
 refine zcL rfl ((by omega)) ?_
 refine zau (zah (zaf (zaf (zaa (zad (zab) (zad (zab) (zae (zah (zaE ?_)))))))))
 refine zbB (α := Unit) () (fun _ => [(39, .int .i64 0), (38, .int .i64 0), (4, .int .i64 0), (1, .pointer (some ⟨g1, 0, none⟩)), (2, .pointer (some ⟨g2, 0, none⟩))])
  (fun _ w' => row w' g1 (bv Q) 62 ∧ row w' g2 [.int .i64 0, .int .i64 0, .slice none 0 0] 155 ∧ Below w.heap.size w w') (fun _ => 0) ⟨rfl, rfl, rfl, rfl, rfl, rfl⟩ ⟨hr1, hr2, hB⟩ ?_
 clear hr1 hr2 hB
 rintro _ f wr ⟨hr1, hr2, hB⟩
 refine zaf (zaa ?_)
 refine zad (za2 rfl rfl) ?_
 refine zae (zah (zaf ?_))
 refine zcL rfl ((by omega)) ?_
 refine zbm (zbW (zcr (zbt (zah (zaf (zaf ?_))))))
 refine za5 [] (by kernel_rfl) ?_
 intro w907 hb907 hS907
 replace hr1 := hr1.new hb907
 replace hr2 := hr2.new hb907
 replace hB := hB.acc hb907
 have hr1_d907 := hr1
 have hr2_d907 := hr2
 refine zat 0 (zab) ?_
 refine zat 1 (zbu rfl rfl) ?_
 refine zat 2 (zab) ?_
 refine zjO 94 rfl ((by omega)) ?_
 refine zaF 3 (by kernel_rfl) rfl ?_
 refine zaF 4 (by kernel_rfl) rfl ?_
 refine zaF 5 (by kernel_rfl) rfl ?_
 refine zaF 6 (by kernel_rfl) rfl ?_
 refine zaF 7 (by kernel_rfl) rfl ?_
 refine zaF 8 (by kernel_rfl) rfl ?_
 refine zaF 9 (by kernel_rfl) rfl ?_
 refine zat 10 (zaw rfl) ?_
 refine zat 11 (zab) ?_
 refine zbp 12 (fun w' hS' => zaI rfl (Ld.zbX (k := 3) (hr2_d907.kq hS') (by kernel_rfl) (by kernel_rfl) rfl)) ?_
 refine zaH 13 (by kernel_rfl) ?_
 refine zbb rfl rfl (zaj (by kernel_rfl) rfl) (hsz w907) ?_
 rintro _ w105 ⟨rfl, hb105⟩
 have hS908 := hS907.add0 hb105
 refine ⟨hS908, ?_⟩
 replace hr2 := hr2.new hb105
 replace hB := hB.acc hb105
 refine zat 14 (zbu rfl rfl) ?_
 refine zat 15 (zaw rfl) ?_
 refine zat 16 (zab) ?_
 refine zjO 108 rfl ((by show ¬ ((12 + 4 * 0 + 0 : Nat) : Int) > 512; omega)) ?_
 refine zbp 17 (fun w' hS' => zaI rfl (Ld.zbX (k := 3) (hr2_d907.kq hS') (by kernel_rfl) (by kernel_rfl) rfl)) ?_
 refine zbp 19 (fun w' hS' => zaI rfl (Ld.zbX (k := 512) (hr1_d907.kq hS') (by kernel_rfl) (by kernel_rfl) (by rw [zal]; exact hzl))) ?_
 refine zaH 18 (by kernel_rfl) ?_
 refine zbb rfl rfl (zaj (by kernel_rfl) rfl) (hpg w105) ?_
 rintro _ w110 ⟨rfl, hb110⟩
 have hS909 := hS908.add0 hb110
 refine ⟨hS909, ?_⟩
 replace hr2 := hr2.new hb110
 replace hB := hB.acc hb110
 refine zat 20 (zhS (n := 512) (by kernel_rfl) rfl rfl (by simp [*]) (by simp [*])) ?_
 refine zat 21 (zaw rfl) ?_
 refine zaL (by kernel_rfl) ?_
 refine zah ?_
 refine W_tn rfl (hne) ?_
 refine zaf (zaa ?_)
 refine zad (zbi ([Value.int .i64 0, Value.int .i64 0, Value.slice none 0 0]) (by kernel_rfl)) ?_
 refine zaG rfl (zaO 3 ([.int .i64 0, .int .i64 0, .slice none 0 0]) hr2 (fun w910 hr2 ho910 => ?_))
 replace hB := ho910.below hB ge_hB_g2
 refine zad (zac) (zae (zah (zaz (zaP ?_))))
 refine zam [_, _] ⟨⟨_, rfl, Ld.zbX (k := 3) hr2 (by kernel_rfl) (by kernel_rfl) (by first | (simp; done) | (simp [zal, *]; done) | assumption)⟩, rfl, trivial⟩ ?_
 exact ⟨rfl, hB⟩
set_option maxRecDepth 20000 in
theorem getZ (k : Int) (w : World) : Calls Tryz.prog 96 [.agg (bv zbl).toArray, .int .i64 k].toArray w (Ret fun v w' => v = .tuple #[.slice none 0 0, .int .i64 4] ∧ Below w.heap.size w w') := by
 have hB := Below.refl w.heap.size w
 have hR := fun w' => readZ w'
 have hl : (bv zbl).length = 512 := by rw [zal]; exact zcJ
 obtain ⟨Q, hQ⟩ : ∃ Q, zbl = Q := ⟨_, rfl⟩
 rw [hQ] at hl ⊢
 simp only [hQ] at hR
 refine zas (fn := Tryz.f96) (rs := [.tmp 4, .tmp 5]) (n := 26) Tryz.func96 rfl rfl Tryz.ntmps96 (by kernel_rfl) rfl ?_
 refine zaf (zaa ?_)
 refine zay rfl (zaU (bv Q) rfl (fun g2 w2 hg2 hr2 hb2 => ?_))
 replace hB := hB.acc hb2
 refine zad (zac) (zad (zac) (zae (zah (zaf (zaa ?_)))))
 refine zad (zaI rfl (Ld.zbX (k := 512) hr2 (by kernel_rfl) (by kernel_rfl) hl)) ?_
 refine zao rfl (zaj (by kernel_rfl) rfl) (hR w2) ?_
 rintro _ w10 ⟨rfl, hb10⟩
 replace hB := hB.acc hb10
 refine zad (zab) (zad (zai rfl rfl) (zad (zai rfl rfl) ?_))
 refine zay rfl (zar ([Value.int .i64 0, Value.int .i64 0, Value.slice none 0 0]) (by kernel_rfl) (fun g6 w6 hg6 hr6 hb6 => ?_))
 have ge_hB_g6 := Nat.le_trans hB.size hg6
 replace hB := hB.acc hb6
 refine zaG rfl (zaO 3 ([.int .i64 0, .int .i64 0, .slice none 0 0]) hr6 (fun w901 hr6 ho901 => ?_))
 replace hB := ho901.below hB ge_hB_g6
 refine zad (zac) (zae (zah (zaf (zaE (zaf (zaa (zad (zab) ?_)))))))
 refine zad (zbS rfl) ?_
 refine zad (zac) (zae (zah ?_))
 refine zme rfl (rfl) ?_
 refine zaf (zaa (zad (zac) (zad (zac) (zae (zah (zaz (zbd (zaP ?_))))))))
 refine zam [_, _] ⟨rfl, rfl, trivial⟩ ?_
 exact ⟨rfl, hB⟩
set_option maxRecDepth 20000 in
theorem zo1 (N : Nat) (w : World) : Calls Tryz.prog 110 [.agg (bv zbl).toArray, .int .i64 (N : Int)].toArray w (Ret fun v w' => v = .tuple #[.agg (zfA ⟨0, 0, 0, 0, 0⟩).toArray, .bool false] ∧ Below w.heap.size w w') := by
 have hB := Below.refl w.heap.size w
 have hge := fun w' => getZ 0 w'
 have hl : (bv zbl).length = 512 := by rw [zal]; exact zcJ
 obtain ⟨Q, hQ⟩ : ∃ Q, zbl = Q := ⟨_, rfl⟩
 rw [hQ] at hl ⊢
 simp only [hQ] at hge
 have hF1 := zku ⟨0, 0, 0, 0, 0⟩
 have hFl : (zfA ⟨0, 0, 0, 0, 0⟩).length = 5 := rfl
 obtain ⟨FV, hFV⟩ : ∃ FV, zfA ⟨0, 0, 0, 0, 0⟩ = FV := ⟨_, rfl⟩
 rw [hFV] at hF1 hFl ⊢
 refine zas (fn := Tryz.f110) (rs := [.cell 4 83, .tmp 5]) (n := 81) Tryz.func110 rfl rfl Tryz.ntmps110 (by kernel_rfl) rfl ?_
 refine zaf (zaa ?_)
 refine zay rfl (zaU (bv Q) rfl (fun g2 w2 hg2 hr2 hb2 => ?_))
 replace hB := hB.acc hb2
 refine zay rfl (zar ([Value.int .i64 0, Value.int .i64 0, Value.int .i64 0, Value.int .i64 0, Value.int .i64 0]) (by kernel_rfl) (fun g4 w4 hg4 hr4 hb4 => ?_))
 have ge_hB_g4 := Nat.le_trans hB.size hg4
 replace hr2 := hr2.new hb4
 replace hB := hB.acc hb4
 refine zad (zac) (zae (zah (zaf (zaa ?_))))
 refine zad (zaI rfl (Ld.zbX (k := 512) hr2 (by kernel_rfl) (by kernel_rfl) hl)) ?_
 refine zao rfl (zaj (by kernel_rfl) rfl) (hge w4) ?_
 rintro _ w13 ⟨rfl, hb13⟩
 replace hr4 := hr4.new hb13
 replace hB := hB.acc hb13
 refine zad (zab) (zad (zai rfl rfl) (zad (zai rfl rfl) (zad (zac) (zad (zac) (zae (zah (zaf (zaf (zaa (zad (zab) ?_))))))))))
 refine zad (zaM rfl rfl) ?_
 refine zad (zab) ?_
 refine zdz 18 rfl ((by decide)) ?_
 refine zaK rfl rfl (zaK rfl rfl (zaK rfl rfl (zad (zaA rfl) (zae (zah ?_)))))
 refine zin rfl (rfl) ?_
 refine zaf (zaa ?_)
 refine zad (zbi FV (by rw [← hFV]; kernel_rfl)) ?_
 refine zaG rfl (zaO 5 (FV) hr4 (fun w901 hr4 ho901 => ?_))
 replace hB := ho901.below hB ge_hB_g4
 refine zad (zac) (zae (zah (zaz (zaP ?_))))
 refine zam [_, _] ⟨⟨_, rfl, Ld.zbX (k := 5) hr4 (by kernel_rfl) (by kernel_rfl) (by first | (simp; done) | (simp [zal, *]; done) | assumption)⟩, rfl, trivial⟩ ?_
 exact ⟨rfl, hB⟩
section
variable {Y : World → List Nat → Prop} [hYT : Thing Y] {q N lo : Nat} {L : List Nat} {G V : Nat → Pg} {k : Nat} {w : World}
set_option maxRecDepth 20000 in
theorem runZ (h : Two (GZ q N G V k) Y lo L w) (h0 : G 0 = zbl) (f : Value) : Calls Tryz.prog 64 [.pointer (some ⟨q, 0, none⟩), f].toArray w (Ret fun v w' => v = .int .i64 4 ∧ Two (GZ q N G V k) Y lo L w' ∧ LoL lo L w w') := by
 have hg := zii h
 have hget := fun L' w' (h' : Two (GZ q N G V k) Y lo L' w') => gGet h' 0 (by omega)
 have hpg := fun L' w' (h' : Two (GZ q N G V k) Y lo L' w') => zjy h'
 have hfo := fun w' => zo1 N w'
 have hl : (bv zbl).length = 512 := by rw [zal]; exact zcJ
 rw [h0] at hget
 obtain ⟨Q, hQ⟩ : ∃ Q, zbl = Q := ⟨_, rfl⟩
 simp only [hQ] at hget hfo hl
 have hF1 := zku ⟨0, 0, 0, 0, 0⟩
 have hFl : (zfA ⟨0, 0, 0, 0, 0⟩).length = 5 := rfl
 obtain ⟨FV, hFV⟩ : ∃ FV, zfA ⟨0, 0, 0, 0, 0⟩ = FV := ⟨_, rfl⟩
 rw [hFV] at hF1 hFl
 simp only [hFV] at hfo
 have hLL := LoL.refl lo L w
 refine zas (fn := Tryz.f64) (rs := [.cell 4 39]) (n := 48) Tryz.func64 rfl rfl Tryz.ntmps64 (by kernel_rfl) rfl ?_
 refine zaf (zaa ?_)
 refine zay rfl (zaU ([_]) rfl (fun g2 w2 hg2 hr2 hb2 => ?_))
 have sz_g2 := hLL.size
 replace h := h.newc hb2 hg2 hr2.lt
 replace hLL := hLL.new hb2
 refine zay rfl (zar ([Value.int .i64 0]) (by kernel_rfl) (fun g4 w4 hg4 hr4 hb4 => ?_))
 have lt_g2_g4 : g2 < g4 := Nat.lt_of_lt_of_le hr2.lt hg4
 replace h := h.newc hb4 hg4 hr4.lt
 replace hLL := hLL.new hb4
 replace hr2 := hr2.new hb4
 refine zae (zah (zaf (zaa ?_)))
 refine zad (zax hr2) ?_
 refine zao rfl (zaj (by kernel_rfl) rfl) (hget _ w4 h) ?_
 rintro _ w11 ⟨rfl, h, hb11⟩
 replace hLL := hLL.lq hb11
 replace hr2 := hr2.kl hb11
 replace hr4 := hr4.kl hb11
 refine zad (zab) (zad (zai rfl rfl) (zad (zai rfl rfl) ?_))
 refine zay rfl (zar (List.replicate 512 (Value.int .u8 0)) (by kernel_rfl) (fun g5 w5 hg5 hr5 hb5 => ?_))
 have lt_g2_g5 : g2 < g5 := Nat.lt_of_lt_of_le hr2.lt hg5
 have lt_g4_g5 : g4 < g5 := Nat.lt_of_lt_of_le hr4.lt hg5
 replace h := h.newc hb5 hg5 hr5.lt
 replace hLL := hLL.new hb5
 replace hr2 := hr2.new hb5
 replace hr4 := hr4.new hb5
 refine zaG rfl (zaO 512 (bv Q) hr5 (fun w901 hr5 ho901 => ?_))
 replace h := h.only ho901 (by first | (right; simp; done) | (left; omega) | (right; simp [*]; done))
 replace hLL := hLL.oq ho901
 replace hr2 := hr2.only ho901 (Nat.ne_of_lt lt_g2_g5)
 replace hr4 := hr4.only ho901 (Nat.ne_of_lt lt_g4_g5)
 refine zaG rfl (zbg hr4 (fun w902 hr4 ho902 => ?_))
 replace h := h.only ho902 (by first | (right; simp; done) | (left; omega) | (right; simp [*]; done))
 replace hLL := hLL.oq ho902
 replace hr2 := hr2.only ho902 (Nat.ne_of_lt lt_g2_g4)
 replace hr5 := hr5.only ho902 (Nat.ne_of_gt lt_g4_g5)
 refine zae (zah (zaf (zaf (zaa ?_))))
 refine zad (zax hr4) ?_
 refine zad (zaM rfl rfl) ?_
 refine zae (zah ?_)
 refine zcL rfl ((by decide)) ?_
 refine zau (zah (zaf ?_))
 refine za5 [] (by kernel_rfl) ?_
 intro w903 hb903 hS903
 replace h := h.new hb903
 replace hLL := hLL.new hb903
 replace hr2 := hr2.new hb903
 replace hr4 := hr4.new hb903
 replace hr5 := hr5.new hb903
 have h_d903 := h
 have hLL_d903 := hLL
 have hr2_d903 := hr2
 have hr4_d903 := hr4
 have hr5_d903 := hr5
 refine zbp 0 (fun w' hS' => zaI rfl (Ld.zbX (k := 512) (hr5_d903.kq hS') (by kernel_rfl) (by kernel_rfl) hl)) ?_
 refine zbp 1 (fun w' hS' => zax (hr2_d903.kq hS')) ?_
 refine zd9 2 7 (by kernel_rfl) ?_ ?_
 ·
  refine zbb rfl rfl (zaj (by kernel_rfl) rfl) (hpg _ w903 h) ?_
  rintro _ w20 ⟨rfl, hb20⟩
  have hS904 := hS903.add0 hb20
  refine ⟨hS904, ?_⟩
  replace h := h.new hb20
  replace hLL := hLL.new hb20
  replace hr2 := hr2.new hb20
  replace hr4 := hr4.new hb20
  replace hr5 := hr5.new hb20
  refine zd9 3 7 (by kernel_rfl) ?_ ?_
  ·
   refine zbb rfl rfl (zaj (by kernel_rfl) rfl) (hfo w20) ?_
   rintro _ w21 ⟨rfl, hb21⟩
   have hS905 := hS904.add0 hb21
   refine ⟨hS905, ?_⟩
   replace h := h.new hb21
   replace hLL := hLL.new hb21
   replace hr2 := hr2.new hb21
   replace hr4 := hr4.new hb21
   replace hr5 := hr5.new hb21
   refine zat 4 (zab) ?_
   refine zat 5 (zai rfl rfl) ?_
   refine zat 6 (zai rfl rfl) ?_
   refine zaH 7 (by kernel_rfl) ?_
   refine zco rfl rfl (zar ([Value.int .i64 0, Value.int .i64 0, Value.int .i64 0, Value.int .i64 0, Value.int .i64 0]) (by kernel_rfl) (fun g6 w6 hg6 hr6 hb6 => ?_))
   have hS906 := hS905.add0 hb6
   refine ⟨hS906, ?_⟩
   have ge_hS905_g6 := Nat.le_trans hS905.size hg6
   have lt_g2_g6 : g2 < g6 := Nat.lt_of_lt_of_le hr2.lt hg6
   have lt_g4_g6 : g4 < g6 := Nat.lt_of_lt_of_le hr4.lt hg6
   have lt_g5_g6 : g5 < g6 := Nat.lt_of_lt_of_le hr5.lt hg6
   replace h := h.newc hb6 hg6 hr6.lt
   replace hLL := hLL.new hb6
   replace hr2 := hr2.new hb6
   replace hr4 := hr4.new hb6
   replace hr5 := hr5.new hb6
   refine zaH 8 (by kernel_rfl) ?_
   refine zbO rfl rfl (zaO 5 (FV) hr6 (fun w908 hr6 ho908 => ?_))
   have hS907 := hS906.aq ho908
   refine ⟨hS907, ?_⟩
   replace h := h.only ho908 (by first | (right; simp; done) | (left; omega) | (right; simp [*]; done))
   replace hLL := hLL.oq ho908
   replace hr2 := hr2.only ho908 (Nat.ne_of_lt lt_g2_g6)
   replace hr4 := hr4.only ho908 (Nat.ne_of_lt lt_g4_g6)
   replace hr5 := hr5.only ho908 (Nat.ne_of_lt lt_g5_g6)
   refine zat 9 (zac) ?_
   refine zaL (by kernel_rfl) ?_
   refine zah (zaf (zaf (zaa (zad (zab) ?_))))
   refine zad (zbS rfl) ?_
   refine zae (zah ?_)
   refine zme rfl (rfl) ?_
   refine zaf (zaa ?_)
   refine zaG rfl (zbg hr4 (fun w909 hr4 ho909 => ?_))
   replace h := h.only ho909 (by first | (right; simp; done) | (left; omega) | (right; simp [*]; done))
   replace hLL := hLL.oq ho909
   replace hr2 := hr2.only ho909 (Nat.ne_of_lt lt_g2_g4)
   replace hr5 := hr5.only ho909 (Nat.ne_of_gt lt_g4_g5)
   replace hr6 := hr6.only ho909 (Nat.ne_of_gt lt_g4_g6)
   refine zae (zah (zaz (zaP ?_)))
   refine zam [_] ⟨⟨_, rfl, Ld.zdY hr4 (by kernel_rfl) rfl⟩, trivial⟩ ?_
   exact ⟨rfl, h.weak fun b hb => by simp [hb], hLL⟩
  ·
   refine zco rfl rfl (zar ([Value.int .i64 0, Value.int .i64 0, Value.int .i64 0, Value.int .i64 0, Value.int .i64 0]) (by kernel_rfl) (fun g6 w6 hg6 hr6 hb6 => ?_))
   have hS910 := hS904.add0 hb6
   refine ⟨hS910, ?_⟩
   have ge_hS904_g6 := Nat.le_trans hS904.size hg6
   have lt_g2_g6 : g2 < g6 := Nat.lt_of_lt_of_le hr2.lt hg6
   have lt_g4_g6 : g4 < g6 := Nat.lt_of_lt_of_le hr4.lt hg6
   have lt_g5_g6 : g5 < g6 := Nat.lt_of_lt_of_le hr5.lt hg6
   replace h := h.newc hb6 hg6 hr6.lt
   replace hLL := hLL.new hb6
   replace hr2 := hr2.new hb6
   replace hr4 := hr4.new hb6
   replace hr5 := hr5.new hb6
   refine zaH 3 (by kernel_rfl) ?_
   refine zbb rfl rfl (zaj (by kernel_rfl) rfl) (hfo w6) ?_
   rintro _ w21 ⟨rfl, hb21⟩
   have hS911 := hS910.add0 hb21
   refine ⟨hS911, ?_⟩
   replace h := h.new hb21
   replace hLL := hLL.new hb21
   replace hr2 := hr2.new hb21
   replace hr4 := hr4.new hb21
   replace hr5 := hr5.new hb21
   replace hr6 := hr6.new hb21
   refine zat 4 (zab) ?_
   refine zat 5 (zai rfl rfl) ?_
   refine zat 6 (zai rfl rfl) ?_
   refine zaH 8 (by kernel_rfl) ?_
   refine zbO rfl rfl (zaO 5 (FV) hr6 (fun w913 hr6 ho913 => ?_))
   have hS912 := hS911.aq ho913
   refine ⟨hS912, ?_⟩
   replace h := h.only ho913 (by first | (right; simp; done) | (left; omega) | (right; simp [*]; done))
   replace hLL := hLL.oq ho913
   replace hr2 := hr2.only ho913 (Nat.ne_of_lt lt_g2_g6)
   replace hr4 := hr4.only ho913 (Nat.ne_of_lt lt_g4_g6)
   replace hr5 := hr5.only ho913 (Nat.ne_of_lt lt_g5_g6)
   refine zat 9 (zac) ?_
   refine zaL (by kernel_rfl) ?_
   refine zah (zaf (zaf (zaa (zad (zab) ?_))))
   refine zad (zbS rfl) ?_
   refine zae (zah ?_)
   refine zme rfl (rfl) ?_
   refine zaf (zaa ?_)
   refine zaG rfl (zbg hr4 (fun w914 hr4 ho914 => ?_))
   replace h := h.only ho914 (by first | (right; simp; done) | (left; omega) | (right; simp [*]; done))
   replace hLL := hLL.oq ho914
   replace hr2 := hr2.only ho914 (Nat.ne_of_lt lt_g2_g4)
   replace hr5 := hr5.only ho914 (Nat.ne_of_gt lt_g4_g5)
   replace hr6 := hr6.only ho914 (Nat.ne_of_gt lt_g4_g6)
   refine zae (zah (zaz (zaP ?_)))
   refine zam [_] ⟨⟨_, rfl, Ld.zdY hr4 (by kernel_rfl) rfl⟩, trivial⟩ ?_
   exact ⟨rfl, h.weak fun b hb => by simp [hb], hLL⟩
 ·
  refine zco rfl rfl (zar ([Value.int .i64 0, Value.int .i64 0, Value.int .i64 0, Value.int .i64 0, Value.int .i64 0]) (by kernel_rfl) (fun g6 w6 hg6 hr6 hb6 => ?_))
  have hS915 := hS903.add0 hb6
  refine ⟨hS915, ?_⟩
  have ge_hS903_g6 := Nat.le_trans hS903.size hg6
  have lt_g2_g6 : g2 < g6 := Nat.lt_of_lt_of_le hr2.lt hg6
  have lt_g4_g6 : g4 < g6 := Nat.lt_of_lt_of_le hr4.lt hg6
  have lt_g5_g6 : g5 < g6 := Nat.lt_of_lt_of_le hr5.lt hg6
  replace h := h.newc hb6 hg6 hr6.lt
  replace hLL := hLL.new hb6
  replace hr2 := hr2.new hb6
  replace hr4 := hr4.new hb6
  replace hr5 := hr5.new hb6
  refine zaH 2 (by kernel_rfl) ?_
  refine zbb rfl rfl (zaj (by kernel_rfl) rfl) (hpg _ w6 h) ?_
  rintro _ w20 ⟨rfl, hb20⟩
  have hS916 := hS915.add0 hb20
  refine ⟨hS916, ?_⟩
  replace h := h.new hb20
  replace hLL := hLL.new hb20
  replace hr2 := hr2.new hb20
  replace hr4 := hr4.new hb20
  replace hr5 := hr5.new hb20
  replace hr6 := hr6.new hb20
  refine zaH 3 (by kernel_rfl) ?_
  refine zbb rfl rfl (zaj (by kernel_rfl) rfl) (hfo w20) ?_
  rintro _ w21 ⟨rfl, hb21⟩
  have hS917 := hS916.add0 hb21
  refine ⟨hS917, ?_⟩
  replace h := h.new hb21
  replace hLL := hLL.new hb21
  replace hr2 := hr2.new hb21
  replace hr4 := hr4.new hb21
  replace hr5 := hr5.new hb21
  replace hr6 := hr6.new hb21
  refine zat 4 (zab) ?_
  refine zat 5 (zai rfl rfl) ?_
  refine zat 6 (zai rfl rfl) ?_
  refine zaH 8 (by kernel_rfl) ?_
  refine zbO rfl rfl (zaO 5 (FV) hr6 (fun w919 hr6 ho919 => ?_))
  have hS918 := hS917.aq ho919
  refine ⟨hS918, ?_⟩
  replace h := h.only ho919 (by first | (right; simp; done) | (left; omega) | (right; simp [*]; done))
  replace hLL := hLL.oq ho919
  replace hr2 := hr2.only ho919 (Nat.ne_of_lt lt_g2_g6)
  replace hr4 := hr4.only ho919 (Nat.ne_of_lt lt_g4_g6)
  replace hr5 := hr5.only ho919 (Nat.ne_of_lt lt_g5_g6)
  refine zat 9 (zac) ?_
  refine zaL (by kernel_rfl) ?_
  refine zah (zaf (zaf (zaa (zad (zab) ?_))))
  refine zad (zbS rfl) ?_
  refine zae (zah ?_)
  refine zme rfl (rfl) ?_
  refine zaf (zaa ?_)
  refine zaG rfl (zbg hr4 (fun w920 hr4 ho920 => ?_))
  replace h := h.only ho920 (by first | (right; simp; done) | (left; omega) | (right; simp [*]; done))
  replace hLL := hLL.oq ho920
  replace hr2 := hr2.only ho920 (Nat.ne_of_lt lt_g2_g4)
  replace hr5 := hr5.only ho920 (Nat.ne_of_gt lt_g4_g5)
  replace hr6 := hr6.only ho920 (Nat.ne_of_gt lt_g4_g6)
  refine zae (zah (zaz (zaP ?_)))
  refine zam [_] ⟨⟨_, rfl, Ld.zdY hr4 (by kernel_rfl) rfl⟩, trivial⟩ ?_
  exact ⟨rfl, h.weak fun b hb => by simp [hb], hLL⟩
set_option maxRecDepth 20000 in
theorem openZ (h : Two (GZ q N G V k) Y lo L w) (h0 : G 0 = zbl) : Calls Tryz.prog 22 [.pointer (some ⟨q, 0, none⟩)].toArray w (Ret fun v w' => v = .tuple #[.pointer none, .int .i64 4] ∧ Two (GZ q N G V k) Y lo L w' ∧ LoL lo L w w') := by
 refine zas (fn := Tryz.f22) (rs := [.tmp 2, .tmp 3]) (n := 13) Tryz.func22 rfl rfl Tryz.ntmps22 (by kernel_rfl) rfl ?_
 refine zaf (zaa (zad (zac) (zad (zac) (zae (zah (zaf (zaf (zaa (zad (zab) ?_)))))))))
 refine zao rfl (zaj (by kernel_rfl) rfl) (runZ h h0 _) ?_
 rintro _ w6 ⟨rfl, h, hb6⟩
 refine zad (zac) (zae (zah (zaf (zaa (zad (zab) ?_)))))
 refine zad (zaM rfl rfl) ?_
 refine zae (zah ?_)
 refine ze6 rfl ((by decide)) ?_
 refine zaf (zaa (zad (zab) (zad (zac) (zad (zac) (zae (zah (zaz (zaP ?_))))))))
 refine zam [_, _] ⟨rfl, rfl, trivial⟩ ?_
 exact ⟨rfl, h, hb6⟩
end
set_option maxRecDepth 20000 in
theorem nopen (w : World) : Calls Tryz.prog 22 [.pointer none].toArray w (Ret fun v w' => v = .tuple #[.pointer none, .int .i64 1] ∧ Below w.heap.size w w') := by
 have hrun : ∀ f, Calls Tryz.prog 64 [.pointer none, f].toArray w (Ret fun v w' => v = .int .i64 1 ∧ Below w.heap.size w w') := fun f => by
  have hB := Below.refl w.heap.size w
  have hge := fun w' => getN (.pointer none) w' (.inl rfl)
  have hzl : zP.length = 512 := List.length_replicate
  have hz1 : ∀ v ∈ zP, Value.oneCell' v = true := fun v hv => by rw [(List.mem_replicate.1 hv).2]; rfl
  obtain ⟨Z, hZ⟩ : ∃ Z, zP = Z := ⟨_, rfl⟩
  simp only [hZ] at hge hzl hz1
  refine zas (fn := Tryz.f64) (rs := [.cell 4 39]) (n := 48) Tryz.func64 rfl rfl Tryz.ntmps64 (by kernel_rfl) rfl ?_
  refine zaf (zaa ?_)
  refine zay rfl (zaU ([_]) rfl (fun g2 w2 hg2 hr2 hb2 => ?_))
  replace hB := hB.acc hb2
  refine zay rfl (zar ([Value.int .i64 0]) (by kernel_rfl) (fun g4 w4 hg4 hr4 hb4 => ?_))
  have ge_hB_g4 := Nat.le_trans hB.size hg4
  replace hr2 := hr2.new hb4
  replace hB := hB.acc hb4
  refine zae (zah (zaf (zaa ?_)))
  refine zad (zax hr2) ?_
  refine zao rfl (zaj (by kernel_rfl) rfl) (hge w4) ?_
  rintro _ w11 ⟨rfl, hb11⟩
  replace hr4 := hr4.new hb11
  replace hB := hB.acc hb11
  refine zad (zab) (zad (zai rfl rfl) (zad (zai rfl rfl) ?_))
  refine zay rfl (zar (List.replicate 512 (Value.int .u8 0)) (by kernel_rfl) (fun g5 w5 hg5 hr5 hb5 => ?_))
  have ge_hB_g5 := Nat.le_trans hB.size hg5
  have lt_g4_g5 : g4 < g5 := Nat.lt_of_lt_of_le hr4.lt hg5
  replace hr4 := hr4.new hb5
  replace hB := hB.acc hb5
  refine zaG rfl (zaO 512 (Z) hr5 (fun w901 hr5 ho901 => ?_))
  replace hr4 := hr4.only ho901 (Nat.ne_of_lt lt_g4_g5)
  replace hB := ho901.below hB ge_hB_g5
  refine zaG rfl (zbg hr4 (fun w902 hr4 ho902 => ?_))
  replace hB := ho902.below hB ge_hB_g4
  refine zae (zah (zaf (zaf (zaa ?_))))
  refine zad (zax hr4) ?_
  refine zad (zaM rfl rfl) ?_
  refine zae (zah ?_)
  refine ze6 rfl ((by decide)) ?_
  refine zaf (zaa ?_)
  refine zad (zax hr4) ?_
  refine zaG rfl (zbg hr4 (fun w903 hr4 ho903 => ?_))
  replace hB := ho903.below hB ge_hB_g4
  refine zae (zah (zaz (zaP ?_)))
  refine zam [_] ⟨⟨_, rfl, Ld.zdY hr4 (by kernel_rfl) rfl⟩, trivial⟩ ?_
  exact ⟨rfl, hB⟩
 refine zas (fn := Tryz.f22) (rs := [.tmp 2, .tmp 3]) (n := 13) Tryz.func22 rfl rfl Tryz.ntmps22 (by kernel_rfl) rfl ?_
 refine zaf (zaa (zad (zac) (zad (zac) (zae (zah (zaf (zaf (zaa (zad (zab) ?_)))))))))
 refine zao rfl (zaj (by kernel_rfl) rfl) (hrun _) ?_
 rintro _ w6 ⟨rfl, hb6⟩
 refine zad (zac) (zae (zah (zaf (zaa (zad (zab) ?_)))))
 refine zad (zaM rfl rfl) ?_
 refine zae (zah ?_)
 refine ze6 rfl ((by decide)) ?_
 refine zaf (zaa (zad (zab) (zad (zac) (zad (zac) (zae (zah (zaz (zaP ?_))))))))
 refine zam [_, _] ⟨rfl, rfl, trivial⟩ ?_
 exact ⟨rfl, hb6⟩
set_option maxRecDepth 20000 in
theorem nformat (w : World) : Calls Tryz.prog 24 [.pointer none].toArray w (Ret fun v w' => v = .int .i64 1 ∧ Below w.heap.size w w') := by
 have hB := Below.refl w.heap.size w
 have hpg := fun w' => zlg F0 w'
 have hpu := fun w' => putN (zaD (zcB F0)) (.pointer none) w' (.inl rfl)
 obtain ⟨Q, hQ⟩ : ∃ Q, zaD (zcB F0) = Q := ⟨_, rfl⟩
 simp only [hQ] at hpg hpu
 refine zas (fn := Tryz.f24) (rs := [.tmp 2]) (n := 7) Tryz.func24 rfl rfl Tryz.ntmps24 (by kernel_rfl) rfl ?_
 refine zaf (zaa (zad (zac) (zae (zah (zaf (zaa (zad (zab) ?_)))))))
 refine zad (zee (.int .i64 1) (zfA F0) rfl (by kernel_rfl)) ?_
 refine zao rfl (zaj (by kernel_rfl) rfl) (hpg w) ?_
 rintro _ w5 ⟨rfl, hb5⟩
 replace hB := hB.acc hb5
 refine zao rfl (zaj (by kernel_rfl) rfl) (hpu w5) ?_
 rintro _ w6 ⟨rfl, hb6⟩
 replace hB := hB.acc hb6
 refine zad (zac) (zae (zah (zaz ?_)))
 refine zam [_] ⟨rfl, trivial⟩ ?_
 exact ⟨rfl, hB⟩
set_option maxRecDepth 8000 in
set_option maxHeartbeats 2000000 in
theorem zo2 (w : World) : Calls Tryz.prog 4 [].toArray w (Ret fun v w' => v = .bool true ∧ Below w.heap.size w w') := by
 have hB := Below.refl w.heap.size w
 have hml : maxLen = 9223372036854775807 := by decide
 have hN0 : ∀ W : World, Two None None W.heap.size [] W := fun W => ⟨⟨[], [], rfl, rfl, (fun b hb => nomatch hb), fun b hb => nomatch hb⟩, Nat.le_refl _, fun b hb => nomatch hb⟩
 have hbg := fun W => (begun8 (hN0 W) 5 (by omega) (by omega)).to fun v w' ⟨q, hb, h1, h2, h3, h4, h5⟩ => (show ∃ q hb, v = Value.tuple #[.pointer (some ⟨q, 0, none⟩), .pointer (some ⟨hb, 0, none⟩), .bool true] ∧ Two (GZ q 5 (pgH H0) (fun _ => zbl) 2) None W.heap.size [hb] w' ∧ row w' hb [.pointer (some ⟨q, 0, none⟩)] 50 ∧ W.heap.size ≤ hb ∧ Below W.heap.size W w' from ⟨q, hb, h1, h2, h3, h4, ziU (Below.refl _ _) h5 (Nat.le_refl _)⟩)
 have hzb := zla
 have hzl := zcJ
 have hpu := fun q lo L w' (h' : Two (GZ q 5 (pgH H0) (fun _ => zbl) 2) None lo L w') => gPut h' 0 (by omega) zcJ
 have hoz := fun q lo L w' (h' : Two (GZ q 5 (zfv (pgH H0) 0 zbl) (fun _ => zbl) 2) None lo L w') => openZ h' (if_pos rfl)
 have hnf := fun w' => nformat w'
 have hkn := fun w' => known7 w'
 obtain ⟨n, hn⟩ : ∃ n, n = 20001 := ⟨_, rfl⟩
 obtain ⟨bz, hbz⟩ : ∃ bz, zaY n = bz := ⟨_, rfl⟩
 have hbl : bz.length = n := by rw [← hbz]; simp [zaY]
 have hly := fun q hb lo L p cap w' (h : Two (GZ q 5 (pgH H0) (fun _ => zbl) 2) None lo L w') hr hbL hs hcap hpL => (layM hb p cap bz h (H0_in (by omega)) zkx hr hbL hs hcap hpL).to fun v w2 ⟨h1, h2⟩ => (show v = Value.tuple #[.agg #[.int .i64 0, .int .i64 0], .int .i64 3] ∧ Two (GZ q 5 (pgH H0) (fun _ => zbl) 2) None lo L w2 ∧ LoL lo L w' w2 from by
   rcases h1 with ⟨_, h1, h3⟩ | ⟨h1, _⟩ | ⟨h1, _⟩
   · exact ⟨h1, h3, h2⟩
   · omega
   · omega)
 rw [hbl] at hly
 obtain ⟨Z, hZ⟩ : ∃ Z, zbl = Z := ⟨_, rfl⟩
 simp only [hZ] at hzb hzl hpu hoz hbg hly
 have hpg : ∀ g h : Nat, ∀ {lo : Nat}, ∀ c o, (some ⟨g, 0, none⟩ : Option Addr) = some ⟨c, o, none⟩ → c < lo ∨ c ∈ [g, h] := fun g h _ c o e => by cases e; exact .inr (by simp)
 generalize pgH H0 = P0 at *
 refine zas (fn := Tryz.f4) (rs := [.cell 0 4]) (n := 179) Tryz.func4 rfl rfl Tryz.ntmps4 (by kernel_rfl) rfl ?_
 refine zaf (zaa ?_)
 refine zay rfl (zar ([Value.bool false]) (by kernel_rfl) (fun g0 w0 hg0 hr0 hb0 => ?_))
 have ge_hB_g0 := Nat.le_trans hB.size hg0
 replace hB := hB.acc hb0
 refine zae (zah (zaf (zaa ?_)))
 refine zay rfl (zar ([Value.pointer none]) (by kernel_rfl) (fun g1 w1 hg1 hr1 hb1 => ?_))
 have ge_hB_g1 := Nat.le_trans hB.size hg1
 have lt_g0_g1 : g0 < g1 := Nat.lt_of_lt_of_le hr0.lt hg1
 replace hr0 := hr0.new hb1
 replace hB := hB.acc hb1
 refine zae (zah (zaf (zaa ?_)))
 refine zay rfl (mk_two (e := 26) (.pointer none) (.pointer (some ⟨g1, 0, none⟩)) ([.pointer none]) ([.pointer (some ⟨g1, 0, none⟩)]) ([Value.pointer none]) 1 (by kernel_rfl) (by kernel_rfl) rfl rfl rfl rfl (by first | rfl | (simp; done) | (simp [zal, *]; done)) (by first | rfl | (simp; done) | (simp [zal, *]; done)) ⟨by decide, by decide⟩ (fun g25 w25 hg25 hr25 hb25 => ?_))
 have ge_hB_g25 := Nat.le_trans hB.size hg25
 have lt_g0_g25 : g0 < g25 := Nat.lt_of_lt_of_le hr0.lt hg25
 have lt_g1_g25 : g1 < g25 := Nat.lt_of_lt_of_le hr1.lt hg25
 replace hr0 := hr0.new hb25
 replace hr1 := hr1.new hb25
 replace hB := hB.acc hb25
 refine zad (zac) (zae (zah (zaf (zaf (zaa (zad (zac) (zae (zah (zaE ?_)))))))))
 have l0 := hr0.lt
 have l1 := hr1.lt
 refine W_loopM (α := Nat × List Nat) (0, []) (fun k => dms k.2) (fun k => [(0, .pointer (some ⟨g0, 0, none⟩)), (2, .slice (some ⟨g25, 0, none⟩) 2 2), (3, .int .i64 (k.1 : Int))])
   (fun k w' => k.1 ≤ 2 ∧ row w' g0 [.bool false] 4 ∧ row w' g1 [.pointer none] 50 ∧ row w' g25 [.pointer none, .pointer (some ⟨g1, 0, none⟩)] 26 ∧ zhe w' k.2 ∧ (∀ D ∈ k.2, g25 < D) ∧ Below w.heap.size w w') (fun k => 2 - k.1)
   ⟨rfl, rfl, rfl, rfl⟩ ⟨Nat.zero_le _, hr0, hr1, hr25, zhe.nil _, (fun D hD => by cases hD), hB⟩ ?_
 clear hr0 hr1 hr25 hB
 rintro ⟨i, ds⟩ f wr ⟨hi, hr0, hr1, hr25, hmk, hds, hB⟩
 dsimp only at *
 have hBr := Below.refl wr.heap.size wr
 refine zaf (zaf (zaa (zad (zab) (zad (zab) ?_))))
 refine zad (zaJ (e := 26) (sz := 1) (by kernel_rfl) rfl rfl) ?_
 refine zad (za2 rfl rfl) ?_
 refine zae (zah ?_)
 refine zbf rfl (fun hlt => ?_) (fun hlt => ?_)
 ·
  refine zau (zah (zaf (zaE (zaf ?_))))
  obtain ⟨q, hq, hQ⟩ : ∃ q, [Value.pointer none, Value.pointer (some ⟨g1, 0, none⟩)][i]? = some q ∧ ∀ w', row w' g1 [.pointer none] 50 → zjG w' q := by
    match i, hlt with
    | 0, _ => exact ⟨_, rfl, fun _ _ => .inl rfl⟩
    | 1, _ => exact ⟨_, rfl, fun _ h => .inr ⟨g1, rfl, h⟩⟩
  refine zaa (zad (zab) (zad (zab) ?_))
  refine zad (zaX (e := 26) (by kernel_rfl) rfl rfl (i) (by omega) (by omega)) ?_
  refine zad (zaI rfl (Ld.zdY hr25 (by kernel_rfl) (show [Value.pointer none, Value.pointer (some ⟨g1, 0, none⟩)][0 + i]? = some q by rw [Nat.zero_add]; exact hq))) ?_
  refine zad (zac) (zae (zah (zaf (zaa (zad (zab) ?_)))))
  refine zao rfl (zaj (by kernel_rfl) rfl) (ngive (hQ wr hr1)) ?_
  rintro _ w38 ⟨rfl, hb38⟩
  replace hr0 := hr0.new hb38
  replace hr1 := hr1.new hb38
  replace hr25 := hr25.new hb38
  replace hB := hB.acc hb38
  replace hBr := hBr.acc hb38
  refine zad (zab) (zad (zai rfl rfl) (zad (zai rfl rfl) (zad (zac) (zad (zac) (zae (zah (zaf (zaa (zad (zab) ?_)))))))))
  refine zao rfl (zaj (by kernel_rfl) rfl) (nlay (hQ w38 hr1) .nilFunc) ?_
  rintro _ w43 ⟨rfl, hb43⟩
  replace hr0 := hr0.new hb43
  replace hr1 := hr1.new hb43
  replace hr25 := hr25.new hb43
  replace hB := hB.acc hb43
  replace hBr := hBr.acc hb43
  refine zad (zab) (zad (zai rfl rfl) (zad (zai rfl rfl) ?_))
  refine zay rfl (zar ([Value.int .i64 0, Value.int .i64 0]) (by kernel_rfl) (fun g7 w7 hg7 hr7 hb7 => ?_))
  have ge_hB_g7 := Nat.le_trans hB.size hg7
  have ge_hBr_g7 := Nat.le_trans hBr.size hg7
  have lt_g0_g7 : g0 < g7 := Nat.lt_of_lt_of_le hr0.lt hg7
  have lt_g1_g7 : g1 < g7 := Nat.lt_of_lt_of_le hr1.lt hg7
  have lt_g25_g7 : g25 < g7 := Nat.lt_of_lt_of_le hr25.lt hg7
  replace hr0 := hr0.new hb7
  replace hr1 := hr1.new hb7
  replace hr25 := hr25.new hb7
  replace hB := hB.acc hb7
  replace hBr := hBr.acc hb7
  refine zaG rfl (zaO 2 ([.int .i64 0, .int .i64 0]) hr7 (fun w901 hr7 ho901 => ?_))
  replace hr0 := hr0.only ho901 (Nat.ne_of_lt lt_g0_g7)
  replace hr1 := hr1.only ho901 (Nat.ne_of_lt lt_g1_g7)
  replace hr25 := hr25.only ho901 (Nat.ne_of_lt lt_g25_g7)
  replace hB := ho901.below hB ge_hB_g7
  replace hBr := ho901.below hBr ge_hBr_g7
  refine zad (zac) (zae (zah (zaf (zaa (zad (zab) ?_)))))
  refine zad (zbi ([Value.int .i64 0, Value.int .i64 0]) (by kernel_rfl)) ?_
  refine zao rfl (zaj (by kernel_rfl) rfl) (nget (hQ w901 hr1) 0 0) ?_
  rintro _ w49 ⟨rfl, hb49⟩
  replace hr0 := hr0.new hb49
  replace hr1 := hr1.new hb49
  replace hr25 := hr25.new hb49
  replace hr7 := hr7.new hb49
  replace hB := hB.acc hb49
  replace hBr := hBr.acc hb49
  refine zad (zab) (zad (zai rfl rfl) (zad (zai rfl rfl) (zad (zac) (zad (zac) (zae (zah (zaf (zaa (zad (zab) ?_)))))))))
  refine zad (zbi ([Value.int .i64 0, Value.int .i64 0]) (by kernel_rfl)) ?_
  refine zao rfl (zaj (by kernel_rfl) rfl) (nput (hQ w49 hr1) 0 0) ?_
  rintro _ w55 ⟨rfl, hb55⟩
  replace hr0 := hr0.new hb55
  replace hr1 := hr1.new hb55
  replace hr25 := hr25.new hb55
  replace hr7 := hr7.new hb55
  replace hB := hB.acc hb55
  replace hBr := hBr.acc hb55
  refine zad (zab) (zad (zai rfl rfl) (zad (zai rfl rfl) ?_))
  refine zay rfl (zar ([Value.int .i64 0, Value.int .i64 0]) (by kernel_rfl) (fun g11 w11 hg11 hr11 hb11 => ?_))
  have ge_hB_g11 := Nat.le_trans hB.size hg11
  have ge_hBr_g11 := Nat.le_trans hBr.size hg11
  have lt_g0_g11 : g0 < g11 := Nat.lt_of_lt_of_le hr0.lt hg11
  have lt_g1_g11 : g1 < g11 := Nat.lt_of_lt_of_le hr1.lt hg11
  have lt_g25_g11 : g25 < g11 := Nat.lt_of_lt_of_le hr25.lt hg11
  have lt_g7_g11 : g7 < g11 := Nat.lt_of_lt_of_le hr7.lt hg11
  replace hr0 := hr0.new hb11
  replace hr1 := hr1.new hb11
  replace hr25 := hr25.new hb11
  replace hr7 := hr7.new hb11
  replace hB := hB.acc hb11
  replace hBr := hBr.acc hb11
  refine zaG rfl (zaO 2 ([.int .i64 0, .int .i64 0]) hr11 (fun w902 hr11 ho902 => ?_))
  replace hr0 := hr0.only ho902 (Nat.ne_of_lt lt_g0_g11)
  replace hr1 := hr1.only ho902 (Nat.ne_of_lt lt_g1_g11)
  replace hr25 := hr25.only ho902 (Nat.ne_of_lt lt_g25_g11)
  replace hr7 := hr7.only ho902 (Nat.ne_of_lt lt_g7_g11)
  replace hB := ho902.below hB ge_hB_g11
  replace hBr := ho902.below hBr ge_hBr_g11
  refine zad (zac) (zae (zah (zaf (zaf (zaa (zad (zab) ?_))))))
  refine zad (zaM rfl rfl) ?_
  refine zad (zab) ?_
  refine zdc 60 rfl ((by omega)) ?_
  refine zan rfl (zad (zab) (zan rfl ?_))
  refine zad (zaM rfl rfl) ?_
  refine zad (zaw rfl) (zad (zab) ?_)
  refine zdc 64 rfl ((by omega)) ?_
  refine zan rfl (zad (zab) (zan rfl ?_))
  refine zad (zaM rfl rfl) ?_
  refine zad (zaw rfl) (zad (zab) ?_)
  refine zdc 68 rfl ((by omega)) ?_
  refine zan rfl (zad (zab) (zan rfl ?_))
  refine zad (zaM rfl rfl) ?_
  refine zad (zaw rfl) (zad (zab) ?_)
  refine zdc 72 rfl ((by omega)) ?_
  refine zan rfl (zad (zab) (zan rfl ?_))
  refine zao rfl (zaj (by kernel_rfl) rfl) (nback (hQ w902 hr1) 1) ?_
  rintro _ w74 ⟨rfl, hb74⟩
  replace hr0 := hr0.new hb74
  replace hr1 := hr1.new hb74
  replace hr25 := hr25.new hb74
  replace hr7 := hr7.new hb74
  replace hr11 := hr11.new hb74
  replace hB := hB.acc hb74
  replace hBr := hBr.acc hb74
  refine zan rfl ?_
  refine zad (zaM rfl rfl) ?_
  refine zad (zaw rfl) (zad (zab) ?_)
  refine zdc 77 rfl ((by omega)) ?_
  refine zan rfl (zad (zab) (zan rfl ?_))
  refine zad (zbi ([Value.int .i64 0, Value.int .i64 0]) (by kernel_rfl)) ?_
  refine zan rfl ?_
  refine zao rfl (zaj (by kernel_rfl) rfl) (ntake (hQ w74 hr1) 0 0) ?_
  rintro _ w80 ⟨rfl, hb80⟩
  replace hr0 := hr0.new hb80
  replace hr1 := hr1.new hb80
  replace hr25 := hr25.new hb80
  replace hr7 := hr7.new hb80
  replace hr11 := hr11.new hb80
  replace hB := hB.acc hb80
  replace hBr := hBr.acc hb80
  refine zan rfl ?_
  refine zad (zaM rfl rfl) ?_
  refine zad (zaw rfl) (zad (zab) ?_)
  refine zdc 83 rfl ((by omega)) ?_
  refine zan rfl (zad (zab) (zan rfl ?_))
  refine zao rfl (zaj (by kernel_rfl) rfl) (nsetroot (hQ w80 hr1) 0) ?_
  rintro _ w85 ⟨rfl, hb85⟩
  replace hr0 := hr0.new hb85
  replace hr1 := hr1.new hb85
  replace hr25 := hr25.new hb85
  replace hr7 := hr7.new hb85
  replace hr11 := hr11.new hb85
  replace hB := hB.acc hb85
  replace hBr := hBr.acc hb85
  refine zan rfl ?_
  refine zad (zaM rfl rfl) ?_
  refine zad (zaw rfl) (zad (zab) ?_)
  refine zdc 88 rfl ((by omega)) ?_
  refine zan rfl (zad (zab) (zan rfl ?_))
  refine zao rfl (zaj (by kernel_rfl) rfl) (nroom (hQ w85 hr1)) ?_
  rintro _ w90 ⟨rfl, hb90⟩
  replace hr0 := hr0.new hb90
  replace hr1 := hr1.new hb90
  replace hr25 := hr25.new hb90
  replace hr7 := hr7.new hb90
  replace hr11 := hr11.new hb90
  replace hB := hB.acc hb90
  replace hBr := hBr.acc hb90
  refine zan rfl ?_
  refine zad (zaM rfl rfl) ?_
  refine zad (zaw rfl) (zad (zab) ?_)
  refine zdc 93 rfl ((by omega)) ?_
  refine zan rfl (zad (zab) (zan rfl ?_))
  refine zao rfl (zaj (by kernel_rfl) rfl) (nroot (hQ w90 hr1)) ?_
  rintro _ w95 ⟨rfl, hb95⟩
  replace hr0 := hr0.new hb95
  replace hr1 := hr1.new hb95
  replace hr25 := hr25.new hb95
  replace hr7 := hr7.new hb95
  replace hr11 := hr11.new hb95
  replace hB := hB.acc hb95
  replace hBr := hBr.acc hb95
  refine zan rfl ?_
  refine zad (zaM rfl rfl) ?_
  refine zad (zaw rfl) (zad (zab) ?_)
  refine zdc 98 rfl ((by omega)) ?_
  refine zan rfl (zad (zab) (zan rfl ?_))
  refine zao rfl (zaj (by kernel_rfl) rfl) (nuses (hQ w95 hr1)) ?_
  rintro _ w100 ⟨rfl, hb100⟩
  replace hr0 := hr0.new hb100
  replace hr1 := hr1.new hb100
  replace hr25 := hr25.new hb100
  replace hr7 := hr7.new hb100
  replace hr11 := hr11.new hb100
  replace hB := hB.acc hb100
  replace hBr := hBr.acc hb100
  refine zan rfl ?_
  refine zad (zaJ (e := 3) (sz := 1) (by kernel_rfl) rfl rfl) ?_
  refine zan rfl ?_
  refine zad (zaM rfl rfl) ?_
  refine zad (zaw rfl) (zae (zah ?_))
  refine zcL rfl ((by omega)) ?_
  refine zau (zah (zaf (zaf (zaa (zad (zab) ?_)))))
  refine zao rfl (zaj (by kernel_rfl) rfl) (nall (hQ w100 hr1)) ?_
  rintro _ w105 ⟨ga1, rfl, hga1, hga2, hseq1, hb105⟩
  replace hr0 := hr0.new hb105
  replace hr1 := hr1.new hb105
  replace hr25 := hr25.new hb105
  replace hr7 := hr7.new hb105
  replace hr11 := hr11.new hb105
  replace hB := hB.acc hb105
  replace hBr := hBr.acc hb105
  refine zad (zo0 (by kernel_rfl) rfl) ?_
  refine zae (zah ?_)
  refine zjC rfl (rfl) ?_
  refine zau (zah (zaf (zaa (zad (zab) ?_))))
  refine zao rfl (zaj (by kernel_rfl) rfl) (nall (hQ w105 hr1)) ?_
  rintro _ w108 ⟨ga, rfl, hga, hgl, hseq, hb108⟩
  replace hr0 := hr0.new hb108
  replace hr1 := hr1.new hb108
  replace hr25 := hr25.new hb108
  replace hr7 := hr7.new hb108
  replace hr11 := hr11.new hb108
  replace hB := hB.acc hb108
  replace hBr := hBr.acc hb108
  refine zae (zah (zaE ?_))
  have hmkW := hmk.new hBr
  have hszr := hBr.size
  have l25 := hr25.lt
  refine zjU (ps := [109, 110]) (xs := []) (ks := [ga]) (fun _ h => h) rfl (by kernel_rfl) hseq (Below.refl _ _) (fun v hv => by cases hv) (by kernel_rfl) (by simp) (fun b hb => by rw [List.mem_singleton.1 hb]; exact hgl)
    (fun _ W => row W g0 [.bool false] 4 ∧ row W g1 [.pointer none] 50 ∧ row W g25 [.pointer none, .pointer (some ⟨g1, 0, none⟩)] 26 ∧ zhe W ds ∧ Below w.heap.size w W)
    (fun _ _ => False) (fun k W W' ⟨h1, h2, h3, h4, h5⟩ hs => ⟨h1.soft hs, h2.soft hs, h3.soft hs, h4.soft hs fun D hD => by have := hmkW.lt D hD; exact this, h5.soft hs hB.size⟩) (fun _ _ _ h _ => h.elim) ⟨hr0, hr1, hr25, hmkW, hB⟩ (fun l k v W1 hv => by simp at hv) ?_ (fun _ _ _ _ h _ => h.elim)
  rintro D W hDs ⟨hr0, hr1, hr25, hmk2, hB2⟩ hdef
  have hDn : D ∉ ds := fun hm => by have := hmkW.lt D hm; omega
  have hD25 : g25 < D := by omega
  refine za6 (za6 (zah (zaa (zad (zab) ?_))))
  refine zad (zaN rfl rfl (show IntKind.i64.wrap ((i : Int) + 1) = ((i + 1 : Nat) : Int) by rw [w64 (by omega)]; omega)) ?_
  refine zad (zac) (zae ?_)
  refine zbw ⟨(i + 1, D :: ds), by show 2 - (i + 1) < 2 - i; omega, ⟨rfl, rfl, rfl, rfl⟩, by show i + 1 ≤ 2; omega, hr0, hr1, hr25, hmk2.cons hdef hDn, fun E hE => ?_, hB2⟩
  rcases List.mem_cons.1 hE with rfl | hE
  · exact hD25
  · exact hds E hE
 ·
  have hgd : ∀ D ∈ ds, w.heap.size ≤ D := fun D hD => by have := hds D hD; omega
  have hg0 : g0 ∉ ds := fun hm => by have := hds _ hm; omega
  refine zbm (zbW (zcr (zbt (zah (zaf (zaa ?_))))))
  refine zao rfl (zaj (by kernel_rfl) rfl) (nopen wr) ?_
  rintro _ w112 ⟨rfl, hb112⟩
  replace hr0 := hr0.new hb112
  replace hB := hB.acc hb112
  replace hBr := hBr.acc hb112
  refine zad (zab) (zad (zai rfl rfl) (zad (zai rfl rfl) (zad (zac) (zad (zac) (zae (zah (zaf (zaa ?_))))))))
  have hszA := hBr.size
  have hszB := hB.size
  have l0b := hr0.lt
  have hobt : ∃ lo1, (w112).heap.size = lo1 := ⟨_, rfl⟩
  obtain ⟨lo1, hlo1⟩ := hobt
  refine zao rfl (zaj (by kernel_rfl) rfl) (hbg w112) ?_
  rintro _ w116 ⟨q, hb, rfl, hT, hrb, hsb, hb116⟩
  rw [hlo1] at hT
  replace hr0 := hr0.new hb116
  replace hB := hB.acc hb116
  replace hBr := hBr.acc hb116
  refine zad (zab) (zad (zai rfl rfl) (zad (zai rfl rfl) (zad (zai rfl rfl) (zad (zac) (zad (zac) (zad (zac) (zae (zah (zaf (zaf (zaa ?_)))))))))))
  refine zad (zab) ?_
  refine zad (zbS rfl) ?_
  refine zad (zab) ?_
  refine zkC 122 rfl ((by simp)) ?_
  refine zan rfl (zad (zab) (zan rfl ?_))
  refine zad (zbi (bv Z) (by rw [hzb]; kernel_rfl)) ?_
  refine zan rfl ?_
  refine zao rfl (zaj (by kernel_rfl) rfl) (hpu q lo1 [hb] w116 hT) ?_
  rintro _ w125 ⟨rfl, hT2, hb125⟩
  replace hr0 := hr0.kl hb125
  replace hB := ziU hB hb125 (by omega)
  replace hBr := ziU hBr hb125 (by omega)
  refine zan rfl ?_
  refine zad (zaM rfl rfl) ?_
  refine zad (zaw rfl) (zae (zah ?_))
  refine zcL rfl ((by simp)) ?_
  refine zau (zah (zaf (zaa (zad (zab) ?_))))
  refine zao rfl (zaj (by kernel_rfl) rfl) (hoz q lo1 [hb] w125 hT2) ?_
  rintro _ w130 ⟨rfl, hT3, hb130⟩
  replace hr0 := hr0.kl hb130
  replace hB := ziU hB hb130 (by omega)
  replace hBr := ziU hBr hb130 (by omega)
  refine zad (zab) (zad (zai rfl rfl) (zad (zai rfl rfl) (zad (zac) (zad (zac) (zae (zah (zaf (zaa ?_))))))))
  have hszC := hBr.size
  have hszD := hB.size
  have l0c := hr0.lt
  have hobt : ∃ lo2, (w130).heap.size = lo2 := ⟨_, rfl⟩
  obtain ⟨lo2, hlo2⟩ := hobt
  refine zao rfl (zaj (by kernel_rfl) rfl) (hbg w130) ?_
  rintro _ w134 ⟨q2, hb2, rfl, hT4, hrb2, hsb2, hb134⟩
  rw [hlo2] at hT4
  replace hr0 := hr0.new hb134
  replace hB := hB.acc hb134
  replace hBr := hBr.acc hb134
  refine zad (zab) (zad (zai rfl rfl) (zad (zai rfl rfl) (zad (zai rfl rfl) (zad (zac) (zad (zac) (zad (zac) (zae (zah (zaf (zaf (zaa ?_)))))))))))
  refine zad (zab) ?_
  refine zad (zbS rfl) ?_
  refine zae (zah ?_)
  refine ziw rfl (rfl) ?_
  refine zau (zah (zaf (zaa (zad (zab) ?_))))
  refine zay rfl (zjS (e := 5) n [zdm 0] 1 1 (zdm 0) (by kernel_rfl) (by kernel_rfl) ⟨_, rfl, by omega⟩ ⟨_, rfl, by omega⟩ (by simp) (by simp) (by omega) (by omega) (fun g142 w142 hg142 hr142 hb142 => ?_))
  have ge_hB_g142 := Nat.le_trans hB.size hg142
  have ge_hBr_g142 := Nat.le_trans hBr.size hg142
  have lt_g0_g142 : g0 < g142 := Nat.lt_of_lt_of_le hr0.lt hg142
  have lt_hb2_g142 : hb2 < g142 := Nat.lt_of_lt_of_le hrb2.lt hg142
  replace hr0 := hr0.new hb142
  replace hT4 := hT4.newc hb142 hg142 hr142.lt
  replace hrb2 := hrb2.new hb142
  replace hB := hB.acc hb142
  replace hBr := hBr.acc hb142
  rw [show List.replicate (n * 1) (zdm 0) = bv bz by rw [Nat.mul_one, ← zh4, hbz]] at hr142
  have hs142 := hr142.slA (m := n) (sz := 1) (by rw [zal, hbl, Nat.mul_one]) (by omega)
  refine zao rfl (zaj (by kernel_rfl) rfl) (hly q2 hb2 lo2 _ _ _ w142 hT4 hrb2 (.inr (by simp)) hs142 (Nat.le_refl _) (hpg g142 hb2)) ?_
  rintro _ w143 ⟨rfl, hT5, hb143⟩
  replace hr0 := hr0.kl hb143
  replace hB := ziU hB hb143 (by omega)
  replace hBr := ziU hBr hb143 (by omega)
  refine zad (zab) (zad (zai rfl rfl) (zad (zai rfl rfl) ?_))
  refine zay rfl (zar ([Value.int .i64 0, Value.int .i64 0]) (by kernel_rfl) (fun g23 w23 hg23 hr23 hb23 => ?_))
  have ge_hB_g23 := Nat.le_trans hB.size hg23
  have ge_hBr_g23 := Nat.le_trans hBr.size hg23
  have lt_g0_g23 : g0 < g23 := Nat.lt_of_lt_of_le hr0.lt hg23
  replace hr0 := hr0.new hb23
  replace hB := hB.acc hb23
  replace hBr := hBr.acc hb23
  refine zaG rfl (zaO 2 ([.int .i64 0, .int .i64 0]) hr23 (fun w903 hr23 ho903 => ?_))
  replace hr0 := hr0.only ho903 (Nat.ne_of_lt lt_g0_g23)
  replace hB := ho903.below hB ge_hB_g23
  replace hBr := ho903.below hBr ge_hBr_g23
  refine zad (zac) (zae (zah (zaf (zaa (zad (zab) ?_)))))
  refine zad (za9 rfl rfl) ?_
  refine zad (zab) ?_
  refine zdz 148 rfl (rfl) ?_
  refine zan rfl (zad (zab) (zan rfl ?_))
  refine zad (za9 rfl rfl) ?_
  refine zad (zaA rfl) (zad (zab) ?_)
  refine zdz 152 rfl (rfl) ?_
  refine zan rfl ?_
  refine zao rfl (zaj (by kernel_rfl) rfl) (hnf w903) ?_
  rintro _ w153 ⟨rfl, hb153⟩
  replace hr0 := hr0.new hb153
  replace hr23 := hr23.new hb153
  replace hB := hB.acc hb153
  replace hBr := hBr.acc hb153
  refine zan rfl ?_
  refine zad (za9 rfl rfl) ?_
  refine zad (zaA rfl) (zad (zab) ?_)
  refine zdz 156 rfl (rfl) ?_
  refine zan rfl (zad (zab) (zan rfl ?_))
  refine zad (za9 rfl rfl) ?_
  refine zad (zaA rfl) (zad (zab) ?_)
  refine zdz 160 rfl (rfl) ?_
  refine zan rfl ?_
  refine zao rfl (zaj (by kernel_rfl) rfl) (zgS (-1) w153) ?_
  rintro _ _ ⟨rfl, rfl⟩
  refine zan rfl ?_
  refine zad (za9 rfl rfl) ?_
  refine zad (zaA rfl) (zad (zab) ?_)
  refine zdz 164 rfl (rfl) ?_
  refine zan rfl ?_
  refine zao rfl (zaj (by kernel_rfl) rfl) (zgS 399 w153) ?_
  rintro _ _ ⟨rfl, rfl⟩
  refine zan rfl ?_
  refine zad (za9 rfl rfl) ?_
  refine zad (zaA rfl) (zad (zab) ?_)
  refine zdz 168 rfl (rfl) ?_
  refine zan rfl ?_
  refine zao rfl (zaj (by kernel_rfl) rfl) (zgS 400 w153) ?_
  rintro _ _ ⟨rfl, rfl⟩
  refine zan rfl ?_
  refine zad (za9 rfl rfl) ?_
  refine zad (zaA rfl) (zad (zab) ?_)
  refine zdz 172 rfl (rfl) ?_
  refine zan rfl ?_
  refine zao rfl (zaj (by kernel_rfl) rfl) (zgS 20000 w153) ?_
  rintro _ _ ⟨rfl, rfl⟩
  refine zan rfl ?_
  refine zad (za9 rfl rfl) ?_
  refine zad (zaA rfl) (zad (zab) ?_)
  refine zdz 176 rfl (rfl) ?_
  refine zan rfl ?_
  refine zao rfl (zaj (by kernel_rfl) rfl) (hkn w153) ?_
  rintro _ w177 ⟨rfl, hb177⟩
  replace hr0 := hr0.new hb177
  replace hr23 := hr23.new hb177
  replace hB := hB.acc hb177
  replace hBr := hBr.acc hb177
  refine zad (zaA rfl) ?_
  have hmkE := hmk.new hBr
  refine zaG rfl (zbg hr0 (fun w904 hr0 ho904 => ?_))
  replace hr23 := hr23.only ho904 (Nat.ne_of_gt lt_g0_g23)
  replace hB := ho904.below hB ge_hB_g0
  have hmkF := hmkE.only ho904 hg0
  refine zae (zah (zaz ?_))
  refine znU ds hmkF rfl (fun w9 hk => ⟨[.bool true], ⟨⟨_, rfl, Ld.zdY (hr0.kpd hk hg0) (by kernel_rfl) rfl⟩, trivial⟩, rfl, hB.kpd hk hgd⟩)
end Go.Proofs.YtdbogkndglbffaaGreat
