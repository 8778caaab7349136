/- The disk and the document's beside one another: what each call does to both. -/
import Derived.Test.YtpndhildmfmcgaaDiskT
import Derived.Test.YtpndhildmfmcgaaDiskM
import Derived.Test.YtpndhildmfmcgaaVm17
namespace Go.Proofs.Ytpndhildmfmcgaa
open Go Go.RowKit Coup

theorem row_inj {w : World} {g t : Nat} {l l' : List Value} (h1 : Coup.row w g l t) (h2 : Coup.row w g l' t) : l = l' := by
  unfold Coup.row at h1 h2
  rw [h1] at h2
  have := Option.some.inj h2
  simpa using this
theorem rf_mv {w w' : World} {g pv : Nat} {G : List Nat} {D' : Dk} {ov cv : Nat} (h : ∃ G' vs', RfM w' g pv G' D' ov cv vs' ∧ ∀ b ∈ G', b ∈ G ∨ w.heap.size ≤ b) (k : Kp [g, pv] w w') : ∃ C', RfX w' g C' D' ∧ Mv ([g, pv] ++ G) C' w w' := by
  obtain ⟨G', vs', h1, h2⟩ := h
  refine ⟨[g, pv] ++ G', ⟨pv, G', ov, cv, vs', rfl, h1⟩, k.weak fun b _ hb => List.mem_append_left _ hb, fun b hb => ?_⟩
  rcases List.mem_append.1 hb with hb | hb
  · exact .inl (List.mem_append_left _ hb)
  · exact (h2 b hb).imp (List.mem_append_right _) id
section
variable {Y : World → List Nat → Prop} [Thing Y] {g lo : Nat} {L : List Nat} {D : Dk} {w : World}
omit [Thing Y] in
theorem tOk (h : Two (DZ g D) Y lo L w) : DkOk D ∧ 0 < D.V.length := by
  obtain ⟨⟨B, C, h1, h2, h3, h4⟩, h5, h6⟩ := h
  exact ⟨h1.ok, h1.pos⟩
theorem tWrite (h : Two (DZ g D) Y lo L w) (i : Int) (s : Sec) (hs : s.length = 128) (hsh : shortD D 90000) :
    Calls Try.prog 17 [.pointer (some ⟨g, 0, none⟩), .int .i64 i, .agg (bv s).toArray].toArray w (Ret fun v w' => v = .int .i64 (writeE D i) ∧ Two (DZ g (writeA D i s)) Y lo L w' ∧ LoL lo L w w') :=
  h.left fun B hX _ => write hX i s hs hsh
theorem tFlush (h : Two (DZ g D) Y lo L w) :
    Calls Try.prog 16 [.pointer (some ⟨g, 0, none⟩)].toArray w (Ret fun v w' => v = .int .i64 (if stepOk D then 0 else 10) ∧ Two (DZ g (flushD D)) Y lo L w' ∧ LoL lo L w w') :=
  h.left fun B hX _ => (flush hX).to fun _ _ ⟨h1, h2, h3⟩ => ⟨h1, B, h2, .of_kp h3⟩
theorem tFuse (h : Two (DZ g D) Y lo L w) (k : Int) (hk : k ≤ 9223372036854775807) :
    Calls Try.prog 15 [.pointer (some ⟨g, 0, none⟩), .int .i64 k].toArray w (Ret fun v w' => v = .int .i64 (if 0 ≤ k then 0 else 2) ∧ Two (DZ g (fuseA D k)) Y lo L w' ∧ LoL lo L w w') :=
  h.left fun B hX _ => (fuse hX k hk).to fun _ _ ⟨h1, h2, h3⟩ => ⟨h1, B, h2, .of_kp h3⟩
theorem tCrash (h : Two (DZ g D) Y lo L w) (pp : Option Addr) (np cp : Nat) (picks : List Int) (hpk : SlAt w pp np 1 (iv picks)) (hpkb : 0 < np → ∀ b o, pp = some ⟨b, o, none⟩ → b < lo ∨ b ∈ L) :
    Calls Try.prog 20 [.pointer (some ⟨g, 0, none⟩), .slice pp np cp].toArray w (Ret fun v w' => v = .int .i64 0 ∧ Two (DZ g (crashD D picks)) Y lo L w' ∧ LoL lo L w w') :=
  h.left fun B hX hB => (crash hX pp np cp picks hpk fun h0 b o e hm => (hpkb h0 b o e).elim (fun hl => absurd (hB b hm).1 (Nat.not_le.2 hl)) (hB b hm).2).to fun _ _ ⟨h1, h2, h3⟩ => ⟨h1, B, h2, .of_kp h3⟩
omit [Thing Y]
theorem tSectors (h : Two (DZ g D) Y lo L w) : Calls Try.prog 27 [.pointer (some ⟨g, 0, none⟩)].toArray w (Ret fun v w' => v = .int .i64 (D.V.length : Int) ∧ w = w') := by
  obtain ⟨⟨B, C, h1, h2, h3, h4⟩, h5, h6⟩ := h
  exact sectors h1
theorem tDead (h : Two (DZ g D) Y lo L w) : Calls Try.prog 18 [.pointer (some ⟨g, 0, none⟩)].toArray w (Ret fun v w' => v = .bool D.dead ∧ w = w') := by
  obtain ⟨⟨B, C, h1, h2, h3, h4⟩, h5, h6⟩ := h
  exact dead h1
theorem tRead (h : Two (DZ g D) Y lo L w) (i : Int) : Calls Try.prog 23 [.pointer (some ⟨g, 0, none⟩), .int .i64 i].toArray w (Ret fun v w' => v = .tuple #[.agg (bv (if inD D i then readD D i.toNat else zeroS)).toArray, .int .i64 (if inD D i then 0 else 2)] ∧ Below w.heap.size w w') := by
  obtain ⟨⟨B, C, h1, h2, h3, h4⟩, h5, h6⟩ := h
  exact read h1 i
theorem tOpen (h : Two (DZ g D) Y lo L w) : Calls Try.prog 22 [.pointer (some ⟨g, 0, none⟩)].toArray w (Ret fun v w' => ∃ p c, v = .slice p (opI D).length c ∧ SlAt w' p (opI D).length 1 (iv (opI D)) ∧ (∀ b o, p = some ⟨b, o, none⟩ → w.heap.size ≤ b) ∧ Below w.heap.size w w') := by
  obtain ⟨⟨B, C, h1, h2, h3, h4⟩, h5, h6⟩ := h
  exact openC h1
end
section
variable {X : World → List Nat → Prop} [Thing X] {g lo : Nat} {L : List Nat} {D : Dk} {w : World}
theorem uWrite (h : Two X (RZ g D) lo L w) (i : Nat) (s : Sec) (hi : i < D.V.length) (hs : s.length = 128) (hsh : shortD D 90000) :
    Calls Try.prog 32 [.pointer (some ⟨g, 0, none⟩), .int .i64 (i : Int), .agg (bv s).toArray].toArray w (Ret fun v w' => v = .bool (stepOk D) ∧ Two X (RZ g (writeD D i s)) lo L w' ∧ LoL lo L w w') :=
  h.right fun B hX _ => by
    obtain ⟨pv, G, ov, cv, vs, rfl, h1⟩ := hX
    exact (rwrite32 h1 i s hi hs (Nat.lt_of_le_of_lt (hsh.ver hi) (by omega))).to fun v w' ⟨a, b, c⟩ => ⟨a, rf_mv b c⟩
theorem uFlush (h : Two X (RZ g D) lo L w) :
    Calls Try.prog 33 [.pointer (some ⟨g, 0, none⟩)].toArray w (Ret fun v w' => v = .bool (stepOk D) ∧ Two X (RZ g (flushD D)) lo L w' ∧ LoL lo L w w') :=
  h.right fun B hX _ => by
    obtain ⟨pv, G, ov, cv, vs, rfl, h1⟩ := hX
    exact (rflush33 h1).to fun v w' ⟨a, b, c⟩ => ⟨a, rf_mv b c⟩
theorem uCrash (h : Two X (RZ g D) lo L w) (pp : Option Addr) (np cp : Nat) (picks : List Int) (hpk : SlAt w pp np 1 (iv picks)) (hpkb : 0 < np → ∀ b o, pp = some ⟨b, o, none⟩ → b < lo ∨ b ∈ L) :
    Calls Try.prog 34 [.pointer (some ⟨g, 0, none⟩), .slice pp np cp].toArray w (Ret fun _ w' => True ∧ Two X (RZ g (crashD D picks)) lo L w' ∧ LoL lo L w w') :=
  h.right fun B hX hB => by
    obtain ⟨pv, G, ov, cv, vs, rfl, h1⟩ := hX
    exact (rcrash34 h1 pp np cp picks hpk fun h0 b o e hm => (hpkb h0 b o e).elim (fun hl => absurd (hB b (List.mem_append_left _ hm)).1 (Nat.not_le.2 hl)) (hB b (List.mem_append_left _ hm)).2).to fun v w' ⟨b, c⟩ => ⟨trivial, rf_mv b c⟩
omit [Thing X]
theorem uIn (h : Two X (RZ g D) lo L w) (i : Int) : Calls Try.prog 30 [.pointer (some ⟨g, 0, none⟩), .int .i64 i].toArray w (Ret fun v w' => v = .bool (inD D i) ∧ w = w') := by
  obtain ⟨⟨B, C, h1, ⟨pv, G, ov, cv, vs, rfl, h2⟩, h3, h4⟩, h5, h6⟩ := h
  exact rin30 h2 i
theorem uRead (h : Two X (RZ g D) lo L w) (i : Nat) (hi : i < D.V.length) : Calls Try.prog 26 [.pointer (some ⟨g, 0, none⟩), .int .i64 (i : Int)].toArray w (Ret fun v w' => v = .agg (bv (readD D i)).toArray ∧ Below w.heap.size w w') := by
  obtain ⟨⟨B, C, h1, ⟨pv, G, ov, cv, vs, rfl, h2⟩, h3, h4⟩, h5, h6⟩ := h
  exact rread26 h2 i hi
theorem uOpen (h : Two X (RZ g D) lo L w) : Calls Try.prog 35 [.pointer (some ⟨g, 0, none⟩)].toArray w (Ret fun v w' => ∃ p c, v = .slice p (opI D).length c ∧ SlAt w' p (opI D).length 1 (iv (opI D)) ∧ (∀ b o, p = some ⟨b, o, none⟩ → w.heap.size ≤ b) ∧ Below w.heap.size w w') := by
  obtain ⟨⟨B, C, h1, ⟨pv, G, ov, cv, vs, rfl, h2⟩, h3, h4⟩, h5, h6⟩ := h
  exact ropen35 h2
/-- The document's struct, read. -/
theorem uRow (h : Two X (RZ g D) lo L w) : ∃ pv ov cv, Coup.row w g [.slice (some ⟨pv, ov, none⟩) D.V.length cv, .int .i64 D.left, .bool D.dead] 58 := by
  obtain ⟨⟨B, C, h1, ⟨pv, G, ov, cv, vs, rfl, h2⟩, h3, h4⟩, h5, h6⟩ := h
  exact ⟨pv, ov, cv, h2.row⟩
end
/-- The fuse of the document's disk is set. -/
theorem uLeft {X : World → List Nat → Prop} [Thing X] {g lo : Nat} {L : List Nat} {D : Dk} {w w' : World} (h : Two X (RZ g D) lo L w) {pv ov cv : Nat} {k : Int}
    (hr : Coup.row w g [.slice (some ⟨pv, ov, none⟩) D.V.length cv, .int .i64 D.left, .bool D.dead] 58)
    (hr' : Coup.row w' g [.slice (some ⟨pv, ov, none⟩) D.V.length cv, .int .i64 k, .bool D.dead] 58) (ho : Only g w w') (hk : 0 ≤ k ∧ k ≤ 9223372036854775807) : Two X (RZ g (fuseA D k)) lo L w' ∧ LoL lo L w w' := by
  obtain ⟨⟨B, C, h1, ⟨pv', G, ov', cv', vs, rfl, h2⟩, h3, h4⟩, h5, h6⟩ := h
  have e := row_inj hr h2.row
  have e1 := (List.cons.inj e).1
  injection e1 with ea eb ec
  injection ea with ea
  injection ea with ea eo
  subst ea eo ec
  have hf : fuseA D k = { D with left := k, dead := D.dead } := by unfold fuseA; rw [if_pos hk.1]
  have ht := h2.turn ho hr' (by omega)
  rw [← hf] at ht
  have hm : Mv ([g, pv] ++ G) ([g, pv] ++ G) w w' := .of_kp ((Kp.of_only ho).weak fun b _ hb => by rw [List.mem_singleton.1 hb]; simp)
  exact ⟨(Two.mv (X := RZ g D) (X' := RZ g (fuseA D k)) (Y := X) ⟨pv, G, ov, cv, vs, rfl, ht⟩ h1 (fun b hb => ⟨(h4 b hb).1, fun hc => (h3 b hc).2.1 hb, (h4 b hb).2⟩) (fun b hb => ⟨(h3 b hb).1, (h3 b hb).2.2⟩) h5 h6 hm).swap, LoL.of_kp hm.k fun b hb => .inl (h4 b hb)⟩
end Go.Proofs.Ytpndhildmfmcgaa
