/- What lasts, plainly; a copy of a disk without open sectors. -/
import Derived.Test.YtpndhildmfmcgaaDiskZ
namespace Go.Proofs.Ytpndhildmfmcgaa
open Go Go.RowKit Coup

def writesD (D : Dk) (l : List AcT) : Dk := l.foldl (fun D a => writeA D a.at_ a.s) D
theorem writesD_snoc (D : Dk) (l : List AcT) {k : Nat} {a : AcT} (h : l[k]? = some a) : writesD D (l.take (k + 1)) = writeA (writesD D (l.take k)) a.at_ a.s := by
  rw [List.take_add_one, h]; simp [writesD, List.foldl_append]
theorem Alive.weak {D : Dk} {k k' : Nat} (h : Alive D k) (hk : k ≤ k') : Alive D k' := ⟨h.left, h.dead, h.pos, short_of h.short hk⟩
theorem Alive.writeA {D : Dk} {k : Nat} (h : Alive D k) (i : Int) (s : Sec) : Alive (writeA D i s) (k + 1) ∧ (Go.Proofs.Ytpndhildmfmcgaa.writeA D i s).V.length = D.V.length ∧
    ∀ j, j < D.V.length → ver (Go.Proofs.Ytpndhildmfmcgaa.writeA D i s) j = if i = (j : Int) then ver D j ++ [s] else ver D j := by
  unfold Go.Proofs.Ytpndhildmfmcgaa.writeA
  split
  · rename_i hin
    obtain ⟨m, rfl, hm⟩ := inD_nat hin
    obtain ⟨h1, h2⟩ := step_alive h.left h.dead
    rw [Int.toNat_natCast, writeD, if_pos h1, h2]
    refine ⟨⟨h.left, h.dead, by show 0 < (D.V.set _ _).length; rw [List.length_set]; exact h.pos, fun v hv => ?_⟩, List.length_set .., fun j hj => ?_⟩
    · rcases List.mem_or_eq_of_mem_set hv with e | e
      · exact Nat.le_trans (h.short v e) (by omega)
      · rw [e, List.length_append, List.length_singleton]
        have := h.short.ver hm
        omega
    · rw [ver_set hm]
      by_cases e : m = j
      · subst e; rw [if_pos rfl, if_pos rfl]
      · rw [if_neg e, if_neg (by omega)]
  · rename_i hin
    refine ⟨h.weak (by omega), rfl, fun j hj => ?_⟩
    rw [if_neg]
    intro e
    exact hin (decide_eq_true (by rw [e]; omega))
theorem alive_new {n : Nat} (h : 0 < n) : Alive (newD n) 1 := ⟨rfl, rfl, by rw [newD_len]; exact h, newD_short n⟩
/-- A sector that may have come of x and of what was written since. -/
def FromB (x : Sec) (l : List AcT) (i : Nat) (s : Sec) : Prop := s = x ∨ ∃ a ∈ l, a.at_ = (i : Int) ∧ a.s = s
theorem writes_from {D : Dk} (h : Alive D 1) {i : Nat} {x : Sec} (hi : i < D.V.length) (hv : ver D i = [x]) (l : List AcT) : ∀ k, k ≤ l.length → Alive (writesD D (l.take k)) (k + 1) ∧ (writesD D (l.take k)).V.length = D.V.length ∧ ver (writesD D (l.take k)) i ≠ [] ∧ ∀ s ∈ ver (writesD D (l.take k)) i, FromB x l i s
  | 0, _ => ⟨h, rfl, by show ver D i ≠ []; rw [hv]; simp, fun s hs => by
      have hs : s ∈ ver D i := hs
      rw [hv] at hs
      exact .inl (List.mem_singleton.1 hs)⟩
  | k + 1, hk => by
    obtain ⟨h1, h2, h3, h4⟩ := writes_from h hi hv l k (by omega)
    obtain ⟨a, ha⟩ : ∃ a, l[k]? = some a := ⟨_, List.getElem?_eq_getElem (by omega)⟩
    rw [writesD_snoc D l ha]
    obtain ⟨e1, e2, e3⟩ := h1.writeA a.at_ a.s
    refine ⟨e1, e2.trans h2, ?_, fun s hs => ?_⟩
    · rw [e3 i (by omega)]
      split
      · simp
      · exact h3
    · rw [e3 i (by omega)] at hs
      split at hs
      · rcases List.mem_append.1 hs with hs | hs
        · exact h4 s hs
        · exact .inr ⟨a, List.mem_of_getElem? ha, by assumption, (List.mem_singleton.1 hs).symm⟩
      · exact h4 s hs
theorem writes_alive {D : Dk} {m : Nat} (h : Alive D m) (l : List AcT) : ∀ k, k ≤ l.length → Alive (writesD D (l.take k)) (k + m) ∧ (writesD D (l.take k)).V.length = D.V.length
  | 0, _ => ⟨by rw [Nat.zero_add]; exact h, rfl⟩
  | k + 1, hk => by
    obtain ⟨h1, h2⟩ := writes_alive h l k (by omega)
    obtain ⟨a, ha⟩ : ∃ a, l[k]? = some a := ⟨_, List.getElem?_eq_getElem (by omega)⟩
    rw [writesD_snoc D l ha]
    obtain ⟨e1, e2, e3⟩ := h1.writeA a.at_ a.s
    exact ⟨e1.weak (by omega), e2.trans h2⟩
def fstH (s : Sec) : Sec := (s.drop 0).take 64
def sndH (s : Sec) : Sec := (s.drop 64).take 64
theorem torn_halves {a b : Sec} (ha : a.length = 128) (hb : b.length = 128) : fstH (tornS a b) = fstH a ∧ sndH (tornS a b) = sndH b := by
  have hl : (a.take 64).length = 64 := by rw [List.length_take]; omega
  unfold fstH sndH tornS
  refine ⟨?_, ?_⟩
  · rw [List.drop_zero, List.drop_zero, List.take_left' hl]
  · rw [List.drop_left' hl]
/-- Each half of what is left is that of a version. -/
theorem left_halves {v : List Sec} (hv : v ≠ []) (hs : secsOk v) (pick : Int) : ∃ a ∈ v, ∃ b ∈ v, fstH (leftS v pick) = fstH a ∧ sndH (leftS v pick) = sndH b := by
  have hp := List.length_pos_iff.2 hv
  obtain ⟨k, hk, hkl⟩ : ∃ k : Nat, pick % ((2 * v.length - 1 : Nat) : Int) = (k : Int) ∧ k < 2 * v.length - 1 := by
    have h1 := Int.emod_nonneg pick (show ((2 * v.length - 1 : Nat) : Int) ≠ 0 by omega)
    have h2 := Int.emod_lt_of_pos pick (show (0 : Int) < ((2 * v.length - 1 : Nat) : Int) by omega)
    exact ⟨(pick % ((2 * v.length - 1 : Nat) : Int)).toNat, by omega, by omega⟩
  have hg : ∀ j, j < v.length → v.getD j zeroS ∈ v := fun j hj => by
    rw [List.getD_eq_getElem?_getD, List.getElem?_eq_getElem hj]; exact List.getElem_mem hj
  rw [leftS, hk, Int.toNat_natCast, leftAt]
  split
  · exact ⟨_, hg _ (by omega), _, hg _ (by omega), rfl, rfl⟩
  · split
    · have hh : headS v ∈ v := by
        obtain ⟨a, l, rfl⟩ := List.exists_cons_of_ne_nil hv
        exact List.mem_cons_self ..
      exact ⟨_, hh, _, hh, rfl, rfl⟩
    · have h1 := torn_halves (getD_ok hs (k / 2)) (getD_ok hs (k / 2 - 1))
      exact ⟨_, hg _ (by omega), _, hg _ (by omega), h1.1, h1.2⟩
theorem crash_ver {D : Dk} (hok : DkOk D) (picks : List Int) {i : Nat} (hi : i < D.V.length) : ∃ s, ver (crashD D picks) i = [s] ∧ (s.length = 128) ∧ ∃ a ∈ ver D i, ∃ b ∈ ver D i, fstH s = fstH a ∧ sndH s = sndH b := by
  obtain ⟨hv1, hv2, hv3⟩ := ver_ok hok hi
  have e : ∀ j, ver (crashD D picks) j = ver (setAll D (setXs D fun k i => leftS (ver D i) (picks.getD k 0))) j := fun j => rfl
  rw [e]
  cases hb : openB D i with
  | true =>
    obtain ⟨k, hk⟩ := List.getElem?_of_mem (opN_mem.2 ⟨hi, hb⟩)
    rw [ver_settled hk]
    exact ⟨_, rfl, leftS_ok hv2 hv1 _, left_halves hv1 hv2 _⟩
  | false =>
    rw [ver_unsettled hb]
    obtain ⟨s, hs⟩ := openB_one hok hi hb
    rw [hs] at hv2 ⊢
    exact ⟨s, rfl, hv2 s (by simp), s, by simp, s, by simp, rfl, rfl⟩
theorem crash_shut {D : Dk} (hok : DkOk D) (picks : List Int) : opI (crashD D picks) = [] := by
  unfold opI opN
  rw [crash_len, List.map_eq_nil_iff, List.filter_eq_nil_iff]
  intro i hi
  obtain ⟨s, hs, _⟩ := crash_ver hok picks (List.mem_range.1 hi)
  unfold openB
  rw [hs]; simp
theorem flush_ver {D : Dk} (hs : stepOk D = true) {i : Nat} (hi : i < D.V.length) : ver (flushD D) i = [readD D i] := by
  rw [flushD, if_pos hs]
  unfold ver
  dsimp only
  rw [List.getD_eq_getElem?_getD, List.getElem?_map, ver_at hi]; rfl
theorem flush_len {D : Dk} : (flushD D).V.length = D.V.length := by
  unfold flushD
  split
  · simp
  · rw [stepD_V]
/-- A copy of a disk that has no open sectors: all its own. -/
theorem copyShut {w : World} {g : Nat} {B : List Nat} {D : Dk} (h : DkX w g B D) (hs : ∀ i, openB D i = false) :
    Calls Try.prog 21 [.pointer (some ⟨g, 0, none⟩)].toArray w (Ret fun v w' => ∃ g' B', v = .pointer (some ⟨g', 0, none⟩) ∧ DkX w' g' B' D ∧ (∀ b ∈ B', w.heap.size ≤ b) ∧ Below w.heap.size w w') := by
  obtain ⟨pl, m, G, ol, cl, st, fu, sv, rfl, h1, h2⟩ := h
  refine (copy21 h1 (fun i p n c ho => by rw [hs i] at ho; cases ho)).to fun v w' hR => ?_
  obtain ⟨g', pl', m', ol', cl', e, h3, l1, l2, l3, hb⟩ := hR
  have hno : ∀ i, openB D i = true → False := fun i ho => by rw [hs i] at ho; cases ho
  have hne : ∀ b ∈ ([] : List Nat), b ≠ g' ∧ b ≠ pl' ∧ b ≠ m' := fun b hb => by cases hb
  have hin : ∀ b ∈ ([] : List Nat), b < w'.heap.size := fun b hb => by cases hb
  refine ⟨g', [g', pl', m'] ++ [], e, ⟨pl', m', [], ol', cl', st, fu, _, rfl, ⟨h3.row, h3.own, h3.map, fun i ho => (hno i ho).elim, hin, ⟨h3.ne.1, h3.ne.2.1, h3.ne.2.2.1, hne⟩, h3.left, h3.ok, h3.pos⟩, ⟨fun i ho => (hno i ho).elim, fun i j b ho => (hno i ho).elim⟩⟩, fun b hb => ?_, hb⟩
  simp only [List.append_nil, List.mem_cons, List.not_mem_nil, or_false] at hb
  rcases hb with rfl | rfl | rfl <;> assumption
end Go.Proofs.Ytpndhildmfmcgaa
