import Derived.Test.YtpndhildmfmcgaaM2
import Derived.Test.YtpndhildmfmcgaaM1
import Derived.Maps.RangeWalk
import Derived.Shelf.SlMaps.Clone
import Derived.Test.YtpndhildmfmcgaaProg
namespace Go.Proofs.Ytpndhildmfmcgaa
open Go Go.RowKit Coup
def opV (V : List (List Sec)) (a : AcT) : List (List Sec) := if a.kind = 2 then V.map fun v => [lastS v] else V.set (a.at_ % 4).toNat (V.getD (a.at_ % 4).toNat [] ++ [a.s])
def opA (D : Dk) (a : AcT) : Dk := if a.kind = 2 then flushD D else writeA D (a.at_ % 4) a.s
structure Fz (D E : Dk) (st k : Nat) : Prop where
  V : D.V = E.V
  n : E.V.length = 4
  left : D.left = (st : Int) - k
  le : k ≤ st
  dead : D.dead = true → k = st
  free : E.left = -1 ∧ E.dead = false
theorem Fz.ok {D E : Dk} {st k : Nat} (h : Fz D E st k) : stepOk D = decide (k < st) := by
  unfold stepOk
  rw [h.left]
  have h1 := h.le
  cases hd : D.dead with
  | true => rw [decide_eq_false (by have := h.dead hd; omega)]; rfl
  | false =>
    by_cases hk : k < st
    · rw [decide_eq_true hk]
      have : ((st : Int) - k == 0) = false := by simp; omega
      rw [this]; rfl
    · rw [decide_eq_false hk]
      have : ((st : Int) - k == 0) = true := by simp; omega
      rw [this]; rfl
theorem Fz.same {D E : Dk} {st k : Nat} (h : Fz D E st k) : sameD D E = true := by
  unfold sameD lastsD readsD
  rw [h.V]
  exact decide_eq_true ⟨rfl, rfl⟩
theorem crash_len (D : Dk) (p : List Int) : (crashD D p).V.length = D.V.length := setAll_len D _
theorem step_alive {D : Dk} (h1 : D.left = -1) (h2 : D.dead = false) : stepOk D = true ∧ stepD D = D := by
  have h : stepOk D = true := by unfold stepOk; rw [h1, h2]; rfl
  refine ⟨h, ?_⟩
  rw [stepD, if_pos h, h1]
  exact Dk.ext' rfl h1.symm rfl
structure Alive (D : Dk) (k : Nat) : Prop where
  left : D.left = -1
  dead : D.dead = false
  pos : 0 < D.V.length
  short : shortD D k
theorem Alive.write {D : Dk} {k : Nat} (h : Alive D k) (s : Sec) : writeE D 0 = 0 ∧ Alive (writeA D 0 s) (k + 1) := by
  have hin : inD D 0 = true := decide_eq_true ⟨by omega, by have := h.pos; omega⟩
  obtain ⟨h1, h2⟩ := step_alive h.left h.dead
  refine ⟨by rw [writeE, hin, h1]; rfl, ?_⟩
  rw [writeA, hin, if_pos rfl, writeD, if_pos h1, h2]
  refine ⟨h.left, h.dead, by show 0 < (D.V.set _ _).length; rw [List.length_set]; exact h.pos, fun v hv => ?_⟩
  rcases List.mem_or_eq_of_mem_set hv with e | e
  · exact Nat.le_trans (h.short v e) (by omega)
  · rw [e, List.length_append, List.length_singleton]
    have := h.short.ver (i := (0 : Int).toNat) (by have := h.pos; simpa using this)
    omega
theorem Alive.flush {D : Dk} {k : Nat} (h : Alive D k) (h1 : 1 ≤ k) : stepOk D = true ∧ Alive (flushD D) k := by
  obtain ⟨h2, h3⟩ := step_alive h.left h.dead
  refine ⟨h2, ?_⟩
  rw [flushD, if_pos h2, h3]
  exact ⟨h.left, h.dead, by show 0 < (D.V.map _).length; rw [List.length_map]; exact h.pos, fun v hv => by obtain ⟨u, _, rfl⟩ := List.mem_map.1 hv; simpa using h1⟩
end Go.Proofs.Ytpndhildmfmcgaa
namespace Coup
open Go Go.RowKit Go.Maps Go.ChangeMaps Go.MapKept Go.WideElems
theorem left_count (a : Array MapEntry) (seen : Array Nat) : (leftOf a seen).size = ((a.toList.map (·.born)).filter fun b => !seen.contains b).length := by
  unfold leftOf
  rw [← Array.length_toList, Array.toList_filter, List.filter_map, List.length_map]
  rfl
section
variable {H : Type} {P : Program} {k : TypeId} {R : Value → Option (DataW H × List MemPlace)} {w : World} {b r n : Nat} {D : DataW H} {left : Lit → Bool} {cnt : Nat}
theorem ranges_store {t e : TypeId} (h : w.ranges P k R b r n D left cnt) (K : Keyed P k) (ht : P.underlying t = some (.map k e)) (hn : n < maxLen) {key val : Value} {kl : Lit} {d : DataW H} {ps : List MemPlace}
    (hkey : keyOf P k key = some kl) (hv : R val = some (d, ps)) {l : List (Lit × DataW H)} (hD : D = .map l) {z : DataW H} (hin : (kl, z) ∈ l) :
    ∃ w', (Instr.mapUpdate t (.map (some b)) key val).run P w = .ok () w' ∧ w'.ranges P k R b r (n + 1) (D.put kl d) left cnt ∧ w.mapTurned w' b := by
  have hne := h.ne
  obtain ⟨es, clock, since, seen, c0, hb, F, hs, rfl, hr, hold, rfl, hl1, hl2, hsc, hsk⟩ := h
  obtain ⟨es', clock', hrun, F', hput, _, _, hwho⟩ := Maps.fit_store (R' := R) K ht hb F (Nat.lt_of_le_of_lt hs hn) (fun _ _ _ _ hz => hz) hkey hv
  injection hD with hD
  rw [← hD] at hin
  obtain ⟨x0, hx0, hx0e⟩ := List.mem_map.1 (mem_sorted.1 hin)
  obtain ⟨y0, hy0⟩ := F.reads x0 hx0
  have hk0 : x0.key = key := by
    have h1 := rd_key hy0
    rw [rg_of hy0] at hx0e
    have h2 : y0.1 = kl := congrArg Prod.fst hx0e
    rw [h2] at h1
    exact K.inj h1 hkey
  rcases K.find w hkey es.toList F.keys with ⟨_, h2⟩ | ⟨j, e0, h1, h2, h3⟩
  · exact absurd hk0 (h2 x0 hx0)
  have hj : es[j]? = some e0 := by simpa using h2
  have hjl : j < es.toList.length := (List.getElem?_eq_some_iff.1 h2).1
  have hlist : (es.modify j (fun e' => { e' with key := key, val := val })).toList = es.toList.set j { e0 with key := key, val := val } := by rw [Array.toList_modify, modify_eq_set _ _ _ _ h2]
  have hrun2 : (Instr.mapUpdate t (.map (some b)) key val).run P w = .ok () (setBlock w b (.map (es.modify j (fun e' => { e' with key := key, val := val })) clock)) := by
    simp [Instr.mapUpdate, run_underlying ht, MapKept.run_getObj_map hb, K.check w false hkey, h1, hj, h3, K.stays w hkey, MapKept.run_setObj_map _ hb, Result.andThen, setBlock]
  have hew : setBlock w b (.map es' clock') = setBlock w b (.map (es.modify j (fun e' => { e' with key := key, val := val })) clock) := by
    have := hrun.symm.trans hrun2
    injection this
  have hee := (heap_setBlock_same hb (.map es' clock')).symm.trans (hew ▸ heap_setBlock_same hb (.map (es.modify j (fun e' => { e' with key := key, val := val })) clock))
  injection hee with hee
  injection hee with hee hcc
  have hl : es'.toList = es.toList.set j { e0 with key := key, val := val } := by rw [hee, hlist]
  have he0 : e0 ∈ es.toList := List.mem_of_getElem? h2
  have hborn : es'.toList.map (·.born) = es.toList.map (·.born) := by
    rw [hl, List.map_set]
    refine List.ext_getElem? fun i => ?_
    rw [List.getElem?_set]
    by_cases hi : j = i
    · subst hi
      rw [if_pos rfl, if_pos (by simpa using hjl), List.getElem?_map, h2]; rfl
    · rw [if_neg hi]
  have hmem : ∀ x ∈ es'.toList, x = { e0 with key := key, val := val } ∨ x ∈ es.toList := fun x hx => by
    rw [hl] at hx
    exact (List.mem_or_eq_of_mem_set hx).symm
  obtain ⟨y1, hy1⟩ := F.reads e0 he0
  have hrg0 : (rg P k R e0).1 = kl := by
    have h4 := rd_key hy1
    rw [h3, hkey] at h4
    rw [rg_of hy1]
    exact (Option.some.inj h4).symm
  have hrgN : (rg P k R { e0 with key := key, val := val }).1 = kl := by rw [rg_of (rd_mk hkey hv)]
  refine ⟨_, hrun, ⟨es', clock', since, seen, c0, heap_setBlock_same hb _, F', ?_, by rw [DataW.put_eq, hput], (heap_setBlock_other hb _ hne).trans hr, fun x hx => ?_, ?_, fun x hx => ?_, fun q hq => ?_, hsc, by rw [hcc]; exact hsk⟩, ⟨es, clock, es', clock', hb, rfl⟩⟩
  · have := congrArg List.length hborn
    simp at this
    omega
  · rcases hmem x hx with rfl | hx
    · exact hold e0 he0
    · exact hold x hx
  · rw [left_count, left_count, hborn]
  · rcases hmem x hx with rfl | hx
    · rw [hrgN, ← hrg0, hl1 e0 he0]
    · exact hl1 x hx
  · obtain ⟨x, hx, rfl⟩ := hl2 q hq
    obtain ⟨i, hi⟩ := List.getElem?_of_mem hx
    by_cases hij : j = i
    · subst hij
      rw [h2] at hi
      cases hi
      exact ⟨{ e0 with key := key, val := val }, by rw [hl]; exact List.mem_iff_getElem?.2 ⟨j, by rw [List.getElem?_set, if_pos rfl, if_pos hjl]⟩, by rw [hrgN, hrg0]⟩
    · exact ⟨x, by rw [hl]; exact List.mem_iff_getElem?.2 ⟨i, by rw [List.getElem?_set, if_neg hij]; exact hi⟩, rfl⟩
theorem ranges_key (h : w.ranges P k R b r n D left cnt) {kl : Lit} (hl : left kl = true) {l : List (Lit × DataW H)} (hD : D = .map l) : ∃ z, (kl, z) ∈ l := by
  obtain ⟨es, clock, since, seen, c0, hb, F, hs, rfl, hr, hold, rfl, hl1, hl2, hsc, hsk⟩ := h
  obtain ⟨x, hx, rfl⟩ := hl2 kl hl
  injection hD with hD
  exact ⟨(rg P k R x).2, by rw [← hD]; exact mem_sorted.2 (List.mem_map.2 ⟨x, hx, rfl⟩)⟩
theorem ranges_same {w' : World} (h : w.ranges P k R b r n D left cnt) (h1 : w'.heap[b]? = w.heap[b]?) (h2 : w'.heap[r]? = w.heap[r]?) : w'.ranges P k R b r n D left cnt := by
  obtain ⟨es, clock, since, seen, c0, hb, F, hs, hD, hr, rest⟩ := h
  exact ⟨es, clock, since, seen, c0, h1.trans hb, F, hs, hD, h2.trans hr, rest⟩
theorem ranges_tight {N : Nat} {l : List (Lit × DataW H)} (h : w.ranges P k R b r n (.map l) left cnt) (hN : l.length ≤ N) : w.ranges P k R b r N (.map l) left cnt := by
  obtain ⟨es, clock, since, seen, c0, hb, F, hs, hD, rest⟩ := h
  refine ⟨es, clock, since, seen, c0, hb, F, ?_, hD, rest⟩
  have h1 : l = (es.toList.map (Go.WideElems.rg P k R)).foldr DataW.insert [] := by injection hD
  have h2 := length_sorted (es.toList.map (Go.WideElems.rg P k R))
  rw [← h1] at h2
  simp at h2
  omega
end
theorem kvL_mem' {f : Nat → Option Value} : ∀ {m a : Nat} {x : Lit × DataW Value}, x ∈ kvL f a m → ∃ i v, a ≤ i ∧ i < a + m ∧ f i = some v ∧ x = (.int .i64 (i : Int), .held v)
  | 0, a, x, h => by simp [kvL] at h
  | m + 1, a, x, h => by
    rw [kvL] at h
    split at h
    · rename_i v hv
      rcases List.mem_cons.1 h with rfl | h
      · exact ⟨a, v, Nat.le_refl _, by omega, hv, rfl⟩
      · obtain ⟨i, v, h1, h2, h3, h4⟩ := kvL_mem' h; exact ⟨i, v, by omega, by omega, h3, h4⟩
    · obtain ⟨i, v, h1, h2, h3, h4⟩ := kvL_mem' h; exact ⟨i, v, by omega, by omega, h3, h4⟩
theorem mem_kvL {f : Nat → Option Value} {i : Nat} {v : Value} : ∀ {m a : Nat}, f i = some v → a ≤ i → i < a + m → (Lit.int .i64 (i : Int), DataW.held v) ∈ kvL f a m
  | 0, a, hf, h1, h2 => by omega
  | m + 1, a, hf, h1, h2 => by
    rw [kvL]
    by_cases h : a = i
    · subst h; rw [hf]; exact List.mem_cons_self ..
    · have ih := mem_kvL (m := m) (a := a + 1) hf (by omega) (by omega)
      split
      · exact List.mem_cons_of_mem _ ih
      · exact ih
theorem has_kvL {f : Nat → Option Value} {i N : Nat} (hi : i < N) : Maps.has (DataW.map (kvL f 0 N)) (.int .i64 (i : Int)) = (f i).isSome := by
  cases hf : f i with
  | some v => exact List.any_eq_true.2 ⟨_, mem_kvL hf (Nat.zero_le _) (by omega), by rw [same_int]; simp⟩
  | none =>
    refine List.any_eq_false.2 fun x hx => ?_
    obtain ⟨j, v, h1, h2, h3, rfl⟩ := kvL_mem' hx
    rw [same_int]
    simp
    rintro rfl
    rw [hf] at h3; cases h3
def RgAt (P : Program) (k : TypeId) (w : World) (m r N : Nat) (f : Nat → Option Value) (left : Nat → Bool) (cnt : Nat) : Prop :=
  ∃ L, w.ranges P k RH m r N (.map (kvL f 0 N)) L cnt ∧ ∀ i, i < N → L (.int .i64 (i : Int)) = left i
namespace RgAt
variable {P : Program} {k : TypeId} {w w' : World} {m r N cnt : Nat} {f : Nat → Option Value} {left : Nat → Bool}
theorem map (h : RgAt P k w m r N f left cnt) : MapAt P k w m N f := by
  obtain ⟨L, h1, _⟩ := h
  exact h1.owns
theorem lt (h : RgAt P k w m r N f left cnt) : r < w.heap.size := by
  obtain ⟨L, h1, _⟩ := h
  exact h1.lt
theorem ne (h : RgAt P k w m r N f left cnt) : r ≠ m := by
  obtain ⟨L, h1, _⟩ := h
  exact h1.ne
theorem kpd {M : List Nat} (h : RgAt P k w m r N f left cnt) (hk : Kp M w w') (hM : m ∉ M ∧ r ∉ M) : RgAt P k w' m r N f left cnt := by
  have h1 := h.map.lt
  have h2 := h.lt
  obtain ⟨L, h3, h4⟩ := h
  exact ⟨L, ranges_same h3 (hk.block m h1 hM.1) (hk.block r h2 hM.2), h4⟩
theorem new (h : RgAt P k w m r N f left cnt) (hb : Below w.heap.size w w') : RgAt P k w' m r N f left cnt := h.kpd (M := []) (Kp.of_below hb) (by simp)
theorem only {g : Nat} (h : RgAt P k w m r N f left cnt) (ho : Only g w w') (hg : m ≠ g ∧ r ≠ g) : RgAt P k w' m r N f left cnt := h.kpd (Kp.of_only ho) (by simpa using hg)
end RgAt
section
variable {P : Program} {ρ : Env} {w : World} {d : Option Nat} {ty : TypeId} {pos : String} {af : Array Edge} {gd : Option (Nat × Bool)} {K : Value → World → Prop} {Kw : World → Prop}
theorem mk_rangeM {t k e : TypeId} {x : Operand} {m N : Nat} {f : Nat → Option Value} (ht : P.underlying t = some (.map k e)) (hk : P.underlying k = some (.int .i64)) (hm : MapAt P k w m N f) (hx : ev ρ x = .map (some m))
    (h : ∀ r w' cnt, w.heap.size ≤ r → RgAt P k w' m r N f (fun i => (f i).isSome) cnt → Below w.heap.size w w' → K (.pointer (some ⟨r, 0, none⟩)) w') : Mk P ρ w ⟨d, .range t x, ty, pos, af, gd⟩ K := by
  obtain ⟨w', hr, h1, h2, h3⟩ := World.ownsMap.range hm (int_keyed hk) ht
  refine ⟨_, w', ?_, h _ w' _ (Nat.le_refl _) ⟨_, h1, fun i hi => has_kvL hi⟩ ⟨h2.os, h2.tape, h2.output, h2.size, fun i hi => h2.block i hi (by simp)⟩⟩
  simp [execOp, hx, hr, Result.andThen]
theorem mk_nextM {x : Operand} {k : TypeId} {m r N cnt : Nat} {f : Nat → Option Value} {left : Nat → Bool} (hk : P.underlying k = some (.int .i64)) (hg : RgAt P k w m r N f left cnt) (hx : ev ρ x = .pointer (some ⟨r, 0, none⟩))
    (h0 : (∀ i, i < N → left i = false) → K (.tuple #[.bool false]) w)
    (h1 : ∀ (i : Nat) (v : Value) (w' : World) (cnt' : Nat), i < N → left i = true → f i = some v → RgAt P k w' m r N f (fun j => left j && !decide (j = i)) cnt' → cnt' < cnt → Only r w w' →
      (Instr.entry (.pointer (some ⟨r, 0, none⟩))).run P w' = .ok (.tuple #[.int .i64 (i : Int), v]) w' → K (.tuple #[.bool true, .int .i64 (i : Int), v]) w') : Mk P ρ w ⟨d, .next x false, ty, pos, af, gd⟩ K := by
  obtain ⟨L, hg, hL⟩ := hg
  rcases hg.next (int_keyed hk) ty with ⟨hc, hl, hrun⟩ | ⟨key, v, kl, y, w', cnt', hkey, hlk, hv, hat, hrun, hrg, hlt, hgr, hsz, hen⟩
  · exact ⟨_, _, by simp [execOp, hx, hrun, Result.andThen], h0 fun i hi => by rw [← hL i hi]; exact hl _⟩
  · obtain ⟨z, hz⟩ := ranges_key hg hlk rfl
    obtain ⟨i, u, _, hi, hfi, he⟩ := kvL_mem' hz
    have hkl : kl = .int .i64 (i : Int) := congrArg Prod.fst he
    obtain ⟨a, rfl, ekl, _⟩ := Maps.keyOf_int_inv hk hkey
    rw [hkl] at ekl
    injection ekl with _ ekl
    subst ekl
    have hi' : i < N := by omega
    have hu : u = v := by
      have h3 := hat (.held u)
      rw [hkl] at h3
      have h4 : (some (DataW.held v, ([] : List MemPlace))) = some y := hv
      injection h4 with h4
      rw [← h4] at h3
      unfold DataW.atKey at h3
      simp only [kvL_find N 0 (Nat.zero_le _) (by omega : i < 0 + N), hfi] at h3
      injection h3
    subst hu
    refine ⟨_, w', by simp [execOp, hx, hrun, Result.andThen], h1 i u w' cnt' hi' (by rw [← hL i hi', ← hkl]; exact hlk) hfi ⟨_, hrg, fun j hj => ?_⟩ hlt ⟨hgr.os, hgr.tape, hgr.output, hsz, fun q hq => ?_⟩ hen⟩
    · rw [hL j hj, hkl, same_int]
    · by_cases hql : q < w.heap.size
      · exact hgr.block q hql (by simpa using hq)
      · rw [Array.getElem?_eq_none (by omega), Array.getElem?_eq_none (by omega)]
theorem rn_entry {x : Operand} {r : Nat} {v : Value} (hx : ev ρ x = .pointer (some ⟨r, 0, none⟩)) (hen : (Instr.entry (.pointer (some ⟨r, 0, none⟩))).run P w = .ok v w) : (execOp (ev ρ) ⟨d, .entry x, ty, pos, af, gd⟩).run P w = .ok (.value v) w := by
  simp [execOp, hx, hen, Result.andThen]
theorem sk_mapUpdR {t k e : TypeId} {x y u : Operand} {m r N cnt : Nat} {f : Nat → Option Value} {left : Nat → Bool} {a : Int} (v v0 : Value) (ht : P.underlying t = some (.map k e)) (hk : P.underlying k = some (.int .i64))
    (hg : RgAt P k w m r N f left cnt) (hx : ev ρ x = .map (some m)) (hy : ev ρ y = .int .i64 a) (hu : ev ρ u = v) (i : Nat) (ha : a = (i : Int)) (hi : i < N) (hN : N ≤ 1000000) (hf : f i = some v0)
    (h : ∀ w', RgAt P k w' m r N (updF f i (some v)) left cnt → Only m w w' → Kw w') : Sk P ρ w ⟨d, .mapUpdate t x y u, ty, pos, af, gd⟩ Kw := by
  subst ha
  obtain ⟨L, hg, hL⟩ := hg
  obtain ⟨w', hr, h1, h2⟩ := ranges_store hg (int_keyed hk) ht (by unfold maxLen; omega) (keyOf_int_mk hk (i64_wf (i := i) (by omega))) (val := v) (d := .held v) (ps := []) rfl rfl (mem_kvL hf (Nat.zero_le _) (by omega))
  refine ⟨w', ?_, h w' ⟨L, ?_, hL⟩ (turned_only h2)⟩
  · simp [execOp, hx, hy, hu, hr, Result.andThen]
  · have e : DataW.put (.map (kvL f 0 N)) (.int .i64 (i : Int)) (.held v) = .map (kvL (updF f i (some v)) 0 N) := by
      unfold DataW.put
      simp only [kvL_del]
      rw [kvL_ins N 0 (if_pos rfl) (Nat.zero_le _) (by omega)]
      congr 1
      exact kvL_congr N 0 fun j _ _ => by unfold updF; split <;> rfl
    rw [e] at h1
    exact ranges_tight h1 (kvL_len _ _ _)
end
end Coup
namespace Go.Proofs
open Go.Shelf
def Try.cloneM_ren : Go.Shelf.Ren := ⟨fun | 5 => 42 | 7 => 48 | n => n, fun | 23 => 61 | 25 => 3 | 3 => 52 | 4 => 4 | 20 => 20 | n => n, fun | n => n⟩
theorem Try.cloneM : Go.Proofs.SlLaysW.n5 Try.prog Try.cloneM_ren := {
  mixed := by kernel_rfl
  f5 := ⟨Try.f42.name, by decide, Try.func42.trans (congrArg some (by kernel_rfl))⟩
  f7 := Try.func48.trans (congrArg some (by kernel_rfl))
  t4 := Try.underlying4
  a4 := Try.isAgg4
  z4 := Try.sizeOf4
  v4 := Try.zeroValue4
  t20 := Try.underlying20
  a20 := Try.isAgg20
  z20 := Try.sizeOf20
  v20 := Try.zeroValue20
  t23 := Try.underlying61
  a23 := Try.isAgg61
  z23 := Try.sizeOf61
  v23 := Try.zeroValue61 }
end Go.Proofs
namespace Go.Proofs.Ytpndhildmfmcgaa
open Go Go.RowKit Go.Maps Go.Shelf Coup
theorem cloneMapC {w : World} {k : TypeId} {m N : Nat} {f : Nat → Option Value} (h : MapAt Try.prog k w m N f) :
    Calls Try.prog 42 [.map (some m)].toArray w (Ret fun v w' => ∃ m', v = .map (some m') ∧ w.heap.size ≤ m' ∧ MapAt Try.prog k w' m' N f ∧ Below w.heap.size w w') := by
  have := AnyW.maps_Clone_owns Try.cloneM k RH m N _ w h
  change Calls Try.prog 42 _ _ _ at this
  exact this.mono fun e w' ⟨h1, h2, _, h3⟩ => ⟨_, h1, _, rfl, Nat.le_refl _, h2, h3⟩
end Go.Proofs.Ytpndhildmfmcgaa
namespace Go.Proofs.Ytpndhildmfmcgaa
open Go Go.RowKit Coup
set_option maxRecDepth 20000 in
theorem clip43 {w : World} {p : Option Addr} {n c : Nat} (hp : ∃ g o, p = some ⟨g, o, none⟩) (hn : n ≤ c) (hn0 : 0 < n) :
    Calls Try.prog 43 [.slice p n c].toArray w (Ret fun v w' => v = .slice p n n ∧ w = w') := by
  obtain ⟨g, o, rfl⟩ := hp
  refine calls_W (fn := Try.f43) (rs := [.tmp 2]) (n := 9) Try.func43 rfl rfl Try.ntmps43 (by kernel_rfl) rfl ?_
  refine W_seq (W_region (WR_val rfl (rn_assign) (WR_nil (thenN (W_seq (W_region (WR_val rfl (rn_move) (WR_val rfl (rn_move) ?_))))))))
  refine WR_val rfl (rn_lenSl (e := 34) (sz := 128) (by kernel_rfl) rfl rfl) ?_
  refine WR_val rfl (rn_move) ?_
  refine WR_val rfl (rn_lenSl (e := 34) (sz := 128) (by kernel_rfl) rfl rfl) ?_
  refine WR_val rfl (rn_sliceSl' (e := 34) (sz := 128) (0) (n) (n) (n) (by kernel_rfl) rfl rfl ⟨_, _, rfl, by omega⟩ ⟨_, _, rfl, by omega⟩ (by simp) (by omega) (by omega) (by omega) (by omega) (by omega)) ?_
  refine WR_val rfl (rn_assign) (WR_nil (thenN (W_ret ?_)))
  refine ret_ret [_] ⟨rfl, trivial⟩ ?_
  exact ⟨rfl, rfl⟩
set_option maxRecDepth 20000 in
theorem clone41 {w : World} {g o n c : Nat} {xs : List Value} (h : SlAt w (some ⟨g, o, none⟩) n 128 xs) (h1 : ∀ u ∈ xs, u.oneCell' = true) (hn : 0 < n) (hn2 : n ≤ 8192) :
    Calls Try.prog 41 [.slice (some ⟨g, o, none⟩) n c].toArray w (Ret fun v w' => ∃ q qo cq, v = .slice (some ⟨q, qo, none⟩) n cq ∧ OwnG w' w.heap.size 34 128 q qo n cq xs ∧ Below w.heap.size w w') := by
  have hB := Below.refl w.heap.size w
  have hml : maxLen = 9223372036854775807 := by decide
  have hgl : g < w.heap.size := by obtain ⟨g', o', e, hl⟩ := h.some (by omega); cases e; exact hl
  refine calls_W (fn := Try.f41) (rs := [.tmp 2]) (n := 8) Try.func41 rfl rfl Try.ntmps41 (by kernel_rfl) rfl ?_
  refine W_seq (W_region (WR_val rfl (rn_assign) (WR_nil (thenN (W_seq (W_seq (W_region (WR_val rfl (rn_move) ?_))))))))
  refine WR_val rfl (rn_eqlNil (e := 34) (by kernel_rfl) rfl rfl) ?_
  refine WR_nil (thenN ?_)
  refine W_fb rfl (rfl) ?_
  refine W_skip (thenN (W_seq (W_region ?_)))
  refine WR_mk rfl (mk_empty (e := 34) (sz := 128) (by kernel_rfl) (by kernel_rfl) (fun g5 w5 hg5 hr5 hb5 => ?_))
  have ge_hB_g5 := Nat.le_trans hB.size hg5
  replace h := h.new hb5
  replace hB := hB.acc hb5
  refine WR_val rfl (rn_move) ?_
  have hv5 := hr5.owns (base := w.heap.size) (m := 0) (sz := 128) (by omega) rfl (by omega)
  have sz_hB_7 := hB.size
  refine WR_mk rfl (mk_append (e := 34) (sz := 128) (bytes := 128) (z := .agg (List.replicate 128 (Value.int .u8 0)).toArray) (by kernel_rfl) rfl (by kernel_rfl) rfl (by decide) rfl hv5 rfl h h1 (by unfold maxLen; omega) (by omega) (fun hm0 => by omega) (fun v7 w7 hv7 hgr7 hfr7 => ?_))
  replace h := h.own hv5 hgr7 (by omega)
  replace hB := hB.own hv5 hgr7 (by omega)
  refine WR_val rfl (rn_assign) (WR_nil (thenN (W_ret ?_)))
  refine ret_ret [_] ⟨rfl, trivial⟩ ?_
  rw [List.nil_append, Nat.zero_add] at hv7
  have hobt := hv7.form' (by omega)
  obtain ⟨q, qo, cq, rfl, hq1, hq2, hq3⟩ := hobt
  exact ⟨q, qo, cq, rfl, hv7, hB⟩
def clipV : Value → Value
  | .slice p n _ => .slice p n n
  | v => v
theorem opt_clip (o : Option Value) : o = cond o.isSome o (o.map clipV) := by cases o <;> rfl
theorem since_clip (D : Dk) (sv : Nat → Value) (i : Nat) : since D (fun j => clipV (sv j)) i = (since D sv i).map clipV := by
  unfold since
  split <;> rfl
theorem _root_.Coup.MapAt.congr {P : Program} {k : TypeId} {w : World} {m N : Nat} {f f' : Nat → Option Value} (h : MapAt P k w m N f) (hf : ∀ i, i < N → f i = f' i) : MapAt P k w m N f' := by
  unfold MapAt at h ⊢
  rw [← kvL_congr N 0 (fun i _ h2 => hf i (by omega))]
  exact h
set_option maxRecDepth 8000 in
set_option maxHeartbeats 1000000 in
theorem copy21 {w : World} {g pl m : Nat} {G : List Nat} {D : Dk} {ol cl : Nat} {st : Int} {fu : Bool} {sv : Nat → Value} (h : DkM w g pl m G D ol cl st fu sv)
    (hc : ∀ i p n c, openB D i = true → sv i = .slice p n c → n ≤ c) :
    Calls Try.prog 21 [.pointer (some ⟨g, 0, none⟩)].toArray w (Ret fun v w' => ∃ g' pl' m' ol' cl', v = .pointer (some ⟨g', 0, none⟩) ∧ DkM w' g' pl' m' G D ol' cl' st fu (fun i => clipV (sv i)) ∧ w.heap.size ≤ g' ∧ w.heap.size ≤ pl' ∧ w.heap.size ≤ m' ∧ Below w.heap.size w w') := by
  have hB := Below.refl w.heap.size w
  have hml : maxLen = 9223372036854775807 := by decide
  have hS := sectors27 h
  have hr := h.row
  have hown := h.own
  have hmap := h.map
  have hp := h.pos
  have hn8 := h.ok.n
  refine calls_W (fn := Try.f21) (rs := [.tmp 2]) (n := 37) Try.func21 rfl rfl Try.ntmps21 (by kernel_rfl) rfl ?_
  refine W_seq (W_region (WR_val rfl (rn_assign) (WR_nil (thenN (W_seq (W_seq (W_region (WR_val rfl (rn_move) ?_))))))))
  refine WR_ent rfl (rn_call (by kernel_rfl) rfl) (hS) ?_
  rintro _ _ ⟨rfl, rfl⟩
  refine WR_val rfl (rn_eql rfl rfl) ?_
  refine WR_nil (thenN ?_)
  refine W_fp rfl ((by omega)) ?_
  refine W_skip (thenN (W_seq (W_region (WR_val rfl (rn_move) (WR_val rfl (rn_nilCheckP rfl) ?_)))))
  refine WR_val rfl (rn_load rfl (Ld.rowA (k := 5) hr (by kernel_rfl) (by kernel_rfl) (by first | (simp; done) | (simp [bv_length, *]; done) | assumption))) ?_
  refine WR_mk rfl (mk_alloc ([Value.slice none 0 0, Value.map none, Value.int .i64 0, Value.bool false, Value.bool false]) (by kernel_rfl) (fun g3 w3 hg3 hr3 hb3 => ?_))
  have ge_hB_g3 := Nat.le_trans hB.size hg3
  have lt_g_g3 : g < g3 := Nat.lt_of_lt_of_le hr.lt hg3
  have lt_pl_g3 : pl < g3 := Nat.lt_of_lt_of_le hown.lt hg3
  have lt_m_g3 : m < g3 := Nat.lt_of_lt_of_le hmap.lt hg3
  replace hr := hr.new hb3
  replace hown := hown.new hb3
  replace hmap := hmap.new hb3
  replace hB := hB.acc hb3
  refine WR_sk rfl (sk_storeA 5 ([.slice (some ⟨pl, ol, none⟩) D.V.length cl, .map (some m), .int .i64 st, .bool fu, .bool D.dead]) rfl rfl hr3 (by kernel_rfl) (by first | assumption | (simp; done) | (simp [bv_length, *]; done)) (by first | assumption | (simp; done) | (simp [bv_length, *]; done) | rfl) (by first | exact bv_one _ | assumption | (simp [Value.oneCell']; done)) (fun w901 hr3 ho901 => ?_))
  replace hr := hr.only ho901 (Nat.ne_of_lt lt_g_g3)
  replace hown := hown.only ho901 (Nat.ne_of_lt lt_pl_g3)
  replace hmap := hmap.only ho901 (Nat.ne_of_lt lt_m_g3)
  replace hB := ho901.below hB ge_hB_g3
  refine WR_nil (thenN (W_seq ?_))
  refine W_draw' [g3] (by kernel_rfl) ?_
  intro w902 hb902 hS902
  replace hr := hr.new hb902
  replace hown := hown.new hb902
  replace hmap := hmap.new hb902
  replace hr3 := hr3.new hb902
  replace hB := hB.acc hb902
  have hr_d902 := hr
  have hown_d902 := hown
  have hmap_d902 := hmap
  have hr3_d902 := hr3
  have hB_d902 := hB
  refine WA_take 0 (by kernel_rfl) rfl (fun _ _ => rn_move) ?_
  refine WA_take 1 (by kernel_rfl) rfl (fun _ _ => rn_nilCheckP rfl) ?_
  refine WA_take 2 (by kernel_rfl) rfl (fun _ _ => rn_fieldAddr (off := 0) (by kernel_rfl) rfl) ?_
  refine WA_take 3 (by kernel_rfl) rfl (fun w' hS' => rn_load rfl (Ld.row1 (hr_d902.kq hS') (by kernel_rfl) rfl)) ?_
  refine WA_take 5 (by kernel_rfl) rfl (fun _ _ => rn_move) ?_
  refine WA_take 6 (by kernel_rfl) rfl (fun _ _ => rn_nilCheckP rfl) ?_
  refine WA_take 7 (by kernel_rfl) rfl (fun _ _ => rn_fieldAddr (off := 1) (by kernel_rfl) rfl) ?_
  refine WA_take 8 (by kernel_rfl) rfl (fun w' hS' => rn_load rfl (Ld.row1 (hr_d902.kq hS') (by kernel_rfl) rfl)) ?_
  refine WA_one 4 (by kernel_rfl) ?_
  have z1 := hr3.lt
  refine WO_ent rfl rfl (rn_call (by kernel_rfl) rfl) (clone41 hown.sl (bv_one _) hp hn8) ?_
  rintro _ w16 ⟨q, qo, cq, rfl, hq, hb16⟩
  have hS903 := hS902.add0 hb16
  refine ⟨hS903, ?_⟩
  replace hr := hr.new hb16
  replace hown := hown.new hb16
  replace hmap := hmap.new hb16
  replace hr3 := hr3.new hb16
  replace hB := hB.acc hb16
  have z2 := hq.base_le
  refine WA_one 9 (by kernel_rfl) ?_
  have z3 := hr3.lt
  have z4 := hq.lt
  refine WO_ent rfl rfl (rn_call (by kernel_rfl) rfl) (cloneMapC hmap) ?_
  rintro _ w21 ⟨m', rfl, hm1, hm', hb21⟩
  have hS904 := hS903.add0 hb21
  refine ⟨hS904, ?_⟩
  replace hr := hr.new hb21
  replace hown := hown.new hb21
  replace hmap := hmap.new hb21
  replace hr3 := hr3.new hb21
  replace hq := hq.new hb21
  replace hB := hB.acc hb21
  refine WA_take 10 (by kernel_rfl) rfl (fun _ _ => rn_fieldAddr (off := 0) (by kernel_rfl) rfl) ?_
  refine WA_one 11 (by kernel_rfl) ?_
  refine WO_sk rfl rfl (sk_store1 rfl rfl rfl rfl hr3 (by kernel_rfl) (by first | (simp only [List.length_replicate]; omega) | (simp only [iv_length]; omega) | (simp only [bv_length, List.length_set]; omega) | simp) (fun w906 hr3 ho906 => ?_))
  have hS905 := hS904.aq ho906
  refine ⟨hS905, ?_⟩
  replace hr := hr.only ho906 (Nat.ne_of_lt lt_g_g3)
  replace hown := hown.only ho906 (Nat.ne_of_lt lt_pl_g3)
  replace hmap := hmap.only ho906 (Nat.ne_of_lt lt_m_g3)
  replace hq := hq.only ho906 (by omega)
  replace hm' := hm'.only ho906 (by omega)
  replace hB := ho906.below hB ge_hB_g3
  refine WA_take 12 (by kernel_rfl) rfl (fun _ _ => rn_fieldAddr (off := 1) (by kernel_rfl) rfl) ?_
  refine WA_one 13 (by kernel_rfl) ?_
  refine WO_sk rfl rfl (sk_store1 rfl rfl rfl rfl hr3 (by kernel_rfl) (by first | (simp only [List.length_replicate]; omega) | (simp only [iv_length]; omega) | (simp only [bv_length, List.length_set]; omega) | simp) (fun w908 hr3 ho908 => ?_))
  have hS907 := hS905.aq ho908
  refine ⟨hS907, ?_⟩
  replace hr := hr.only ho908 (Nat.ne_of_lt lt_g_g3)
  replace hown := hown.only ho908 (Nat.ne_of_lt lt_pl_g3)
  replace hmap := hmap.only ho908 (Nat.ne_of_lt lt_m_g3)
  replace hq := hq.only ho908 (by omega)
  replace hm' := hm'.only ho908 (by omega)
  replace hB := ho908.below hB ge_hB_g3
  refine WA_done (by kernel_rfl) ?_
  refine thenN (W_seq (W_seq (W_region (WR_val rfl (rn_fieldAddr (off := 1) (by kernel_rfl) rfl) ?_))))
  refine WR_val rfl (rn_load rfl (Ld.row1 hr3 (by kernel_rfl) rfl)) ?_
  have z6 := hm'.lt
  refine WR_mk rfl (mk_rangeM (k := 3) (e := 52) (by kernel_rfl) (by kernel_rfl) hm' rfl (fun r w26 cnt hr0 hrg hb26 => ?_))
  replace hr := hr.new hb26
  replace hown := hown.new hb26
  replace hmap := hmap.new hb26
  replace hr3 := hr3.new hb26
  replace hq := hq.new hb26
  replace hm' := hm'.new hb26
  replace hB := hB.acc hb26
  refine WR_nil (thenN (W_block ?_))
  have hobt : ∃ N, D.V.length = N := ⟨_, rfl⟩
  obtain ⟨N, hN⟩ := hobt
  rw [hN] at hrg hr3 hq
  have z7 := hrg.lt
  have zne := hrg.ne
  have zqm : q < m' := by omega
  refine W_loop (α := Nat × (Nat → Option Value) × (Nat → Bool)) (cnt, since D sv, fun i => (since D sv i).isSome) (fun _ => [(26, .pointer (some ⟨r, 0, none⟩)), (3, .pointer (some ⟨g3, 0, none⟩))])
    (fun k w' => RgAt Try.prog 3 w' m' r N k.2.1 k.2.2 k.1 ∧ (∀ i, i < N → k.2.1 i = cond (k.2.2 i) (since D sv i) ((since D sv i).map clipV)) ∧ row w' g3 [.slice (some ⟨q, qo, none⟩) N cq, .map (some m'), .int .i64 st, .bool fu, .bool D.dead] 63 ∧ OwnG w' 0 34 128 q qo N cq (bv (lastsD D).flatten) ∧ Below w.heap.size w w') (fun k => k.1)
    ⟨rfl, rfl, rfl⟩ ⟨hrg, fun i hi => ?_, hr3, ownsAt.mono hq (Nat.zero_le _), hB⟩ ?_
  · exact opt_clip _
  clear hr3 hq hB hrg
  rintro ⟨k, f, left⟩ f0 wr ⟨hrg, hff, hr3, hq, hB⟩
  dsimp only at hrg hff ⊢
  refine W_seq (W_region ?_)
  refine WR_mk rfl (mk_nextM (by kernel_rfl) hrg rfl (fun hdone => ?_) (fun i v w909 cntN hiN hleftN hfN hrgN hltN hoN henN => ?_))
  ·
   refine WR_val rfl (rn_extract rfl rfl) (WR_nil (thenN (W_seq ?_)))
   refine W_fb rfl (rfl) ?_
   refine W_exit (thenX (loopX (blockX (thenN (W_seq (W_region (WR_val rfl (rn_assign) (WR_nil (thenN (W_ret ?_))))))))))
   refine ret_ret [_] ⟨rfl, trivial⟩ ?_
   have hmm := MapAt.congr hrg.map (f' := since D fun i => clipV (sv i)) fun i hi => by rw [hff i hi, hdone i hi, since_clip]; rfl
   refine ⟨g3, q, m', qo, cq, rfl, ⟨by rw [hN]; exact hr3, by rw [hN]; exact hq, by rw [hN]; exact hmm, fun i hi => ?_, fun b hb => Nat.lt_of_lt_of_le (h.inG b hb) hB.size, ⟨by omega, by omega, by omega, fun b hb => ?_⟩, h.left, h.ok, h.pos⟩, by omega, by omega, by omega, hB⟩
   · obtain ⟨p, c, e1, e2, e3⟩ := h.sv i hi
     exact ⟨p, _, by show clipV (sv i) = _; rw [e1]; rfl, e2.below hB (Nat.le_refl _), e3⟩
   · have := h.inG b hb
     omega
  ·
   replace hr3 := hr3.only hoN (by omega)
   replace hq := hq.only hoN (by omega)
   replace hB := hoN.below hB (by omega)
   have hsi := hff i hiN
   rw [hleftN, hfN, cond_true] at hsi
   have hop : openB D i = true := by
     by_cases ho : openB D i = true
     · exact ho
     · rw [since, if_neg ho] at hsi; cases hsi
   have hvi : v = sv i := by rw [since, if_pos hop] at hsi; exact Option.some.inj hsi
   have hobt := h.sv i hop
   obtain ⟨p, c, e1, e2, e3⟩ := hobt
   have hcc := hc i _ _ _ hop e1
   have hl1 : 1 < (ver D i).length := of_decide_eq_true hop
   have hobt := e2.some (by omega)
   obtain ⟨gp, op, rfl, hgp⟩ := hobt
   rw [e1] at hvi
   subst hvi
   refine WR_val rfl (rn_extract rfl rfl) (WR_nil (thenN (W_seq ?_)))
   refine W_tb rfl (rfl) ?_
   refine W_skip (thenN (W_block (W_seq (W_region ?_))))
   refine WR_val rfl (rn_entry rfl henN) ?_
   refine WR_val rfl (rn_extract rfl rfl) (WR_val rfl (rn_extract rfl rfl) (WR_val rfl (rn_assign) (WR_val rfl (rn_assign) (WR_nil (thenN ?_)))))
   refine W_draw' [m'] (by kernel_rfl) ?_
   intro w910 hb910 hS910
   replace hr3 := hr3.new hb910
   replace hq := hq.new hb910
   replace hrgN := hrgN.new hb910
   replace hB := hB.acc hb910
   have hr3_d910 := hr3
   have hq_d910 := hq
   have hrgN_d910 := hrgN
   have hB_d910 := hB
   refine WA_take 0 (by kernel_rfl) rfl (fun _ _ => rn_fieldAddr (off := 1) (by kernel_rfl) rfl) ?_
   refine WA_take 1 (by kernel_rfl) rfl (fun w' hS' => rn_load rfl (Ld.row1 (hr3_d910.kq hS') (by kernel_rfl) rfl)) ?_
   refine WA_take 2 (by kernel_rfl) rfl (fun _ _ => rn_move) ?_
   refine WA_take 3 (by kernel_rfl) rfl (fun _ _ => rn_move) ?_
   refine WA_call 4 (by kernel_rfl) rfl (fun _ => rn_call (by kernel_rfl) rfl) (fun w' hS' => clip43 ⟨_, _, rfl⟩ hcc (by omega)) ?_
   refine WA_one 5 (by kernel_rfl) ?_
   refine WO_sk rfl rfl (sk_mapUpdR (k := 3) (e := 52) (.slice (some ⟨gp, op, none⟩) ((ver D i).length - 1) ((ver D i).length - 1)) (_) (by kernel_rfl) (by kernel_rfl) hrgN rfl rfl rfl (i) (by first | rfl | omega) (by omega) (by omega) (hfN) (fun w912 hrgN ho912 => ?_))
   have hS911 := hS910.aq ho912
   refine ⟨hS911, ?_⟩
   replace hr3 := hr3.only ho912 (by omega)
   replace hq := hq.only ho912 (by omega)
   replace hB := ho912.below hB (by omega)
   refine WA_done (by kernel_rfl) ?_
   refine blockN ?_
   refine loopN ⟨(cntN, updF f i (some (.slice (some ⟨gp, op, none⟩) ((ver D i).length - 1) ((ver D i).length - 1))), fun j => left j && !decide (j = i)), hltN, ⟨rfl, rfl, rfl⟩, hrgN, fun j hj => ?_, hr3, hq, hB⟩
   dsimp only
   unfold updF
   by_cases hj2 : j = i
   · subst hj2
     rw [if_pos rfl, since, if_pos hop, e1, decide_eq_true rfl]
     simp [clipV]
   · rw [if_neg hj2, hff j hj, decide_eq_false hj2]
     simp
end Go.Proofs.Ytpndhildmfmcgaa
namespace Go.Proofs.Ytpndhildmfmcgaa
open Go Go.RowKit Coup
def writesD (D : Dk) (l : List AcT) : Dk := l.foldl (fun D a => writeA D a.at_ a.s) D
theorem Alive.weak {D : Dk} {k k' : Nat} (h : Alive D k) (hk : k ≤ k') : Alive D k' := ⟨h.left, h.dead, h.pos, short_of h.short hk⟩
theorem Alive.writeA {D : Dk} {k : Nat} (h : Alive D k) (i : Int) (s : Sec) : Alive (writeA D i s) (k + 1) ∧ (Go.Proofs.Ytpndhildmfmcgaa.writeA D i s).V.length = D.V.length ∧
    ∀ j, j < D.V.length → ver (Go.Proofs.Ytpndhildmfmcgaa.writeA D i s) j = if i = (j : Int) then ver D j ++ [s] else ver D j := by
  unfold Go.Proofs.Ytpndhildmfmcgaa.writeA
  split
  · rename_i hin
    obtain ⟨m, rfl, hm⟩ := inD_nat hin
    obtain ⟨h1, h2⟩ := step_alive h.left h.dead
    rw [Int.toNat_natCast, writeD, if_pos h1, h2]
    refine ⟨⟨h.left, h.dead, by show 0 < (D.V.set _ _).length; rw [List.length_set]; exact h.pos, fun v hv => ?_⟩, List.length_set .., fun j hj => ?_⟩
    · rcases List.mem_or_eq_of_mem_set hv with e | e
      · exact Nat.le_trans (h.short v e) (by omega)
      · rw [e, List.length_append, List.length_singleton]
        have := h.short.ver hm
        omega
    · rw [ver_set hm]
      by_cases e : m = j
      · subst e; rw [if_pos rfl, if_pos rfl]
      · rw [if_neg e, if_neg (by omega)]
  · rename_i hin
    refine ⟨h.weak (by omega), rfl, fun j hj => ?_⟩
    rw [if_neg]
    intro e
    exact hin (decide_eq_true (by rw [e]; omega))
def FromB (x : Sec) (l : List AcT) (i : Nat) (s : Sec) : Prop := s = x ∨ ∃ a ∈ l, a.at_ = (i : Int) ∧ a.s = s
def fstH (s : Sec) : Sec := (s.drop 0).take 64
def sndH (s : Sec) : Sec := (s.drop 64).take 64
theorem flush_len {D : Dk} : (flushD D).V.length = D.V.length := by
  unfold flushD
  split
  · simp
  · rw [stepD_V]
end Go.Proofs.Ytpndhildmfmcgaa
namespace Go.Proofs.Ytpndhildmfmcgaa
open Go Go.RowKit Coup
structure RRAt (w : World) (g pv : Nat) (G : List Nat) (D : Dk) (ov cv : Nat) (vs : List Value) (g' pv' : Nat) (G' : List Nat) (O : Dk) (ov' cv' : Nat) (vs' : List Value) : Prop where
  a : RfM w g pv G D ov cv vs
  b : RfM w g' pv' G' O ov' cv' vs'
  d1 : ∀ x ∈ [g, pv], x ∉ [g', pv'] ∧ x ∉ G'
  d2 : ∀ x ∈ [g', pv'], x ∉ G
def RR (g g' : Nat) (D O : Dk) : World → List Nat → Prop := fun w C => ∃ pv G ov cv vs pv' G' ov' cv' vs', RRAt w g pv G D ov cv vs g' pv' G' O ov' cv' vs' ∧ C = ([g, pv] ++ G) ++ ([g', pv'] ++ G')
namespace RRAt
variable {w w' : World} {g pv : Nat} {G : List Nat} {D : Dk} {ov cv : Nat} {vs : List Value} {g' pv' : Nat} {G' : List Nat} {O : Dk} {ov' cv' : Nat} {vs' : List Value}
theorem swap (h : RRAt w g pv G D ov cv vs g' pv' G' O ov' cv' vs') : RRAt w g' pv' G' O ov' cv' vs' g pv G D ov cv vs :=
  ⟨h.b, h.a, fun x hx => ⟨fun hm => (h.d1 x hm).1 hx, h.d2 x hx⟩, fun x hx => (h.d1 x hx).2⟩
theorem kpd {M : List Nat} (h : RRAt w g pv G D ov cv vs g' pv' G' O ov' cv' vs') (k : Kp M w w') (hM : ∀ b ∈ ([g, pv] ++ G) ++ ([g', pv'] ++ G'), b ∉ M) : RRAt w' g pv G D ov cv vs g' pv' G' O ov' cv' vs' :=
  ⟨h.a.kpd k ⟨hM g (by simp), hM pv (by simp), fun b hb => hM b (by simp [hb])⟩, h.b.kpd k ⟨hM g' (by simp), hM pv' (by simp), fun b hb => hM b (by simp [hb])⟩, h.d1, h.d2⟩
theorem turn {G2 : List Nat} {D2 : Dk} {vs2 : List Value} (h : RRAt w g pv G D ov cv vs g' pv' G' O ov' cv' vs') (h2 : RfM w' g pv G2 D2 ov cv vs2) (hG : ∀ b ∈ G2, b ∈ G ∨ w.heap.size ≤ b) (k : Kp [g, pv] w w') : ∃ C', RR g g' D2 O w' C' ∧ Mv (([g, pv] ++ G) ++ ([g', pv'] ++ G')) C' w w' := by
  have hn : ∀ x ∈ [g', pv'], x ∉ [g, pv] := fun x hx hm => (h.d1 x hm).1 hx
  have hb := h.b.kpd k ⟨hn g' (by simp), hn pv' (by simp), fun b hb hm => (h.d1 b hm).2 hb⟩
  refine ⟨_, ⟨pv, G2, ov, cv, vs2, pv', G', ov', cv', vs', ⟨h2, hb, h.d1, fun x hx hm => ?_⟩, rfl⟩, ⟨k.weak fun x _ hx => ?_, fun b hb => ?_⟩⟩
  · rcases hG x hm with hm | hm
    · exact h.d2 x hx hm
    · have : x < w.heap.size := by
        simp only [List.mem_cons, List.not_mem_nil, or_false] at hx
        rcases hx with rfl | rfl
        · exact h.b.row.lt
        · exact h.b.own.lt
      omega
  · simp only [List.mem_cons, List.not_mem_nil, or_false] at hx
    rcases hx with rfl | rfl <;> simp
  · rcases List.mem_append.1 hb with hb | hb
    · rcases List.mem_append.1 hb with hb | hb
      · exact .inl (List.mem_append_left _ (List.mem_append_left _ hb))
      · exact (hG b hb).imp (fun hb => List.mem_append_left _ (List.mem_append_right _ hb)) id
    · exact .inl (List.mem_append_right _ hb)
end RRAt
namespace RR
variable {w w' : World} {g g' : Nat} {D O : Dk} {B : List Nat}
theorem lt (h : RR g g' D O w B) : ∀ b ∈ B, b < w.heap.size := by
  obtain ⟨pv, G, ov, cv, vs, pv', G', ov', cv', vs', h, rfl⟩ := h
  intro b hb
  rcases List.mem_append.1 hb with hb | hb
  · rcases List.mem_append.1 hb with hb | hb
    · simp only [List.mem_cons, List.not_mem_nil, or_false] at hb
      rcases hb with rfl | rfl
      · exact h.a.row.lt
      · exact h.a.own.lt
    · exact h.a.inG b hb
  · rcases List.mem_append.1 hb with hb | hb
    · simp only [List.mem_cons, List.not_mem_nil, or_false] at hb
      rcases hb with rfl | rfl
      · exact h.b.row.lt
      · exact h.b.own.lt
    · exact h.b.inG b hb
instance (g g' : Nat) (D O : Dk) : Thing (RR g g' D O) :=
  ⟨fun {w w' B M} ⟨pv, G, ov, cv, vs, pv', G', ov', cv', vs', h, e⟩ k hM => ⟨pv, G, ov, cv, vs, pv', G', ov', cv', vs', h.kpd k (by rw [← e]; exact hM), e⟩, lt⟩
theorem swap (h : RR g g' D O w B) : ∃ B', RR g' g O D w B' ∧ ∀ b, b ∈ B' ↔ b ∈ B := by
  obtain ⟨pv, G, ov, cv, vs, pv', G', ov', cv', vs', h, e⟩ := h
  exact ⟨_, ⟨pv', G', ov', cv', vs', pv, G, ov, cv, vs, h.swap, rfl⟩, fun b => by rw [e]; exact ⟨fun hm => List.mem_append.2 (List.mem_append.1 hm).symm, fun hm => List.mem_append.2 (List.mem_append.1 hm).symm⟩⟩
end RR
theorem swap4 {g g' h h' lo : Nat} {L : List Nat} {D O E F : Dk} {w : World} (H : Two (DO g g' D O) (RR h h' E F) lo L w) : Two (DO g' g O D) (RR h' h F E) lo L w := by
  obtain ⟨⟨B, C, h1, h2, h3, h4⟩, h5, h6⟩ := H
  obtain ⟨B', h7, h8⟩ := h1.swap
  obtain ⟨C', h9, h10⟩ := h2.swap
  exact ⟨⟨B', C', h7, h9, fun b hb => ⟨(h3 b ((h8 b).1 hb)).1, fun hc => (h3 b ((h8 b).1 hb)).2.1 ((h10 b).1 hc), (h3 b ((h8 b).1 hb)).2.2⟩, fun b hb => h4 b ((h10 b).1 hb)⟩, h5, h6⟩
section
variable {Y : World → List Nat → Prop} [Thing Y] {g g' lo : Nat} {L : List Nat} {D O : Dk} {w : World}
omit [Thing Y] in
theorem qOk (h : Two (DO g g' D O) Y lo L w) : DkOk D ∧ 0 < D.V.length := by
  obtain ⟨⟨B, C, ⟨pl, m, G, ol, cl, st, fu, sv, pl', m', G', ol', cl', st', fu', sv', h, _⟩, _⟩, _⟩ := h
  exact ⟨h.a.ok, h.a.pos⟩
theorem qWrite (h : Two (DO g g' D O) Y lo L w) (i : Int) (s : Sec) (hs : s.length = 128) (hsh : shortD D 90000) :
    Calls Try.prog 17 [.pointer (some ⟨g, 0, none⟩), .int .i64 i, .agg (bv s).toArray].toArray w (Ret fun v w' => v = .int .i64 (writeE D i) ∧ Two (DO g g' (writeA D i s) O) Y lo L w' ∧ LoL lo L w w') :=
  h.left fun B hX _ => hX.write i s hs hsh
theorem qFlush (h : Two (DO g g' D O) Y lo L w) :
    Calls Try.prog 16 [.pointer (some ⟨g, 0, none⟩)].toArray w (Ret fun v w' => v = .int .i64 (if stepOk D then 0 else 10) ∧ Two (DO g g' (flushD D) O) Y lo L w' ∧ LoL lo L w w') :=
  h.left fun B hX _ => hX.flush
theorem qFuse (h : Two (DO g g' D O) Y lo L w) (k : Int) (hk : k ≤ 9223372036854775807) :
    Calls Try.prog 15 [.pointer (some ⟨g, 0, none⟩), .int .i64 k].toArray w (Ret fun v w' => v = .int .i64 (if 0 ≤ k then 0 else 2) ∧ Two (DO g g' (fuseA D k) O) Y lo L w' ∧ LoL lo L w w') :=
  h.left fun B hX _ => hX.fuse k hk
theorem qCrash (h : Two (DO g g' D O) Y lo L w) (pp : Option Addr) (np cp : Nat) (picks : List Int) (hpk : SlAt w pp np 1 (iv picks)) (hpkb : 0 < np → ∀ b o, pp = some ⟨b, o, none⟩ → b < lo ∨ b ∈ L) :
    Calls Try.prog 20 [.pointer (some ⟨g, 0, none⟩), .slice pp np cp].toArray w (Ret fun v w' => v = .int .i64 0 ∧ Two (DO g g' (crashD D picks) O) Y lo L w' ∧ LoL lo L w w') :=
  h.left fun B hX hB => hX.crash pp np cp picks hpk fun h0 b o e hm => (hpkb h0 b o e).elim (fun hl => absurd (hB b hm).1 (Nat.not_le.2 hl)) (hB b hm).2
omit [Thing Y]
theorem qSectors (h : Two (DO g g' D O) Y lo L w) : Calls Try.prog 27 [.pointer (some ⟨g, 0, none⟩)].toArray w (Ret fun v w' => v = .int .i64 (D.V.length : Int) ∧ w = w') := by
  obtain ⟨⟨B, C, ⟨pl, m, G, ol, cl, st, fu, sv, pl', m', G', ol', cl', st', fu', sv', h, _⟩, _⟩, _⟩ := h
  exact sectors27 h.a
theorem qDead (h : Two (DO g g' D O) Y lo L w) : Calls Try.prog 18 [.pointer (some ⟨g, 0, none⟩)].toArray w (Ret fun v w' => v = .bool D.dead ∧ w = w') := by
  obtain ⟨⟨B, C, ⟨pl, m, G, ol, cl, st, fu, sv, pl', m', G', ol', cl', st', fu', sv', h, _⟩, _⟩, _⟩ := h
  exact dead18 h.a
theorem qRead (h : Two (DO g g' D O) Y lo L w) (i : Int) : Calls Try.prog 23 [.pointer (some ⟨g, 0, none⟩), .int .i64 i].toArray w (Ret fun v w' => v = .tuple #[.agg (bv (if inD D i then readD D i.toNat else zeroS)).toArray, .int .i64 (if inD D i then 0 else 2)] ∧ Below w.heap.size w w') := by
  obtain ⟨⟨B, C, ⟨pl, m, G, ol, cl, st, fu, sv, pl', m', G', ol', cl', st', fu', sv', h, _⟩, _⟩, _⟩ := h
  exact read23 h.a i
theorem qOpen (h : Two (DO g g' D O) Y lo L w) : Calls Try.prog 22 [.pointer (some ⟨g, 0, none⟩)].toArray w (Ret fun v w' => ∃ p c, v = .slice p (opI D).length c ∧ SlAt w' p (opI D).length 1 (iv (opI D)) ∧ (∀ b o, p = some ⟨b, o, none⟩ → w.heap.size ≤ b) ∧ Below w.heap.size w w') := by
  obtain ⟨⟨B, C, ⟨pl, m, G, ol, cl, st, fu, sv, pl', m', G', ol', cl', st', fu', sv', h, _⟩, _⟩, _⟩ := h
  exact open22 h.a
theorem qSame (h : Two (DO g g' D O) Y lo L w) : Calls Try.prog 19 [.pointer (some ⟨g, 0, none⟩), .pointer (some ⟨g', 0, none⟩)].toArray w (Ret fun v w' => v = .bool (sameD D O) ∧ Below w.heap.size w w') := by
  obtain ⟨⟨B, C, ⟨pl, m, G, ol, cl, st, fu, sv, pl', m', G', ol', cl', st', fu', sv', h, _⟩, _⟩, _⟩ := h
  exact same19 h.a h.b
end
section
variable {X : World → List Nat → Prop} [Thing X] {g g' lo : Nat} {L : List Nat} {D O : Dk} {w : World}
theorem vWrite (h : Two X (RR g g' D O) lo L w) (i : Nat) (s : Sec) (hi : i < D.V.length) (hs : s.length = 128) (hsh : shortD D 90000) :
    Calls Try.prog 32 [.pointer (some ⟨g, 0, none⟩), .int .i64 (i : Int), .agg (bv s).toArray].toArray w (Ret fun v w' => v = .bool (stepOk D) ∧ Two X (RR g g' (writeD D i s) O) lo L w' ∧ LoL lo L w w') :=
  h.right fun B hX _ => by
    obtain ⟨pv, G, ov, cv, vs, pv', G', ov', cv', vs', h1, rfl⟩ := hX
    exact (rwrite32 h1.a i s hi hs (Nat.lt_of_le_of_lt (hsh.ver hi) (by omega))).to fun v w' ⟨a, ⟨G2, vs2, b, b2⟩, c⟩ => ⟨a, h1.turn b b2 c⟩
theorem vFlush (h : Two X (RR g g' D O) lo L w) :
    Calls Try.prog 33 [.pointer (some ⟨g, 0, none⟩)].toArray w (Ret fun v w' => v = .bool (stepOk D) ∧ Two X (RR g g' (flushD D) O) lo L w' ∧ LoL lo L w w') :=
  h.right fun B hX _ => by
    obtain ⟨pv, G, ov, cv, vs, pv', G', ov', cv', vs', h1, rfl⟩ := hX
    exact (rflush33 h1.a).to fun v w' ⟨a, ⟨G2, vs2, b, b2⟩, c⟩ => ⟨a, h1.turn b b2 c⟩
theorem vCrash (h : Two X (RR g g' D O) lo L w) (pp : Option Addr) (np cp : Nat) (picks : List Int) (hpk : SlAt w pp np 1 (iv picks)) (hpkb : 0 < np → ∀ b o, pp = some ⟨b, o, none⟩ → b < lo ∨ b ∈ L) :
    Calls Try.prog 34 [.pointer (some ⟨g, 0, none⟩), .slice pp np cp].toArray w (Ret fun _ w' => True ∧ Two X (RR g g' (crashD D picks) O) lo L w' ∧ LoL lo L w w') :=
  h.right fun B hX hB => by
    obtain ⟨pv, G, ov, cv, vs, pv', G', ov', cv', vs', h1, rfl⟩ := hX
    exact (rcrash34 h1.a pp np cp picks hpk fun h0 b o e hm => (hpkb h0 b o e).elim (fun hl => absurd (hB b (List.mem_append_left _ (List.mem_append_left _ hm))).1 (Nat.not_le.2 hl)) (hB b (List.mem_append_left _ (List.mem_append_left _ hm))).2).to fun v w' ⟨⟨G2, vs2, b, b2⟩, c⟩ => ⟨trivial, h1.turn b b2 c⟩
omit [Thing X]
theorem vIn (h : Two X (RR g g' D O) lo L w) (i : Int) : Calls Try.prog 30 [.pointer (some ⟨g, 0, none⟩), .int .i64 i].toArray w (Ret fun v w' => v = .bool (inD D i) ∧ w = w') := by
  obtain ⟨⟨B, C, _, ⟨pv, G, ov, cv, vs, pv', G', ov', cv', vs', h1, _⟩, _⟩, _⟩ := h
  exact rin30 h1.a i
theorem vRead (h : Two X (RR g g' D O) lo L w) (i : Nat) (hi : i < D.V.length) : Calls Try.prog 26 [.pointer (some ⟨g, 0, none⟩), .int .i64 (i : Int)].toArray w (Ret fun v w' => v = .agg (bv (readD D i)).toArray ∧ Below w.heap.size w w') := by
  obtain ⟨⟨B, C, _, ⟨pv, G, ov, cv, vs, pv', G', ov', cv', vs', h1, _⟩, _⟩, _⟩ := h
  exact rread26 h1.a i hi
theorem vOpen (h : Two X (RR g g' D O) lo L w) : Calls Try.prog 35 [.pointer (some ⟨g, 0, none⟩)].toArray w (Ret fun v w' => ∃ p c, v = .slice p (opI D).length c ∧ SlAt w' p (opI D).length 1 (iv (opI D)) ∧ (∀ b o, p = some ⟨b, o, none⟩ → w.heap.size ≤ b) ∧ Below w.heap.size w w') := by
  obtain ⟨⟨B, C, _, ⟨pv, G, ov, cv, vs, pv', G', ov', cv', vs', h1, _⟩, _⟩, _⟩ := h
  exact ropen35 h1.a
theorem vRow (h : Two X (RR g g' D O) lo L w) : ∃ pv ov cv, Coup.row w g [.slice (some ⟨pv, ov, none⟩) D.V.length cv, .int .i64 D.left, .bool D.dead] 58 := by
  obtain ⟨⟨B, C, _, ⟨pv, G, ov, cv, vs, pv', G', ov', cv', vs', h1, _⟩, _⟩, _⟩ := h
  exact ⟨pv, ov, cv, h1.a.row⟩
end
theorem vLeft {X : World → List Nat → Prop} [Thing X] {g g' lo : Nat} {L : List Nat} {D O : Dk} {w w' : World} (h : Two X (RR g g' D O) lo L w) {pv ov cv : Nat} {k : Int}
    (hr : Coup.row w g [.slice (some ⟨pv, ov, none⟩) D.V.length cv, .int .i64 D.left, .bool D.dead] 58)
    (hr' : Coup.row w' g [.slice (some ⟨pv, ov, none⟩) D.V.length cv, .int .i64 k, .bool D.dead] 58) (ho : Only g w w') (hk : 0 ≤ k ∧ k ≤ 9223372036854775807) : Two X (RR g g' (fuseA D k) O) lo L w' ∧ LoL lo L w w' := by
  obtain ⟨⟨B, C, h1, ⟨pv', G, ov', cv', vs, pv2, G2, ov2, cv2, vs2, h2, rfl⟩, h3, h4⟩, h5, h6⟩ := h
  have e := row_inj hr h2.a.row
  have e1 := (List.cons.inj e).1
  injection e1 with ea eb ec
  injection ea with ea
  injection ea with ea eo
  subst ea eo ec
  have hf : fuseA D k = { D with left := k, dead := D.dead } := by unfold fuseA; rw [if_pos hk.1]
  have ht := h2.a.turn ho hr' (by omega)
  rw [← hf] at ht
  obtain ⟨C', hC, hm⟩ := h2.turn ht (fun b hb => .inl hb) ((Kp.of_only ho).weak fun b _ hb => by rw [List.mem_singleton.1 hb]; simp)
  exact ⟨(Two.mv (X' := RR g g' (fuseA D k) O) (X := RR g g' D O) (Y := X) hC h1 (fun b hb => ⟨(h4 b hb).1, fun hc => (h3 b hc).2.1 hb, (h4 b hb).2⟩) (fun b hb => ⟨(h3 b hb).1, (h3 b hb).2.2⟩) h5 h6 hm).swap, LoL.of_kp hm.k fun b hb => .inl (h4 b hb)⟩
end Go.Proofs.Ytpndhildmfmcgaa
namespace Go.Proofs.Ytpndhildmfmcgaa
open Go Go.RowKit Coup
theorem vWriteI {X : World → List Nat → Prop} [Thing X] {g g2 lo : Nat} {L : List Nat} {D F : Dk} {w : World} (h : Two X (RR g g2 D F) lo L w) (i : Int) (s : Sec) (hi : inD D i = true) (hs : s.length = 128) (hsh : shortD D 90000) :
    Calls Try.prog 32 [.pointer (some ⟨g, 0, none⟩), .int .i64 i, .agg (bv s).toArray].toArray w (Ret fun v w' => v = .bool (stepOk D) ∧ Two X (RR g g2 (writeA D i s) F) lo L w' ∧ LoL lo L w w') := by
  rw [writeA, hi, if_pos rfl]
  obtain ⟨k, rfl, hk⟩ := inD_nat hi
  exact vWrite h k s hk hs hsh
theorem vReadI {X : World → List Nat → Prop} {g g2 lo : Nat} {L : List Nat} {D F : Dk} {w : World} (h : Two X (RR g g2 D F) lo L w) (i : Int) (hi : inD D i = true) :
    Calls Try.prog 26 [.pointer (some ⟨g, 0, none⟩), .int .i64 i].toArray w (Ret fun v w' => v = .agg (bv (readD D i.toNat)).toArray ∧ Below w.heap.size w w') := by
  obtain ⟨k, rfl, hk⟩ := inD_nat hi
  exact vRead h k hk
set_option maxRecDepth 8000 in
set_option maxHeartbeats 2000000 in
theorem do13q {g g2 h h2 lo : Nat} {L : List Nat} {D O F : Dk} {w : World} (hD : Two (DO g g2 D O) (RR h h2 D F) lo L w) (a : AcT) (q : Option Addr) (cp : Nat) (hs : a.s.length = 128) (hn : a.n ≤ 9223372036854775807) (hq : SlAt w q a.picks.length 1 (iv a.picks))
    (hqb : 0 < a.picks.length → ∀ b o, q = some ⟨b, o, none⟩ → b < lo ∨ b ∈ L) (hsh : shortD D 90000) :
    Calls Try.prog 13 [.pointer (some ⟨g, 0, none⟩), .pointer (some ⟨h, 0, none⟩), .agg (acC a q cp).toArray].toArray w (Ret fun v w' => v = .bool true ∧ Two (DO g g2 (doD D a) O) (RR h h2 (doD D a) F) lo L w' ∧ LoL lo L w w') := by
  have hLL := LoL.refl lo L w
  have hacl := acC_len (q := q) (cp := cp) hs
  have hsl : (bv a.s).length = 128 := by rw [bv_length]; exact hs
  obtain ⟨Z, hzz, hzb, hzl⟩ := zeroSQ
  refine calls_W (fn := Try.f13) (rs := [.tmp 6]) (n := 105) Try.func13 rfl rfl Try.ntmps13 (by kernel_rfl) rfl ?_
  refine W_seq (W_region ?_)
  refine WR_mk rfl (mk_box ((acC a q cp)) rfl (fun g5 w5 hg5 hr5 hb5 => ?_))
  replace hD := hD.newc hb5 hg5 hr5.lt
  replace hLL := hLL.new hb5
  refine WR_val rfl (rn_assign) (WR_nil (thenN (W_seq (W_seq (W_region (WR_val rfl (rn_fieldAddr (off := 0) (by kernel_rfl) rfl) ?_))))))
  refine WR_val rfl (rn_load rfl (Ld.row1 hr5 (by kernel_rfl) rfl)) ?_
  refine WR_nil (thenN (W_block (W_seq (W_region ?_))))
  refine WR_val rfl (rn_eql rfl rfl) ?_
  refine WR_val rfl (rn_assign) (WR_nil (thenN ?_))
  refine W_ifp rfl (fun hk1 => ?_) (fun hk1 => ?_)
  ·
   refine W_seq (W_region (WR_val rfl (rn_move) (WR_val rfl (rn_fieldAddr (off := 1) (by kernel_rfl) rfl) ?_)))
   refine WR_val rfl (rn_load rfl (Ld.row1 hr5 (by kernel_rfl) rfl)) ?_
   refine WR_val rfl (rn_fieldAddr (off := 3) (by kernel_rfl) rfl) ?_
   refine WR_val rfl (rn_load rfl (ld_acS hr5 hs)) ?_
   refine WR_ent rfl (rn_call (by kernel_rfl) rfl) (qWrite hD a.at_ a.s hs hsh) ?_
   rintro _ w20 ⟨rfl, hD, hb20⟩
   replace hLL := hLL.lq hb20
   replace hr5 := hr5.kl hb20
   refine WR_val rfl (rn_assign) (WR_nil (thenN (W_seq (W_seq (W_region (WR_val rfl (rn_move) (WR_val rfl (rn_fieldAddr (off := 1) (by kernel_rfl) rfl) ?_)))))))
   refine WR_val rfl (rn_load rfl (Ld.row1 hr5 (by kernel_rfl) rfl)) ?_
   refine WR_ent rfl (rn_call (by kernel_rfl) rfl) (vIn hD a.at_) ?_
   rintro _ _ ⟨rfl, rfl⟩
   refine WR_val rfl (rn_not rfl) ?_
   refine WR_nil (thenN ?_)
   refine W_ifnb rfl (fun hin => ?_) (fun hin => ?_)
   ·
    refine W_seq (W_region (WR_val rfl (rn_move) ?_))
    refine WR_val rfl (rn_eql rfl rfl) ?_
    refine WR_val rfl (rn_assign) (WR_nil (thenN (W_ret (thenR (blockR (thenR ?_))))))
    refine ret_ret [_] ⟨rfl, trivial⟩ ?_
    have e : doD D a = writeA D a.at_ a.s := by rw [doD, if_pos hk1]
    have e2 : writeA D a.at_ a.s = D := by rw [writeA, hin]; rfl
    rw [e, e2]
    rw [e2] at hD
    refine ⟨?_, hD.weak (fun b hb => List.mem_cons_of_mem _ hb), hLL⟩
    show Value.bool (decide (writeE D a.at_ = 2)) = _
    rw [writeE, hin]; rfl
   ·
    refine W_skip (thenN (W_seq (W_region (WR_val rfl (rn_move) (WR_val rfl (rn_move) (WR_val rfl (rn_fieldAddr (off := 1) (by kernel_rfl) rfl) ?_))))))
    refine WR_val rfl (rn_load rfl (Ld.row1 hr5 (by kernel_rfl) rfl)) ?_
    refine WR_val rfl (rn_fieldAddr (off := 3) (by kernel_rfl) rfl) ?_
    refine WR_val rfl (rn_load rfl (ld_acS hr5 hs)) ?_
    refine WR_ent rfl (rn_call (by kernel_rfl) rfl) (vWriteI hD a.at_ a.s hin hs hsh) ?_
    rintro _ w34 ⟨rfl, hD, hb34⟩
    replace hLL := hLL.lq hb34
    replace hr5 := hr5.kl hb34
    refine WR_ent rfl (rn_call (by kernel_rfl) rfl) (errno31 _ w34) ?_
    rintro _ _ ⟨rfl, rfl⟩
    refine WR_val rfl (rn_eql rfl rfl) ?_
    refine WR_val rfl (rn_assign) (WR_nil (thenN (W_ret (blockR (thenR ?_)))))
    refine ret_ret [_] ⟨rfl, trivial⟩ ?_
    have e : doD D a = writeA D a.at_ a.s := by rw [doD, if_pos hk1]
    rw [e]
    refine ⟨?_, hD.weak (fun b hb => List.mem_cons_of_mem _ hb), hLL⟩
    show Value.bool (decide (writeE D a.at_ = _)) = _
    rw [writeE, hin, if_pos rfl, decide_eq_true rfl]
  ·
   refine W_seq (W_region ?_)
   refine WR_val rfl (rn_eql rfl rfl) ?_
   refine WR_val rfl (rn_assign) (WR_nil (thenN ?_))
   refine W_ifp rfl (fun hk2 => ?_) (fun hk2 => ?_)
   ·
    refine W_seq (W_region (WR_val rfl (rn_move) ?_))
    refine WR_ent rfl (rn_call (by kernel_rfl) rfl) (qFlush hD) ?_
    rintro _ w40 ⟨rfl, hD, hb40⟩
    replace hLL := hLL.lq hb40
    replace hr5 := hr5.kl hb40
    refine WR_val rfl (rn_move) ?_
    refine WR_ent rfl (rn_call (by kernel_rfl) rfl) (vFlush hD) ?_
    rintro _ w42 ⟨rfl, hD, hb42⟩
    replace hLL := hLL.lq hb42
    replace hr5 := hr5.kl hb42
    refine WR_ent rfl (rn_call (by kernel_rfl) rfl) (errno31 _ w42) ?_
    rintro _ _ ⟨rfl, rfl⟩
    refine WR_val rfl (rn_eql rfl rfl) ?_
    refine WR_val rfl (rn_assign) (WR_nil (thenN (W_ret (blockR (thenR ?_)))))
    refine ret_ret [_] ⟨rfl, trivial⟩ ?_
    have e : doD D a = flushD D := by rw [doD, if_neg hk1, if_pos hk2]
    rw [e]
    refine ⟨?_, hD.weak (fun b hb => List.mem_cons_of_mem _ hb), hLL⟩
    show Value.bool (decide (_ = _)) = _
    rw [decide_eq_true rfl]
   ·
    refine W_seq (W_region ?_)
    refine WR_val rfl (rn_eql rfl rfl) ?_
    refine WR_val rfl (rn_assign) (WR_nil (thenN ?_))
    refine W_ifp rfl (fun hk3 => ?_) (fun hk3 => ?_)
    ·
     refine W_seq (W_region (WR_val rfl (rn_move) (WR_val rfl (rn_fieldAddr (off := 2) (by kernel_rfl) rfl) ?_)))
     refine WR_val rfl (rn_load rfl (Ld.row1 hr5 (by kernel_rfl) rfl)) ?_
     refine WR_ent rfl (rn_call (by kernel_rfl) rfl) (qFuse hD a.n hn) ?_
     rintro _ w50 ⟨rfl, hD, hb50⟩
     replace hLL := hLL.lq hb50
     replace hr5 := hr5.kl hb50
     refine WR_val rfl (rn_assign) (WR_nil (thenN (W_seq (W_seq (W_region (WR_val rfl (rn_fieldAddr (off := 2) (by kernel_rfl) rfl) ?_))))))
     refine WR_val rfl (rn_load rfl (Ld.row1 hr5 (by kernel_rfl) rfl)) ?_
     refine WR_val rfl (rn_lss rfl rfl) ?_
     refine WR_nil (thenN ?_)
     refine W_ifp rfl (fun hneg => ?_) (fun hneg => ?_)
     ·
      refine W_seq (W_region (WR_val rfl (rn_move) ?_))
      refine WR_val rfl (rn_eql rfl rfl) ?_
      refine WR_val rfl (rn_assign) (WR_nil (thenN (W_ret (thenR (blockR (thenR ?_))))))
      refine ret_ret [_] ⟨rfl, trivial⟩ ?_
      have e : doD D a = fuseA D a.n := by rw [doD, if_neg hk1, if_neg hk2, if_pos hk3]
      have e2 : fuseA D a.n = D := by rw [fuseA, if_neg (by omega)]
      rw [e, e2]
      rw [e2] at hD
      refine ⟨?_, hD.weak (fun b hb => List.mem_cons_of_mem _ hb), hLL⟩
      show Value.bool (decide ((if 0 ≤ a.n then (0 : Int) else 2) = 2)) = _
      rw [if_neg (by omega)]; rfl
     ·
      have e : doD D a = fuseA D a.n := by rw [doD, if_neg hk1, if_neg hk2, if_pos hk3]
      have hobt := vRow hD
      obtain ⟨pv, ov, cv, hrh⟩ := hobt
      have hrh0 := hrh
      have hLL0 := hLL
      refine W_skip (thenN (W_seq (W_region (WR_val rfl (rn_move) (WR_val rfl (rn_fieldAddr (off := 2) (by kernel_rfl) rfl) ?_)))))
      refine WR_val rfl (rn_load rfl (Ld.row1 hr5 (by kernel_rfl) rfl)) ?_
      refine WR_val rfl (rn_nilCheckP rfl) (WR_val rfl (rn_fieldAddr (off := 1) (by kernel_rfl) rfl) ?_)
      have hDs := hD
      have hLs := hLL0
      refine WR_sk rfl (sk_store1 rfl rfl rfl rfl hrh (by kernel_rfl) (by first | (simp only [List.length_replicate]; omega) | (simp only [iv_length]; omega) | (simp only [bv_length, List.length_set]; omega) | simp) (fun w901 hrh ho901 => ?_))
      refine WR_nil (thenN (W_seq (W_region (WR_val rfl (rn_move) ?_))))
      refine WR_val rfl (rn_eql rfl rfl) ?_
      refine WR_val rfl (rn_assign) (WR_nil (thenN (W_ret (blockR (thenR ?_)))))
      refine ret_ret [_] ⟨rfl, trivial⟩ ?_
      have hu := vLeft hDs hrh0 hrh ho901 ⟨by omega, hn⟩
      rw [e]
      refine ⟨?_, ?_, hLL0.ll hu.2 (fun b hb => List.mem_cons_of_mem _ hb)⟩
      · show Value.bool (decide ((if 0 ≤ a.n then (0 : Int) else 2) = 0)) = _
        rw [if_pos (by omega)]; rfl
      · exact hu.1.weak (fun b hb => List.mem_cons_of_mem _ hb)
    ·
     refine W_seq (W_region ?_)
     refine WR_val rfl (rn_eql rfl rfl) ?_
     refine WR_val rfl (rn_assign) (WR_nil (thenN ?_))
     refine W_ifp rfl (fun hk4 => ?_) (fun hk4 => ?_)
     ·
      refine W_seq (W_region (WR_val rfl (rn_move) (WR_val rfl (rn_fieldAddr (off := 131) (by kernel_rfl) rfl) ?_)))
      refine WR_val rfl (rn_load rfl (ld_acP hr5 hs)) ?_
      have hq1 := hq.kpd0 hLL.kp (fun h0 b o e => notLL (hqb h0 b o e))
      have hq2 : 0 < a.picks.length → ∀ b o, q = some ⟨b, o, none⟩ → b < lo ∨ b ∈ g5 :: L := fun h0 b o e => (hqb h0 b o e).imp id (List.mem_cons_of_mem _)
      refine WR_ent rfl (rn_call (by kernel_rfl) rfl) (vCrash hD _ _ _ _ hq1 hq2) ?_
      rintro _ w68 ⟨_, hD, hb68⟩
      replace hLL := hLL.lq hb68
      replace hr5 := hr5.kl hb68
      refine WR_nil (thenN (W_seq (W_region (WR_val rfl (rn_move) (WR_val rfl (rn_fieldAddr (off := 131) (by kernel_rfl) rfl) ?_)))))
      refine WR_val rfl (rn_load rfl (ld_acP hr5 hs)) ?_
      have hq1 := hq.kpd0 hLL.kp (fun h0 b o e => notLL (hqb h0 b o e))
      refine WR_ent rfl (rn_call (by kernel_rfl) rfl) (qCrash hD _ _ _ _ hq1 hq2) ?_
      rintro _ w72 ⟨rfl, hD, hb72⟩
      replace hLL := hLL.lq hb72
      replace hr5 := hr5.kl hb72
      refine WR_val rfl (rn_eql rfl rfl) ?_
      refine WR_val rfl (rn_assign) (WR_nil (thenN (W_ret (blockR (thenR ?_)))))
      refine ret_ret [_] ⟨rfl, trivial⟩ ?_
      have e : doD D a = crashD D a.picks := by rw [doD, if_neg hk1, if_neg hk2, if_neg hk3, if_pos hk4]
      rw [e]
      exact ⟨rfl, hD.weak (fun b hb => List.mem_cons_of_mem _ hb), hLL⟩
     ·
      have e : doD D a = D := by rw [doD, if_neg hk1, if_neg hk2, if_neg hk3, if_neg hk4]
      rw [e]
      have hobt : ∃ R, (if inD D a.at_ then readD D a.at_.toNat else zeroS) = R := ⟨_, rfl⟩
      obtain ⟨R, hR⟩ := hobt
      have hRl : (bv R).length = 128 := by
        rw [bv_length, ← hR]
        split
        · rename_i hin
          have hobt := inD_nat hin
          obtain ⟨k, hk, hkl⟩ := hobt
          rw [hk, Int.toNat_natCast]
          exact lastS_ok (ver_ok (qOk hD).1 hkl).2.1
        · rw [zeroS, List.length_replicate]
      refine W_seq (W_region ?_)
      refine WR_val rfl (rn_eql rfl rfl) ?_
      refine WR_val rfl (rn_assign) (WR_nil (thenN ?_))
      refine W_ifp rfl (fun hk5 => ?_) (fun hk5 => ?_)
      ·
       refine W_seq (W_region (WR_val rfl (rn_move) (WR_val rfl (rn_fieldAddr (off := 1) (by kernel_rfl) rfl) ?_)))
       refine WR_val rfl (rn_load rfl (Ld.row1 hr5 (by kernel_rfl) rfl)) ?_
       have htr := qRead hD a.at_
       rw [hR] at htr
       refine WR_ent rfl (rn_call (by kernel_rfl) rfl) (htr) ?_
       rintro _ w80 ⟨rfl, hb80⟩
       replace hD := hD.new hb80
       replace hLL := hLL.new hb80
       replace hr5 := hr5.new hb80
       refine WR_val rfl (rn_move) (WR_val rfl (rn_extract rfl rfl) (WR_val rfl (rn_extract rfl rfl) ?_))
       refine WR_mk rfl (mk_alloc (List.replicate 128 (Value.int .u8 0)) (by kernel_rfl) (fun g9 w9 hg9 hr9 hb9 => ?_))
       have lt_g5_g9 : g5 < g9 := Nat.lt_of_lt_of_le hr5.lt hg9
       replace hD := hD.newc hb9 hg9 hr9.lt
       replace hLL := hLL.new hb9
       replace hr5 := hr5.new hb9
       rw [hzb] at hr9
       refine WR_sk rfl (sk_storeA 128 (bv R) rfl rfl hr9 (by kernel_rfl) (by first | assumption | (simp; done) | (simp [bv_length, *]; done)) (by first | assumption | (simp; done) | (simp [bv_length, *]; done) | rfl) (by first | exact bv_one _ | assumption | (simp [Value.oneCell']; done)) (fun w902 hr9 ho902 => ?_))
       replace hD := hD.only ho902 (by first | (right; simp; done) | (left; omega))
       replace hLL := hLL.oq ho902
       replace hr5 := hr5.only ho902 (Nat.ne_of_lt lt_g5_g9)
       refine WR_val rfl (rn_assign) (WR_nil (thenN (W_seq (W_seq (W_region (WR_val rfl (rn_move) (WR_val rfl (rn_fieldAddr (off := 1) (by kernel_rfl) rfl) ?_)))))))
       refine WR_val rfl (rn_load rfl (Ld.row1 hr5 (by kernel_rfl) rfl)) ?_
       refine WR_ent rfl (rn_call (by kernel_rfl) rfl) (vIn hD a.at_) ?_
       rintro _ _ ⟨rfl, rfl⟩
       refine WR_val rfl (rn_not rfl) ?_
       refine WR_nil (thenN ?_)
       refine W_ifnb rfl (fun hin => ?_) (fun hin => ?_)
       ·
        refine W_seq (W_region (WR_val rfl (rn_move) ?_))
        refine WR_val rfl (rn_eql rfl rfl) ?_
        refine WR_val rfl (rn_move) ?_
        refine WR_tp 90 rfl ((by rw [hin]; rfl)) ?_
        refine WR_yes rfl ?_
        refine WR_val rfl (rn_load rfl (Ld.rowA (k := 128) hr9 (by kernel_rfl) (by kernel_rfl) (by first | (simp; done) | (simp [bv_length, *]; done) | assumption))) ?_
        refine WR_yes rfl ?_
        refine WR_val rfl (rn_zeroed (bv Z) (by rw [← hzb]; kernel_rfl)) ?_
        refine WR_yes rfl ?_
        refine WR_val rfl (rn_eqlA (n := 128) (by kernel_rfl) rfl rfl (by rw [← bv_length]; exact hRl) (by rw [← bv_length]; exact hzl)) ?_
        refine WR_val rfl (rn_pick_t rfl) (WR_val rfl (rn_assign) (WR_nil (thenN (W_ret (thenR (blockR (thenR ?_)))))))
        refine ret_ret [_] ⟨rfl, trivial⟩ ?_
        have hRZ : R = Z := by rw [← hR, hin, ← hzz]; rfl
        refine ⟨?_, hD.weak (fun b hb => List.mem_cons_of_mem _ (List.mem_cons_of_mem _ hb)), hLL⟩
        show Value.bool (decide (R = Z)) = _
        rw [decide_eq_true hRZ]
       ·
        have hRe : readD D a.at_.toNat = R := by rw [← hR, hin]; rfl
        refine W_skip (thenN (W_seq ?_))
        refine W_draw' [] (by kernel_rfl) ?_
        intro w903 hb903 hS903
        replace hD := hD.new hb903
        replace hLL := hLL.new hb903
        replace hr5 := hr5.new hb903
        replace hr9 := hr9.new hb903
        have hD_d903 := hD
        have hLL_d903 := hLL
        have hr5_d903 := hr5
        have hr9_d903 := hr9
        refine WA_take 0 (by kernel_rfl) rfl (fun _ _ => rn_move) ?_
        refine WA_take 1 (by kernel_rfl) rfl (fun _ _ => rn_eql rfl rfl) ?_
        refine WA_take 2 (by kernel_rfl) rfl (fun _ _ => rn_move) ?_
        refine WA_tp 97 rfl ((by rw [hin]; rfl)) ?_
        refine WA_take 3 (by kernel_rfl) rfl (fun w' hS' => rn_load rfl (Ld.rowA (k := 128) (hr9_d903.kq hS') (by kernel_rfl) (by kernel_rfl) (by first | (simp; done) | (simp [bv_length, *]; done) | assumption))) ?_
        refine WA_take 4 (by kernel_rfl) rfl (fun _ _ => rn_move) ?_
        refine WA_take 5 (by kernel_rfl) rfl (fun _ _ => rn_fieldAddr (off := 1) (by kernel_rfl) rfl) ?_
        refine WA_take 6 (by kernel_rfl) rfl (fun w' hS' => rn_load rfl (Ld.row1 (hr5_d903.kq hS') (by kernel_rfl) rfl)) ?_
        refine WA_one 7 (by kernel_rfl) ?_
        have hur := vReadI hD a.at_ hin
        rw [hRe] at hur
        refine WO_ent rfl rfl (rn_call (by kernel_rfl) rfl) (hur) ?_
        rintro _ w102 ⟨rfl, hb102⟩
        have hS904 := hS903.add0 hb102
        refine ⟨hS904, ?_⟩
        replace hD := hD.new hb102
        replace hLL := hLL.new hb102
        replace hr5 := hr5.new hb102
        replace hr9 := hr9.new hb102
        refine WA_take 8 (by kernel_rfl) rfl (fun _ _ => rn_eqlA (n := 128) (by kernel_rfl) rfl rfl (by rw [← bv_length]; exact hRl) (by rw [← bv_length]; exact hRl)) ?_
        refine WA_take 9 (by kernel_rfl) rfl (fun _ _ => rn_pick_t rfl) ?_
        refine WA_take 10 (by kernel_rfl) rfl (fun _ _ => rn_assign) ?_
        refine WA_done (by kernel_rfl) ?_
        refine thenN (W_ret (blockR (thenR ?_)))
        refine ret_ret [_] ⟨rfl, trivial⟩ ?_
        refine ⟨?_, hD.weak (fun b hb => List.mem_cons_of_mem _ (List.mem_cons_of_mem _ hb)), hLL⟩
        show Value.bool (decide (R = R)) = _
        rw [decide_eq_true rfl]
      ·
       refine W_skip (blockN (thenN (W_seq (W_region (WR_val rfl (rn_assign) (WR_nil (thenN (W_ret ?_))))))))
       refine ret_ret [_] ⟨rfl, trivial⟩ ?_
       exact ⟨rfl, hD.weak (fun b hb => List.mem_cons_of_mem _ hb), hLL⟩
set_option maxRecDepth 8000 in
set_option maxHeartbeats 1000000 in
theorem same14q {g g2 h h2 lo : Nat} {L : List Nat} {D O F : Dk} {w : World} (hD : Two (DO g g2 D O) (RR h h2 D F) lo L w) :
    Calls Try.prog 14 [.pointer (some ⟨g, 0, none⟩), .pointer (some ⟨h, 0, none⟩)].toArray w (Ret fun v w' => v = .bool true ∧ Below w.heap.size w w') := by
  have hB := Below.refl w.heap.size w
  have hok := qOk hD
  have hn8 := hok.1.n
  have hoil := opI_len D
  have hoc : (opN D).length ≤ D.V.length := Nat.le_trans (List.length_filter_le _ _) (by rw [List.length_range]; exact Nat.le_refl _)
  obtain ⟨Z, hzz, hzb, hzl⟩ := zeroSQ
  obtain ⟨pv, ov, cv, hr⟩ := vRow hD
  refine calls_W (fn := Try.f14) (rs := [.tmp 4]) (n := 78) Try.func14 rfl rfl Try.ntmps14 (by kernel_rfl) rfl ?_
  refine W_seq (W_region (WR_val rfl (rn_assign) (WR_nil (thenN (W_seq (W_region (WR_val rfl (rn_move) ?_)))))))
  refine WR_ent rfl (rn_call (by kernel_rfl) rfl) (qOpen hD) ?_
  rintro _ w12 ⟨p, c, rfl, hsl, hpb, hb12⟩
  replace hD := hD.new hb12
  replace hr := hr.new hb12
  replace hB := hB.acc hb12
  refine WR_val rfl (rn_move) ?_
  refine WR_ent rfl (rn_call (by kernel_rfl) rfl) (vOpen hD) ?_
  rintro _ w14 ⟨p2, c2, rfl, hsl2, hpb2, hb14⟩
  replace hD := hD.new hb14
  replace hr := hr.new hb14
  replace hsl := hsl.new hb14
  replace hB := hB.acc hb14
  refine WR_val rfl (rn_assign) (WR_val rfl (rn_assign) (WR_nil (thenN (W_seq (W_seq ?_)))))
  refine W_draw' [] (by kernel_rfl) ?_
  intro w901 hb901 hS901
  replace hD := hD.new hb901
  replace hr := hr.new hb901
  replace hsl := hsl.new hb901
  replace hsl2 := hsl2.new hb901
  replace hB := hB.acc hb901
  have hD_d901 := hD
  have hr_d901 := hr
  have hsl_d901 := hsl
  have hsl2_d901 := hsl2
  have hB_d901 := hB
  refine WA_take 0 (by kernel_rfl) rfl (fun _ _ => rn_move) ?_
  refine WA_call 1 (by kernel_rfl) rfl (fun _ => rn_call (by kernel_rfl) rfl) (fun w' hS' => qSectors (hD_d901.kpd hS' (by first | (simp; done) | (simp; omega) | (simp [*]; done) | exact notLL (Or.inl (by omega)) | exact notLL (Or.inr (by simp)) | exact fun g hm => Nat.le_trans (by omega) (inLL hm).1 | (intro b o e; cases e; exact notLL (Or.inl (by omega))) | (intro b hm; have := (hu.lt b (Option.mem_toList.1 hm)).1; omega) | (intro b o e; cases e; intro hm; have := (hu.lt _ (Option.mem_toList.1 hm)).1; omega)))) ?_
  refine WA_take 2 (by kernel_rfl) rfl (fun _ _ => rn_move) ?_
  refine WA_take 3 (by kernel_rfl) rfl (fun _ _ => rn_nilCheckP rfl) ?_
  refine WA_take 4 (by kernel_rfl) rfl (fun _ _ => rn_fieldAddr (off := 0) (by kernel_rfl) rfl) ?_
  refine WA_take 5 (by kernel_rfl) rfl (fun w' hS' => rn_load rfl (Ld.row1 (hr_d901.kq hS') (by kernel_rfl) rfl)) ?_
  refine WA_take 6 (by kernel_rfl) rfl (fun _ _ => rn_lenSl (e := 52) (sz := 1) (by kernel_rfl) rfl rfl) ?_
  refine WA_take 7 (by kernel_rfl) rfl (fun _ _ => rn_neq rfl rfl) ?_
  refine WA_take 8 (by kernel_rfl) rfl (fun _ _ => rn_move) ?_
  refine WA_fp 23 rfl ((by omega)) ?_
  refine WA_take 9 (by kernel_rfl) rfl (fun _ _ => rn_move) ?_
  refine WA_call 10 (by kernel_rfl) rfl (fun _ => rn_call (by kernel_rfl) rfl) (fun w' hS' => qDead (hD_d901.kpd hS' (by first | (simp; done) | (simp; omega) | (simp [*]; done) | exact notLL (Or.inl (by omega)) | exact notLL (Or.inr (by simp)) | exact fun g hm => Nat.le_trans (by omega) (inLL hm).1 | (intro b o e; cases e; exact notLL (Or.inl (by omega))) | (intro b hm; have := (hu.lt b (Option.mem_toList.1 hm)).1; omega) | (intro b o e; cases e; intro hm; have := (hu.lt _ (Option.mem_toList.1 hm)).1; omega)))) ?_
  refine WA_take 11 (by kernel_rfl) rfl (fun _ _ => rn_move) ?_
  refine WA_take 12 (by kernel_rfl) rfl (fun _ _ => rn_nilCheckP rfl) ?_
  refine WA_take 13 (by kernel_rfl) rfl (fun _ _ => rn_fieldAddr (off := 2) (by kernel_rfl) rfl) ?_
  refine WA_take 14 (by kernel_rfl) rfl (fun w' hS' => rn_load rfl (Ld.row1 (hr_d901.kq hS') (by kernel_rfl) rfl)) ?_
  refine WA_take 15 (by kernel_rfl) rfl (fun _ _ => rn_neqb (by kernel_rfl) rfl rfl) ?_
  refine WA_take 16 (by kernel_rfl) rfl (fun _ _ => rn_pick_f rfl) ?_
  refine WA_take 17 (by kernel_rfl) rfl (fun _ _ => rn_move) ?_
  refine WA_fb 32 rfl ((by simp)) ?_
  refine WA_take 18 (by kernel_rfl) rfl (fun _ _ => rn_move) ?_
  refine WA_take 19 (by kernel_rfl) rfl (fun _ _ => rn_lenSl (e := 3) (sz := 1) (by kernel_rfl) rfl rfl) ?_
  refine WA_take 20 (by kernel_rfl) rfl (fun _ _ => rn_move) ?_
  refine WA_take 21 (by kernel_rfl) rfl (fun _ _ => rn_lenSl (e := 3) (sz := 1) (by kernel_rfl) rfl rfl) ?_
  refine WA_take 22 (by kernel_rfl) rfl (fun _ _ => rn_neq rfl rfl) ?_
  refine WA_take 23 (by kernel_rfl) rfl (fun _ _ => rn_pick_f rfl) ?_
  refine WA_done (by kernel_rfl) ?_
  refine thenN ?_
  refine W_fp rfl ((by omega)) ?_
  refine W_skip (thenN (W_seq (W_seq (W_region (WR_val rfl (rn_assign) (WR_nil (thenN (W_block ?_))))))))
  refine W_loop (α := Nat) 0 (fun k => [(7, .int .i64 (k : Nat)), (5, .slice p (opI D).length c), (6, .slice p2 (opI D).length c2), (0, .pointer (some ⟨g, 0, none⟩)), (1, .pointer (some ⟨h, 0, none⟩))])
    (fun k w' => k ≤ (opN D).length ∧ Two (DO g g2 D O) (RR h h2 D F) lo L w' ∧ SlAt w' p (opI D).length 1 (iv (opI D)) ∧ SlAt w' p2 (opI D).length 1 (iv (opI D)) ∧ Below w.heap.size w w') (fun k => (opN D).length - k)
    ⟨rfl, rfl, rfl, rfl, rfl, rfl⟩ ⟨Nat.zero_le _, hD, hsl, hsl2, hB⟩ ?_
  clear hD hsl hsl2 hB
  rintro k f wr ⟨hk, hD, hsl, hsl2, hB⟩
  refine W_seq (W_seq (W_region (WR_val rfl (rn_move) (WR_val rfl (rn_move) ?_))))
  refine WR_val rfl (rn_lenSl (e := 3) (sz := 1) (by kernel_rfl) rfl rfl) ?_
  refine WR_val rfl (rn_lss rfl rfl) ?_
  refine WR_nil (thenN ?_)
  refine W_ifp rfl (fun hlt => ?_) (fun hlt => ?_)
  ·
   refine W_skip (thenN (W_seq (W_block (W_seq ?_))))
   have hobt := opI_at (D := D) (k := k) (by omega)
   obtain ⟨i, hik, hiv, hil⟩ := hobt
   have hobt := hsl.some (by omega)
   obtain ⟨gp, op, rfl, hgp⟩ := hobt
   have hobt := hsl2.some (by omega)
   obtain ⟨gq, oq, rfl, hgq⟩ := hobt
   refine W_draw' [] (by kernel_rfl) ?_
   intro w902 hb902 hS902
   replace hD := hD.new hb902
   replace hsl := hsl.new hb902
   replace hsl2 := hsl2.new hb902
   replace hB := hB.acc hb902
   have hD_d902 := hD
   have hsl_d902 := hsl
   have hsl2_d902 := hsl2
   have hB_d902 := hB
   refine WA_take 0 (by kernel_rfl) rfl (fun _ _ => rn_move) ?_
   refine WA_take 1 (by kernel_rfl) rfl (fun _ _ => rn_move) ?_
   refine WA_take 2 (by kernel_rfl) rfl (fun _ _ => rn_indexSl1 (e := 3) (by kernel_rfl) rfl rfl (k) (by omega) (by omega)) ?_
   refine WA_take 3 (by kernel_rfl) rfl (fun w' hS' => rn_load rfl (Ld.sl1 (hsl_d902.kpd hS' (by first | (simp; done) | (simp; omega) | (simp [*]; done) | exact notLL (Or.inl (by omega)) | exact notLL (Or.inr (by simp)) | exact fun g hm => Nat.le_trans (by omega) (inLL hm).1 | (intro b o e; cases e; exact notLL (Or.inl (by omega))) | (intro b hm; have := (hu.lt b (Option.mem_toList.1 hm)).1; omega) | (intro b o e; cases e; intro hm; have := (hu.lt _ (Option.mem_toList.1 hm)).1; omega))) (by kernel_rfl) hiv)) ?_
   refine WA_take 4 (by kernel_rfl) rfl (fun _ _ => rn_move) ?_
   refine WA_take 5 (by kernel_rfl) rfl (fun _ _ => rn_move) ?_
   refine WA_take 6 (by kernel_rfl) rfl (fun _ _ => rn_indexSl1 (e := 3) (by kernel_rfl) rfl rfl (k) (by omega) (by omega)) ?_
   refine WA_take 7 (by kernel_rfl) rfl (fun w' hS' => rn_load rfl (Ld.sl1 (hsl2_d902.kpd hS' (by first | (simp; done) | (simp; omega) | (simp [*]; done) | exact notLL (Or.inl (by omega)) | exact notLL (Or.inr (by simp)) | exact fun g hm => Nat.le_trans (by omega) (inLL hm).1 | (intro b o e; cases e; exact notLL (Or.inl (by omega))) | (intro b hm; have := (hu.lt b (Option.mem_toList.1 hm)).1; omega) | (intro b o e; cases e; intro hm; have := (hu.lt _ (Option.mem_toList.1 hm)).1; omega))) (by kernel_rfl) hiv)) ?_
   refine WA_take 8 (by kernel_rfl) rfl (fun _ _ => rn_neq rfl rfl) ?_
   refine WA_done (by kernel_rfl) ?_
   refine thenN ?_
   refine W_fp rfl ((by omega)) ?_
   refine W_skip (blockN (thenN (W_region (WR_val rfl (rn_move) ?_))))
   refine WR_val rfl (rn_add rfl rfl (Coup.w64 (by omega))) ?_
   refine WR_val rfl (rn_assign) (WR_nil ?_)
   refine loopN ⟨k + 1, by omega, ⟨by go_num, rfl, rfl, rfl, rfl, rfl⟩, by omega, hD, hsl, hsl2, hB⟩
  ·
   refine W_exit (thenX (loopX (blockX (thenN (W_seq (W_seq (W_region (WR_val rfl (rn_assign) (WR_nil (thenN (W_block ?_)))))))))))
   refine W_loop (α := Nat) 0 (fun k => [(8, .int .i64 (k : Nat)), (0, .pointer (some ⟨g, 0, none⟩)), (1, .pointer (some ⟨h, 0, none⟩))])
     (fun k w' => k ≤ D.V.length ∧ Two (DO g g2 D O) (RR h h2 D F) lo L w' ∧ Below w.heap.size w w') (fun k => D.V.length - k)
     ⟨rfl, rfl, rfl, rfl⟩ ⟨Nat.zero_le _, hD, hB⟩ ?_
   clear hD hB hsl hsl2
   rintro k f wr ⟨hk, hD, hB⟩
   have hobt := vRow hD
   obtain ⟨pv, ov, cv, hr⟩ := hobt
   have hDs := hD
   refine W_seq (W_seq (W_region (WR_val rfl (rn_move) (WR_val rfl (rn_move) (WR_val rfl (rn_nilCheckP rfl) (WR_val rfl (rn_fieldAddr (off := 0) (by kernel_rfl) rfl) ?_))))))
   refine WR_val rfl (rn_load rfl (Ld.row1 hr (by kernel_rfl) rfl)) ?_
   refine WR_val rfl (rn_lenSl (e := 52) (sz := 1) (by kernel_rfl) rfl rfl) ?_
   refine WR_val rfl (rn_lss rfl rfl) ?_
   refine WR_nil (thenN ?_)
   refine W_ifp rfl (fun hlt => ?_) (fun hlt => ?_)
   ·
    refine W_skip (thenN (W_seq (W_block (W_seq ?_))))
    have hin : inD D (k : Int) = true := decide_eq_true (by omega)
    have hobt : ∃ R, readD D k = R := ⟨_, rfl⟩
    obtain ⟨R, hR⟩ := hobt
    have hRl : (bv R).length = 128 := by rw [bv_length, ← hR]; exact lastS_ok (ver_ok hok.1 (by omega)).2.1
    have htr := qRead hD (k : Int)
    rw [hin, if_pos rfl, if_pos rfl, Int.toNat_natCast, hR] at htr
    refine W_region (WR_val rfl (rn_move) (WR_val rfl (rn_move) ?_))
    refine WR_ent rfl (rn_call (by kernel_rfl) rfl) (htr) ?_
    rintro _ w66 ⟨rfl, hb66⟩
    replace hD := hD.new hb66
    replace hr := hr.new hb66
    replace hB := hB.acc hb66
    refine WR_val rfl (rn_move) (WR_val rfl (rn_extract rfl rfl) (WR_val rfl (rn_extract rfl rfl) ?_))
    refine WR_mk rfl (mk_alloc (List.replicate 128 (Value.int .u8 0)) (by kernel_rfl) (fun g9 w9 hg9 hr9 hb9 => ?_))
    have ge_hB_g9 := Nat.le_trans hB.size hg9
    have lt_h_g9 : h < g9 := Nat.lt_of_lt_of_le hr.lt hg9
    replace hD := hD.newc hb9 hg9 hr9.lt
    replace hr := hr.new hb9
    replace hB := hB.acc hb9
    rw [hzb] at hr9
    refine WR_sk rfl (sk_storeA 128 (bv R) rfl rfl hr9 (by kernel_rfl) (by first | assumption | (simp; done) | (simp [bv_length, *]; done)) (by first | assumption | (simp; done) | (simp [bv_length, *]; done) | rfl) (by first | exact bv_one _ | assumption | (simp [Value.oneCell']; done)) (fun w903 hr9 ho903 => ?_))
    replace hD := hD.only ho903 (by first | (right; simp; done) | (left; omega))
    replace hr := hr.only ho903 (Nat.ne_of_lt lt_h_g9)
    replace hB := ho903.below hB ge_hB_g9
    refine WR_val rfl (rn_assign) (WR_nil (thenN (W_seq ?_)))
    refine W_draw' [] (by kernel_rfl) ?_
    intro w904 hb904 hS904
    replace hD := hD.new hb904
    replace hr := hr.new hb904
    replace hr9 := hr9.new hb904
    replace hB := hB.acc hb904
    have hD_d904 := hD
    have hr_d904 := hr
    have hr9_d904 := hr9
    have hB_d904 := hB
    refine WA_take 0 (by kernel_rfl) rfl (fun _ _ => rn_move) ?_
    refine WA_take 1 (by kernel_rfl) rfl (fun _ _ => rn_neq rfl rfl) ?_
    refine WA_take 2 (by kernel_rfl) rfl (fun _ _ => rn_move) ?_
    refine WA_fp 71 rfl ((by omega)) ?_
    refine WA_take 3 (by kernel_rfl) rfl (fun w' hS' => rn_load rfl (Ld.rowA (k := 128) (hr9_d904.kq hS') (by kernel_rfl) (by kernel_rfl) (by first | (simp; done) | (simp [bv_length, *]; done) | assumption))) ?_
    refine WA_take 4 (by kernel_rfl) rfl (fun _ _ => rn_move) ?_
    refine WA_take 5 (by kernel_rfl) rfl (fun _ _ => rn_move) ?_
    refine WA_one 6 (by kernel_rfl) ?_
    have hur := vRead hD k (by omega)
    rw [hR] at hur
    refine WO_ent rfl rfl (rn_call (by kernel_rfl) rfl) (hur) ?_
    rintro _ w75 ⟨rfl, hb75⟩
    have hS905 := hS904.add0 hb75
    refine ⟨hS905, ?_⟩
    replace hD := hD.new hb75
    replace hr := hr.new hb75
    replace hr9 := hr9.new hb75
    replace hB := hB.acc hb75
    refine WA_take 7 (by kernel_rfl) rfl (fun _ _ => rn_neqA (n := 128) (by kernel_rfl) rfl rfl (by rw [← bv_length]; exact hRl) (by rw [← bv_length]; exact hRl)) ?_
    refine WA_take 8 (by kernel_rfl) rfl (fun _ _ => rn_pick_f rfl) ?_
    refine WA_done (by kernel_rfl) ?_
    refine thenN ?_
    refine W_fn rfl ((by simp)) ?_
    refine W_skip (blockN (thenN (W_region (WR_val rfl (rn_move) ?_))))
    refine WR_val rfl (rn_add rfl rfl (Coup.w64 (by omega))) ?_
    refine WR_val rfl (rn_assign) (WR_nil ?_)
    refine loopN ⟨k + 1, by omega, ⟨by go_num, rfl, rfl, rfl⟩, by omega, hD.weak (fun b hb => List.mem_cons_of_mem _ hb), hB⟩
   ·
    refine W_exit (thenX (loopX (blockX (thenN (W_seq (W_region (WR_val rfl (rn_assign) (WR_nil (thenN (W_ret ?_))))))))))
    refine ret_ret [_] ⟨rfl, trivial⟩ ?_
    exact ⟨rfl, hB⟩
end Go.Proofs.Ytpndhildmfmcgaa
namespace Go.Proofs.Ytpndhildmfmcgaa
open Go Go.RowKit Coup
theorem clip_block (p : Option Addr) (n c : Nat) : (clipV (.slice p n c)).ownBlock = (Value.slice p n c).ownBlock := by cases p <;> rfl
theorem own_clip {w : World} {b e sz n : Nat} {v : Value} {xs : List Value} (h : ownsAt w b e sz v n xs) : ownsAt w b e sz (clipV v) n xs := by
  refine ⟨h.1, ?_⟩
  rcases h.2 with ⟨rfl, h0⟩ | ⟨g, off, cap, cur, rfl, h1, h2, h3, h4, h5, h6⟩
  · exact .inl ⟨rfl, h0⟩
  · refine .inr ⟨g, off, n, cur, rfl, h1, h2, Nat.le_refl _, by omega, ?_, h6⟩
    have := Nat.mul_le_mul_right sz h3
    omega
theorem DkO.clip {w : World} {G : List Nat} {D : Dk} {sv : Nat → Value} (h : DkO w G D sv) : DkO w G D (fun i => clipV (sv i)) := by
  have hb : ∀ i b, openB D i = true → (clipV (sv i)).ownBlock = some b → (sv i).ownBlock = some b := fun i b hi e => by
    obtain ⟨p, c, e2⟩ := (h.own i hi).1.form
    rw [e2] at e
    rw [e2]
    exact (clip_block p _ c).symm.trans e
  exact ⟨fun i hi => ⟨own_clip (h.own i hi).1, fun b e => (h.own i hi).2 b (hb i b hi e)⟩, fun i j b hi hj ei ej => h.sep i j b hi hj (hb i b hi ei) (hb j b hj ej)⟩
theorem DkO.lk {w : World} {G : List Nat} {D : Dk} {sv : Nat → Value} (h : DkO w G D sv) : Lk D sv D (fun i => clipV (sv i)) := fun i j b hi hj ei ej => by
  obtain ⟨p, c, e2⟩ := (h.own j hj).1.form
  have ej2 : (sv j).ownBlock = some b := by
    have ej3 : (clipV (sv j)).ownBlock = some b := ej
    rw [e2] at ej3
    rw [e2]
    exact (clip_block p _ c).symm.trans ej3
  have hij := h.sep i j b hi hj ei ej2
  subst hij
  have hl : 1 < (ver D i).length := of_decide_eq_true hi
  obtain ⟨g, off, cap, e3, _, _, hc⟩ := (h.own i hi).1.form' (by omega)
  rw [e3] at ei
  cases ei
  refine ⟨rfl, off, _, cap, _, _, e3, ?_, fun _ => ⟨Nat.le_refl _, Nat.le_refl _⟩, fun hlt => absurd hlt (Nat.lt_irrefl _)⟩
  show clipV (sv i) = _
  rw [e3]; rfl
theorem qCopy {Y : World → List Nat → Prop} [Thing Y] {g lo : Nat} {L : List Nat} {D : Dk} {w : World} (h : Two (DZ g D) Y lo L w) :
    Calls Try.prog 21 [.pointer (some ⟨g, 0, none⟩)].toArray w (Ret fun v w' => ∃ g', v = .pointer (some ⟨g', 0, none⟩) ∧ Two (DO g g' D D) Y lo L w' ∧ Below w.heap.size w w') := by
  obtain ⟨⟨B, C, ⟨pl, m, G, ol, cl, st, fu, sv, hB, h1, h2⟩, hY, h3, h4⟩, h5, h6⟩ := h
  have hcap : ∀ i p n c, openB D i = true → sv i = .slice p n c → n ≤ c := fun i p n c hi e => by
    have := (h2.own i hi).1
    rw [e] at this
    rcases this.2 with ⟨e1, e0⟩ | ⟨g1, o1, c1, cur, e1, _, _, hc, _⟩
    · cases e1; omega
    · cases e1; omega
  refine (copy21 h1 hcap).to fun v w' hR => ?_
  obtain ⟨g', pl', m', ol', cl', hv, hM, hl1, hl2, hl3, hb⟩ := hR
  have z1 := h1.row.lt
  have z2 := h1.own.lt
  have z3 := h1.map.lt
  have hDO : DO g g' D D w' (([g, pl, m] ++ G) ++ ([g', pl', m'] ++ G)) :=
    ⟨pl, m, G, ol, cl, st, fu, sv, pl', m', G, ol', cl', st, fu, _, ⟨h1.new hb, hM, h2.kpd (M := []) (Kp.of_below hb) (by simp), h2.clip.kpd (M := []) (Kp.of_below hb) (by simp), h2.lk, fun x hx => ⟨fun hm => ?_, fun hm => ?_⟩, fun x hx hm => ?_⟩, rfl⟩
  · refine ⟨g', hv, Two.mv (X := DZ g D) (X' := DO g g' D D) (Y := Y) (B := B) hDO hY h3 h4 h5 h6 ⟨Kp.of_below' hb, fun b hm => ?_⟩, hb⟩
    rw [hB]
    rcases List.mem_append.1 hm with hm | hm
    · exact .inl hm
    · rcases List.mem_append.1 hm with hm | hm
      · right
        simp only [List.mem_cons, List.not_mem_nil, or_false] at hm
        rcases hm with rfl | rfl | rfl <;> assumption
      · exact .inl (List.mem_append_right _ hm)
  · simp only [List.mem_cons, List.not_mem_nil, or_false] at hx hm
    rcases hx with rfl | rfl | rfl <;> rcases hm with rfl | rfl | rfl <;> omega
  · have hn := h1.ne.2.2.2 x hm
    simp only [List.mem_cons, List.not_mem_nil, or_false] at hx
    rcases hx with rfl | rfl | rfl
    · exact hn.1 rfl
    · exact hn.2.1 rfl
    · exact hn.2.2 rfl
  · have := h1.inG x hm
    simp only [List.mem_cons, List.not_mem_nil, or_false] at hx
    rcases hx with rfl | rfl | rfl <;> omega
end Go.Proofs.Ytpndhildmfmcgaa
namespace Go.Proofs.Ytpndhildmfmcgaa
open Go Go.RowKit Coup
set_option maxRecDepth 20000 in
theorem rcopy {w : World} {g pv : Nat} {G : List Nat} {D : Dk} {ov cv : Nat} {vs : List Value} (h : RfM w g pv G D ov cv vs) :
    Calls Try.prog 25 [.pointer (some ⟨g, 0, none⟩)].toArray w (Ret fun v w' => ∃ g' pv' ov' cv', v = .pointer (some ⟨g', 0, none⟩) ∧ RfM w' g' pv' G D ov' cv' vs ∧ w.heap.size ≤ g' ∧ w.heap.size ≤ pv' ∧ Below w.heap.size w w') := by
  have hB := Below.refl w.heap.size w
  have hml : maxLen = 9223372036854775807 := by decide
  have hr := h.row
  have hown := h.own
  have hn8 := h.ok.n
  have hpos := h.pos
  have hvs1 : ∀ v ∈ vs, v.oneCell' = true := fun v hv => by
    obtain ⟨j, hj⟩ := List.mem_iff_getElem?.1 hv
    have hjl := (List.getElem?_eq_some_iff.1 hj).1
    obtain ⟨p, c, e, _⟩ := h.vs.2 j _ (List.getElem?_eq_getElem (by have := h.vs.1; omega))
    rw [hj] at e
    cases e; rfl
  refine calls_W (fn := Try.f25) (rs := [.tmp 2]) (n := 27) Try.func25 rfl rfl Try.ntmps25 (by kernel_rfl) rfl ?_
  refine W_seq (W_region (WR_val rfl (rn_assign) (WR_nil (thenN (W_seq ?_)))))
  refine W_draw' [] (by kernel_rfl) ?_
  intro w901 hb901 hS901
  replace hr := hr.new hb901
  replace hown := hown.new hb901
  replace hB := hB.acc hb901
  have hr_d901 := hr
  have hown_d901 := hown
  have hB_d901 := hB
  refine WA_take 0 (by kernel_rfl) rfl (fun _ _ => rn_move) ?_
  refine WA_take 1 (by kernel_rfl) rfl (fun _ _ => rn_nilCheckP rfl) ?_
  refine WA_take 2 (by kernel_rfl) rfl (fun _ _ => rn_fieldAddr (off := 1) (by kernel_rfl) rfl) ?_
  refine WA_take 3 (by kernel_rfl) rfl (fun w' hS' => rn_load rfl (Ld.row1 (hr_d901.kq hS') (by kernel_rfl) rfl)) ?_
  refine WA_take 4 (by kernel_rfl) rfl (fun _ _ => rn_move) ?_
  refine WA_take 5 (by kernel_rfl) rfl (fun _ _ => rn_nilCheckP rfl) ?_
  refine WA_take 6 (by kernel_rfl) rfl (fun _ _ => rn_fieldAddr (off := 2) (by kernel_rfl) rfl) ?_
  refine WA_take 7 (by kernel_rfl) rfl (fun w' hS' => rn_load rfl (Ld.row1 (hr_d901.kq hS') (by kernel_rfl) rfl)) ?_
  refine WA_take 8 (by kernel_rfl) rfl (fun _ _ => rn_built2 (.int .i64 D.left) (.bool D.dead) [.slice none 0 0, .int .i64 D.left, .bool D.dead] rfl rfl (by kernel_rfl)) ?_
  refine WA_one 9 (by kernel_rfl) ?_
  refine WO_mk rfl rfl (mk_box ([.slice none 0 0, .int .i64 D.left, .bool D.dead]) rfl (fun g13 w13 hg13 hr13 hb13 => ?_))
  have hS902 := hS901.add0 hb13
  refine ⟨hS902, ?_⟩
  have ge_hS901_g13 := Nat.le_trans hS901.size hg13
  have ge_hB_g13 := Nat.le_trans hB.size hg13
  have lt_g_g13 : g < g13 := Nat.lt_of_lt_of_le hr.lt hg13
  have lt_pv_g13 : pv < g13 := Nat.lt_of_lt_of_le hown.lt hg13
  replace hr := hr.new hb13
  replace hown := hown.new hb13
  replace hB := hB.acc hb13
  refine WA_take 10 (by kernel_rfl) rfl (fun _ _ => rn_assign) ?_
  refine WA_done (by kernel_rfl) ?_
  refine thenN (W_seq ?_)
  refine W_draw' [g13] (by kernel_rfl) ?_
  intro w903 hb903 hS903
  replace hr := hr.new hb903
  replace hown := hown.new hb903
  replace hr13 := hr13.new hb903
  replace hB := hB.acc hb903
  have hr_d903 := hr
  have hown_d903 := hown
  have hr13_d903 := hr13
  have hB_d903 := hB
  refine WA_take 0 (by kernel_rfl) rfl (fun _ _ => rn_move) ?_
  refine WA_take 1 (by kernel_rfl) rfl (fun _ _ => rn_move) ?_
  refine WA_take 2 (by kernel_rfl) rfl (fun _ _ => rn_nilCheckP rfl) ?_
  refine WA_take 3 (by kernel_rfl) rfl (fun _ _ => rn_fieldAddr (off := 0) (by kernel_rfl) rfl) ?_
  refine WA_take 5 (by kernel_rfl) rfl (fun _ _ => rn_move) ?_
  refine WA_take 6 (by kernel_rfl) rfl (fun _ _ => rn_nilCheckP rfl) ?_
  refine WA_take 7 (by kernel_rfl) rfl (fun _ _ => rn_fieldAddr (off := 0) (by kernel_rfl) rfl) ?_
  refine WA_take 8 (by kernel_rfl) rfl (fun w' hS' => rn_load rfl (Ld.row1 (hr_d903.kq hS') (by kernel_rfl) rfl)) ?_
  refine WA_one 4 (by kernel_rfl) ?_
  refine WO_val rfl rfl (rn_load rfl (Ld.row1 hr13 (by kernel_rfl) rfl)) hS903 ?_
  refine WA_one 9 (by kernel_rfl) ?_
  have hsv := hown.sl
  have hl13 := hr13.lt
  have hz13 := hB.size
  refine WO_mk rfl rfl (mk_append (e := 52) (sz := 1) (bytes := 24) (z := Value.slice none 0 0) (by kernel_rfl) rfl (by kernel_rfl) rfl (by decide) rfl (ownsAt_nil w903 w903.heap.size 52 1) rfl hsv hvs1 (by unfold maxLen; omega) (by omega) (fun _ => Nat.le_refl _) (fun v23 w23 hv23 hgr23 hfr23 => ?_))
  have hb23 := below_of_nil hgr23
  have hS905 := hS903.add0 hb23
  refine ⟨hS905, ?_⟩
  replace hr := hr.new hb23
  replace hown := hown.new hb23
  replace hr13 := hr13.new hb23
  replace hB := hB.acc hb23
  have hfo := hv23.form' (by omega)
  obtain ⟨q, qo, cq, hvq, hqb, _, _⟩ := hfo
  subst hvq
  rw [List.nil_append, Nat.zero_add] at hv23
  refine WA_take 10 (by kernel_rfl) rfl (fun _ _ => rn_nilCheckP rfl) ?_
  refine WA_take 11 (by kernel_rfl) rfl (fun _ _ => rn_fieldAddr (off := 0) (by kernel_rfl) rfl) ?_
  refine WA_one 12 (by kernel_rfl) ?_
  refine WO_sk rfl rfl (sk_store1 rfl rfl rfl rfl hr13 (by kernel_rfl) (by first | (simp only [List.length_replicate]; omega) | (simp only [iv_length]; omega) | (simp only [bv_length, List.length_set]; omega) | simp) (fun w907 hr13 ho907 => ?_))
  have hS906 := hS905.aq ho907
  refine ⟨hS906, ?_⟩
  replace hr := hr.only ho907 (Nat.ne_of_lt lt_g_g13)
  replace hown := hown.only ho907 (Nat.ne_of_lt lt_pv_g13)
  replace hv23 := hv23.only ho907 (by omega)
  replace hB := ho907.below hB ge_hB_g13
  refine WA_done (by kernel_rfl) ?_
  refine thenN (W_seq (W_region (WR_val rfl (rn_move) (WR_val rfl (rn_assign) (WR_nil (thenN (W_ret ?_)))))))
  refine ret_ret [_] ⟨rfl, trivial⟩ ?_
  refine ⟨g13, q, qo, cq, rfl, ⟨?_, ?_, h.vs.kpd (M := []) (Kp.of_below hB) (by simp), fun b hb => Nat.lt_of_lt_of_le (h.inG b hb) hB.size, ⟨by omega, fun b hb => ?_⟩, h.left, h.ok, h.pos⟩, by omega, by omega, hB⟩
  · have hr14 : row w907 g13 [.slice (some ⟨q, qo, none⟩) (0 + D.V.length) cq, .int .i64 D.left, .bool D.dead] 58 := hr13
    rw [Nat.zero_add] at hr14; exact hr14
  · exact ownsAt.mono hv23 (Nat.zero_le _)
  · have := h.inG b hb; omega
theorem vCopy {X : World → List Nat → Prop} [Thing X] {g lo : Nat} {L : List Nat} {D : Dk} {w : World} (h : Two X (RZ g D) lo L w) :
    Calls Try.prog 25 [.pointer (some ⟨g, 0, none⟩)].toArray w (Ret fun v w' => ∃ g', v = .pointer (some ⟨g', 0, none⟩) ∧ Two X (RR g g' D D) lo L w' ∧ Below w.heap.size w w') := by
  obtain ⟨⟨B, C, hX, ⟨pv, G, ov, cv, vs, hC, h1⟩, h3, h4⟩, h5, h6⟩ := h
  refine (rcopy h1).to fun v w' hR => ?_
  obtain ⟨g', pv', ov', cv', hv, hM, hl1, hl2, hb⟩ := hR
  have z1 := h1.row.lt
  have z2 := h1.own.lt
  have hRR : RR g g' D D w' (([g, pv] ++ G) ++ ([g', pv'] ++ G)) :=
    ⟨pv, G, ov, cv, vs, pv', G, ov', cv', vs, ⟨h1.new hb, hM, fun x hx => ⟨fun hm => ?_, fun hm => ?_⟩, fun x hx hm => ?_⟩, rfl⟩
  · refine ⟨g', hv, (Two.mv (X := RZ g D) (X' := RR g g' D D) (Y := X) (B := C) hRR hX (fun b hb => ⟨(h4 b hb).1, fun hc => (h3 b hc).2.1 hb, (h4 b hb).2⟩) (fun b hb => ⟨(h3 b hb).1, (h3 b hb).2.2⟩) h5 h6 ⟨Kp.of_below' hb, fun b hm => ?_⟩).swap, hb⟩
    rw [hC]
    rcases List.mem_append.1 hm with hm | hm
    · exact .inl hm
    · rcases List.mem_append.1 hm with hm | hm
      · right
        simp only [List.mem_cons, List.not_mem_nil, or_false] at hm
        rcases hm with rfl | rfl <;> assumption
      · exact .inl (List.mem_append_right _ hm)
  · simp only [List.mem_cons, List.not_mem_nil, or_false] at hx hm
    rcases hx with rfl | rfl <;> rcases hm with rfl | rfl <;> omega
  · have hn := h1.ne.2 x hm
    simp only [List.mem_cons, List.not_mem_nil, or_false] at hx
    rcases hx with rfl | rfl
    · exact hn.1 rfl
    · exact hn.2 rfl
  · have := h1.inG x hm
    simp only [List.mem_cons, List.not_mem_nil, or_false] at hx
    rcases hx with rfl | rfl <;> omega
theorem vV0 {X : World → List Nat → Prop} {g g' lo : Nat} {L : List Nat} {D O : Dk} {w : World} (h : Two X (RR g g' D O) lo L w) {i : Nat} (hi : i < D.V.length) :
    ∃ pv ov cv vs gp op c, Coup.row w g [.slice (some ⟨pv, ov, none⟩) D.V.length cv, .int .i64 D.left, .bool D.dead] 58 ∧ OwnG w 0 52 1 pv ov D.V.length cv vs ∧ vs[i]? = some (.slice (some ⟨gp, op, none⟩) (ver D i).length c) ∧ SlAt w (some ⟨gp, op, none⟩) (ver D i).length 128 (bv (ver D i).flatten) ∧ secsOk (ver D i) ∧ 0 < (ver D i).length ∧ (ver D i).length ≤ 100000 := by
  obtain ⟨⟨B, C, _, ⟨pv, G, ov, cv, vs, pv', G', ov', cv', vs', h1, _⟩, _⟩, _⟩ := h
  obtain ⟨v1, v2, v3⟩ := ver_ok h1.a.ok hi
  have hp := List.length_pos_iff.2 v1
  obtain ⟨p, c, e1, e2, _⟩ := h1.a.vs.2 i _ (ver_at hi)
  obtain ⟨gp, op, rfl, _⟩ := e2.some (by omega)
  exact ⟨pv, ov, cv, vs, gp, op, c, h1.a.row, h1.a.own, e1, e2, v2, hp, v3⟩
theorem head_at {v : List Sec} (h : 0 < v.length) : v[0]? = some (headS v) := by
  cases v with
  | nil => simp at h
  | cons a l => rfl
def likeD (D O : Dk) (j : Nat) : Prop := headS (ver D j) = headS (ver O j) ∧ readD D j = readD O j
theorem like_same {D O : Dk} {al : Bool} (hl : D.V.length = O.V.length) (h : al = true ↔ ∀ j, j < D.V.length → likeD D O j) : sameD D O = al ∧ sameD O D = al := by
  cases al with
  | true =>
    have h1 := h.1 rfl
    exact ⟨sameD_of hl fun i hi => h1 i hi, sameD_of hl.symm fun i hi => ⟨(h1 i (by omega)).1.symm, (h1 i (by omega)).2.symm⟩⟩
  | false =>
    have h2 : ¬ ∀ j, j < D.V.length → likeD D O j := fun hh => by have := h.2 hh; cases this
    have h3 : ∃ j, j < D.V.length ∧ ¬ likeD D O j := Classical.byContradiction fun hn => h2 fun j hj => Classical.byContradiction fun hx => hn ⟨j, hj, hx⟩
    obtain ⟨j, hj, hx⟩ := h3
    have hx2 : headS (ver D j) ≠ headS (ver O j) ∨ readD D j ≠ readD O j := by
      by_cases h4 : headS (ver D j) = headS (ver O j)
      · exact .inr fun h5 => hx ⟨h4, h5⟩
      · exact .inl h4
    exact ⟨sameD_not hj hl hx2, sameD_not (by omega) hl.symm (hx2.imp Ne.symm Ne.symm)⟩
theorem doD_len (D : Dk) (a : AcT) : (doD D a).V.length = D.V.length := by
  unfold doD
  split
  · unfold writeA writeD
    split
    · split
      · show (List.set _ _ _).length = _
        rw [List.length_set, stepD_V]
      · rw [stepD_V]
    · rfl
  · split
    · exact flush_len
    · split
      · unfold fuseA; split <;> rfl
      · split
        · exact crash_len _ _
        · rfl
theorem playD_len (l : List AcT) : ∀ D : Dk, (playD D l).V.length = D.V.length := by
  induction l with
  | nil => intro D; rfl
  | cons a l ih => intro D; exact (ih (doD D a)).trans (doD_len D a)
end Go.Proofs.Ytpndhildmfmcgaa
namespace Go.Proofs.Ytpndhildmfmcgaa
open Go Go.RowKit Coup
theorem sameD_refl (D : Dk) : sameD D D = true := sameD_of rfl fun _ _ => ⟨rfl, rfl⟩
set_option maxRecDepth 8000 in
set_option maxHeartbeats 4000000 in
theorem diskApartC (n : Int) (p1 : Option Addr) (l1 c1 : Nat) (R1 : List AcT) (p2 : Option Addr) (l2 c2 : Nat) (R2 : List AcT) (p3 : Option Addr) (l3 c3 : Nat) (R3 : List AcT) (w : World) (hn : wf64 n) (h1 : AcsAt w p1 l1 R1) (h2 : AcsAt w p2 l2 R2) (h3 : AcsAt w p3 l3 R3) :
    Calls Try.prog 7 [.int .i64 n, .slice p1 l1 c1, .slice p2 l2 c2, .slice p3 l3 c3].toArray w (Ret fun v w' => v = .bool true ∧ Below w.heap.size w w') := by
  have hB := Below.refl w.heap.size w
  have hm1 := h1.1
  have hm2 := h2.1
  have hm3 := h3.1
  have hml : maxLen = 9223372036854775807 := by decide
  have hmax1 := h1.max
  have hmax2 := h2.max
  have hmax3 := h3.max
  refine calls_W (fn := Try.f7) (rs := [.tmp 8]) (n := 166) Try.func7 rfl rfl Try.ntmps7 (by kernel_rfl) rfl ?_
  refine W_seq (W_region (WR_val rfl (rn_assign) (WR_nil (thenN (W_seq (W_seq (W_region (WR_val rfl (rn_move) ?_))))))))
  refine WR_val rfl (rn_lss rfl rfl) ?_
  refine WR_val rfl (rn_move) ?_
  refine WR_part 21 rfl (fun ha1 => ?_) (fun ha1 => ?_)
  ·
   refine WR_no rfl rfl (WR_no rfl rfl (WR_val rfl (rn_pick_t rfl) (WR_val rfl (rn_move) (WR_no rfl rfl (WR_no rfl rfl (WR_no rfl rfl (WR_val rfl (rn_pick_t rfl) (WR_val rfl (rn_move) (WR_no rfl rfl (WR_no rfl rfl (WR_no rfl rfl ?_)))))))))))
   refine WR_val rfl (rn_pick_t rfl) (WR_val rfl (rn_move) (WR_no rfl rfl (WR_no rfl rfl (WR_no rfl rfl (WR_val rfl (rn_pick_t rfl) (WR_nil (thenN ?_)))))))
   refine W_tb rfl (rfl) ?_
   refine W_seq (W_region ?_)
   refine WR_ent rfl (rn_call (by kernel_rfl) rfl) (known10 w) ?_
   rintro _ w40 ⟨rfl, hb40⟩
   replace hB := hB.acc hb40
   refine WR_val rfl (rn_assign) (WR_nil (thenN (W_ret (thenR ?_))))
   refine ret_ret [_] ⟨rfl, trivial⟩ ?_
   exact ⟨rfl, hB⟩
  ·
   refine WR_yes rfl (WR_val rfl (rn_move) (WR_yes rfl ?_))
   refine WR_val rfl (rn_gtr rfl rfl) ?_
   refine WR_val rfl (rn_pick_f rfl) (WR_val rfl (rn_move) ?_)
   refine WR_part 25 rfl (fun ha8 => ?_) (fun ha8 => ?_)
   ·
    refine WR_no rfl rfl (WR_no rfl rfl (WR_no rfl rfl (WR_val rfl (rn_pick_t rfl) (WR_val rfl (rn_move) (WR_no rfl rfl (WR_no rfl rfl (WR_no rfl rfl (WR_val rfl (rn_pick_t rfl) (WR_val rfl (rn_move) (WR_no rfl rfl (WR_no rfl rfl ?_)))))))))))
    refine WR_no rfl rfl (WR_val rfl (rn_pick_t rfl) (WR_nil (thenN ?_)))
    refine W_tb rfl (rfl) ?_
    refine W_seq (W_region ?_)
    refine WR_ent rfl (rn_call (by kernel_rfl) rfl) (known10 w) ?_
    rintro _ w40 ⟨rfl, hb40⟩
    replace hB := hB.acc hb40
    refine WR_val rfl (rn_assign) (WR_nil (thenN (W_ret (thenR ?_))))
    refine ret_ret [_] ⟨rfl, trivial⟩ ?_
    exact ⟨rfl, hB⟩
   ·
    refine WR_yes rfl (WR_val rfl (rn_move) (WR_yes rfl ?_))
    refine WR_ent rfl (rn_call (by kernel_rfl) rfl) (few9 p1 l1 c1 30 R1 w (acsBelow h1 hB) (by omega)) ?_
    rintro _ _ ⟨fA, rfl, hfA, rfl⟩
    refine WR_yes rfl ?_
    refine WR_val rfl (rn_not rfl) ?_
    refine WR_val rfl (rn_pick_f rfl) (WR_val rfl (rn_move) ?_)
    refine WR_partnb 30 rfl (fun hf1 => ?_) (fun hf1 => ?_)
    ·
     refine WR_no rfl rfl (WR_no rfl rfl (WR_no rfl rfl (WR_val rfl (rn_pick_t rfl) (WR_val rfl (rn_move) (WR_no rfl rfl (WR_no rfl rfl (WR_no rfl rfl (WR_val rfl (rn_pick_t rfl) (WR_nil (thenN ?_))))))))))
     refine W_tb rfl (rfl) ?_
     refine W_seq (W_region ?_)
     refine WR_ent rfl (rn_call (by kernel_rfl) rfl) (known10 w) ?_
     rintro _ w40 ⟨rfl, hb40⟩
     replace hB := hB.acc hb40
     refine WR_val rfl (rn_assign) (WR_nil (thenN (W_ret (thenR ?_))))
     refine ret_ret [_] ⟨rfl, trivial⟩ ?_
     exact ⟨rfl, hB⟩
    ·
     refine WR_yes rfl (WR_val rfl (rn_move) (WR_yes rfl ?_))
     refine WR_ent rfl (rn_call (by kernel_rfl) rfl) (few9 p2 l2 c2 30 R2 w (acsBelow h2 hB) (by omega)) ?_
     rintro _ _ ⟨fB, rfl, hfB, rfl⟩
     refine WR_yes rfl ?_
     refine WR_val rfl (rn_not rfl) ?_
     refine WR_val rfl (rn_pick_f rfl) (WR_val rfl (rn_move) ?_)
     refine WR_partnb 35 rfl (fun hf2 => ?_) (fun hf2 => ?_)
     ·
      refine WR_no rfl rfl (WR_no rfl rfl (WR_no rfl rfl (WR_val rfl (rn_pick_t rfl) (WR_nil (thenN ?_)))))
      refine W_tb rfl (rfl) ?_
      refine W_seq (W_region ?_)
      refine WR_ent rfl (rn_call (by kernel_rfl) rfl) (known10 w) ?_
      rintro _ w40 ⟨rfl, hb40⟩
      replace hB := hB.acc hb40
      refine WR_val rfl (rn_assign) (WR_nil (thenN (W_ret (thenR ?_))))
      refine ret_ret [_] ⟨rfl, trivial⟩ ?_
      exact ⟨rfl, hB⟩
     ·
      refine WR_yes rfl (WR_val rfl (rn_move) (WR_yes rfl ?_))
      refine WR_ent rfl (rn_call (by kernel_rfl) rfl) (few9 p3 l3 c3 30 R3 w (acsBelow h3 hB) (by omega)) ?_
      rintro _ _ ⟨fC, rfl, hfC, rfl⟩
      refine WR_yes rfl ?_
      refine WR_val rfl (rn_not rfl) ?_
      refine WR_val rfl (rn_pick_f rfl) (WR_nil (thenN ?_))
      refine W_ifnb rfl (fun hf3 => ?_) (fun hf3 => ?_)
      ·
       refine W_seq (W_region ?_)
       refine WR_ent rfl (rn_call (by kernel_rfl) rfl) (known10 w) ?_
       rintro _ w40 ⟨rfl, hb40⟩
       replace hB := hB.acc hb40
       refine WR_val rfl (rn_assign) (WR_nil (thenN (W_ret (thenR ?_))))
       refine ret_ret [_] ⟨rfl, trivial⟩ ?_
       exact ⟨rfl, hB⟩
      ·
       have hobt : ∃ m : Nat, n = m := ⟨n.toNat, by omega⟩
       obtain ⟨m, rfl⟩ := hobt
       have hobt := hfA hf1
       obtain ⟨hA1, _⟩ := hobt
       have hobt := hfB hf2
       obtain ⟨hB1, _⟩ := hobt
       have hobt := hfC hf3
       obtain ⟨hC1, _⟩ := hobt
       refine W_skip (thenN (W_seq (W_region (WR_val rfl (rn_move) ?_))))
       refine WR_ent rfl (rn_call (by kernel_rfl) rfl) (begin12 m w (by omega) (by omega)) ?_
       rintro _ w43 ⟨g, h', rfl, hD, hb43⟩
       replace hB := hB.acc hb43
       refine WR_val rfl (rn_move) (WR_val rfl (rn_extract rfl rfl) (WR_val rfl (rn_extract rfl rfl) (WR_val rfl (rn_extract rfl rfl) (WR_val rfl (rn_assign) (WR_val rfl (rn_assign) (WR_val rfl (rn_assign) (WR_nil (thenN (W_seq (W_seq (W_region ?_)))))))))))
       refine WR_val rfl (rn_move) ?_
       refine WR_val rfl (rn_not rfl) ?_
       refine WR_nil (thenN ?_)
       refine W_fnb rfl (rfl) ?_
       refine W_skip (thenN (W_seq (W_seq (W_region (WR_val rfl (rn_assign) (WR_nil (thenN (W_block ?_))))))))
       have hlo := hD.lo
       have hq0 : ∀ (q : Option Addr) (l : List Int), SlAt w q l.length 1 (iv l) → 0 < l.length → ∀ b o, q = some ⟨b, o, none⟩ → b < w.heap.size := fun q l hs h0 b o e => by
         have hobt := hs.some (by omega)
         obtain ⟨g', o', e', hl⟩ := hobt
         rw [e'] at e; cases e; exact hl
       refine W_loop (α := Nat) 0 (fun i => [(12, .int .i64 (i : Nat)), (1, .slice p1 l1 c1), (9, .pointer (some ⟨g, 0, none⟩)), (10, .pointer (some ⟨h', 0, none⟩)), (0, .int .i64 (m : Nat)), (2, .slice p2 l2 c2), (3, .slice p3 l3 c3)])
         (fun i w' => i ≤ l1 ∧ Two (DZ g (playD (newD m) (R1.take i))) (RZ h' (playD (newD m) (R1.take i))) w.heap.size [] w' ∧ shortD (playD (newD m) (R1.take i)) (i + 1) ∧ Below w.heap.size w w') (fun i => l1 - i)
         ⟨rfl, rfl, rfl, rfl, rfl, rfl, rfl, rfl⟩ ⟨Nat.zero_le _, hD, newD_short m, hB⟩ ?_
       clear hD hB
       rintro i f wr ⟨hi, hD, hsh, hB⟩
       refine W_seq (W_seq (W_region (WR_val rfl (rn_move) (WR_val rfl (rn_move) ?_))))
       refine WR_val rfl (rn_lenSl (e := 37) (sz := 132) (by kernel_rfl) rfl rfl) ?_
       refine WR_val rfl (rn_lss rfl rfl) ?_
       refine WR_nil (thenN ?_)
       refine W_ifp rfl (fun hlt => ?_) (fun hlt => ?_)
       ·
        refine W_skip (thenN (W_seq (W_block (W_seq ?_))))
        have hob1 := h1.get (i := i) (by omega)
        obtain ⟨a, hx⟩ := hob1
        have hob2 := h1.some (by omega)
        obtain ⟨gp, op, hgp, _⟩ := hob2
        subst hgp
        have hps := playD_snoc (newD m) R1 hx
        have hs2 := hsh.step a (by omega)
        rw [← hps] at hs2
        have hle := h1.ldB (P := Try.prog) (t := 37) (by kernel_rfl) (by kernel_rfl) hx
        obtain ⟨cs, ⟨q, qc, rfl, e2, e3, e4, _, _, hn3, _⟩, hcl, hld⟩ := hle
        refine W_region (WR_val rfl (rn_move) (WR_val rfl (rn_move) (WR_val rfl (rn_move) (WR_val rfl (rn_move) ?_))))
        refine WR_val rfl (rn_indexSl (e := 37) (sz := 132) (by kernel_rfl) rfl rfl (i) (by omega) (by omega)) ?_
        refine WR_val rfl (rn_load rfl ((hld _ hB).1)) ?_
        refine WR_ent rfl (rn_call (by kernel_rfl) rfl) (do13 hD a q qc e2 hn3.2 (e3.below hB (Nat.le_refl _)) (fun h0 b o e ↦ .inl (hq0 q a.picks e3 h0 b o e)) (short_of hsh (by omega))) ?_
        rintro _ w61 ⟨rfl, hD, hb61⟩
        replace hB := belLL hB hb61 (by omega)
        rw [← hps] at hD
        refine WR_val rfl (rn_not rfl) ?_
        refine WR_nil (thenN ?_)
        refine W_fnb rfl (rfl) ?_
        refine W_skip (blockN (thenN (W_region (WR_val rfl (rn_move) ?_))))
        refine WR_val rfl (rn_add rfl rfl (Coup.w64 (by omega))) ?_
        refine WR_val rfl (rn_assign) (WR_nil ?_)
        refine loopN ⟨i + 1, by omega, ⟨by go_num, rfl, rfl, rfl, rfl, rfl, rfl, rfl⟩, by omega, hD, hs2, hB⟩
       ·
        have hil : i = l1 := by omega
        subst hil
        rw [List.take_of_length_le (by omega)] at hD hsh
        have hDl : (playD (newD m) R1).V.length = m := (playD_len R1 _).trans (newD_len m)
        have hobt : ∃ D1, playD (newD m) R1 = D1 := ⟨_, rfl⟩
        obtain ⟨D1, hD1⟩ := hobt
        rw [hD1] at hD hsh hDl
        refine W_exit (thenX (loopX (blockX (thenN (W_seq (W_region (WR_val rfl (rn_move) ?_)))))))
        refine WR_ent rfl (rn_call (by kernel_rfl) rfl) (qCopy hD) ?_
        rintro _ w64 ⟨g2, rfl, hQ, hb64⟩
        replace hB := hB.acc hb64
        refine WR_val rfl (rn_move) ?_
        refine WR_ent rfl (rn_call (by kernel_rfl) rfl) (vCopy hQ) ?_
        rintro _ w66 ⟨h2', rfl, hR, hb66⟩
        replace hB := hB.acc hb66
        refine WR_val rfl (rn_assign) (WR_val rfl (rn_assign) (WR_nil (thenN (W_seq (W_seq (W_region (WR_val rfl (rn_move) (WR_val rfl (rn_move) ?_))))))))
        have hs1 := qSame (swap4 hR)
        rw [sameD_refl] at hs1
        refine WR_ent rfl (rn_call (by kernel_rfl) rfl) (hs1) ?_
        rintro _ w69 ⟨rfl, hb69⟩
        replace hR := hR.new hb69
        replace hB := hB.acc hb69
        refine WR_val rfl (rn_not rfl) ?_
        refine WR_val rfl (rn_move) ?_
        refine WR_fnb 71 rfl (rfl) ?_
        refine WR_yes rfl (WR_val rfl (rn_move) (WR_yes rfl (WR_val rfl (rn_move) (WR_yes rfl ?_))))
        have hs2 := qSame hR
        rw [sameD_refl] at hs2
        refine WR_ent rfl (rn_call (by kernel_rfl) rfl) (hs2) ?_
        rintro _ w74 ⟨rfl, hb74⟩
        replace hR := hR.new hb74
        replace hB := hB.acc hb74
        refine WR_yes rfl ?_
        refine WR_val rfl (rn_not rfl) ?_
        refine WR_val rfl (rn_pick_f rfl) (WR_nil (thenN ?_))
        refine W_fnb rfl (rfl) ?_
        refine W_skip (thenN (W_seq (W_seq (W_region (WR_val rfl (rn_assign) (WR_nil (thenN (W_block ?_))))))))
        refine W_loop (α := Nat) 0 (fun i => [(15, .int .i64 (i : Nat)), (9, .pointer (some ⟨g, 0, none⟩)), (10, .pointer (some ⟨h', 0, none⟩)), (13, .pointer (some ⟨g2, 0, none⟩)), (14, .pointer (some ⟨h2', 0, none⟩)), (0, .int .i64 (m : Nat)), (2, .slice p2 l2 c2), (3, .slice p3 l3 c3)])
          (fun i w' => i ≤ l2 ∧ Two (DO g g2 (playD D1 (R2.take i)) D1) (RR h' h2' (playD D1 (R2.take i)) D1) w.heap.size [] w' ∧ shortD (playD D1 (R2.take i)) (100 + i) ∧ Below w.heap.size w w') (fun i => l2 - i)
          ⟨rfl, rfl, rfl, rfl, rfl, rfl, rfl, rfl, rfl⟩ ⟨Nat.zero_le _, hR, short_of hsh (by omega), hB⟩ ?_
        have hsh0 := short_of hsh (show _ ≤ 100 by omega)
        clear hR hB hsh
        rintro i f wr ⟨hi, hD, hsh, hB⟩
        refine W_seq (W_seq (W_region (WR_val rfl (rn_move) (WR_val rfl (rn_move) ?_))))
        refine WR_val rfl (rn_lenSl (e := 37) (sz := 132) (by kernel_rfl) rfl rfl) ?_
        refine WR_val rfl (rn_lss rfl rfl) ?_
        refine WR_nil (thenN ?_)
        refine W_ifp rfl (fun hlt => ?_) (fun hlt => ?_)
        ·
         refine W_skip (thenN (W_seq (W_block (W_seq ?_))))
         have hob1 := h2.get (i := i) (by omega)
         obtain ⟨a, hx⟩ := hob1
         have hob2 := h2.some (by omega)
         obtain ⟨gp, op, hgp, _⟩ := hob2
         subst hgp
         have hps := playD_snoc D1 R2 hx
         have hs2 := hsh.step a (by omega)
         rw [← hps] at hs2
         have hle := h2.ldB (P := Try.prog) (t := 37) (by kernel_rfl) (by kernel_rfl) hx
         obtain ⟨cs, ⟨q, qc, rfl, e2, e3, e4, _, _, hn3, _⟩, hcl, hld⟩ := hle
         refine W_region (WR_val rfl (rn_move) (WR_val rfl (rn_move) (WR_val rfl (rn_move) (WR_val rfl (rn_move) ?_))))
         refine WR_val rfl (rn_indexSl (e := 37) (sz := 132) (by kernel_rfl) rfl rfl (i) (by omega) (by omega)) ?_
         refine WR_val rfl (rn_load rfl ((hld _ hB).1)) ?_
         refine WR_ent rfl (rn_call (by kernel_rfl) rfl) (do13q hD a q qc e2 hn3.2 (e3.below hB (Nat.le_refl _)) (fun h0 b o e ↦ .inl (hq0 q a.picks e3 h0 b o e)) (short_of hsh (by omega))) ?_
         rintro _ w89 ⟨rfl, hD, hb89⟩
         replace hB := belLL hB hb89 (by omega)
         rw [← hps] at hD
         refine WR_val rfl (rn_not rfl) ?_
         refine WR_nil (thenN ?_)
         refine W_fnb rfl (rfl) ?_
         refine W_skip (blockN (thenN (W_region (WR_val rfl (rn_move) ?_))))
         refine WR_val rfl (rn_add rfl rfl (Coup.w64 (by omega))) ?_
         refine WR_val rfl (rn_assign) (WR_nil ?_)
         refine loopN ⟨i + 1, by omega, ⟨by go_num, rfl, rfl, rfl, rfl, rfl, rfl, rfl, rfl⟩, by omega, hD, short_of hs2 (by omega), hB⟩
        ·
         have hil : i = l2 := by omega
         subst hil
         rw [List.take_of_length_le (by omega)] at hD
         have hEl : (playD D1 R2).V.length = m := (playD_len R2 _).trans hDl
         have hobt : ∃ E1, playD D1 R2 = E1 := ⟨_, rfl⟩
         obtain ⟨E1, hE1⟩ := hobt
         rw [hE1] at hD hEl
         have hS := swap4 hD
         refine W_exit (thenX (loopX (blockX (thenN (W_seq (W_seq (W_region (WR_val rfl (rn_assign) (WR_nil (thenN (W_block ?_)))))))))))
         refine W_loop (α := Nat) 0 (fun i => [(16, .int .i64 (i : Nat)), (9, .pointer (some ⟨g, 0, none⟩)), (10, .pointer (some ⟨h', 0, none⟩)), (13, .pointer (some ⟨g2, 0, none⟩)), (14, .pointer (some ⟨h2', 0, none⟩)), (0, .int .i64 (m : Nat)), (3, .slice p3 l3 c3)])
           (fun i w' => i ≤ l3 ∧ Two (DO g2 g (playD D1 (R3.take i)) E1) (RR h2' h' (playD D1 (R3.take i)) E1) w.heap.size [] w' ∧ shortD (playD D1 (R3.take i)) (100 + i) ∧ Below w.heap.size w w') (fun i => l3 - i)
           ⟨rfl, rfl, rfl, rfl, rfl, rfl, rfl, rfl⟩ ⟨Nat.zero_le _, hS, hsh0, hB⟩ ?_
         clear hD hB hsh hS
         rintro i f wr ⟨hi, hD, hsh, hB⟩
         refine W_seq (W_seq (W_region (WR_val rfl (rn_move) (WR_val rfl (rn_move) ?_))))
         refine WR_val rfl (rn_lenSl (e := 37) (sz := 132) (by kernel_rfl) rfl rfl) ?_
         refine WR_val rfl (rn_lss rfl rfl) ?_
         refine WR_nil (thenN ?_)
         refine W_ifp rfl (fun hlt => ?_) (fun hlt => ?_)
         ·
          refine W_skip (thenN (W_seq (W_block (W_seq ?_))))
          have hob1 := h3.get (i := i) (by omega)
          obtain ⟨a, hx⟩ := hob1
          have hob2 := h3.some (by omega)
          obtain ⟨gp, op, hgp, _⟩ := hob2
          subst hgp
          have hps := playD_snoc D1 R3 hx
          have hs2 := hsh.step a (by omega)
          rw [← hps] at hs2
          have hle := h3.ldB (P := Try.prog) (t := 37) (by kernel_rfl) (by kernel_rfl) hx
          obtain ⟨cs, ⟨q, qc, rfl, e2, e3, e4, _, _, hn3, _⟩, hcl, hld⟩ := hle
          refine W_region (WR_val rfl (rn_move) (WR_val rfl (rn_move) (WR_val rfl (rn_move) (WR_val rfl (rn_move) ?_))))
          refine WR_val rfl (rn_indexSl (e := 37) (sz := 132) (by kernel_rfl) rfl rfl (i) (by omega) (by omega)) ?_
          refine WR_val rfl (rn_load rfl ((hld _ hB).1)) ?_
          refine WR_ent rfl (rn_call (by kernel_rfl) rfl) (do13q hD a q qc e2 hn3.2 (e3.below hB (Nat.le_refl _)) (fun h0 b o e ↦ .inl (hq0 q a.picks e3 h0 b o e)) (short_of hsh (by omega))) ?_
          rintro _ w103 ⟨rfl, hD, hb103⟩
          replace hB := belLL hB hb103 (by omega)
          rw [← hps] at hD
          refine WR_val rfl (rn_not rfl) ?_
          refine WR_nil (thenN ?_)
          refine W_fnb rfl (rfl) ?_
          refine W_skip (blockN (thenN (W_region (WR_val rfl (rn_move) ?_))))
          refine WR_val rfl (rn_add rfl rfl (Coup.w64 (by omega))) ?_
          refine WR_val rfl (rn_assign) (WR_nil ?_)
          refine loopN ⟨i + 1, by omega, ⟨by go_num, rfl, rfl, rfl, rfl, rfl, rfl, rfl⟩, by omega, hD, short_of hs2 (by omega), hB⟩
         ·
          have hil : i = l3 := by omega
          subst hil
          rw [List.take_of_length_le (by omega)] at hD
          have hFl : (playD D1 R3).V.length = m := (playD_len R3 _).trans hDl
          have hobt : ∃ F1, playD D1 R3 = F1 := ⟨_, rfl⟩
          obtain ⟨F1, hF1⟩ := hobt
          rw [hF1] at hD hFl
          have hS := swap4 hD
          refine W_exit (thenX (loopX (blockX (thenN (W_seq (W_region (WR_val rfl (rn_assign) (WR_nil (thenN (W_seq (W_seq ?_)))))))))))
          refine W_region (WR_val rfl (rn_assign) (WR_nil (thenN (W_block ?_))))
          refine W_loop (α := Nat × Bool) (0, true) (fun j => [(18, .int .i64 (j.1 : Nat)), (17, .bool j.2), (9, .pointer (some ⟨g, 0, none⟩)), (10, .pointer (some ⟨h', 0, none⟩)), (13, .pointer (some ⟨g2, 0, none⟩)), (14, .pointer (some ⟨h2', 0, none⟩)), (0, .int .i64 (m : Nat))])
            (fun j w' => j.1 ≤ m ∧ (j.2 = true ↔ ∀ k, k < j.1 → likeD E1 F1 k) ∧ Two (DO g g2 E1 F1) (RR h' h2' E1 F1) w.heap.size [] w' ∧ Below w.heap.size w w') (fun j => m - j.1)
            ⟨rfl, rfl, rfl, rfl, rfl, rfl, rfl, rfl⟩ ⟨Nat.zero_le _, ⟨fun _ k hk => absurd hk (Nat.not_lt_zero _), fun _ => rfl⟩, hS, hB⟩ ?_
          clear hD hB hsh hS
          rintro ⟨i, al⟩ f wr ⟨hi, hal, hR, hB⟩
          dsimp only at hi hal ⊢
          refine W_seq (W_seq (W_region (WR_val rfl (rn_move) (WR_val rfl (rn_move) ?_))))
          refine WR_val rfl (rn_lss rfl rfl) ?_
          refine WR_nil (thenN ?_)
          refine W_ifp rfl (fun hlt => ?_) (fun hlt => ?_)
          ·
           refine W_skip (thenN (W_seq (W_block ?_)))
           have hobv := vV0 hR (i := i) (by omega)
           obtain ⟨pv, ov, cv, vs, gp, op, c, hr, hown, hvi, hsl, hso, hp0, hpl⟩ := hobv
           have hobw := vV0 (swap4 hR) (i := i) (by omega)
           obtain ⟨pv', ov', cv', vs', gp', op', c', hr', hown', hvi', hsl', hso', hp0', hpl'⟩ := hobw
           have hh1 := head_at hp0
           have hh2 := head_at hp0'
           have hl1 := headS_ok hso
           have hl2 := headS_ok hso'
           have hr1 : (readD E1 i).length = 128 := lastS_ok hso
           have hr2 : (readD F1 i).length = 128 := lastS_ok hso'
           have hobt : ∃ H1, headS (ver E1 i) = H1 := ⟨_, rfl⟩
           obtain ⟨H1, hH1⟩ := hobt
           have hobt : ∃ H2, headS (ver F1 i) = H2 := ⟨_, rfl⟩
           obtain ⟨H2, hH2⟩ := hobt
           have hobt : ∃ X1, readD E1 i = X1 := ⟨_, rfl⟩
           obtain ⟨X1, hX1⟩ := hobt
           have hobt : ∃ X2, readD F1 i = X2 := ⟨_, rfl⟩
           obtain ⟨X2, hX2⟩ := hobt
           rw [hH1] at hh1 hl1
           rw [hH2] at hh2 hl2
           rw [hX1] at hr1
           rw [hX2] at hr2
           refine W_draw' [] (by kernel_rfl) ?_
           intro w901 hb901 hS901
           replace hR := hR.new hb901
           replace hr := hr.new hb901
           replace hown := hown.new hb901
           replace hsl := hsl.new hb901
           replace hr' := hr'.new hb901
           replace hown' := hown'.new hb901
           replace hsl' := hsl'.new hb901
           replace hB := hB.acc hb901
           have hR_d901 := hR
           have hr_d901 := hr
           have hown_d901 := hown
           have hsl_d901 := hsl
           have hr'_d901 := hr'
           have hown'_d901 := hown'
           have hsl'_d901 := hsl'
           have hB_d901 := hB
           refine WA_take 0 (by kernel_rfl) rfl (fun _ _ => rn_move) ?_
           refine WA_take 1 (by kernel_rfl) rfl (fun _ _ => rn_move) ?_
           refine WA_partb 111 rfl (fun hat => ?_) (fun hat => ?_)
           ·
            refine WA_take 2 (by kernel_rfl) rfl (fun _ _ => rn_move) ?_
            refine WA_take 3 (by kernel_rfl) rfl (fun _ _ => rn_nilCheckP rfl) ?_
            refine WA_take 4 (by kernel_rfl) rfl (fun _ _ => rn_fieldAddr (off := 0) (by kernel_rfl) rfl) ?_
            refine WA_take 5 (by kernel_rfl) rfl (fun w' hS' => rn_load rfl (Ld.row1 (hr_d901.kq hS') (by kernel_rfl) rfl)) ?_
            refine WA_take 6 (by kernel_rfl) rfl (fun _ _ => rn_move) ?_
            refine WA_take 7 (by kernel_rfl) rfl (fun _ _ => rn_indexSl1 (e := 52) (by kernel_rfl) rfl rfl (i) (by omega) (by omega)) ?_
            refine WA_take 8 (by kernel_rfl) rfl (fun w' hS' => rn_load rfl (Ld.sl1 (hown_d901.kpd hS' (by first | (simp; done) | (simp; omega) | (simp [*]; done) | exact notLL (Or.inl (by omega)) | exact notLL (Or.inr (by simp)) | exact fun g hm => Nat.le_trans (by omega) (inLL hm).1 | (intro b o e; cases e; exact notLL (Or.inl (by omega))) | (intro b hm; have := (hu.lt b (Option.mem_toList.1 hm)).1; omega) | (intro b o e; cases e; intro hm; have := (hu.lt _ (Option.mem_toList.1 hm)).1; omega))).sl (by kernel_rfl) hvi)) ?_
            refine WA_take 9 (by kernel_rfl) rfl (fun _ _ => rn_indexSl (e := 34) (sz := 128) (by kernel_rfl) rfl rfl (0) (by omega) (by omega)) ?_
            refine WA_take 10 (by kernel_rfl) rfl (fun w' hS' => rn_load rfl (ld_sec (hsl_d901.kpd hS' (by first | (simp; done) | (simp; omega) | (simp [*]; done) | exact notLL (Or.inl (by omega)) | exact notLL (Or.inr (by simp)) | exact fun g hm => Nat.le_trans (by omega) (inLL hm).1 | (intro b o e; cases e; exact notLL (Or.inl (by omega))) | (intro b hm; have := (hu.lt b (Option.mem_toList.1 hm)).1; omega) | (intro b o e; cases e; intro hm; have := (hu.lt _ (Option.mem_toList.1 hm)).1; omega))) hso hh1)) ?_
            refine WA_take 11 (by kernel_rfl) rfl (fun _ _ => rn_move) ?_
            refine WA_take 12 (by kernel_rfl) rfl (fun _ _ => rn_nilCheckP rfl) ?_
            refine WA_take 13 (by kernel_rfl) rfl (fun _ _ => rn_fieldAddr (off := 0) (by kernel_rfl) rfl) ?_
            refine WA_take 14 (by kernel_rfl) rfl (fun w' hS' => rn_load rfl (Ld.row1 (hr'_d901.kpd hS' (by first | (simp; done) | (simp; omega) | (simp [*]; done) | exact notLL (Or.inl (by omega)) | exact notLL (Or.inr (by simp)) | exact fun g hm => Nat.le_trans (by omega) (inLL hm).1 | (intro b o e; cases e; exact notLL (Or.inl (by omega))) | (intro b hm; have := (hu.lt b (Option.mem_toList.1 hm)).1; omega) | (intro b o e; cases e; intro hm; have := (hu.lt _ (Option.mem_toList.1 hm)).1; omega))) (by kernel_rfl) rfl)) ?_
            refine WA_take 15 (by kernel_rfl) rfl (fun _ _ => rn_move) ?_
            refine WA_take 16 (by kernel_rfl) rfl (fun _ _ => rn_indexSl1 (e := 52) (by kernel_rfl) rfl rfl (i) (by omega) (by omega)) ?_
            refine WA_take 17 (by kernel_rfl) rfl (fun w' hS' => rn_load rfl (Ld.sl1 (hown'_d901.kpd hS' (by first | (simp; done) | (simp; omega) | (simp [*]; done) | exact notLL (Or.inl (by omega)) | exact notLL (Or.inr (by simp)) | exact fun g hm => Nat.le_trans (by omega) (inLL hm).1 | (intro b o e; cases e; exact notLL (Or.inl (by omega))) | (intro b hm; have := (hu.lt b (Option.mem_toList.1 hm)).1; omega) | (intro b o e; cases e; intro hm; have := (hu.lt _ (Option.mem_toList.1 hm)).1; omega))).sl (by kernel_rfl) hvi')) ?_
            refine WA_take 18 (by kernel_rfl) rfl (fun _ _ => rn_indexSl (e := 34) (sz := 128) (by kernel_rfl) rfl rfl (0) (by omega) (by omega)) ?_
            refine WA_take 19 (by kernel_rfl) rfl (fun w' hS' => rn_load rfl (ld_sec (hsl'_d901.kpd hS' (by first | (simp; done) | (simp; omega) | (simp [*]; done) | exact notLL (Or.inl (by omega)) | exact notLL (Or.inr (by simp)) | exact fun g hm => Nat.le_trans (by omega) (inLL hm).1 | (intro b o e; cases e; exact notLL (Or.inl (by omega))) | (intro b hm; have := (hu.lt b (Option.mem_toList.1 hm)).1; omega) | (intro b o e; cases e; intro hm; have := (hu.lt _ (Option.mem_toList.1 hm)).1; omega))) hso' hh2)) ?_
            refine WA_take 20 (by kernel_rfl) rfl (fun _ _ => rn_eqlA (n := 128) (by kernel_rfl) rfl rfl hl1 hl2) ?_
            refine WA_take 21 (by kernel_rfl) rfl (fun _ _ => rn_pick_t rfl) ?_
            refine WA_take 22 (by kernel_rfl) rfl (fun _ _ => rn_move) ?_
            refine WA_part 132 rfl (fun hhd => ?_) (fun hhd => ?_)
            ·
             refine WA_take 23 (by kernel_rfl) rfl (fun _ _ => rn_move) ?_
             refine WA_take 24 (by kernel_rfl) rfl (fun _ _ => rn_move) ?_
             refine WA_take 26 (by kernel_rfl) rfl (fun _ _ => rn_move) ?_
             refine WA_take 27 (by kernel_rfl) rfl (fun _ _ => rn_move) ?_
             refine WA_one 25 (by kernel_rfl) ?_
             have hv1 := vRead hR i (by omega)
             rw [hX1] at hv1
             refine WO_ent rfl rfl (rn_call (by kernel_rfl) rfl) (hv1) ?_
             rintro _ w135 ⟨rfl, hb135⟩
             have hS902 := hS901.add0 hb135
             refine ⟨hS902, ?_⟩
             replace hR := hR.new hb135
             replace hr := hr.new hb135
             replace hown := hown.new hb135
             replace hsl := hsl.new hb135
             replace hr' := hr'.new hb135
             replace hown' := hown'.new hb135
             replace hsl' := hsl'.new hb135
             replace hB := hB.acc hb135
             refine WA_one 28 (by kernel_rfl) ?_
             have hv2 := vRead (swap4 hR) i (by omega)
             rw [hX2] at hv2
             refine WO_ent rfl rfl (rn_call (by kernel_rfl) rfl) (hv2) ?_
             rintro _ w138 ⟨rfl, hb138⟩
             have hS903 := hS902.add0 hb138
             refine ⟨hS903, ?_⟩
             replace hR := hR.new hb138
             replace hr := hr.new hb138
             replace hown := hown.new hb138
             replace hsl := hsl.new hb138
             replace hr' := hr'.new hb138
             replace hown' := hown'.new hb138
             replace hsl' := hsl'.new hb138
             replace hB := hB.acc hb138
             refine WA_take 29 (by kernel_rfl) rfl (fun _ _ => rn_eqlA (n := 128) (by kernel_rfl) rfl rfl hr1 hr2) ?_
             refine WA_take 30 (by kernel_rfl) rfl (fun _ _ => rn_pick_t rfl) ?_
             refine WA_take 31 (by kernel_rfl) rfl (fun _ _ => rn_assign) ?_
             refine WA_done (by kernel_rfl) ?_
             refine blockN (thenN (W_region (WR_val rfl (rn_move) ?_)))
             refine WR_val rfl (rn_add rfl rfl (Coup.w64 (by omega))) ?_
             refine WR_val rfl (rn_assign) (WR_nil ?_)
             refine loopN ⟨(i + 1, decide (X1 = X2)), by show m - (i + 1) < m - i; omega, ⟨by go_num, rfl, rfl, rfl, rfl, rfl, rfl, rfl⟩, by show i + 1 ≤ m; omega, ⟨fun h k hk => ?_, fun hh => ?_⟩, hR, hB⟩
             · by_cases hki : k = i
               · subst hki
                 exact ⟨by rw [hH1, hH2]; exact hhd, by rw [hX1, hX2]; exact of_decide_eq_true h⟩
               · exact hal.1 hat k (by omega)
             · have h4 := (hh i (Nat.lt_succ_self i)).2
               rw [hX1, hX2] at h4
               exact decide_eq_true h4
            ·
             refine WA_skip 23 (by kernel_rfl) rfl ?_
             refine WA_skip 24 (by kernel_rfl) rfl ?_
             refine WA_skip 26 (by kernel_rfl) rfl ?_
             refine WA_skip 27 (by kernel_rfl) rfl ?_
             refine WA_skip 25 (by kernel_rfl) rfl ?_
             refine WA_skip 28 (by kernel_rfl) rfl ?_
             refine WA_skip 29 (by kernel_rfl) rfl ?_
             refine WA_take 30 (by kernel_rfl) rfl (fun _ _ => rn_pick_f rfl) ?_
             refine WA_take 31 (by kernel_rfl) rfl (fun _ _ => rn_assign) ?_
             refine WA_done (by kernel_rfl) ?_
             refine blockN (thenN (W_region (WR_val rfl (rn_move) ?_)))
             refine WR_val rfl (rn_add rfl rfl (Coup.w64 (by omega))) ?_
             refine WR_val rfl (rn_assign) (WR_nil ?_)
             refine loopN ⟨(i + 1, false), by show m - (i + 1) < m - i; omega, ⟨by go_num, rfl, rfl, rfl, rfl, rfl, rfl, rfl⟩, by show i + 1 ≤ m; omega, ⟨fun h => (nomatch h), fun hh => ?_⟩, hR, hB⟩
             have h4 := (hh i (Nat.lt_succ_self i)).1
             rw [hH1, hH2] at h4
             exact absurd h4 hhd
           ·
            refine WA_skip 2 (by kernel_rfl) rfl ?_
            refine WA_skip 3 (by kernel_rfl) rfl ?_
            refine WA_skip 4 (by kernel_rfl) rfl ?_
            refine WA_skip 5 (by kernel_rfl) rfl ?_
            refine WA_skip 6 (by kernel_rfl) rfl ?_
            refine WA_skip 7 (by kernel_rfl) rfl ?_
            refine WA_skip 8 (by kernel_rfl) rfl ?_
            refine WA_skip 9 (by kernel_rfl) rfl ?_
            refine WA_skip 10 (by kernel_rfl) rfl ?_
            refine WA_skip 11 (by kernel_rfl) rfl ?_
            refine WA_skip 12 (by kernel_rfl) rfl ?_
            refine WA_skip 13 (by kernel_rfl) rfl ?_
            refine WA_skip 14 (by kernel_rfl) rfl ?_
            refine WA_skip 15 (by kernel_rfl) rfl ?_
            refine WA_skip 16 (by kernel_rfl) rfl ?_
            refine WA_skip 17 (by kernel_rfl) rfl ?_
            refine WA_skip 18 (by kernel_rfl) rfl ?_
            refine WA_skip 19 (by kernel_rfl) rfl ?_
            refine WA_skip 20 (by kernel_rfl) rfl ?_
            refine WA_take 21 (by kernel_rfl) rfl (fun _ _ => rn_pick_f rfl) ?_
            refine WA_take 22 (by kernel_rfl) rfl (fun _ _ => rn_move) ?_
            refine WA_skip 23 (by kernel_rfl) rfl ?_
            refine WA_skip 24 (by kernel_rfl) rfl ?_
            refine WA_skip 26 (by kernel_rfl) rfl ?_
            refine WA_skip 27 (by kernel_rfl) rfl ?_
            refine WA_skip 25 (by kernel_rfl) rfl ?_
            refine WA_skip 28 (by kernel_rfl) rfl ?_
            refine WA_skip 29 (by kernel_rfl) rfl ?_
            refine WA_take 30 (by kernel_rfl) rfl (fun _ _ => rn_pick_f rfl) ?_
            refine WA_take 31 (by kernel_rfl) rfl (fun _ _ => rn_assign) ?_
            refine WA_done (by kernel_rfl) ?_
            refine blockN (thenN (W_region (WR_val rfl (rn_move) ?_)))
            refine WR_val rfl (rn_add rfl rfl (Coup.w64 (by omega))) ?_
            refine WR_val rfl (rn_assign) (WR_nil ?_)
            refine loopN ⟨(i + 1, false), by show m - (i + 1) < m - i; omega, ⟨by go_num, rfl, rfl, rfl, rfl, rfl, rfl, rfl⟩, by show i + 1 ≤ m; omega, ⟨fun h => (nomatch h), fun hh => ?_⟩, hR, hB⟩
            rw [hal.2 fun k hk => hh k (by omega)] at hat
            cases hat
          ·
           have him : i = m := by omega
           subst him
           have hls := like_same (D := E1) (O := F1) (al := al) (by rw [hEl, hFl]) (by rw [hEl]; exact hal)
           obtain ⟨hsd1, hsd2⟩ := hls
           refine W_exit (thenX (loopX (blockX (thenN (W_seq (W_region (WR_val rfl (rn_move) (WR_val rfl (rn_move) ?_))))))))
           refine WR_ent rfl (rn_call (by kernel_rfl) rfl) (same14q hR) ?_
           rintro _ w143 ⟨rfl, hb143⟩
           replace hR := hR.new hb143
           replace hB := hB.acc hb143
           refine WR_val rfl (rn_move) ?_
           refine WR_tb 144 rfl (rfl) ?_
           refine WR_yes rfl (WR_val rfl (rn_move) (WR_yes rfl (WR_val rfl (rn_move) (WR_yes rfl ?_))))
           refine WR_ent rfl (rn_call (by kernel_rfl) rfl) (same14q (swap4 hR)) ?_
           rintro _ w147 ⟨rfl, hb147⟩
           replace hR := hR.new hb147
           replace hB := hB.acc hb147
           refine WR_val rfl (rn_pick_t rfl) (WR_val rfl (rn_move) ?_)
           refine WR_tb 149 rfl (rfl) ?_
           refine WR_yes rfl (WR_val rfl (rn_move) (WR_yes rfl (WR_val rfl (rn_move) (WR_yes rfl ?_))))
           have hs1 := qSame hR
           rw [hsd1] at hs1
           refine WR_ent rfl (rn_call (by kernel_rfl) rfl) (hs1) ?_
           rintro _ w152 ⟨rfl, hb152⟩
           replace hR := hR.new hb152
           replace hB := hB.acc hb152
           refine WR_yes rfl (WR_val rfl (rn_move) (WR_yes rfl ?_))
           refine WR_val rfl (rn_eqlb (by kernel_rfl) rfl rfl) ?_
           refine WR_val rfl (rn_pick_t rfl) (WR_val rfl (rn_move) ?_)
           refine WR_tp 156 rfl ((by simp)) ?_
           refine WR_yes rfl (WR_val rfl (rn_move) (WR_yes rfl (WR_val rfl (rn_move) (WR_yes rfl ?_))))
           have hs2 := qSame (swap4 hR)
           rw [hsd2] at hs2
           refine WR_ent rfl (rn_call (by kernel_rfl) rfl) (hs2) ?_
           rintro _ w159 ⟨rfl, hb159⟩
           replace hR := hR.new hb159
           replace hB := hB.acc hb159
           refine WR_yes rfl (WR_val rfl (rn_move) (WR_yes rfl ?_))
           refine WR_val rfl (rn_eqlb (by kernel_rfl) rfl rfl) ?_
           refine WR_val rfl (rn_pick_t rfl) (WR_val rfl (rn_move) ?_)
           refine WR_tp 163 rfl ((by simp)) ?_
           refine WR_yes rfl ?_
           refine WR_ent rfl (rn_call (by kernel_rfl) rfl) (known10 w159) ?_
           rintro _ w164 ⟨rfl, hb164⟩
           replace hR := hR.new hb164
           replace hB := hB.acc hb164
           refine WR_val rfl (rn_pick_t rfl) (WR_val rfl (rn_assign) (WR_nil (thenN (W_ret ?_))))
           refine ret_ret [_] ⟨rfl, trivial⟩ ?_
           exact ⟨rfl, hB⟩
end Go.Proofs.Ytpndhildmfmcgaa
