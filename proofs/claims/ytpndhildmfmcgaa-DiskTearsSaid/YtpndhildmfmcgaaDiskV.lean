/- The law's acts, done by both; do both look the same; two that begin. -/
import Derived.Test.YtpndhildmfmcgaaDiskU
namespace Go.Proofs.Ytpndhildmfmcgaa
open Go Go.RowKit Coup

structure AcT where
  kind : Int
  at_ : Int
  n : Int
  s : Sec
  picks : List Int
def acC (a : AcT) (q : Option Addr) (cp : Nat) : List Value := .int .i64 a.kind :: .int .i64 a.at_ :: .int .i64 a.n :: (bv a.s ++ [.slice q a.picks.length cp])
theorem acC_len {a : AcT} {q : Option Addr} {cp : Nat} (hs : a.s.length = 128) : (acC a q cp).length = 132 := by
  simp only [acC, List.length_cons, List.length_append, bv_length, hs, List.length_nil]
set_option maxRecDepth 8000 in
theorem ld_acS {w : World} {g t : Nat} {a : AcT} {q : Option Addr} {cp : Nat} (hr : row w g (acC a q cp) t) (hs : a.s.length = 128) : Ld Try.prog w 34 ⟨g, 0 + 3, none⟩ (.agg (bv a.s).toArray) := by
  have h := Ld.rowN (P := Try.prog) (t := 34) (off := 0 + 3) (k := 128) hr (by kernel_rfl) (by kernel_rfl) (by rw [acC_len hs]; omega)
  have e : ((acC a q cp).drop (0 + 3)).take 128 = bv a.s := by
    show (bv a.s ++ [Value.slice q a.picks.length cp]).take 128 = bv a.s
    rw [List.take_left' (by rw [bv_length]; exact hs)]
  rwa [e] at h
set_option maxRecDepth 8000 in
theorem ld_acP {w : World} {g t : Nat} {a : AcT} {q : Option Addr} {cp : Nat} (hr : row w g (acC a q cp) t) (hs : a.s.length = 128) : Ld Try.prog w 35 ⟨g, 0 + 131, none⟩ (.slice q a.picks.length cp) := by
  refine Ld.row1 hr (by kernel_rfl) ?_
  show (bv a.s ++ [Value.slice q a.picks.length cp])[128]? = _
  rw [List.getElem?_append_right (by rw [bv_length]; omega), bv_length, hs]; rfl
def doD (D : Dk) (a : AcT) : Dk :=
  if a.kind = 1 then writeA D a.at_ a.s else if a.kind = 2 then flushD D else if a.kind = 3 then fuseA D a.n else if a.kind = 4 then crashD D a.picks else D
theorem inD_nat {D : Dk} {i : Int} (h : inD D i = true) : ∃ k : Nat, i = k ∧ k < D.V.length := by
  have := of_decide_eq_true h
  exact ⟨i.toNat, by omega, by omega⟩
theorem uWriteI {X : World → List Nat → Prop} [Thing X] {g lo : Nat} {L : List Nat} {D : Dk} {w : World} (h : Two X (RZ g D) lo L w) (i : Int) (s : Sec) (hi : inD D i = true) (hs : s.length = 128) (hsh : shortD D 90000) :
    Calls Try.prog 32 [.pointer (some ⟨g, 0, none⟩), .int .i64 i, .agg (bv s).toArray].toArray w (Ret fun v w' => v = .bool (stepOk D) ∧ Two X (RZ g (writeA D i s)) lo L w' ∧ LoL lo L w w') := by
  rw [writeA, hi, if_pos rfl]
  obtain ⟨k, rfl, hk⟩ := inD_nat hi
  exact uWrite h k s hk hs hsh
theorem uReadI {X : World → List Nat → Prop} {g lo : Nat} {L : List Nat} {D : Dk} {w : World} (h : Two X (RZ g D) lo L w) (i : Int) (hi : inD D i = true) :
    Calls Try.prog 26 [.pointer (some ⟨g, 0, none⟩), .int .i64 i].toArray w (Ret fun v w' => v = .agg (bv (readD D i.toNat)).toArray ∧ Below w.heap.size w w') := by
  obtain ⟨k, rfl, hk⟩ := inD_nat hi
  exact uRead h k hk
theorem errno31 (b : Bool) (w : World) : Calls Try.prog 31 [.bool b].toArray w (Ret fun v w' => v = .int .i64 (if b then 0 else 10) ∧ w = w') := by
  refine calls_W (fn := Try.f31) (rs := [.tmp 2]) (n := 4) Try.func31 rfl rfl Try.ntmps31 (by kernel_rfl) rfl ?_
  refine W_seq ?_
  refine W_region ?_
  refine WR_val rfl (rn_assign) ?_
  refine WR_nil ?_
  refine thenN ?_
  refine W_seq ?_
  refine W_seq ?_
  refine W_region ?_
  refine WR_val rfl (rn_move) ?_
  refine WR_nil ?_
  refine thenN ?_
  refine W_if rfl (fun hb => ?_) (fun hb => ?_)
  ·
    refine W_seq ?_
    refine W_region ?_
    refine WR_val rfl (rn_assign) ?_
    refine WR_nil ?_
    refine thenN ?_
    refine W_ret ?_
    refine thenR ?_
    refine ret_ret [_] ⟨rfl, trivial⟩ ?_
    exact ⟨by rw [hb]; rfl, rfl⟩
  ·
    refine W_skip ?_
    refine thenN ?_
    refine W_seq ?_
    refine W_region ?_
    refine WR_val rfl (rn_assign) ?_
    refine WR_nil ?_
    refine thenN ?_
    refine W_ret ?_
    refine ret_ret [_] ⟨rfl, trivial⟩ ?_
    exact ⟨by rw [hb]; rfl, rfl⟩
theorem int01 (b : Bool) : ((if b then (0 : Int) else 10) = 0) ↔ b = true := by cases b <;> simp
set_option maxRecDepth 8000 in
set_option maxHeartbeats 2000000 in
theorem do13 {g h lo : Nat} {L : List Nat} {D : Dk} {w : World} (hD : Two (DZ g D) (RZ h D) lo L w) (a : AcT) (q : Option Addr) (cp : Nat) (hs : a.s.length = 128) (hn : a.n ≤ 9223372036854775807) (hq : SlAt w q a.picks.length 1 (iv a.picks))
    (hqb : 0 < a.picks.length → ∀ b o, q = some ⟨b, o, none⟩ → b < lo ∨ b ∈ L) (hsh : shortD D 90000) :
    Calls Try.prog 13 [.pointer (some ⟨g, 0, none⟩), .pointer (some ⟨h, 0, none⟩), .agg (acC a q cp).toArray].toArray w (Ret fun v w' => v = .bool true ∧ Two (DZ g (doD D a)) (RZ h (doD D a)) lo L w' ∧ LoL lo L w w') := by
  have hLL := LoL.refl lo L w
  have hacl := acC_len (q := q) (cp := cp) hs
  have hsl : (bv a.s).length = 128 := by rw [bv_length]; exact hs
  obtain ⟨Z, hzz, hzb, hzl⟩ := zeroSQ
  refine calls_W (fn := Try.f13) (rs := [.tmp 6]) (n := 105) Try.func13 rfl rfl Try.ntmps13 (by kernel_rfl) rfl ?_
  refine W_seq ?_
  refine W_region ?_
  refine WR_mk rfl (mk_box ((acC a q cp)) rfl (fun g5 w5 hg5 hr5 hb5 => ?_))
  replace hD := hD.newc hb5 hg5 hr5.lt
  replace hLL := hLL.new hb5
  refine WR_val rfl (rn_assign) ?_
  refine WR_nil ?_
  refine thenN ?_
  refine W_seq ?_
  refine W_seq ?_
  refine W_region ?_
  refine WR_val rfl (rn_fieldAddr (off := 0) (by kernel_rfl) rfl) ?_
  refine WR_val rfl (rn_load rfl (Ld.row1 hr5 (by kernel_rfl) rfl)) ?_
  refine WR_nil ?_
  refine thenN ?_
  refine W_block ?_
  refine W_seq ?_
  refine W_region ?_
  refine WR_val rfl (rn_eql rfl rfl) ?_
  refine WR_val rfl (rn_assign) ?_
  refine WR_nil ?_
  refine thenN ?_
  refine W_ifp rfl (fun hk1 => ?_) (fun hk1 => ?_)
  ·
    refine W_seq ?_
    refine W_region ?_
    refine WR_val rfl (rn_move) ?_
    refine WR_val rfl (rn_fieldAddr (off := 1) (by kernel_rfl) rfl) ?_
    refine WR_val rfl (rn_load rfl (Ld.row1 hr5 (by kernel_rfl) rfl)) ?_
    refine WR_val rfl (rn_fieldAddr (off := 3) (by kernel_rfl) rfl) ?_
    refine WR_val rfl (rn_load rfl (ld_acS hr5 hs)) ?_
    refine WR_ent rfl (rn_call (by kernel_rfl) rfl) (tWrite hD a.at_ a.s hs hsh) ?_
    rintro _ w20 ⟨rfl, hD, hb20⟩
    replace hLL := hLL.ll hb20 (by first | (intro b hb; exact hb) | (intro b hb; simp [hb]; done) | simp)
    replace hr5 := hr5.kpd hb20.kp (by first | (refine notLL ?_; left; omega) | (refine notLL ?_; right; simp; done) | (intro b o e; cases e; first | (refine notLL ?_; left; omega) | (refine notLL ?_; right; simp; done)) | (intro b hb; refine notLL ?_; left; omega))
    refine WR_val rfl (rn_assign) ?_
    refine WR_nil ?_
    refine thenN ?_
    refine W_seq ?_
    refine W_seq ?_
    refine W_region ?_
    refine WR_val rfl (rn_move) ?_
    refine WR_val rfl (rn_fieldAddr (off := 1) (by kernel_rfl) rfl) ?_
    refine WR_val rfl (rn_load rfl (Ld.row1 hr5 (by kernel_rfl) rfl)) ?_
    refine WR_ent rfl (rn_call (by kernel_rfl) rfl) (uIn hD a.at_) ?_
    rintro _ _ ⟨rfl, rfl⟩
    refine WR_val rfl (rn_not rfl) ?_
    refine WR_nil ?_
    refine thenN ?_
    refine W_ifnb rfl (fun hin => ?_) (fun hin => ?_)
    ·
      refine W_seq ?_
      refine W_region ?_
      refine WR_val rfl (rn_move) ?_
      refine WR_val rfl (rn_eql rfl rfl) ?_
      refine WR_val rfl (rn_assign) ?_
      refine WR_nil ?_
      refine thenN ?_
      refine W_ret ?_
      refine thenR ?_
      refine blockR ?_
      refine thenR ?_
      refine ret_ret [_] ⟨rfl, trivial⟩ ?_
      have e : doD D a = writeA D a.at_ a.s := by rw [doD, if_pos hk1]
      have e2 : writeA D a.at_ a.s = D := by rw [writeA, hin]; rfl
      rw [e, e2]
      rw [e2] at hD
      refine ⟨?_, hD.weak (fun b hb => List.mem_cons_of_mem _ hb), hLL⟩
      show Value.bool (decide (writeE D a.at_ = 2)) = _
      rw [writeE, hin]; rfl
    ·
      refine W_skip ?_
      refine thenN ?_
      refine W_seq ?_
      refine W_region ?_
      refine WR_val rfl (rn_move) ?_
      refine WR_val rfl (rn_move) ?_
      refine WR_val rfl (rn_fieldAddr (off := 1) (by kernel_rfl) rfl) ?_
      refine WR_val rfl (rn_load rfl (Ld.row1 hr5 (by kernel_rfl) rfl)) ?_
      refine WR_val rfl (rn_fieldAddr (off := 3) (by kernel_rfl) rfl) ?_
      refine WR_val rfl (rn_load rfl (ld_acS hr5 hs)) ?_
      refine WR_ent rfl (rn_call (by kernel_rfl) rfl) (uWriteI hD a.at_ a.s hin hs hsh) ?_
      rintro _ w34 ⟨rfl, hD, hb34⟩
      replace hLL := hLL.ll hb34 (by first | (intro b hb; exact hb) | (intro b hb; simp [hb]; done) | simp)
      replace hr5 := hr5.kpd hb34.kp (by first | (refine notLL ?_; left; omega) | (refine notLL ?_; right; simp; done) | (intro b o e; cases e; first | (refine notLL ?_; left; omega) | (refine notLL ?_; right; simp; done)) | (intro b hb; refine notLL ?_; left; omega))
      refine WR_ent rfl (rn_call (by kernel_rfl) rfl) (errno31 _ w34) ?_
      rintro _ _ ⟨rfl, rfl⟩
      refine WR_val rfl (rn_eql rfl rfl) ?_
      refine WR_val rfl (rn_assign) ?_
      refine WR_nil ?_
      refine thenN ?_
      refine W_ret ?_
      refine blockR ?_
      refine thenR ?_
      refine ret_ret [_] ⟨rfl, trivial⟩ ?_
      have e : doD D a = writeA D a.at_ a.s := by rw [doD, if_pos hk1]
      rw [e]
      refine ⟨?_, hD.weak (fun b hb => List.mem_cons_of_mem _ hb), hLL⟩
      show Value.bool (decide (writeE D a.at_ = _)) = _
      rw [writeE, hin, if_pos rfl, decide_eq_true rfl]
  ·
    refine W_seq ?_
    refine W_region ?_
    refine WR_val rfl (rn_eql rfl rfl) ?_
    refine WR_val rfl (rn_assign) ?_
    refine WR_nil ?_
    refine thenN ?_
    refine W_ifp rfl (fun hk2 => ?_) (fun hk2 => ?_)
    ·
      refine W_seq ?_
      refine W_region ?_
      refine WR_val rfl (rn_move) ?_
      refine WR_ent rfl (rn_call (by kernel_rfl) rfl) (tFlush hD) ?_
      rintro _ w40 ⟨rfl, hD, hb40⟩
      replace hLL := hLL.ll hb40 (by first | (intro b hb; exact hb) | (intro b hb; simp [hb]; done) | simp)
      replace hr5 := hr5.kpd hb40.kp (by first | (refine notLL ?_; left; omega) | (refine notLL ?_; right; simp; done) | (intro b o e; cases e; first | (refine notLL ?_; left; omega) | (refine notLL ?_; right; simp; done)) | (intro b hb; refine notLL ?_; left; omega))
      refine WR_val rfl (rn_move) ?_
      refine WR_ent rfl (rn_call (by kernel_rfl) rfl) (uFlush hD) ?_
      rintro _ w42 ⟨rfl, hD, hb42⟩
      replace hLL := hLL.ll hb42 (by first | (intro b hb; exact hb) | (intro b hb; simp [hb]; done) | simp)
      replace hr5 := hr5.kpd hb42.kp (by first | (refine notLL ?_; left; omega) | (refine notLL ?_; right; simp; done) | (intro b o e; cases e; first | (refine notLL ?_; left; omega) | (refine notLL ?_; right; simp; done)) | (intro b hb; refine notLL ?_; left; omega))
      refine WR_ent rfl (rn_call (by kernel_rfl) rfl) (errno31 _ w42) ?_
      rintro _ _ ⟨rfl, rfl⟩
      refine WR_val rfl (rn_eql rfl rfl) ?_
      refine WR_val rfl (rn_assign) ?_
      refine WR_nil ?_
      refine thenN ?_
      refine W_ret ?_
      refine blockR ?_
      refine thenR ?_
      refine ret_ret [_] ⟨rfl, trivial⟩ ?_
      have e : doD D a = flushD D := by rw [doD, if_neg hk1, if_pos hk2]
      rw [e]
      refine ⟨?_, hD.weak (fun b hb => List.mem_cons_of_mem _ hb), hLL⟩
      show Value.bool (decide (_ = _)) = _
      rw [decide_eq_true rfl]
    ·
      refine W_seq ?_
      refine W_region ?_
      refine WR_val rfl (rn_eql rfl rfl) ?_
      refine WR_val rfl (rn_assign) ?_
      refine WR_nil ?_
      refine thenN ?_
      refine W_ifp rfl (fun hk3 => ?_) (fun hk3 => ?_)
      ·
        refine W_seq ?_
        refine W_region ?_
        refine WR_val rfl (rn_move) ?_
        refine WR_val rfl (rn_fieldAddr (off := 2) (by kernel_rfl) rfl) ?_
        refine WR_val rfl (rn_load rfl (Ld.row1 hr5 (by kernel_rfl) rfl)) ?_
        refine WR_ent rfl (rn_call (by kernel_rfl) rfl) (tFuse hD a.n hn) ?_
        rintro _ w50 ⟨rfl, hD, hb50⟩
        replace hLL := hLL.ll hb50 (by first | (intro b hb; exact hb) | (intro b hb; simp [hb]; done) | simp)
        replace hr5 := hr5.kpd hb50.kp (by first | (refine notLL ?_; left; omega) | (refine notLL ?_; right; simp; done) | (intro b o e; cases e; first | (refine notLL ?_; left; omega) | (refine notLL ?_; right; simp; done)) | (intro b hb; refine notLL ?_; left; omega))
        refine WR_val rfl (rn_assign) ?_
        refine WR_nil ?_
        refine thenN ?_
        refine W_seq ?_
        refine W_seq ?_
        refine W_region ?_
        refine WR_val rfl (rn_fieldAddr (off := 2) (by kernel_rfl) rfl) ?_
        refine WR_val rfl (rn_load rfl (Ld.row1 hr5 (by kernel_rfl) rfl)) ?_
        refine WR_val rfl (rn_lss rfl rfl) ?_
        refine WR_nil ?_
        refine thenN ?_
        refine W_ifp rfl (fun hneg => ?_) (fun hneg => ?_)
        ·
          refine W_seq ?_
          refine W_region ?_
          refine WR_val rfl (rn_move) ?_
          refine WR_val rfl (rn_eql rfl rfl) ?_
          refine WR_val rfl (rn_assign) ?_
          refine WR_nil ?_
          refine thenN ?_
          refine W_ret ?_
          refine thenR ?_
          refine blockR ?_
          refine thenR ?_
          refine ret_ret [_] ⟨rfl, trivial⟩ ?_
          have e : doD D a = fuseA D a.n := by rw [doD, if_neg hk1, if_neg hk2, if_pos hk3]
          have e2 : fuseA D a.n = D := by rw [fuseA, if_neg (by omega)]
          rw [e, e2]
          rw [e2] at hD
          refine ⟨?_, hD.weak (fun b hb => List.mem_cons_of_mem _ hb), hLL⟩
          show Value.bool (decide ((if 0 ≤ a.n then (0 : Int) else 2) = 2)) = _
          rw [if_neg (by omega)]; rfl
        ·
          have e : doD D a = fuseA D a.n := by rw [doD, if_neg hk1, if_neg hk2, if_pos hk3]
          have hobt := uRow hD
          obtain ⟨pv, ov, cv, hrh⟩ := hobt
          have hrh0 := hrh
          have hLL0 := hLL
          refine W_skip ?_
          refine thenN ?_
          refine W_seq ?_
          refine W_region ?_
          refine WR_val rfl (rn_move) ?_
          refine WR_val rfl (rn_fieldAddr (off := 2) (by kernel_rfl) rfl) ?_
          refine WR_val rfl (rn_load rfl (Ld.row1 hr5 (by kernel_rfl) rfl)) ?_
          refine WR_val rfl (rn_nilCheckP rfl) ?_
          refine WR_val rfl (rn_fieldAddr (off := 1) (by kernel_rfl) rfl) ?_
          have hDs := hD
          have hLs := hLL0
          refine WR_sk rfl (sk_store1 rfl rfl rfl rfl hrh (by kernel_rfl) (by first | (simp only [List.length_replicate]; omega) | (simp only [iv_length]; omega) | (simp only [bv_length, List.length_set]; omega) | simp) (fun w901 hrh ho901 => ?_))
          refine WR_nil ?_
          refine thenN ?_
          refine W_seq ?_
          refine W_region ?_
          refine WR_val rfl (rn_move) ?_
          refine WR_val rfl (rn_eql rfl rfl) ?_
          refine WR_val rfl (rn_assign) ?_
          refine WR_nil ?_
          refine thenN ?_
          refine W_ret ?_
          refine blockR ?_
          refine thenR ?_
          refine ret_ret [_] ⟨rfl, trivial⟩ ?_
          have hu := uLeft hDs hrh0 hrh ho901 ⟨by omega, hn⟩
          rw [e]
          refine ⟨?_, ?_, hLL0.ll hu.2 (fun b hb => List.mem_cons_of_mem _ hb)⟩
          · show Value.bool (decide ((if 0 ≤ a.n then (0 : Int) else 2) = 0)) = _
            rw [if_pos (by omega)]; rfl
          · exact hu.1.weak (fun b hb => List.mem_cons_of_mem _ hb)
      ·
        refine W_seq ?_
        refine W_region ?_
        refine WR_val rfl (rn_eql rfl rfl) ?_
        refine WR_val rfl (rn_assign) ?_
        refine WR_nil ?_
        refine thenN ?_
        refine W_ifp rfl (fun hk4 => ?_) (fun hk4 => ?_)
        ·
          refine W_seq ?_
          refine W_region ?_
          refine WR_val rfl (rn_move) ?_
          refine WR_val rfl (rn_fieldAddr (off := 131) (by kernel_rfl) rfl) ?_
          refine WR_val rfl (rn_load rfl (ld_acP hr5 hs)) ?_
          have hq1 := hq.kpd0 hLL.kp (fun h0 b o e => notLL (hqb h0 b o e))
          have hq2 : 0 < a.picks.length → ∀ b o, q = some ⟨b, o, none⟩ → b < lo ∨ b ∈ g5 :: L := fun h0 b o e => (hqb h0 b o e).imp id (List.mem_cons_of_mem _)
          refine WR_ent rfl (rn_call (by kernel_rfl) rfl) (uCrash hD _ _ _ _ hq1 hq2) ?_
          rintro _ w68 ⟨_, hD, hb68⟩
          replace hLL := hLL.ll hb68 (by first | (intro b hb; exact hb) | (intro b hb; simp [hb]; done) | simp)
          replace hr5 := hr5.kpd hb68.kp (by first | (refine notLL ?_; left; omega) | (refine notLL ?_; right; simp; done) | (intro b o e; cases e; first | (refine notLL ?_; left; omega) | (refine notLL ?_; right; simp; done)) | (intro b hb; refine notLL ?_; left; omega))
          refine WR_nil ?_
          refine thenN ?_
          refine W_seq ?_
          refine W_region ?_
          refine WR_val rfl (rn_move) ?_
          refine WR_val rfl (rn_fieldAddr (off := 131) (by kernel_rfl) rfl) ?_
          refine WR_val rfl (rn_load rfl (ld_acP hr5 hs)) ?_
          have hq1 := hq.kpd0 hLL.kp (fun h0 b o e => notLL (hqb h0 b o e))
          refine WR_ent rfl (rn_call (by kernel_rfl) rfl) (tCrash hD _ _ _ _ hq1 hq2) ?_
          rintro _ w72 ⟨rfl, hD, hb72⟩
          replace hLL := hLL.ll hb72 (by first | (intro b hb; exact hb) | (intro b hb; simp [hb]; done) | simp)
          replace hr5 := hr5.kpd hb72.kp (by first | (refine notLL ?_; left; omega) | (refine notLL ?_; right; simp; done) | (intro b o e; cases e; first | (refine notLL ?_; left; omega) | (refine notLL ?_; right; simp; done)) | (intro b hb; refine notLL ?_; left; omega))
          refine WR_val rfl (rn_eql rfl rfl) ?_
          refine WR_val rfl (rn_assign) ?_
          refine WR_nil ?_
          refine thenN ?_
          refine W_ret ?_
          refine blockR ?_
          refine thenR ?_
          refine ret_ret [_] ⟨rfl, trivial⟩ ?_
          have e : doD D a = crashD D a.picks := by rw [doD, if_neg hk1, if_neg hk2, if_neg hk3, if_pos hk4]
          rw [e]
          exact ⟨rfl, hD.weak (fun b hb => List.mem_cons_of_mem _ hb), hLL⟩
        ·
          have e : doD D a = D := by rw [doD, if_neg hk1, if_neg hk2, if_neg hk3, if_neg hk4]
          rw [e]
          have hobt : ∃ R, (if inD D a.at_ then readD D a.at_.toNat else zeroS) = R := ⟨_, rfl⟩
          obtain ⟨R, hR⟩ := hobt
          have hRl : (bv R).length = 128 := by
            rw [bv_length, ← hR]
            split
            · rename_i hin
              have hobt := inD_nat hin
              obtain ⟨k, hk, hkl⟩ := hobt
              rw [hk, Int.toNat_natCast]
              exact lastS_ok (ver_ok (tOk hD).1 hkl).2.1
            · rw [zeroS, List.length_replicate]
          refine W_seq ?_
          refine W_region ?_
          refine WR_val rfl (rn_eql rfl rfl) ?_
          refine WR_val rfl (rn_assign) ?_
          refine WR_nil ?_
          refine thenN ?_
          refine W_ifp rfl (fun hk5 => ?_) (fun hk5 => ?_)
          ·
            refine W_seq ?_
            refine W_region ?_
            refine WR_val rfl (rn_move) ?_
            refine WR_val rfl (rn_fieldAddr (off := 1) (by kernel_rfl) rfl) ?_
            refine WR_val rfl (rn_load rfl (Ld.row1 hr5 (by kernel_rfl) rfl)) ?_
            have htr := tRead hD a.at_
            rw [hR] at htr
            refine WR_ent rfl (rn_call (by kernel_rfl) rfl) (htr) ?_
            rintro _ w80 ⟨rfl, hb80⟩
            replace hD := hD.new hb80
            replace hLL := hLL.new hb80
            replace hr5 := hr5.new hb80
            refine WR_val rfl (rn_move) ?_
            refine WR_val rfl (rn_extract rfl rfl) ?_
            refine WR_val rfl (rn_extract rfl rfl) ?_
            refine WR_mk rfl (mk_alloc (List.replicate 128 (Value.int .u8 0)) (by kernel_rfl) (fun g9 w9 hg9 hr9 hb9 => ?_))
            have lt_g5_g9 : g5 < g9 := Nat.lt_of_lt_of_le hr5.lt hg9
            replace hD := hD.newc hb9 hg9 hr9.lt
            replace hLL := hLL.new hb9
            replace hr5 := hr5.new hb9
            rw [hzb] at hr9
            refine WR_sk rfl (sk_storeA 128 (bv R) rfl rfl hr9 (by kernel_rfl) (by first | assumption | (simp; done) | (simp [bv_length, *]; done)) (by first | assumption | (simp; done) | (simp [bv_length, *]; done) | rfl) (by first | exact bv_one _ | assumption | (simp [Value.oneCell']; done)) (fun w902 hr9 ho902 => ?_))
            replace hD := hD.only ho902 (by first | (right; simp; done) | (left; omega))
            replace hLL := hLL.only ho902 (by omega)
            replace hr5 := hr5.only ho902 (Nat.ne_of_lt lt_g5_g9)
            refine WR_val rfl (rn_assign) ?_
            refine WR_nil ?_
            refine thenN ?_
            refine W_seq ?_
            refine W_seq ?_
            refine W_region ?_
            refine WR_val rfl (rn_move) ?_
            refine WR_val rfl (rn_fieldAddr (off := 1) (by kernel_rfl) rfl) ?_
            refine WR_val rfl (rn_load rfl (Ld.row1 hr5 (by kernel_rfl) rfl)) ?_
            refine WR_ent rfl (rn_call (by kernel_rfl) rfl) (uIn hD a.at_) ?_
            rintro _ _ ⟨rfl, rfl⟩
            refine WR_val rfl (rn_not rfl) ?_
            refine WR_nil ?_
            refine thenN ?_
            refine W_ifnb rfl (fun hin => ?_) (fun hin => ?_)
            ·
              refine W_seq ?_
              refine W_region ?_
              refine WR_val rfl (rn_move) ?_
              refine WR_val rfl (rn_eql rfl rfl) ?_
              refine WR_val rfl (rn_move) ?_
              refine WR_tp 90 rfl ((by rw [hin]; rfl)) ?_
              refine WR_yes rfl ?_
              refine WR_val rfl (rn_load rfl (Ld.rowA (k := 128) hr9 (by kernel_rfl) (by kernel_rfl) (by first | (simp; done) | (simp [bv_length, *]; done) | assumption))) ?_
              refine WR_yes rfl ?_
              refine WR_val rfl (rn_zeroed (bv Z) (by rw [← hzb]; kernel_rfl)) ?_
              refine WR_yes rfl ?_
              refine WR_val rfl (rn_eqlA (n := 128) (by kernel_rfl) rfl rfl (by rw [← bv_length]; exact hRl) (by rw [← bv_length]; exact hzl)) ?_
              refine WR_val rfl (rn_pick_t rfl) ?_
              refine WR_val rfl (rn_assign) ?_
              refine WR_nil ?_
              refine thenN ?_
              refine W_ret ?_
              refine thenR ?_
              refine blockR ?_
              refine thenR ?_
              refine ret_ret [_] ⟨rfl, trivial⟩ ?_
              have hRZ : R = Z := by rw [← hR, hin, ← hzz]; rfl
              refine ⟨?_, hD.weak (fun b hb => List.mem_cons_of_mem _ (List.mem_cons_of_mem _ hb)), hLL⟩
              show Value.bool (decide (R = Z)) = _
              rw [decide_eq_true hRZ]
            ·
              have hRe : readD D a.at_.toNat = R := by rw [← hR, hin]; rfl
              refine W_skip ?_
              refine thenN ?_
              refine W_seq ?_
              refine W_draw' [] (by kernel_rfl) ?_
              intro w903 hb903 hS903
              replace hD := hD.new hb903
              replace hLL := hLL.new hb903
              replace hr5 := hr5.new hb903
              replace hr9 := hr9.new hb903
              have hD_d903 := hD
              have hLL_d903 := hLL
              have hr5_d903 := hr5
              have hr9_d903 := hr9
              refine WA_take 0 (by kernel_rfl) rfl (fun _ _ => rn_move) ?_
              refine WA_take 1 (by kernel_rfl) rfl (fun _ _ => rn_eql rfl rfl) ?_
              refine WA_take 2 (by kernel_rfl) rfl (fun _ _ => rn_move) ?_
              refine WA_tp 97 rfl ((by rw [hin]; rfl)) ?_
              refine WA_take 3 (by kernel_rfl) rfl (fun w' hS' => rn_load rfl (Ld.rowA (k := 128) (hr9_d903.kpd hS' (by first | (simp; done) | (simp; omega) | (simp [*]; done) | exact notLL (Or.inl (by omega)) | exact notLL (Or.inr (by simp)) | exact fun g hm => Nat.le_trans (by omega) (inLL hm).1 | (intro b o e; cases e; exact notLL (Or.inl (by omega))))) (by kernel_rfl) (by kernel_rfl) (by first | (simp; done) | (simp [bv_length, *]; done) | assumption))) ?_
              refine WA_take 4 (by kernel_rfl) rfl (fun _ _ => rn_move) ?_
              refine WA_take 5 (by kernel_rfl) rfl (fun _ _ => rn_fieldAddr (off := 1) (by kernel_rfl) rfl) ?_
              refine WA_take 6 (by kernel_rfl) rfl (fun w' hS' => rn_load rfl (Ld.row1 (hr5_d903.kpd hS' (by first | (simp; done) | (simp; omega) | (simp [*]; done) | exact notLL (Or.inl (by omega)) | exact notLL (Or.inr (by simp)) | exact fun g hm => Nat.le_trans (by omega) (inLL hm).1 | (intro b o e; cases e; exact notLL (Or.inl (by omega))))) (by kernel_rfl) rfl)) ?_
              refine WA_one 7 (by kernel_rfl) ?_
              have hur := uReadI hD a.at_ hin
              rw [hRe] at hur
              refine WO_ent rfl rfl (rn_call (by kernel_rfl) rfl) (hur) ?_
              rintro _ w102 ⟨rfl, hb102⟩
              have hS904 := hS903.add0 hb102
              refine ⟨hS904, ?_⟩
              replace hD := hD.new hb102
              replace hLL := hLL.new hb102
              replace hr5 := hr5.new hb102
              replace hr9 := hr9.new hb102
              refine WA_take 8 (by kernel_rfl) rfl (fun _ _ => rn_eqlA (n := 128) (by kernel_rfl) rfl rfl (by rw [← bv_length]; exact hRl) (by rw [← bv_length]; exact hRl)) ?_
              refine WA_take 9 (by kernel_rfl) rfl (fun _ _ => rn_pick_t rfl) ?_
              refine WA_take 10 (by kernel_rfl) rfl (fun _ _ => rn_assign) ?_
              refine WA_done (by kernel_rfl) ?_
              refine thenN ?_
              refine W_ret ?_
              refine blockR ?_
              refine thenR ?_
              refine ret_ret [_] ⟨rfl, trivial⟩ ?_
              refine ⟨?_, hD.weak (fun b hb => List.mem_cons_of_mem _ (List.mem_cons_of_mem _ hb)), hLL⟩
              show Value.bool (decide (R = R)) = _
              rw [decide_eq_true rfl]
          ·
            refine W_skip ?_
            refine blockN ?_
            refine thenN ?_
            refine W_seq ?_
            refine W_region ?_
            refine WR_val rfl (rn_assign) ?_
            refine WR_nil ?_
            refine thenN ?_
            refine W_ret ?_
            refine ret_ret [_] ⟨rfl, trivial⟩ ?_
            exact ⟨rfl, hD.weak (fun b hb => List.mem_cons_of_mem _ hb), hLL⟩
end Go.Proofs.Ytpndhildmfmcgaa
