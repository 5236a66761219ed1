/- The least sample: what the loop of SampleSize walks through. -/
import Derived.Test.YtkomdiblopdfiaaPolK
import Derived.Test.YtkomdiblopdfiaaPolJ
namespace Go.Proofs.Ytkomdiblopdfiaa
open Go.RowKit Go.Suf
set_option linter.unusedVariables false
set_option linter.unusedSimpArgs false

/-- The state after k observations of 2. -/
def qN (bet : Int) (k : Nat) : PV := ⟨bet, 0, 0, (k : Int), limbs (levN bet k), limbs (levN bet k)⟩

theorem betOk_get {bet : Int} (h : betOk bet = true) : 1 ≤ bet ∧ bet ≤ 999 := of_decide_eq_true h

theorem levN_lo {bet : Int} (h1 : 1 ≤ bet) : ∀ k, oneN ≤ levN bet k
  | 0 => Nat.le_refl _
  | k + 1 => Nat.le_trans (levN_lo h1 k) (levN_up h1 k)

theorem qN_vld {bet : Int} (h : 1 ≤ bet ∧ bet ≤ 999) {k : Nat} (hk : k ≤ 1000000) : Vld (qN bet k) (levN bet k) (levN bet k) :=
  ⟨h, by show inS 0; decide, by show inS 0; decide, by unfold inS; exact ⟨Int.natCast_nonneg _, by show (k : Int) ≤ 1000000; omega⟩, rfl, rfl, Nat.le_refl _, levN_lo h.1 k, levN_le bet k⟩

theorem qN_step {bet : Int} (h : 1 ≤ bet ∧ bet ≤ 999) (k : Nat) : step (qN bet k) 2 = qN bet (k + 1) := by
  have u := levN_up h.1 k
  show (⟨bet, 0, 0, (k : Int) + 1, limbs (timesN (val (limbs (levN bet k))) (factN bet 2) 1000), limbs (max (val (limbs (levN bet k))) (timesN (val (limbs (levN bet k))) (factN bet 2) 1000))⟩ : PV) = ⟨bet, 0, 0, ((k + 1 : Nat) : Int), limbs (levN bet (k + 1)), limbs (levN bet (k + 1))⟩
  rw [val_limbs, show timesN (levN bet k) (factN bet 2) 1000 = levN bet (k + 1) from rfl, Nat.max_eq_right u, Int.natCast_succ]

theorem qN_obs {bet : Int} (h : 1 ≤ bet ∧ bet ≤ 999) {k : Nat} (hk : k < 1000000) : obsC (qN bet k) [2] = (qN bet (k + 1), 0) := by
  refine obsC_some (qN_vld h (Nat.le_of_lt hk)).chk ?_
  show (obs1 (qN bet k) 2).bind some = _
  rw [obs1_in (by
    intro hh
    rcases hh with hh | hh | hh
    · exact absurd hh (by decide)
    · exact absurd hh (by decide)
    · have : (1000000 : Int) ≤ (k : Int) := hh
      omega), qN_step h]
  rfl

theorem new_qN {bet : Int} (h : betOk bet = true) : newC bet = (qN bet 0, 0) := by
  unfold newC
  rw [if_pos h, ← one_limbs]
  rfl

theorem new_not {bet : Int} (h : ¬ betOk bet = true) : newC bet = (zeroP, 2) := by
  unfold newC
  rw [if_neg h]

theorem qN_pw {bet : Int} (h : 1 ≤ bet ∧ bet ≤ 999) {k : Nat} (hk : k ≤ 1000000) : PW (qN bet k) :=
  ⟨by show wide64 bet; unfold wide64; omega, by show wide64 0; unfold wide64; omega, by show wide64 0; unfold wide64; omega, by show wide64 (k : Int); unfold wide64; omega⟩

theorem sizeC_bet {bet : Int} {x : QV} (h : ¬ betOk bet = true) : sizeC bet x = (0, 2) := by unfold sizeC; rw [if_neg h]
theorem sizeC_lim {bet : Int} {x : QV} (h : betOk bet = true) (h2 : limC x ≠ 0) : sizeC bet x = (0, limC x) := by unfold sizeC; rw [if_pos h, if_neg h2]
theorem sizeC_ok {bet : Int} {x : QV} (h : betOk bet = true) (h2 : limC x = 0) : sizeC bet x = seekN bet (val x.num) (val x.den) 4097 0 := by unfold sizeC; rw [if_pos h, if_pos h2]

theorem seek_yes {bet : Int} {N D f k : Nat} (h : sureN (levN bet k) N D = true) : seekN bet N D (f + 1) k = ((k : Int), 0) := by
  show (if sureN (levN bet k) N D = true then _ else _) = _
  rw [if_pos h]
theorem seek_no {bet : Int} {N D f k : Nat} (h : ¬ sureN (levN bet k) N D = true) : seekN bet N D (f + 1) k = seekN bet N D f (k + 1) := by
  show (if sureN (levN bet k) N D = true then _ else _) = _
  rw [if_neg h]

/-- One integer that was laid. -/
theorem rdI_one (w : World) (x : Int) (h : wide64 x) : RdI (w.alloc (.cells #[.int .i64 x] 3)) (some ⟨w.heap.size, 0, none⟩) 1 1 [x] := by
  refine ⟨rfl, ⟨by simp [intsV], by decide, fun e => by simp at e, fun i v hv => ⟨w.heap.size, 0, rfl, ?_⟩, intsV_one _⟩, fun y hy => by simp at hy; subst hy; exact h⟩
  rcases i with _ | i
  · simp [intsV] at hv
    subst hv
    exact rat_cell w _ _ 0 _ rfl
  · simp [intsV] at hv

def RetII (w : World) (r : Int × Int) : Ending → World → Prop := fun e w' => e = .returned (.tuple #[.int .i64 r.1, .int .i64 r.2]) ∧ Below w.heap.size w w'

/-- What holds in front of the k-th test of SampleSize: the state lies in block G. -/
def SzI (w0 wr : World) (G : Nat) (bet : Int) (k : Nat) : Prop :=
  ∃ a n c b m d, PRow 25 w0 wr G (polC (qN bet k) a n c b m d) ∧ Rd .u32 wr a n c (limbs (levN bet k)) ∧ Rd .u32 wr b m d (limbs (levN bet k))

set_option maxRecDepth 100000 in
set_option maxHeartbeats 4000000 in
theorem sampleSize_any (w : World) (bet : Int) {g : Bool} {a b : Option Addr} {n m c d : Nat} {xs ys : List Nat} (h1 : Rd .u32 w a n c xs) (h2 : Rd .u32 w b m d ys) :
    Calls Try.prog 12 #[.int .i64 bet, ratV g a n c b m d] w (RetIEB w (sizeC bet ⟨g, xs, ys⟩)) := by
  obtain ⟨r, hr⟩ : ∃ r, r = sizeC bet ⟨g, xs, ys⟩ := ⟨_, rfl⟩
  rw [← hr]
  have L1 := Has.new w #[.bool g, .slice a n c, .slice b m d] 33
  by_cases hb : betOk bet = true
  case neg =>
    have e := Lib.hid (show r = (0, 2) by rw [hr]; exact sizeC_bet hb)
    have N := Lib.hid (new_not hb)
    clear hr hb
    go_enter Try.func12, Try.ntmps12
    go_wp2_with fail
    have cc := new_any (w.alloc (.cells #[.bool g, .slice a n c, .slice b m d] 33)) bet
    rw [N.out] at cc
    refine cc.mono ?_
    rintro e1 w1 ⟨a1, n1, c1, b1, m1, d1, rfl, x1, x2, hb⟩
    clear cc
    have L1 := L1.later hb
    go_wp2_with (refine wpList_store_new rfl 25 _ _ rfl atPol _ _ _ rfl rfl rfl rfl (pol_one zeroP _ _ _ _ _ _) ?_)
    go_ret2
    exact ⟨by rw [e.out]; rfl, L1.below.trans ((below_al w1 _).mono L1.below.size)⟩
  case pos =>
  have bt := Lib.hid (betOk_get hb)
  have N := Lib.hid (new_qN hb)
  have HB := Lib.hid hb
  by_cases hl : limC ⟨g, xs, ys⟩ = 0
  case neg =>
    obtain ⟨s, hs⟩ : ∃ s, s = limC ⟨g, xs, ys⟩ := ⟨_, rfl⟩
    have e := Lib.hid (show r = (0, s) by rw [hr, hs]; exact sizeC_lim hb hl)
    have HS := Lib.hid hs
    rw [← hs] at hl
    have d1 : (s != 0) = true := by rw [bne_iff_ne]; exact hl
    clear hr hb hl hs
    go_enter Try.func12, Try.ntmps12
    go_wp2_with fail
    have cc := new_any (w.alloc (.cells #[.bool g, .slice a n c, .slice b m d] 33)) bet
    rw [N.out] at cc
    refine cc.mono ?_
    rintro e1 w1 ⟨a1, n1, c1, b1, m1, d1, rfl, x1, x2, hb⟩
    clear cc
    have L1 := (L1.later hb).later (below_al w1 (.cells (polC (qN bet 0) a1 n1 c1 b1 m1 d1) 25))
    have k0 := L1.cell 0 _ rfl
    have k1 := L1.cell 1 _ rfl
    have k2 := L1.cell 2 _ rfl
    clear hb
    go_wp2_with (refine wpList_store_new rfl 25 _ _ rfl atPol _ _ _ rfl rfl rfl rfl (pol_one (qN bet 0) _ _ _ _ _ _) ?_)
    have cc := checkLimit_any (g := g) _ (h1.below L1.below) (h2.below L1.below)
    rw [← HS.out] at cc
    refine cc.mono ?_
    rintro e1 w2 ⟨rfl, hb⟩
    clear cc
    go_wp2_with fail
    go_ret2
    exact ⟨by rw [e.out]; rfl, L1.below.trans (hb.mono L1.below.size)⟩
  case pos =>
  obtain ⟨N0, D0, LM⟩ := limC_get (x := ⟨g, xs, ys⟩) h1.bd h2.bd hl
  have exs : xs = limbs N0 := LM.num
  have eys : ys = limbs D0 := LM.den
  have HR := Lib.hid (show r = seekN bet N0 D0 4097 0 by rw [hr, sizeC_ok hb hl]; show seekN bet (val xs) (val ys) 4097 0 = _; rw [exs, eys, val_limbs, val_limbs])
  have LT := Lib.hid (show N0 < 18446744073709551616 ∧ D0 < 18446744073709551616 from ⟨Nat.lt_of_le_of_lt LM.le LM.lt, LM.lt⟩)
  have SU := Lib.hid (fun k => (show sureC (limbs (levN bet k)) xs ys = sureN (levN bet k) N0 D0 by rw [exs, eys]; exact sureC_ok (levN_le bet k) LT.out.1 LT.out.2))
  have C2 := Lib.hid hl
  clear hr hb hl LM exs eys
  go_enter Try.func12, Try.ntmps12
  go_wp2_with fail
  have cc := new_any (w.alloc (.cells #[.bool g, .slice a n c, .slice b m d] 33)) bet
  rw [N.out] at cc
  refine cc.mono ?_
  rintro e1 w1 ⟨a1, n1, c1, b1, m1, d1, rfl, x1, x2, hb⟩
  clear cc
  have hA := below_al w1 (.cells (polC (qN bet 0) a1 n1 c1 b1 m1 d1) 25)
  have L2 := (L1.later hb).later hA
  have RG := (PRow.new 25 w1 (polC (qN bet 0) a1 n1 c1 b1 m1 d1)).rebase (w1 := w.alloc (.cells #[.bool g, .slice a n c, .slice b m d] 33)) (hb.trans (hA.mono hb.size)) hb.size
  have x1 := x1.below hA
  have x2 := x2.below hA
  have k0 := L2.cell 0 _ rfl
  have k1 := L2.cell 1 _ rfl
  have k2 := L2.cell 2 _ rfl
  clear hb hA
  go_wp2_with (refine wpList_store_new rfl 25 _ _ rfl atPol _ _ _ rfl rfl rfl rfl (pol_one (qN bet 0) _ _ _ _ _ _) ?_)
  have cc := checkLimit_any (g := g) _ (h1.below L2.below) (h2.below L2.below)
  rw [C2.out] at cc
  refine cc.mono ?_
  rintro e1 w2 ⟨rfl, hb⟩
  clear cc k0 k1 k2
  have start : SzI (w.alloc (.cells #[.bool g, .slice a n c, .slice b m d] 33)) w2 w1.heap.size bet 0 := ⟨a1, n1, c1, b1, m1, d1, RG.later hb, x1.below hb, x2.below hb⟩
  clear hb RG x1 x2 L2
  generalize w1.heap.size = G at *
  go_wp2_with fail
  go_loopw [23] (fun i wr => ∃ (k : Nat), k ≤ 4097 ∧ i = .int .i64 (k : Nat) ∧ SzI (w.alloc (.cells #[.bool g, .slice a n c, .slice b m d] 33)) wr G bet k ∧ Hid (r = seekN bet N0 D0 (4097 - k) k)) (fun i _ => 4097 - (intOf i).toNat)
  case atStart => exact ⟨0, Nat.zero_le _, rfl, start, HR⟩
  case round =>
    obtain ⟨k, hk, rfl, ⟨a3, n3, c3, b3, m3, d3, R, z1, z2⟩, HK⟩ := hrel
    clear start
    have L3 := L1.later R.below
    by_cases hlt : k < 4097
    · have k0 := L3.cell 0 _ rfl
      have k1 := L3.cell 1 _ rfl
      have k2 := L3.cell 2 _ rfl
      have k5 := R.cell 5 _ rfl
      obtain ⟨f, hf⟩ : ∃ f, 4097 - k = f + 1 := ⟨4096 - k, by omega⟩
      have HF := Lib.hid hf
      have HLT := Lib.hid hlt
      clear hf
      go_wp2_with fail
      have cc := sure_any (g := g) _ z2 (h1.below L3.below) (h2.below L3.below)
      rw [SU.out] at cc
      obtain ⟨t, ht⟩ : ∃ t, t = sureN (levN bet k) N0 D0 := ⟨_, rfl⟩
      have HT := Lib.hid ht
      rw [← ht] at cc
      refine cc.mono ?_
      rintro e1 w3 ⟨rfl, hb⟩
      clear cc ht k0 k1 k2 k5
      have R := R.later hb
      have L3 := L3.later hb
      have z1 := z1.below hb
      have z2 := z2.below hb
      cases t
      · have HN := Lib.hid (show r = seekN bet N0 D0 (4097 - (k + 1)) (k + 1) by
          rw [HK.out, HF.out, seek_no (by rw [← HT.out]; simp), show f = 4097 - (k + 1) by have := HF.out; omega])
        have k0 := R.cell 0 _ rfl
        have k1 := R.cell 1 _ rfl
        have k2 := R.cell 2 _ rfl
        have k3 := R.cell 3 _ rfl
        have k4 := R.cell 4 _ rfl
        have k5 := R.cell 5 _ rfl
        have hA := below_al w3 (.cells #[.int .i64 2] 3)
        have R' := R.later hA
        clear hb
        go_wp2_with fail
        have cc := observe_any (p := qN bet k) (w3.alloc (.cells #[.int .i64 2] 3)) (z1.below hA) (z2.below hA) (qN_pw bt.out (by have := HLT.out; omega)) (rdI_one w3 2 (by unfold wide64; decide))
        rw [qN_obs bt.out (by have := HLT.out; omega)] at cc
        refine cc.mono ?_
        rintro e1 w4 ⟨a4, n4, c4, b4, m4, d4, rfl, y1, y2, hb⟩
        clear cc
        have R4 := R'.later hb
        have row := R4.row
        have FIN : Hid (SzI (w.alloc (.cells #[.bool g, .slice a n c, .slice b m d] 33)) (w4.setRow G (polC (qN bet (k + 1)) a4 n4 c4 b4 m4 d4)) G bet (k + 1)) := Lib.hid ⟨a4, n4, c4, b4, m4, d4, R4.put _, rd_rowset y1 row (pol_noint _ _ _ _ _ _ _) _, rd_rowset y2 row (pol_noint _ _ _ _ _ _ _) _⟩
        clear hA R' R R4 z1 z2 y1 y2 hb k0 k1 k2 k3 k4 k5
        go_wp2_with (refine wpList_store_whole rfl 25 _ _ rfl atPol _ _ _ row rfl rfl rfl rfl (pol_one (qN bet (k + 1)) _ _ _ _ _ _) ?_)
        go_roundw
        case rel => exact ⟨k + 1, by have := HLT.out; omega, by go_num, FIN.out, HN⟩
        case measure => simp [intOf]; have := HLT.out; omega
      · have e := Lib.hid (show r = ((k : Int), 0) by rw [HK.out, HF.out, seek_yes HT.out.symm])
        go_wp2_with fail
        go_ret2
        exact ⟨by rw [e.out]; rfl, L3.below⟩
    · obtain rfl : k = 4097 := by omega
      have e := Lib.hid (show r = (0, 6) by rw [HK.out]; rfl)
      go_wp2_with fail
      go_ret2
      exact ⟨by rw [e.out]; rfl, L3.below⟩

end Go.Proofs.Ytkomdiblopdfiaa
/- SampleSize in the document's answer. -/
namespace Go.Proofs.Ytkomdiblopdfiaa
open Go.RowKit Go.Suf
set_option linter.unusedVariables false
set_option linter.unusedSimpArgs false

theorem fac_one {b : Int} (h1 : 1 ≤ b) (h2 : b ≤ 999) : IntKind.u64.wrap (wrap64 (1000 + b)) = 1000 + b := by
  simp only [IntKind.wrap, IntKind.bits, IntKind.signed, wrap64]
  simp
  omega

set_option maxRecDepth 100000 in
set_option maxHeartbeats 4000000 in
theorem refSampleSize_any (w : World) (bet : Int) {g : Bool} {a b : Option Addr} {n m c d : Nat} {xs ys : List Nat} (h1 : Rd .u32 w a n c xs) (h2 : Rd .u32 w b m d ys) :
    Calls Try.prog 30 #[.int .i64 bet, ratV g a n c b m d] w (RetIEB w (sizeC bet ⟨g, xs, ys⟩)) := by
  obtain ⟨r, hr⟩ : ∃ r, r = sizeC bet ⟨g, xs, ys⟩ := ⟨_, rfl⟩
  rw [← hr]
  have L1 := Has.new w #[.bool g, .slice a n c, .slice b m d] 33
  by_cases hb : betOk bet = true
  case neg =>
    have e := Lib.hid (show r = (0, 2) by rw [hr]; exact sizeC_bet hb)
    have N := Lib.hid (new_not hb)
    clear hr hb
    go_enter Try.func30, Try.ntmps30
    go_wp2_with fail
    have cc := refNew_any (w.alloc (.cells #[.bool g, .slice a n c, .slice b m d] 33)) bet
    rw [N.out] at cc
    refine cc.mono ?_
    rintro e1 w1 ⟨a1, n1, c1, b1, m1, d1, rfl, x1, x2, hb⟩
    clear cc
    have L1 := L1.later hb
    go_wp2_with (refine wpList_store_new rfl 25 _ _ rfl atPol _ _ _ rfl rfl rfl rfl (pol_one zeroP _ _ _ _ _ _) ?_)
    go_ret2
    exact ⟨by rw [e.out]; rfl, L1.below.trans ((below_al w1 _).mono L1.below.size)⟩
  case pos =>
  have bt := Lib.hid (betOk_get hb)
  have N := Lib.hid (new_qN hb)
  have HB := Lib.hid hb
  by_cases hl : limC ⟨g, xs, ys⟩ = 0
  case neg =>
    obtain ⟨s, hs⟩ : ∃ s, s = limC ⟨g, xs, ys⟩ := ⟨_, rfl⟩
    have e := Lib.hid (show r = (0, s) by rw [hr, hs]; exact sizeC_lim hb hl)
    have HS := Lib.hid hs
    rw [← hs] at hl
    have d1 : (s != 0) = true := by rw [bne_iff_ne]; exact hl
    clear hr hb hl hs
    go_enter Try.func30, Try.ntmps30
    go_wp2_with fail
    have cc := refNew_any (w.alloc (.cells #[.bool g, .slice a n c, .slice b m d] 33)) bet
    rw [N.out] at cc
    refine cc.mono ?_
    rintro e1 w1 ⟨a1, n1, c1, b1, m1, d1, rfl, x1, x2, hb⟩
    clear cc
    have L1 := (L1.later hb).later (below_al w1 (.cells (polC (qN bet 0) a1 n1 c1 b1 m1 d1) 25))
    have k0 := L1.cell 0 _ rfl
    have k1 := L1.cell 1 _ rfl
    have k2 := L1.cell 2 _ rfl
    clear hb
    go_wp2_with (refine wpList_store_new rfl 25 _ _ rfl atPol _ _ _ rfl rfl rfl rfl (pol_one (qN bet 0) _ _ _ _ _ _) ?_)
    have cc := refCheckLimit_any (g := g) _ (h1.below L1.below) (h2.below L1.below)
    rw [← HS.out] at cc
    refine cc.mono ?_
    rintro e1 w2 ⟨rfl, hb⟩
    clear cc
    go_wp2_with fail
    go_ret2
    exact ⟨by rw [e.out]; rfl, L1.below.trans (hb.mono L1.below.size)⟩
  case pos =>
  obtain ⟨N0, D0, LM⟩ := limC_get (x := ⟨g, xs, ys⟩) h1.bd h2.bd hl
  have exs : xs = limbs N0 := LM.num
  have eys : ys = limbs D0 := LM.den
  have HR := Lib.hid (show r = seekN bet N0 D0 4097 0 by rw [hr, sizeC_ok hb hl]; show seekN bet (val xs) (val ys) 4097 0 = _; rw [exs, eys, val_limbs, val_limbs])
  have LT := Lib.hid (show N0 < 18446744073709551616 ∧ D0 < 18446744073709551616 from ⟨Nat.lt_of_le_of_lt LM.le LM.lt, LM.lt⟩)
  have SU := Lib.hid (fun k => (show sureC (limbs (levN bet k)) xs ys = sureN (levN bet k) N0 D0 by rw [exs, eys]; exact sureC_ok (levN_le bet k) LT.out.1 LT.out.2))
  have C2 := Lib.hid hl
  clear hr hb hl LM exs eys
  go_enter Try.func30, Try.ntmps30
  go_wp2_with fail
  have cc := refNew_any (w.alloc (.cells #[.bool g, .slice a n c, .slice b m d] 33)) bet
  rw [N.out] at cc
  refine cc.mono ?_
  rintro e1 w1 ⟨a1, n1, c1, b1, m1, d1, rfl, x1, x2, hb⟩
  clear cc
  have hA := below_al w1 (.cells (polC (qN bet 0) a1 n1 c1 b1 m1 d1) 25)
  have L2 := (L1.later hb).later hA
  have RG := (PRow.new 25 w1 (polC (qN bet 0) a1 n1 c1 b1 m1 d1)).rebase (w1 := w.alloc (.cells #[.bool g, .slice a n c, .slice b m d] 33)) (hb.trans (hA.mono hb.size)) hb.size
  have x1 := x1.below hA
  have x2 := x2.below hA
  have k0 := L2.cell 0 _ rfl
  have k1 := L2.cell 1 _ rfl
  have k2 := L2.cell 2 _ rfl
  clear hb hA
  go_wp2_with (refine wpList_store_new rfl 25 _ _ rfl atPol _ _ _ rfl rfl rfl rfl (pol_one (qN bet 0) _ _ _ _ _ _) ?_)
  have cc := refCheckLimit_any (g := g) _ (h1.below L2.below) (h2.below L2.below)
  rw [C2.out] at cc
  refine cc.mono ?_
  rintro e1 w2 ⟨rfl, hb⟩
  clear cc k0 k1 k2
  have RG := RG.later hb
  have k4 := RG.cell 4 _ rfl
  have x1 := x1.below hb
  have BB := RG.below
  clear hb x2 L2 RG
  obtain ⟨M, hM⟩ : ∃ M : Nat, (M : Int) = 1000 + bet := ⟨(1000 + bet : Int).toNat, by have := bt.out; omega⟩
  have HM := Lib.hid (show factN bet 2 = M by unfold factN; omega)
  have HM2 := Lib.hid hM
  have MB := Lib.hid (show M < 18446744073709551616 by have := bt.out; omega)
  have WR := Lib.hid (fac_one bt.out.1 bt.out.2)
  clear hM
  generalize w1.heap.size = G at *
  go_wp2_with fail
  go_loopw [8, 9] (fun l i wr => ∃ (k : Nat) (a3 : Option Addr) (n3 c3 : Nat), k ≤ 4097 ∧ i = .int .i64 (k : Nat) ∧ l = .slice a3 n3 c3 ∧ Rd .u32 wr a3 n3 c3 (limbs (levN bet k)) ∧ Below (w.alloc (.cells #[.bool g, .slice a n c, .slice b m d] 33)).heap.size (w.alloc (.cells #[.bool g, .slice a n c, .slice b m d] 33)) wr ∧ Hid (r = seekN bet N0 D0 (4097 - k) k)) (fun _ i _ => 4097 - (intOf i).toNat)
  case atStart => exact ⟨0, a1, n1, c1, Nat.zero_le _, rfl, rfl, x1, BB, HR⟩
  case round =>
    obtain ⟨k, a3, n3, c3, hk, rfl, rfl, z1, BW, HK⟩ := hrel
    have L3 := L1.later BW
    by_cases hlt : k < 4097
    · have k0 := L3.cell 0 _ rfl
      have k1 := L3.cell 1 _ rfl
      have k2 := L3.cell 2 _ rfl
      obtain ⟨f, hf⟩ : ∃ f, 4097 - k = f + 1 := ⟨4096 - k, by omega⟩
      have HF := Lib.hid hf
      have HLT := Lib.hid hlt
      clear hf
      go_wp2_with fail
      have cc := reached_any (g := g) _ z1 (h1.below L3.below) (h2.below L3.below)
      rw [SU.out] at cc
      obtain ⟨t, ht⟩ : ∃ t, t = sureN (levN bet k) N0 D0 := ⟨_, rfl⟩
      have HT := Lib.hid ht
      rw [← ht] at cc
      refine cc.mono ?_
      rintro e1 w3 ⟨rfl, hb⟩
      clear cc ht k0 k1 k2
      have BW := BW.trans (hb.mono BW.size)
      have z1 := z1.below hb
      cases t
      · have HN := Lib.hid (show r = seekN bet N0 D0 (4097 - (k + 1)) (k + 1) by
          rw [HK.out, HF.out, seek_no (by rw [← HT.out]; simp), show f = 4097 - (k + 1) by have := HF.out; omega])
        clear hb
        go_wp2_with fail
        have cc := refPolTimes_any _ z1 (levN_le bet k) M 1000 MB.out (by decide) (by decide)
        rw [HM2.out, ← HM.out] at cc
        rw [WR.out]
        refine cc.mono ?_
        rintro e1 w4 ⟨a4, n4, c4, rfl, y1, hb⟩
        clear cc
        have BW := BW.trans (hb.mono BW.size)
        go_wp2_with fail
        go_roundw
        case rel => exact ⟨k + 1, a4, n4, c4, by have := HLT.out; omega, by go_num, rfl, y1, BW, HN⟩
        case measure => simp [intOf]; have := HLT.out; omega
      · have e := Lib.hid (show r = ((k : Int), 0) by rw [HK.out, HF.out, seek_yes HT.out.symm])
        go_wp2_with fail
        go_ret2
        exact ⟨by rw [e.out]; rfl, L3.below.trans (hb.mono L3.below.size)⟩
    · obtain rfl : k = 4097 := by omega
      have e := Lib.hid (show r = (0, 6) by rw [HK.out]; rfl)
      go_wp2_with fail
      go_ret2
      exact ⟨by rw [e.out]; rfl, L3.below⟩

end Go.Proofs.Ytkomdiblopdfiaa
