/- Fixed-point numbers out of rational numbers: Billionths, both. Printed by gen_quof.py. -/
import Derived.Test.YtfcejgeckcoefaaQuoE
namespace Go.Proofs.Ytfcejgeckcoefaa
open Go.RowKit Go.Suf
set_option linter.unusedVariables false
set_option linter.unusedSimpArgs false

theorem ofQ_get {q : Rat} {g : Bool} {A B : Nat} (h : ofQ q = ⟨g, limbs A, limbs B⟩) : q.num.natAbs = A ∧ q.den = B := by
  unfold ofQ at h
  injection h with h1 h2 h3
  have h2 := congrArg val h2
  have h3 := congrArg val h3
  rw [val_limbs, val_limbs] at h2 h3
  exact ⟨h2, h3⟩

theorem ofQ_nat (N : Nat) : ofQ ((N : Int) : Rat) = ⟨false, limbs N, limbs 1⟩ := by
  unfold ofQ
  rw [Rat.num_intCast, Rat.den_intCast, Int.natAbs_natCast, decide_eq_false (by omega)]

def billC (x : QV) : Int × Int := if chkV x = 0 ∧ x.neg = false then (if 90 < x.num.length ∨ 90 < x.den.length then (0, 30) else tellN (val x.num * 1000000000 / val x.den)) else (0, 2)

/-- A product with a natural number, and its floor. -/
theorem mul_floor {q : Rat} {K : Nat} (hs : decide (q.num < 0) = false) (hN : q.num.natAbs * K < pw 96) (hD : q.den < pw 96) :
    mulQ q ((K : Int) : Rat) = (ofQ (q * ((K : Int) : Rat)), 0) ∧ fitQ (q * ((K : Int) : Rat)) ∧ flQ (q * ((K : Int) : Rat)) = ((q.num.natAbs * K / q.den : Nat) : Int) := by
  have hk : ((K : Int) : Rat).num.natAbs = K := by simp
  have hd : ((K : Int) : Rat).den = 1 := by simp
  have hn : decide (((K : Int) : Rat).num < 0) = false := by
    rw [decide_eq_false_iff_not]
    simp
  have e := mul_low q ((K : Int) : Rat)
  rw [hk, hd, hs, hn, Nat.mul_one] at e
  have e2 : ofQ (q * ((K : Int) : Rat)) = ⟨(false != false) && decide (0 < q.num.natAbs * K / (q.num.natAbs * K).gcd q.den), limbs (q.num.natAbs * K / (q.num.natAbs * K).gcd q.den), limbs (q.den / (q.num.natAbs * K).gcd q.den)⟩ := e.symm
  have g := ofQ_get e2
  have gp : 0 < (q.num.natAbs * K).gcd q.den := Nat.gcd_pos_of_pos_right _ q.den_pos
  refine ⟨?_, ⟨?_, ?_⟩, ?_⟩
  · rw [mulQ, if_pos]
    rw [hk, hd, Nat.mul_one]
    exact ⟨hN, hD⟩
  · rw [g.1]; exact Nat.lt_of_le_of_lt (Nat.div_le_self _ _) hN
  · rw [g.2]; exact Nat.lt_of_le_of_lt (Nat.div_le_self _ _) hD
  · have ng : decide ((q * ((K : Int) : Rat)).num < 0) = false := by
      have := congrArg QV.neg e2
      exact this
    rw [fl_pos ng, g.1, g.2]
    have d1 := Nat.div_mul_cancel (Nat.gcd_dvd_left (q.num.natAbs * K) q.den)
    have d2 := Nat.div_mul_cancel (Nat.gcd_dvd_right (q.num.natAbs * K) q.den)
    rw [← Nat.mul_div_mul_right (q.num.natAbs * K / (q.num.natAbs * K).gcd q.den) (q.den / (q.num.natAbs * K).gcd q.den) gp, d1, d2]

theorem ofC_nat (K : Nat) : (ofC (K : Int) 1).1 = ofQ ((K : Int) : Rat) := by
  rw [ofC_whole, ofQ_nat, decide_eq_false (by omega), Int.natAbs_natCast]

theorem nat_fit {K : Nat} (h : K < pw 96) : fitQ ((K : Int) : Rat) := by
  refine ⟨by simpa using h, ?_⟩
  simp
  exact Nat.lt_of_lt_of_le (by decide) (pw_le (show 1 ≤ 96 by decide))

theorem len90 {N : Nat} (h : ¬ 90 < (limbs N).length) : N < pw 90 := by
  have h2 := val_lt' (limbs_small N)
  rw [val_limbs] at h2
  exact Nat.lt_of_lt_of_le h2 (pw_le (by omega))

theorem keep_one {w1 w2 w3 : World} {x : Nat} {u0 u1 u2 : Value} (h : Below w1.heap.size w1 w2 ∧ w2.cell? ⟨x, 0, none⟩ = some u0 ∧ w2.cell? ⟨x, 1, none⟩ = some u1 ∧ w2.cell? ⟨x, 2, none⟩ = some u2)
    (hb : Below w2.heap.size w2 w3) (hx : x < w1.heap.size) : Below w1.heap.size w1 w3 ∧ w3.cell? ⟨x, 0, none⟩ = some u0 ∧ w3.cell? ⟨x, 1, none⟩ = some u1 ∧ w3.cell? ⟨x, 2, none⟩ = some u2 := by
  obtain ⟨h0, h1, h2, h3⟩ := h
  have := h0.size
  exact ⟨h0.trans (hb.mono h0.size), cell_later hb h1 (by omega), cell_later hb h2 (by omega), cell_later hb h3 (by omega)⟩

theorem keep_one_row {w1 w2 : World} {x g : Nat} {u0 u1 u2 : Value} {cs : Array Value} (h : Below w1.heap.size w1 w2 ∧ w2.cell? ⟨x, 0, none⟩ = some u0 ∧ w2.cell? ⟨x, 1, none⟩ = some u1 ∧ w2.cell? ⟨x, 2, none⟩ = some u2)
    (hg : w1.heap.size ≤ g) (hx : x < w1.heap.size) : Below w1.heap.size w1 (w2.setRow g cs) ∧ (w2.setRow g cs).cell? ⟨x, 0, none⟩ = some u0 ∧ (w2.setRow g cs).cell? ⟨x, 1, none⟩ = some u1 ∧ (w2.setRow g cs).cell? ⟨x, 2, none⟩ = some u2 := by
  obtain ⟨h0, h1, h2, h3⟩ := h
  exact ⟨below_row h0 hg _, cell_row h1 (by omega), cell_row h2 (by omega), cell_row h3 (by omega)⟩

/-- The digits: the k-th number and the k-th rest. -/
theorem digit_step (N D k : Nat) (hD : 0 < D) : N * 10 ^ (k + 1) / D = 10 * (N * 10 ^ k / D) + 10 * (N * 10 ^ k % D) / D ∧ N * 10 ^ (k + 1) % D = 10 * (N * 10 ^ k % D) % D := by
  have e := Nat.div_add_mod (N * 10 ^ k) D
  have e2 : N * 10 ^ (k + 1) = 10 * (N * 10 ^ k % D) + D * (10 * (N * 10 ^ k / D)) := by
    rw [Nat.pow_succ, ← Nat.mul_assoc]
    conv => lhs; rw [← e]
    rw [Nat.add_mul, Nat.mul_left_comm D 10]
    generalize D * (N * 10 ^ k / D) = p
    omega
  rw [e2, Nat.add_mul_div_left _ _ hD, Nat.add_mul_mod_self_left]
  exact ⟨Nat.add_comm _ _, rfl⟩

theorem digit_lt {r D : Nat} (h : r < D) : 10 * r / D < 10 := by
  rw [Nat.div_lt_iff_lt_mul (by omega)]
  omega

theorem digit_bd {N D k : Nat} (hD : 0 < D) (hk : k ≤ 9) (h : N / D ≤ 1000000) : N * 10 ^ k / D < 1000001000000000 := by
  rw [Nat.div_lt_iff_lt_mul hD]
  have h1 : N < 1000001 * D := by
    have := (Nat.div_lt_iff_lt_mul hD).1 (show N / D < 1000001 by omega)
    exact this
  have h2 : 10 ^ k ≤ 10 ^ 9 := Nat.pow_le_pow_right (by decide) hk
  calc N * 10 ^ k < 1000001 * D * 10 ^ k := Nat.mul_lt_mul_of_pos_right h1 (Nat.pow_pos (by decide))
    _ ≤ 1000001 * D * 10 ^ 9 := Nat.mul_le_mul_left _ h2
    _ = 1000001000000000 * D := by rw [Nat.mul_right_comm]

theorem far_great {N D : Nat} (hD : 0 < D) (h : 1000000 < N / D) : ¬ N * 1000000000 / D ≤ 1000000000000000 := by
  have h1 : 1000001 * D ≤ N := (Nat.le_div_iff_mul_le hD).1 h
  intro hh
  have h2 : 1000001 * 1000000000 ≤ N * 1000000000 / D := by
    rw [Nat.le_div_iff_mul_le hD, Nat.mul_right_comm]
    exact Nat.mul_le_mul_right _ h1
  exact absurd (Nat.le_trans h2 hh) (by decide)

set_option maxRecDepth 100000 in
set_option maxHeartbeats 4000000 in
theorem bill_any (w : World) {g : Bool} {a b : Option Addr} {n m c d : Nat} {xs ys : List Nat} (h1 : Rd .u32 w a n c xs) (h2 : Rd .u32 w b m d ys) :
    Calls Try.prog 26 #[ratV g a n c b m d] w (RetIEB w (billC ⟨g, xs, ys⟩)) := by
  obtain ⟨r, hr⟩ : ∃ r, r = billC ⟨g, xs, ys⟩ := ⟨_, rfl⟩
  rw [← hr]
  have B0 := Box.new w g a n c b m d
  have c0 := B0.at0
  have c1 := B0.at1
  have c2 := B0.at2
  by_cases hg : chkV ⟨g, xs, ys⟩ = 0
  case neg =>
    have e := Lib.hid (show r = (0, 2) by rw [hr, billC, if_neg (fun h => hg h.1)])
    have C := Lib.hid ((chkV_two _).resolve_left hg)
    clear hr hg
    go_enter Try.func26, Try.ntmps26
    go_wp2_with fail
    have cc := ratCheck_any (neg := g) _ (h1.below B0.below) (h2.below B0.below)
    rw [C.out] at cc
    refine cc.mono ?_
    rintro e1 w1 ⟨rfl, hb⟩
    clear cc c0 c1 c2
    have B0 := B0.later hb
    have c0 := B0.at0
    have c1 := B0.at1
    have c2 := B0.at2
    clear hb
    go_wp2_with fail
    go_ret2
    exact ⟨by rw [e.out]; rfl, B0.below⟩
  have C := Lib.hid hg
  cases g
  case true =>
    have e := Lib.hid (show r = (0, 2) by rw [hr, billC, if_neg (fun h => Bool.noConfusion h.2)])
    clear hr hg
    go_enter Try.func26, Try.ntmps26
    go_wp2_with fail
    have cc := ratCheck_any (neg := true) _ (h1.below B0.below) (h2.below B0.below)
    rw [C.out] at cc
    refine cc.mono ?_
    rintro e1 w1 ⟨rfl, hb⟩
    clear cc c0 c1 c2
    have B0 := B0.later hb
    have c0 := B0.at0
    have c1 := B0.at1
    have c2 := B0.at2
    clear hb
    go_wp2_with fail
    go_ret2
    exact ⟨by rw [e.out]; rfl, B0.below⟩
  case false =>
  rw [billC, if_pos ⟨hg, rfl⟩] at hr
  have L1 := h1.len
  have L2 := h2.len
  by_cases hl : 90 < n
  · have e := Lib.hid (show r = (0, 30) by rw [hr, if_pos (.inl (by show 90 < xs.length; omega))])
    have d1 : decide ((90 : Int) < (n : Int)) = true := decide_eq_true (by omega)
    clear hr hl L1 L2 hg
    go_enter Try.func26, Try.ntmps26
    go_wp2_with fail
    have cc := ratCheck_any (neg := false) _ (h1.below B0.below) (h2.below B0.below)
    rw [C.out] at cc
    refine cc.mono ?_
    rintro e1 w1 ⟨rfl, hb⟩
    clear cc c0 c1 c2
    have B0 := B0.later hb
    have c0 := B0.at0
    have c1 := B0.at1
    have c2 := B0.at2
    clear hb
    go_wp2_with fail
    go_ret2
    exact ⟨by rw [e.out]; rfl, B0.below⟩
  have d1 : decide ((90 : Int) < (n : Int)) = false := decide_eq_false (by omega)
  by_cases hl2 : 90 < m
  · have e := Lib.hid (show r = (0, 30) by rw [hr, if_pos (.inr (by show 90 < ys.length; omega))])
    have d2 : decide ((90 : Int) < (m : Int)) = true := decide_eq_true (by omega)
    clear hr hl hl2 L1 L2 hg
    go_enter Try.func26, Try.ntmps26
    go_wp2_with fail
    have cc := ratCheck_any (neg := false) _ (h1.below B0.below) (h2.below B0.below)
    rw [C.out] at cc
    refine cc.mono ?_
    rintro e1 w1 ⟨rfl, hb⟩
    clear cc c0 c1 c2
    have B0 := B0.later hb
    have c0 := B0.at0
    have c1 := B0.at1
    have c2 := B0.at2
    clear hb
    go_wp2_with fail
    go_ret2
    exact ⟨by rw [e.out]; rfl, B0.below⟩
  have d2 : decide ((90 : Int) < (m : Int)) = false := decide_eq_false (by omega)
  rw [if_neg (by intro h; rcases h with h | h; (have h : 90 < xs.length := h; omega); (have h : 90 < ys.length := h; omega))] at hr
  obtain ⟨q, e1, f1⟩ := chkV_get (x := ⟨false, xs, ys⟩) h1.bd h2.bd hg
  have ex : false = decide (q.num < 0) ∧ xs = limbs q.num.natAbs ∧ ys = limbs q.den := by
    unfold ofQ at e1
    injection e1 with e1 e3 e4
    exact ⟨e1, e3, e4⟩
  have n90 : q.num.natAbs < pw 90 := len90 (by rw [← ex.2.1]; omega)
  have d90 : q.den < pw 90 := len90 (by rw [← ex.2.2]; omega)
  have mf := mul_floor (K := 1000000000) ex.1.symm (Nat.lt_of_lt_of_le (mul_lt_pw n90 (show 1000000000 < pw 1 by decide)) (pw_le (by decide))) f1.2
  have hr : r = tellN (q.num.natAbs * 1000000000 / q.den) := by
    rw [hr]
    show tellN (val xs * 1000000000 / val ys) = _
    rw [ex.2.1, ex.2.2, val_limbs, val_limbs]
  obtain ⟨Z, hZ⟩ : ∃ Z, Z = ofQ (q * (((1000000000 : Nat) : Int) : Rat)) := ⟨_, rfl⟩
  have MV := Lib.hid (show mulV ⟨false, xs, ys⟩ (ofC 1000000000 1).1 = (Z, 0) by
    rw [show (ofC 1000000000 1).1 = ofQ (((1000000000 : Nat) : Int) : Rat) from ofC_nat 1000000000]
    rw [mulV, bothV, if_pos ⟨hg, chkV_ofQ (nat_fit (Nat.lt_of_lt_of_le (show 1000000000 < pw 1 by decide) (pw_le (by decide))))⟩, e1, toQ_ofQ, toQ_ofQ, mf.1, hZ])
  obtain ⟨t, ht⟩ : ∃ t, t = q.num.natAbs * 1000000000 / q.den := ⟨_, rfl⟩
  rw [← ht] at hr
  have FV : floorV Z = if t < 9223372036854775808 then ((t : Int), 0) else (0, 30) := by
    have hf := mf.2.2
    rw [← ht] at hf
    rw [floorV, if_pos (by rw [hZ]; exact chkV_ofQ mf.2.1), hZ, toQ_ofQ]
    by_cases h : t < 9223372036854775808
    · rw [if_pos h]; exact floor_in hf (by omega) (by omega)
    · rw [if_neg h]; exact floor_out hf (by omega)
  obtain ⟨f, hf⟩ : ∃ f, f = floorV Z := ⟨_, rfl⟩
  have FE := Lib.hid hf.symm
  have fin : (f.2 = 0 ∧ f.1 ≤ 1000000000000000 ∧ r = (f.1, 0)) ∨ (f.2 = 0 ∧ 1000000000000000 < f.1 ∧ r = (0, 30)) ∨ (f.2 = 30 ∧ f.1 = 0 ∧ r = (0, 30)) := by
    rw [hf, FV]
    by_cases h : t < 9223372036854775808
    · rw [if_pos h]
      by_cases h2 : t ≤ 1000000000000000
      · exact .inl ⟨rfl, by show (t : Int) ≤ _; omega, by rw [hr, tellN, if_pos h2]⟩
      · exact .inr (.inl ⟨rfl, by show _ < (t : Int); omega, by rw [hr, tellN, if_neg h2]⟩)
    · rw [if_neg h]
      exact .inr (.inr ⟨rfl, rfl, by rw [hr, tellN, if_neg (by omega)]⟩)
  have FIN := Lib.hid fin
  clear hr hl hl2 L1 L2 hg e1 f1 ex n90 d90 mf hZ ht FV hf fin
  go_enter Try.func26, Try.ntmps26
  go_wp2_with fail
  have cc := ratCheck_any (neg := false) _ (h1.below B0.below) (h2.below B0.below)
  rw [C.out] at cc
  refine cc.mono ?_
  rintro e1 w1 ⟨rfl, hb⟩
  clear cc c0 c1 c2
  have B0 := B0.later hb
  have c0 := B0.at0
  have c1 := B0.at1
  have c2 := B0.at2
  clear hb
  have x1 := h1.below B0.below
  have x2 := h2.below B0.below
  go_upto_region 5 with fail
  go_cut [4, 5] from 25 to 30 (fun v4 v5 wx => ∃ ap np cp aq nq cq g, v4 = Value.pointer (some ⟨g, 0, none⟩) ∧ v5 = Value.int .i64 0 ∧ PRow 27 w1 wx g #[.bool Z.neg, .slice ap np cp, .slice aq nq cq] ∧ Rd .u32 wx ap np cp Z.num ∧ Rd .u32 wx aq nq cq Z.den)
  case first =>
    refine wp_region_held_drew (S := (fun w' => Below w1.heap.size w1 w' ∧ w'.cell? ⟨w.heap.size, 0, none⟩ = some (.bool false) ∧ w'.cell? ⟨w.heap.size, 1, none⟩ = some (.slice a n c) ∧ w'.cell? ⟨w.heap.size, 2, none⟩ = some (.slice b m d))) (by kernel_rfl) ?_ (fun hHeld => ?_)
    · exact ⟨(Below.refl _ _).drew, by simp only [World.cell?_drew]; exact c0, by simp only [World.cell?_drew]; exact c1, by simp only [World.cell?_drew]; exact c2⟩
    refine wpAnyH_take (i := 0) (oi := ?oir1_0) (v := ?vr1_0) ?hir1_0 (by kernel_rfl) (by kernel_rfl) (by kernel_rfl) ?hqr1_0 ?hyr1_0 (by assumption) ?restr1_0
    case hir1_0 => simp only [List.getElem?_toArray, List.getElem?_cons_succ, List.getElem?_cons_zero]; rfl
    case hqr1_0 => exact fun _ _ _ h => h
    case hyr1_0 => (refine Or.inl ⟨by rfl, ?_⟩; intro w hSw; (try dsimp only at hSw); go_simp; all_goals with_reducible rfl)
    try simp only [Act.put, List.setIfInBounds_toArray, List.set_cons_zero, List.set_cons_succ]
    refine wpAnyH_ready (rs := [1, 6]) (by kernel_rfl) (by simp) ?_
    refine (AllReadyH.cons (o := ?ob16_1) ?hob16_1 (fun K hK => ?kb16_1) (AllReadyH.cons (o := ?ob16_6) ?hob16_6 (fun K hK => ?kb16_6) AllReadyH.nil))
    case hob16_1 => simp only [List.getElem?_toArray, List.getElem?_cons_succ, List.getElem?_cons_zero]; rfl
    case hob16_6 => simp only [List.getElem?_toArray, List.getElem?_cons_succ, List.getElem?_cons_zero]; rfl
    case kb16_1 =>
      go_simp
      refine (whole_any w1.drew 1000000000 (by decide) (by decide)).mono ?_
      rintro e2 w2 ⟨a2, n2, c2', b2, m2, d2, rfl, y1, y2, hb2⟩
      have BW := hHeld.1.trans (hb2.mono hHeld.1.size)
      go_wp2_with fail
      refine hK.out _ _ ?_ (fun hHeld => ?_)
      · exact keep_one hHeld hb2 B0.lt
      clear hK K
      try simp only [Act.put, List.setIfInBounds_toArray, List.set_cons_zero, List.set_cons_succ]
      refine wpAnyH_ready (rs := [2, 6]) (by kernel_rfl) (by simp) ?_
      refine (AllReadyH.cons (o := ?ob10_2) ?hob10_2 (fun K hK => ?kb10_2) (AllReadyH.cons (o := ?ob10_6) ?hob10_6 (fun K hK => ?kb10_6) AllReadyH.nil))
      case hob10_2 => simp only [List.getElem?_toArray, List.getElem?_cons_succ, List.getElem?_cons_zero]; rfl
      case hob10_6 => simp only [List.getElem?_toArray, List.getElem?_cons_succ, List.getElem?_cons_zero]; rfl
      case kb10_2 =>
        go_simp
        have cc := ratMul_any w2 (g1 := false) (g2 := (ofC 1000000000 1).1.neg) (x1.below BW) (x2.below BW) y1 y2
        rw [show (⟨(ofC 1000000000 1).1.neg, (ofC 1000000000 1).1.num, (ofC 1000000000 1).1.den⟩ : QV) = (ofC 1000000000 1).1 from rfl, MV.out] at cc
        refine cc.mono ?_
        rintro e2 w3 ⟨ap, np, cp, aq, nq, cq, rfl, z1, z2, hb3⟩
        clear cc
        have BW := BW.trans (hb3.mono BW.size)
        go_wp2_with fail
        refine hK.out _ _ ?_ (fun hHeld => ?_)
        · exact keep_one hHeld hb3 B0.lt
        clear hK K
        try simp only [Act.put, List.setIfInBounds_toArray, List.set_cons_zero, List.set_cons_succ]
        refine wpAnyH_take (i := 3) (oi := ?oir2_3) (v := ?vr2_3) ?hir2_3 (by kernel_rfl) (by kernel_rfl) (by kernel_rfl) ?hqr2_3 ?hyr2_3 (by assumption) ?restr2_3
        case hir2_3 => simp only [List.getElem?_toArray, List.getElem?_cons_succ, List.getElem?_cons_zero]; rfl
        case hqr2_3 => exact fun _ _ _ h => h
        case hyr2_3 => (refine Or.inl ⟨by rfl, ?_⟩; intro w hSw; (try dsimp only at hSw); go_simp; all_goals with_reducible rfl)
        try simp only [Act.put, List.setIfInBounds_toArray, List.set_cons_zero, List.set_cons_succ]
        refine wpAnyH_take (i := 4) (oi := ?oir2_4) (v := ?vr2_4) ?hir2_4 (by kernel_rfl) (by kernel_rfl) (by kernel_rfl) ?hqr2_4 ?hyr2_4 (by assumption) ?restr2_4
        case hir2_4 => simp only [List.getElem?_toArray, List.getElem?_cons_succ, List.getElem?_cons_zero]; rfl
        case hqr2_4 => exact fun _ _ _ h => h
        case hyr2_4 => (refine Or.inl ⟨by rfl, ?_⟩; intro w hSw; (try dsimp only at hSw); go_simp; all_goals with_reducible rfl)
        try simp only [Act.put, List.setIfInBounds_toArray, List.set_cons_zero, List.set_cons_succ]
        refine wpAnyH_take (i := 5) (oi := ?oir2_5) (v := ?vr2_5) ?hir2_5 (by kernel_rfl) (by kernel_rfl) (by kernel_rfl) ?hqr2_5 ?hyr2_5 (by assumption) ?restr2_5
        case hir2_5 => simp only [List.getElem?_toArray, List.getElem?_cons_succ, List.getElem?_cons_zero]; rfl
        case hqr2_5 => exact fun _ _ _ h => h
        case hyr2_5 => (refine Or.inl ⟨by rfl, ?_⟩; intro w hSw; (try dsimp only at hSw); go_simp; all_goals with_reducible rfl)
        try simp only [Act.put, List.setIfInBounds_toArray, List.set_cons_zero, List.set_cons_succ]
        refine wpAnyH_ready (rs := [6]) (by kernel_rfl) (by simp) ?_
        refine (AllReadyH.cons (o := ?ob5_6) ?hob5_6 (fun K hK => ?kb5_6) AllReadyH.nil)
        case hob5_6 => simp only [List.getElem?_toArray, List.getElem?_cons_succ, List.getElem?_cons_zero]; rfl
        case kb5_6 =>
          go_simp
          have hSZ := hHeld.1.size
          refine hK.out _ _ ?_ (fun hHeld => ?_)
          · exact keep_one hHeld (below_al _ _) B0.lt
          clear hK K
          try simp only [Act.put, List.setIfInBounds_toArray, List.set_cons_zero, List.set_cons_succ]
          have RA : PRow 27 w1 _ _ _ := (PRow.new 27 w3 #[.bool false, .slice none 0 0, .slice none 0 0]).rebase hHeld.1 (by first | exact Nat.le_refl _ | exact hSZ)
          have z1 := z1.below (below_al w3 (.cells #[.bool false, .slice none 0 0, .slice none 0 0] 27))
          have z2 := z2.below (below_al w3 (.cells #[.bool false, .slice none 0 0, .slice none 0 0] 27))
          refine wpAnyH_ready (rs := [7]) (by kernel_rfl) (by simp) ?_
          refine (AllReadyH.cons (o := ?ob4_7) ?hob4_7 (fun K hK => ?kb4_7) AllReadyH.nil)
          case hob4_7 => simp only [List.getElem?_toArray, List.getElem?_cons_succ, List.getElem?_cons_zero]; rfl
          case kb4_7 =>
            rw [if_pos (by rfl)]
            refine op_store_whole 27 _ _ rfl atRat _ _ _ RA.row rfl rfl rfl rfl (rat_one _ _ _ _ _ _ _) ?_
            refine hK.out _ _ ?_ (fun hHeld => ?_)
            · exact keep_one_row hHeld RA.lo B0.lt
            clear hK K
            try simp only [Act.put, List.setIfInBounds_toArray, List.set_cons_zero, List.set_cons_succ]
            refine wpAnyH_take (i := 8) (oi := ?oir3_8) (v := ?vr3_8) ?hir3_8 (by kernel_rfl) (by kernel_rfl) (by kernel_rfl) ?hqr3_8 ?hyr3_8 (by assumption) ?restr3_8
            case hir3_8 => simp only [List.getElem?_toArray, List.getElem?_cons_succ, List.getElem?_cons_zero]; rfl
            case hqr3_8 => exact fun _ _ _ h => h
            case hyr3_8 => (refine Or.inl ⟨by rfl, ?_⟩; intro w hSw; (try dsimp only at hSw); go_simp; all_goals with_reducible rfl)
            try simp only [Act.put, List.setIfInBounds_toArray, List.set_cons_zero, List.set_cons_succ]
            refine wpAnyH_done (by kernel_rfl) ?_ _
            go_wp2_with fail
            go_meet
            exact ⟨ap, np, cp, aq, nq, cq, _, rfl, rfl, RA.put _, rd_rowset z1 RA.row (rat_noint _ _ _ _ _ _ _) _, rd_rowset z2 RA.row (rat_noint _ _ _ _ _ _ _) _⟩
      case kb10_6 =>
        go_simp
        have hSZ := hHeld.1.size
        refine hK.out _ _ ?_ (fun hHeld => ?_)
        · exact keep_one hHeld (below_al _ _) B0.lt
        clear hK K
        try simp only [Act.put, List.setIfInBounds_toArray, List.set_cons_zero, List.set_cons_succ]
        have RA : PRow 27 w1 _ _ _ := (PRow.new 27 w2 #[.bool false, .slice none 0 0, .slice none 0 0]).rebase hHeld.1 (by first | exact Nat.le_refl _ | exact hSZ)
        have y1 := y1.below (below_al w2 (.cells #[.bool false, .slice none 0 0, .slice none 0 0] 27))
        have y2 := y2.below (below_al w2 (.cells #[.bool false, .slice none 0 0, .slice none 0 0] 27))
        have BW := BW.trans ((below_al w2 (.cells #[.bool false, .slice none 0 0, .slice none 0 0] 27)).mono BW.size)
        refine wpAnyH_ready (rs := [2]) (by kernel_rfl) (by simp) ?_
        refine (AllReadyH.cons (o := ?ob9_2) ?hob9_2 (fun K hK => ?kb9_2) AllReadyH.nil)
        case hob9_2 => simp only [List.getElem?_toArray, List.getElem?_cons_succ, List.getElem?_cons_zero]; rfl
        case kb9_2 =>
          go_simp
          have cc := ratMul_any _ (g1 := false) (g2 := (ofC 1000000000 1).1.neg) (x1.below BW) (x2.below BW) y1 y2
          rw [show (⟨(ofC 1000000000 1).1.neg, (ofC 1000000000 1).1.num, (ofC 1000000000 1).1.den⟩ : QV) = (ofC 1000000000 1).1 from rfl, MV.out] at cc
          refine cc.mono ?_
          rintro e2 w3 ⟨ap, np, cp, aq, nq, cq, rfl, z1, z2, hb3⟩
          clear cc
          have BW := BW.trans (hb3.mono BW.size)
          go_wp2_with fail
          refine hK.out _ _ ?_ (fun hHeld => ?_)
          · exact keep_one hHeld hb3 B0.lt
          clear hK K
          try simp only [Act.put, List.setIfInBounds_toArray, List.set_cons_zero, List.set_cons_succ]
          have RA := RA.later hb3
          refine wpAnyH_take (i := 3) (oi := ?oir6_3) (v := ?vr6_3) ?hir6_3 (by kernel_rfl) (by kernel_rfl) (by kernel_rfl) ?hqr6_3 ?hyr6_3 (by assumption) ?restr6_3
          case hir6_3 => simp only [List.getElem?_toArray, List.getElem?_cons_succ, List.getElem?_cons_zero]; rfl
          case hqr6_3 => exact fun _ _ _ h => h
          case hyr6_3 => (refine Or.inl ⟨by rfl, ?_⟩; intro w hSw; (try dsimp only at hSw); go_simp; all_goals with_reducible rfl)
          try simp only [Act.put, List.setIfInBounds_toArray, List.set_cons_zero, List.set_cons_succ]
          refine wpAnyH_take (i := 4) (oi := ?oir6_4) (v := ?vr6_4) ?hir6_4 (by kernel_rfl) (by kernel_rfl) (by kernel_rfl) ?hqr6_4 ?hyr6_4 (by assumption) ?restr6_4
          case hir6_4 => simp only [List.getElem?_toArray, List.getElem?_cons_succ, List.getElem?_cons_zero]; rfl
          case hqr6_4 => exact fun _ _ _ h => h
          case hyr6_4 => (refine Or.inl ⟨by rfl, ?_⟩; intro w hSw; (try dsimp only at hSw); go_simp; all_goals with_reducible rfl)
          try simp only [Act.put, List.setIfInBounds_toArray, List.set_cons_zero, List.set_cons_succ]
          refine wpAnyH_take (i := 5) (oi := ?oir6_5) (v := ?vr6_5) ?hir6_5 (by kernel_rfl) (by kernel_rfl) (by kernel_rfl) ?hqr6_5 ?hyr6_5 (by assumption) ?restr6_5
          case hir6_5 => simp only [List.getElem?_toArray, List.getElem?_cons_succ, List.getElem?_cons_zero]; rfl
          case hqr6_5 => exact fun _ _ _ h => h
          case hyr6_5 => (refine Or.inl ⟨by rfl, ?_⟩; intro w hSw; (try dsimp only at hSw); go_simp; all_goals with_reducible rfl)
          try simp only [Act.put, List.setIfInBounds_toArray, List.set_cons_zero, List.set_cons_succ]
          refine wpAnyH_ready (rs := [7]) (by kernel_rfl) (by simp) ?_
          refine (AllReadyH.cons (o := ?ob8_7) ?hob8_7 (fun K hK => ?kb8_7) AllReadyH.nil)
          case hob8_7 => simp only [List.getElem?_toArray, List.getElem?_cons_succ, List.getElem?_cons_zero]; rfl
          case kb8_7 =>
            rw [if_pos (by rfl)]
            refine op_store_whole 27 _ _ rfl atRat _ _ _ RA.row rfl rfl rfl rfl (rat_one _ _ _ _ _ _ _) ?_
            refine hK.out _ _ ?_ (fun hHeld => ?_)
            · exact keep_one_row hHeld RA.lo B0.lt
            clear hK K
            try simp only [Act.put, List.setIfInBounds_toArray, List.set_cons_zero, List.set_cons_succ]
            refine wpAnyH_take (i := 8) (oi := ?oir7_8) (v := ?vr7_8) ?hir7_8 (by kernel_rfl) (by kernel_rfl) (by kernel_rfl) ?hqr7_8 ?hyr7_8 (by assumption) ?restr7_8
            case hir7_8 => simp only [List.getElem?_toArray, List.getElem?_cons_succ, List.getElem?_cons_zero]; rfl
            case hqr7_8 => exact fun _ _ _ h => h
            case hyr7_8 => (refine Or.inl ⟨by rfl, ?_⟩; intro w hSw; (try dsimp only at hSw); go_simp; all_goals with_reducible rfl)
            try simp only [Act.put, List.setIfInBounds_toArray, List.set_cons_zero, List.set_cons_succ]
            refine wpAnyH_done (by kernel_rfl) ?_ _
            go_wp2_with fail
            go_meet
            exact ⟨ap, np, cp, aq, nq, cq, _, rfl, rfl, RA.put _, rd_rowset z1 RA.row (rat_noint _ _ _ _ _ _ _) _, rd_rowset z2 RA.row (rat_noint _ _ _ _ _ _ _) _⟩
    case kb16_6 =>
      go_simp
      have hSZ := hHeld.1.size
      refine hK.out _ _ ?_ (fun hHeld => ?_)
      · exact keep_one hHeld (below_al _ _) B0.lt
      clear hK K
      try simp only [Act.put, List.setIfInBounds_toArray, List.set_cons_zero, List.set_cons_succ]
      have RA : PRow 27 w1 _ _ _ := (PRow.new 27 w1.drew #[.bool false, .slice none 0 0, .slice none 0 0]).rebase hHeld.1 (by first | exact Nat.le_refl _ | exact hSZ)
      refine wpAnyH_ready (rs := [1]) (by kernel_rfl) (by simp) ?_
      refine (AllReadyH.cons (o := ?ob15_1) ?hob15_1 (fun K hK => ?kb15_1) AllReadyH.nil)
      case hob15_1 => simp only [List.getElem?_toArray, List.getElem?_cons_succ, List.getElem?_cons_zero]; rfl
      case kb15_1 =>
        go_simp
        refine (whole_any _ 1000000000 (by decide) (by decide)).mono ?_
        rintro e2 w2 ⟨a2, n2, c2', b2, m2, d2, rfl, y1, y2, hb2⟩
        have BW := hHeld.1.trans (hb2.mono hHeld.1.size)
        go_wp2_with fail
        refine hK.out _ _ ?_ (fun hHeld => ?_)
        · exact keep_one hHeld hb2 B0.lt
        clear hK K
        try simp only [Act.put, List.setIfInBounds_toArray, List.set_cons_zero, List.set_cons_succ]
        have RA := RA.later hb2
        refine wpAnyH_ready (rs := [2]) (by kernel_rfl) (by simp) ?_
        refine (AllReadyH.cons (o := ?ob14_2) ?hob14_2 (fun K hK => ?kb14_2) AllReadyH.nil)
        case hob14_2 => simp only [List.getElem?_toArray, List.getElem?_cons_succ, List.getElem?_cons_zero]; rfl
        case kb14_2 =>
          go_simp
          have cc := ratMul_any w2 (g1 := false) (g2 := (ofC 1000000000 1).1.neg) (x1.below BW) (x2.below BW) y1 y2
          rw [show (⟨(ofC 1000000000 1).1.neg, (ofC 1000000000 1).1.num, (ofC 1000000000 1).1.den⟩ : QV) = (ofC 1000000000 1).1 from rfl, MV.out] at cc
          refine cc.mono ?_
          rintro e2 w3 ⟨ap, np, cp, aq, nq, cq, rfl, z1, z2, hb3⟩
          clear cc
          have BW := BW.trans (hb3.mono BW.size)
          go_wp2_with fail
          refine hK.out _ _ ?_ (fun hHeld => ?_)
          · exact keep_one hHeld hb3 B0.lt
          clear hK K
          try simp only [Act.put, List.setIfInBounds_toArray, List.set_cons_zero, List.set_cons_succ]
          have RA := RA.later hb3
          refine wpAnyH_take (i := 3) (oi := ?oir11_3) (v := ?vr11_3) ?hir11_3 (by kernel_rfl) (by kernel_rfl) (by kernel_rfl) ?hqr11_3 ?hyr11_3 (by assumption) ?restr11_3
          case hir11_3 => simp only [List.getElem?_toArray, List.getElem?_cons_succ, List.getElem?_cons_zero]; rfl
          case hqr11_3 => exact fun _ _ _ h => h
          case hyr11_3 => (refine Or.inl ⟨by rfl, ?_⟩; intro w hSw; (try dsimp only at hSw); go_simp; all_goals with_reducible rfl)
          try simp only [Act.put, List.setIfInBounds_toArray, List.set_cons_zero, List.set_cons_succ]
          refine wpAnyH_take (i := 4) (oi := ?oir11_4) (v := ?vr11_4) ?hir11_4 (by kernel_rfl) (by kernel_rfl) (by kernel_rfl) ?hqr11_4 ?hyr11_4 (by assumption) ?restr11_4
          case hir11_4 => simp only [List.getElem?_toArray, List.getElem?_cons_succ, List.getElem?_cons_zero]; rfl
          case hqr11_4 => exact fun _ _ _ h => h
          case hyr11_4 => (refine Or.inl ⟨by rfl, ?_⟩; intro w hSw; (try dsimp only at hSw); go_simp; all_goals with_reducible rfl)
          try simp only [Act.put, List.setIfInBounds_toArray, List.set_cons_zero, List.set_cons_succ]
          refine wpAnyH_take (i := 5) (oi := ?oir11_5) (v := ?vr11_5) ?hir11_5 (by kernel_rfl) (by kernel_rfl) (by kernel_rfl) ?hqr11_5 ?hyr11_5 (by assumption) ?restr11_5
          case hir11_5 => simp only [List.getElem?_toArray, List.getElem?_cons_succ, List.getElem?_cons_zero]; rfl
          case hqr11_5 => exact fun _ _ _ h => h
          case hyr11_5 => (refine Or.inl ⟨by rfl, ?_⟩; intro w hSw; (try dsimp only at hSw); go_simp; all_goals with_reducible rfl)
          try simp only [Act.put, List.setIfInBounds_toArray, List.set_cons_zero, List.set_cons_succ]
          refine wpAnyH_ready (rs := [7]) (by kernel_rfl) (by simp) ?_
          refine (AllReadyH.cons (o := ?ob13_7) ?hob13_7 (fun K hK => ?kb13_7) AllReadyH.nil)
          case hob13_7 => simp only [List.getElem?_toArray, List.getElem?_cons_succ, List.getElem?_cons_zero]; rfl
          case kb13_7 =>
            rw [if_pos (by rfl)]
            refine op_store_whole 27 _ _ rfl atRat _ _ _ RA.row rfl rfl rfl rfl (rat_one _ _ _ _ _ _ _) ?_
            refine hK.out _ _ ?_ (fun hHeld => ?_)
            · exact keep_one_row hHeld RA.lo B0.lt
            clear hK K
            try simp only [Act.put, List.setIfInBounds_toArray, List.set_cons_zero, List.set_cons_succ]
            refine wpAnyH_take (i := 8) (oi := ?oir12_8) (v := ?vr12_8) ?hir12_8 (by kernel_rfl) (by kernel_rfl) (by kernel_rfl) ?hqr12_8 ?hyr12_8 (by assumption) ?restr12_8
            case hir12_8 => simp only [List.getElem?_toArray, List.getElem?_cons_succ, List.getElem?_cons_zero]; rfl
            case hqr12_8 => exact fun _ _ _ h => h
            case hyr12_8 => (refine Or.inl ⟨by rfl, ?_⟩; intro w hSw; (try dsimp only at hSw); go_simp; all_goals with_reducible rfl)
            try simp only [Act.put, List.setIfInBounds_toArray, List.set_cons_zero, List.set_cons_succ]
            refine wpAnyH_done (by kernel_rfl) ?_ _
            go_wp2_with fail
            go_meet
            exact ⟨ap, np, cp, aq, nq, cq, _, rfl, rfl, RA.put _, rd_rowset z1 RA.row (rat_noint _ _ _ _ _ _ _) _, rd_rowset z2 RA.row (rat_noint _ _ _ _ _ _ _) _⟩
  case rest =>
  obtain ⟨ap, np, cp, aq, nq, cq, g, rfl, rfl, RG, z1, z2⟩ := hcut
  have LB := B0.below.trans (RG.below.mono B0.below.size)
  have k0 := RG.cell 0 _ rfl
  have k1 := RG.cell 1 _ rfl
  have k2 := RG.cell 2 _ rfl
  clear c0 c1 c2 x1 x2
  go_wp2_with fail
  have cc := ratFloor_any wc (g := Z.neg) z1 z2
  rw [show (⟨Z.neg, Z.num, Z.den⟩ : QV) = Z from rfl, FE.out] at cc
  refine cc.mono ?_
  rintro e1 w3 ⟨rfl, hb⟩
  clear cc k0 k1 k2 z1 z2 RG
  have LB := LB.trans (hb.mono LB.size)
  obtain ⟨f1, f2⟩ := f
  rcases FIN.out with ⟨h1, h2, h3⟩ | ⟨h1, h2, h3⟩ | ⟨h1, h2, h3⟩
  · obtain rfl : f2 = 0 := h1
    have d3 : decide ((1000000000000000 : Int) < f1) = false := decide_eq_false (by have h2 : f1 ≤ 1000000000000000 := h2; omega)
    have e := Lib.hid (show r = (f1, 0) from h3)
    clear h1 h2 h3
    go_wp2_with fail
    go_ret2
    exact ⟨by rw [e.out]; rfl, LB⟩
  · obtain rfl : f2 = 0 := h1
    have d3 : decide ((1000000000000000 : Int) < f1) = true := decide_eq_true h2
    have e := Lib.hid (show r = (0, 30) from h3)
    clear h1 h2 h3
    go_wp2_with fail
    go_ret2
    exact ⟨by rw [e.out]; rfl, LB⟩
  · obtain rfl : f2 = 30 := h1
    have e := Lib.hid (show r = (0, 30) from h3)
    clear h1 h2 h3
    go_wp2_with fail
    go_ret2
    exact ⟨by rw [e.out]; rfl, LB⟩

set_option maxRecDepth 100000 in
set_option maxHeartbeats 4000000 in
theorem refBill_any (w : World) {g : Bool} {a b : Option Addr} {n m c d : Nat} {xs ys : List Nat} (h1 : Rd .u32 w a n c xs) (h2 : Rd .u32 w b m d ys) :
    Calls Try.prog 27 #[ratV g a n c b m d] w (RetIEB w (billC ⟨g, xs, ys⟩)) := by
  obtain ⟨r, hr⟩ : ∃ r, r = billC ⟨g, xs, ys⟩ := ⟨_, rfl⟩
  rw [← hr]
  have B0 := Box.new w g a n c b m d
  have c0 := B0.at0
  have c1 := B0.at1
  have c2 := B0.at2
  by_cases hg : chkV ⟨g, xs, ys⟩ = 0
  case neg =>
    have e := Lib.hid (show r = (0, 2) by rw [hr, billC, if_neg (fun h => hg h.1)])
    have C := Lib.hid ((chkV_two _).resolve_left hg)
    clear hr hg
    go_enter Try.func27, Try.ntmps27
    go_wp2_with fail
    have cc := refRatCheck_any (neg := g) _ (h1.below B0.below) (h2.below B0.below)
    rw [C.out] at cc
    refine cc.mono ?_
    rintro e1 w1 ⟨rfl, hb⟩
    clear cc c0 c1 c2
    have B0 := B0.later hb
    have c0 := B0.at0
    have c1 := B0.at1
    have c2 := B0.at2
    clear hb
    go_wp2_with fail
    go_ret2
    exact ⟨by rw [e.out]; rfl, B0.below⟩
  have C := Lib.hid hg
  cases g
  case true =>
    have e := Lib.hid (show r = (0, 2) by rw [hr, billC, if_neg (fun h => Bool.noConfusion h.2)])
    clear hr hg
    go_enter Try.func27, Try.ntmps27
    go_wp2_with fail
    have cc := refRatCheck_any (neg := true) _ (h1.below B0.below) (h2.below B0.below)
    rw [C.out] at cc
    refine cc.mono ?_
    rintro e1 w1 ⟨rfl, hb⟩
    clear cc c0 c1 c2
    have B0 := B0.later hb
    have c0 := B0.at0
    have c1 := B0.at1
    have c2 := B0.at2
    clear hb
    go_wp2_with fail
    go_ret2
    exact ⟨by rw [e.out]; rfl, B0.below⟩
  case false =>
  rw [billC, if_pos ⟨hg, rfl⟩] at hr
  have L1 := h1.len
  have L2 := h2.len
  obtain ⟨q, e1, f1⟩ := chkV_get (x := ⟨false, xs, ys⟩) h1.bd h2.bd hg
  have ex : false = decide (q.num < 0) ∧ xs = limbs q.num.natAbs ∧ ys = limbs q.den := by
    unfold ofQ at e1
    injection e1 with e1 e3 e4
    exact ⟨e1, e3, e4⟩
  have hfl : flQ q = ((q.num.natAbs / q.den : Nat) : Int) := fl_pos ex.1.symm
  obtain ⟨fv, hfv⟩ : ∃ fv, fv = floorV ⟨false, xs, ys⟩ := ⟨_, rfl⟩
  have FL := Lib.hid hfv.symm
  have fve : fv = floorQ q := by rw [hfv, floorV, if_pos hg, e1, toQ_ofQ]
  by_cases hl : 90 < n
  · have e := Lib.hid (show r = (0, 30) by rw [hr, if_pos (.inl (by show 90 < xs.length; omega))])
    have d1 : decide ((90 : Int) < (n : Int)) = true := decide_eq_true (by omega)
    clear hr hl L1 L2 hg e1 f1 ex hfl hfv fve
    go_enter Try.func27, Try.ntmps27
    go_wp2_with fail
    have cc := refRatCheck_any (neg := false) _ (h1.below B0.below) (h2.below B0.below)
    rw [C.out] at cc
    refine cc.mono ?_
    rintro e1 w1 ⟨rfl, hb⟩
    clear cc c0 c1 c2
    have B0 := B0.later hb
    have c0 := B0.at0
    have c1 := B0.at1
    have c2 := B0.at2
    clear hb
    have x1 := h1.below B0.below
    have x2 := h2.below B0.below
    go_wp2_with fail
    have cc := refRatFloor_any w1 (g := false) x1 x2
    rw [FL.out] at cc
    refine cc.mono ?_
    rintro e1 w2 ⟨rfl, hb⟩
    clear cc c0 c1 c2
    have B0 := B0.later hb
    have c0 := B0.at0
    have c1 := B0.at1
    have c2 := B0.at2
    have x1 := x1.below hb
    have x2 := x2.below hb
    clear hb
    go_wp2_with fail
    go_ret2
    exact ⟨by rw [e.out]; rfl, B0.below⟩
  have d1 : decide ((90 : Int) < (n : Int)) = false := decide_eq_false (by omega)
  by_cases hl2 : 90 < m
  · have e := Lib.hid (show r = (0, 30) by rw [hr, if_pos (.inr (by show 90 < ys.length; omega))])
    have d2 : decide ((90 : Int) < (m : Int)) = true := decide_eq_true (by omega)
    clear hr hl hl2 L1 L2 hg e1 f1 ex hfl hfv fve
    go_enter Try.func27, Try.ntmps27
    go_wp2_with fail
    have cc := refRatCheck_any (neg := false) _ (h1.below B0.below) (h2.below B0.below)
    rw [C.out] at cc
    refine cc.mono ?_
    rintro e1 w1 ⟨rfl, hb⟩
    clear cc c0 c1 c2
    have B0 := B0.later hb
    have c0 := B0.at0
    have c1 := B0.at1
    have c2 := B0.at2
    clear hb
    have x1 := h1.below B0.below
    have x2 := h2.below B0.below
    go_wp2_with fail
    have cc := refRatFloor_any w1 (g := false) x1 x2
    rw [FL.out] at cc
    refine cc.mono ?_
    rintro e1 w2 ⟨rfl, hb⟩
    clear cc c0 c1 c2
    have B0 := B0.later hb
    have c0 := B0.at0
    have c1 := B0.at1
    have c2 := B0.at2
    have x1 := x1.below hb
    have x2 := x2.below hb
    clear hb
    go_wp2_with fail
    go_ret2
    exact ⟨by rw [e.out]; rfl, B0.below⟩
  have d2 : decide ((90 : Int) < (m : Int)) = false := decide_eq_false (by omega)
  rw [if_neg (by intro h; rcases h with h | h; (have h : 90 < xs.length := h; omega); (have h : 90 < ys.length := h; omega))] at hr
  obtain ⟨N, hN⟩ : ∃ N, N = q.num.natAbs := ⟨_, rfl⟩
  obtain ⟨D, hD⟩ : ∃ D, D = q.den := ⟨_, rfl⟩
  have dp : 0 < D := by rw [hD]; exact q.den_pos
  have n90 : N < pw 90 := by rw [hN]; exact len90 (by rw [← ex.2.1]; omega)
  have d90 : D < pw 90 := by rw [hD]; exact len90 (by rw [← ex.2.2]; omega)
  have hr : r = tellN (N * 1000000000 / D) := by
    rw [hr]
    show tellN (val xs * 1000000000 / val ys) = _
    rw [ex.2.1, ex.2.2, val_limbs, val_limbs, hN, hD]
  rw [← hN, ← hD] at hfl
  obtain ⟨n0, hn0⟩ : ∃ z, z = N / D := ⟨_, rfl⟩
  rw [← hn0] at hfl
  have N0 := Lib.hid hn0
  have EX := Lib.hid (show xs = limbs N ∧ ys = limbs D from ⟨by rw [hN]; exact ex.2.1, by rw [hD]; exact ex.2.2⟩)
  by_cases far : n0 ≤ 1000000
  case neg =>
    have e := Lib.hid (show r = (0, 30) by rw [hr, tellN, if_neg (far_great dp (by rw [← hn0]; omega))])
    have ways : (∃ z : Int, fv = (z, 0) ∧ 1000000 < z) ∨ fv = (0, 30) := by
      rw [fve]
      by_cases h : (n0 : Int) < 9223372036854775808
      · exact .inl ⟨_, floor_in hfl (by omega) h, by omega⟩
      · exact .inr (floor_out hfl (by omega))
    have WS := Lib.hid ways
    clear hr hl hl2 L1 L2 hg e1 f1 ex hfl hfv fve far ways hN hD dp n90 d90 hn0
    go_enter Try.func27, Try.ntmps27
    go_wp2_with fail
    have cc := refRatCheck_any (neg := false) _ (h1.below B0.below) (h2.below B0.below)
    rw [C.out] at cc
    refine cc.mono ?_
    rintro e1 w1 ⟨rfl, hb⟩
    clear cc c0 c1 c2
    have B0 := B0.later hb
    have c0 := B0.at0
    have c1 := B0.at1
    have c2 := B0.at2
    clear hb
    have x1 := h1.below B0.below
    have x2 := h2.below B0.below
    go_wp2_with fail
    have cc := refRatFloor_any w1 (g := false) x1 x2
    rw [FL.out] at cc
    refine cc.mono ?_
    rintro e1 w2 ⟨rfl, hb⟩
    clear cc c0 c1 c2
    have B0 := B0.later hb
    have c0 := B0.at0
    have c1 := B0.at1
    have c2 := B0.at2
    have x1 := x1.below hb
    have x2 := x2.below hb
    clear hb
    rcases WS.out with ⟨z, hz, h2⟩ | hz
    · subst hz
      have d3 : decide (1000000 < z) = true := decide_eq_true h2
      clear h2
      go_wp2_with fail
      go_ret2
      exact ⟨by rw [e.out]; rfl, B0.below⟩
    · subst hz
      go_wp2_with fail
      go_ret2
      exact ⟨by rw [e.out]; rfl, B0.below⟩
  obtain rfl : fv = ((n0 : Int), 0) := by rw [fve]; exact floor_in hfl (by omega) (by omega)
  have HR := Lib.hid hr
  have NB := Lib.hid (show N < pw 96 ∧ D < pw 96 ∧ 0 < D ∧ D < pw 90 from ⟨Nat.lt_of_lt_of_le n90 (pw_le (by decide)), Nat.lt_of_lt_of_le d90 (pw_le (by decide)), dp, d90⟩)
  have FAR := Lib.hid (show N / D ≤ 1000000 by rw [← hn0]; exact far)
  have d3 : decide ((1000000 : Int) < (n0 : Int)) = false := decide_eq_false (by omega)
  obtain ⟨r0, hr0⟩ : ∃ z, z = N % D := ⟨_, rfl⟩
  have R0 := Lib.hid hr0
  have DE := Lib.hid (show divC (limbs N) (limbs D) = (limbs n0, limbs r0, 0) by rw [div_ok NB.out.1 NB.out.2.1 NB.out.2.2.1, hn0, hr0])
  clear hr hl hl2 L1 L2 hg e1 f1 ex hfl fve far hN hD dp n90 d90 hn0 hr0
  go_enter Try.func27, Try.ntmps27
  go_wp2_with fail
  have cc := refRatCheck_any (neg := false) _ (h1.below B0.below) (h2.below B0.below)
  rw [C.out] at cc
  refine cc.mono ?_
  rintro e1 w1 ⟨rfl, hb⟩
  clear cc c0 c1 c2
  have B0 := B0.later hb
  have c0 := B0.at0
  have c1 := B0.at1
  have c2 := B0.at2
  clear hb
  have x1 := h1.below B0.below
  have x2 := h2.below B0.below
  go_wp2_with fail
  have cc := refRatFloor_any w1 (g := false) x1 x2
  rw [FL.out] at cc
  refine cc.mono ?_
  rintro e1 w2 ⟨rfl, hb⟩
  clear cc c0 c1 c2
  have B0 := B0.later hb
  have c0 := B0.at0
  have c1 := B0.at1
  have c2 := B0.at2
  have x1 := x1.below hb
  have x2 := x2.below hb
  clear hb
  go_wp2_with fail
  rw [EX.out.1] at x1
  rw [EX.out.2] at x2
  have cc := refDiv_any w2 x1 x2
  rw [DE.out] at cc
  refine cc.mono ?_
  rintro e1 w3 ⟨a4, n4, c4, a5, n5, c5, rfl, -, z0, hb⟩
  clear cc c0 c1 c2 x1
  have B0 := B0.later hb
  have x2 := x2.below hb
  clear hb
  go_wp2_with fail
  go_loopw [2, 3, 7, 9, 10] (fun o1 o2 s v i wr => o1 = .int .i64 0 ∧ o2 = .int .i64 0 ∧ ∃ (k : Nat) (a9 : Option Addr) (ns cs T R : Nat), k ≤ 9 ∧ i = .int .i64 (k : Nat) ∧ v = .int .i64 (T : Nat) ∧ s = .slice a9 ns cs ∧ Rd .u32 wr a9 ns cs (limbs R) ∧ Hid (T = N * 10 ^ k / D ∧ R = N * 10 ^ k % D) ∧ Below w3.heap.size w3 wr) (fun _ _ _ _ i _ => 9 - (intOf i).toNat)
  case atStart => exact ⟨rfl, rfl, 0, a5, n5, c5, n0, r0, Nat.zero_le _, rfl, rfl, rfl, z0, Lib.hid ⟨by rw [Nat.pow_zero, Nat.mul_one]; exact N0.out, by rw [Nat.pow_zero, Nat.mul_one]; exact R0.out⟩, Below.refl _ _⟩
  case round =>
    obtain ⟨rfl, rfl, k, a9, ns, cs, T, R, hk, rfl, rfl, rfl, zr, HT, BW⟩ := hrel
    have HK := Lib.hid hk
    clear z0
    by_cases hlt : k < 9
    · have RL := Lib.hid (show R < D by rw [HT.out.2]; exact Nat.mod_lt _ NB.out.2.2.1)
      have HLT := Lib.hid hlt
      have dk : decide ((k : Int) < 9) = true := decide_eq_true (by omega)
      go_wp2_with fail
      go_loopw [2, 3, 11, 12] (fun o1 o2 s i wr2 => o1 = .int .i64 0 ∧ o2 = .int .i64 0 ∧ ∃ (j : Nat) (at' : Option Addr) (nt ct : Nat), j ≤ 9 ∧ i = .int .i64 (j : Nat) ∧ s = .slice at' nt ct ∧ Rd .u32 wr2 at' nt ct (limbs ((j + 1) * R)) ∧ Below wr.heap.size wr wr2) (fun _ _ _ i _ => 9 - (intOf i).toNat)
      case atStart => exact ⟨rfl, rfl, 0, a9, ns, cs, Nat.zero_le _, rfl, rfl, by rw [Nat.zero_add, Nat.one_mul]; exact zr, Below.refl _ _⟩
      case round =>
        obtain ⟨rfl, rfl, j, at', nt, ct, hj, rfl, rfl, zt, BV⟩ := hrel
        have zr2 := zr.below BV
        by_cases jlt : j < 9
        · have HJ := Lib.hid jlt
          have AF := Lib.hid (show addC (limbs ((j + 1) * R)) (limbs R) = (limbs ((j + 1 + 1) * R), 0) by
            rw [add_ok, ← Nat.succ_mul]
            have h1 : (j + 1) * R + R ≤ 10 * R := by rw [← Nat.succ_mul]; exact Nat.mul_le_mul_right _ (by omega)
            have h2 : 10 * D < pw 91 := by
              rw [show pw 91 = pw 90 * 4294967296 from rfl]
              have := NB.out.2.2.2
              generalize pw 90 = P at *
              omega
            have h3 : pw 91 ≤ pw 96 := pw_le (by decide)
            have := RL.out
            omega)
          go_wp2_with fail
          have cc := refAdd_any _ zt zr2
          rw [AF.out] at cc
          refine cc.mono ?_
          rintro e1 w5 ⟨a6, n6, c6, rfl, y6, hb⟩
          have BV := BV.trans (hb.mono BV.size)
          clear cc hb zt zr2
          go_wp2_with fail
          go_roundw
          case rel => exact ⟨rfl, rfl, j + 1, a6, n6, c6, by have := HJ.out; omega, by go_num, rfl, y6, BV⟩
          case measure => simp [intOf]; have := HJ.out; omega
        · obtain rfl : j = 9 := by omega
          have B1 := BW.trans (BV.mono BW.size)
          have B2 := B0.later B1
          have c2 := B2.at2
          have x3 := x2.below B1
          have ds := digit_step N D k NB.out.2.2.1
          rw [← HT.out.1, ← HT.out.2] at ds
          have DS := Lib.hid ds
          obtain ⟨g, hg⟩ : ∃ g, g = 10 * R / D := ⟨_, rfl⟩
          obtain ⟨R', hR'⟩ : ∃ R', R' = 10 * R % D := ⟨_, rfl⟩
          rw [← hg, ← hR'] at DS
          have g10 : g < 10 := by rw [hg]; exact digit_lt RL.out
          have TB : 10 * T + g < 1000001000000000 := by
            have := digit_bd (N := N) (D := D) (k := k + 1) NB.out.2.2.1 (by omega) FAR.out
            rw [ds.1, ← hg] at this
            exact this
          have DV := Lib.hid (show divC (limbs ((9 + 1) * R)) (limbs D) = (limbs g, limbs R', 0) by
            rw [hg, hR']
            refine div_ok ?_ NB.out.2.1 NB.out.2.2.1
            have h2 : 10 * D < pw 91 := by
              rw [show pw 91 = pw 90 * 4294967296 from rfl]
              have := NB.out.2.2.2
              generalize pw 90 = P at *
              omega
            have h3 : pw 91 ≤ pw 96 := pw_le (by decide)
            have := RL.out
            omega)
          have cg : IntKind.i64.wrap (g : Int) = (g : Int) := wrap_i64 (by omega) (by omega)
          obtain ⟨T', hT'⟩ : ∃ T', T' = 10 * T + g := ⟨_, rfl⟩
          obtain ⟨T1, hT1⟩ : ∃ T1, T1 = 10 * T := ⟨_, rfl⟩
          have t1 : IntKind.i64.wrap (10 * (T : Int)) = (T1 : Int) := by rw [wrap_i64 (by omega) (by omega), hT1]; omega
          have t1' : wrap64 (10 * (T : Int)) = (T1 : Int) := by simp only [wrap64]; omega
          have t2 : IntKind.i64.wrap ((T1 : Int) + (g : Int)) = (T' : Int) := by rw [wrap_i64 (by omega) (by omega), hT', hT1]; omega
          have t2' : wrap64 ((T1 : Int) + (g : Int)) = (T' : Int) := by simp only [wrap64]; omega
          have g64 : g < 18446744073709551616 := Nat.lt_trans g10 (by decide)
          have WG : Hid (wordC (limbs g) = (g, 0)) := Lib.hid (word_ok g64)
          have TE := Lib.hid (show T' = N * 10 ^ (k + 1) / D ∧ R' = N * 10 ^ (k + 1) % D from ⟨by rw [hT']; exact DS.out.1.symm, DS.out.2.symm⟩)
          clear ds hg hR' g10 g64 TB hT' hT1 hj jlt
          go_wp2_with fail
          have cc := refDiv_any _ zt x3
          rw [DV.out] at cc
          refine cc.mono ?_
          rintro e1 w6 ⟨a7, n7, c7, a8, n8, c8, rfl, y7, y8, hb⟩
          have B1 := B1.trans (hb.mono B1.size)
          clear cc hb zt c2 x3 zr2
          go_wp2_with fail
          have cc := refWord_any _ y7
          rw [WG.out] at cc
          refine cc.mono ?_
          rintro e1 w7 ⟨rfl, hw⟩
          subst hw
          clear cc
          go_wp2_with fail
          go_roundw
          case rel => exact ⟨rfl, rfl, k + 1, a8, n8, c8, T', R', by have := HLT.out; omega, by go_num, by first | rfl | (rw [t1', t2']) | go_num, rfl, y8, TE, B1⟩
          case measure => simp [intOf]; have := HLT.out; omega
    · obtain rfl : k = 9 := by omega
      have LB := (B0.later BW).below
      by_cases ok : T ≤ 1000000000000000
      · have e := Lib.hid (show r = ((T : Int), 0) by rw [HR.out, show N * 1000000000 / D = T from HT.out.1.symm, tellN, if_pos ok])
        have d4 : decide ((1000000000000000 : Int) < (T : Int)) = false := decide_eq_false (by omega)
        clear ok hlt hk
        go_wp2_with fail
        go_ret2
        exact ⟨by rw [e.out]; rfl, LB⟩
      · have e := Lib.hid (show r = (0, 30) by rw [HR.out, show N * 1000000000 / D = T from HT.out.1.symm, tellN, if_neg ok])
        have d4 : (1000000000000000 : Int) < (T : Int) := by omega
        clear ok hlt hk
        go_wp2_with fail
        go_ret2
        exact ⟨by rw [e.out]; rfl, LB⟩

end Go.Proofs.Ytfcejgeckcoefaa
