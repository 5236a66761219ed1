/- Slices of int; Div64, both ways; quota.all and product. Printed by gen_quod.py. -/
import Derived.Test.YtfcejgeckcoefaaQuoC
namespace Go.Suf
open Go.RowKit
set_option linter.unusedVariables false
set_option linter.unusedSimpArgs false

def intsV (xs : List Int) : List Value := xs.map fun x => Value.int .i64 x
theorem intsV_size (xs : List Int) : (intsV xs).length = xs.length := by simp [intsV]
theorem intsV_get (xs : List Int) (i : Nat) : (intsV xs)[i]? = (xs[i]?).map fun x => Value.int .i64 x := by simp [intsV]
theorem intsV_one (xs : List Int) : ∀ u ∈ intsV xs, u.oneCell' = true := by
  intro u hu
  simp [intsV] at hu
  obtain ⟨x, _, rfl⟩ := hu
  rfl

/-- The slice of n elements at a reads as the integers xs. -/
structure RdI (w : World) (a : Option Addr) (n cap : Nat) (xs : List Int) : Prop where
  len : xs.length = n
  sl : Sl w a cap (intsV xs)
  bd : ∀ x ∈ xs, -9223372036854775808 ≤ x ∧ x ≤ 9223372036854775807

theorem RdI.nil (w : World) : RdI w none 0 0 [] := ⟨rfl, Sl.empty w none 0 (Nat.zero_le _) (fun _ => rfl), fun x hx => by simp at hx⟩
theorem RdI.below {w w' : World} {a : Option Addr} {n cap : Nat} {xs : List Int} (h : RdI w a n cap xs) (hb : Below w.heap.size w w') : RdI w' a n cap xs := ⟨h.len, h.sl.below hb, h.bd⟩
theorem RdI.le {w : World} {a : Option Addr} {n cap : Nat} {xs : List Int} (h : RdI w a n cap xs) : n ≤ cap := by
  have h1 := h.sl.le
  rw [intsV_size, h.len] at h1
  exact h1
theorem RdI.lt {w : World} {a : Option Addr} {n cap : Nat} {xs : List Int} (h : RdI w a n cap xs) : n ≤ 9223372036854775807 := by
  have h1 := h.le
  have h2 := h.sl.max
  unfold maxLen at h2
  omega

/-- The i-th integer. -/
def ith (xs : List Int) (i : Nat) : Int := xs.getD i 0

theorem RdI.addr {w : World} {a : Option Addr} {n cap : Nat} {xs : List Int} (h : RdI w a n cap xs) (hp : 0 < n) :
    ∃ b off, a = some ⟨b, off, none⟩ ∧ ∀ i, i < n → w.cell? ⟨b, off + i, none⟩ = some (.int .i64 (ith xs i)) := by
  have hl := h.len
  obtain ⟨b, off, e, hw⟩ := h.sl.addr (by rw [intsV_size]; omega)
  refine ⟨b, off, e, fun i hi => hw i _ ?_⟩
  unfold ith
  rw [intsV_get, List.getElem?_eq_getElem (by omega), List.getD, List.getElem?_eq_getElem (by omega)]
  rfl
end Go.Suf
namespace Go.Proofs.Ytfcejgeckcoefaa
open Go.RowKit Go.Suf
set_option linter.unusedVariables false
set_option linter.unusedSimpArgs false

set_option maxRecDepth 100000 in
set_option maxHeartbeats 2000000 in
theorem Div64_zero (w : World) (lo y : Nat) (hy : y < 18446744073709551616) (hl : lo < 18446744073709551616) (h0 : 0 < y) :
    Calls Try.prog 68 #[.int .u64 0, .int .u64 (lo : Nat), .int .u64 (y : Nat)] w fun e w' => e = .returned (.tuple #[.int .u64 ((lo / y : Nat) : Int), .int .u64 ((lo % y : Nat) : Int)]) ∧ Below w.heap.size w w' := by
  obtain ⟨q, hq⟩ : ∃ q, q = lo / y := ⟨_, rfl⟩
  obtain ⟨m, hm⟩ : ∃ m, m = lo % y := ⟨_, rfl⟩
  rw [← hq, ← hm]
  have y0 : ((y : Int) == 0) = false := beq_eq_false_iff_ne.2 (by omega)
  have yh : decide ((y : Int) ≤ 0) = false := decide_eq_false (by omega)
  have yn : ¬ ((y : Int) = 0) := by omega
  have yn2 : ¬ (y = 0) := by omega
  have f1 : (lo : Int).tdiv (y : Int) = (q : Int) := by rw [Int.tdiv_eq_ediv_of_nonneg (by omega), hq]; exact (Int.natCast_ediv _ _).symm
  have f2 : (lo : Int).tmod (y : Int) = (m : Int) := by rw [Int.tmod_eq_emod_of_nonneg (by omega), hm]; exact (Int.natCast_emod _ _).symm
  have qb : q < 18446744073709551616 := by rw [hq]; exact Nat.lt_of_le_of_lt (Nat.div_le_self _ _) hl
  have mb : m < 18446744073709551616 := by rw [hm]; exact Nat.lt_of_le_of_lt (Nat.mod_le _ _) hl
  have f3 : IntKind.u64.wrap (q : Int) = (q : Int) := wrap_u64 (by omega) (by omega)
  have f4 : IntKind.u64.wrap (m : Int) = (m : Int) := wrap_u64 (by omega) (by omega)
  clear hq hm qb mb hy hl h0
  go_enter Try.func68, Try.ntmps68
  go_upto_region 6 with fail
  refine wp_region_any (by kernel_rfl) ?_
  change wpAny _ _ _ _ _ _ _ (World.drew _)
  refine wpAny_take (i := 0) (oi := ?oir1_0) (v := ?vr1_0) ?hir1_0 (by kernel_rfl) (by kernel_rfl) (by kernel_rfl) ?hqr1_0 ?hyr1_0 ?restr1_0
  case hir1_0 => simp only [List.getElem?_toArray, List.getElem?_cons_succ, List.getElem?_cons_zero]; rfl
  case hqr1_0 => exact fun _ _ _ h => h
  case hyr1_0 => (refine Or.inl ⟨by rfl, ?_⟩; intro w; go_simp; all_goals with_reducible rfl)
  try simp only [Act.put, List.setIfInBounds_toArray, List.set_cons_zero, List.set_cons_succ]
  refine wpAny_take (i := 1) (oi := ?oir1_1) (v := ?vr1_1) ?hir1_1 (by kernel_rfl) (by kernel_rfl) (by kernel_rfl) ?hqr1_1 ?hyr1_1 ?restr1_1
  case hir1_1 => simp only [List.getElem?_toArray, List.getElem?_cons_succ, List.getElem?_cons_zero]; rfl
  case hqr1_1 => exact fun _ _ _ h => h
  case hyr1_1 => (refine Or.inl ⟨by rfl, ?_⟩; intro w; go_simp; all_goals with_reducible rfl)
  try simp only [Act.put, List.setIfInBounds_toArray, List.set_cons_zero, List.set_cons_succ]
  refine wpAny_take (i := 2) (oi := ?oir1_2) (v := ?vr1_2) ?hir1_2 (by kernel_rfl) (by kernel_rfl) (by kernel_rfl) ?hqr1_2 ?hyr1_2 ?restr1_2
  case hir1_2 => simp only [List.getElem?_toArray, List.getElem?_cons_succ, List.getElem?_cons_zero]; rfl
  case hqr1_2 => exact fun _ _ _ h => h
  case hyr1_2 => (refine Or.inl ⟨by rfl, ?_⟩; intro w; go_simp; all_goals with_reducible rfl)
  try simp only [Act.put, List.setIfInBounds_toArray, List.set_cons_zero, List.set_cons_succ]
  refine wpAny_take (i := 3) (oi := ?oir1_3) (v := ?vr1_3) ?hir1_3 (by kernel_rfl) (by kernel_rfl) (by kernel_rfl) ?hqr1_3 ?hyr1_3 ?restr1_3
  case hir1_3 => simp only [List.getElem?_toArray, List.getElem?_cons_succ, List.getElem?_cons_zero]; rfl
  case hqr1_3 => exact fun _ _ _ h => h
  case hyr1_3 => (refine Or.inl ⟨by rfl, ?_⟩; intro w; go_simp; all_goals with_reducible rfl)
  try simp only [Act.put, List.setIfInBounds_toArray, List.set_cons_zero, List.set_cons_succ]
  refine wpAny_take (i := 4) (oi := ?oir1_4) (v := ?vr1_4) ?hir1_4 (by kernel_rfl) (by kernel_rfl) (by kernel_rfl) ?hqr1_4 ?hyr1_4 ?restr1_4
  case hir1_4 => simp only [List.getElem?_toArray, List.getElem?_cons_succ, List.getElem?_cons_zero]; rfl
  case hqr1_4 => exact fun _ _ _ h => h
  case hyr1_4 => (refine Or.inl ⟨by rfl, ?_⟩; intro w; go_simp; all_goals with_reducible rfl)
  try simp only [Act.put, List.setIfInBounds_toArray, List.set_cons_zero, List.set_cons_succ]
  refine wpAny_take (i := 5) (oi := ?oir1_5) (v := ?vr1_5) ?hir1_5 (by kernel_rfl) (by kernel_rfl) (by kernel_rfl) ?hqr1_5 ?hyr1_5 ?restr1_5
  case hir1_5 => simp only [List.getElem?_toArray, List.getElem?_cons_succ, List.getElem?_cons_zero]; rfl
  case hqr1_5 => exact fun _ _ _ h => h
  case hyr1_5 => (refine Or.inl ⟨by rfl, ?_⟩; intro w; go_simp; all_goals with_reducible rfl)
  try simp only [Act.put, List.setIfInBounds_toArray, List.set_cons_zero, List.set_cons_succ]
  refine wpAny_take (i := 6) (oi := ?oir1_6) (v := ?vr1_6) ?hir1_6 (by kernel_rfl) (by kernel_rfl) (by kernel_rfl) ?hqr1_6 ?hyr1_6 ?restr1_6
  case hir1_6 => simp only [List.getElem?_toArray, List.getElem?_cons_succ, List.getElem?_cons_zero]; rfl
  case hqr1_6 => exact fun _ _ _ h => h
  case hyr1_6 => (refine Or.inl ⟨by rfl, ?_⟩; intro w; go_simp; all_goals with_reducible rfl)
  try simp only [Act.put, List.setIfInBounds_toArray, List.set_cons_zero, List.set_cons_succ]
  refine wpAny_take (i := 7) (oi := ?oir1_7) (v := ?vr1_7) ?hir1_7 (by kernel_rfl) (by kernel_rfl) (by kernel_rfl) ?hqr1_7 ?hyr1_7 ?restr1_7
  case hir1_7 => simp only [List.getElem?_toArray, List.getElem?_cons_succ, List.getElem?_cons_zero]; rfl
  case hqr1_7 => exact fun _ _ _ h => h
  case hyr1_7 => (refine Or.inl ⟨by rfl, ?_⟩; intro w; go_simp; all_goals with_reducible rfl)
  try simp only [Act.put, List.setIfInBounds_toArray, List.set_cons_zero, List.set_cons_succ]
  refine wpAny_done (by kernel_rfl) ?_ _
  go_wp2_with fail
  go_ret2
  exact ⟨rfl, (Below.refl _ _).drew⟩

theorem Div64_all (w : World) (hi lo y : Nat) (hy : y < 18446744073709551616) (hh : hi < y) (hl : lo < 18446744073709551616) :
    Calls Try.prog 68 #[.int .u64 (hi : Nat), .int .u64 (lo : Nat), .int .u64 (y : Nat)] w fun e w' => e = .returned (.tuple #[.int .u64 (((hi * 18446744073709551616 + lo) / y : Nat) : Int), .int .u64 (((hi * 18446744073709551616 + lo) % y : Nat) : Int)]) ∧ Below w.heap.size w w' := by
  by_cases h0 : hi = 0
  · subst h0
    rw [Nat.zero_mul, Nat.zero_add]
    exact Div64_zero w lo y hy hl (by omega)
  · exact Div64_any w hi lo y hy hh hl (by omega)

/-! ### all -/

theorem all_step {vs : List Int} {k : Nat} (hk : k < vs.length) (h : ∀ j, j < k → inQ (ith vs j)) (h2 : inQ (ith vs k)) : ∀ j, j < k + 1 → inQ (ith vs j) := fun j hj => by
  by_cases e : j = k
  · rw [e]; exact h2
  · exact h j (by omega)

theorem all_end {vs : List Int} (h : ∀ j, j < vs.length → inQ (ith vs j)) : (vs.all fun x => decide (inQ x)) = true := by
  rw [List.all_eq_true]
  intro x hx
  obtain ⟨j, hj, e⟩ := List.mem_iff_getElem.1 hx
  have := h j hj
  rw [ith, List.getD, List.getElem?_eq_getElem hj, Option.getD_some, e] at this
  exact decide_eq_true this

theorem all_not {vs : List Int} {k : Nat} (hk : k < vs.length) (h : ¬ inQ (ith vs k)) : (vs.all fun x => decide (inQ x)) = false := by
  rw [List.all_eq_false]
  refine ⟨vs[k], List.getElem_mem hk, ?_⟩
  rw [ith, List.getD, List.getElem?_eq_getElem hk, Option.getD_some] at h
  simpa using h

set_option maxHeartbeats 1000000 in
theorem all_any (w : World) {av : Option Addr} {nv cv : Nat} {vs : List Int} (hv : RdI w av nv cv vs) :
    Calls Try.prog 39 #[.slice av nv cv] w fun e w' => e = .returned (.bool (vs.all fun x => decide (inQ x))) ∧ w' = w := by
  obtain ⟨r, hr⟩ : ∃ r, r = (vs.all fun x => decide (inQ x)) := ⟨_, rfl⟩
  rw [← hr]
  have HR := Lib.hid hr
  have HL := Lib.hid hv.len
  have hn := hv.lt
  clear hr
  go_enter Try.func39, Try.ntmps39
  go_wp2_with fail
  go_loopw [7] (fun i wr => wr = w ∧ ∃ (k : Nat), k ≤ nv ∧ i = .int .i64 (k : Nat) ∧ Hid (∀ j, j < k → inQ (ith vs j))) (fun i _ => nv - (intOf i).toNat)
  case atStart => exact ⟨rfl, 0, Nat.zero_le _, rfl, Lib.hid (fun j hj => absurd hj (Nat.not_lt_zero _))⟩
  case round =>
    obtain ⟨hw, k, hk, rfl, HK⟩ := hrel
    subst hw
    by_cases hlt : k < nv
    · obtain ⟨bv, off, rfl, hall⟩ := hv.addr (by omega)
      have hcell := hall k hlt
      obtain ⟨x, hx⟩ : ∃ x, x = ith vs k := ⟨_, rfl⟩
      rw [← hx] at hcell
      have HX := Lib.hid hx
      have HLT := Lib.hid hlt
      have cc := within_any wr x 0 1000000000000000
      clear hall hx
      by_cases hi : inQ x
      · rw [decide_eq_true (show 0 ≤ x ∧ x ≤ 1000000000000000 from hi)] at cc
        have HI := Lib.hid hi
        clear hi
        go_wp2_with fail
        refine cc.mono ?_
        rintro e1 w9 ⟨rfl, rfl⟩
        go_wp2_with fail
        go_roundw
        case rel => exact ⟨by first | rfl | trivial, k + 1, by have := HLT.out; omega, by go_num, Lib.hid (all_step (by rw [HL.out]; exact HLT.out) HK.out (by rw [← HX.out]; exact HI.out))⟩
        case measure => simp [intOf]; have := HLT.out; omega
      · rw [decide_eq_false (show ¬ (0 ≤ x ∧ x ≤ 1000000000000000) from hi)] at cc
        have e := Lib.hid (show r = false by rw [HR.out]; exact all_not (k := k) (by rw [HL.out]; exact HLT.out) (by rw [← HX.out]; exact hi))
        clear hi
        go_wp2_with fail
        refine cc.mono ?_
        rintro e1 w9 ⟨rfl, rfl⟩
        go_wp2_with fail
        go_ret
        exact ⟨by rw [e.out]; rfl, rfl⟩
    · obtain rfl : k = nv := by omega
      have e := Lib.hid (show r = true by rw [HR.out]; exact all_end (by rw [HL.out]; exact HK.out))
      go_wp2_with fail
      go_ret
      exact ⟨by rw [e.out]; rfl, rfl⟩

/-! ### product -/

def prodQ (a b c : Nat) : Nat × Nat × Bool := if c ≤ a * b / 18446744073709551616 then (0, 0, false) else (min (a * b / c) 1000000000000001, a * b % c, decide (a * b / c ≤ 1000000000000000))

set_option maxRecDepth 100000 in
set_option maxHeartbeats 2000000 in
theorem qproduct_any (w : World) (a b c : Nat) (ha : a ≤ 1000000000000000) (hb : b ≤ 1000000000000000) (hc : c ≤ 1000000000000000) (h0 : 0 < c) :
    Calls Try.prog 43 #[.int .i64 (a : Nat), .int .i64 (b : Nat), .int .i64 (c : Nat)] w fun e w' => e = .returned (.tuple #[.int .i64 ((prodQ a b c).1 : Nat), .int .i64 ((prodQ a b c).2.1 : Nat), .bool (prodQ a b c).2.2]) ∧ Below w.heap.size w w' := by
  obtain ⟨r, hr⟩ : ∃ r, r = prodQ a b c := ⟨_, rfl⟩
  rw [← hr]
  have ca : IntKind.u64.wrap (a : Int) = (a : Int) := wrap_u64 (by omega) (by omega)
  have cb : IntKind.u64.wrap (b : Int) = (b : Int) := wrap_u64 (by omega) (by omega)
  have cc' : IntKind.u64.wrap (c : Int) = (c : Int) := wrap_u64 (by omega) (by omega)
  obtain ⟨hi, hhi⟩ : ∃ hi, hi = a * b / 18446744073709551616 := ⟨_, rfl⟩
  obtain ⟨lo, hlo⟩ : ∃ lo, lo = a * b % 18446744073709551616 := ⟨_, rfl⟩
  have MC := fun w => Mul64_any w a b (by omega) (by omega)
  rw [← hhi, ← hlo] at MC
  have EQ := Lib.hid (show a * b = hi * 18446744073709551616 + lo by rw [hhi, hlo]; generalize a * b = z; omega)
  have LB := Lib.hid (show lo < 18446744073709551616 by rw [hlo]; exact Nat.mod_lt _ (by decide))
  have CB := Lib.hid (show c ≤ 1000000000000000 ∧ 0 < c from ⟨hc, h0⟩)
  have HR := Lib.hid hr
  have HHI := Lib.hid hhi
  clear hr hhi hlo ha hb hc h0
  by_cases far : c ≤ hi
  · have e := Lib.hid (show r = (0, 0, false) by rw [HR.out, prodQ, if_pos (by rw [← HHI.out]; exact far)])
    have d1 : decide ((c : Int) ≤ (hi : Int)) = true := decide_eq_true (by omega)
    have d1n : decide (c ≤ hi) = true := decide_eq_true far
    clear far
    go_enter Try.func43, Try.ntmps43
    go_wp2_with fail
    refine (MC _).mono ?_
    rintro e1 w9 ⟨rfl, hw⟩
    subst hw
    clear MC
    go_wp2_with fail
    go_ret3
    exact ⟨by rw [e.out]; rfl, below_al _ _⟩
  · obtain ⟨q, hq⟩ : ∃ q, q = a * b / c := ⟨_, rfl⟩
    obtain ⟨m, hm⟩ : ∃ m, m = a * b % c := ⟨_, rfl⟩
    have e := Lib.hid (show r = (min q 1000000000000001, m, decide (q ≤ 1000000000000000)) by rw [HR.out, prodQ, if_neg (by rw [← HHI.out]; exact far), hq, hm])
    have d1 : decide ((c : Int) ≤ (hi : Int)) = false := decide_eq_false (by omega)
    have d1n : decide (c ≤ hi) = false := decide_eq_false far
    have DC := fun w => Div64_all w hi lo c (by have := CB.out; omega) (by omega) LB.out
    rw [← EQ.out, ← hq, ← hm] at DC
    have mb : m ≤ 1000000000000000 := by
      have h1 := CB.out
      have h2 : m < c := by rw [hm]; exact Nat.mod_lt _ h1.2
      omega
    have cm : IntKind.i64.wrap (m : Int) = (m : Int) := wrap_i64 (by omega) (by omega)
    clear far hq hm mb
    by_cases big : q ≤ 1000000000000000
    · have d2 : decide ((q : Int) ≤ 1000000000000000) = true := decide_eq_true (by omega)
      have e := Lib.hid (show r = (q, m, true) by rw [e.out, Nat.min_eq_left (by omega), decide_eq_true big])
      have cq : IntKind.i64.wrap (q : Int) = (q : Int) := wrap_i64 (by omega) (by omega)
      have lq : decide ((q : Int) < 1000000000000001) = true := decide_eq_true (by omega)
      have lq2 : decide ((1000000000000001 : Int) < (q : Int)) = false := decide_eq_false (by omega)
      have lq3 : min (q : Int) 1000000000000001 = (q : Int) := by omega
      go_enter Try.func43, Try.ntmps43
      go_wp2_with fail
      refine (MC _).mono ?_
      rintro e1 w9 ⟨rfl, hw⟩
      subst hw
      clear MC
      go_wp2_with fail
      refine (DC _).mono ?_
      rintro e1 w9 ⟨rfl, hb⟩
      clear DC
      go_wp2_with fail
      go_ret3
      exact ⟨by rw [e.out]; rfl, (below_al _ _).trans (hb.mono (by rw [World.size_alloc]; omega))⟩
    · have d2 : decide ((q : Int) ≤ 1000000000000000) = false := decide_eq_false (by omega)
      have e := Lib.hid (show r = (1000000000000001, m, false) by rw [e.out, Nat.min_eq_right (by omega), decide_eq_false big])
      have w5 : IntKind.i64.wrap 1000000000000001 = 1000000000000001 := wrap_i64 (by omega) (by omega)
      have w6 : wrap64 1000000000000001 = 1000000000000001 := by simp only [wrap64]; omega
      have BG := Lib.hid big
      clear big
      go_enter Try.func43, Try.ntmps43
      go_wp2_with fail
      refine (MC _).mono ?_
      rintro e1 w9 ⟨rfl, hw⟩
      subst hw
      clear MC
      go_wp2_with fail
      refine (DC _).mono ?_
      rintro e1 w9 ⟨rfl, hb⟩
      clear DC
      go_wp2_with fail
      all_goals go_ret3
      all_goals first
        | exact ⟨by rw [e.out]; rfl, (below_al _ _).trans (hb.mono (by rw [World.size_alloc]; omega))⟩
        | exact ⟨by rw [e.out, show q = 1000000000000001 by have := BG.out; omega]; rfl, (below_al _ _).trans (hb.mono (by rw [World.size_alloc]; omega))⟩

end Go.Proofs.Ytfcejgeckcoefaa
