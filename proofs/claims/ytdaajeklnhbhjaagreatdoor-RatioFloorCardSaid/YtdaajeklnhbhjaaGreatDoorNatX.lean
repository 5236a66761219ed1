/- The document's answer: Read. No condition. -/
import Derived.Test.YtdaajeklnhbhjaaGreatDoorNatV
namespace Go.Proofs.YtdaajeklnhbhjaaGreatDoor
open Go.RowKit Go.Suf
set_option linter.unusedVariables false
set_option linter.unusedSimpArgs false

theorem formB_nil : formB [] = false := rfl

theorem formB_zero {xs : List Nat} (h1 : nth xs 0 = 48) (h2 : 1 < xs.length) : formB xs = false := by
  unfold formB
  rw [decide_eq_false_iff_not]
  rintro ⟨_, h, _⟩
  have := h h1
  omega

set_option maxRecDepth 100000 in
set_option maxHeartbeats 4000000 in
theorem refRead_any (w : World) (xs : List Nat) (hb : ∀ x ∈ xs, x < 256) (hn : xs.length ≤ 1099511627776) :
    Calls Tryz.prog 83 #[.string (strB xs)] w (RetN w (readC xs)) := by
  obtain ⟨r, hr0⟩ : ∃ r, r = readC xs := ⟨_, rfl⟩
  rw [← hr0]
  have HR := Lib.hid hr0
  clear hr0
  have hsz := strB_size xs
  have bad : formB xs = false → r = ([], 11) := fun h => by rw [HR.out, readC, if_neg (by rw [h]; decide)]
  have BAD := Lib.hid bad
  clear bad
  by_cases h0 : xs = []
  · have e1 := Lib.hid (BAD.out (by rw [h0]; rfl))
    subst h0
    go_enter Tryz.func83, Tryz.ntmps83
    go_wp2_with fail
    go_ret2
    rw [e1.out]
    exact ⟨none, 0, 0, rfl, Rd.nil _ _, Below.refl _ _⟩
  · have hl : 0 < xs.length := by cases xs with | nil => exact absurd rfl h0 | cons a l => simp
    have hl0 : ((xs.length : Int) == 0) = false := by rw [beq_eq_false_iff_ne]; omega
    have hat0 := strB_at hb 0
    have H0 := Lib.hid h0
    clear h0
    by_cases h1 : nth xs 0 = 48 ∧ 1 < xs.length
    · have e1 := Lib.hid (BAD.out (formB_zero h1.1 h1.2))
      obtain ⟨h2, h3⟩ := h1
      rw [h2] at hat0
      clear h2
      go_enter Tryz.func83, Tryz.ntmps83
      go_wp2_with fail
      go_ret2
      rw [e1.out]
      exact ⟨none, 0, 0, rfl, Rd.nil _ _, Below.refl _ _⟩
    · have H1 := Lib.hid (show nth xs 0 = 48 → xs.length ≤ 1 from fun h => by
        rcases Nat.lt_or_ge 1 xs.length with h' | h'
        · exact absurd ⟨h, h'⟩ h1
        · exact h')
      obtain ⟨b0, hb0⟩ : ∃ b, b = nth xs 0 := ⟨_, rfl⟩
      have hd : decide ((1 : Int) < (xs.length : Int)) = false ∨ 1 < xs.length ∧ (((b0 : Int) == 48) = false) := by
        by_cases h2 : 1 < xs.length
        · right
          refine ⟨h2, ?_⟩
          rw [beq_eq_false_iff_ne]
          intro e
          apply h1
          exact ⟨by rw [← hb0]; omega, h2⟩
        · left
          simp; omega
      rw [← hb0] at hat0
      clear h1 hb0
      rcases hd with hd | ⟨hd', hd⟩
      all_goals
        go_enter Tryz.func83, Tryz.ntmps83
        go_wp2_with fail
        go_loop [4] (fun i => ∃ k : Nat, k ≤ xs.length ∧ i = .int .i64 (k : Nat) ∧ Hid (∀ j, j < k → 48 ≤ nth xs j ∧ nth xs j ≤ 57)) (fun i => xs.length - (intOf i).toNat)
        case atStart => exact ⟨0, Nat.zero_le _, rfl, Lib.hid fun j hj => by omega⟩
        case round =>
          obtain ⟨k, hk, rfl, hG⟩ := hrel
          clear hat0 hd
          by_cases hlt : k < xs.length
          · have hatk := strB_at hb k
            by_cases h3 : nth xs k < 48
            · have e1 := Lib.hid (BAD.out (formB_bad hlt (.inl h3)))
              go_wp2_with fail
              go_ret2
              rw [e1.out]
              exact ⟨none, 0, 0, rfl, Rd.nil _ _, Below.refl _ _⟩
            · by_cases h4 : 57 < nth xs k
              · have e1 := Lib.hid (BAD.out (formB_bad hlt (.inr h4)))
                go_wp2_with fail
                go_ret2
                rw [e1.out]
                exact ⟨none, 0, 0, rfl, Rd.nil _ _, Below.refl _ _⟩
              · go_wp2_with fail
                go_round
                case rel => exact ⟨k + 1, by omega, by go_num, Lib.hid fun j hj => by
                              by_cases e : j = k
                              · subst e; omega
                              · exact hG.out j (by omega)⟩
                case measure => simp [intOf]; omega
          · obtain rfl : k = xs.length := by omega
            have HF := Lib.hid (formB_good H0.out H1.out hG.out)
            have e1 := Lib.hid (show r = fitC (dread xs 0) by rw [HR.out, readC, if_pos HF.out])
            clear hG
            go_wp2_with fail
            go_loopw [5, 6] (fun v i wr => ∃ (k : Nat) (b : Option Addr) (n c : Nat) (us : List Nat), k ≤ xs.length ∧ i = .int .i64 (k : Nat) ∧ v = .slice b n c ∧ Ow .u32 49 w.heap.size wr b n c us ∧ n ≤ 96 ∧ Hid (us = limbs (dread (xs.take k) 0)) ∧ Below w.heap.size w wr) (fun _ i _ => xs.length - (intOf i).toNat)
            case atStart => exact ⟨0, none, 0, 0, [], Nat.zero_le _, rfl, rfl, Ow.nil _ _ _ _, by decide, Lib.hid (by rw [List.take_zero, dread, limbs_zero]), Below.refl _ _⟩
            case round =>
              obtain ⟨k, b, n, c, us, hk, rfl, rfl, ho, hn96, hU, hbw0⟩ := hrel
              by_cases hlt : k < xs.length
              · have hatk := strB_at hb k
                obtain ⟨h48, h57⟩ := formB_dig HF.out hlt
                obtain ⟨x0, hx0⟩ : ∃ x, x = nth xs k := ⟨_, rfl⟩
                have hds := Lib.hid (dread_take_succ hlt)
                rw [← hx0] at hatk h48 h57 hds
                obtain ⟨d, rfl⟩ : ∃ d, x0 = d + 48 := ⟨x0 - 48, by omega⟩
                have hd10 : d < 10 := by omega
                rw [Nat.add_sub_cancel] at hds
                clear hx0
                have HUL := Lib.hid ho.len
                have hT0 := Lib.hid (Ten.start (us := us) (show small32 us from ho.bd) hd10)
                go_wp2_with fail
                go_loopw [7, 8] (fun v i wz => ∃ (j c' : Nat) (out : List Nat), j ≤ n ∧ i = .int .i64 (j : Nat) ∧ v = .int .u64 (c' : Nat) ∧ c' < 10 ∧ Hid (Ten us out d j c') ∧ Ow .u32 49 w.heap.size wz b n c out ∧ Below w.heap.size w wz) (fun _ i _ => n - (intOf i).toNat)
                case atStart => exact ⟨0, d, us, Nat.zero_le _, rfl, by go_num, hd10, hT0, ho, hbw0⟩
                case round =>
                  obtain ⟨j, c', out, hj, rfl, rfl, hc', hT, ho', hb'⟩ := hrel
                  by_cases hjn : j < n
                  · obtain ⟨g, rfl, hg1, hg2⟩ := ho'.where (by omega)
                    have hcell := ho'.at j hjn
                    have hfree := ho'.free j
                    have b2 := small32_nth hT.out.small j
                    have hT2 := Lib.hid (hT.out.step (show j < us.length by rw [HUL.out]; exact hjn))
                    have hv : (10 * (nth out j : Int) + (c' : Int)) % 4294967296 = (((c' + nth out j * 10) % 4294967296 : Nat) : Int) := by omega
                    have hw := Lib.hid (show (10 * (nth out j : Int) + (c' : Int)) / 4294967296 = (((c' + nth out j * 10) / 4294967296 : Nat) : Int) by omega)
                    have HO : Hid (Ow .u32 49 w.heap.size (wr.setCell ⟨g, j, none⟩ (.int .u32 ((10 * (nth out j : Int) + (c' : Int)) % 4294967296))) (some ⟨g, 0, none⟩) n c (out.set j ((c' + nth out j * 10) % 4294967296))) := by
                      rw [hv]
                      exact Lib.hid (ho'.set j _ (Nat.mod_lt _ (by decide)))
                    have HB := Lib.hid (hb'.setCell (p := ⟨g, j, none⟩) (by show w.heap.size ≤ g; omega) (.int .u32 ((10 * (nth out j : Int) + (c' : Int)) % 4294967296)))
                    clear hv
                    go_wp2_with fail
                    go_roundw
                    case rel => exact ⟨j + 1, _, _, by omega, by go_num, by rw [hw.out], hT2.out.lt, hT2, HO.out, HB.out⟩
                    case measure => simp [intOf]; omega
                  · obtain rfl : j = n := by omega
                    have hT2 := hT.out
                    rw [← HUL.out] at hT2
                    have hdn := hT2.done hU.out
                    rw [← hds.out] at hdn
                    have hbz := hb'.size
                    by_cases hc0 : c' = 0
                    · have hout := Lib.hid (hdn.1 hc0)
                      subst hc0
                      clear hdn hT2
                      go_wp2_with fail
                      go_roundw
                      case rel => exact ⟨k + 1, b, j, c, out, by omega, by go_num, rfl, ho', hn96, hout, hb'⟩
                      case measure => simp [intOf]; omega
                    · have hout := Lib.hid (hdn.2 hc0)
                      clear hdn hT2
                      by_cases hj96 : j + 1 ≤ 96
                      all_goals
                        go_wp2_with (at_builtin; refine wpList_app rfl _ _ 22 rfl etN w.heap.size rfl (ho'.own.alloc _) rfl rfl (sl_new wr _ 49 rfl) (by unfold maxLen; omega) (by omega) (by simp; omega) ?_; intro a' cap' w' hown hg hbw)
                        have ho2 := ho'.snoc (x := c') (show c' < 4294967296 by omega) (m := j + 1) rfl hown
                        have hbn := hb'.trans (((Below.refl w.heap.size wr).alloc hbz _).trans hbw)
                        clear hown hg hbw ho'
                      · go_roundw
                        case rel => exact ⟨k + 1, a', j + 1, cap', out ++ [c'], by omega, by go_num, rfl, ho2, hj96, hout, hbn⟩
                        case measure => simp [intOf]; omega
                      · have e2 := Lib.hid (show r = ([], 30) by
                          have hl := congrArg List.length hout.out
                          rw [ho2.len] at hl
                          have hm := limbs_len_mono (dread_mono (xs := xs) (k := k + 1) (by omega))
                          rw [e1.out, fitC, if_pos (by omega)])
                        go_ret2
                        rw [e2.out]
                        exact ⟨none, 0, 0, rfl, Rd.nil _ _, hbn⟩
              · obtain rfl : k = xs.length := by omega
                have hu2 := hU.out
                rw [List.take_of_length_le (Nat.le_refl _)] at hu2
                have e2 := Lib.hid (show r = (us, 0) by
                  rw [e1.out, fitC, ← hu2, if_neg (by rw [ho.len]; omega)])
                clear hu2
                go_wp2_with fail
                go_ret2
                rw [e2.out]
                exact ⟨b, n, c, rfl, ho.rd, hbw0⟩

end Go.Proofs.YtdaajeklnhbhjaaGreatDoor
/- What nat and its answer do to valid numbers: the contracts at the numbers themselves. Conditions: as each says. -/
namespace Go.Proofs.YtdaajeklnhbhjaaGreatDoor
open Go.RowKit Go.Suf
set_option linter.unusedVariables false
set_option linter.unusedSimpArgs false

theorem chk_limbs {A : Nat} (h : A < pw 96) : chk (limbs A) = 0 := chk_ok.2 ⟨limbs_len_le h, limbs_canon A⟩

theorem both_limbs {A B : Nat} (hA : A < pw 96) (hB : B < pw 96) : bothC (limbs A) (limbs B) = 0 := by rw [bothC, if_pos (chk_limbs hA), chk_limbs hB]

theorem fit_limbs {A : Nat} (h : A < pw 96) : fitC A = (limbs A, 0) := by
  have := limbs_len_le h
  rw [fitC, if_neg (by omega)]

theorem fit_great {A : Nat} (h : ¬ A < pw 96) : fitC A = ([], 30) := by
  rw [fitC, if_pos]
  rcases Nat.lt_or_ge 96 (limbs A).length with h' | h'
  · exact h'
  · exfalso
    have := val_lt' (limbs_small A)
    rw [val_limbs] at this
    exact h (Nat.lt_of_lt_of_le this (pw_le h'))

theorem add_limbs {A B : Nat} (hA : A < pw 96) (hB : B < pw 96) : addC (limbs A) (limbs B) = fitC (A + B) := by
  rw [addC, if_pos (both_limbs hA hB), val_limbs, val_limbs]

theorem mul_limbs {A B : Nat} (hA : A < pw 96) (hB : B < pw 96) : mulC (limbs A) (limbs B) = fitC (A * B) := by
  rw [mulC, if_pos (both_limbs hA hB), val_limbs, val_limbs]

theorem add_ok {A B : Nat} (h : A + B < pw 96) : addC (limbs A) (limbs B) = (limbs (A + B), 0) := by
  rw [add_limbs (by omega) (by omega), fit_limbs h]

theorem mul_ok {A B : Nat} (hA : A < pw 96) (hB : B < pw 96) (h : A * B < pw 96) : mulC (limbs A) (limbs B) = (limbs (A * B), 0) := by
  rw [mul_limbs hA hB, fit_limbs h]

theorem sub_ok {A B : Nat} (hA : A < pw 96) (h : B ≤ A) : subC (limbs A) (limbs B) = (limbs (A - B), 0) := by
  rw [subC, if_pos (both_limbs hA (by omega)), val_limbs, val_limbs, if_neg (by omega)]

theorem sub_none {A B : Nat} (hB : B < pw 96) (h : A < B) : subC (limbs A) (limbs B) = ([], 6) := by
  rw [subC, if_pos (both_limbs (by omega) hB), val_limbs, val_limbs, if_pos h]

/-- The sign of the difference of two numbers. -/
def cmpN (A B : Nat) : Int := if A < B then -1 else if B < A then 1 else 0

theorem ord_limbs (A B : Nat) : ordC (limbs A) (limbs B) = cmpN A B := by rw [ordC, val_limbs, val_limbs]; rfl

theorem cmp_ok {A B : Nat} (hA : A < pw 96) (hB : B < pw 96) : cmpC (limbs A) (limbs B) = (cmpN A B, 0) := by
  rw [cmpC, if_pos (both_limbs hA hB), ord_limbs]

theorem limbs_len0 {A : Nat} (h : 0 < A) : (limbs A).length ≠ 0 := by
  rw [limbs_pos (by omega)]
  simp

theorem div_ok {A B : Nat} (hA : A < pw 96) (hB : B < pw 96) (h : 0 < B) : divC (limbs A) (limbs B) = (limbs (A / B), limbs (A % B), 0) := by
  rw [divC, if_pos (both_limbs hA hB), if_neg (limbs_len0 h), val_limbs, val_limbs]

theorem div_zero {A : Nat} (hA : A < pw 96) : divC (limbs A) (limbs 0) = ([], [], 40) := by
  rw [divC, if_pos (both_limbs hA (pw_pos 96)), limbs_zero, if_pos (show ([] : List Nat).length = 0 from rfl)]

theorem gcd_ok {A B : Nat} (hA : A < pw 96) (hB : B < pw 96) : gcdC (limbs A) (limbs B) = (limbs (Nat.gcd A B), 0) := by
  rw [gcdC, if_pos (both_limbs hA hB), val_limbs, val_limbs]

theorem text_ok {A : Nat} (hA : A < pw 96) : textC (limbs A) = (textN A, 0) := by rw [textC, if_pos (chk_limbs hA), val_limbs]

theorem read_ok {A : Nat} (hA : A < pw 96) : readC (textN A) = (limbs A, 0) := by
  rw [readC, if_pos (textN_form A), dread_textN, fit_limbs hA]

theorem word_ok {A : Nat} (hA : A < 18446744073709551616) : wordC (limbs A) = (A, 0) := by
  have h2 : A < pw 2 := hA
  have := limbs_len_le h2
  rw [wordC, if_pos (chk_limbs (Nat.lt_of_lt_of_le h2 (pw_le (by decide)))), if_neg (by omega), val_limbs]

theorem word_great {A : Nat} (hA : A < pw 96) (h : ¬ A < 18446744073709551616) : wordC (limbs A) = (0, 30) := by
  rw [wordC, if_pos (chk_limbs hA), if_pos]
  rcases Nat.lt_or_ge 2 (limbs A).length with h' | h'
  · exact h'
  · exfalso
    have := val_lt' (limbs_small A)
    rw [val_limbs] at this
    exact h (Nat.lt_of_lt_of_le this (pw_le h'))

theorem same_ok (A B : Nat) : sameN (limbs A) (limbs B) = decide (A = B) := by
  unfold sameN
  rw [decide_eq_decide]
  exact ⟨limbs_inj, fun h => by rw [h]⟩

theorem same_self (xs : List Nat) : sameN xs xs = true := by simp [sameN]

theorem pw_add_lt {a b i k : Nat} (ha : a < pw i) (hb : b < pw i) (h : i < k) : a + b < pw k := by
  have := pw_le (show i + 1 ≤ k from h)
  rw [pw_succ] at this
  omega

theorem pw_mul_lt {a b i j k : Nat} (ha : a < pw i) (hb : b < pw j) (h : i + j ≤ k) : a * b < pw k := Nat.lt_of_lt_of_le (mul_lt_pw ha hb) (pw_le h)

theorem pw_wide {a i k : Nat} (ha : a < pw i) (h : i ≤ k) : a < pw k := Nat.lt_of_lt_of_le ha (pw_le h)

theorem same_eq {A B : Nat} (h : A = B) : sameN (limbs A) (limbs B) = true := by rw [h]; exact same_self _

/-- Whether a list is a valid number of at most m limbs. -/
def vldN (m : Nat) (xs : List Nat) : Bool := decide (xs.length ≤ m ∧ chk xs = 0)

theorem vldN_limbs {m : Nat} {a : Option Addr} {w : World} {n cap : Nat} {xs : List Nat} (h : Rd .u32 w a n cap xs) (hv : vldN m xs = true) (hm : m ≤ 96) : ∃ A, xs = limbs A ∧ A < pw m := by
  unfold vldN at hv
  rw [decide_eq_true_eq] at hv
  have hs : small32 xs := h.bd
  refine ⟨val xs, (limbs_val hs (chk_ok.1 hv.2).2).symm, Nat.lt_of_lt_of_le (val_lt' hs) (pw_le hv.1)⟩

/-! ### right: a list of lists of limbs -/

/-- The slice at a reads as lists of limbs. -/
structure RdNL (w : World) (a : Option Addr) (n cap : Nat) (xss : List (List Nat)) : Prop where
  len : xss.length = n
  small : n ≤ 100
  cell : ∀ i, i < n → ∃ b off d m c, a = some ⟨b, off, none⟩ ∧ w.cell? ⟨b, off + i, none⟩ = some (.slice d m c) ∧ Rd .u32 w d m c (xss.getD i [])

def rightB (m : Nat) (xss : List (List Nat)) : Bool := decide (∀ xs ∈ xss, vldN m xs = true)

theorem rightB_bad {m : Nat} {xss : List (List Nat)} {k : Nat} (hk : k < xss.length) (h : vldN m (xss.getD k []) = false) : rightB m xss = false := by
  unfold rightB
  rw [decide_eq_false_iff_not]
  intro hall
  have := hall (xss.getD k []) (by simp [List.getD, hk])
  rw [h] at this
  cases this

theorem rightB_good {m : Nat} {xss : List (List Nat)} (h : ∀ k, k < xss.length → vldN m (xss.getD k []) = true) : rightB m xss = true := by
  unfold rightB
  rw [decide_eq_true_eq]
  intro xs hx
  obtain ⟨i, hi, rfl⟩ := List.getElem_of_mem hx
  have := h i hi
  simpa [List.getD, hi] using this

theorem rdNL_lit3 (w : World) {a b c : Option Addr} {n m p cn cm cp : Nat} {xs ys zs : List Nat} (hx : Rd .u32 w a n cn xs) (hy : Rd .u32 w b m cm ys) (hz : Rd .u32 w c p cp zs) :
    RdNL (w.alloc (.cells #[.slice a n cn, .slice b m cm, .slice c p cp] 22)) (some ⟨w.heap.size, 0, none⟩) 3 3 [xs, ys, zs] := by
  refine ⟨rfl, by decide, fun i hi => ?_⟩
  have hb : Below w.heap.size w (w.alloc (.cells #[.slice a n cn, .slice b m cm, .slice c p cp] 22)) := (Below.refl _ _).alloc (Nat.le_refl _) _
  have hc : ∀ j, (w.alloc (.cells #[.slice a n cn, .slice b m cm, .slice c p cp] 22)).cell? ⟨w.heap.size, 0 + j, none⟩ = #[Value.slice a n cn, .slice b m cm, .slice c p cp][j]? := by
    intro j
    rw [Nat.zero_add, cell_of_row _ _ _ _ _ _ (heap_alloc_new w _)]
  rcases (show i = 0 ∨ i = 1 ∨ i = 2 by omega) with rfl | rfl | rfl
  · exact ⟨_, 0, a, n, cn, rfl, hc 0, hx.below hb⟩
  · exact ⟨_, 0, b, m, cm, rfl, hc 1, hy.below hb⟩
  · exact ⟨_, 0, c, p, cp, rfl, hc 2, hz.below hb⟩

theorem rdNL_lit2 (w : World) {a b : Option Addr} {n m cn cm : Nat} {xs ys : List Nat} (hx : Rd .u32 w a n cn xs) (hy : Rd .u32 w b m cm ys) :
    RdNL (w.alloc (.cells #[.slice a n cn, .slice b m cm] 22)) (some ⟨w.heap.size, 0, none⟩) 2 2 [xs, ys] := by
  refine ⟨rfl, by decide, fun i hi => ?_⟩
  have hb : Below w.heap.size w (w.alloc (.cells #[.slice a n cn, .slice b m cm] 22)) := (Below.refl _ _).alloc (Nat.le_refl _) _
  have hc : ∀ j, (w.alloc (.cells #[.slice a n cn, .slice b m cm] 22)).cell? ⟨w.heap.size, 0 + j, none⟩ = #[Value.slice a n cn, .slice b m cm][j]? := by
    intro j
    rw [Nat.zero_add, cell_of_row _ _ _ _ _ _ (heap_alloc_new w _)]
  rcases (show i = 0 ∨ i = 1 by omega) with rfl | rfl
  · exact ⟨_, 0, a, n, cn, rfl, hc 0, hx.below hb⟩
  · exact ⟨_, 0, b, m, cm, rfl, hc 1, hy.below hb⟩

theorem rdNL_lit1 (w : World) {a : Option Addr} {n cn : Nat} {xs : List Nat} (hx : Rd .u32 w a n cn xs) :
    RdNL (w.alloc (.cells #[.slice a n cn] 22)) (some ⟨w.heap.size, 0, none⟩) 1 1 [xs] := by
  refine ⟨rfl, by decide, fun i hi => ?_⟩
  have hb : Below w.heap.size w (w.alloc (.cells #[.slice a n cn] 22)) := (Below.refl _ _).alloc (Nat.le_refl _) _
  have hc : ∀ j, (w.alloc (.cells #[.slice a n cn] 22)).cell? ⟨w.heap.size, 0 + j, none⟩ = #[Value.slice a n cn][j]? := by
    intro j
    rw [Nat.zero_add, cell_of_row _ _ _ _ _ _ (heap_alloc_new w _)]
  obtain rfl : i = 0 := by omega
  exact ⟨_, 0, a, n, cn, rfl, hc 0, hx.below hb⟩

end Go.Proofs.YtdaajeklnhbhjaaGreatDoor
/- Rational numbers as lists of limbs: the image of a Rat, its limits, and what the operations answer. No program in sight. -/
namespace Go.Proofs.YtdaajeklnhbhjaaGreatDoor
open Go.RowKit Go.Suf
set_option linter.unusedVariables false
set_option linter.unusedSimpArgs false

/-- What the three fields of an api.Ratio read as. -/
structure QV where
  neg : Bool
  num : List Nat
  den : List Nat

def zeroV : QV := ⟨false, [], []⟩

def sg (neg : Bool) (N : Nat) : Int := if neg then -(N : Int) else (N : Int)

theorem sg_abs (neg : Bool) (N : Nat) : (sg neg N).natAbs = N := by
  unfold sg
  cases neg <;> simp

theorem sg_neg (neg : Bool) (N : Nat) : decide (sg neg N < 0) = (neg && decide (0 < N)) := by
  unfold sg
  cases neg
  · simp
  · by_cases h : 0 < N
    · simp [h]
    · simp [h]

theorem sg_of (z : Int) : sg (decide (z < 0)) z.natAbs = z := by
  unfold sg
  by_cases h : z < 0
  · simp [h]; omega
  · simp [h]; omega

/-- A rational number's three fields. -/
def ofQ (q : Rat) : QV := ⟨decide (q.num < 0), limbs q.num.natAbs, limbs q.den⟩

/-- n / d in lowest terms, as the code makes it. -/
def lowV (neg : Bool) (N D : Nat) : QV := ⟨neg && decide (0 < N / N.gcd D), limbs (N / N.gcd D), limbs (D / N.gcd D)⟩

theorem sg_div (neg : Bool) (N g : Nat) (h : g ∣ N) (hg : 0 < g) : sg neg N / (g : Int) = sg neg (N / g) := by
  obtain ⟨k, rfl⟩ := h
  rw [Nat.mul_div_cancel_left _ hg]
  unfold sg
  cases neg
  · simp only [Bool.false_eq_true, if_false]
    rw [Int.natCast_mul, Int.mul_ediv_cancel_left _ (by omega)]
  · simp only [if_true]
    rw [Int.natCast_mul, show -((g : Int) * (k : Int)) = (g : Int) * (-(k : Int)) by rw [Int.mul_neg], Int.mul_ediv_cancel_left _ (by omega)]

theorem lowV_eq (neg : Bool) (N D : Nat) (hD : D ≠ 0) : lowV neg N D = ofQ (mkRat (sg neg N) D) := by
  have hg : 0 < N.gcd D := Nat.gcd_pos_of_pos_right _ (by omega)
  rw [mkRat, dif_neg hD, Rat.normalize_eq]
  unfold lowV ofQ
  simp only [sg_abs]
  rw [sg_div _ _ _ (Nat.gcd_dvd_left N D) hg, sg_abs, sg_neg]

/-- The number that three fields stand for. -/
def toQ (x : QV) : Rat := mkRat (sg x.neg (val x.num)) (val x.den)

theorem toQ_ofQ (q : Rat) : toQ (ofQ q) = q := by
  unfold toQ ofQ
  simp only [val_limbs, sg_of]
  exact Rat.mkRat_self q

/-- The number's fields have at most 96 limbs. -/
def fitQ (q : Rat) : Prop := q.num.natAbs < pw 96 ∧ q.den < pw 96

/-- The error of a number: ErrBad, or none. -/
def chkV (x : QV) : Int := if bothC x.num x.den = 0 ∧ x.den.length ≠ 0 ∧ ¬ (x.neg = true ∧ x.num.length = 0) ∧ Nat.gcd (val x.num) (val x.den) = 1 then 0 else 8

theorem chkV_two (x : QV) : chkV x = 0 ∨ chkV x = 8 := by
  unfold chkV
  split
  · exact .inl rfl
  · exact .inr rfl

theorem limbs_len_zero {A : Nat} : (limbs A).length = 0 ↔ A = 0 := by
  constructor
  · intro h
    rcases Nat.eq_zero_or_pos A with h' | h'
    · exact h'
    · exact absurd h (limbs_len0 h')
  · rintro rfl
    rw [limbs_zero]
    rfl

theorem chkV_ofQ {q : Rat} (h : fitQ q) : chkV (ofQ q) = 0 := by
  unfold chkV ofQ
  rw [if_pos]
  refine ⟨both_limbs h.1 h.2, ?_, ?_, ?_⟩
  · exact fun e => q.den_nz (limbs_len_zero.1 e)
  · rintro ⟨e1, e2⟩
    have := limbs_len_zero.1 e2
    simp at e1
    omega
  · rw [val_limbs, val_limbs]
    exact q.reduced

theorem chkV_parts {x : QV} (hn : small32 x.num) (hd : small32 x.den) (hc : chkV x = 0) :
    x.num = limbs (val x.num) ∧ x.den = limbs (val x.den) ∧ val x.num < pw 96 ∧ val x.den < pw 96 ∧ val x.den ≠ 0 ∧ (x.neg = true → val x.num ≠ 0) ∧ Nat.gcd (val x.num) (val x.den) = 1 := by
  unfold chkV at hc
  split at hc
  case isFalse => simp at hc
  case isTrue h =>
    obtain ⟨h1, h2, h3, h4⟩ := h
    have h5 : chk x.num = 0 := by
      unfold bothC at h1
      split at h1
      · assumption
      · rename_i h'; exact absurd h1 h'
    have h6 : chk x.den = 0 := by
      unfold bothC at h1
      rwa [if_pos h5] at h1
    have n1 := (limbs_val hn (chk_ok.1 h5).2).symm
    have n2 := (limbs_val hd (chk_ok.1 h6).2).symm
    refine ⟨n1, n2, Nat.lt_of_lt_of_le (val_lt' hn) (pw_le (chk_ok.1 h5).1), Nat.lt_of_lt_of_le (val_lt' hd) (pw_le (chk_ok.1 h6).1), ?_, ?_, h4⟩
    · intro e
      rw [e, limbs_zero] at n2
      exact h2 (by rw [n2]; rfl)
    · intro hg e
      rw [e, limbs_zero] at n1
      exact h3 ⟨hg, by rw [n1]; rfl⟩

/-- A valid number is the image of a rational number. -/
theorem chkV_get {x : QV} (hn : small32 x.num) (hd : small32 x.den) (hc : chkV x = 0) : ∃ q, x = ofQ q ∧ fitQ q := by
  obtain ⟨n1, n2, l1, l2, z, s, g⟩ := chkV_parts hn hd hc
  have e1 : lowV x.neg (val x.num) (val x.den) = x := by
    unfold lowV
    rw [g, Nat.div_one, Nat.div_one, ← n1, ← n2]
    cases x with
    | mk neg num den =>
      cases neg
      · simp
      · have := s rfl
        simp
        simp at this
        omega
  refine ⟨mkRat (sg x.neg (val x.num)) (val x.den), by rw [← lowV_eq _ _ _ z, e1], ?_⟩
  have e2 := lowV_eq x.neg (val x.num) (val x.den) z
  rw [e1] at e2
  have a1 : x.num = limbs (mkRat (sg x.neg (val x.num)) (val x.den)).num.natAbs := by rw [e2]; unfold ofQ; simp only [val_limbs, sg_of, Rat.mkRat_self]
  have a2 : x.den = limbs (mkRat (sg x.neg (val x.num)) (val x.den)).den := by rw [e2]; unfold ofQ; simp only [val_limbs, sg_of, Rat.mkRat_self]
  constructor
  · have : val x.num = _ := congrArg val a1
    rw [val_limbs] at this
    rw [← this]
    exact l1
  · have : val x.den = _ := congrArg val a2
    rw [val_limbs] at this
    rw [← this]
    exact l2

theorem ofQ_inj {p q : Rat} (h : ofQ p = ofQ q) : p = q := by rw [← toQ_ofQ p, h, toQ_ofQ]

end Go.Proofs.YtdaajeklnhbhjaaGreatDoor
