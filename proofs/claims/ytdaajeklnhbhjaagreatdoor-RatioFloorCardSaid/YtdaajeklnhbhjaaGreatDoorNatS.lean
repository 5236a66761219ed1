/- The document's answer: Sub, Cmp, Of, Word, Mul, Long. No condition. -/
import Derived.Test.YtdaajeklnhbhjaaGreatDoorNatR
import Derived.Test.YtdaajeklnhbhjaaGreatDoorNatDec
namespace Go.Proofs.YtdaajeklnhbhjaaGreatDoor
open Go.RowKit Go.Suf
set_option linter.unusedVariables false
set_option linter.unusedSimpArgs false

theorem ltC_true {xs ys : List Nat} (h : val xs < val ys) : ltC xs ys = true := by simp [ltC, h]
theorem ltC_false {xs ys : List Nat} (h : ¬ val xs < val ys) : ltC xs ys = false := by simp only [ltC, decide_eq_false_iff_not]; exact h

theorem refSub_any (w : World) {a b : Option Addr} {n m cap cap' : Nat} {xs ys : List Nat} (h : Rd .u32 w a n cap xs) (h' : Rd .u32 w b m cap' ys) :
    Calls Tryz.prog 72 #[.slice a n cap, .slice b m cap'] w (RetN w (subC xs ys)) := by
  obtain ⟨r, hr0⟩ : ∃ r, r = subC xs ys := ⟨_, rfl⟩
  rw [← hr0]
  have HR := Lib.hid hr0
  clear hr0
  go_enter Tryz.func72, Tryz.ntmps72
  go_wp2_with fail
  refine (refBoth_any _ h h').mono ?_
  rintro e w1 ⟨rfl, rfl⟩
  by_cases hz : bothC xs ys = 0
  · obtain ⟨z1, z2⟩ := bothC_ok hz
    have l1 := (chk_ok.1 z1).1
    have c1 := (chk_ok.1 z1).2
    have c2 := (chk_ok.1 z2).2
    rw [h.len] at l1
    have HZ := Lib.hid hz
    rw [hz]
    clear hz z1 z2
    go_wp2_with fail
    refine (refless_any _ h h' c1 c2).mono ?_
    rintro e w1 ⟨rfl, nq, rfl⟩
    by_cases hlt : val xs < val ys
    · have e1 := Lib.hid (show r = ([], 6) by rw [HR.out, subC, if_pos HZ.out, if_pos hlt])
      rw [ltC_true hlt]
      go_wp2_with fail
      go_ret2
      rw [e1.out]
      exact ⟨none, 0, 0, rfl, Rd.nil _ _, below_drewN (Below.refl _ _) _⟩
    · have e1 := Lib.hid (show r = (limbs (val xs - val ys), 0) by rw [HR.out, subC, if_pos HZ.out, if_neg hlt])
      have hle := len_le (xs := ys) (ys := xs) h.bd c2 (by omega)
      rw [h.len, h'.len] at hle
      have hd := below_drewN (Below.refl w.heap.size w) nq
      rw [ltC_false hlt]
      go_wp2_with fail
      refine (minus_any _ (h.below hd) (h'.below hd) (by omega) hle (by omega)).mono ?_
      rintro e w2 ⟨a', m', c', rfl, ho', hb'⟩
      go_wp2_with fail
      go_ret2
      rw [e1.out]
      exact ⟨a', m', c', rfl, ho'.rd, hd.trans hb'⟩
  · have e1 := Lib.hid (show r = ([], bothC xs ys) by rw [HR.out, subC, if_neg hz])
    go_wp2_with fail
    go_ret2
    rw [e1.out]
    exact ⟨none, 0, 0, rfl, Rd.nil _ _, Below.refl _ _⟩

theorem refCmp_any (w : World) {a b : Option Addr} {n m cap cap' : Nat} {xs ys : List Nat} (h : Rd .u32 w a n cap xs) (h' : Rd .u32 w b m cap' ys) :
    Calls Tryz.prog 56 #[.slice a n cap, .slice b m cap'] w (RetIE w (cmpC xs ys)) := by
  obtain ⟨r, hr0⟩ : ∃ r, r = cmpC xs ys := ⟨_, rfl⟩
  rw [← hr0]
  have HR := Lib.hid hr0
  clear hr0
  go_enter Tryz.func56, Tryz.ntmps56
  go_wp2_with fail
  refine (refBoth_any _ h h').mono ?_
  rintro e w1 ⟨rfl, rfl⟩
  by_cases hz : bothC xs ys = 0
  · obtain ⟨z1, z2⟩ := bothC_ok hz
    have c1 := (chk_ok.1 z1).2
    have c2 := (chk_ok.1 z2).2
    have e1 := Lib.hid (show r = (ordC xs ys, 0) by rw [HR.out, cmpC, if_pos hz])
    rw [hz]
    clear hz z1 z2
    go_wp2_with fail
    refine (refless_any _ h h' c1 c2).mono ?_
    rintro e w1 ⟨rfl, nq, rfl⟩
    by_cases hlt : val xs < val ys
    · have e2 := Lib.hid (ordC_lt hlt)
      rw [ltC_true hlt]
      go_wp2_with fail
      go_ret2
      rw [e1.out, e2.out]
      exact ⟨rfl, nq, rfl⟩
    · rw [ltC_false hlt]
      go_wp2_with fail
      refine (refless_any _ (h'.drewN nq) (h.drewN nq) c2 c1).mono ?_
      rintro e w1 ⟨rfl, nq2, rfl⟩
      by_cases hgt : val ys < val xs
      · have e2 := Lib.hid (ordC_gt hgt)
        rw [ltC_true hgt]
        go_wp2_with fail
        go_ret2
        rw [e1.out, e2.out]
        exact ⟨rfl, _, rfl⟩
      · have e2 := Lib.hid (ordC_eq (xs := xs) (ys := ys) (by omega))
        rw [ltC_false hgt]
        go_wp2_with fail
        go_ret2
        rw [e1.out, e2.out]
        exact ⟨rfl, _, rfl⟩
  · have e1 := Lib.hid (show r = (0, bothC xs ys) by rw [HR.out, cmpC, if_neg hz])
    go_wp2_with fail
    go_ret2
    rw [e1.out]
    exact ⟨rfl, 0, rfl⟩

theorem of_step (out : List Nat) (v k : Nat) (hl : out.length = k) : val (out ++ [v % 4294967296]) + pw (k + 1) * (v / 4294967296) = val out + pw k * v := by
  rw [val_snoc, hl, pw_succ]
  have e : 4294967296 * pw k * (v / 4294967296) = pw k * (4294967296 * (v / 4294967296)) := by rw [Nat.mul_comm 4294967296, Nat.mul_assoc]
  have h := congrArg (pw k * ·) (Nat.mod_add_div v 4294967296)
  simp only [Nat.mul_add] at h
  omega

set_option maxHeartbeats 1000000 in
theorem refOf_any (w : World) (n : Nat) (hn : n < 18446744073709551616) :
    Calls Tryz.prog 46 #[.int .u64 (n : Nat)] w (RetL w (limbs n)) := by
  obtain ⟨r, hr0⟩ : ∃ r, r = limbs n := ⟨_, rfl⟩
  rw [← hr0]
  have HR := Lib.hid hr0
  clear hr0
  go_enter Tryz.func46, Tryz.ntmps46
  go_wp2_with fail
  go_loopw [0, 3] (fun s0 s3 wr => ∃ (v k : Nat) (d : Option Addr) (cp : Nat) (out : List Nat), s0 = .int .u64 (v : Nat) ∧ v < 18446744073709551616 ∧ k ≤ 2 ∧ s3 = .slice d k cp ∧ Ow .u32 49 w.heap.size wr d k cp out ∧ Hid (val out + pw k * v = n ∧ (v = 0 → canon out)) ∧ Below w.heap.size w wr) (fun v _ _ => (intOf v).toNat)
  case atStart => exact ⟨n, 0, none, 0, [], rfl, hn, by decide, rfl, Ow.nil _ _ _ _, Lib.hid ⟨by simp [val, pw], fun _ => by simp [canon]⟩, Below.refl _ _⟩
  case round =>
    obtain ⟨v, k, d, cp, out, rfl, hv, hk, rfl, ho, hE, hb⟩ := hrel
    have hz := hb.size
    by_cases h0 : 0 < v
    · have hk2 : k < 2 := by
        have h1 := hE.out.1
        have h2 := Nat.le_mul_of_pos_right (pw k) h0
        exact pw_lt (i := k) (j := 2) (by show _ < 18446744073709551616; omega)
      have hx := Lib.hid (show ((v : Int) % 4294967296) = ((v % 4294967296 : Nat) : Int) by omega)
      have hy := Lib.hid (show ((v : Int) / 4294967296) = ((v / 4294967296 : Nat) : Int) by omega)
      have HE := Lib.hid (show val (out ++ [v % 4294967296]) + pw (k + 1) * (v / 4294967296) = n ∧ (v / 4294967296 = 0 → canon (out ++ [v % 4294967296])) from ⟨by
        rw [of_step out v k ho.len]
        exact hE.out.1, fun e => by simp [canon]; omega⟩)
      go_wp2_with (at_builtin; refine wpList_app rfl _ _ 22 rfl etN w.heap.size rfl (ho.own.alloc _) rfl rfl (sl_new wr _ 49 rfl) (by unfold maxLen; omega) (by omega) (by simp; omega) ?_; intro a' cap2 w' hown hg hbw)
      rw [hx.out] at hown
      have ho2 := ho.snoc (x := v % 4294967296) (Nat.mod_lt _ (by decide)) rfl hown
      have hbn := hb.trans (((Below.refl w.heap.size wr).alloc hz _).trans hbw)
      clear hown hg hbw ho
      go_roundw
      case rel => exact ⟨v / 4294967296, k + 1, a', cap2, _, by rw [hy.out], by omega, by omega, rfl, ho2, HE, hbn⟩
      case measure => simp [intOf]; omega
    · obtain rfl : v = 0 := by omega
      have e1 := Lib.hid (show r = out by
        have := hE.out.1
        rw [Nat.mul_zero, Nat.add_zero] at this
        rw [HR.out, ← this, limbs_val ho.bd (hE.out.2 rfl)])
      go_wp2_with fail
      go_ret
      rw [e1.out]
      exact ⟨d, k, cp, rfl, ho.rd, hb⟩

set_option maxHeartbeats 1000000 in
theorem refWord_any (w : World) {a : Option Addr} {n cap : Nat} {xs : List Nat} (h : Rd .u32 w a n cap xs) :
    Calls Tryz.prog 61 #[.slice a n cap] w (RetW w (wordC xs)) := by
  have hn := h.lt
  have HL := Lib.hid h.len
  obtain ⟨r, hr0⟩ : ∃ r, r = wordC xs := ⟨_, rfl⟩
  rw [← hr0]
  have HR := Lib.hid hr0
  clear hr0
  go_enter Tryz.func61, Tryz.ntmps61
  go_wp2_with fail
  refine (refCheck_any _ h).mono ?_
  rintro e w1 ⟨rfl, rfl⟩
  by_cases hz : chk xs = 0
  · have HZ := Lib.hid hz
    rw [hz]
    clear hz
    by_cases h2 : 2 < n
    · have e1 := Lib.hid (show r = (0, 30) by rw [HR.out, wordC, if_pos HZ.out, HL.out, if_pos h2])
      go_wp2_with fail
      go_ret2
      rw [e1.out]
      exact ⟨rfl, rfl⟩
    · have e1 := Lib.hid (show r = (val xs, 0) by rw [HR.out, wordC, if_pos HZ.out, HL.out, if_neg h2])
      go_wp2_with fail
      go_loop [5, 6] (fun v i => ∃ k : Nat, k ≤ n ∧ i = .int .i64 ((k : Int) - 1) ∧ v = .int .u64 (val (xs.drop k) : Nat)) (fun _ i => (intOf i + 1).toNat)
      case atStart => exact ⟨n, Nat.le_refl _, rfl, by rw [List.drop_eq_nil_of_le (by have := HL.out; omega)]; rfl⟩
      case round =>
        obtain ⟨k, hk, hi, rfl⟩ := hrel
        by_cases h0 : 0 < k
        · obtain ⟨j, rfl⟩ : ∃ j, k = j + 1 := ⟨k - 1, by omega⟩
          subst hi
          have hi2 : (((j + 1 : Nat) : Int) - 1) = (j : Int) := by omega
          rw [hi2]
          clear hi2
          obtain ⟨p, off, rfl, hc, _⟩ := h.cell j (by omega)
          have b1 := small32_nth (show small32 xs from h.bd) j
          have b2 := val_lt' (small32_drop (show small32 xs from h.bd) (j + 1))
          rw [List.length_drop, HL.out] at b2
          have b3 : val (xs.drop (j + 1)) < 4294967296 := Nat.lt_of_lt_of_le b2 (by
            have := pw_le (show n - (j + 1) ≤ 1 by omega)
            simpa [pw] using this)
          have hs := Lib.hid (show val (xs.drop j) = 4294967296 * val (xs.drop (j + 1)) + nth xs j by
            rw [drop_nth (by have := HL.out; omega), val]; omega)
          clear b2
          go_wp2_with fail
          go_round
          case rel => exact ⟨j, by omega, rfl, by rw [hs.out]; go_num⟩
          case measure => simp [intOf]
        · obtain rfl : k = 0 := by omega
          subst hi
          rw [List.drop_zero]
          go_wp2_with fail
          go_ret2
          rw [e1.out]
          exact ⟨rfl, rfl⟩
  · have e1 := Lib.hid (show r = (0, chk xs) by rw [HR.out, wordC, if_neg hz])
    go_wp2_with fail
    go_ret2
    rw [e1.out]
    exact ⟨rfl, rfl⟩

def longB (xs : List Nat) : Bool := decide (24 < xs.length ∧ xs.length ≤ 96)

theorem Long_any (w : World) {a : Option Addr} {n cap : Nat} {xs : List Nat} (h : Rd .u32 w a n cap xs) :
    Calls Tryz.prog 84 #[.slice a n cap] w fun e w' => e = .returned (.bool (longB xs)) ∧ w = w' := by
  have hn := h.lt
  obtain ⟨r, hr0⟩ : ∃ r, r = longB xs := ⟨_, rfl⟩
  rw [← hr0]
  unfold longB at hr0
  rw [h.len] at hr0
  have HR := Lib.hid hr0
  clear hr0
  by_cases h1 : 24 < n
  · by_cases h2 : n ≤ 96
    · have e1 := Lib.hid (show r = true by rw [HR.out]; simp; omega)
      go_enter Tryz.func84, Tryz.ntmps84
      go_wp2_with fail
      go_ret
      rw [e1.out]
      exact ⟨by simp; omega, rfl⟩
    · have e1 := Lib.hid (show r = false by rw [HR.out]; simp; omega)
      go_enter Tryz.func84, Tryz.ntmps84
      go_wp2_with fail
      go_ret
      rw [e1.out]
      exact ⟨by simp; omega, rfl⟩
  · have e1 := Lib.hid (show r = false by rw [HR.out]; simp; omega)
    have hd : decide ((24 : Int) < (n : Int)) = false := by simp; omega
    go_enter Tryz.func84, Tryz.ntmps84
    go_wp2_with fail
    go_ret
    rw [e1.out]
    exact ⟨rfl, rfl⟩

end Go.Proofs.YtdaajeklnhbhjaaGreatDoor
/- Binary division and the binary greatest common divisor, as plain data. No condition. -/
namespace Go.Suf
open Go.RowKit
set_option linter.unusedVariables false
set_option linter.unusedSimpArgs false

theorem val_set {xs : List Nat} {i : Nat} (h : i < xs.length) (v : Nat) : val (xs.set i v) + pw i * nth xs i = val xs + pw i * v := by
  rw [val_split (xs.set i v) (i + 1) (by simp; omega), val_take_set h, set_drop_gt _ (by omega), val_split xs (i + 1) (by omega), val_take_succ xs]
  omega

theorem two_pow_add (i j : Nat) : (2 : Nat) ^ (i + j) = 2 ^ i * 2 ^ j := Nat.pow_add _ _ _

theorem pw_two (j : Nat) : pw j = 2 ^ (32 * j) := by
  rw [Nat.pow_mul]
  rfl

/-- A number about its limb j. -/
theorem val_mid {xs : List Nat} {j : Nat} (h : j < xs.length) : val xs = val (xs.take j) + pw j * (nth xs j + 4294967296 * val (xs.drop (j + 1))) := by
  have := val_split xs j (by omega)
  rwa [drop_nth h, val] at this

theorem bit_at {xs : List Nat} {j s : Nat} (hx : small32 xs) (h : j < xs.length) (hs : s < 32) : val xs / 2 ^ (32 * j + s) % 2 = nth xs j / 2 ^ s % 2 := by
  have a := val_lt' (small32_take hx j)
  rw [List.length_take, Nat.min_eq_left (by omega)] at a
  rw [two_pow_add, ← Nat.div_div_eq_div_mul, ← pw_two]
  have e : val xs / pw j = nth xs j + 4294967296 * val (xs.drop (j + 1)) := by
    rw [val_mid h, Nat.add_mul_div_left _ _ (pw_pos j), Nat.div_eq_of_lt a]
    omega
  rw [e]
  have e2 : 4294967296 = 2 ^ s * (2 * 2 ^ (31 - s)) := by
    rw [← Nat.pow_succ', ← Nat.pow_add, show s + (31 - s + 1) = 32 by omega]
  generalize val (xs.drop (j + 1)) = H
  have e3 : nth xs j + 4294967296 * H = nth xs j + 2 ^ s * (2 * (2 ^ (31 - s) * H)) := by
    rw [e2, Nat.mul_assoc, Nat.mul_assoc]
  rw [e3, Nat.add_mul_div_left _ _ (Nat.pow_pos (by decide))]
  generalize nth xs j / 2 ^ s = Y
  generalize 2 ^ (31 - s) * H = Z
  omega

/-- A multiple of 2^(32 j + s + 1): limb j is a multiple of 2^(s + 1). -/
theorem limb_mult {xs : List Nat} {j s K : Nat} (hx : small32 xs) (h : j < xs.length) (hs : s < 32) (hv : val xs = K * 2 ^ (32 * j + s + 1)) : nth xs j + 2 ^ s < 4294967296 := by
  have a := val_lt' (small32_take hx j)
  rw [List.length_take, Nat.min_eq_left (by omega)] at a
  have m := val_mid h
  rw [show 32 * j + s + 1 = 32 * j + (s + 1) by omega, two_pow_add, ← pw_two, Nat.mul_left_comm] at hv
  -- val (take j) is 0
  have e : val xs / pw j = nth xs j + 4294967296 * val (xs.drop (j + 1)) := by
    rw [m, Nat.add_mul_div_left _ _ (pw_pos j), Nat.div_eq_of_lt a]
    omega
  rw [hv, Nat.mul_div_cancel_left _ (pw_pos j)] at e
  have e2 : 4294967296 = 2 ^ (s + 1) * 2 ^ (31 - s) := by rw [← Nat.pow_add, show s + 1 + (31 - s) = 32 by omega]
  have hx2 : nth xs j % 2 ^ (s + 1) = 0 := by
    have h1 : (nth xs j + 4294967296 * val (xs.drop (j + 1))) % 2 ^ (s + 1) = 0 := by rw [← e, Nat.mul_mod_left]
    have h2 : nth xs j + 4294967296 * val (xs.drop (j + 1)) = nth xs j + 2 ^ (s + 1) * (2 ^ (31 - s) * val (xs.drop (j + 1))) := by
      rw [e2, Nat.mul_assoc]
    rw [h2, Nat.add_mul_mod_self_left] at h1
    exact h1
  have hlt := small32_nth hx j
  generalize nth xs j = x at *
  -- x = 2^(s+1) * t with t < 2^(31-s)
  have h3 := Nat.div_add_mod x (2 ^ (s + 1))
  rw [hx2, Nat.add_zero] at h3
  have h4 : x / 2 ^ (s + 1) < 2 ^ (31 - s) := by
    rw [Nat.div_lt_iff_lt_mul (Nat.pow_pos (by decide)), Nat.mul_comm, ← e2]
    exact hlt
  have h5 := Nat.mul_le_mul_left (2 ^ (s + 1)) (show x / 2 ^ (s + 1) + 1 ≤ 2 ^ (31 - s) from h4)
  rw [Nat.mul_add, h3, ← e2, Nat.mul_one] at h5
  have h6 : 2 ^ (s + 1) = 2 * 2 ^ s := by rw [Nat.pow_succ, Nat.mul_comm]
  have h7 : 0 < 2 ^ s := Nat.pow_pos (by decide)
  omega

/-- One bit more of a division. -/
theorem bit_step {A V i : Nat} (hV : 0 < V) : A / 2 ^ i % V = (if A / 2 ^ (i + 1) % V + A / 2 ^ (i + 1) % V + A / 2 ^ i % 2 < V then A / 2 ^ (i + 1) % V + A / 2 ^ (i + 1) % V + A / 2 ^ i % 2 else A / 2 ^ (i + 1) % V + A / 2 ^ (i + 1) % V + A / 2 ^ i % 2 - V) ∧
    A / 2 ^ i / V = 2 * (A / 2 ^ (i + 1) / V) + (if A / 2 ^ (i + 1) % V + A / 2 ^ (i + 1) % V + A / 2 ^ i % 2 < V then 0 else 1) := by
  have e : A / 2 ^ (i + 1) = A / 2 ^ i / 2 := by rw [Nat.pow_succ, Nat.div_div_eq_div_mul]
  rw [e]
  generalize A / 2 ^ i = Y
  have h1 := Nat.div_add_mod Y 2
  have h2 := Nat.div_add_mod (Y / 2) V
  have h3 := Nat.mod_lt (Y / 2) hV
  have h4 := Nat.mod_lt Y (show 0 < 2 by decide)
  generalize Y / 2 / V = q at *
  generalize Y / 2 % V = r at *
  generalize Y % 2 = b at *
  have hY : Y = V * (2 * q) + (r + r + b) := by
    rw [← h1, ← h2, Nat.mul_left_comm]
    omega
  split
  · rename_i hlt
    rw [hY]
    exact ⟨by rw [Nat.mul_add_mod, Nat.mod_eq_of_lt hlt], by rw [Nat.mul_add_div hV, Nat.div_eq_of_lt hlt]⟩
  · rename_i hge
    have hY2 : Y = V * (2 * q + 1) + (r + r + b - V) := by
      rw [Nat.mul_add, Nat.mul_one]
      omega
    have hlt : r + r + b - V < V := by omega
    rw [hY2]
    exact ⟨by rw [Nat.mul_add_mod, Nat.mod_eq_of_lt hlt], by rw [Nat.mul_add_div hV, Nat.div_eq_of_lt hlt]⟩

theorem val_mod2 (xs : List Nat) : val xs % 2 = nth xs 0 % 2 := by
  cases xs with
  | nil => rfl
  | cons x xs =>
    simp only [val, nth, List.getD_cons_zero]
    omega

/-- Halves. -/
theorem half_val {xs out : List Nat} (hx : small32 xs) (hl : out.length = xs.length) (h : ∀ i, i < xs.length → nth out i = (nth xs (i + 1) % 2 * 4294967296 + nth xs i) / 2) : val out = val xs / 2 := by
  have e := shr_val (s := 2) (m := 2147483648) (by decide) (xs ++ [0]) out (by simp [hl]) (small32_snoc hx (by decide)) (by rw [hl]; simp [nth]) (fun i hi => by
    rw [hl] at hi
    rw [h i hi]
    have e1 : nth (xs ++ [0]) i = nth xs i := by simp [nth, List.getElem?_append_left hi]
    have e2 : nth (xs ++ [0]) (i + 1) = nth xs (i + 1) := by
      by_cases h' : i + 1 < xs.length
      · simp [nth, List.getElem?_append_left h']
      · rw [nth_out (xs := xs) (by omega)]
        by_cases h'' : i + 1 = xs.length
        · simp [nth, h'']
        · exact nth_out (by simp; omega)
    rw [e1, e2]
    have := small32_nth hx i
    omega)
  rw [e, val_snoc]
  simp

/-- The greatest common divisor, by halving and subtracting. -/
theorem gcd_even_odd {a b : Nat} (hb : b % 2 = 1) : Nat.gcd (2 * a) b = Nat.gcd a b := by
  have hc : Nat.Coprime 2 b := by
    unfold Nat.Coprime
    rw [Nat.gcd_rec, hb]
    rfl
  exact hc.gcd_mul_left_cancel a

theorem gcd_half_left {a b : Nat} (ha : a % 2 = 0) (hb : b % 2 = 1) : Nat.gcd (a / 2) b = Nat.gcd a b := by
  have : a = 2 * (a / 2) := by omega
  conv => rhs; rw [this]
  exact (gcd_even_odd hb).symm

theorem gcd_half_right {a b : Nat} (ha : a % 2 = 1) (hb : b % 2 = 0) : Nat.gcd a (b / 2) = Nat.gcd a b := by
  rw [Nat.gcd_comm a, Nat.gcd_comm a]
  exact gcd_half_left hb ha

theorem gcd_half_both {a b : Nat} (ha : a % 2 = 0) (hb : b % 2 = 0) : Nat.gcd a b = 2 * Nat.gcd (a / 2) (b / 2) := by
  have h1 : a = 2 * (a / 2) := by omega
  have h2 : b = 2 * (b / 2) := by omega
  conv => lhs; rw [h1, h2]
  exact Nat.gcd_mul_left _ _ _

theorem gcd_less {a b : Nat} (h : a ≤ b) : Nat.gcd a (b - a) = Nat.gcd a b := by
  have : b = (b - a) + a := by omega
  conv => rhs; rw [this]
  exact (Nat.gcd_add_self_right _ _).symm

theorem gcd_less' {a b : Nat} (h : b ≤ a) : Nat.gcd (a - b) b = Nat.gcd a b := by
  rw [Nat.gcd_comm, gcd_less h, Nat.gcd_comm]

end Go.Suf
/- The document's answer: Mul, half. No condition. -/
namespace Go.Proofs.YtdaajeklnhbhjaaGreatDoor
open Go.RowKit Go.Suf
set_option linter.unusedVariables false
set_option linter.unusedSimpArgs false

set_option maxRecDepth 100000 in
set_option maxHeartbeats 2000000 in
theorem refMul_any (w : World) {a b : Option Addr} {n m cap cap' : Nat} {xs ys : List Nat} (h : Rd .u32 w a n cap xs) (h' : Rd .u32 w b m cap' ys) :
    Calls Tryz.prog 55 #[.slice a n cap, .slice b m cap'] w (RetN w (mulC xs ys)) := by
  obtain ⟨r, hr0⟩ : ∃ r, r = mulC xs ys := ⟨_, rfl⟩
  rw [← hr0]
  have HR := Lib.hid hr0
  clear hr0
  go_enter Tryz.func55, Tryz.ntmps55
  go_wp2_with fail
  refine (refBoth_any _ h h').mono ?_
  rintro e w1 ⟨rfl, rfl⟩
  by_cases hz : bothC xs ys = 0
  · obtain ⟨z1, z2⟩ := bothC_ok hz
    have l1 := (chk_ok.1 z1).1
    have l2 := (chk_ok.1 z2).1
    rw [h.len] at l1
    rw [h'.len] at l2
    have HZ := Lib.hid hz
    rw [hz]
    have HL := Lib.hid h.len
    have HL' := Lib.hid h'.len
    clear hz z1 z2
    go_wp2_with fail
    go_loopw [7, 8] (fun v i wr => ∃ (k : Nat) (ad : Option Addr) (p c : Nat), k ≤ m ∧ i = .int .i64 (k : Nat) ∧ v = .slice ad p c ∧ Rd .u32 wr ad p c (limbs (val xs * val (ys.take k))) ∧ Below w.heap.size w wr) (fun _ i _ => m - (intOf i).toNat)
    case atStart => exact ⟨0, none, 0, 0, Nat.zero_le _, rfl, rfl, by simpa [val, limbs_zero] using Rd.nil _ _, Below.refl _ _⟩
    case round =>
      obtain ⟨k, ad, p, c, hk, rfl, rfl, hR, hb⟩ := hrel
      have hp := Lib.hid (show p ≤ n + k by
        have := limbs_len_le (mul_lt_pw (val_lt' (show small32 xs from h.bd)) (val_lt' (small32_take (show small32 ys from h'.bd) k)))
        rw [hR.len, HL.out, List.length_take] at this
        omega)
      have hp2 : p ≤ 200 := by have := hp.out; omega
      by_cases hlt : k < m
      · obtain ⟨W3, rfl⟩ : ∃ W, W = wr := ⟨wr, rfl⟩
        have hrd := h.below hb
        have hrd' := h'.below hb
        have hz := hb.size
        have b1 := small32_nth (show small32 ys from h'.bd) k
        obtain ⟨o1, o2, rfl, hcy, _⟩ := hrd'.cell k hlt
        have mk : ∀ w, (Instr.makeSlice 22 (.int .i64 (k : Int)) (.int .i64 (k : Int))).run Tryz.prog w = .ok (.slice (some ⟨w.heap.size, 0, none⟩) k k) (w.alloc (.cells (zeros .u32 k) 49)) := fun w => run_zeros etN k (by omega) (by omega) w
        have ho0 := Ow.full .u32 49 W3 k (by unfold maxLen; omega)
        have hb0 : Below W3.heap.size W3 (W3.alloc (.cells (zeros .u32 k) 49)) := (Below.refl _ _).alloc (Nat.le_refl _) _
        go_wp2_with fail
        go_loopw [9, 10, 11] (fun v c i wz => ∃ (j cc : Nat) (d : Option Addr) (cp : Nat) (row : List Nat), j ≤ n ∧ i = .int .i64 (j : Nat) ∧ c = .int .u64 (cc : Nat) ∧ cc < 4294967296 ∧ v = .slice d (k + j) cp ∧ Ow .u32 49 W3.heap.size wz d (k + j) cp row ∧ Hid (Row xs row k (nth ys k) j cc) ∧ Below W3.heap.size W3 wz) (fun _ _ i _ => n - (intOf i).toNat)
        case atStart => exact ⟨0, 0, _, k, zs k, Nat.zero_le _, rfl, rfl, by decide, rfl, ho0, Lib.hid (Row.start _ _ _), hb0⟩
        case round =>
          obtain ⟨j, cc, d, cp, row, hj, rfl, rfl, hcc, rfl, ho, hS, hbz⟩ := hrel
          have hz3 := hbz.size
          by_cases hjn : j < n
          · obtain ⟨q1, q2, rfl, hcx, _⟩ := (hrd.below hbz).cell j hjn
            have hcy2 := cell_below hbz hcy
            have b2 := small32_nth (show small32 xs from h.bd) j
            have b3 := mul_lt_sq b2 b1
            have hS2 := Lib.hid (hS.out.step (show small32 xs from h.bd) b1)
            have hv := Lib.hid (show ((nth xs j : Int) * (nth ys k : Int) + (cc : Int)) % 4294967296 = (((nth xs j * nth ys k + cc) % 4294967296 : Nat) : Int) by omega)
            have hw := Lib.hid (show ((nth xs j : Int) * (nth ys k : Int) + (cc : Int)) / 4294967296 = (((nth xs j * nth ys k + cc) / 4294967296 : Nat) : Int) by omega)
            go_wp2_with fail
            go_quiet (fail)
            go_wp2_with (at_builtin; refine wpList_app rfl _ _ 22 rfl etN W3.heap.size rfl ((ho.drewN _).own.alloc _) rfl rfl (sl_new _ _ 49 rfl) (by unfold maxLen; omega) (by omega) (by simp; omega) ?_; intro a' cap2 w' hown hg hbw)
            rw [hv.out] at hown
            have ho2 := ho.snoc (x := (nth xs j * nth ys k + cc) % 4294967296) (Nat.mod_lt _ (by decide)) (m := k + j + 1) rfl hown
            have hbn := (below_drewN hbz nq).trans (((Below.refl W3.heap.size (wr.drewN nq)).alloc (by simpa using hz3) _).trans hbw)
            clear hown hg hbw ho
            go_roundw
            case rel => exact ⟨j + 1, _, a', cap2, _, by omega, by go_num, by rw [hw.out], hS2.out.lt, rfl, ho2, hS2, hbn⟩
            case measure => simp [intOf]; omega
          · obtain rfl : j = n := by omega
            have hS3 := hS.out
            rw [← HL.out] at hS3
            have hdn := hS3.done
            have hcv : (cc : Int) % 4294967296 = (cc : Int) := by omega
            have HDN := Lib.hid hdn
            have hRz := hR.below hbz
            clear hS3 hdn
            go_wp2_with (at_builtin; refine wpList_app rfl _ _ 22 rfl etN W3.heap.size rfl (ho.own.alloc _) rfl rfl (sl_new _ _ 49 rfl) (by unfold maxLen; omega) (by omega) (by simp; omega) ?_; intro a' cap2 w' hown hg hbw)
            have ho2 := ho.snoc (x := cc) hcc (m := k + j + 1) rfl hown
            have hbn := hbz.trans (((Below.refl W3.heap.size wr).alloc hz3 _).trans hbw)
            clear hown hg hbw
            refine (plus_any _ (hR.below hbn) ho2.rd (by omega) (by omega)).mono ?_
            rintro e w5 ⟨a5, m5, c5, rfl, ho5, hb5⟩
            have hres : Hid (val (limbs (val xs * val (ys.take k))) + val (row ++ [cc]) = val xs * val (ys.take (k + 1))) := by
              rw [val_limbs, HDN.out.1, val_take_succ, Nat.mul_add, Nat.mul_left_comm]
              exact Lib.hid rfl
            have hR5 := ho5.rd
            rw [hres.out] at hR5
            have hz5 := hbn.size
            have hbf := hb.trans ((hbn.trans (hb5.mono hz5)).mono hz)
            go_wp2_with fail
            go_roundw
            case rel => exact ⟨k + 1, a5, m5, c5, by omega, by go_num, rfl, hR5, hbf⟩
            case measure => simp [intOf]; omega
      · obtain rfl : k = m := by omega
        have hR2 := hR
        rw [List.take_of_length_le (by have := HL'.out; omega)] at hR2
        have HLR := Lib.hid hR2.len
        by_cases hg : 96 < p
        · have e1 := Lib.hid (show r = ([], 30) by rw [HR.out, mulC, if_pos HZ.out, fitC, HLR.out, if_pos hg])
          go_wp2_with fail
          go_ret2
          rw [e1.out]
          exact ⟨none, 0, 0, rfl, Rd.nil _ _, hb⟩
        · have e1 := Lib.hid (show r = (limbs (val xs * val ys), 0) by rw [HR.out, mulC, if_pos HZ.out, fitC, HLR.out, if_neg hg])
          go_wp2_with fail
          go_ret2
          rw [e1.out]
          exact ⟨ad, p, c, rfl, hR2, hb⟩
  · have e1 := Lib.hid (show r = ([], bothC xs ys) by rw [HR.out, mulC, if_neg hz])
    go_wp2_with fail
    go_ret2
    rw [e1.out]
    exact ⟨none, 0, 0, rfl, Rd.nil _ _, Below.refl _ _⟩

set_option maxHeartbeats 1000000 in
theorem half_any (w : World) {a : Option Addr} {n cap : Nat} {xs : List Nat} (h : Rd .u32 w a n cap xs) (hn : n ≤ 100000) :
    Calls Tryz.prog 95 #[.slice a n cap] w (RetO w (limbs (val xs / 2))) := by
  have HL := Lib.hid h.len
  obtain ⟨r, hr0⟩ : ∃ r, r = limbs (val xs / 2) := ⟨_, rfl⟩
  rw [← hr0]
  have HR := Lib.hid hr0
  clear hr0
  have mk : ∀ w, (Instr.makeSlice 22 (.int .i64 (n : Int)) (.int .i64 (n : Int))).run Tryz.prog w = .ok (.slice (some ⟨w.heap.size, 0, none⟩) n n) (w.alloc (.cells (zeros .u32 n) 49)) := fun w => run_zeros etN n (by omega) (by omega) w
  have HB0 := Blk.made .u32 49 w n
  go_enter Tryz.func95, Tryz.ntmps95
  go_wp2_with fail
  go_loopw [4] (fun i wr => ∃ (k : Nat) (out : List Nat), k ≤ n ∧ i = .int .i64 (k : Nat) ∧ out.length = n ∧ Hid (∀ j, j < k → nth out j = (nth xs (j + 1) % 2 * 4294967296 + nth xs j) / 2) ∧ Blk .u32 49 wr w.heap.size out ∧ Below w.heap.size w wr) (fun i _ => n - (intOf i).toNat)
  case atStart => exact ⟨0, zs n, Nat.zero_le _, rfl, zs_length _, Lib.hid fun j hj => by omega, HB0, (Below.refl _ _).alloc (Nat.le_refl _) _⟩
  case round =>
    obtain ⟨k, out, hk, rfl, hlen, hS, hB, hb⟩ := hrel
    have hrd := h.below hb
    by_cases hlt : k < n
    · obtain ⟨p, off, rfl, hc, _⟩ := hrd.cell k hlt
      have hcell := hB.cell k (by omega)
      have hfree := hB.free k
      have b1 := small32_nth (show small32 xs from h.bd) k
      have b2 := small32_nth (show small32 xs from h.bd) (k + 1)
      have HLn := Lib.hid hlen
      obtain ⟨v, hv⟩ : ∃ v, v = (nth xs (k + 1) % 2 * 4294967296 + nth xs k) / 2 := ⟨_, rfl⟩
      have hvl : v < 4294967296 := by omega
      have he := Lib.hid (show (((nth xs (k + 1) : Int) % 2 * 4294967296 + (nth xs k : Int)) / 2) = (v : Int) by omega)
      have HV := Lib.hid hv
      clear hv
      have HBn := Lib.hid (hB.set k v hvl)
      have hb2 := hb.setCell (p := ⟨w.heap.size, k, none⟩) (Nat.le_refl _) (.int .u32 (v : Nat))
      have hS2 := Lib.hid (show ∀ j, j < k + 1 → nth (out.set k v) j = (nth xs (j + 1) % 2 * 4294967296 + nth xs j) / 2 by
        intro j hj
        by_cases e : k = j
        · subst e
          rw [nth_set_same (by have := HLn.out; omega), HV.out]
        · rw [nth_set_ne e]
          exact hS.out j (by omega))
      have hat : ∀ w', Below wr.heap.size wr w' → Calls Tryz.prog 106 #[.slice (some ⟨p, off, none⟩) n cap, .int .i64 ((k : Int) + 1)] w' fun e w'' => e = .returned (.int .u64 (nth xs (k + 1) : Nat)) ∧ w' = w'' := fun w' hbw => by
        have := at_any w' (hrd.below hbw) (k + 1) (by omega)
        rwa [show ((k + 1 : Nat) : Int) = (k : Int) + 1 by omega] at this
      clear hlen
      go_wp2_with fail
      have hwr : IntKind.i64.wrap ((k : Int) + 1) = (k : Int) + 1 := IntWalk.i64_in _ (by omega)
      have hbig : IntKind.u32.wrap (IntKind.u64.wrap ((IntKind.u64.wrap (IntKind.u64.wrap ((nth xs (k + 1) : Int).tmod 2 * 4294967296) + IntKind.u64.wrap (nth xs k : Int))).tdiv 2)) = (v : Int) := by
        rw [Int.tmod_eq_emod_of_nonneg (by omega)]
        simp only [IntKind.wrap_u64, IntKind.wrap_u32']
        rw [Int.tdiv_eq_ediv_of_nonneg (by omega)]
        have := HV.out
        omega
      have HBIG := Lib.hid hbig
      clear hbig
      go_region_with (first | (go_at_call 106; with_reducible refine (hat _ (by first | exact (Below.refl _ _).drew | exact Below.refl _ _)).mono ?_; rintro e w1 ⟨rfl, rfl⟩))
      all_goals
        rw [HBIG.out]
        clear hwr
        go_wp2
        go_roundw
        case rel => exact ⟨k + 1, _, by omega, by go_num, by have := HLn.out; simp [this], hS2, ⟨HBn.out.blk, HBn.out.bd⟩, hb2.drew⟩
        case measure => simp [intOf]; omega
    · obtain rfl : k = n := by omega
      have hv := Lib.hid (half_val (xs := xs) (out := out) h.bd (by rw [hlen, HL.out]) (by rw [HL.out]; exact hS.out))
      have hR := hB.rd k hlen (by unfold maxLen; omega)
      have hz := hb.size
      clear hlen
      go_wp2_with fail
      refine (refTrim_any _ hR (by omega)).mono ?_
      rintro e w1 ⟨a', m', c', rfl, ho', hb'⟩
      rw [hv.out, ← HR.out] at ho'
      go_wp2_with fail
      go_ret
      exact ⟨a', m', c', rfl, ho'.base_le hz, hb.trans (hb'.mono hz)⟩

end Go.Proofs.YtdaajeklnhbhjaaGreatDoor
