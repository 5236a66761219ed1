/- The document's answer: Gcd. No condition. -/
import Derived.Test.YtmkcdlhhbnakiaaNatU
namespace Go.Proofs.Ytmkcdlhhbnakiaa
open Go.RowKit Go.Suf
set_option linter.unusedVariables false
set_option linter.unusedSimpArgs false

/-- What the loop keeps. -/
structure Stn (A G X Y tw k : Nat) : Prop where
  gcd : 2 ^ tw * Nat.gcd X Y = G
  le : 2 ^ tw * X ≤ A
  sum : X + Y = k
  tw : tw ≤ 3072

theorem Stn.both {A G X Y tw k : Nat} (h : Stn A G X Y tw k) (hA : A < pw 96) (hX : 0 < X) (e1 : X % 2 = 0) (e2 : Y % 2 = 0) : Stn A G (X / 2) (Y / 2) (tw + 1) (X / 2 + Y / 2) ∧ X / 2 + Y / 2 < k ∧ tw < 3072 := by
  have hlt : tw < 3072 := by
    have a := h.le
    have b := Nat.le_mul_of_pos_right (2 ^ tw) hX
    rw [pw_two] at hA
    have c : 2 ^ tw < 2 ^ (32 * 96) := by omega
    rcases Nat.lt_or_ge tw 3072 with h | h
    · exact h
    · have := Nat.pow_le_pow_right (show 0 < 2 by decide) h
      omega
  have hs := h.sum
  refine ⟨⟨?_, ?_, rfl, by omega⟩, by omega, hlt⟩
  · rw [← h.gcd, gcd_half_both e1 e2, Nat.pow_succ, Nat.mul_assoc]
  · have e : 2 ^ (tw + 1) * (X / 2) = 2 ^ tw * X := by
      rw [Nat.pow_succ, Nat.mul_assoc]
      congr 1
      omega
    rw [e]
    exact h.le

theorem Stn.left {A G X Y tw k : Nat} (h : Stn A G X Y tw k) (hX : 0 < X) (e1 : X % 2 = 0) (e2 : Y % 2 = 1) : Stn A G (X / 2) Y tw (X / 2 + Y) ∧ X / 2 + Y < k := by
  have hs := h.sum
  refine ⟨⟨?_, ?_, rfl, h.tw⟩, by omega⟩
  · rw [← h.gcd, gcd_half_left e1 e2]
  · exact Nat.le_trans (Nat.mul_le_mul_left _ (Nat.div_le_self _ _)) h.le

theorem Stn.right {A G X Y tw k : Nat} (h : Stn A G X Y tw k) (hY : 0 < Y) (e1 : X % 2 = 1) (e2 : Y % 2 = 0) : Stn A G X (Y / 2) tw (X + Y / 2) ∧ X + Y / 2 < k := by
  have hs := h.sum
  refine ⟨⟨?_, h.le, rfl, h.tw⟩, by omega⟩
  rw [← h.gcd, gcd_half_right e1 e2]

theorem Stn.down {A G X Y tw k : Nat} (h : Stn A G X Y tw k) (hX : 0 < X) (hlt : X ≤ Y) : Stn A G X (Y - X) tw (X + (Y - X)) ∧ X + (Y - X) < k := by
  have hs := h.sum
  refine ⟨⟨?_, h.le, rfl, h.tw⟩, by omega⟩
  rw [← h.gcd, gcd_less hlt]

theorem Stn.up {A G X Y tw k : Nat} (h : Stn A G X Y tw k) (hY : 0 < Y) (hge : Y ≤ X) : Stn A G (X - Y) Y tw (X - Y + Y) ∧ X - Y + Y < k := by
  have hs := h.sum
  refine ⟨⟨?_, ?_, rfl, h.tw⟩, by omega⟩
  · rw [← h.gcd, gcd_less' hge]
  · exact Nat.le_trans (Nat.mul_le_mul_left _ (Nat.sub_le _ _)) h.le

theorem mod2_bool {x : Nat} : (((x : Int) % 2 == 0) = true ↔ x % 2 = 0) := by
  rw [beq_iff_eq]
  omega

theorem limbs_len_val {N : Nat} {ys : List Nat} (hs : small32 ys) (h : N ≤ val ys) : (limbs N).length ≤ ys.length :=
  len_le hs (limbs_canon N) (by rw [val_limbs]; exact h)

set_option maxRecDepth 100000 in
set_option maxHeartbeats 4000000 in
theorem refGcd_any (w : World) {a b : Option Addr} {n m cap cap' : Nat} {xs ys : List Nat} (h : Rd .u32 w a n cap xs) (h' : Rd .u32 w b m cap' ys) :
    Calls Try.prog 79 #[.slice a n cap, .slice b m cap'] w (RetN w (gcdC xs ys)) := by
  obtain ⟨r, hr0⟩ : ∃ r, r = gcdC xs ys := ⟨_, rfl⟩
  rw [← hr0]
  have HR := Lib.hid hr0
  clear hr0
  go_enter Try.func79, Try.ntmps79
  go_wp2_with fail
  refine (refBoth_any _ h h').mono ?_
  rintro e w1 ⟨rfl, rfl⟩
  by_cases hz : bothC xs ys = 0
  · obtain ⟨z1, z2⟩ := bothC_ok hz
    have l1 := (chk_ok.1 z1).1
    have l2 := (chk_ok.1 z2).1
    have c1 := (chk_ok.1 z1).2
    have c2 := (chk_ok.1 z2).2
    have e1 := Lib.hid (show r = (limbs (Nat.gcd (val xs) (val ys)), 0) by rw [HR.out, gcdC, if_pos hz])
    have HA := Lib.hid (Nat.lt_of_lt_of_le (val_lt' (show small32 xs from h.bd)) (pw_le l1))
    have HL := Lib.hid h.len
    have HL' := Lib.hid h'.len
    have HX := Lib.hid (limbs_val h.bd c1)
    have HY := Lib.hid (limbs_val h'.bd c2)
    rw [h.len] at l1
    rw [h'.len] at l2
    rw [hz]
    clear hz z1 z2
    go_wp2_with fail
    refine (refTrim_any _ h (by omega)).mono ?_
    rintro e w2 ⟨a2, n2, cc2, rfl, ho2, hb2⟩
    rw [HX.out] at ho2
    have hr2 := ho2.rd
    have hn2 : n2 = n := by rw [← hr2.len, HL.out]
    subst hn2
    go_wp2_with fail
    refine (refTrim_any _ (h'.below hb2) (by omega)).mono ?_
    rintro e w3 ⟨a3, n3, cc3, rfl, ho3, hb3⟩
    rw [HY.out] at ho3
    have hr3 := ho3.rd
    have hn3 : n3 = m := by rw [← hr3.len, HL'.out]
    subst hn3
    have hz2 := hb2.size
    have hb03 := hb2.trans (hb3.mono hz2)
    have hr2' := hr2.below hb3
    clear ho2 ho3 hr2 hb2 hb3
    go_wp2_with fail
    go_loopg [7, 8, 9] (val xs + val ys) (fun k s7 s8 s9 wr => ∃ (a : Option Addr) (n cap : Nat) (us : List Nat) (b : Option Addr) (m cap' : Nat) (vs : List Nat) (tw : Nat), s7 = .slice a n cap ∧ s8 = .slice b m cap' ∧ s9 = .int .i64 (tw : Nat) ∧ Rd .u32 wr a n cap us ∧ Rd .u32 wr b m cap' vs ∧ n ≤ 96 ∧ m ≤ 96 ∧ canon us ∧ canon vs ∧
      Hid (Stn (val xs) (Nat.gcd (val xs) (val ys)) (val us) (val vs) tw k) ∧ Below w.heap.size w wr)
    case atStart => exact ⟨a2, n2, cc2, xs, a3, n3, cc3, ys, 0, rfl, rfl, rfl, hr2', hr3, l1, l2, c1, c2, Lib.hid ⟨by simp, by simp, rfl, by decide⟩, hb03⟩
    case round =>
      obtain ⟨ad, p, cp, us, bd, q, cq, vs, tw, rfl, rfl, rfl, hu, hv, lp, lq, cu, cv, hS, hb⟩ := hrel
      have HLu := Lib.hid hu.len
      have HLv := Lib.hid hv.len
      have hz := hb.size
      have htw : tw ≤ 3072 := hS.out.tw
      by_cases hp : 0 < p
      · by_cases hq : 0 < q
        · have hX0 := Lib.hid (canon_val_pos cu (by rw [HLu.out]; exact hp))
          have hY0 := Lib.hid (canon_val_pos cv (by rw [HLv.out]; exact hq))
          obtain ⟨o1, o2, rfl, hc1, _⟩ := hu.cell 0 hp
          obtain ⟨o3, o4, rfl, hc2, _⟩ := hv.cell 0 hq
          rw [Nat.add_zero] at hc1 hc2
          have hm1 := val_mod2 us
          have hm2 := val_mod2 vs
          obtain ⟨x0, hx0⟩ : ∃ x, x = nth us 0 := ⟨_, rfl⟩
          obtain ⟨y0, hy0⟩ : ∃ x, x = nth vs 0 := ⟨_, rfl⟩
          rw [← hx0] at hc1 hm1
          rw [← hy0] at hc2 hm2
          have HM1 := Lib.hid hm1
          have HM2 := Lib.hid hm2
          have hD := fun j => below_drewN (Below.refl wr.heap.size wr) j
          clear hx0 hy0 hm1 hm2
          by_cases e1 : x0 % 2 = 0
          · have t1 : (x0 : Int) % 2 = 0 := by omega
            by_cases e2 : y0 % 2 = 0
            · have t2 : (y0 : Int) % 2 = 0 := by omega
              obtain ⟨s1, s2, s3⟩ := hS.out.both HA.out hX0.out (by rw [HM1.out]; exact e1) (by rw [HM2.out]; exact e2)
              have S1 := Lib.hid s1
              have S2 := Lib.hid s2
              clear s1 s2 hD
              go_wp2_with fail
              go_quiet (fail)
              go_wp2_with fail
              refine (half_any _ (hu.drewN _) (by omega)).mono ?_
              rintro e w5 ⟨a5, p5, c5, rfl, ho5, hb5⟩
              go_wp2_with fail
              refine (half_any _ ((hv.drewN nq).below hb5) (by omega)).mono ?_
              rintro e w6 ⟨a6, p6, c6, rfl, ho6, hb6⟩
              have hz5 := hb5.size
              have hr5 := ho5.rd.below hb6
              have hr6 := ho6.rd
              have hbn := (below_drewN hb nq).trans ((hb5.trans (hb6.mono hz5)).mono (by simpa using hz))
              have hl5 : p5 ≤ 96 := by
                have := limbs_len_val (N := val us / 2) (show small32 us from hu.bd) (Nat.div_le_self _ _)
                rw [hr5.len, HLu.out] at this
                omega
              have hl6 : p6 ≤ 96 := by
                have := limbs_len_val (N := val vs / 2) (show small32 vs from hv.bd) (Nat.div_le_self _ _)
                rw [hr6.len, HLv.out] at this
                omega
              go_wp2_with fail
              go_roundg (val us / 2 + val vs / 2)
              case measure => exact S2.out
              case rel => exact ⟨a5, p5, c5, limbs (val us / 2), a6, p6, c6, limbs (val vs / 2), tw + 1, rfl, rfl, by go_num, hr5, hr6, hl5, hl6, limbs_canon _, limbs_canon _, by rw [val_limbs, val_limbs]; exact S1, hbn⟩
            · have t2 : ((y0 : Int) % 2 == 0) = false := by rw [beq_eq_false_iff_ne]; omega
              obtain ⟨s1, s2⟩ := hS.out.left hX0.out (by rw [HM1.out]; exact e1) (by rw [HM2.out]; omega)
              have S1 := Lib.hid s1
              have S2 := Lib.hid s2
              clear s1 s2 hD
              go_wp2_with fail
              go_quiet (fail)
              go_wp2_with fail
              refine (half_any _ (hu.drewN _) (by omega)).mono ?_
              rintro e w5 ⟨a5, p5, c5, rfl, ho5, hb5⟩
              have hr5 := ho5.rd
              have hv5 := (hv.drewN nq).below hb5
              have hbn := (below_drewN hb nq).trans (hb5.mono (by simpa using hz))
              have hl5 : p5 ≤ 96 := by
                have := limbs_len_val (N := val us / 2) (show small32 us from hu.bd) (Nat.div_le_self _ _)
                rw [hr5.len, HLu.out] at this
                omega
              go_wp2_with fail
              go_roundg (val us / 2 + val vs)
              case measure => exact S2.out
              case rel => exact ⟨a5, p5, c5, limbs (val us / 2), _, q, cq, vs, tw, rfl, rfl, rfl, hr5, hv5, hl5, lq, limbs_canon _, cv, by rw [val_limbs]; exact S1, hbn⟩
          · have t1 : ((x0 : Int) % 2 == 0) = false := by rw [beq_eq_false_iff_ne]; omega
            by_cases e2 : y0 % 2 = 0
            · have t2 : (y0 : Int) % 2 = 0 := by omega
              obtain ⟨s1, s2⟩ := hS.out.right hY0.out (by rw [HM1.out]; omega) (by rw [HM2.out]; exact e2)
              have S1 := Lib.hid s1
              have S2 := Lib.hid s2
              clear s1 s2 hD
              go_wp2_with fail
              go_quiet (fail)
              go_wp2_with fail
              refine (half_any _ (hv.drewN _) (by omega)).mono ?_
              rintro e w5 ⟨a5, p5, c5, rfl, ho5, hb5⟩
              have hr5 := ho5.rd
              have hu5 := (hu.drewN nq).below hb5
              have hbn := (below_drewN hb nq).trans (hb5.mono (by simpa using hz))
              have hl5 : p5 ≤ 96 := by
                have := limbs_len_val (N := val vs / 2) (show small32 vs from hv.bd) (Nat.div_le_self _ _)
                rw [hr5.len, HLv.out] at this
                omega
              go_wp2_with fail
              go_roundg (val us + val vs / 2)
              case measure => exact S2.out
              case rel => exact ⟨_, p, cp, us, a5, p5, c5, limbs (val vs / 2), tw, rfl, rfl, rfl, hu5, hr5, lp, hl5, cu, limbs_canon _, by rw [val_limbs]; exact S1, hbn⟩
            · have t2 : ((y0 : Int) % 2 == 0) = false := by rw [beq_eq_false_iff_ne]; omega
              go_wp2_with fail
              go_quiet (fail)
              go_wp2_with fail
              refine (refless_any _ (hu.drewN _) (hv.drewN _) cu cv).mono ?_
              rintro e w5 ⟨rfl, nq2, rfl⟩
              have hu5 := (hu.drewN nq).drewN nq2
              have hv5 := (hv.drewN nq).drewN nq2
              have hb5 := below_drewN (below_drewN hb nq) nq2
              rw [World.drewN_drewN] at hu5 hv5 hb5
              by_cases hlt : val us < val vs
              · obtain ⟨s1, s2⟩ := hS.out.down hX0.out (Nat.le_of_lt hlt)
                have S1 := Lib.hid s1
                have S2 := Lib.hid s2
                have hle : p ≤ q := by
                  have := len_le (xs := us) (ys := vs) hv.bd cu (Nat.le_of_lt hlt)
                  rwa [HLu.out, HLv.out] at this
                rw [ltC_true hlt]
                clear s1 s2 hD
                go_wp2_with fail
                refine (minus_any _ hv5 hu5 (by omega) hle (Nat.le_of_lt hlt)).mono ?_
                rintro e w6 ⟨a6, p6, c6, rfl, ho6, hb6⟩
                have hr6 := ho6.rd
                have hu6 := hu5.below hb6
                have hbn := hb5.trans (hb6.mono (by simpa using hz))
                have hl6 : p6 ≤ 96 := by
                  have := limbs_len_val (N := val vs - val us) (show small32 vs from hv.bd) (Nat.sub_le _ _)
                  rw [hr6.len, HLv.out] at this
                  omega
                go_wp2_with fail
                go_roundg (val us + (val vs - val us))
                case measure => exact S2.out
                case rel => exact ⟨_, p, cp, us, a6, p6, c6, limbs (val vs - val us), tw, rfl, rfl, rfl, hu6, hr6, lp, hl6, cu, limbs_canon _, by rw [val_limbs]; exact S1, hbn⟩
              · have hge : val vs ≤ val us := by omega
                obtain ⟨s1, s2⟩ := hS.out.up hY0.out hge
                have S1 := Lib.hid s1
                have S2 := Lib.hid s2
                have hle : q ≤ p := by
                  have := len_le (xs := vs) (ys := us) hu.bd cv hge
                  rwa [HLu.out, HLv.out] at this
                rw [ltC_false hlt]
                clear s1 s2 hD
                go_wp2_with fail
                refine (minus_any _ hu5 hv5 (by omega) hle hge).mono ?_
                rintro e w6 ⟨a6, p6, c6, rfl, ho6, hb6⟩
                have hr6 := ho6.rd
                have hv6 := hv5.below hb6
                have hbn := hb5.trans (hb6.mono (by simpa using hz))
                have hl6 : p6 ≤ 96 := by
                  have := limbs_len_val (N := val us - val vs) (show small32 us from hu.bd) (Nat.sub_le _ _)
                  rw [hr6.len, HLu.out] at this
                  omega
                go_wp2_with fail
                go_roundg (val us - val vs + val vs)
                case measure => exact S2.out
                case rel => exact ⟨a6, p6, c6, limbs (val us - val vs), _, q, cq, vs, tw, rfl, rfl, rfl, hr6, hv6, hl6, lq, limbs_canon _, cv, by rw [val_limbs]; exact S1, hbn⟩
        · have hq0 : vs = [] := List.eq_nil_of_length_eq_zero (by rw [HLv.out]; omega)
          have hG := Lib.hid (show 2 ^ tw * (val us + val vs) = Nat.gcd (val xs) (val ys) by
            have := hS.out.gcd
            rw [hq0] at this ⊢
            simpa [val] using this)
          clear hq0
          have hq' : decide ((0 : Int) < (q : Int)) = false := by simp; omega
          go_wp2_with fail
          refine (plus_any _ hu hv (by omega) (by omega)).mono ?_
          rintro e w5 ⟨a5, p5, c5, rfl, ho5, hb5⟩
          have hr5 := ho5.rd
          have hb05 := hb.trans (hb5.mono hz)
          have hGl := Lib.hid (show Nat.gcd (val xs) (val ys) < pw 96 by
            rcases Nat.eq_zero_or_pos (val xs) with h0 | h0
            · rw [h0, Nat.gcd_zero_left]
              have := val_lt' (show small32 ys from h'.bd)
              rw [HL'.out] at this
              exact Nat.lt_of_lt_of_le this (pw_le l2)
            · exact Nat.lt_of_le_of_lt (Nat.gcd_le_left _ h0) HA.out)
          clear hS hu hv
          go_wp2_with fail
          go_loopw [12, 13] (fun v i wz => ∃ (j : Nat) (ad : Option Addr) (p c : Nat), j ≤ tw ∧ i = .int .i64 (j : Nat) ∧ v = .slice ad p c ∧ Rd .u32 wz ad p c (limbs (2 ^ j * (val us + val vs))) ∧ Below w.heap.size w wz) (fun _ i _ => tw - (intOf i).toNat)
          case atStart => exact ⟨0, a5, p5, c5, Nat.zero_le _, rfl, rfl, by simpa using hr5, hb05⟩
          case round =>
            obtain ⟨j, ad, p7, c7, hj, rfl, rfl, hr, hbz⟩ := hrel
            have hz7 := hbz.size
            by_cases hjt : j < tw
            · have hl7 : p7 ≤ 96 := by
                have h1 : 2 ^ j * (val us + val vs) < pw 96 := by
                  have h2 := Nat.mul_le_mul_right (val us + val vs) (Nat.pow_le_pow_right (show 0 < 2 by decide) hj)
                  have := hG.out
                  have := hGl.out
                  omega
                have := limbs_len_le h1
                rwa [hr.len] at this
              go_wp2_with fail
              refine (plus_any _ hr hr (by omega) (by omega)).mono ?_
              rintro e w8 ⟨a8, p8, c8, rfl, ho8, hb8⟩
              have hr8 := ho8.rd
              rw [val_limbs, show 2 ^ j * (val us + val vs) + 2 ^ j * (val us + val vs) = 2 ^ (j + 1) * (val us + val vs) by rw [Nat.pow_succ, Nat.mul_comm (2 ^ j) 2, Nat.mul_assoc]; omega] at hr8
              go_wp2_with fail
              go_roundw
              case rel => exact ⟨j + 1, a8, p8, c8, by omega, by go_num, rfl, hr8, hbz.trans (hb8.mono hz7)⟩
              case measure => simp [intOf]; omega
            · obtain rfl : j = tw := by omega
              have e3 := Lib.hid (show r = (limbs (2 ^ j * (val us + val vs)), 0) by rw [e1.out, hG.out])
              go_wp2_with fail
              go_ret2
              rw [e3.out]
              exact ⟨ad, p7, c7, rfl, hr, hbz⟩
      · have hp0 : us = [] := List.eq_nil_of_length_eq_zero (by rw [HLu.out]; omega)
        have hG := Lib.hid (show 2 ^ tw * (val us + val vs) = Nat.gcd (val xs) (val ys) by
          have := hS.out.gcd
          rw [hp0] at this ⊢
          simpa [val] using this)
        clear hp0
        have hp' : decide ((0 : Int) < (p : Int)) = false := by simp; omega
        go_wp2_with fail
        refine (plus_any _ hu hv (by omega) (by omega)).mono ?_
        rintro e w5 ⟨a5, p5, c5, rfl, ho5, hb5⟩
        have hr5 := ho5.rd
        have hb05 := hb.trans (hb5.mono hz)
        have hGl := Lib.hid (show Nat.gcd (val xs) (val ys) < pw 96 by
          rcases Nat.eq_zero_or_pos (val xs) with h0 | h0
          · rw [h0, Nat.gcd_zero_left]
            have := val_lt' (show small32 ys from h'.bd)
            rw [HL'.out] at this
            exact Nat.lt_of_lt_of_le this (pw_le l2)
          · exact Nat.lt_of_le_of_lt (Nat.gcd_le_left _ h0) HA.out)
        clear hS hu hv
        go_wp2_with fail
        go_loopw [12, 13] (fun v i wz => ∃ (j : Nat) (ad : Option Addr) (p c : Nat), j ≤ tw ∧ i = .int .i64 (j : Nat) ∧ v = .slice ad p c ∧ Rd .u32 wz ad p c (limbs (2 ^ j * (val us + val vs))) ∧ Below w.heap.size w wz) (fun _ i _ => tw - (intOf i).toNat)
        case atStart => exact ⟨0, a5, p5, c5, Nat.zero_le _, rfl, rfl, by simpa using hr5, hb05⟩
        case round =>
          obtain ⟨j, ad, p7, c7, hj, rfl, rfl, hr, hbz⟩ := hrel
          have hz7 := hbz.size
          by_cases hjt : j < tw
          · have hl7 : p7 ≤ 96 := by
              have h1 : 2 ^ j * (val us + val vs) < pw 96 := by
                have h2 := Nat.mul_le_mul_right (val us + val vs) (Nat.pow_le_pow_right (show 0 < 2 by decide) hj)
                have := hG.out
                have := hGl.out
                omega
              have := limbs_len_le h1
              rwa [hr.len] at this
            go_wp2_with fail
            refine (plus_any _ hr hr (by omega) (by omega)).mono ?_
            rintro e w8 ⟨a8, p8, c8, rfl, ho8, hb8⟩
            have hr8 := ho8.rd
            rw [val_limbs, show 2 ^ j * (val us + val vs) + 2 ^ j * (val us + val vs) = 2 ^ (j + 1) * (val us + val vs) by rw [Nat.pow_succ, Nat.mul_comm (2 ^ j) 2, Nat.mul_assoc]; omega] at hr8
            go_wp2_with fail
            go_roundw
            case rel => exact ⟨j + 1, a8, p8, c8, by omega, by go_num, rfl, hr8, hbz.trans (hb8.mono hz7)⟩
            case measure => simp [intOf]; omega
          · obtain rfl : j = tw := by omega
            have e3 := Lib.hid (show r = (limbs (2 ^ j * (val us + val vs)), 0) by rw [e1.out, hG.out])
            go_wp2_with fail
            go_ret2
            rw [e3.out]
            exact ⟨ad, p7, c7, rfl, hr, hbz⟩
  · have e1 := Lib.hid (show r = ([], bothC xs ys) by rw [HR.out, gcdC, if_neg hz])
    go_wp2_with fail
    go_ret2
    rw [e1.out]
    exact ⟨none, 0, 0, rfl, Rd.nil _ _, Below.refl _ _⟩

end Go.Proofs.Ytmkcdlhhbnakiaa
/- The document's answer: Text. No condition. -/
namespace Go.Proofs.Ytmkcdlhhbnakiaa
open Go.RowKit Go.Suf
set_option linter.unusedVariables false
set_option linter.unusedSimpArgs false

theorem strB_append (xs ys : List Nat) : strB xs ++ strB ys = strB (xs ++ ys) := by
  apply ByteArray.ext
  simp [strB]

theorem digit_at {d : Nat} (hd : d < 10) : (⟨#[48, 49, 50, 51, 52, 53, 54, 55, 56, 57]⟩ : ByteArray).extract d (d + 1) = strB [d + 48] := by
  rcases (show d = 0 ∨ d = 1 ∨ d = 2 ∨ d = 3 ∨ d = 4 ∨ d = 5 ∨ d = 6 ∨ d = 7 ∨ d = 8 ∨ d = 9 by omega) with h | h | h | h | h | h | h | h | h | h <;> subst h <;> rfl

theorem chars_more (ds : List Nat) (d : Nat) : strB [d + 48] ++ strB (chars ds).reverse = strB (chars (ds ++ [d])).reverse := by
  rw [strB_append]
  simp [chars]

end Go.Proofs.Ytmkcdlhhbnakiaa
/- The document's answer: Read. No condition. -/
namespace Go.Proofs.Ytmkcdlhhbnakiaa
open Go.RowKit Go.Suf
set_option linter.unusedVariables false
set_option linter.unusedSimpArgs false

theorem formB_nil : formB [] = false := rfl

theorem formB_zero {xs : List Nat} (h1 : nth xs 0 = 48) (h2 : 1 < xs.length) : formB xs = false := by
  unfold formB
  rw [decide_eq_false_iff_not]
  rintro ⟨_, h, _⟩
  have := h h1
  omega

end Go.Proofs.Ytmkcdlhhbnakiaa
/- What nat and its answer do to valid numbers: the contracts at the numbers themselves. Conditions: as each says. -/
namespace Go.Proofs.Ytmkcdlhhbnakiaa
open Go.RowKit Go.Suf
set_option linter.unusedVariables false
set_option linter.unusedSimpArgs false

theorem chk_limbs {A : Nat} (h : A < pw 96) : chk (limbs A) = 0 := chk_ok.2 ⟨limbs_len_le h, limbs_canon A⟩

theorem both_limbs {A B : Nat} (hA : A < pw 96) (hB : B < pw 96) : bothC (limbs A) (limbs B) = 0 := by rw [bothC, if_pos (chk_limbs hA), chk_limbs hB]

theorem fit_limbs {A : Nat} (h : A < pw 96) : fitC A = (limbs A, 0) := by
  have := limbs_len_le h
  rw [fitC, if_neg (by omega)]

theorem fit_great {A : Nat} (h : ¬ A < pw 96) : fitC A = ([], 30) := by
  rw [fitC, if_pos]
  rcases Nat.lt_or_ge 96 (limbs A).length with h' | h'
  · exact h'
  · exfalso
    have := val_lt' (limbs_small A)
    rw [val_limbs] at this
    exact h (Nat.lt_of_lt_of_le this (pw_le h'))

theorem add_limbs {A B : Nat} (hA : A < pw 96) (hB : B < pw 96) : addC (limbs A) (limbs B) = fitC (A + B) := by
  rw [addC, if_pos (both_limbs hA hB), val_limbs, val_limbs]

theorem mul_limbs {A B : Nat} (hA : A < pw 96) (hB : B < pw 96) : mulC (limbs A) (limbs B) = fitC (A * B) := by
  rw [mulC, if_pos (both_limbs hA hB), val_limbs, val_limbs]

theorem add_ok {A B : Nat} (h : A + B < pw 96) : addC (limbs A) (limbs B) = (limbs (A + B), 0) := by
  rw [add_limbs (by omega) (by omega), fit_limbs h]

theorem mul_ok {A B : Nat} (hA : A < pw 96) (hB : B < pw 96) (h : A * B < pw 96) : mulC (limbs A) (limbs B) = (limbs (A * B), 0) := by
  rw [mul_limbs hA hB, fit_limbs h]

theorem sub_ok {A B : Nat} (hA : A < pw 96) (h : B ≤ A) : subC (limbs A) (limbs B) = (limbs (A - B), 0) := by
  rw [subC, if_pos (both_limbs hA (by omega)), val_limbs, val_limbs, if_neg (by omega)]

theorem sub_none {A B : Nat} (hB : B < pw 96) (h : A < B) : subC (limbs A) (limbs B) = ([], 6) := by
  rw [subC, if_pos (both_limbs (by omega) hB), val_limbs, val_limbs, if_pos h]

/-- The sign of the difference of two numbers. -/
def cmpN (A B : Nat) : Int := if A < B then -1 else if B < A then 1 else 0

theorem ord_limbs (A B : Nat) : ordC (limbs A) (limbs B) = cmpN A B := by rw [ordC, val_limbs, val_limbs]; rfl

theorem cmp_ok {A B : Nat} (hA : A < pw 96) (hB : B < pw 96) : cmpC (limbs A) (limbs B) = (cmpN A B, 0) := by
  rw [cmpC, if_pos (both_limbs hA hB), ord_limbs]

theorem limbs_len0 {A : Nat} (h : 0 < A) : (limbs A).length ≠ 0 := by
  rw [limbs_pos (by omega)]
  simp

theorem div_ok {A B : Nat} (hA : A < pw 96) (hB : B < pw 96) (h : 0 < B) : divC (limbs A) (limbs B) = (limbs (A / B), limbs (A % B), 0) := by
  rw [divC, if_pos (both_limbs hA hB), if_neg (limbs_len0 h), val_limbs, val_limbs]

theorem div_zero {A : Nat} (hA : A < pw 96) : divC (limbs A) (limbs 0) = ([], [], 40) := by
  rw [divC, if_pos (both_limbs hA (pw_pos 96)), limbs_zero, if_pos (show ([] : List Nat).length = 0 from rfl)]

theorem gcd_ok {A B : Nat} (hA : A < pw 96) (hB : B < pw 96) : gcdC (limbs A) (limbs B) = (limbs (Nat.gcd A B), 0) := by
  rw [gcdC, if_pos (both_limbs hA hB), val_limbs, val_limbs]

theorem text_ok {A : Nat} (hA : A < pw 96) : textC (limbs A) = (textN A, 0) := by rw [textC, if_pos (chk_limbs hA), val_limbs]

theorem read_ok {A : Nat} (hA : A < pw 96) : readC (textN A) = (limbs A, 0) := by
  rw [readC, if_pos (textN_form A), dread_textN, fit_limbs hA]

theorem word_ok {A : Nat} (hA : A < 18446744073709551616) : wordC (limbs A) = (A, 0) := by
  have h2 : A < pw 2 := hA
  have := limbs_len_le h2
  rw [wordC, if_pos (chk_limbs (Nat.lt_of_lt_of_le h2 (pw_le (by decide)))), if_neg (by omega), val_limbs]

theorem word_great {A : Nat} (hA : A < pw 96) (h : ¬ A < 18446744073709551616) : wordC (limbs A) = (0, 30) := by
  rw [wordC, if_pos (chk_limbs hA), if_pos]
  rcases Nat.lt_or_ge 2 (limbs A).length with h' | h'
  · exact h'
  · exfalso
    have := val_lt' (limbs_small A)
    rw [val_limbs] at this
    exact h (Nat.lt_of_lt_of_le this (pw_le h'))

theorem same_ok (A B : Nat) : sameN (limbs A) (limbs B) = decide (A = B) := by
  unfold sameN
  rw [decide_eq_decide]
  exact ⟨limbs_inj, fun h => by rw [h]⟩

theorem same_self (xs : List Nat) : sameN xs xs = true := by simp [sameN]

theorem pw_add_lt {a b i k : Nat} (ha : a < pw i) (hb : b < pw i) (h : i < k) : a + b < pw k := by
  have := pw_le (show i + 1 ≤ k from h)
  rw [pw_succ] at this
  omega

theorem pw_mul_lt {a b i j k : Nat} (ha : a < pw i) (hb : b < pw j) (h : i + j ≤ k) : a * b < pw k := Nat.lt_of_lt_of_le (mul_lt_pw ha hb) (pw_le h)

theorem pw_wide {a i k : Nat} (ha : a < pw i) (h : i ≤ k) : a < pw k := Nat.lt_of_lt_of_le ha (pw_le h)

theorem same_eq {A B : Nat} (h : A = B) : sameN (limbs A) (limbs B) = true := by rw [h]; exact same_self _

/-- Whether a list is a valid number of at most m limbs. -/
def vldN (m : Nat) (xs : List Nat) : Bool := decide (xs.length ≤ m ∧ chk xs = 0)

theorem vldN_limbs {m : Nat} {a : Option Addr} {w : World} {n cap : Nat} {xs : List Nat} (h : Rd .u32 w a n cap xs) (hv : vldN m xs = true) (hm : m ≤ 96) : ∃ A, xs = limbs A ∧ A < pw m := by
  unfold vldN at hv
  rw [decide_eq_true_eq] at hv
  have hs : small32 xs := h.bd
  refine ⟨val xs, (limbs_val hs (chk_ok.1 hv.2).2).symm, Nat.lt_of_lt_of_le (val_lt' hs) (pw_le hv.1)⟩

/-! ### right: a list of lists of limbs -/

/-- The slice at a reads as lists of limbs. -/
structure RdNL (w : World) (a : Option Addr) (n cap : Nat) (xss : List (List Nat)) : Prop where
  len : xss.length = n
  small : n ≤ 100
  cell : ∀ i, i < n → ∃ b off d m c, a = some ⟨b, off, none⟩ ∧ w.cell? ⟨b, off + i, none⟩ = some (.slice d m c) ∧ Rd .u32 w d m c (xss.getD i [])

def rightB (m : Nat) (xss : List (List Nat)) : Bool := decide (∀ xs ∈ xss, vldN m xs = true)

theorem rightB_bad {m : Nat} {xss : List (List Nat)} {k : Nat} (hk : k < xss.length) (h : vldN m (xss.getD k []) = false) : rightB m xss = false := by
  unfold rightB
  rw [decide_eq_false_iff_not]
  intro hall
  have := hall (xss.getD k []) (by simp [List.getD, hk])
  rw [h] at this
  cases this

theorem rightB_good {m : Nat} {xss : List (List Nat)} (h : ∀ k, k < xss.length → vldN m (xss.getD k []) = true) : rightB m xss = true := by
  unfold rightB
  rw [decide_eq_true_eq]
  intro xs hx
  obtain ⟨i, hi, rfl⟩ := List.getElem_of_mem hx
  have := h i hi
  simpa [List.getD, hi] using this

theorem rdNL_lit3 (w : World) {a b c : Option Addr} {n m p cn cm cp : Nat} {xs ys zs : List Nat} (hx : Rd .u32 w a n cn xs) (hy : Rd .u32 w b m cm ys) (hz : Rd .u32 w c p cp zs) :
    RdNL (w.alloc (.cells #[.slice a n cn, .slice b m cm, .slice c p cp] 23)) (some ⟨w.heap.size, 0, none⟩) 3 3 [xs, ys, zs] := by
  refine ⟨rfl, by decide, fun i hi => ?_⟩
  have hb : Below w.heap.size w (w.alloc (.cells #[.slice a n cn, .slice b m cm, .slice c p cp] 23)) := (Below.refl _ _).alloc (Nat.le_refl _) _
  have hc : ∀ j, (w.alloc (.cells #[.slice a n cn, .slice b m cm, .slice c p cp] 23)).cell? ⟨w.heap.size, 0 + j, none⟩ = #[Value.slice a n cn, .slice b m cm, .slice c p cp][j]? := by
    intro j
    rw [Nat.zero_add, cell_of_row _ _ _ _ _ _ (heap_alloc_new w _)]
  rcases (show i = 0 ∨ i = 1 ∨ i = 2 by omega) with rfl | rfl | rfl
  · exact ⟨_, 0, a, n, cn, rfl, hc 0, hx.below hb⟩
  · exact ⟨_, 0, b, m, cm, rfl, hc 1, hy.below hb⟩
  · exact ⟨_, 0, c, p, cp, rfl, hc 2, hz.below hb⟩

theorem rdNL_lit2 (w : World) {a b : Option Addr} {n m cn cm : Nat} {xs ys : List Nat} (hx : Rd .u32 w a n cn xs) (hy : Rd .u32 w b m cm ys) :
    RdNL (w.alloc (.cells #[.slice a n cn, .slice b m cm] 23)) (some ⟨w.heap.size, 0, none⟩) 2 2 [xs, ys] := by
  refine ⟨rfl, by decide, fun i hi => ?_⟩
  have hb : Below w.heap.size w (w.alloc (.cells #[.slice a n cn, .slice b m cm] 23)) := (Below.refl _ _).alloc (Nat.le_refl _) _
  have hc : ∀ j, (w.alloc (.cells #[.slice a n cn, .slice b m cm] 23)).cell? ⟨w.heap.size, 0 + j, none⟩ = #[Value.slice a n cn, .slice b m cm][j]? := by
    intro j
    rw [Nat.zero_add, cell_of_row _ _ _ _ _ _ (heap_alloc_new w _)]
  rcases (show i = 0 ∨ i = 1 by omega) with rfl | rfl
  · exact ⟨_, 0, a, n, cn, rfl, hc 0, hx.below hb⟩
  · exact ⟨_, 0, b, m, cm, rfl, hc 1, hy.below hb⟩

theorem rdNL_lit1 (w : World) {a : Option Addr} {n cn : Nat} {xs : List Nat} (hx : Rd .u32 w a n cn xs) :
    RdNL (w.alloc (.cells #[.slice a n cn] 23)) (some ⟨w.heap.size, 0, none⟩) 1 1 [xs] := by
  refine ⟨rfl, by decide, fun i hi => ?_⟩
  have hb : Below w.heap.size w (w.alloc (.cells #[.slice a n cn] 23)) := (Below.refl _ _).alloc (Nat.le_refl _) _
  have hc : ∀ j, (w.alloc (.cells #[.slice a n cn] 23)).cell? ⟨w.heap.size, 0 + j, none⟩ = #[Value.slice a n cn][j]? := by
    intro j
    rw [Nat.zero_add, cell_of_row _ _ _ _ _ _ (heap_alloc_new w _)]
  obtain rfl : i = 0 := by omega
  exact ⟨_, 0, a, n, cn, rfl, hc 0, hx.below hb⟩

end Go.Proofs.Ytmkcdlhhbnakiaa
