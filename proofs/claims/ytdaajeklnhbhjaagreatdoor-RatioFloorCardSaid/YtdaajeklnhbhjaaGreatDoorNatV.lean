/- The document's answer: Gcd. No condition. -/
import Derived.Test.YtdaajeklnhbhjaaGreatDoorNatU
namespace Go.Proofs.YtdaajeklnhbhjaaGreatDoor
open Go.RowKit Go.Suf
set_option linter.unusedVariables false
set_option linter.unusedSimpArgs false

/-- What the loop keeps. -/
structure Stn (A G X Y tw k : Nat) : Prop where
  gcd : 2 ^ tw * Nat.gcd X Y = G
  le : 2 ^ tw * X ≤ A
  sum : X + Y = k
  tw : tw ≤ 3072

theorem Stn.both {A G X Y tw k : Nat} (h : Stn A G X Y tw k) (hA : A < pw 96) (hX : 0 < X) (e1 : X % 2 = 0) (e2 : Y % 2 = 0) : Stn A G (X / 2) (Y / 2) (tw + 1) (X / 2 + Y / 2) ∧ X / 2 + Y / 2 < k ∧ tw < 3072 := by
  have hlt : tw < 3072 := by
    have a := h.le
    have b := Nat.le_mul_of_pos_right (2 ^ tw) hX
    rw [pw_two] at hA
    have c : 2 ^ tw < 2 ^ (32 * 96) := by omega
    rcases Nat.lt_or_ge tw 3072 with h | h
    · exact h
    · have := Nat.pow_le_pow_right (show 0 < 2 by decide) h
      omega
  have hs := h.sum
  refine ⟨⟨?_, ?_, rfl, by omega⟩, by omega, hlt⟩
  · rw [← h.gcd, gcd_half_both e1 e2, Nat.pow_succ, Nat.mul_assoc]
  · have e : 2 ^ (tw + 1) * (X / 2) = 2 ^ tw * X := by
      rw [Nat.pow_succ, Nat.mul_assoc]
      congr 1
      omega
    rw [e]
    exact h.le

theorem Stn.left {A G X Y tw k : Nat} (h : Stn A G X Y tw k) (hX : 0 < X) (e1 : X % 2 = 0) (e2 : Y % 2 = 1) : Stn A G (X / 2) Y tw (X / 2 + Y) ∧ X / 2 + Y < k := by
  have hs := h.sum
  refine ⟨⟨?_, ?_, rfl, h.tw⟩, by omega⟩
  · rw [← h.gcd, gcd_half_left e1 e2]
  · exact Nat.le_trans (Nat.mul_le_mul_left _ (Nat.div_le_self _ _)) h.le

theorem Stn.right {A G X Y tw k : Nat} (h : Stn A G X Y tw k) (hY : 0 < Y) (e1 : X % 2 = 1) (e2 : Y % 2 = 0) : Stn A G X (Y / 2) tw (X + Y / 2) ∧ X + Y / 2 < k := by
  have hs := h.sum
  refine ⟨⟨?_, h.le, rfl, h.tw⟩, by omega⟩
  rw [← h.gcd, gcd_half_right e1 e2]

theorem Stn.down {A G X Y tw k : Nat} (h : Stn A G X Y tw k) (hX : 0 < X) (hlt : X ≤ Y) : Stn A G X (Y - X) tw (X + (Y - X)) ∧ X + (Y - X) < k := by
  have hs := h.sum
  refine ⟨⟨?_, h.le, rfl, h.tw⟩, by omega⟩
  rw [← h.gcd, gcd_less hlt]

theorem Stn.up {A G X Y tw k : Nat} (h : Stn A G X Y tw k) (hY : 0 < Y) (hge : Y ≤ X) : Stn A G (X - Y) Y tw (X - Y + Y) ∧ X - Y + Y < k := by
  have hs := h.sum
  refine ⟨⟨?_, ?_, rfl, h.tw⟩, by omega⟩
  · rw [← h.gcd, gcd_less' hge]
  · exact Nat.le_trans (Nat.mul_le_mul_left _ (Nat.sub_le _ _)) h.le

theorem mod2_bool {x : Nat} : (((x : Int) % 2 == 0) = true ↔ x % 2 = 0) := by
  rw [beq_iff_eq]
  omega

theorem limbs_len_val {N : Nat} {ys : List Nat} (hs : small32 ys) (h : N ≤ val ys) : (limbs N).length ≤ ys.length :=
  len_le hs (limbs_canon N) (by rw [val_limbs]; exact h)

set_option maxRecDepth 100000 in
set_option maxHeartbeats 4000000 in
theorem refGcd_any (w : World) {a b : Option Addr} {n m cap cap' : Nat} {xs ys : List Nat} (h : Rd .u32 w a n cap xs) (h' : Rd .u32 w b m cap' ys) :
    Calls Tryz.prog 68 #[.slice a n cap, .slice b m cap'] w (RetN w (gcdC xs ys)) := by
  obtain ⟨r, hr0⟩ : ∃ r, r = gcdC xs ys := ⟨_, rfl⟩
  rw [← hr0]
  have HR := Lib.hid hr0
  clear hr0
  go_enter Tryz.func68, Tryz.ntmps68
  go_wp2_with fail
  refine (refBoth_any _ h h').mono ?_
  rintro e w1 ⟨rfl, rfl⟩
  by_cases hz : bothC xs ys = 0
  · obtain ⟨z1, z2⟩ := bothC_ok hz
    have l1 := (chk_ok.1 z1).1
    have l2 := (chk_ok.1 z2).1
    have c1 := (chk_ok.1 z1).2
    have c2 := (chk_ok.1 z2).2
    have e1 := Lib.hid (show r = (limbs (Nat.gcd (val xs) (val ys)), 0) by rw [HR.out, gcdC, if_pos hz])
    have HA := Lib.hid (Nat.lt_of_lt_of_le (val_lt' (show small32 xs from h.bd)) (pw_le l1))
    have HL := Lib.hid h.len
    have HL' := Lib.hid h'.len
    have HX := Lib.hid (limbs_val h.bd c1)
    have HY := Lib.hid (limbs_val h'.bd c2)
    rw [h.len] at l1
    rw [h'.len] at l2
    rw [hz]
    clear hz z1 z2
    go_wp2_with fail
    refine (refTrim_any _ h (by omega)).mono ?_
    rintro e w2 ⟨a2, n2, cc2, rfl, ho2, hb2⟩
    rw [HX.out] at ho2
    have hr2 := ho2.rd
    have hn2 : n2 = n := by rw [← hr2.len, HL.out]
    subst hn2
    go_wp2_with fail
    refine (refTrim_any _ (h'.below hb2) (by omega)).mono ?_
    rintro e w3 ⟨a3, n3, cc3, rfl, ho3, hb3⟩
    rw [HY.out] at ho3
    have hr3 := ho3.rd
    have hn3 : n3 = m := by rw [← hr3.len, HL'.out]
    subst hn3
    have hz2 := hb2.size
    have hb03 := hb2.trans (hb3.mono hz2)
    have hr2' := hr2.below hb3
    clear ho2 ho3 hr2 hb2 hb3
    go_wp2_with fail
    go_loopg [7, 8, 9] (val xs + val ys) (fun k s7 s8 s9 wr => ∃ (a : Option Addr) (n cap : Nat) (us : List Nat) (b : Option Addr) (m cap' : Nat) (vs : List Nat) (tw : Nat), s7 = .slice a n cap ∧ s8 = .slice b m cap' ∧ s9 = .int .i64 (tw : Nat) ∧ Rd .u32 wr a n cap us ∧ Rd .u32 wr b m cap' vs ∧ n ≤ 96 ∧ m ≤ 96 ∧ canon us ∧ canon vs ∧
      Hid (Stn (val xs) (Nat.gcd (val xs) (val ys)) (val us) (val vs) tw k) ∧ Below w.heap.size w wr)
    case atStart => exact ⟨a2, n2, cc2, xs, a3, n3, cc3, ys, 0, rfl, rfl, rfl, hr2', hr3, l1, l2, c1, c2, Lib.hid ⟨by simp, by simp, rfl, by decide⟩, hb03⟩
    case round =>
      obtain ⟨ad, p, cp, us, bd, q, cq, vs, tw, rfl, rfl, rfl, hu, hv, lp, lq, cu, cv, hS, hb⟩ := hrel
      have HLu := Lib.hid hu.len
      have HLv := Lib.hid hv.len
      have hz := hb.size
      have htw : tw ≤ 3072 := hS.out.tw
      by_cases hp : 0 < p
      · by_cases hq : 0 < q
        · have hX0 := Lib.hid (canon_val_pos cu (by rw [HLu.out]; exact hp))
          have hY0 := Lib.hid (canon_val_pos cv (by rw [HLv.out]; exact hq))
          obtain ⟨o1, o2, rfl, hc1, _⟩ := hu.cell 0 hp
          obtain ⟨o3, o4, rfl, hc2, _⟩ := hv.cell 0 hq
          rw [Nat.add_zero] at hc1 hc2
          have hm1 := val_mod2 us
          have hm2 := val_mod2 vs
          obtain ⟨x0, hx0⟩ : ∃ x, x = nth us 0 := ⟨_, rfl⟩
          obtain ⟨y0, hy0⟩ : ∃ x, x = nth vs 0 := ⟨_, rfl⟩
          rw [← hx0] at hc1 hm1
          rw [← hy0] at hc2 hm2
          have HM1 := Lib.hid hm1
          have HM2 := Lib.hid hm2
          have hD := fun j => below_drewN (Below.refl wr.heap.size wr) j
          clear hx0 hy0 hm1 hm2
          by_cases e1 : x0 % 2 = 0
          · have t1 : (x0 : Int) % 2 = 0 := by omega
            by_cases e2 : y0 % 2 = 0
            · have t2 : (y0 : Int) % 2 = 0 := by omega
              obtain ⟨s1, s2, s3⟩ := hS.out.both HA.out hX0.out (by rw [HM1.out]; exact e1) (by rw [HM2.out]; exact e2)
              have S1 := Lib.hid s1
              have S2 := Lib.hid s2
              clear s1 s2 hD
              go_wp2_with fail
              go_quiet (fail)
              go_wp2_with fail
              refine (half_any _ (hu.drewN _) (by omega)).mono ?_
              rintro e w5 ⟨a5, p5, c5, rfl, ho5, hb5⟩
              go_wp2_with fail
              refine (half_any _ ((hv.drewN nq).below hb5) (by omega)).mono ?_
              rintro e w6 ⟨a6, p6, c6, rfl, ho6, hb6⟩
              have hz5 := hb5.size
              have hr5 := ho5.rd.below hb6
              have hr6 := ho6.rd
              have hbn := (below_drewN hb nq).trans ((hb5.trans (hb6.mono hz5)).mono (by simpa using hz))
              have hl5 : p5 ≤ 96 := by
                have := limbs_len_val (N := val us / 2) (show small32 us from hu.bd) (Nat.div_le_self _ _)
                rw [hr5.len, HLu.out] at this
                omega
              have hl6 : p6 ≤ 96 := by
                have := limbs_len_val (N := val vs / 2) (show small32 vs from hv.bd) (Nat.div_le_self _ _)
                rw [hr6.len, HLv.out] at this
                omega
              go_wp2_with fail
              go_roundg (val us / 2 + val vs / 2)
              case measure => exact S2.out
              case rel => exact ⟨a5, p5, c5, limbs (val us / 2), a6, p6, c6, limbs (val vs / 2), tw + 1, rfl, rfl, by go_num, hr5, hr6, hl5, hl6, limbs_canon _, limbs_canon _, by rw [val_limbs, val_limbs]; exact S1, hbn⟩
            · have t2 : ((y0 : Int) % 2 == 0) = false := by rw [beq_eq_false_iff_ne]; omega
              obtain ⟨s1, s2⟩ := hS.out.left hX0.out (by rw [HM1.out]; exact e1) (by rw [HM2.out]; omega)
              have S1 := Lib.hid s1
              have S2 := Lib.hid s2
              clear s1 s2 hD
              go_wp2_with fail
              go_quiet (fail)
              go_wp2_with fail
              refine (half_any _ (hu.drewN _) (by omega)).mono ?_
              rintro e w5 ⟨a5, p5, c5, rfl, ho5, hb5⟩
              have hr5 := ho5.rd
              have hv5 := (hv.drewN nq).below hb5
              have hbn := (below_drewN hb nq).trans (hb5.mono (by simpa using hz))
              have hl5 : p5 ≤ 96 := by
                have := limbs_len_val (N := val us / 2) (show small32 us from hu.bd) (Nat.div_le_self _ _)
                rw [hr5.len, HLu.out] at this
                omega
              go_wp2_with fail
              go_roundg (val us / 2 + val vs)
              case measure => exact S2.out
              case rel => exact ⟨a5, p5, c5, limbs (val us / 2), _, q, cq, vs, tw, rfl, rfl, rfl, hr5, hv5, hl5, lq, limbs_canon _, cv, by rw [val_limbs]; exact S1, hbn⟩
          · have t1 : ((x0 : Int) % 2 == 0) = false := by rw [beq_eq_false_iff_ne]; omega
            by_cases e2 : y0 % 2 = 0
            · have t2 : (y0 : Int) % 2 = 0 := by omega
              obtain ⟨s1, s2⟩ := hS.out.right hY0.out (by rw [HM1.out]; omega) (by rw [HM2.out]; exact e2)
              have S1 := Lib.hid s1
              have S2 := Lib.hid s2
              clear s1 s2 hD
              go_wp2_with fail
              go_quiet (fail)
              go_wp2_with fail
              refine (half_any _ (hv.drewN _) (by omega)).mono ?_
              rintro e w5 ⟨a5, p5, c5, rfl, ho5, hb5⟩
              have hr5 := ho5.rd
              have hu5 := (hu.drewN nq).below hb5
              have hbn := (below_drewN hb nq).trans (hb5.mono (by simpa using hz))
              have hl5 : p5 ≤ 96 := by
                have := limbs_len_val (N := val vs / 2) (show small32 vs from hv.bd) (Nat.div_le_self _ _)
                rw [hr5.len, HLv.out] at this
                omega
              go_wp2_with fail
              go_roundg (val us + val vs / 2)
              case measure => exact S2.out
              case rel => exact ⟨_, p, cp, us, a5, p5, c5, limbs (val vs / 2), tw, rfl, rfl, rfl, hu5, hr5, lp, hl5, cu, limbs_canon _, by rw [val_limbs]; exact S1, hbn⟩
            · have t2 : ((y0 : Int) % 2 == 0) = false := by rw [beq_eq_false_iff_ne]; omega
              go_wp2_with fail
              go_quiet (fail)
              go_wp2_with fail
              refine (refless_any _ (hu.drewN _) (hv.drewN _) cu cv).mono ?_
              rintro e w5 ⟨rfl, nq2, rfl⟩
              have hu5 := (hu.drewN nq).drewN nq2
              have hv5 := (hv.drewN nq).drewN nq2
              have hb5 := below_drewN (below_drewN hb nq) nq2
              rw [World.drewN_drewN] at hu5 hv5 hb5
              by_cases hlt : val us < val vs
              · obtain ⟨s1, s2⟩ := hS.out.down hX0.out (Nat.le_of_lt hlt)
                have S1 := Lib.hid s1
                have S2 := Lib.hid s2
                have hle : p ≤ q := by
                  have := len_le (xs := us) (ys := vs) hv.bd cu (Nat.le_of_lt hlt)
                  rwa [HLu.out, HLv.out] at this
                rw [ltC_true hlt]
                clear s1 s2 hD
                go_wp2_with fail
                refine (minus_any _ hv5 hu5 (by omega) hle (Nat.le_of_lt hlt)).mono ?_
                rintro e w6 ⟨a6, p6, c6, rfl, ho6, hb6⟩
                have hr6 := ho6.rd
                have hu6 := hu5.below hb6
                have hbn := hb5.trans (hb6.mono (by simpa using hz))
                have hl6 : p6 ≤ 96 := by
                  have := limbs_len_val (N := val vs - val us) (show small32 vs from hv.bd) (Nat.sub_le _ _)
                  rw [hr6.len, HLv.out] at this
                  omega
                go_wp2_with fail
                go_roundg (val us + (val vs - val us))
                case measure => exact S2.out
                case rel => exact ⟨_, p, cp, us, a6, p6, c6, limbs (val vs - val us), tw, rfl, rfl, rfl, hu6, hr6, lp, hl6, cu, limbs_canon _, by rw [val_limbs]; exact S1, hbn⟩
              · have hge : val vs ≤ val us := by omega
                obtain ⟨s1, s2⟩ := hS.out.up hY0.out hge
                have S1 := Lib.hid s1
                have S2 := Lib.hid s2
                have hle : q ≤ p := by
                  have := len_le (xs := vs) (ys := us) hu.bd cv hge
                  rwa [HLu.out, HLv.out] at this
                rw [ltC_false hlt]
                clear s1 s2 hD
                go_wp2_with fail
                refine (minus_any _ hu5 hv5 (by omega) hle hge).mono ?_
                rintro e w6 ⟨a6, p6, c6, rfl, ho6, hb6⟩
                have hr6 := ho6.rd
                have hv6 := hv5.below hb6
                have hbn := hb5.trans (hb6.mono (by simpa using hz))
                have hl6 : p6 ≤ 96 := by
                  have := limbs_len_val (N := val us - val vs) (show small32 us from hu.bd) (Nat.sub_le _ _)
                  rw [hr6.len, HLu.out] at this
                  omega
                go_wp2_with fail
                go_roundg (val us - val vs + val vs)
                case measure => exact S2.out
                case rel => exact ⟨a6, p6, c6, limbs (val us - val vs), _, q, cq, vs, tw, rfl, rfl, rfl, hr6, hv6, hl6, lq, limbs_canon _, cv, by rw [val_limbs]; exact S1, hbn⟩
        · have hq0 : vs = [] := List.eq_nil_of_length_eq_zero (by rw [HLv.out]; omega)
          have hG := Lib.hid (show 2 ^ tw * (val us + val vs) = Nat.gcd (val xs) (val ys) by
            have := hS.out.gcd
            rw [hq0] at this ⊢
            simpa [val] using this)
          clear hq0
          have hq' : decide ((0 : Int) < (q : Int)) = false := by simp; omega
          go_wp2_with fail
          refine (plus_any _ hu hv (by omega) (by omega)).mono ?_
          rintro e w5 ⟨a5, p5, c5, rfl, ho5, hb5⟩
          have hr5 := ho5.rd
          have hb05 := hb.trans (hb5.mono hz)
          have hGl := Lib.hid (show Nat.gcd (val xs) (val ys) < pw 96 by
            rcases Nat.eq_zero_or_pos (val xs) with h0 | h0
            · rw [h0, Nat.gcd_zero_left]
              have := val_lt' (show small32 ys from h'.bd)
              rw [HL'.out] at this
              exact Nat.lt_of_lt_of_le this (pw_le l2)
            · exact Nat.lt_of_le_of_lt (Nat.gcd_le_left _ h0) HA.out)
          clear hS hu hv
          go_wp2_with fail
          go_loopw [12, 13] (fun v i wz => ∃ (j : Nat) (ad : Option Addr) (p c : Nat), j ≤ tw ∧ i = .int .i64 (j : Nat) ∧ v = .slice ad p c ∧ Rd .u32 wz ad p c (limbs (2 ^ j * (val us + val vs))) ∧ Below w.heap.size w wz) (fun _ i _ => tw - (intOf i).toNat)
          case atStart => exact ⟨0, a5, p5, c5, Nat.zero_le _, rfl, rfl, by simpa using hr5, hb05⟩
          case round =>
            obtain ⟨j, ad, p7, c7, hj, rfl, rfl, hr, hbz⟩ := hrel
            have hz7 := hbz.size
            by_cases hjt : j < tw
            · have hl7 : p7 ≤ 96 := by
                have h1 : 2 ^ j * (val us + val vs) < pw 96 := by
                  have h2 := Nat.mul_le_mul_right (val us + val vs) (Nat.pow_le_pow_right (show 0 < 2 by decide) hj)
                  have := hG.out
                  have := hGl.out
                  omega
                have := limbs_len_le h1
                rwa [hr.len] at this
              go_wp2_with fail
              refine (plus_any _ hr hr (by omega) (by omega)).mono ?_
              rintro e w8 ⟨a8, p8, c8, rfl, ho8, hb8⟩
              have hr8 := ho8.rd
              rw [val_limbs, show 2 ^ j * (val us + val vs) + 2 ^ j * (val us + val vs) = 2 ^ (j + 1) * (val us + val vs) by rw [Nat.pow_succ, Nat.mul_comm (2 ^ j) 2, Nat.mul_assoc]; omega] at hr8
              go_wp2_with fail
              go_roundw
              case rel => exact ⟨j + 1, a8, p8, c8, by omega, by go_num, rfl, hr8, hbz.trans (hb8.mono hz7)⟩
              case measure => simp [intOf]; omega
            · obtain rfl : j = tw := by omega
              have e3 := Lib.hid (show r = (limbs (2 ^ j * (val us + val vs)), 0) by rw [e1.out, hG.out])
              go_wp2_with fail
              go_ret2
              rw [e3.out]
              exact ⟨ad, p7, c7, rfl, hr, hbz⟩
      · have hp0 : us = [] := List.eq_nil_of_length_eq_zero (by rw [HLu.out]; omega)
        have hG := Lib.hid (show 2 ^ tw * (val us + val vs) = Nat.gcd (val xs) (val ys) by
          have := hS.out.gcd
          rw [hp0] at this ⊢
          simpa [val] using this)
        clear hp0
        have hp' : decide ((0 : Int) < (p : Int)) = false := by simp; omega
        go_wp2_with fail
        refine (plus_any _ hu hv (by omega) (by omega)).mono ?_
        rintro e w5 ⟨a5, p5, c5, rfl, ho5, hb5⟩
        have hr5 := ho5.rd
        have hb05 := hb.trans (hb5.mono hz)
        have hGl := Lib.hid (show Nat.gcd (val xs) (val ys) < pw 96 by
          rcases Nat.eq_zero_or_pos (val xs) with h0 | h0
          · rw [h0, Nat.gcd_zero_left]
            have := val_lt' (show small32 ys from h'.bd)
            rw [HL'.out] at this
            exact Nat.lt_of_lt_of_le this (pw_le l2)
          · exact Nat.lt_of_le_of_lt (Nat.gcd_le_left _ h0) HA.out)
        clear hS hu hv
        go_wp2_with fail
        go_loopw [12, 13] (fun v i wz => ∃ (j : Nat) (ad : Option Addr) (p c : Nat), j ≤ tw ∧ i = .int .i64 (j : Nat) ∧ v = .slice ad p c ∧ Rd .u32 wz ad p c (limbs (2 ^ j * (val us + val vs))) ∧ Below w.heap.size w wz) (fun _ i _ => tw - (intOf i).toNat)
        case atStart => exact ⟨0, a5, p5, c5, Nat.zero_le _, rfl, rfl, by simpa using hr5, hb05⟩
        case round =>
          obtain ⟨j, ad, p7, c7, hj, rfl, rfl, hr, hbz⟩ := hrel
          have hz7 := hbz.size
          by_cases hjt : j < tw
          · have hl7 : p7 ≤ 96 := by
              have h1 : 2 ^ j * (val us + val vs) < pw 96 := by
                have h2 := Nat.mul_le_mul_right (val us + val vs) (Nat.pow_le_pow_right (show 0 < 2 by decide) hj)
                have := hG.out
                have := hGl.out
                omega
              have := limbs_len_le h1
              rwa [hr.len] at this
            go_wp2_with fail
            refine (plus_any _ hr hr (by omega) (by omega)).mono ?_
            rintro e w8 ⟨a8, p8, c8, rfl, ho8, hb8⟩
            have hr8 := ho8.rd
            rw [val_limbs, show 2 ^ j * (val us + val vs) + 2 ^ j * (val us + val vs) = 2 ^ (j + 1) * (val us + val vs) by rw [Nat.pow_succ, Nat.mul_comm (2 ^ j) 2, Nat.mul_assoc]; omega] at hr8
            go_wp2_with fail
            go_roundw
            case rel => exact ⟨j + 1, a8, p8, c8, by omega, by go_num, rfl, hr8, hbz.trans (hb8.mono hz7)⟩
            case measure => simp [intOf]; omega
          · obtain rfl : j = tw := by omega
            have e3 := Lib.hid (show r = (limbs (2 ^ j * (val us + val vs)), 0) by rw [e1.out, hG.out])
            go_wp2_with fail
            go_ret2
            rw [e3.out]
            exact ⟨ad, p7, c7, rfl, hr, hbz⟩
  · have e1 := Lib.hid (show r = ([], bothC xs ys) by rw [HR.out, gcdC, if_neg hz])
    go_wp2_with fail
    go_ret2
    rw [e1.out]
    exact ⟨none, 0, 0, rfl, Rd.nil _ _, Below.refl _ _⟩

end Go.Proofs.YtdaajeklnhbhjaaGreatDoor
/- The document's answer: Text. No condition. -/
namespace Go.Proofs.YtdaajeklnhbhjaaGreatDoor
open Go.RowKit Go.Suf
set_option linter.unusedVariables false
set_option linter.unusedSimpArgs false

theorem strB_append (xs ys : List Nat) : strB xs ++ strB ys = strB (xs ++ ys) := by
  apply ByteArray.ext
  simp [strB]

theorem digit_at {d : Nat} (hd : d < 10) : (⟨#[48, 49, 50, 51, 52, 53, 54, 55, 56, 57]⟩ : ByteArray).extract d (d + 1) = strB [d + 48] := by
  rcases (show d = 0 ∨ d = 1 ∨ d = 2 ∨ d = 3 ∨ d = 4 ∨ d = 5 ∨ d = 6 ∨ d = 7 ∨ d = 8 ∨ d = 9 by omega) with h | h | h | h | h | h | h | h | h | h <;> subst h <;> rfl

theorem chars_more (ds : List Nat) (d : Nat) : strB [d + 48] ++ strB (chars ds).reverse = strB (chars (ds ++ [d])).reverse := by
  rw [strB_append]
  simp [chars]

set_option maxRecDepth 100000 in
set_option maxHeartbeats 4000000 in
theorem refText_any (w : World) {a : Option Addr} {n cap : Nat} {xs : List Nat} (h : Rd .u32 w a n cap xs) :
    Calls Tryz.prog 77 #[.slice a n cap] w (RetSE w (textC xs)) := by
  have hn := h.lt
  have HL := Lib.hid h.len
  obtain ⟨r, hr0⟩ : ∃ r, r = textC xs := ⟨_, rfl⟩
  rw [← hr0]
  have HR := Lib.hid hr0
  clear hr0
  go_enter Tryz.func77, Tryz.ntmps77
  go_wp2_with fail
  refine (refCheck_any _ h).mono ?_
  rintro e w1 ⟨rfl, rfl⟩
  by_cases hz : chk xs = 0
  · have l1 := (chk_ok.1 hz).1
    have c1 := (chk_ok.1 hz).2
    have e1 := Lib.hid (show r = (textN (val xs), 0) by rw [HR.out, textC, if_pos hz])
    have HX := Lib.hid (limbs_val h.bd c1)
    have HN := Lib.hid (Nat.lt_of_lt_of_le (val_lt' (show small32 xs from h.bd)) (pw_le l1))
    rw [h.len] at l1
    rw [hz]
    clear hz
    go_wp2_with fail
    refine (refTrim_any _ h (by omega)).mono ?_
    rintro e w2 ⟨a2, n2, cc2, rfl, ho2, hb2⟩
    rw [HX.out] at ho2
    have hn2 : n2 ≤ 96 := by rw [← ho2.len, HL.out]; exact l1
    go_wp2_with fail
    go_loopg [5, 7] (val xs) (fun k s5 s7 wr => ∃ (a : Option Addr) (n c : Nat) (us ds : List Nat), s5 = .slice a n c ∧ s7 = .string (strB (chars ds).reverse) ∧ Ow .u32 49 w.heap.size wr a n c us ∧ n ≤ 96 ∧ canon us ∧ ds.length ≤ 970 ∧
      Hid (dig10 ds ∧ dval ds + 10 ^ ds.length * val us = val xs ∧ val us = k ∧ (val us = 0 → canon ds)) ∧ Below w.heap.size w wr)
    case atStart => exact ⟨a2, n2, cc2, xs, [], rfl, rfl, ho2, hn2, c1, by decide, Lib.hid ⟨fun x hx => by simp at hx, by simp [dval], rfl, fun _ => by simp [canon]⟩, hb2⟩
    case round =>
      obtain ⟨ad, p, cp, us, ds, rfl, rfl, ho, hp, cu, hdl, hD, hb⟩ := hrel
      have HLu := Lib.hid ho.len
      by_cases hp0 : 0 < p
      · have hX0 := Lib.hid (canon_val_pos cu (by rw [HLu.out]; exact hp0))
        have hdl2 := dec_len hD.out.2.1 hX0.out HN.out
        obtain ⟨g, rfl, hg1, hg2⟩ := ho.where hp0
        have hS0 := Lib.hid (show Sml us us 10 p 0 from ⟨by rw [List.drop_eq_nil_of_le (by have := HLu.out; omega)]; simp [val], rfl, ho.bd, by decide⟩)
        go_wp2_with fail
        go_loopw [8, 9] (fun v i wz => ∃ (k r : Nat) (out : List Nat), k ≤ p ∧ i = .int .i64 ((k : Int) - 1) ∧ v = .int .u64 (r : Nat) ∧ r < 10 ∧ Ow .u32 49 w.heap.size wz (some ⟨g, 0, none⟩) p cp out ∧ Hid (Sml us out 10 k r ∧ ∀ j, j < k → nth out j = nth us j) ∧ Below w.heap.size w wz) (fun _ i _ => (intOf i + 1).toNat)
        case atStart => exact ⟨p, 0, us, Nat.le_refl _, rfl, rfl, by decide, ho, Lib.hid ⟨hS0.out, fun _ _ => rfl⟩, hb⟩
        case round =>
          obtain ⟨k, rr, out, hk, hi, rfl, hrr, ho', hS, hb'⟩ := hrel
          by_cases h0 : 0 < k
          · obtain ⟨j, rfl⟩ : ∃ j, k = j + 1 := ⟨k - 1, by omega⟩
            subst hi
            have hi2 : (((j + 1 : Nat) : Int) - 1) = (j : Int) := by omega
            rw [hi2]
            clear hi2
            have hc := ho'.at j (by omega)
            rw [hS.out.2 j (by omega)] at hc
            have hf := ho'.free j
            have b1 := small32_nth (show small32 us from ho.bd) j
            obtain ⟨s1, s2⟩ := hS.out.1.step (show small32 us from ho.bd) (by decide) (by rw [HLu.out]; omega)
            have HS := Lib.hid (show Sml us (out.set j ((rr * 4294967296 + nth us j) / 10)) 10 j ((rr * 4294967296 + nth us j) % 10) ∧ ∀ i, i < j → nth (out.set j ((rr * 4294967296 + nth us j) / 10)) i = nth us i from ⟨s1, fun i hi => by
              rw [nth_set_ne (by omega)]
              exact hS.out.2 i (by omega)⟩)
            have hv : (4294967296 * (rr : Int) + (nth us j : Int)) / 10 = (((rr * 4294967296 + nth us j) / 10 : Nat) : Int) := by omega
            have hw := Lib.hid (show (4294967296 * (rr : Int) + (nth us j : Int)) % 10 = (((rr * 4294967296 + nth us j) % 10 : Nat) : Int) by omega)
            have HO : Hid (Ow .u32 49 w.heap.size (wr.setCell ⟨g, j, none⟩ (.int .u32 ((4294967296 * (rr : Int) + (nth us j : Int)) / 10))) (some ⟨g, 0, none⟩) p cp (out.set j ((rr * 4294967296 + nth us j) / 10))) := by
              rw [hv]
              exact Lib.hid (ho'.set j _ s2)
            have HB := Lib.hid (hb'.setCell (p := ⟨g, j, none⟩) (by show w.heap.size ≤ g; omega) (.int .u32 ((4294967296 * (rr : Int) + (nth us j : Int)) / 10)))
            clear hv s1
            go_wp2_with fail
            go_roundw
            case rel => exact ⟨j, _, _, by omega, rfl, by rw [hw.out], HS.out.1.lt, HO.out, HS, HB.out⟩
            case measure => simp [intOf]
          · obtain rfl : k = 0 := by omega
            subst hi
            obtain ⟨d1, d2⟩ := hS.out.1.done
            have hz := hb'.size
            have HD1 := Lib.hid d1
            have HD2 := Lib.hid d2
            clear d1 d2
            go_wp2_with fail
            refine (refTrim_any _ ho'.rd (by omega)).mono ?_
            rintro e w5 ⟨a5, p5, c5, rfl, ho5, hb5⟩
            have hsz1 := strB_size (chars ds).reverse
            rw [List.length_reverse, chars_length] at hsz1
            go_wp2_with fail
            rw [digit_at hrr, chars_more]
            rw [HD1.out] at ho5
            have hl5 : p5 ≤ 96 := by
              have := limbs_len_val (N := val us / 10) (show small32 us from ho.bd) (Nat.div_le_self _ _)
              rw [ho5.len, HLu.out] at this
              omega
            have hDn : Hid (dig10 (ds ++ [rr]) ∧ dval (ds ++ [rr]) + 10 ^ (ds ++ [rr]).length * val (limbs (val us / 10)) = val xs ∧ val (limbs (val us / 10)) = val us / 10 ∧ (val (limbs (val us / 10)) = 0 → canon (ds ++ [rr]))) := by
              rw [val_limbs]
              refine Lib.hid ⟨fun x hx => ?_, ?_, rfl, fun h0 => ?_⟩
              · rw [List.mem_append] at hx
                rcases hx with hx | hx
                · exact hD.out.1 x hx
                · simp at hx; omega
              · rw [dval_append, ← hD.out.2.1, List.length_append, Nat.pow_add]
                have e := Nat.mod_add_div (val us) 10
                rw [← HD2.out] at e
                simp only [dval, List.length_cons, List.length_nil, Nat.zero_add, Nat.pow_one, Nat.mul_zero, Nat.add_zero]
                rw [Nat.mul_assoc, Nat.add_assoc, ← Nat.mul_add, e]
              · have := hX0.out
                have := HD2.out
                simp [canon]
                omega
            go_roundg (val us / 10)
            case measure => have := hD.out.2.2.1; have := hX0.out; omega
            case rel => exact ⟨a5, p5, c5, limbs (val us / 10), ds ++ [rr], rfl, rfl, ho5.base_le hz, hl5, limbs_canon _, by simp; omega, hDn, hb'.trans (hb5.mono hz)⟩
      · have hus : us = [] := List.eq_nil_of_length_eq_zero (by rw [HLu.out]; omega)
        have hval : val us = 0 := by rw [hus]; rfl
        have hd2 := hD.out.2.1
        have hcd := hD.out.2.2.2 hval
        rw [hval, Nat.mul_zero, Nat.add_zero] at hd2
        have hdec := decs_dval hD.out.1 hcd
        rw [hd2] at hdec
        have HDEC := Lib.hid hdec
        have HD2 := Lib.hid hd2
        clear hus hval hd2 hcd hdec hD
        obtain rfl : p = 0 := by omega
        by_cases hds : ds = []
        · subst hds
          have hN0 : val xs = 0 := by rw [← HD2.out]; rfl
          have e2 := Lib.hid (show r = ([48], 0) by rw [e1.out, hN0]; rfl)
          have he0 : (strB (chars []).reverse).toList.isEmpty = true := by rw [strB_toList]; rfl
          clear hN0
          go_wp2_with fail
          go_ret2
          rw [e2.out]
          exact ⟨rfl, hb⟩
        · have hl : 0 < ds.length := by cases ds with | nil => exact absurd rfl hds | cons a l => simp
          have e2 := Lib.hid (show r = ((chars ds).reverse, 0) by
            rw [e1.out, textN]
            split
            · rename_i h0
              have := HDEC.out
              rw [h0, decs_zero] at this
              exact absurd this.symm hds
            · rw [HDEC.out]; rfl)
          have hne : (strB (chars ds).reverse).toList ≠ [] := by rw [strB_toList]; simp [chars, hds]
          have hne2 : (strB (chars ds).reverse).toList.isEmpty = false := by
            cases hq : (strB (chars ds).reverse).toList with
            | nil => exact absurd hq hne
            | cons a l => rfl
          clear hds
          go_wp2_with fail
          go_ret2
          rw [e2.out]
          exact ⟨rfl, hb⟩
  · have e1 := Lib.hid (show r = ([], chk xs) by rw [HR.out, textC, if_neg hz])
    go_wp2_with fail
    go_ret2
    rw [e1.out]
    exact ⟨rfl, Below.refl _ _⟩

end Go.Proofs.YtdaajeklnhbhjaaGreatDoor
