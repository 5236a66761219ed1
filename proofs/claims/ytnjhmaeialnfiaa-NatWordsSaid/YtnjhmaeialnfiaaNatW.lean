/- The document's answer: Text. No condition. -/
import Derived.Test.YtnjhmaeialnfiaaNatV
namespace Go.Proofs.Ytnjhmaeialnfiaa
open Go.RowKit Go.Suf
set_option linter.unusedVariables false
set_option linter.unusedSimpArgs false

theorem strB_append (xs ys : List Nat) : strB xs ++ strB ys = strB (xs ++ ys) := by
  apply ByteArray.ext
  simp [strB]

theorem digit_at {d : Nat} (hd : d < 10) : (⟨#[48, 49, 50, 51, 52, 53, 54, 55, 56, 57]⟩ : ByteArray).extract d (d + 1) = strB [d + 48] := by
  rcases (show d = 0 ∨ d = 1 ∨ d = 2 ∨ d = 3 ∨ d = 4 ∨ d = 5 ∨ d = 6 ∨ d = 7 ∨ d = 8 ∨ d = 9 by omega) with h | h | h | h | h | h | h | h | h | h <;> subst h <;> rfl

theorem chars_more (ds : List Nat) (d : Nat) : strB [d + 48] ++ strB (chars ds).reverse = strB (chars (ds ++ [d])).reverse := by
  rw [strB_append]
  simp [chars]

set_option maxRecDepth 100000 in
set_option maxHeartbeats 4000000 in
theorem refText_any (w : World) {a : Option Addr} {n cap : Nat} {xs : List Nat} (h : Rd .u32 w a n cap xs) :
    Calls Try.prog 15 #[.slice a n cap] w (RetSE w (textC xs)) := by
  have hn := h.lt
  have HL := Lib.hid h.len
  obtain ⟨r, hr0⟩ : ∃ r, r = textC xs := ⟨_, rfl⟩
  rw [← hr0]
  have HR := Lib.hid hr0
  clear hr0
  go_enter Try.func15, Try.ntmps15
  go_wp2_with fail
  refine (refCheck_any _ h).mono ?_
  rintro e w1 ⟨rfl, rfl⟩
  by_cases hz : chk xs = 0
  · have l1 := (chk_ok.1 hz).1
    have c1 := (chk_ok.1 hz).2
    have e1 := Lib.hid (show r = (textN (val xs), 0) by rw [HR.out, textC, if_pos hz])
    have HX := Lib.hid (limbs_val h.bd c1)
    have HN := Lib.hid (Nat.lt_of_lt_of_le (val_lt' (show small32 xs from h.bd)) (pw_le l1))
    rw [h.len] at l1
    rw [hz]
    clear hz
    go_wp2_with fail
    refine (refTrim_any _ h (by omega)).mono ?_
    rintro e w2 ⟨a2, n2, cc2, rfl, ho2, hb2⟩
    rw [HX.out] at ho2
    have hn2 : n2 ≤ 96 := by rw [← ho2.len, HL.out]; exact l1
    go_wp2_with fail
    go_loopg [5, 7] (val xs) (fun k s5 s7 wr => ∃ (a : Option Addr) (n c : Nat) (us ds : List Nat), s5 = .slice a n c ∧ s7 = .string (strB (chars ds).reverse) ∧ Ow .u32 36 w.heap.size wr a n c us ∧ n ≤ 96 ∧ canon us ∧ ds.length ≤ 970 ∧
      Hid (dig10 ds ∧ dval ds + 10 ^ ds.length * val us = val xs ∧ val us = k ∧ (val us = 0 → canon ds)) ∧ Below w.heap.size w wr)
    case atStart => exact ⟨a2, n2, cc2, xs, [], rfl, rfl, ho2, hn2, c1, by decide, Lib.hid ⟨fun x hx => by simp at hx, by simp [dval], rfl, fun _ => by simp [canon]⟩, hb2⟩
    case round =>
      obtain ⟨ad, p, cp, us, ds, rfl, rfl, ho, hp, cu, hdl, hD, hb⟩ := hrel
      have HLu := Lib.hid ho.len
      by_cases hp0 : 0 < p
      · have hX0 := Lib.hid (canon_val_pos cu (by rw [HLu.out]; exact hp0))
        have hdl2 := dec_len hD.out.2.1 hX0.out HN.out
        obtain ⟨g, rfl, hg1, hg2⟩ := ho.where hp0
        have hS0 := Lib.hid (show Sml us us 10 p 0 from ⟨by rw [List.drop_eq_nil_of_le (by have := HLu.out; omega)]; simp [val], rfl, ho.bd, by decide⟩)
        go_wp2_with fail
        go_loopw [8, 9] (fun v i wz => ∃ (k r : Nat) (out : List Nat), k ≤ p ∧ i = .int .i64 ((k : Int) - 1) ∧ v = .int .u64 (r : Nat) ∧ r < 10 ∧ Ow .u32 36 w.heap.size wz (some ⟨g, 0, none⟩) p cp out ∧ Hid (Sml us out 10 k r ∧ ∀ j, j < k → nth out j = nth us j) ∧ Below w.heap.size w wz) (fun _ i _ => (intOf i + 1).toNat)
        case atStart => exact ⟨p, 0, us, Nat.le_refl _, rfl, rfl, by decide, ho, Lib.hid ⟨hS0.out, fun _ _ => rfl⟩, hb⟩
        case round =>
          obtain ⟨k, rr, out, hk, hi, rfl, hrr, ho', hS, hb'⟩ := hrel
          by_cases h0 : 0 < k
          · obtain ⟨j, rfl⟩ : ∃ j, k = j + 1 := ⟨k - 1, by omega⟩
            subst hi
            have hi2 : (((j + 1 : Nat) : Int) - 1) = (j : Int) := by omega
            rw [hi2]
            clear hi2
            have hc := ho'.at j (by omega)
            rw [hS.out.2 j (by omega)] at hc
            have hf := ho'.free j
            have b1 := small32_nth (show small32 us from ho.bd) j
            obtain ⟨s1, s2⟩ := hS.out.1.step (show small32 us from ho.bd) (by decide) (by rw [HLu.out]; omega)
            have HS := Lib.hid (show Sml us (out.set j ((rr * 4294967296 + nth us j) / 10)) 10 j ((rr * 4294967296 + nth us j) % 10) ∧ ∀ i, i < j → nth (out.set j ((rr * 4294967296 + nth us j) / 10)) i = nth us i from ⟨s1, fun i hi => by
              rw [nth_set_ne (by omega)]
              exact hS.out.2 i (by omega)⟩)
            have hv : (4294967296 * (rr : Int) + (nth us j : Int)) / 10 = (((rr * 4294967296 + nth us j) / 10 : Nat) : Int) := by omega
            have hw := Lib.hid (show (4294967296 * (rr : Int) + (nth us j : Int)) % 10 = (((rr * 4294967296 + nth us j) % 10 : Nat) : Int) by omega)
            have HO : Hid (Ow .u32 36 w.heap.size (wr.setCell ⟨g, j, none⟩ (.int .u32 ((4294967296 * (rr : Int) + (nth us j : Int)) / 10))) (some ⟨g, 0, none⟩) p cp (out.set j ((rr * 4294967296 + nth us j) / 10))) := by
              rw [hv]
              exact Lib.hid (ho'.set j _ s2)
            have HB := Lib.hid (hb'.setCell (p := ⟨g, j, none⟩) (by show w.heap.size ≤ g; omega) (.int .u32 ((4294967296 * (rr : Int) + (nth us j : Int)) / 10)))
            clear hv s1
            go_wp2_with fail
            go_roundw
            case rel => exact ⟨j, _, _, by omega, rfl, by rw [hw.out], HS.out.1.lt, HO.out, HS, HB.out⟩
            case measure => simp [intOf]
          · obtain rfl : k = 0 := by omega
            subst hi
            obtain ⟨d1, d2⟩ := hS.out.1.done
            have hz := hb'.size
            have HD1 := Lib.hid d1
            have HD2 := Lib.hid d2
            clear d1 d2
            go_wp2_with fail
            refine (refTrim_any _ ho'.rd (by omega)).mono ?_
            rintro e w5 ⟨a5, p5, c5, rfl, ho5, hb5⟩
            have hsz1 := strB_size (chars ds).reverse
            rw [List.length_reverse, chars_length] at hsz1
            go_wp2_with fail
            rw [digit_at hrr, chars_more]
            rw [HD1.out] at ho5
            have hl5 : p5 ≤ 96 := by
              have := limbs_len_val (N := val us / 10) (show small32 us from ho.bd) (Nat.div_le_self _ _)
              rw [ho5.len, HLu.out] at this
              omega
            have hDn : Hid (dig10 (ds ++ [rr]) ∧ dval (ds ++ [rr]) + 10 ^ (ds ++ [rr]).length * val (limbs (val us / 10)) = val xs ∧ val (limbs (val us / 10)) = val us / 10 ∧ (val (limbs (val us / 10)) = 0 → canon (ds ++ [rr]))) := by
              rw [val_limbs]
              refine Lib.hid ⟨fun x hx => ?_, ?_, rfl, fun h0 => ?_⟩
              · rw [List.mem_append] at hx
                rcases hx with hx | hx
                · exact hD.out.1 x hx
                · simp at hx; omega
              · rw [dval_append, ← hD.out.2.1, List.length_append, Nat.pow_add]
                have e := Nat.mod_add_div (val us) 10
                rw [← HD2.out] at e
                simp only [dval, List.length_cons, List.length_nil, Nat.zero_add, Nat.pow_one, Nat.mul_zero, Nat.add_zero]
                rw [Nat.mul_assoc, Nat.add_assoc, ← Nat.mul_add, e]
              · have := hX0.out
                have := HD2.out
                simp [canon]
                omega
            go_roundg (val us / 10)
            case measure => have := hD.out.2.2.1; have := hX0.out; omega
            case rel => exact ⟨a5, p5, c5, limbs (val us / 10), ds ++ [rr], rfl, rfl, ho5.base_le hz, hl5, limbs_canon _, by simp; omega, hDn, hb'.trans (hb5.mono hz)⟩
      · have hus : us = [] := List.eq_nil_of_length_eq_zero (by rw [HLu.out]; omega)
        have hval : val us = 0 := by rw [hus]; rfl
        have hd2 := hD.out.2.1
        have hcd := hD.out.2.2.2 hval
        rw [hval, Nat.mul_zero, Nat.add_zero] at hd2
        have hdec := decs_dval hD.out.1 hcd
        rw [hd2] at hdec
        have HDEC := Lib.hid hdec
        have HD2 := Lib.hid hd2
        clear hus hval hd2 hcd hdec hD
        obtain rfl : p = 0 := by omega
        by_cases hds : ds = []
        · subst hds
          have hN0 : val xs = 0 := by rw [← HD2.out]; rfl
          have e2 := Lib.hid (show r = ([48], 0) by rw [e1.out, hN0]; rfl)
          have he0 : (strB (chars []).reverse).toList.isEmpty = true := by rw [strB_toList]; rfl
          clear hN0
          go_wp2_with fail
          go_ret2
          rw [e2.out]
          exact ⟨rfl, hb⟩
        · have hl : 0 < ds.length := by cases ds with | nil => exact absurd rfl hds | cons a l => simp
          have e2 := Lib.hid (show r = ((chars ds).reverse, 0) by
            rw [e1.out, textN]
            split
            · rename_i h0
              have := HDEC.out
              rw [h0, decs_zero] at this
              exact absurd this.symm hds
            · rw [HDEC.out]; rfl)
          have hne : (strB (chars ds).reverse).toList ≠ [] := by rw [strB_toList]; simp [chars, hds]
          have hne2 : (strB (chars ds).reverse).toList.isEmpty = false := by
            cases hq : (strB (chars ds).reverse).toList with
            | nil => exact absurd hq hne
            | cons a l => rfl
          clear hds
          go_wp2_with fail
          go_ret2
          rw [e2.out]
          exact ⟨rfl, hb⟩
  · have e1 := Lib.hid (show r = ([], chk xs) by rw [HR.out, textC, if_neg hz])
    go_wp2_with fail
    go_ret2
    rw [e1.out]
    exact ⟨rfl, Below.refl _ _⟩
end Go.Proofs.Ytnjhmaeialnfiaa
