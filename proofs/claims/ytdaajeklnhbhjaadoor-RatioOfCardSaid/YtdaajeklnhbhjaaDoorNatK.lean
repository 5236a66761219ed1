/- slices.Reverse of bytes, Text. No condition. -/
import Derived.Test.YtdaajeklnhbhjaaDoorNatI
import Derived.Test.YtdaajeklnhbhjaaDoorNatDec
namespace Go.Proofs.YtdaajeklnhbhjaaDoor
open Go.RowKit Go.Suf
set_option linter.unusedVariables false
set_option linter.unusedSimpArgs false

theorem etY : ET Tryd.prog 77 5 (.int .u8 0) 1 := ⟨Tryd.underlying77, by kernel_rfl, rfl⟩

/-- t exchanges are done. -/
structure Rev (xs ys : List Nat) (n t : Nat) : Prop where
  len : ys.length = xs.length
  done : ∀ i, i < n → (i < t ∨ n - 1 - t < i) → nth ys i = nth xs (n - 1 - i)
  mid : ∀ i, t ≤ i → i ≤ n - 1 - t → nth ys i = nth xs i
  out : ∀ i, n ≤ i → nth ys i = nth xs i

theorem Rev.start (xs : List Nat) (n : Nat) : Rev xs xs n 0 := ⟨rfl, fun i h1 h2 => by omega, fun i _ _ => rfl, fun i _ => rfl⟩

theorem Rev.step {xs ys : List Nat} {n t : Nat} (h : Rev xs ys n t) (ht : t < n - 1 - t) (hn : n ≤ xs.length) : Rev xs ((ys.set t (nth ys (n - 1 - t))).set (n - 1 - t) (nth ys t)) n (t + 1) := by
  have hl := h.len
  have a := h.mid t (Nat.le_refl _) (by omega)
  have b := h.mid (n - 1 - t) (by omega) (Nat.le_refl _)
  refine ⟨by simp [hl], fun i h1 h2 => ?_, fun i h1 h2 => ?_, fun i h1 => ?_⟩
  · by_cases e1 : n - 1 - t = i
    · subst e1
      rw [nth_set_same (by simp; omega), a]
      congr 1
      omega
    · rw [nth_set_ne e1]
      by_cases e2 : t = i
      · subst e2
        rw [nth_set_same (by omega), b]
      · rw [nth_set_ne e2]
        exact h.done i h1 (by omega)
  · rw [nth_set_ne (by omega), nth_set_ne (by omega)]
    exact h.mid i (by omega) (by omega)
  · rw [nth_set_ne (by omega), nth_set_ne (by omega)]
    exact h.out i h1

theorem nth_ext {xs ys : List Nat} (h : xs.length = ys.length) (he : ∀ i, i < xs.length → nth xs i = nth ys i) : xs = ys := by
  apply List.ext_getElem h
  intro i h1 h2
  rw [← nth_eq h1, ← nth_eq h2]
  exact he i h1

theorem Rev.fin {xs ys : List Nat} {n t : Nat} (h : Rev xs ys n t) (ht : ¬ t < n - 1 - t) (hn : n ≤ xs.length) (hn0 : 0 < n) : ys = (xs.take n).reverse ++ xs.drop n := by
  refine nth_ext (by simp [h.len]; omega) fun i hi => ?_
  rw [h.len] at hi
  by_cases h1 : i < n
  · have e : nth ((xs.take n).reverse ++ xs.drop n) i = nth xs (n - 1 - i) := by
      rw [nth_eq (by simp; omega), List.getElem_append_left (by simp; omega), List.getElem_reverse, nth_eq (by omega)]
      simp only [List.getElem_take, List.length_take]
      congr 1
      omega
    rw [e]
    by_cases h2 : i < t ∨ n - 1 - t < i
    · exact h.done i h1 h2
    · rw [h.mid i (by omega) (by omega)]
      congr 1
      omega
  · have e : nth ((xs.take n).reverse ++ xs.drop n) i = nth xs i := by
      rw [nth_eq (by simp; omega), List.getElem_append_right (by simp; omega), nth_eq (by omega)]
      simp only [List.getElem_drop, List.length_reverse, List.length_take]
      congr 1
      omega
    rw [e]
    exact h.out i (by omega)

set_option maxHeartbeats 1000000 in
theorem Reverse_any (w : World) {base n cap : Nat} {a : Option Addr} {xs : List Nat} (h : Ow .u8 5 base w a n cap xs) (k : Nat) (hk : k ≤ n) (hn : n ≤ 1099511627776) :
    Calls Tryd.prog 53 #[.slice a k cap] w fun e w' => e = .returned (.tuple #[]) ∧ Ow .u8 5 base w' a n cap ((xs.take k).reverse ++ xs.drop k) ∧ Below base w w' := by
  have HL := Lib.hid h.len
  by_cases h0 : 0 < k
  · obtain ⟨g, rfl, hg1, hg2⟩ := h.where (by omega)
    go_enter Tryd.func53, Tryd.ntmps53
    go_wp2_with fail
    go_loopw [2, 3] (fun i j wr => ∃ (t : Nat) (ys : List Nat), 2 * t ≤ k ∧ i = .int .i64 (t : Nat) ∧ j = .int .i64 ((k : Int) - 1 - t) ∧ Hid (Rev xs ys k t) ∧ Ow .u8 5 base wr (some ⟨g, 0, none⟩) n cap ys ∧ Below base w wr) (fun i _ _ => k - (intOf i).toNat)
    case atStart => exact ⟨0, xs, by omega, rfl, by go_num, Lib.hid (Rev.start _ _), h, Below.refl _ _⟩
    case round =>
      obtain ⟨t, ys, ht, rfl, hj, hR, ho, hb⟩ := hrel
      by_cases hlt : t < k - 1 - t
      · obtain ⟨j, hjj⟩ : ∃ j, j = k - 1 - t := ⟨_, rfl⟩
        have hj2 : ((k : Int) - 1 - t) = (j : Int) := by omega
        rw [hj2] at hj
        subst hj
        have hst := hR.out.step hlt (by rw [HL.out]; omega)
        rw [← hjj] at hst hlt
        have HST := Lib.hid hst
        have hjk : j < k := by omega
        have HJ := Lib.hid hjj
        clear hst hj2 hjj
        have c1 := ho.at t (by omega)
        have c2 := ho.at j (by omega)
        have f1 := ho.free t
        have f2 := ho.free j
        have b1 : nth ys t < 256 := by rw [nth_eq (by have := ho.len; omega)]; exact ho.bd _ (List.getElem_mem _)
        have b2 : nth ys j < 256 := by rw [nth_eq (by have := ho.len; omega)]; exact ho.bd _ (List.getElem_mem _)
        have HO := Lib.hid ((ho.set t (nth ys j) b2).set j (nth ys t) b1)
        have HB := Lib.hid ((hb.setCell (p := ⟨g, t, none⟩) (by show base ≤ g; omega) (.int .u8 (nth ys j : Nat))).setCell (p := ⟨g, j, none⟩) (by show base ≤ g; omega) (.int .u8 (nth ys t : Nat)))
        have hst2 := hlt
        go_wp2_with fail
        go_region
        go_wp2
        go_roundw
        case rel => exact ⟨t + 1, _, by have := HJ.out; omega, by go_num, by have := HJ.out; go_num, HST, ⟨HO.out.len, HO.out.own, HO.out.bd⟩, HB.out.drew⟩
        case measure => simp [intOf]; omega
      · subst hj
        have hf := Lib.hid (hR.out.fin hlt (by rw [HL.out]; omega) h0)
        have hge : ¬ (t : Int) < (k : Int) - 1 - t := by omega
        go_wp2_with fail
        go_end0
        exact ⟨rfl, by rw [← hf.out]; exact ho, hb⟩
  · obtain rfl : k = 0 := by omega
    have hx : (xs.take 0).reverse ++ xs.drop 0 = xs := by simp
    rw [hx]
    go_enter Tryd.func53, Tryd.ntmps53
    go_wp2_with fail
    refine wp_loop_rounds 1 ?_
    rw [rounds_succ]
    go_wp2_with fail
    go_end0
    exact ⟨rfl, h, Below.refl _ _⟩

def textC (xs : List Nat) : List Nat × Int := if chk xs = 0 then (textN (val xs), 0) else ([], chk xs)

/-- A string and an error. -/
def RetSE (w : World) (r : List Nat × Int) : Ending → World → Prop := fun e w' => e = .returned (.tuple #[.string (strB r.1), .int .i64 r.2]) ∧ Below w.heap.size w w'

def chars (ds : List Nat) : List Nat := ds.map (· + 48)

theorem chars_append (a b : List Nat) : chars (a ++ b) = chars a ++ chars b := by simp [chars]
theorem chars_nth {ds : List Nat} {i : Nat} (h : i < ds.length) : nth (chars ds) i = nth ds i + 48 := by simp [nth, chars, h]
theorem chars_length (ds : List Nat) : (chars ds).length = ds.length := by simp [chars]
theorem chars_bd {ds : List Nat} (h : dig10 ds) : ∀ x ∈ chars ds, x < 256 := by
  intro x hx
  simp only [chars, List.mem_map] at hx
  obtain ⟨a, ha, rfl⟩ := hx
  have := h a ha
  omega

theorem dec_len {ds : List Nat} {A N : Nat} (h : dval ds + 10 ^ ds.length * A = N) (hA : 0 < A) (hN : N < pw 96) : ds.length < 960 := by
  have a := pw_ten 96
  have b := Nat.le_mul_of_pos_right (10 ^ ds.length) hA
  have c : 10 ^ ds.length < 10 ^ (10 * 96) := by omega
  rcases Nat.lt_or_ge ds.length 960 with h' | h'
  · exact h'
  · have := Nat.pow_le_pow_right (show 0 < 10 by decide) h'
    omega

set_option maxRecDepth 100000 in
set_option maxHeartbeats 2000000 in
theorem Text_any (w : World) {a : Option Addr} {n cap : Nat} {xs : List Nat} (h : Rd .u32 w a n cap xs) :
    Calls Tryd.prog 36 #[.slice a n cap] w (RetSE w (textC xs)) := by
  have hn := h.lt
  have HL := Lib.hid h.len
  obtain ⟨r, hr0⟩ : ∃ r, r = textC xs := ⟨_, rfl⟩
  rw [← hr0]
  have HR := Lib.hid hr0
  clear hr0
  go_enter Tryd.func36, Tryd.ntmps36
  go_wp2_with fail
  refine (Check_any _ h).mono ?_
  rintro e w1 ⟨rfl, rfl⟩
  by_cases hz : chk xs = 0
  · have l1 := (chk_ok.1 hz).1
    have c1 := (chk_ok.1 hz).2
    rw [h.len] at l1
    have e1 := Lib.hid (show r = (textN (val xs), 0) by rw [HR.out, textC, if_pos hz])
    rw [hz]
    clear hz
    by_cases h0 : n = 0
    · subst h0
      obtain rfl : xs = [] := List.eq_nil_of_length_eq_zero HL.out
      go_wp2_with fail
      go_ret2
      rw [e1.out]
      exact ⟨rfl, Below.refl _ _⟩
    · have hb0 : ((n : Int) == 0) = false := by rw [beq_eq_false_iff_ne]; omega
      have hpos := Lib.hid (canon_val_pos c1 (by rw [HL.out]; omega))
      have hlt := Lib.hid (show val xs < pw 96 by
        have := val_lt' (show small32 xs from h.bd)
        rw [HL.out] at this
        exact Nat.lt_of_lt_of_le this (pw_le l1))
      go_wp2_with fail
      go_loopg [0, 5] (val xs) (fun k s0 s5 wr => ∃ (a : Option Addr) (n cap : Nat) (us : List Nat) (b : Option Addr) (m c : Nat) (ds : List Nat), s0 = .slice a n cap ∧ s5 = .slice b m c ∧ Rd .u32 wr a n cap us ∧ n ≤ 96 ∧ canon us ∧ m ≤ 969 ∧
        Ow .u8 5 w.heap.size wr b m c (chars ds) ∧ Hid (dig10 ds ∧ dval ds + 10 ^ ds.length * val us = val xs ∧ val us = k) ∧ Below w.heap.size w wr)
      case atStart => exact ⟨a, n, cap, xs, none, 0, 0, [], rfl, rfl, h, l1, c1, by decide, Ow.nil _ _ _ _, Lib.hid ⟨fun x hx => by simp at hx, by simp [dval], rfl⟩, Below.refl _ _⟩
      case round =>
        obtain ⟨a3, n3, cap3, us, b3, m3, c3, ds, rfl, rfl, hu, l3, c3', hml, ho, hD, hb⟩ := hrel
        by_cases h0 : 0 < n3
        · have hvp := Lib.hid (canon_val_pos c3' (by rw [hu.len]; exact h0))
          have hdl := dec_len hD.out.2.1 hvp.out hlt.out
          have hm3 : m3 = ds.length := by rw [← ho.len, chars_length]
          have HM3 := Lib.hid hm3
          have hm4 : m3 < 960 := by omega
          clear hm3 hdl
          go_wp2_with fail
          refine (small_any _ hu (by omega) 1000000000 (by decide) (by decide)).mono ?_
          rintro e w4 ⟨a4, m4, c4, rfl, hr4, hb4, ht4⟩
          have hz := hb.size
          have hz4 := hb4.size
          have ho4 := ho.below hb4
          have hbb := hb.trans (hb4.mono hz)
          obtain ⟨r0, hr0⟩ : ∃ r, r = val us % 1000000000 := ⟨_, rfl⟩
          rw [← hr0]
          have hr1 : r0 < 1000000000 := by omega
          have HR0 := Lib.hid hr0
          clear hr0
          have hlen4 : m4 ≤ 96 := by
            have := len_le (xs := limbs (val us / 1000000000)) (ys := us) hu.bd (limbs_canon _) (by rw [val_limbs]; exact Nat.div_le_self _ _)
            rw [hr4.len, hu.len] at this
            omega
          go_wp2_with fail
          go_loopw [5, 6, 24] (fun s5 s6 s24 wz => ∃ (j : Nat) (b : Option Addr) (c : Nat), j ≤ 9 ∧ s24 = .int .i64 (j : Nat) ∧ s6 = .int .u32 ((r0 / 10 ^ j : Nat) : Int) ∧ s5 = .slice b (m3 + j) c ∧ Ow .u8 5 w.heap.size wz b (m3 + j) c (chars (ds ++ pad j r0)) ∧
            Rd .u32 wz a4 m4 c4 (limbs (val us / 1000000000)) ∧ Ty wz a4 47 ∧ Below w.heap.size w wz) (fun _ _ i _ => 9 - (intOf i).toNat)
          case atStart => exact ⟨0, b3, c3, by decide, rfl, by simp, rfl, by simpa [pad] using ho4, hr4, ht4, hbb⟩
          case round =>
            obtain ⟨j, b5, c5, hj, rfl, rfl, rfl, ho5, hr5, ht5, hb5⟩ := hrel
            by_cases hj9 : j < 9
            · obtain ⟨R, hR⟩ : ∃ R, R = r0 / 10 ^ j := ⟨_, rfl⟩
              rw [← hR]
              have hRl : R < 1000000000 := by rw [hR]; exact Nat.lt_of_le_of_lt (Nat.div_le_self _ _) hr1
              have HRR := Lib.hid hR
              have hv := Lib.hid (show (48 + (R : Int) % 10) = ((R % 10 + 48 : Nat) : Int) by omega)
              have hw := Lib.hid (show (R : Int) / 10 = ((r0 / 10 ^ (j + 1) : Nat) : Int) by
                rw [Nat.pow_succ, ← Nat.div_div_eq_div_mul, ← hR]
                exact (Int.natCast_ediv R 10).symm)
              have hbz := hb5.size
              clear hR
              go_wp2_with (at_builtin; refine wpList_app rfl _ _ 77 rfl etY w.heap.size rfl (ho5.own.alloc _) rfl rfl (sl_new wr _ 5 rfl) (by unfold maxLen; omega) (by omega) (by simp; omega) ?_; intro a' cap' w' hown hg hb')
              have hk := hr5.keptT ht5 ho5.own (by decide) hg
              rw [hv.out] at hown
              have hown2 : Ow .u8 5 w.heap.size w' a' (m3 + j + 1) cap' (chars (ds ++ pad (j + 1) r0)) := by
                have e : chars (ds ++ pad (j + 1) r0) = chars (ds ++ pad j r0) ++ [R % 10 + 48] := by
                  rw [pad_succ, ← List.append_assoc, chars_append, HRR.out]
                  rfl
                refine ⟨by rw [chars_length, List.length_append, pad_length, ← HM3.out]; omega, ?_, chars_bd (fun x hx => ?_)⟩
                · rw [e, nums_append]
                  exact hown
                · rw [List.mem_append] at hx
                  rcases hx with hx | hx
                  · exact hD.out.1 x hx
                  · exact pad_dig _ _ x hx
              have hbn := hb5.trans (((Below.refl w.heap.size wr).alloc hbz _).trans hb')
              clear hown hg hb' ho5 hr5 ht5 hb5
              go_wp2_with fail
              go_roundw
              case rel => exact ⟨j + 1, a', cap', by omega, by go_num, by rw [hw.out], rfl, hown2, hk.1, hk.2, hbn⟩
              case measure => simp [intOf]; omega
            · obtain rfl : j = 9 := by omega
              have hg := group_step hD.out.2.1
              rw [← HR0.out] at hg
              have hDn : Hid (dig10 (ds ++ pad 9 r0) ∧ dval (ds ++ pad 9 r0) + 10 ^ (ds ++ pad 9 r0).length * val (limbs (val us / 1000000000)) = val xs ∧ val (limbs (val us / 1000000000)) = val us / 1000000000) := by
                rw [val_limbs]
                refine Lib.hid ⟨fun x hx => ?_, hg, rfl⟩
                rw [List.mem_append] at hx
                rcases hx with hx | hx
                · exact hD.out.1 x hx
                · exact pad_dig _ _ x hx
              clear hg
              go_wp2_with fail
              go_roundg (val us / 1000000000)
              case measure => have := hD.out.2.2; have := hvp.out; omega
              case rel => exact ⟨a4, m4, c4, limbs (val us / 1000000000), b5, m3 + 9, c5, ds ++ pad 9 r0, rfl, rfl, hr5, hlen4, limbs_canon _, by omega, ho5, hDn, hb5⟩
        · obtain rfl : n3 = 0 := by omega
          obtain rfl : us = [] := List.eq_nil_of_length_eq_zero hu.len
          have hd1 := hD.out.1
          have hd2 := hD.out.2.1
          simp only [val, Nat.mul_zero, Nat.add_zero] at hd2
          have HD1 := Lib.hid hd1
          have HD2 := Lib.hid hd2
          clear hd1 hd2 hD
          have hm3 : ds.length = m3 := by rw [← ho.len, chars_length]
          have HM3 := Lib.hid hm3
          have hmp : 0 < m3 := by
            rcases Nat.eq_zero_or_pos m3 with h | h
            · exfalso
              rw [h] at hm3
              rw [List.eq_nil_of_length_eq_zero hm3] at HD2
              have := HD2.out
              have := hpos.out
              simp [dval] at *
              omega
            · exact h
          clear hm3
          obtain ⟨g, rfl, hg1, hg2⟩ := ho.where hmp
          go_wp2_with fail
          go_loop [7] (fun i => ∃ k : Nat, 0 < k ∧ k ≤ m3 ∧ i = .int .i64 (k : Nat) ∧ Hid (∀ j, k ≤ j → j < m3 → nth ds j = 0)) (fun i => (intOf i).toNat)
          case atStart => exact ⟨m3, hmp, Nat.le_refl _, rfl, Lib.hid fun j h1 h2 => by omega⟩
          case round =>
            obtain ⟨k, hk0, hk, rfl, hZ⟩ := hrel
            obtain ⟨j, rfl⟩ : ∃ j, k = j + 1 := ⟨k - 1, by omega⟩
            have hi2 : (((j + 1 : Nat) : Int) - 1) = (j : Int) := by omega
            have hc := ho.at j (by omega)
            have hcn := chars_nth (ds := ds) (i := j) (by rw [HM3.out]; omega)
            rw [hcn] at hc
            clear hcn
            by_cases hd0 : nth ds j = 0
            · have hj0 : 0 < j := by
                rcases Nat.eq_zero_or_pos j with h | h
                · exfalso
                  subst h
                  have hall : dval ds = 0 := dval_zero fun x hx => by
                    obtain ⟨i, hi, rfl⟩ := List.getElem_of_mem hx
                    rw [← nth_eq hi]
                    by_cases h0 : i = 0
                    · subst h0; exact hd0
                    · exact hZ.out i (by omega) (by rw [← HM3.out]; exact hi)
                  have := hpos.out
                  have := HD2.out
                  omega
                · exact h
              have HD0 := Lib.hid hd0
              rw [hd0, Nat.zero_add] at hc
              clear hd0
              go_wp2_with fail
              go_round
              case rel => exact ⟨j, hj0, by omega, by go_num, Lib.hid fun i h1 h2 => by
                            by_cases e : i = j
                            · subst e; exact HD0.out
                            · exact hZ.out i (by omega) h2⟩
              case measure => simp [intOf]
            · have hb48 : (((nth ds j + 48 : Nat) : Int) == 48) = false := by rw [beq_eq_false_iff_ne]; omega
              have hb48' : ((nth ds j : Int) + 48 == 48) = false := by rw [beq_eq_false_iff_ne]; omega
              have hTD := take_decs HD1.out (k := j + 1) (by rw [HM3.out]; exact hk) (fun i h1 h2 => hZ.out i h1 (by rw [← HM3.out]; exact h2)) (.inr (by rw [Nat.add_sub_cancel]; exact hd0))
              rw [HD2.out] at hTD
              have e2 := Lib.hid (show r = (((chars ds).take (j + 1)).reverse, 0) by
                rw [e1.out, textN, if_neg (by have := hpos.out; omega), hTD]
                simp [chars, List.map_take])
              have hcap := ho.rd.le
              clear hTD hd0
              go_wp2_with (with_reducible refine wpList_uptoA rfl _ _ _ rfl etY rfl rfl (j + 1) (by omega) (by omega) (.inr ⟨g, 0, rfl⟩) ?_)
              refine (Reverse_any _ ho (j + 1) hk (by omega)).mono ?_
              rintro e w6 ⟨rfl, ho6, hb6⟩
              have hR6 : Rd .u8 w6 (some ⟨g, 0, none⟩) (j + 1) c3 ((chars ds).take (j + 1)).reverse := by
                have := ho6.rd.part 0 (j + 1) c3 (Nat.zero_le _) hk (by omega) (Nat.le_refl _) 0 (fun _ => rfl)
                have hl : ((chars ds).take (j + 1)).reverse.length = j + 1 := by simp [chars_length, HM3.out]; omega
                rw [List.take_append_of_le_length (by omega), List.take_of_length_le (by omega)] at this
                simpa using this
              have hcv := conv_str hR6 Tryd.underlying77 Tryd.underlying5 Tryd.underlying9
              have hbz := hb6.size
              go_wp2_with (with_reducible refine wpList_uptoA rfl _ _ _ rfl etY rfl rfl (j + 1) (by omega) (by omega) (.inr ⟨g, 0, rfl⟩) ?_)
              go_ret2
              rw [e2.out]
              exact ⟨rfl, hb.trans hb6⟩
  · have e1 := Lib.hid (show r = ([], chk xs) by rw [HR.out, textC, if_neg hz])
    go_wp2_with fail
    go_ret2
    rw [e1.out]
    exact ⟨rfl, Below.refl _ _⟩

end Go.Proofs.YtdaajeklnhbhjaaDoor
