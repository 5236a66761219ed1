/- The walks of the laws OctetWhole and OctetSplits: they return true and turn nothing that was there. No condition. -/
import Derived.Test.YtihjopclaihccaaOctetG
namespace Go.Proofs.Ytihjopclaihccaa
open Go.RowKit Go.Suf

set_option maxHeartbeats 1000000 in
theorem octetWhole_walk (w : World) {a : Option Addr} {n cap : Nat} {xss : List (List Nat)} (h : RdL w a n cap xss) {a' : Option Addr} {n' cap' : Nat} {ys : List Nat} (h' : Rd .u8 w a' n' cap' ys) :
    Calls Try.prog 10 #[.slice a n cap, .slice a' n' cap'] w fun e w' => e = .returned (.bool true) ∧ Below w.heap.size w w' := by
  have hn := h.lt
  have HL := Lib.hid h.len
  go_enter Try.func10, Try.ntmps10
  go_wp2_with fail
  refine (alive_any _).mono ?_
  rintro e w1 ⟨rfl, hb1⟩
  have z1 := hb1.size
  by_cases hbig : 300 < n
  · go_wp2
    go_ret
    exact ⟨rfl, hb1⟩
  by_cases hbig' : 20000 < n'
  · go_wp2
    go_ret
    exact ⟨rfl, hb1⟩
  go_wp2_with fail
  go_loop [6] (fun j => ∃ k, k ≤ n ∧ j = .int .i64 (k : Nat) ∧ Hid (∀ i, i < k → (lth xss i).length ≤ 70000)) (fun j => n - (intOf j).toNat)
  case atStart => exact ⟨0, Nat.zero_le _, rfl, Lib.hid (fun i hi => by omega)⟩
  case round =>
    obtain ⟨k, hk, rfl, hS⟩ := hrel
    by_cases hlt : k < n
    · obtain ⟨b, off, d, m, c, rfl, hc, hr⟩ := (h.below hb1).cell k hlt
      have HM := Lib.hid hr.len
      clear hr
      by_cases hm : 70000 < m
      · go_wp2
        go_ret
        exact ⟨rfl, hb1⟩
      · go_wp2
        go_round
        case rel => exact ⟨k + 1, by omega, by go_num, Lib.hid (fun i hi => by
            by_cases e : i < k
            · exact hS.out i e
            · obtain rfl : i = k := by omega
              have := HM.out
              omega)⟩
        case measure => simp [intOf]; omega
    · obtain rfl : k = n := by omega
      have hall : ∀ xs ∈ xss, xs.length ≤ 1099511627776 := by
        intro xs hxs
        obtain ⟨i, hi, rfl⟩ := List.getElem_of_mem hxs
        have := hS.out i (by have := HL.out; omega)
        simp [lth, hi] at this
        omega
      have HA := Lib.hid hall
      clear hall hS
      go_wp2_with fail
      refine (Join_any _ (h.below hb1) HA.out).mono ?_
      rintro e w2 ⟨a2, n2, c2, rfl, ho2, hb2⟩
      have z2 := hb2.size
      have hn2 : n2 ≤ 1099511627776 := by have := ho2.len; have := joinX_length xss; omega
      go_wp2_with fail
      refine (Split_any _ ho2.rd hn2).mono ?_
      rintro e w3 ⟨a3, n3, c3, rfl, ho3, hb3⟩
      have z3 := hb3.size
      have b3 : Below w.heap.size w w3 := (hb1.trans (hb2.mono z1)).trans (hb3.mono (by omega))
      by_cases hj : (joinX [] xss).2 = 0
      · have hs := split_join xss hj
        rw [hs] at ho3 ⊢
        rw [hj]
        clear hs hj ho2
        go_wp2_with fail
        have cs := same_any _ ho3.rd (h.below b3)
        have e4 : sameL xss xss = true := by simp [sameL]
        rw [e4] at cs
        refine cs.mono ?_
        clear cs e4
        rintro e w' ⟨rfl, nq, rfl⟩
        have b4 := below_drewN b3 nq
        go_wp2_with fail
        refine (Split_any _ (h'.below b4) (by omega)).mono ?_
        rintro e w5 ⟨a5, n5, c5, rfl, ho5, hb5⟩
        have z5 := hb5.size
        have b5 := b4.trans (hb5.mono b4.size)
        rcases join_split ys h'.bd with ⟨e0, ej, el⟩ | ⟨e0, en⟩
        · rw [e0]
          clear e0
          go_wp2_with fail
          refine (Join_any _ ho5.rd (fun y hy => by have := el y hy; have := h'.len; omega)).mono ?_
          rintro e w6 ⟨a6, n6, c6, rfl, ho6, hb6⟩
          have z6 := hb6.size
          rw [ej] at ho6 ⊢
          clear ej el
          have b6 := b5.trans (hb6.mono b5.size)
          have v1 := convB ho6.rd
          have v2 := convB (h'.below b6)
          go_wp2
          go_ret
          exact ⟨rfl, b6⟩
        · have HE : ((splitX ys).2 != 0) = true := by simpa using e0
          have HE2 : ((splitX ys).2 == 0) = false := by simpa using e0
          rw [en] at ho5
          obtain rfl : n5 = 0 := by rw [← ho5.len]; rfl
          clear e0 en
          go_wp2_with fail
          refine (Join_any _ ho5.rd (fun y hy => by simp at hy)).mono ?_
          rintro e w6 ⟨a6, n6, c6, rfl, ho6, hb6⟩
          have z6 := hb6.size
          have b6 := b5.trans (hb6.mono b5.size)
          go_wp2
          go_ret
          exact ⟨rfl, b6⟩
      · have HJ : ((joinX [] xss).2 == 0) = false := by simpa using hj
        clear hj
        go_wp2_with fail
        refine (Split_any _ (h'.below b3) (by omega)).mono ?_
        rintro e w5 ⟨a5, n5, c5, rfl, ho5, hb5⟩
        have z5 := hb5.size
        have b5 := b3.trans (hb5.mono b3.size)
        rcases join_split ys h'.bd with ⟨e0, ej, el⟩ | ⟨e0, en⟩
        · rw [e0]
          clear e0
          go_wp2_with fail
          refine (Join_any _ ho5.rd (fun y hy => by have := el y hy; have := h'.len; omega)).mono ?_
          rintro e w6 ⟨a6, n6, c6, rfl, ho6, hb6⟩
          have z6 := hb6.size
          rw [ej] at ho6 ⊢
          clear ej el
          have b6 := b5.trans (hb6.mono b5.size)
          have v1 := convB ho6.rd
          have v2 := convB (h'.below b6)
          go_wp2
          go_ret
          exact ⟨rfl, b6⟩
        · have HE : ((splitX ys).2 != 0) = true := by simpa using e0
          have HE2 : ((splitX ys).2 == 0) = false := by simpa using e0
          rw [en] at ho5
          obtain rfl : n5 = 0 := by rw [← ho5.len]; rfl
          clear e0 en
          go_wp2_with fail
          refine (Join_any _ ho5.rd (fun y hy => by simp at hy)).mono ?_
          rintro e w6 ⟨a6, n6, c6, rfl, ho6, hb6⟩
          have z6 := hb6.size
          have b6 := b5.trans (hb6.mono b5.size)
          go_wp2
          go_ret
          exact ⟨rfl, b6⟩
end Go.Proofs.Ytihjopclaihccaa
