/- The walk of the law OctetSplits: it returns true and turns nothing that was there. No condition. -/
import Derived.Test.YtihjopclaihccaaOctetG
namespace Go.Proofs.Ytihjopclaihccaa
open Go.RowKit Go.Suf

theorem Sp.keepE {base : Nat} {w w' : World} (h : Sp base w w') : KeepE (fun e => e ≠ 5) w w' := fun k c e f he hk => h.others k c e f he hk

theorem lth_take {l : List (List Nat)} {i k : Nat} (h : i < k) : lth (l.take k) i = lth l i := by
  simp only [lth, List.getD_eq_getElem?_getD]
  rw [List.getElem?_take, if_pos h]

set_option maxHeartbeats 2000000 in
theorem octetSplits_walk (w : World) {a : Option Addr} {n cap : Nat} {xs : List Nat} (h : Rd .u8 w a n cap xs) {a' : Option Addr} {n' cap' : Nat} {xss : List (List Nat)} (h' : RdL w a' n' cap' xss) :
    Calls Try.prog 5 #[.slice a n cap, .slice a' n' cap'] w fun e w' => e = .returned (.bool true) ∧ Below w.heap.size w w' := by
  have hn' := h'.lt
  have HL := Lib.hid h'.len
  by_cases hbig : 20000 < n
  · go_enter Try.func5, Try.ntmps5
    go_wp2
    go_ret
    exact ⟨rfl, Below.refl _ _⟩
  by_cases hbig' : 300 < n'
  · go_enter Try.func5, Try.ntmps5
    go_wp2
    go_ret
    exact ⟨rfl, Below.refl _ _⟩
  have hn : n ≤ 1099511627776 := by omega
  go_enter Try.func5, Try.ntmps5
  go_wp2
  go_loopw [5, 6] (fun v j wr => ∃ k a1 c1, k ≤ n' ∧ j = .int .i64 (k : Nat) ∧ v = .slice a1 k c1 ∧ OwL w.heap.size wr a1 k c1 (xss.take k) ∧ Hid (∀ i, i < k → (lth xss i).length ≤ 70000) ∧ Below w.heap.size w wr) (fun _ j _ => n' - (intOf j).toNat)
  case atStart => exact ⟨0, none, 0, Nat.zero_le _, rfl, rfl, OwL.nil _ _, Lib.hid (fun i hi => by omega), Below.refl _ _⟩
  case round =>
    obtain ⟨k, a1, c1, hk, rfl, rfl, ho, hS, hb⟩ := hrel
    have hz := hb.size
    by_cases hlt : k < n'
    · obtain ⟨b, off, d, m, c, rfl, hc, hr⟩ := (h'.below hb).cell k hlt
      have hml := hr.len
      have HM := Lib.hid hml
      clear hml
      by_cases hm : 70000 < m
      · go_wp2
        go_ret
        exact ⟨rfl, hb⟩
      · go_wp2_with fail
        refine (twin_any _ hr (by omega)).mono ?_
        rintro e w2 ⟨a2, n2, c2, rfl, ho2, hb2⟩
        have hz2 := hb2.size
        have hob := ho.below hb2
        obtain ⟨vs, hv, h1, hi⟩ := hob.row
        have HO := Lib.hid ho.len
        have HT := Lib.hid (take_lth xss k (by have := HL.out; omega))
        clear hc hr
        go_wp2_with (at_builtin; refine wpList_app rfl _ _ 43 rfl etL w.heap.size rfl (hv.alloc _) rfl rfl (sl_new w2 _ 22 rfl) (by unfold maxLen; omega) (by omega) (by simp; omega) ?_; intro a3 cap3 w3 hown3 hg hb3)
        refine ⟨⟨k + 1, a3, cap3, by omega, by go_num, rfl, ?_, Lib.hid (fun i hi => ?_), (hb.trans (hb2.mono hz)).trans (((Below.refl _ _).alloc (by omega) _).trans hb3)⟩, by simp [intOf]; omega⟩
        · rw [HT.out]
          exact OwL.snoc HO.out hown3 (by have := hv.1; simpa using this) h1 (fun q hq => by obtain ⟨b, m, c, e1, e2⟩ := hi q hq; exact ⟨b, m, c, e1, e2.kept hv (by decide) hg⟩) ((ho2.base_le hz).kept hv (by decide) hg)
        · by_cases e : i < k
          · exact hS.out i e
          · obtain rfl : i = k := by omega
            have := HM.out
            omega
    · obtain rfl : k = n' := by omega
      have HT : Hid (xss.take k = xss) := Lib.hid (List.take_of_length_le (by have := HL.out; omega))
      rw [HT.out] at ho
      have hall : ∀ xs ∈ xss, xs.length ≤ 1099511627776 := by
        intro xs hxs
        obtain ⟨i, hi, rfl⟩ := List.getElem_of_mem hxs
        have := hS.out i (by have := HL.out; omega)
        simp [lth, hi] at this
        omega
      have HA := Lib.hid hall
      clear hall hS
      go_wp2_with fail
      refine (twin_any _ (h.below hb) hn).mono ?_
      rintro e w1 ⟨a2, n2, c2, rfl, ho2, hb2⟩
      have z1 := hb2.size
      obtain rfl : n2 = n := by rw [← ho2.len, h.len]
      go_wp2_with fail
      refine (Split_any _ ho2.rd hn).mono ?_
      rintro e w3 ⟨a3, n3, c3, rfl, ho3, hb3⟩
      have z3 := hb3.size
      have b3 : Below w.heap.size w w3 := (hb.trans (hb2.mono hz)).trans (hb3.mono (by omega))
      go_wp2_with fail
      refine (refSplit_any _ (h.below b3) hn).mono ?_
      rintro e w4 ⟨a4, n4, c4, rfl, ho4, hb4⟩
      have z4 := hb4.size
      have t4 := ((ho.below hb2).below hb3).below hb4
      go_wp2_with fail
      refine (Join_any _ t4.rd HA.out).mono ?_
      rintro e w5 ⟨a5, n5, c5, rfl, ho5, hb5⟩
      have z5 := hb5.size
      have b5 : Below w.heap.size w w5 := (b3.trans (hb4.mono (by omega))).trans (hb5.mono (by omega))
      go_wp2_with fail
      refine (refJoin_any _ (h'.below b5) HA.out).mono ?_
      rintro e w6 ⟨a6, n6, c6, rfl, ho6, hb6⟩
      have z6 := hb6.size
      have x6 := ((ho3.below hb4).below hb5).below hb6
      have y6 := (ho4.below hb5).below hb6
      have p6 := ho5.below hb6
      go_wp2_with fail
      have cs := same_any _ x6.rd y6.rd
      have e4 : sameL (splitX xs).1 (splitX xs).1 = true := by simp [sameL]
      rw [e4] at cs
      refine cs.mono ?_
      clear cs e4
      rintro e w' ⟨rfl, nq, rfl⟩
      have hd := below_drewN (Below.refl w6.heap.size w6) nq
      have v1 := convB (p6.below hd).rd
      have v2 := convB (ho6.below hd).rd
      have x7 := x6.below hd
      have p7 := p6.below hd
      have hb37 : Below w1.heap.size w1 (w6.drewN nq) := below_drewN ((hb3.trans (hb4.mono z3)).trans ((hb5.mono (by omega)).trans (hb6.mono (by omega)))) nq
      have b7 : Below w.heap.size w (w6.drewN nq) := (hb.trans (hb2.mono hz)).trans (hb37.mono (by omega))
      obtain ⟨vs, hv, h1, hel⟩ := x7.row
      have hlen : ∀ i, i < n3 → (lth (splitX xs).1 i).length ≤ 1099511627776 := by
        intro i hi
        have hi' : i < (splitX xs).1.length := by rw [ho3.len]; exact hi
        rcases join_split xs h.bd with ⟨_, _, el⟩ | ⟨_, en⟩
        · have := el _ (lth_mem hi')
          have := h.len
          omega
        · rw [en] at hi'
          simp at hi'
      have HN := Lib.hid hlen
      have hn3 : n3 ≤ 9223372036854775807 := x7.rd.lt
      have hn5 : n5 ≤ 1099511627776 := by have := ho5.len; have := joinX_length xss; omega
      clear hlen
      go_wp2_with fail
      go_loopw [17] (fun j wr => ∃ i, i ≤ n3 ∧ j = .int .i64 (i : Nat) ∧ Hid (Sp w1.heap.size (w6.drewN nq) wr)) (fun j _ => n3 - (intOf j).toNat)
      case atStart => exact ⟨0, Nat.zero_le _, rfl, Lib.hid (Sp.refl _ _)⟩
      case round =>
        obtain ⟨i, hi, rfl, hsp⟩ := hrel
        by_cases hli : i < n3
        · obtain ⟨b, m, c, e1, e2⟩ := hel i hli
          have hv' := own_keepE (p := fun e => e ≠ 5) (by decide) hsp.out.keepE hv
          obtain ⟨b0, off, rfl, hc⟩ := (sl_of_own hv' h1).cell i _ e1
          have hwb := hsp.out.rows _ _ (Wb.of_own e2)
          have hm : m ≤ 1099511627776 := by have := HN.out i hli; have := e2.len; omega
          clear hv' e1 e2
          go_wp2_with fail
          refine (spoil_any _ hwb hm).mono ?_
          rintro e w8 ⟨rfl, sp8⟩
          have HP := Lib.hid (hsp.out.trans sp8)
          clear sp8 hwb hc
          go_wp2
          go_roundw
          case rel => exact ⟨i + 1, by omega, by go_num, HP⟩
          case measure => simp [intOf]; omega
        · obtain rfl : i = n3 := by omega
          have wb5 := hsp.out.rows _ _ ((Wb.of_own p7).mono (show w1.heap.size ≤ w4.heap.size by omega))
          clear v1 v2
          go_wp2_with fail
          refine (spoil_any _ wb5 hn5).mono ?_
          rintro e w8 ⟨rfl, sp8⟩
          have hb8 : Below w1.heap.size w1 w8 := hb37.trans (hsp.out.trans sp8).below
          have b8 : Below w.heap.size w w8 := (hb.trans (hb2.mono hz)).trans (hb8.mono (by omega))
          have v1 := convB (ho2.below hb8).rd
          have v2 := convB (h.below b8)
          go_wp2_with fail
          have cs := same_any _ ((ho.below hb2).below hb8).rd (h'.below b8)
          have e4 : sameL xss xss = true := by simp [sameL]
          rw [e4] at cs
          refine cs.mono ?_
          clear cs e4
          rintro e w' ⟨rfl, nq, rfl⟩
          go_wp2
          go_ret
          exact ⟨rfl, below_drewN b8 _⟩
end Go.Proofs.Ytihjopclaihccaa
