/- What TakeField of octet and of its reference compute, and what spoil leaves alone. Conditions: the lengths that the laws allow. -/
import Derived.Test.YtnjkfjecnicccaaOctetB
namespace Go.Proofs.Ytnjkfjecnicccaa
open Go.RowKit Go.Suf

theorem takeX2 (xs : List Nat) (i : Int) : takeX xs i 2 = if i < 0 ∨ (xs.length : Int) < i then (0, 0, 2) else if (xs.length : Int) - i < 2 then (0, 0, 10) else (num ((xs.drop i.toNat).take 2), i + 2, 0) := by
  unfold takeX
  simp

set_option maxHeartbeats 1000000 in
theorem TakeField_any (w : World) {a : Option Addr} {n cap : Nat} {xs : List Nat} (h : Rd .u8 w a n cap xs) (i : Int) (hi1 : -9223372036854775808 ≤ i) (hi2 : i ≤ 9223372036854775807) (hn : n ≤ 1099511627776) :
    Calls Try.prog 63 #[.slice a n cap, .int .i64 i] w (RetFN w (takeFieldX xs i)) := by
  have hl := h.len
  have et := takeX2 xs i
  rw [hl] at et
  by_cases h1 : i < 0 ∨ (n : Int) < i
  · have e : takeFieldX xs i = ([], 0, 2) := by unfold takeFieldX; rw [hl, if_pos h1]
    rw [if_pos h1] at et
    rw [e]
    have ET := Lib.hid et
    clear e hl h1 et
    go_enter Try.func63, Try.ntmps63
    go_wp2_with (go_at_call 72; (with_reducible refine (Take_any _ h i 2 hi1 hi2 (by omega) (by omega)).mono ?_); rintro e w' ⟨rfl, rfl⟩; rw [ET.out])
    go_ret3
    exact ⟨none, 0, 0, rfl, Ow.nil _ _ _ _, Below.refl _ _⟩
  by_cases h2 : (n : Int) - i < 2
  · have e : takeFieldX xs i = ([], 0, 10) := by unfold takeFieldX; rw [hl, if_neg h1, if_pos h2]
    rw [if_neg h1, if_pos h2] at et
    rw [e]
    have ET := Lib.hid et
    clear e hl h1 h2 et
    go_enter Try.func63, Try.ntmps63
    go_wp2_with (go_at_call 72; (with_reducible refine (Take_any _ h i 2 hi1 hi2 (by omega) (by omega)).mono ?_); rintro e w' ⟨rfl, rfl⟩; rw [ET.out])
    go_ret3
    exact ⟨none, 0, 0, rfl, Ow.nil _ _ _ _, Below.refl _ _⟩
  obtain ⟨i, rfl⟩ : ∃ j : Nat, i = j := ⟨i.toNat, by omega⟩
  have hq := num2_lt xs h.bd i
  obtain ⟨q, hqe⟩ : ∃ q, num ((xs.drop i).take 2) = q := ⟨_, rfl⟩
  rw [if_neg h1, if_neg h2, Int.toNat_natCast, hqe] at et
  rw [hqe] at hq
  have ET := Lib.hid et
  have HL := Lib.hid hl
  by_cases h3 : (n : Int) - (i + 2) < q
  · have e : takeFieldX xs i = ([], 0, 10) := by unfold takeFieldX; rw [hl, if_neg h1, if_neg h2, if_pos (by rw [Int.toNat_natCast, hqe]; omega)]
    rw [e]
    clear e hl et hqe
    go_enter Try.func63, Try.ntmps63
    go_wp2_with (go_at_call 72; (with_reducible refine (Take_any _ h i 2 hi1 hi2 (by omega) (by omega)).mono ?_); rintro e w' ⟨rfl, rfl⟩; rw [ET.out])
    go_ret3
    exact ⟨none, 0, 0, rfl, Ow.nil _ _ _ _, Below.refl _ _⟩
  · have e : takeFieldX xs i = ((xs.drop (i + 2)).take q, (i : Int) + 2 + q, 0) := by unfold takeFieldX; rw [hl, if_neg h1, if_neg h2, Int.toNat_natCast, hqe, if_neg (by omega)]
    rw [e]
    have HE : Hid ((xs.take (i + 2 + q)).drop (i + 2) = (xs.drop (i + 2)).take q) := Lib.hid (by rw [List.take_drop])
    clear e hl et hqe
    go_enter Try.func63, Try.ntmps63
    go_wp2_with (first | (go_at_call 72; (with_reducible refine (Take_any _ h i 2 hi1 hi2 (by omega) (by omega)).mono ?_); rintro e w' ⟨rfl, rfl⟩; rw [ET.out]) | (refine wpList_part rfl _ _ _ 34 rfl etB h rfl rfl rfl (i + 2) (i + 2 + q) q (by simp) (by simp) (by omega) (by omega) (by omega) ?_; intro a' c' hr) | (at_builtin; refine wpList_app rfl _ _ 34 rfl etB w.heap.size rfl (World.ownsRow_nil w w.heap.size 5 1) rfl (by simpa using hr.len) hr.sl (by unfold maxLen; omega) (by omega) (Nat.le_refl _) ?_; intro a2 cap2 w2 hown hg hb))
    go_ret3
    refine ⟨a2, _, cap2, rfl, ⟨?_, ?_, fun x hx => h.bd x (List.mem_of_mem_drop (List.mem_of_mem_take hx))⟩, hb⟩
    · have := hr.len; rw [HE.out] at this; simpa using this
    · rw [HE.out] at hown; simpa using hown

set_option maxHeartbeats 1000000 in
theorem refTakeField_any (w : World) {a : Option Addr} {n cap : Nat} {xs : List Nat} (h : Rd .u8 w a n cap xs) (i : Int) (hi1 : -9223372036854775808 ≤ i) (hi2 : i ≤ 9223372036854775807) (hn : n ≤ 1099511627776) :
    Calls Try.prog 51 #[.slice a n cap, .int .i64 i] w (RetFN w (takeFieldX xs i)) := by
  have hl := h.len
  by_cases g1 : i < 0
  · have e : takeFieldX xs i = ([], 0, 2) := by unfold takeFieldX; rw [if_pos (.inl g1)]
    rw [e]
    clear e hl
    go_enter Try.func51, Try.ntmps51
    go_wp2
    go_ret3
    exact ⟨none, 0, 0, rfl, Ow.nil _ _ _ _, Below.refl _ _⟩
  by_cases g2 : (n : Int) < i
  · have e : takeFieldX xs i = ([], 0, 2) := by unfold takeFieldX; rw [hl, if_pos (.inr g2)]
    rw [e]
    clear e hl
    go_enter Try.func51, Try.ntmps51
    go_wp2
    go_ret3
    exact ⟨none, 0, 0, rfl, Ow.nil _ _ _ _, Below.refl _ _⟩
  obtain ⟨i, rfl⟩ : ∃ j : Nat, i = j := ⟨i.toNat, by omega⟩
  by_cases h2 : n < i + 2
  · have e : takeFieldX xs i = ([], 0, 10) := by unfold takeFieldX; rw [hl, if_neg (by omega), if_pos (by omega)]
    rw [e]
    clear e hl
    go_enter Try.func51, Try.ntmps51
    go_wp2
    go_ret3
    exact ⟨none, 0, 0, rfl, Ow.nil _ _ _ _, Below.refl _ _⟩
  have hq := num2_lt xs h.bd i
  obtain ⟨q, hqe⟩ : ∃ q, num ((xs.drop i).take 2) = q := ⟨_, rfl⟩
  rw [hqe] at hq
  have HL := Lib.hid hl
  have HQ : Hid (num ((xs.take (i + 2)).drop i) = q) := Lib.hid (by rw [← hqe, List.take_drop])
  have w1 : IntKind.i64.wrap (q : Int) = q := by rw [IntKind.wrap_i64]; omega
  by_cases h3 : n < i + 2 + q
  · have e : takeFieldX xs i = ([], 0, 10) := by unfold takeFieldX; rw [hl, if_neg (by omega), if_neg (by omega), if_pos (by rw [Int.toNat_natCast, hqe]; omega)]
    rw [e]
    clear e hl hqe
    go_enter Try.func51, Try.ntmps51
    go_wp2_with (first | (refine wpList_part rfl _ _ _ 34 rfl etB h rfl rfl rfl i (i + 2) 2 (by simp) (by simp) (by omega) (by omega) (by omega) ?_; intro a' c' hr))
    refine (Number_any _ hr (by omega)).mono ?_
    rintro e w' ⟨rfl, rfl⟩
    rw [HQ.out]
    go_wp2
    go_ret3
    exact ⟨none, 0, 0, rfl, Ow.nil _ _ _ _, Below.refl _ _⟩
  · have e : takeFieldX xs i = ((xs.drop (i + 2)).take q, (i : Int) + 2 + q, 0) := by unfold takeFieldX; rw [hl, if_neg (by omega), if_neg (by omega), Int.toNat_natCast, hqe, if_neg (by omega)]
    rw [e]
    have HE : Hid ((xs.take (i + 2 + q)).drop (i + 2) = (xs.drop (i + 2)).take q) := Lib.hid (by rw [List.take_drop])
    clear e hl hqe
    go_enter Try.func51, Try.ntmps51
    go_wp2_with (first | (refine wpList_part rfl _ _ _ 34 rfl etB h rfl rfl rfl i (i + 2) 2 (by simp) (by simp) (by omega) (by omega) (by omega) ?_; intro a' c' hr))
    refine (Number_any _ hr (by omega)).mono ?_
    rintro e w' ⟨rfl, rfl⟩
    rw [HQ.out]
    go_wp2_with (first | (refine wpList_part rfl _ _ _ 34 rfl etB h rfl rfl rfl (i + 2) (i + 2 + q) q (by simp) (by simp) (by omega) (by omega) (by omega) ?_; intro a2 c2 hr2))
    refine (twin_any _ hr2 (by omega)).mono ?_
    rintro e w3 ⟨a3, n3, c3, rfl, ho3, hb3⟩
    go_wp2
    go_ret3
    exact ⟨a3, n3, c3, rfl, by rw [← HE.out]; exact ho3, hb3⟩

/-- A row of bytes of the call's own, whatever they are. -/
def Wb (base : Nat) (w : World) (a : Option Addr) (n : Nat) : Prop := n = 0 ∨ ∃ g cur, a = some ⟨g, 0, none⟩ ∧ base ≤ g ∧ w.heap[g]? = some (.cells cur 5 (0, 0)) ∧ n ≤ cur.size

/-- What spoil leaves: all below, all rows of bytes as rows, all rows of other elements as they are. -/
structure Sp (base : Nat) (w w' : World) : Prop where
  below : Below base w w'
  rows : ∀ b m, Wb base w b m → Wb base w' b m
  others : ∀ (k : Nat) (c : Array Value) (e : TypeId) (f : Nat × Nat), e ≠ 5 → w.heap[k]? = some (.cells c e f) → w'.heap[k]? = some (.cells c e f)

theorem Sp.refl (base : Nat) (w : World) : Sp base w w := ⟨Below.refl _ _, fun _ _ h => h, fun _ _ _ _ _ h => h⟩
theorem Sp.trans {base : Nat} {w1 w2 w3 : World} (h : Sp base w1 w2) (h' : Sp base w2 w3) : Sp base w1 w3 :=
  ⟨h.below.trans h'.below, fun b m x => h'.rows b m (h.rows b m x), fun k c e f he x => h'.others k c e f he (h.others k c e f he x)⟩

theorem Sp.store {base : Nat} {w : World} {g i : Nat} {cur : Array Value} (hg : base ≤ g) (hh : w.heap[g]? = some (.cells cur 5 (0, 0))) (u : Value) : Sp base w (w.setCell ⟨g, i, none⟩ u) := by
  have hs := heap_setCell_same w g i cur 5 u hh
  have ho := fun k (hk : k ≠ g) => heap_setCell_other w ⟨g, i, none⟩ k u hk
  refine ⟨(Below.refl _ _).setCell (p := ⟨g, i, none⟩) hg u, fun b m hw => ?_, fun k c e f he hk => ?_⟩
  · rcases hw with hw | ⟨g', cur', rfl, hb, hc, hm⟩
    · exact .inl hw
    · by_cases hgg : g' = g
      · subst hgg
        rw [hh] at hc
        simp at hc
        subst hc
        exact .inr ⟨g', _, rfl, hb, hs, by simpa using hm⟩
      · exact .inr ⟨g', cur', rfl, hb, (ho g' hgg).trans hc, hm⟩
  · by_cases hkg : k = g
    · subst hkg
      rw [hh] at hk
      simp at hk
      exact absurd hk.2.1.symm he
    · exact (ho k hkg).trans hk

theorem Wb.of_own {base : Nat} {w : World} {a : Option Addr} {n cap : Nat} {xs : List Nat} (h : Ow .u8 5 base w a n cap xs) : Wb base w a n := by
  rcases h.own.2 with ⟨_, hn⟩ | ⟨g, c, cur, hv, hg, hh, hnc, _, hsz, _⟩
  · exact .inl hn
  · simp at hv
    exact .inr ⟨g, cur, hv.1, hg, hh, by omega⟩

theorem Wb.mono {base base' : Nat} {w : World} {a : Option Addr} {n : Nat} (h : Wb base w a n) (hb : base' ≤ base) : Wb base' w a n := by
  rcases h with h | ⟨g, cur, rfl, hg, hh, hm⟩
  · exact .inl h
  · exact .inr ⟨g, cur, rfl, by omega, hh, hm⟩

theorem Wb.below {base : Nat} {w w' : World} {a : Option Addr} {n : Nat} (h : Wb base w a n) (hb : Below w.heap.size w w') : Wb base w' a n := by
  rcases h with h | ⟨g, cur, rfl, hg, hh, hm⟩
  · exact .inl h
  · exact .inr ⟨g, cur, rfl, hg, (hb.block g (Array.getElem?_eq_some_iff.1 hh).1).trans hh, hm⟩

end Go.Proofs.Ytnjkfjecnicccaa
