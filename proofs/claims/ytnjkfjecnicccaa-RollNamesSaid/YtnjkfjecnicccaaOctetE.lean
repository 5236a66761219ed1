/- What Split and SameFields of the reference compute. Conditions: the lengths that the laws allow. -/
import Derived.Test.YtnjkfjecnicccaaOctetD
import Derived.Deep.QuietTactic
import Derived.BigQuiet
namespace Go.Proofs.Ytnjkfjecnicccaa
open Go.RowKit Go.Suf

/-- A list of byte strings in memory of the call's own, its strings too. -/
structure OwL (base : Nat) (w : World) (a : Option Addr) (n cap : Nat) (xss : List (List Nat)) : Prop where
  len : xss.length = n
  row : ∃ vs : List Value, w.ownsRow base 34 1 (.slice a n cap) n vs ∧ (∀ u ∈ vs, u.oneCell' = true) ∧ ∀ i, i < n → ∃ b m c, vs[i]? = some (.slice b m c) ∧ Ow .u8 5 base w b m c (lth xss i)

section
variable {base : Nat} {w w' : World} {a : Option Addr} {n cap : Nat} {xss : List (List Nat)}

theorem OwL.nil (base : Nat) (w : World) : OwL base w none 0 0 [] := ⟨rfl, [], World.ownsRow_nil _ _ _ _, fun u hu => by simp at hu, fun i hi => by omega⟩

theorem OwL.below (h : OwL base w a n cap xss) (hb : Below w.heap.size w w') : OwL base w' a n cap xss := by
  obtain ⟨vs, hv, ho, hi⟩ := h.row
  exact ⟨h.len, vs, own_below hv hb, ho, fun i hn => by obtain ⟨b, m, c, h1, h2⟩ := hi i hn; exact ⟨b, m, c, h1, h2.below hb⟩⟩

theorem OwL.base_le (h : OwL base w a n cap xss) {base' : Nat} (hb : base' ≤ base) : OwL base' w a n cap xss := by
  obtain ⟨vs, hv, ho, hi⟩ := h.row
  refine ⟨h.len, vs, ⟨hv.1, ?_⟩, ho, fun i hn => by obtain ⟨b, m, c, h1, h2⟩ := hi i hn; exact ⟨b, m, c, h1, h2.base_le hb⟩⟩
  rcases hv.2 with h2 | ⟨g, c, cur, hv, hg, r⟩
  · exact .inl h2
  · exact .inr ⟨g, c, cur, hv, by omega, r⟩

theorem OwL.rd (h : OwL base w a n cap xss) : RdL w a n cap xss := by
  obtain ⟨vs, hv, ho, hi⟩ := h.row
  have hl : vs.length = n := by have := hv.1; simpa using this
  refine ⟨h.len, vs, hl, ?_, fun i hn => by obtain ⟨b, m, c, h1, h2⟩ := hi i hn; exact ⟨b, m, c, h1, h2.rd⟩⟩
  subst hl
  exact sl_of_own hv ho

theorem lth_append_left {l m : List (List Nat)} {i : Nat} (h : i < l.length) : lth (l ++ m) i = lth l i := by
  simp only [lth, List.getD_eq_getElem?_getD]
  rw [List.getElem?_append_left h]

theorem lth_append_one (l : List (List Nat)) (x : List Nat) : lth (l ++ [x]) l.length = x := by
  simp [lth]

/-- One string more. -/
theorem OwL.snoc {ys : List Nat} {b : Option Addr} {m c c' : Nat} {a2 : Option Addr} {vs : List Value} (hl : xss.length = n) (h1 : w'.ownsRow base 34 1 (.slice a2 (n + 1) c') (n + 1) (vs ++ [.slice b m c])) (hv : vs.length = n) (ho : ∀ u ∈ vs, u.oneCell' = true)
    (hi : ∀ i, i < n → ∃ b m c, vs[i]? = some (.slice b m c) ∧ Ow .u8 5 base w' b m c (lth xss i)) (hy : Ow .u8 5 base w' b m c ys) : OwL base w' a2 (n + 1) c' (xss ++ [ys]) := by
  refine ⟨by simp [hl], vs ++ [.slice b m c], h1, fun u hu => ?_, fun i hin => ?_⟩
  · rw [List.mem_append] at hu
    rcases hu with hu | hu
    · exact ho u hu
    · simp at hu; subst hu; rfl
  · by_cases h : i < n
    · obtain ⟨b', m', c1, e1, e2⟩ := hi i h
      exact ⟨b', m', c1, by rw [List.getElem?_append_left (by omega)]; exact e1, by rw [lth_append_left (by omega)]; exact e2⟩
    · obtain rfl : i = n := by omega
      exact ⟨b, m, c, by rw [List.getElem?_append_right (by omega)]; simp [hv], by subst hl; rw [lth_append_one]; exact hy⟩
end

/-- New lists of bytes and an error. -/
def RetLE (w : World) (r : List (List Nat) × Int) : Ending → World → Prop := fun e w' =>
  ∃ a n cap, e = .returned (.tuple #[.slice a n cap, .int .i64 r.2]) ∧ OwL w.heap.size w' a n cap r.1 ∧ Below w.heap.size w w'

set_option maxHeartbeats 1000000 in
theorem refSplit_any (w : World) {a : Option Addr} {n cap : Nat} {xs : List Nat} (h : Rd .u8 w a n cap xs) (hn : n ≤ 1099511627776) :
    Calls Try.prog 39 #[.slice a n cap] w (RetLE w (splitX xs)) := by
  have hl := h.len
  by_cases hbig : 16384 < n
  · have e : splitX xs = ([], 4) := by unfold splitX; rw [hl, if_pos hbig]
    rw [e]
    clear e hl
    go_enter Try.func39, Try.ntmps39
    go_wp2
    go_ret2
    exact ⟨none, 0, 0, rfl, OwL.nil _ _, Below.refl _ _⟩
  have HS : Hid (splitX xs = splitF xs (n + 1) 0 []) := Lib.hid (by unfold splitX; rw [hl, if_neg hbig])
  have HL := Lib.hid hl
  clear hl
  go_enter Try.func39, Try.ntmps39
  go_wp2
  go_loopw [4, 5] (fun v j wr => ∃ f i a' k c' out, i ≤ n ∧ n - i < f ∧ k ≤ i ∧ j = .int .i64 (i : Nat) ∧ v = .slice a' k c' ∧ OwL w.heap.size wr a' k c' out ∧ Hid (splitX xs = splitF xs f i out) ∧ Below w.heap.size w wr) (fun _ j _ => n - (intOf j).toNat)
  case atStart => exact ⟨n + 1, 0, none, 0, 0, [], Nat.zero_le _, by omega, Nat.le_refl _, rfl, rfl, OwL.nil _ _, HS, Below.refl _ _⟩
  case round =>
    obtain ⟨f, i, a', k, c', out, hin, hf, hki, rfl, rfl, ho, hS, hb⟩ := hrel
    obtain ⟨f, rfl⟩ : ∃ g, f = g + 1 := ⟨f - 1, by omega⟩
    have hz := hb.size
    by_cases hlt : i < n
    · have hS2 := hS.out
      rw [splitF, if_pos (by have := HL.out; omega)] at hS2
      have HS2 := Lib.hid hS2
      clear hS2 hS HS
      go_wp2_with fail
      refine (refTakeField_any _ (h.below hb) i (by omega) (by omega) hn).mono ?_
      rintro e w2 ⟨a2, n2, c2, rfl, ho2, hb2⟩
      have hz2 := hb2.size
      obtain ⟨vs, hv, h1, hi⟩ := (ho.below hb2).row
      by_cases he : (takeFieldX xs i).2.2 = 0
      · obtain ⟨j, hj, hj1, hj2⟩ := takeFieldX_ok xs i he
        have hS2 := HS2.out
        rw [if_pos he, hj, Int.toNat_natCast] at hS2
        have HS3 := Lib.hid hS2
        have HO := Lib.hid ho.len
        rw [hj, he]
        have hjn : j ≤ n := by have := HL.out; omega
        clear he hS2 HS2 hj hj2
        go_wp2_with (at_builtin; refine wpList_app rfl _ _ 63 rfl etL w.heap.size rfl (hv.alloc _) rfl rfl (sl_new w2 _ 34 rfl) (by unfold maxLen; omega) (by omega) (by simp; omega) ?_; intro a3 cap3 w3 hown3 hg hb3)
        refine ⟨⟨f, j, a3, k + 1, cap3, out ++ [(takeFieldX xs i).1], by omega, by omega, by omega, by simp, rfl, ?_, HS3, (hb.trans (hb2.mono hz)).trans (((Below.refl _ _).alloc (by omega) _).trans hb3)⟩, by simp [intOf]; omega⟩
        exact OwL.snoc HO.out hown3 (by have := hv.1; simpa using this) h1 (fun q hq => by obtain ⟨b, m, c, e1, e2⟩ := hi q hq; exact ⟨b, m, c, e1, e2.kept hv (by decide) hg⟩) ((ho2.base_le hz).kept hv (by decide) hg)
      · have HE : ((takeFieldX xs i).2.2 != 0) = true := by simpa using he
        have hS2 := HS2.out
        rw [if_neg he] at hS2
        have HS3 := Lib.hid hS2
        clear he hS2 HS2
        go_wp2
        go_ret2
        rw [HS3.out]
        exact ⟨none, 0, 0, rfl, OwL.nil _ _, hb.trans (hb2.mono hz)⟩
    · have hS2 := hS.out
      rw [splitF, if_neg (by have := HL.out; omega)] at hS2
      have HS2 := Lib.hid hS2
      clear hS hS2
      go_wp2
      go_ret2
      rw [HS2.out]
      exact ⟨a', k, c', rfl, ho, hb⟩

def sameL : List (List Nat) → List (List Nat) → Bool := fun x y => decide (x = y)

end Go.Proofs.Ytnjkfjecnicccaa
