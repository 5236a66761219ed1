/- Great and Place, in the program and in the document's answer. No condition. -/
import Derived.Test.YtlfempfhohejiaaConG
set_option linter.unusedVariables false
set_option linter.unusedSimpArgs false
namespace Go.Proofs.Ytlfempfhohejiaa
open Go.RowKit Go.Suf

def greatC (nm : ByteArray) (ss : List ByteArray) : Bool := decide (100 < ss.length) || decide (1000 < nm.size) || ss.any fun s => decide (1000 < s.size)

theorem great_at {ss : List ByteArray} {i : Nat} (hi : i < ss.length) (h : 1000 < (sth ss i).size) : (ss.any fun s => decide (1000 < s.size)) = true := List.any_eq_true.2 ⟨_, sth_mem hi, by simpa using h⟩
theorem great_none {ss : List ByteArray} (h : ∀ i, i < ss.length → ¬ 1000 < (sth ss i).size) : (ss.any fun s => decide (1000 < s.size)) = false := by
  rw [← any_sth, List.any_eq_false]
  intro x hx
  simpa using h x (List.mem_range.1 hx)

set_option maxRecDepth 100000 in
set_option maxHeartbeats 1000000 in
theorem Great_any (w : World) (nm : ByteArray) {a : Option Addr} {n cap : Nat} {ss : List ByteArray} (h : RdS w a n cap ss) (seats : Int) (rule : Nat) (_hr : rule < 256) :
    Calls Try.prog 11 #[.agg #[.string nm, .slice a n cap, .int .i64 seats, .int .u8 (rule : Nat)]] w fun e w' => e = .returned (.bool (greatC nm ss)) ∧ Below w.heap.size w w' := by
  have hn := h.lt
  have HL := Lib.hid h.len
  obtain ⟨r, hr0⟩ : ∃ r, r = greatC nm ss := ⟨_, rfl⟩
  rw [← hr0]
  unfold greatC at hr0
  rw [h.len] at hr0
  have HR := Lib.hid hr0
  clear hr0
  have hA : Below w.heap.size w (w.alloc (.cells #[.string nm, .slice a n cap, .int .i64 seats, .int .u8 (rule : Nat)] 24)) := (Below.refl _ _).alloc (Nat.le_refl _) _
  by_cases h1 : 100 < n
  · go_enter Try.func11, Try.ntmps11
    go_wp2_with fail
    go_ret
    exact ⟨by rw [HR.out]; simp [h1], hA⟩
  by_cases h2 : 1000 < nm.size
  · go_enter Try.func11, Try.ntmps11
    go_wp2_with fail
    go_ret
    exact ⟨by rw [HR.out]; simp [h2], hA⟩
  have c1 := new_cell w #[.string nm, .slice a n cap, .int .i64 seats, .int .u8 (rule : Nat)] 24 1 _ rfl
  have hrd := h.below hA
  go_enter Try.func11, Try.ntmps11
  go_wp2_with fail
  generalize hwA : w.alloc (.cells #[.string nm, .slice a n cap, .int .i64 seats, .int .u8 (rule : Nat)] 24) = wA at hA c1 hrd ⊢
  go_loop [3] (fun j => ∃ i, i ≤ n ∧ j = .int .i64 (i : Nat) ∧ Hid (∀ k, k < i → ¬ 1000 < (sth ss k).size)) (fun j => n - (intOf j).toNat)
  case atStart => exact ⟨0, by omega, rfl, Lib.hid fun k hk => absurd hk (by omega)⟩
  case round =>
    obtain ⟨i, hi, rfl, hS⟩ := hrel
    by_cases hlt : i < n
    · obtain ⟨b, off, rfl, hc⟩ := hrd.cell i hlt
      by_cases hq : 1000 < (sth ss i).size
      · have HQ := Lib.hid (great_at (by have := HL.out; omega) hq)
        go_wp2
        go_ret
        exact ⟨by rw [HR.out, HQ.out]; simp, hA⟩
      · have HQ := Lib.hid hq
        go_wp2
        go_round
        case rel => exact ⟨i + 1, by omega, by go_num, Lib.hid fun k hk => by
                      by_cases hki : k < i
                      · exact hS.out k hki
                      · obtain rfl : k = i := by omega
                        exact HQ.out⟩
        case measure => simp [intOf]; omega
    · obtain rfl : i = n := by omega
      have HQ := Lib.hid (great_none (ss := ss) (by rw [HL.out]; exact hS.out))
      go_wp2
      go_ret
      exact ⟨by rw [HR.out, HQ.out]; simp [h1, h2], hA⟩

/-- What Place answers. -/
def placeC (nm : ByteArray) (ss : List ByteArray) (seats : Int) (rule : Nat) (s : ByteArray) : Int × Int :=
  if checkC nm ss seats rule = 0 then (if idxI ss s < 0 then (0, 6) else (idxI ss s, 0)) else (0, checkC nm ss seats rule)

end Go.Proofs.Ytlfempfhohejiaa
