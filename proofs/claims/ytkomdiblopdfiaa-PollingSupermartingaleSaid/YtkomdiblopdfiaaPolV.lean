/- Parts of a slice of integers. -/
import Derived.Test.YtkomdiblopdfiaaPolU
namespace Go.Suf
open Go.RowKit
set_option linter.unusedVariables false
set_option linter.unusedSimpArgs false

theorem sliced_rdI {w : World} {a : Option Addr} {n cap : Nat} {xs : List Int} (h : RdI w a n cap xs) (l j m : Nat) (hlj : l ≤ j) (hj : j ≤ n) (hjm : j ≤ m) (hm : m ≤ cap) :
    ∃ a', sliced a l j m 1 = .slice a' (j - l) (m - l) ∧ RdI w a' (j - l) (m - l) ((xs.take j).drop l) := by
  have hl := h.len
  have hmax := h.sl.max
  refine ⟨_, rfl, ?_⟩
  by_cases he : l < j
  · obtain ⟨b, off, rfl, _⟩ := h.addr (by omega)
    rw [if_neg (by omega)]
    have : (⟨b, off, none⟩ : Addr).add (l * 1) = ⟨b, off + l, none⟩ := by unfold Addr.add; split <;> simp_all
    simp only [Option.map_some, this]
    refine ⟨by simp; omega, ?_, fun x hx => h.bd x (List.mem_of_mem_take (List.mem_of_mem_drop hx))⟩
    have hp := h.sl.part l j m hlj (by rw [intsV_size]; omega) hjm hm (off + l) (fun _ => rfl)
    have e : intsV ((xs.take j).drop l) = ((intsV xs).take j).drop l := by simp [intsV, List.map_take, List.map_drop]
    rw [e]
    exact hp
  · obtain rfl : l = j := by omega
    have e : (xs.take l).drop l = [] := List.drop_eq_nil_of_le (by simp; omega)
    rw [e]
    refine ⟨by simp, Sl.empty _ _ _ (by omega) (fun hn => ?_), fun x hx => by simp at hx⟩
    have : a = none := by
      split at hn
      · exact hn
      · simpa using hn
    have := h.sl.nil this
    omega

theorem run_uptoI {P : Program} {w : World} {a1 : Option Addr} {n cap : Nat} {xs : List Int} {t e : TypeId} {z : Value} {bs : Nat} (T : ET P t e z bs) (h : RdI w a1 n cap xs) (j : Nat) (hj : j ≤ n) :
    ∃ a', RdI w a' j cap (xs.take j) ∧ (∀ W, (Instr.sliceAt t (.slice a1 n cap) none (some (.int .i64 (j : Int))) none).run P W = .ok (.slice a' j cap) W) ∧
      (∀ W, (Instr.slice t (.slice a1 n cap) none (some (.int .i64 (j : Int))) none).run P W = .ok (.slice a' j cap) W) := by
  have ht' : P.underlying t = some (.slice (P.elem t)) := by rw [elem_of T]; exact T.ht
  have hle := h.le
  obtain ⟨a', e1, hr⟩ := sliced_rdI h 0 j cap (Nat.zero_le _) hj (by omega) (Nat.le_refl _)
  simp only [Nat.sub_zero, List.drop_zero] at e1 hr
  have hrun : ∀ W, (Instr.slice t (.slice a1 n cap) none (some (.int .i64 (j : Int))) none).run P W = .ok (.slice a' j cap) W := by
    intro W
    rw [run_slice_h W t a1 n cap ht' .i64 j (by omega) (by omega), elem_of T, run_sizeOf1 T]
    simp [e1]
  exact ⟨a', hr, fun W => by rw [run_sliceAt_slice W t _ _ _ _ ht']; exact hrun W, hrun⟩

theorem run_fromI {P : Program} {w : World} {a1 : Option Addr} {n cap : Nat} {xs : List Int} {t e : TypeId} {z : Value} {bs : Nat} (T : ET P t e z bs) (h : RdI w a1 n cap xs) (i : Nat) (hi : i ≤ n) :
    ∃ a', RdI w a' (n - i) (cap - i) (xs.drop i) ∧ (∀ W, (Instr.sliceAt t (.slice a1 n cap) (some (.int .i64 (i : Int))) none none).run P W = .ok (.slice a' (n - i) (cap - i)) W) ∧
      (∀ W, (Instr.slice t (.slice a1 n cap) (some (.int .i64 (i : Int))) none none).run P W = .ok (.slice a' (n - i) (cap - i)) W) := by
  have ht' : P.underlying t = some (.slice (P.elem t)) := by rw [elem_of T]; exact T.ht
  have hle := h.le
  obtain ⟨a', e1, hr⟩ := sliced_rdI h i n cap hi (Nat.le_refl _) (by omega) (Nat.le_refl _)
  rw [List.take_of_length_le (by have := h.len; omega)] at hr
  have hrun : ∀ W, (Instr.slice t (.slice a1 n cap) (some (.int .i64 (i : Int))) none none).run P W = .ok (.slice a' (n - i) (cap - i)) W := by
    intro W
    rw [run_slice_l W t a1 n cap ht' .i64 i (by omega) (by omega), elem_of T, run_sizeOf1 T]
    simp [e1]
  exact ⟨a', hr, fun W => by rw [run_sliceAt_slice W t _ _ _ _ ht']; exact hrun W, hrun⟩
end Go.Suf
namespace Go.Proofs.Ytkomdiblopdfiaa
open Go.RowKit Go.Suf
set_option linter.unusedVariables false
set_option linter.unusedSimpArgs false

theorem cell_row {w : World} {k i g : Nat} {v : Value} {cs : Array Value} (h : w.cell? ⟨k, i, none⟩ = some v) (hne : k ≠ g) : (w.setRow g cs).cell? ⟨k, i, none⟩ = some v := by
  simp only [World.cell?, setRow_other _ _ _ _ hne] at *
  exact h

theorem etI : ET Try.prog 46 3 (.int .i64 0) 8 := ⟨Try.underlying46, by kernel_rfl, rfl⟩

end Go.Proofs.Ytkomdiblopdfiaa
