/- The chapter's example holds. No condition. -/
import Derived.Test.YtnkbkcmphgejkaaConI
set_option linter.unusedVariables false
set_option linter.unusedSimpArgs false
namespace Go.Proofs.Ytnkbkcmphgejkaa
open Go.RowKit Go.Suf

def mayorS : ByteArray := ⟨#[109, 97, 121, 111, 114]⟩
def annS : ByteArray := ⟨#[97, 110, 110]⟩
def bobS : ByteArray := ⟨#[98, 111, 98]⟩

theorem atCon : AT Try.prog 40 4 := ⟨⟨_, Try.underlying40, rfl⟩, by kernel_rfl⟩

theorem con_one (s : ByteArray) (a : Option Addr) (n c : Nat) (i j : Int) : ∀ u ∈ (#[.string s, .slice a n c, .int .i64 i, .int .u8 j] : Array Value).toList, u.oneCell' = true := by
  intro u hu
  simp at hu
  rcases hu with rfl | rfl | rfl | rfl <;> rfl

set_option maxRecDepth 100000 in
theorem mayor_any (w : World) : Calls Try.prog 33 #[] w fun e w' => ∃ a, e = .returned (.agg #[.string mayorS, .slice a 2 2, .int .i64 1, .int .u8 7]) ∧ RdS w' a 2 2 [annS, bobS] ∧ Below w.heap.size w w' := by
  have hr : (w.alloc (.cells #[Value.string ⟨#[]⟩, .slice none 0 0, .int .i64 0, .int .u8 0] 40)).heap[w.heap.size]? = some (.cells #[Value.string ⟨#[]⟩, .slice none 0 0, .int .i64 0, .int .u8 0] 40 (0, 0)) := heap_alloc_new _ _
  have hr2 : ∀ o, ((w.alloc (.cells #[Value.string ⟨#[]⟩, .slice none 0 0, .int .i64 0, .int .u8 0] 40)).alloc o).heap[w.heap.size]? = some (.cells #[Value.string ⟨#[]⟩, .slice none 0 0, .int .i64 0, .int .u8 0] 40 (0, 0)) := fun o => by rw [heap_alloc_old _ _ (by rw [World.size_alloc]; omega), hr]
  have hb : ∀ o cs, Below w.heap.size w (((w.alloc (.cells #[Value.string ⟨#[]⟩, .slice none 0 0, .int .i64 0, .int .u8 0] 40)).alloc o).setRow w.heap.size cs) := fun o cs => below_set (((Below.refl _ w).alloc (Nat.le_refl _) _).alloc (by rw [World.size_alloc]; omega) o) (Nat.le_refl _) cs
  have hrd : RdS ((w.alloc (.cells #[Value.string ⟨#[]⟩, .slice none 0 0, .int .i64 0, .int .u8 0] 40)).alloc (.cells #[.string annS, .string bobS] 9)) (some ⟨w.heap.size + 1, 0, none⟩) 2 2 [annS, bobS] := by
    have := rdS_lit (w.alloc (.cells #[Value.string ⟨#[]⟩, .slice none 0 0, .int .i64 0, .int .u8 0] 40)) [annS, bobS] 9 (by unfold maxLen; simp)
    rw [World.size_alloc] at this
    exact this
  have hrd2 : ∀ cs, RdS (((w.alloc (.cells #[Value.string ⟨#[]⟩, .slice none 0 0, .int .i64 0, .int .u8 0] 40)).alloc (.cells #[.string annS, .string bobS] 9)).setRow w.heap.size cs) (some ⟨w.heap.size + 1, 0, none⟩) 2 2 [annS, bobS] := fun cs => by
    refine ⟨hrd.len, hrd.sl.le, hrd.sl.max, hrd.sl.nil, fun i c hc => ?_, hrd.sl.one⟩
    obtain ⟨b, off, e, hw⟩ := hrd.sl.cell i c hc
    refine ⟨b, off, e, ?_⟩
    rw [cell_setRow_other _ _ _ _ (by simp at e; simp; omega)]
    exact hw
  have HRD := Lib.hid hrd2
  have HB := Lib.hid hb
  clear hrd hr hrd2 hb
  go_enter Try.func33, Try.ntmps33
  go_wp2_with (refine wpList_store_whole rfl 40 _ _ rfl atCon _ _ _ (hr2 _) rfl rfl rfl rfl (con_one _ _ _ _ _ _) ?_)
  refine bodyPost_ret (results_cell_row rfl _ _ _ _ _ _ _ rfl (setRow_heap _ _ _ _ _ _ (hr2 _)) Try.underlying40 rfl (by kernel_rfl)) rfl ?_
  exact ⟨_, rfl, HRD.out _, HB.out _ _⟩

theorem bytes_mayor : bytesC mayorS [annS, bobS] 1 7 = ([0, 5, 109, 97, 121, 111, 114, 0, 2, 1, 7, 0, 3, 97, 110, 110, 0, 3, 98, 111, 98], 0) := by
  have h2 : twiceL [annS, bobS] = false := twice_none fun i hi => by
    obtain rfl | rfl : i = 0 ∨ i = 1 := by simp at hi; omega
    · rfl
    · show (eqS bobS annS || false) = false
      cases h : eqS bobS annS
      · rfl
      · have := congrArg (fun b : ByteArray => b.data.toList) (eqS_iff.1 h)
        simp [annS, bobS] at this
  have h0 : checkC mayorS [annS, bobS] 1 7 = 0 := by
    unfold checkC
    rw [h2, show oddL [mayorS] = false from by kernel_rfl, show oddL [annS, bobS] = false from by kernel_rfl, show fitsC [annS, bobS].length 1 7 = true from by kernel_rfl]
    simp
  have h1 : joinX [] (fieldsC mayorS [annS, bobS] 1 7) = ([0, 5, 109, 97, 121, 111, 114, 0, 2, 1, 7, 0, 3, 97, 110, 110, 0, 3, 98, 111, 98], 0) := by kernel_rfl
  unfold bytesC
  rw [if_pos h0]
  exact h1

set_option maxRecDepth 100000 in
set_option maxHeartbeats 1000000 in
theorem alive_any (w : World) : Calls Try.prog 27 #[] w fun e w' => e = .returned (.bool true) ∧ Below w.heap.size w w' := by
  go_enter Try.func27, Try.ntmps27
  go_wp2_with fail
  refine (Kind_any _ 9 (by omega)).mono ?_
  rintro e w1 ⟨rfl, hb1⟩
  go_wp2_with fail
  refine (Most_any _ 14 (by omega) 5 (by omega) (by omega)).mono ?_
  rintro e w2 ⟨rfl, hb2⟩
  have hB2 := hb1.trans (hb2.mono hb1.size)
  go_wp2_with fail
  refine (mayor_any _).mono ?_
  rintro e w3 ⟨a3, rfl, hr3, hb3⟩
  have hB3 := hB2.trans (hb3.mono hB2.size)
  go_wp2_with fail
  refine (Bytes_any _ mayorS hr3 1 (by omega) (by omega) 7 (by omega)).mono ?_
  rintro e w4 ⟨a4, n4, c4, rfl, ho4, hb4⟩
  rw [bytes_mayor] at ho4 ⊢
  have hB4 := hB3.trans (hb4.mono hB3.size)
  have hcv := convB ho4.rd
  have hk : kindC 9 = (1, 0) := rfl
  have hm : mostC 14 5 = (1, 0) := rfl
  rw [hk, hm]
  go_wp2_with fail
  go_ret
  refine ⟨?_, hB4⟩
  refine congrArg (fun b => Ending.returned (Value.bool b)) (?_ : ((strB [0, 5, 109, 97, 121, 111, 114, 0, 2, 1, 7, 0, 3, 97, 110, 110, 0, 3, 98, 111, 98]).toList == _) = true)
  rw [strB_toList]
  rfl

end Go.Proofs.Ytnkbkcmphgejkaa
