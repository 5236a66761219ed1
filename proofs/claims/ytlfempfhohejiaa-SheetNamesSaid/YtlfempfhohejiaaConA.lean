/- What the rules' table and the functions that read it compute. No condition. -/
import Derived.Test.YtlfempfhohejiaaRows
import Derived.Test.YtlfempfhohejiaaConPlain
set_option linter.unusedVariables false
set_option linter.unusedSimpArgs false
namespace Go.Proofs.Ytlfempfhohejiaa
open Go.RowKit Go.Suf

theorem below_set {B g : Nat} {w0 w : World} (hb : Below B w0 w) (hBg : B ≤ g) (cs : Array Value) : Below B w0 (w.setRow g cs) :=
  ⟨hb.os, hb.tape, hb.output, by rw [setRow_size]; exact hb.size, fun k hk => by rw [setRow_other _ _ _ _ (by omega)]; exact hb.block k hk⟩

theorem atTab : AT Try.prog 103 68 := ⟨⟨_, Try.underlying103, rfl⟩, by kernel_rfl⟩
theorem atRule : AT Try.prog 93 4 := ⟨⟨_, Try.underlying93, rfl⟩, by kernel_rfl⟩

set_option maxRecDepth 100000 in
set_option maxHeartbeats 1000000 in
theorem rules_any (w : World) : Calls Try.prog 62 #[] w fun e w' => e = .returned (.agg ruleTab.toArray) ∧ Below w.heap.size w w' := by
  go_enter Try.func62, Try.ntmps62
  go_wp2_with (refine wpList_store_new rfl 103 _ _ rfl atTab _ ruleTab.toArray _ rfl rfl ruleTab_length rfl ruleTab_one ?_)
  refine bodyPost_ret (results_cell_row rfl _ _ _ _ _ _ _ rfl (heap_alloc_new w _) Try.underlying103 rfl (by kernel_rfl)) rfl ?_
  exact ⟨rfl, (Below.refl _ w).alloc (Nat.le_refl _) _⟩

set_option maxRecDepth 100000 in
theorem of_any (w : World) (n : Nat) (hn : n < 256) : Calls Try.prog 46 #[.int .u8 (n : Nat)] w fun e w' => e = .returned (.agg #[.string (wordN n), .int .u8 (kindN n : Nat), .int .i64 (seatsN n : Nat), .bool (aloneN n)]) ∧ Below w.heap.size w w' := by
  rw [← ruleRow_eq]
  go_enter Try.func46, Try.ntmps46
  go_wp2_with fail
  refine (rules_any _).mono ?_
  rintro e w1 ⟨rfl, hb1⟩
  rw [World.size_alloc] at hb1
  have hr1 : w1.heap[w.heap.size]? = some (.cells #[Value.string ⟨#[]⟩, .int .u8 0, .int .i64 0, .bool false] 93 (0, 0)) := by
    rw [hb1.block _ (by omega), heap_alloc_new]
  have hs1 := hb1.size
  rw [World.size_alloc] at hs1
  have hr2 : ∀ o, (w1.alloc o).heap[w.heap.size]? = some (.cells #[Value.string ⟨#[]⟩, .int .u8 0, .int .i64 0, .bool false] 93 (0, 0)) := fun o => by rw [heap_alloc_old _ _ (by omega), hr1]
  have hb2 : ∀ o cs, Below w.heap.size w ((w1.alloc o).setRow w.heap.size cs) := fun o cs => below_set ((((Below.refl _ w).alloc (Nat.le_refl _) _).trans (hb1.mono (Nat.le_succ _))).alloc (by omega) o) (Nat.le_refl _) cs
  have hc : n < 17 → ∀ j u, (ruleRow n)[j]? = some u → (w1.alloc (.cells ruleTab.toArray 103)).cell? ⟨w1.heap.size, n * 4 + j, none⟩ = some u := by
    intro h j u hu
    have := ruleTab_cell n j h u hu
    simp only [World.cell?, heap_alloc_new, List.getElem?_toArray, Nat.mul_comm n 4, this]
    rfl
  by_cases h17 : n < 17
  · go_wp2_with first | refine wpList_store_new rfl 103 _ _ rfl atTab _ ruleTab.toArray _ rfl rfl ruleTab_length rfl ruleTab_one ?_ | refine wpList_load_agg rfl 93 _ rfl atRule rfl (ruleRow n) rfl (hc h17) ?_ | refine wpList_store_whole rfl 93 _ _ rfl atRule _ _ _ (hr2 _) rfl rfl rfl rfl (ruleRow_one n) ?_
    refine bodyPost_ret (results_cell_row rfl _ _ _ _ _ _ _ rfl (setRow_heap _ _ _ _ _ _ (hr2 _)) Try.underlying93 rfl (by kernel_rfl)) rfl ?_
    exact ⟨rfl, hb2 _ _⟩
  · have hz : ruleRow n = [Value.string ⟨#[]⟩, .int .u8 0, .int .i64 0, .bool false] := by
      match n, h17 with
      | n + 17, _ => rfl
    go_wp2_with first | refine wpList_store_new rfl 103 _ _ rfl atTab _ ruleTab.toArray _ rfl rfl ruleTab_length rfl ruleTab_one ?_ | refine wpList_store_whole rfl 93 _ _ rfl atRule _ _ _ (hr2 _) rfl rfl rfl rfl (ruleRow_one 17) ?_
    refine bodyPost_ret (results_cell_row rfl _ _ _ _ _ _ _ rfl (setRow_heap _ _ _ _ _ _ (hr2 _)) Try.underlying93 rfl (by kernel_rfl)) rfl ?_
    exact ⟨by rw [hz], hb2 _ _⟩

end Go.Proofs.Ytlfempfhohejiaa
