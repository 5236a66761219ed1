/- The readings of the statement on names: their values. No program in sight but for made rows. -/
import Derived.Test.YtlfempfhohejiaaSheZ
namespace Go.Proofs.Ytlfempfhohejiaa
open Go.RowKit Go.Suf
set_option linter.unusedVariables false
set_option linter.unusedSimpArgs false

theorem good3 {rule : Nat} {p : PQ} {xs : List Nat} {l : List DQ} {r : RQ} (hf : fitsC 3 1 rule = true) (hx : decide (xs.length = boxesN [aS, bS, cS] rule ∧ (xs.any fun x => decide (100 < x)) = false) = true) (hp : mayP p = true) (hl : l.length ≤ xs.length) (hd : decB p xs l = true)
    (h : (⟨kindN rule, (bodyR (kindN rule) 3 rule p (markL p xs l xs.length)).1, (bodyR (kindN rule) 3 rule p (markL p xs l xs.length)).2, dbtL p xs l xs.length⟩ : RQ) = r) : readR xS abcS 1 rule p xs l = (r, 0) := by
  rw [readR_eq ⟨sheet3 rule xs hf hx, hp, hl, hd⟩]
  exact congrArg (fun r => (r, 0)) h
theorem bad3 {rule : Nat} {p : PQ} {xs : List Nat} {l : List DQ} {e : Int} (hf : fitsC 3 1 rule = true) (hx : decide (xs.length = boxesN [aS, bS, cS] rule ∧ (xs.any fun x => decide (100 < x)) = false) = true)
    (h : (mayP p = false ∧ e = 2) ∨ (mayP p = true ∧ xs.length < l.length ∧ e = 4) ∨ (mayP p = true ∧ ¬ xs.length < l.length ∧ decB p xs l = false ∧ e = 2)) : readR xS abcS 1 rule p xs l = (⟨0, [], 0, []⟩, e) := by
  unfold readR
  rw [if_pos (sheet3 rule xs hf hx)]
  rcases h with ⟨h1, rfl⟩ | ⟨h1, h2, rfl⟩ | ⟨h1, h2, h3, rfl⟩
  · rw [h1]; rfl
  · rw [if_pos h1, if_pos h2]; rfl
  · rw [if_pos h1, if_neg h2, h3]; rfl
theorem nm1 : readR xS abcS 1 9 ⟨20, 60, 0⟩ [60, 0, 0, 0, 0, 0, 0, 0, 60] [] = (⟨1, [0, 2], 0, []⟩, 0) := good3 (by kernel_rfl) (by kernel_rfl) (by kernel_rfl) (by decide) (by kernel_rfl) (by kernel_rfl)
theorem nm2 : readR xS abcS 1 9 ⟨20, 60, 1⟩ [60, 0, 0, 0, 0, 0, 0, 0, 60] [] = (⟨1, [0], 0, []⟩, 0) := good3 (by kernel_rfl) (by kernel_rfl) (by kernel_rfl) (by decide) (by kernel_rfl) (by kernel_rfl)
theorem nm3 : readR xS abcS 1 9 ⟨20, 60, 0⟩ [100, 0, 0, 0, 100, 0, 0, 100, 0] [] = (⟨1, [0], 1, []⟩, 0) := good3 (by kernel_rfl) (by kernel_rfl) (by kernel_rfl) (by decide) (by kernel_rfl) (by kernel_rfl)
theorem nm4 : readR xS abcS 1 9 ⟨20, 60, 0⟩ [100, 100, 0, 0, 0, 100, 0, 0, 0] [] = (⟨1, [0, 1], 0, []⟩, 0) := good3 (by kernel_rfl) (by kernel_rfl) (by kernel_rfl) (by decide) (by kernel_rfl) (by kernel_rfl)
theorem ng1 : readR xS abcS 1 9 ⟨0, 60, 0⟩ box3 [] = (⟨0, [], 0, []⟩, 2) := bad3 (by kernel_rfl) (by kernel_rfl) (.inl ⟨by kernel_rfl, rfl⟩)
theorem ng2 : readR xS abcS 1 9 ⟨61, 60, 0⟩ box3 [] = (⟨0, [], 0, []⟩, 2) := bad3 (by kernel_rfl) (by kernel_rfl) (.inl ⟨by kernel_rfl, rfl⟩)
theorem ng3 : readR xS abcS 1 9 ⟨1, 101, 0⟩ box3 [] = (⟨0, [], 0, []⟩, 2) := bad3 (by kernel_rfl) (by kernel_rfl) (.inl ⟨by kernel_rfl, rfl⟩)
theorem ng4 : readR xS abcS 1 9 ⟨1, 1, 11⟩ box3 [] = (⟨0, [], 0, []⟩, 2) := bad3 (by kernel_rfl) (by kernel_rfl) (.inl ⟨by kernel_rfl, rfl⟩)
theorem ng5 : readR xS abcS 1 9 ⟨20, 60, 0⟩ box3 [⟨0, true⟩] = (⟨0, [], 0, []⟩, 2) := bad3 (by kernel_rfl) (by kernel_rfl) (.inr (.inr ⟨by kernel_rfl, by decide, by kernel_rfl, rfl⟩))
theorem ng6 : readR xS abcS 1 9 ⟨20, 60, 0⟩ box3 [⟨8, false⟩, ⟨8, false⟩] = (⟨0, [], 0, []⟩, 2) := bad3 (by kernel_rfl) (by kernel_rfl) (.inr (.inr ⟨by kernel_rfl, by decide, by kernel_rfl, rfl⟩))
abbrev ten : List DQ := [⟨0, false⟩, ⟨0, false⟩, ⟨0, false⟩, ⟨0, false⟩, ⟨0, false⟩, ⟨0, false⟩, ⟨0, false⟩, ⟨0, false⟩, ⟨0, false⟩, ⟨0, false⟩]
theorem ng7 : readR xS abcS 1 9 ⟨20, 60, 0⟩ box3 ten = (⟨0, [], 0, []⟩, 4) := bad3 (by kernel_rfl) (by kernel_rfl) (.inr (.inl ⟨by kernel_rfl, by decide, rfl⟩))
theorem sheet_bad3 {rule : Nat} {xs : List Nat} (hf : fitsC 3 1 rule = true) (h : decide (xs.length = boxesN [aS, bS, cS] rule ∧ (xs.any fun x => decide (100 < x)) = false) = false) : sheetC xS abcS 1 rule xs = 8 := by
  unfold sheetC
  rw [if_pos (check3 rule hf), if_neg (of_decide_eq_false h)]
theorem ns1 : sheetC xS abcS 1 9 (zs 8) = 8 := sheet_bad3 (by kernel_rfl) (by kernel_rfl)
theorem ns2 : sheetC xS abcS 1 9 [0, 0, 0, 0, 101, 0, 0, 0, 0] = 8 := sheet_bad3 (by kernel_rfl) (by kernel_rfl)
theorem nk1 : readR xS abcS 1 1 ⟨20, 60, 0⟩ [0, 60, 0] [] = (⟨2, [1], 0, []⟩, 0) := good3 (by kernel_rfl) (by kernel_rfl) (by kernel_rfl) (by decide) (by kernel_rfl) (by kernel_rfl)
theorem nk2 : readR xS abcS 1 1 ⟨20, 60, 0⟩ [60, 60, 0] [] = (⟨2, [], 1, []⟩, 0) := good3 (by kernel_rfl) (by kernel_rfl) (by kernel_rfl) (by decide) (by kernel_rfl) (by kernel_rfl)
abbrev box33 : List Nat := (((zs 33).set 10 100).set 14 100).set 15 100
theorem nk3 : readR xS abcS 1 3 ⟨20, 60, 0⟩ box33 [] = (⟨3, [10, 0, 0], 1, []⟩, 0) := good3 (by kernel_rfl) (by kernel_rfl) (by kernel_rfl) (by decide) (by kernel_rfl) (by kernel_rfl)
abbrev fill33 : List Nat := fillI 3 3 33 [10, 0, 5] 3
theorem nf1 : fillC xS abcS 1 3 3 [10, 0, 5] = (fill33, 0) := by
  unfold fillC
  rw [if_pos (check3 3 (by kernel_rfl)), if_pos (show fitsB abcS 3 3 [10, 0, 5] = true by kernel_rfl)]
  rfl
theorem nf2 : fillC xS abcS 1 3 1 [1] = ([], 8) := by
  unfold fillC
  rw [if_pos (check3 3 (by kernel_rfl)), show fitsB abcS 3 1 [1] = false by kernel_rfl]
  rfl
theorem fill33_at : fill33.length = 33 ∧ nth fill33 10 = 100 ∧ nth fill33 11 = 100 ∧ nth fill33 27 = 100 ∧ nth fill33 0 = 0 := ⟨by kernel_rfl, by kernel_rfl, by kernel_rfl, by kernel_rfl, by kernel_rfl⟩
theorem made_ten : madeCells #[Value.int .i64 0, .bool false] 20 = (dflat ten).toArray := by kernel_rfl
/-- Ten decisions of zeros. -/
theorem run_ten (w : World) : (Instr.makeSlice 49 (.int .i64 10) (.int .i64 10)).run Try.prog w = .ok (.slice (some ⟨w.heap.size, 0, none⟩) 10 10) (w.alloc (.cells (dflat ten).toArray 58)) := by
  obtain ⟨i, hi, hz, h1, hby⟩ := infoD
  have h2 := run_make (P := Try.prog) w 49 58 i (.agg #[.int .i64 0, .bool false]) Try.underlying49 hi hz .i64 .i64 10 10 (by decide) (by decide) (by rw [hby]; decide) (by decide)
  rw [h2, h1, ← made_ten]
  rfl
theorem rdD_ten (w : World) : RdD (w.alloc (.cells (dflat ten).toArray 58)) (some ⟨w.heap.size, 0, none⟩) 10 10 ten :=
  rdD_row rfl (heap_alloc_new w _) (by decide) (by decide) (fun j u h => by rw [List.getElem?_toArray]; exact h) (by unfold okI; decide)
theorem rdD_two (w : World) : RdD (w.alloc (.cells #[.int .i64 8, .bool false, .int .i64 8, .bool false] 58)) (some ⟨w.heap.size, 0, none⟩) 2 2 [⟨8, false⟩, ⟨8, false⟩] :=
  rdD_row rfl (heap_alloc_new w _) (by decide) (by decide) (fun j u h => by rw [List.getElem?_toArray]; exact h) (by unfold okI; decide)

end Go.Proofs.Ytlfempfhohejiaa
