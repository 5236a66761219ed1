/- Add. No condition. -/
import Derived.Test.YtdaajeklnhbhjaaDoorMem
import Derived.Test.YtdaajeklnhbhjaaDoorNatLong
namespace Go.Proofs.YtdaajeklnhbhjaaDoor
open Go.RowKit Go.Suf
set_option linter.unusedVariables false
set_option linter.unusedSimpArgs false

/-- New limbs and an error. -/
def RetN (w : World) (r : List Nat × Int) : Ending → World → Prop := fun e w' =>
  ∃ a m c, e = .returned (.tuple #[.slice a m c, .int .i64 r.2]) ∧ Rd .u32 w' a m c r.1 ∧ Below w.heap.size w w'

def addC (xs ys : List Nat) : List Nat × Int := if bothC xs ys = 0 then fitC (val xs + val ys) else ([], bothC xs ys)

theorem bothC_ok {xs ys : List Nat} (h : bothC xs ys = 0) : chk xs = 0 ∧ chk ys = 0 := by
  unfold bothC at h
  split at h
  · exact ⟨‹_›, h⟩
  · exact absurd h ‹_›

set_option maxHeartbeats 1000000 in
theorem Add_any (w : World) {a b : Option Addr} {n m cap cap' : Nat} {xs ys : List Nat} (h : Rd .u32 w a n cap xs) (h' : Rd .u32 w b m cap' ys) :
    Calls Tryd.prog 50 #[.slice a n cap, .slice b m cap'] w (RetN w (addC xs ys)) := by
  obtain ⟨r, hr0⟩ : ∃ r, r = addC xs ys := ⟨_, rfl⟩
  rw [← hr0]
  have HR := Lib.hid hr0
  clear hr0
  go_enter Tryd.func50, Tryd.ntmps50
  go_wp2_with fail
  refine (both_any _ h h').mono ?_
  rintro e w1 ⟨rfl, rfl⟩
  by_cases hz : bothC xs ys = 0
  · obtain ⟨z1, z2⟩ := bothC_ok hz
    have l1 := (chk_ok.1 z1).1
    have l2 := (chk_ok.1 z2).1
    rw [h.len] at l1
    rw [h'.len] at l2
    have HZ := Lib.hid hz
    rw [hz]
    have HL := Lib.hid h.len
    have HL' := Lib.hid h'.len
    clear hz z1 z2
    have hle : ∃ q, n ≤ q ∧ m ≤ q ∧ q ≤ 96 ∧ (q = n ∨ (q = m ∧ n < m)) := by
      rcases Nat.lt_or_ge n m with h | h
      · exact ⟨m, Nat.le_of_lt h, Nat.le_refl _, l2, .inr ⟨rfl, h⟩⟩
      · exact ⟨n, Nat.le_refl _, h, l1, .inl rfl⟩
    obtain ⟨q, q1, q2, q3, q4⟩ := hle
    have mk : ∀ w, (Instr.makeSlice 22 (.int .i64 ((q : Int) + 1)) (.int .i64 ((q : Int) + 1))).run Tryd.prog w = .ok (.slice (some ⟨w.heap.size, 0, none⟩) (q + 1) (q + 1)) (w.alloc (.cells (zeros .u32 (q + 1)) 47)) := fun w => run_zeros etN (q + 1) (by omega) (by omega) w
    have HB0 := Blk.made .u32 47 w (q + 1)
    rcases q4 with rfl | ⟨rfl, q5⟩
    all_goals
      go_wp2_with fail
      go_loopw [8, 25] (fun c i wr => ∃ k cc out, k ≤ q + 1 ∧ i = .int .i64 (k : Nat) ∧ c = .int .u32 (cc : Nat) ∧ cc ≤ 1 ∧ out.length = q + 1 ∧ Hid (Sum xs ys out k cc) ∧ Blk .u32 47 wr w.heap.size out ∧ Below w.heap.size w wr) (fun _ i _ => q + 1 - (intOf i).toNat)
      case atStart => exact ⟨0, 0, zs (q + 1), Nat.zero_le _, rfl, rfl, by decide, zs_length _, Lib.hid (Sum.start _ _ _ HB0.bd), HB0, (Below.refl _ _).alloc (Nat.le_refl _) _⟩
      case round =>
        obtain ⟨k, cc, out, hk, rfl, rfl, hcc, hlen, hS, hB, hb⟩ := hrel
        have hrd := h.below hb
        have hrd' := h'.below hb
        by_cases hlt : k < q + 1
        · have hcell := hB.cell k (by omega)
          have hfree := hB.free k
          have hsm : small32 xs := h.bd
          have hsm' : small32 ys := h'.bd
          have b1 := small32_nth hsm k
          have b2 := small32_nth hsm' k
          have HLn := Lib.hid hlen
          have HS := Lib.hid (hS.out.step hsm hsm' (by omega : k < out.length))
          have HBn := Lib.hid (hB.set k ((nth xs k + nth ys k + cc) % 4294967296) (Nat.mod_lt _ (by decide)))
          have hb2 := hb.setCell (p := ⟨w.heap.size, k, none⟩) (Nat.le_refl _) (.int .u32 (((nth xs k + nth ys k + cc) % 4294967296 : Nat) : Int))
          have hc2 := Lib.hid (show (nth xs k + nth ys k + cc) / 4294967296 ≤ 1 by omega)
          clear hlen hsm hsm'
          go_wp2_with fail
          refine (limb_any _ hrd k (by omega)).mono ?_
          rintro e w1 ⟨rfl, rfl⟩
          go_wp2_with fail
          refine (limb_any _ hrd' k (by omega)).mono ?_
          rintro e w1 ⟨rfl, rfl⟩
          go_wp2_with fail
          refine (Add32_any _ _ _ _ b1 b2 hcc).mono ?_
          rintro e w1 ⟨rfl, rfl⟩
          go_wp2_with fail
          go_roundw
          case rel => exact ⟨k + 1, _, _, by omega, by go_num, rfl, hc2.out, by have := HLn.out; simp [this], HS, HBn.out, hb2⟩
          case measure => simp [intOf]; omega
        · obtain rfl : k = q + 1 := by omega
          have hv := hS.out.done h.bd h'.bd hlen (by have := HL.out; omega) (by have := HL'.out; omega)
          have hR := hB.rd (q + 1) hlen (by unfold maxLen; omega)
          have e1 := Lib.hid (show r = fitC (val out) by rw [HR.out, addC, if_pos HZ.out, hv])
          clear hv hlen
          go_wp2_with fail
          refine (fits_any _ hR).mono ?_
          rintro e w1 ⟨a', m', c', rfl, hr', rfl⟩
          go_wp2_with fail
          go_ret2
          rw [e1.out]
          exact ⟨a', m', c', rfl, hr', hb⟩
  · have e1 := Lib.hid (show r = ([], bothC xs ys) by rw [HR.out, addC, if_neg hz])
    go_wp2_with fail
    go_ret2
    rw [e1.out]
    exact ⟨none, 0, 0, rfl, Rd.nil _ _, Below.refl _ _⟩

end Go.Proofs.YtdaajeklnhbhjaaDoor
