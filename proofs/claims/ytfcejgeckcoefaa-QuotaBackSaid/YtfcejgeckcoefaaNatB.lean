/- both, fits, Add32. No condition. -/
import Derived.Test.YtfcejgeckcoefaaNatA
namespace Go.Proofs.Ytfcejgeckcoefaa
open Go.RowKit Go.Suf
set_option linter.unusedVariables false
set_option linter.unusedSimpArgs false

def bothC (xs ys : List Nat) : Int := if chk xs = 0 then chk ys else chk xs
/-- A number that fits, or the error. -/
def fitC (n : Nat) : List Nat × Int := if 96 < (limbs n).length then ([], 30) else (limbs n, 0)

theorem both_any (w : World) {a b : Option Addr} {n m cap cap' : Nat} {xs ys : List Nat} (h : Rd .u32 w a n cap xs) (h' : Rd .u32 w b m cap' ys) :
    Calls Try.prog 81 #[.slice a n cap, .slice b m cap'] w fun e w' => e = .returned (.int .i64 (bothC xs ys)) ∧ w = w' := by
  obtain ⟨r, hr0⟩ : ∃ r, r = bothC xs ys := ⟨_, rfl⟩
  rw [← hr0]
  have HR := Lib.hid hr0
  clear hr0
  go_enter Try.func81, Try.ntmps81
  go_wp2_with fail
  refine (Check_any _ h).mono ?_
  rintro e w1 ⟨rfl, rfl⟩
  by_cases hz : chk xs = 0
  · have HZ := Lib.hid hz
    rw [hz]
    clear hz
    go_wp2_with fail
    refine (Check_any _ h').mono ?_
    rintro e w1 ⟨rfl, rfl⟩
    go_wp2_with fail
    go_ret
    exact ⟨by rw [HR.out, bothC, if_pos HZ.out]; rfl, rfl⟩
  · go_wp2_with fail
    go_ret
    exact ⟨by rw [HR.out, bothC, if_neg hz]; rfl, rfl⟩

theorem fits_any (w : World) {a : Option Addr} {n cap : Nat} {xs : List Nat} (h : Rd .u32 w a n cap xs) :
    Calls Try.prog 91 #[.slice a n cap] w fun e w' => ∃ a' m c, e = .returned (.tuple #[.slice a' m c, .int .i64 (fitC (val xs)).2]) ∧ Rd .u32 w a' m c (fitC (val xs)).1 ∧ w = w' := by
  obtain ⟨r, hr0⟩ : ∃ r, r = fitC (val xs) := ⟨_, rfl⟩
  rw [← hr0]
  have HR := Lib.hid hr0
  clear hr0
  go_enter Try.func91, Try.ntmps91
  go_wp2_with fail
  refine (trim_any _ h).mono ?_
  rintro e w1 ⟨a', m, rfl, hr, rfl⟩
  have hm := hr.lt
  have HL := Lib.hid hr.len
  by_cases hg : 96 < m
  · have e1 := Lib.hid (show r = ([], 30) by rw [HR.out, fitC, HL.out, if_pos hg])
    go_wp2_with fail
    go_ret2
    rw [e1.out]
    exact ⟨none, 0, 0, rfl, Rd.nil _ _, rfl⟩
  · have e1 := Lib.hid (show r = (limbs (val xs), 0) by rw [HR.out, fitC, HL.out, if_neg hg])
    go_wp2_with fail
    go_ret2
    rw [e1.out]
    exact ⟨a', m, m, rfl, hr, rfl⟩

theorem Add32_any (w : World) (x y c : Nat) (hx : x < 4294967296) (hy : y < 4294967296) (hc : c ≤ 1) :
    Calls Try.prog 103 #[.int .u32 (x : Nat), .int .u32 (y : Nat), .int .u32 (c : Nat)] w fun e w' => e = .returned (.tuple #[.int .u32 (((x + y + c) % 4294967296 : Nat) : Int), .int .u32 (((x + y + c) / 4294967296 : Nat) : Int)]) ∧ w = w' := by
  go_enter Try.func103, Try.ntmps103
  go_wp2_with fail
  go_ret2
  refine ⟨?_, rfl⟩
  rw [show (((x + y + c) % 4294967296 : Nat) : Int) = ((x : Int) + y + c) % 4294967296 from by omega, show (((x + y + c) / 4294967296 : Nat) : Int) = ((x : Int) + y + c) / 4294967296 from by omega]
  rfl

end Go.Proofs.Ytfcejgeckcoefaa
