/- form, Read. No condition. -/
import Derived.Test.YtfcejgeckcoefaaNatK
namespace Go.Proofs.Ytfcejgeckcoefaa
open Go.RowKit Go.Suf
set_option linter.unusedVariables false
set_option linter.unusedSimpArgs false

/-- The bytes of a string as numbers. -/
def bytesOf (s : ByteArray) : List Nat := s.data.toList.map UInt8.toNat

theorem strB_bytesOf (s : ByteArray) : strB (bytesOf s) = s := by
  unfold strB bytesOf
  have : (s.data.toList.map UInt8.toNat).map UInt8.ofNat = s.data.toList := by
    rw [List.map_map]
    conv => rhs; rw [← List.map_id s.data.toList]
    apply List.map_congr_left
    intro x _
    simp
  rw [this]

theorem bytesOf_bd (s : ByteArray) : ∀ x ∈ bytesOf s, x < 256 := by
  intro x hx
  simp only [bytesOf, List.mem_map] at hx
  obtain ⟨c, _, rfl⟩ := hx
  exact c.toNat_lt

theorem bytesOf_length (s : ByteArray) : (bytesOf s).length = s.size := by simp [bytesOf]

theorem strB_size (xs : List Nat) : (strB xs).size = xs.length := by simp [strB, ByteArray.size]

theorem strB_at {xs : List Nat} (hb : ∀ x ∈ xs, x < 256) (k : Nat) (h : k < (strB xs).size) : ((strB xs)[k]'h).toNat = nth xs k := by
  have hk : k < xs.length := by rwa [strB_size] at h
  have e : (strB xs)[k]'h = UInt8.ofNat (xs[k]) := by
    show (strB xs).data[k]'_ = _
    simp [strB]
  rw [e, nth_eq hk]
  have := hb _ (List.getElem_mem hk)
  simp [UInt8.toNat_ofNat]
  omega

theorem formB_bad {xs : List Nat} {k : Nat} (hk : k < xs.length) (h : nth xs k < 48 ∨ 57 < nth xs k) : formB xs = false := by
  unfold formB
  rw [decide_eq_false_iff_not]
  rintro ⟨_, _, h3⟩
  have := h3 (nth xs k) (by rw [nth_eq hk]; exact List.getElem_mem _)
  omega

theorem formB_good {xs : List Nat} (h1 : xs ≠ []) (h2 : nth xs 0 = 48 → xs.length ≤ 1) (h3 : ∀ k, k < xs.length → 48 ≤ nth xs k ∧ nth xs k ≤ 57) : formB xs = true := by
  unfold formB
  rw [decide_eq_true_eq]
  refine ⟨h1, h2, fun x hx => ?_⟩
  obtain ⟨i, hi, rfl⟩ := List.getElem_of_mem hx
  rw [← nth_eq hi]
  exact h3 i hi

def readC (xs : List Nat) : List Nat × Int := if formB xs = true then fitC (dread xs 0) else ([], 11)

theorem formB_dig {xs : List Nat} (h : formB xs = true) {k : Nat} (hk : k < xs.length) : 48 ≤ nth xs k ∧ nth xs k ≤ 57 := by
  unfold formB at h
  rw [decide_eq_true_eq] at h
  exact h.2.2 _ (by rw [nth_eq hk]; exact List.getElem_mem _)

end Go.Proofs.Ytfcejgeckcoefaa
