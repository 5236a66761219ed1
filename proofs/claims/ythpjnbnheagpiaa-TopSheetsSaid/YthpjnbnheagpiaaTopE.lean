/- The order of rows of integers; the place of a row of marks in a profile (binary search). Conditions: none but sizes. -/
import Derived.Test.YthpjnbnheagpiaaTopC
namespace Go.Proofs.Ythpjnbnheagpiaa
open Go.RowKit Go.Suf
set_option linter.unusedVariables false
set_option linter.unusedSimpArgs false

theorem cmpZ_zero {x y : Int} : cmpZ x y = 0 ↔ x = y := by
  unfold cmpZ
  split
  · constructor <;> intro h <;> omega
  · split
    · constructor <;> intro h <;> omega
    · constructor <;> intro h <;> omega
theorem cmpZ_lt {x y : Int} : cmpZ x y < 0 ↔ x < y := by
  unfold cmpZ
  split
  · constructor <;> intro h <;> omega
  · split
    · constructor <;> intro h <;> omega
    · constructor <;> intro h <;> omega
theorem lexZ_refl : ∀ xs : List Int, lexZ xs xs = 0
  | [] => rfl
  | x :: xs => by rw [lexZ, if_pos (cmpZ_zero.2 rfl)]; exact lexZ_refl xs
theorem lexZ_zero : ∀ {xs ys : List Int}, lexZ xs ys = 0 → xs = ys
  | [], [], _ => rfl
  | [], _ :: _, h => by cases h
  | _ :: _, [], h => by cases h
  | x :: xs, y :: ys, h => by
    rw [lexZ] at h
    by_cases e : cmpZ x y = 0
    · rw [if_pos e] at h
      rw [cmpZ_zero.1 e, lexZ_zero h]
    · rw [if_neg e] at h
      exact absurd h e
/-- Ahead in the order. -/
def ltZ (xs ys : List Int) : Bool := decide (lexZ xs ys < 0)
theorem ltZ_cons (x y : Int) (xs ys : List Int) : ltZ (x :: xs) (y :: ys) = (decide (x < y) || (decide (x = y) && ltZ xs ys)) := by
  unfold ltZ
  rw [lexZ]
  by_cases e : x = y
  · subst e
    rw [if_pos (cmpZ_zero.2 rfl)]
    simp
  · rw [if_neg (fun h => e (cmpZ_zero.1 h))]
    simp [e, cmpZ_lt]
theorem ltZ_irrefl (xs : List Int) : ltZ xs xs = false := by unfold ltZ; rw [lexZ_refl]; rfl
theorem ltZ_trans : ∀ {xs ys zs : List Int}, ltZ xs ys = true → ltZ ys zs = true → ltZ xs zs = true
  | [], [], _, h, _ => by cases h
  | _, _ :: _, [], _, h => by cases h
  | _ :: _, [], _, h, _ => by cases h
  | [], _ :: _, _ :: _, _, _ => rfl
  | x :: xs, y :: ys, z :: zs, h1, h2 => by
    rw [ltZ_cons] at h1 h2 ⊢
    simp only [Bool.or_eq_true, Bool.and_eq_true, decide_eq_true_eq] at h1 h2 ⊢
    rcases h1 with h1 | ⟨h1, h3⟩ <;> rcases h2 with h2 | ⟨h2, h4⟩
    · exact .inl (by omega)
    · exact .inl (by omega)
    · exact .inl (by omega)
    · exact .inr ⟨by omega, ltZ_trans h3 h4⟩
theorem ltZ_total : ∀ (xs ys : List Int), ltZ xs ys = true ∨ xs = ys ∨ ltZ ys xs = true
  | [], [] => .inr (.inl rfl)
  | [], _ :: _ => .inl rfl
  | _ :: _, [] => .inr (.inr rfl)
  | x :: xs, y :: ys => by
    rw [ltZ_cons, ltZ_cons]
    simp only [Bool.or_eq_true, Bool.and_eq_true, decide_eq_true_eq]
    by_cases h1 : x < y
    · exact .inl (.inl h1)
    by_cases h2 : y < x
    · exact .inr (.inr (.inl h2))
    obtain rfl : x = y := by omega
    rcases ltZ_total xs ys with h | h | h
    · exact .inl (.inr ⟨rfl, h⟩)
    · exact .inr (.inl (by rw [h]))
    · exact .inr (.inr (.inr ⟨rfl, h⟩))
/-- The i-th row. -/
def rth (l : List RwQ) (i : Nat) : RwQ := l.getD i ⟨[], 0⟩
theorem rth_some {l : List RwQ} {i : Nat} (h : i < l.length) : l[i]? = some (rth l i) := by simp [rth, h]
/-- The rows rise. -/
def RiseR (l : List RwQ) : Prop := ∀ j k, j < k → k < l.length → ltZ (rth l j).ms (rth l k).ms = true
def posR (l : List RwQ) (m : List Int) : Nat := ((List.range l.length).find? fun i => !ltZ (rth l i).ms m).getD l.length
def hasR (l : List RwQ) (m : List Int) : Bool := decide (posR l m < l.length) && decide ((rth l (posR l m)).ms = m)
theorem posR_eq {l : List RwQ} {m : List Int} {i : Nat} (hi : i ≤ l.length) (h1 : ∀ k, k < i → ltZ (rth l k).ms m = true) (h2 : i < l.length → ltZ (rth l i).ms m = false) : posR l m = i := by
  unfold posR
  by_cases hlt : i < l.length
  · have e : ((List.range l.length).find? fun i => !ltZ (rth l i).ms m) = some i := by
      rw [List.find?_eq_some_iff_getElem]
      exact ⟨by simp [h2 hlt], i, by simpa using hlt, by simp, fun k hk => by simp [h1 k hk]⟩
    rw [e]
    rfl
  · rw [List.find?_eq_none.2 (fun k hk => by have := List.mem_range.1 hk; simp [h1 k (by omega)])]
    simp
    omega
theorem placeF_any (w : World) {a : Option Addr} {n c : Nat} {xs : List Int} (h : RdI w a n c xs) (many : Int) {a' : Option Addr} {n' c' : Nat} {m : List Int} (h' : RdI w a' n' c' m) :
    Calls Try.prog 89 #[.agg #[.slice a n c, .int .i64 many], .slice a' n' c'] w fun e w' => e = .returned (.int .i64 (lexZ xs m)) ∧ Below w.heap.size w w' := by
  have R := PRow.new 92 w #[.slice a n c, .int .i64 many]
  have hB := R.below
  have k0 := R.cell 0 _ rfl
  have k1 := R.cell 1 _ rfl
  have h1 := h.below hB
  have h2 := h'.below hB
  clear R
  go_enter Try.func89, Try.ntmps89
  go_wp2_with fail
  refine (compareI_any _ h1 h2).mono ?_
  rintro e w1 ⟨rfl, hw⟩
  subst hw
  go_wp2_with fail
  go_ret
  exact ⟨rfl, hB⟩
set_option maxHeartbeats 4000000 in
theorem searchR_any (w : World) {a : Option Addr} {n cap : Nat} {l : List RwQ} (h : RdR w a n cap l) (hn : n ≤ 1099511627776) (hR : RiseR l) {a_m : Option Addr} {n_m c_m : Nat} {m : List Int} (hm : RdI w a_m n_m c_m m) :
    Calls Try.prog 88 #[.slice a n cap, .slice a_m n_m c_m, .func (.func 89) #[] #[]] w fun e w' =>
      e = .returned (.tuple #[.int .i64 (posR l m : Nat), .bool (hasR l m)]) ∧ posR l m ≤ n ∧ Below w.heap.size w w' := by
  have HL := Lib.hid h.len
  have HR := Lib.hid hR
  go_enter Try.func88, Try.ntmps88
  go_wp2_with fail
  go_loopw [9, 10] (fun v9 v10 wr => ∃ lo hi : Nat, v9 = .int .i64 (lo : Nat) ∧ v10 = .int .i64 (hi : Nat) ∧ lo ≤ hi ∧ hi ≤ n ∧ Below w.heap.size w wr ∧ Hid ((∀ k, k < lo → ltZ (rth l k).ms m = true) ∧ (∀ k, hi ≤ k → k < n → ltZ (rth l k).ms m = false))) (fun v9 v10 _ => (intOf v10).toNat - (intOf v9).toNat)
  case atStart => exact ⟨0, n, rfl, rfl, Nat.zero_le _, Nat.le_refl _, Below.refl _ _, Lib.hid ⟨fun k hk => absurd hk (by omega), fun k h1 h2 => absurd h2 (by omega)⟩⟩
  case round =>
    rename_i wr _
    obtain ⟨lo, hi, rfl, rfl, hlh, hhn, hb, hI⟩ := hrel
    by_cases hlt : lo < hi
    case pos =>
      obtain ⟨b, off, rfl, hc⟩ := (h.below rowE_lasts hb).addr (by omega)
      obtain ⟨v, hv⟩ : ∃ v, rth l ((lo + hi) / 2) = v := ⟨_, rfl⟩
      have hvs : l[(lo + hi) / 2]? = some v := by rw [← hv]; exact rth_some (by rw [HL.out]; omega)
      obtain ⟨u1, v1, k0, k1, rfl, -, a_v, n_v, d_v, rfl, hrv⟩ := hc ((lo + hi) / 2) v hvs
      have hmr := hm.below hb
      have HV := Lib.hid hv
      clear hc hv hvs
      go_wp2_with fail
      refine (placeF_any _ hrv v.many hmr).mono ?_
      rintro e w2 ⟨rfl, hb2⟩
      have hb2' := hb.trans (hb2.mono hb.size)
      obtain ⟨z, hz⟩ : ∃ z, lexZ v.ms m = z := ⟨_, rfl⟩
      rw [hz]
      have HZ := Lib.hid (show ltZ v.ms m = decide (z < 0) by unfold ltZ; rw [hz])
      clear k0 k1 hz hrv hmr
      by_cases hzl : z < 0
      case pos =>
        have HX : Hid ((∀ k, k < (lo + hi) / 2 + 1 → ltZ (rth l k).ms m = true) ∧ (∀ k, hi ≤ k → k < n → ltZ (rth l k).ms m = false)) := Lib.hid ⟨fun k hk => by
          have h0 : ltZ v.ms m = true := by rw [HZ.out]; exact decide_eq_true hzl
          by_cases e : k = (lo + hi) / 2
          · subst e; rw [HV.out]; exact h0
          · refine ltZ_trans (HR.out k ((lo + hi) / 2) (by omega) (by rw [HL.out]; omega)) ?_
            rw [HV.out]
            exact h0, hI.out.2⟩
        go_wp2_with fail
        go_roundw
        case rel => exact ⟨(lo + hi) / 2 + 1, hi, by rw [show ((lo : Int) + (hi : Int)) / 2 + 1 = (((lo + hi) / 2 + 1 : Nat) : Int) by omega], rfl, by omega, hhn, hb2', HX⟩
        case measure => simp [intOf]; omega
      case neg =>
        have HX : Hid ((∀ k, k < lo → ltZ (rth l k).ms m = true) ∧ (∀ k, (lo + hi) / 2 ≤ k → k < n → ltZ (rth l k).ms m = false)) := Lib.hid ⟨hI.out.1, fun k hk hkn => by
          have h0 : ltZ v.ms m = false := by rw [HZ.out]; exact decide_eq_false hzl
          by_cases e : k = (lo + hi) / 2
          · subst e; rw [HV.out]; exact h0
          · cases hc : ltZ (rth l k).ms m
            · rfl
            · have := ltZ_trans (HR.out ((lo + hi) / 2) k (by omega) (by rw [HL.out]; omega)) hc
              rw [HV.out, h0] at this
              cases this⟩
        go_wp2_with fail
        go_roundw
        case rel => exact ⟨lo, (lo + hi) / 2, rfl, by rw [show ((lo : Int) + (hi : Int)) / 2 = (((lo + hi) / 2 : Nat) : Int) by omega], by omega, by omega, hb2', HX⟩
        case measure => simp [intOf]; omega
    case neg =>
      obtain rfl : lo = hi := by omega
      have HP := Lib.hid (posR_eq (l := l) (m := m) (i := lo) (by rw [HL.out]; exact hhn) hI.out.1 (fun h => hI.out.2 lo (Nat.le_refl _) (by rw [← HL.out]; exact h)))
      by_cases hln : lo < n
      case neg =>
        have HA := Lib.hid (show hasR l m = false by unfold hasR; rw [HP.out, decide_eq_false (by rw [HL.out]; exact hln)]; rfl)
        go_wp2_with fail
        go_ret2
        exact ⟨by rw [HP.out, HA.out]; rfl, by rw [HP.out]; exact hhn, hb⟩
      case pos =>
        obtain ⟨b, off, rfl, hc⟩ := (h.below rowE_lasts hb).addr (by omega)
        obtain ⟨v, hv⟩ : ∃ v, rth l lo = v := ⟨_, rfl⟩
        have hvs : l[lo]? = some v := by rw [← hv]; exact rth_some (by rw [HL.out]; exact hln)
        obtain ⟨u1, v1, k0, k1, rfl, -, a_v, n_v, d_v, rfl, hrv⟩ := hc lo v hvs
        have hmr := hm.below hb
        have HA := Lib.hid (show hasR l m = (lexZ v.ms m == 0) by
          unfold hasR
          rw [HP.out, hv, decide_eq_true (by rw [HL.out]; exact hln), Bool.true_and]
          by_cases e : v.ms = m
          · rw [decide_eq_true e, e, lexZ_refl]; rfl
          · rw [decide_eq_false e]
            have : ¬ lexZ v.ms m = 0 := fun h => e (lexZ_zero h)
            exact (by simpa using this : (lexZ v.ms m == 0) = false).symm)
        clear hc hv hvs
        go_wp2_with fail
        refine (placeF_any _ hrv v.many hmr).mono ?_
        rintro e w2 ⟨rfl, hb2⟩
        have HB := Lib.hid (hb.trans (hb2.mono hb.size))
        clear hb2 k0 k1
        go_wp2_with fail
        go_ret2
        exact ⟨by rw [HP.out, HA.out]; rfl, by rw [HP.out]; exact hhn, HB.out⟩

end Go.Proofs.Ythpjnbnheagpiaa
