/- Where a voter's place is: strings.Compare, slices.BinarySearchFunc, ahead, place. Condition: the names rise. -/
import Derived.Test.YtnjkfjecnicccaaRolD
import Derived.Lib.Bytealg
import Derived.Laws.Externs
namespace Go.Proofs.Ytnjkfjecnicccaa
open Go.RowKit Go.Suf
set_option linter.unusedVariables false
set_option linter.unusedSimpArgs false

def cmpS (s t : ByteArray) : Int := Lib.compareBytes s.data.toList t.data.toList
theorem compare_less : ∀ (x y : List UInt8), decide (Lib.compareBytes x y < 0) = Op.bytesLess x y
  | [], [] => by simp [Lib.compareBytes, Op.bytesLess]
  | [], _ :: _ => by simp [Lib.compareBytes, Op.bytesLess]
  | _ :: _, [] => by simp [Lib.compareBytes, Op.bytesLess]
  | a :: x, b :: y => by
    rw [Lib.compareBytes, Op.bytesLess, ← compare_less x y]
    by_cases h1 : a < b
    · simp [h1]
    · by_cases h2 : b < a
      · have h3 : ¬ a = b := fun e => by subst e; exact absurd h2 h1
        simp [h1, h2, h3]
      · have h3 : a = b := UInt8.le_antisymm (UInt8.not_lt.1 h2) (UInt8.not_lt.1 h1)
        simp [h3, UInt8.lt_irrefl]
theorem cmpS_lt (s t : ByteArray) : decide (cmpS s t < 0) = ltS s t := by
  unfold cmpS ltS
  rw [compare_less, ByteArray.toList_eq, ByteArray.toList_eq]
theorem cmp_bd : ∀ (x y : List UInt8), -1 ≤ Lib.compareBytes x y ∧ Lib.compareBytes x y ≤ 1
  | [], [] => by simp [Lib.compareBytes]
  | [], _ :: _ => by simp [Lib.compareBytes]
  | _ :: _, [] => by simp [Lib.compareBytes]
  | a :: x, b :: y => by
    rw [Lib.compareBytes]
    have := cmp_bd x y
    split
    · omega
    · split <;> omega

theorem compareString_any (w : World) (s t : ByteArray) : Calls Try.prog 73 #[.string s, .string t] w fun e w' => e = .returned (.int .i64 (cmpS s t)) ∧ w = w' := by
  go_enter Try.func73, Try.ntmps73
  go_wp2
  rw [run_callFunc_extern Try.func76 (by kernel_rfl) (by kernel_rfl) (by kernel_rfl) (e := Extern.BytealgCompare.compare) (by kernel_rfl), Lib.run_compareString]
  simp only [Result.andThen]
  rw [Oper.upon_value]
  go_wp2
  go_ret
  exact ⟨rfl, rfl⟩

theorem Compare_any (w : World) (s t : ByteArray) : Calls Try.prog 68 #[.string s, .string t] w fun e w' => e = .returned (.int .i64 (cmpS s t)) ∧ w = w' := by
  go_enter Try.func68, Try.ntmps68
  go_wp2_with fail
  refine (compareString_any _ s t).mono ?_
  rintro e w' ⟨rfl, rfl⟩
  go_wp2_with fail
  go_ret
  exact ⟨rfl, rfl⟩

theorem nameOf_any (w : World) (v : VQ) : Calls Try.prog 53 #[voterV v] w fun e w' => e = .returned (.string v.nm) ∧ Below w.heap.size w w' := by
  have HB := Lib.hid (below_al w (.cells #[.string v.nm, .int .i64 v.pc, .int .u8 ((v.st : Nat) : Int)] 32))
  unfold voterV
  go_enter Try.func53, Try.ntmps53
  go_wp2_with fail
  go_ret
  exact ⟨rfl, HB.out⟩

abbrev nameF : Value := .func (.func 53) #[] #[]

theorem comp_any (w : World) (v : VQ) (s : ByteArray) (b : Nat) (hb : w.cell? ⟨b, 0, none⟩ = some nameF) :
    Calls Try.prog 67 #[voterV v, .string s, .pointer (some ⟨b, 0, none⟩)] w fun e w' => e = .returned (.int .i64 (cmpS v.nm s)) ∧ Below w.heap.size w w' := by
  have hB := below_al w (.cells #[.string v.nm, .int .i64 v.pc, .int .u8 ((v.st : Nat) : Int)] 32)
  have k := cell_below hB hb
  obtain ⟨k0, k1, k2⟩ := vot_cells w v
  have hf : (⟨v.nm, v.pc, v.st⟩ : VQ) = v := rfl
  have hv : voterV v = .agg #[.string v.nm, .int .i64 v.pc, .int .u8 ((v.st : Nat) : Int)] := rfl
  rw [hv]
  go_enter Try.func67, Try.ntmps67
  go_wp2_with fail
  refine (nameOf_any _ v).mono ?_
  rintro e w1 ⟨rfl, hb1⟩
  have HB := Lib.hid (hB.trans (hb1.mono hB.size))
  clear hB k k0 k1 k2 hb1
  go_wp2_with fail
  refine (Compare_any _ v.nm s).mono ?_
  rintro e w2 ⟨rfl, rfl⟩
  go_wp2_with fail
  go_ret
  exact ⟨rfl, HB.out⟩

/-- Where a name's place is. -/
def posV (vs : List VQ) (s : ByteArray) : Nat := ((List.range vs.length).find? fun i => !ltS (vth vs i).nm s).getD vs.length
theorem pos_eq {vs : List VQ} {s : ByteArray} {i : Nat} (hi : i ≤ vs.length) (h1 : ∀ k, k < i → ltS (vth vs k).nm s = true) (h2 : i < vs.length → ltS (vth vs i).nm s = false) : posV vs s = i := by
  unfold posV
  by_cases hlt : i < vs.length
  · have e : ((List.range vs.length).find? fun i => !ltS (vth vs i).nm s) = some i := by
      rw [List.find?_eq_some_iff_getElem]
      exact ⟨by simp [h2 hlt], i, by simpa using hlt, by simp, fun k hk => by simp [h1 k hk]⟩
    rw [e]
    rfl
  · rw [List.find?_eq_none.2 (fun k hk => by have := List.mem_range.1 hk; simp [h1 k (by omega)])]
    simp
    omega

/-- The names rise. -/
def Rise (vs : List VQ) : Prop := ∀ j k, j < k → k < vs.length → ltS (vth vs j).nm (vth vs k).nm = true

set_option maxHeartbeats 4000000 in
theorem search_any (w : World) {a : Option Addr} {n cap : Nat} {vs : List VQ} (h : RdV w a n cap vs) (hn : n ≤ 1099511627776) (hR : Rise vs) (s : ByteArray) (q : Nat) (hq : w.cell? ⟨q, 0, none⟩ = some nameF) :
    Calls Try.prog 66 #[.slice a n cap, .string s, .func (.func 67) #[] #[.pointer (some ⟨q, 0, none⟩)]] w fun e w' =>
      ∃ t : Bool, e = .returned (.tuple #[.int .i64 (posV vs s : Nat), .bool t]) ∧ posV vs s ≤ n ∧ Below w.heap.size w w' := by
  have HL := Lib.hid h.len
  have HR := Lib.hid hR
  go_enter Try.func66, Try.ntmps66
  go_wp2_with fail
  go_loopw [9, 10] (fun v9 v10 wr => ∃ lo hi : Nat, v9 = .int .i64 (lo : Nat) ∧ v10 = .int .i64 (hi : Nat) ∧ lo ≤ hi ∧ hi ≤ n ∧ Below w.heap.size w wr ∧ Hid ((∀ k, k < lo → ltS (vth vs k).nm s = true) ∧ (∀ k, hi ≤ k → k < n → ltS (vth vs k).nm s = false))) (fun v9 v10 _ => (intOf v10).toNat - (intOf v9).toNat)
  case atStart => exact ⟨0, n, rfl, rfl, Nat.zero_le _, Nat.le_refl _, Below.refl _ _, Lib.hid ⟨fun k hk => absurd hk (by omega), fun k h1 h2 => absurd h2 (by omega)⟩⟩
  case round =>
    rename_i wr _
    obtain ⟨lo, hi, rfl, rfl, hlh, hhn, hb, hI⟩ := hrel
    by_cases hlt : lo < hi
    case pos =>
      obtain ⟨b, off, rfl, hc⟩ := (h.below hb).addr (by omega)
      obtain ⟨k0, k1, k2⟩ := hc ((lo + hi) / 2) (by omega)
      have hq' := cell_below hb hq
      clear hc
      obtain ⟨v, hv⟩ : ∃ v, vth vs ((lo + hi) / 2) = v := ⟨_, rfl⟩
      rw [hv] at k0 k1 k2
      have HV := Lib.hid hv
      clear hv
      go_wp2_with fail
      refine (comp_any _ v s q hq').mono ?_
      rintro e w2 ⟨rfl, hb2⟩
      have hb2' := hb.trans (hb2.mono hb.size)
      have hz := cmpS_lt v.nm s
      generalize cmpS v.nm s = z at *
      clear k0 k1 k2 hq'
      by_cases hzl : z < 0
      case pos =>
        have HX : Hid ((∀ k, k < (lo + hi) / 2 + 1 → ltS (vth vs k).nm s = true) ∧ (∀ k, hi ≤ k → k < n → ltS (vth vs k).nm s = false)) := Lib.hid ⟨fun k hk => by
          have h0 : ltS v.nm s = true := by rw [← hz]; exact decide_eq_true hzl
          by_cases e : k = (lo + hi) / 2
          · subst e; rw [HV.out]; exact h0
          · refine ltS_trans (HR.out k ((lo + hi) / 2) (by omega) (by rw [HL.out]; omega)) ?_
            rw [HV.out]
            exact h0, hI.out.2⟩
        clear hz
        go_wp2_with fail
        go_roundw
        case rel => exact ⟨(lo + hi) / 2 + 1, hi, by rw [show ((lo : Int) + (hi : Int)) / 2 + 1 = (((lo + hi) / 2 + 1 : Nat) : Int) by omega], rfl, by omega, hhn, hb2', HX⟩
        case measure => simp [intOf]; omega
      case neg =>
        have HX : Hid ((∀ k, k < lo → ltS (vth vs k).nm s = true) ∧ (∀ k, (lo + hi) / 2 ≤ k → k < n → ltS (vth vs k).nm s = false)) := Lib.hid ⟨hI.out.1, fun k hk hkn => by
          have h0 : ltS v.nm s = false := by rw [← hz]; exact decide_eq_false hzl
          by_cases e : k = (lo + hi) / 2
          · subst e; rw [HV.out]; exact h0
          · cases hc : ltS (vth vs k).nm s
            · rfl
            · have := ltS_trans (HR.out ((lo + hi) / 2) k (by omega) (by rw [HL.out]; omega)) hc
              rw [HV.out, h0] at this
              cases this⟩
        clear hz
        go_wp2_with fail
        go_roundw
        case rel => exact ⟨lo, (lo + hi) / 2, rfl, by rw [show ((lo : Int) + (hi : Int)) / 2 = (((lo + hi) / 2 : Nat) : Int) by omega], by omega, by omega, hb2', HX⟩
        case measure => simp [intOf]; omega
    case neg =>
      obtain rfl : lo = hi := by omega
      have HP := Lib.hid (pos_eq (vs := vs) (s := s) (i := lo) (by rw [HL.out]; exact hhn) hI.out.1 (fun h => hI.out.2 lo (Nat.le_refl _) (by rw [← HL.out]; exact h)))
      by_cases hln : lo < n
      case neg =>
        go_wp2_with fail
        go_ret2
        exact ⟨false, by rw [HP.out]; rfl, by rw [HP.out]; exact hhn, hb⟩
      case pos =>
        obtain ⟨b, off, rfl, hc⟩ := (h.below hb).addr (by omega)
        obtain ⟨k0, k1, k2⟩ := hc lo hln
        have hq' := cell_below hb hq
        clear hc
        obtain ⟨v, hv⟩ : ∃ v, vth vs lo = v := ⟨_, rfl⟩
        rw [hv] at k0 k1 k2
        clear hv
        go_wp2_with fail
        refine (comp_any _ v s q hq').mono ?_
        rintro e w2 ⟨rfl, hb2⟩
        have HB := Lib.hid (hb.trans (hb2.mono hb.size))
        clear hb2
        go_wp2_with fail
        go_ret2
        exact ⟨cmpS v.nm s == 0, by rw [HP.out]; rfl, by rw [HP.out]; exact hhn, HB.out⟩

end Go.Proofs.Ytnjkfjecnicccaa
