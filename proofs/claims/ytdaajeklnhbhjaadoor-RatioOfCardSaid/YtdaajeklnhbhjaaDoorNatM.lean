/- form, Read. No condition. -/
import Derived.Test.YtdaajeklnhbhjaaDoorNatK
import Derived.Test.YtdaajeklnhbhjaaDoorNatDec
namespace Go.Proofs.YtdaajeklnhbhjaaDoor
open Go.RowKit Go.Suf
set_option linter.unusedVariables false
set_option linter.unusedSimpArgs false

/-- The bytes of a string as numbers. -/
def bytesOf (s : ByteArray) : List Nat := s.data.toList.map UInt8.toNat

theorem strB_bytesOf (s : ByteArray) : strB (bytesOf s) = s := by
  unfold strB bytesOf
  have : (s.data.toList.map UInt8.toNat).map UInt8.ofNat = s.data.toList := by
    rw [List.map_map]
    conv => rhs; rw [← List.map_id s.data.toList]
    apply List.map_congr_left
    intro x _
    simp
  rw [this]

theorem bytesOf_bd (s : ByteArray) : ∀ x ∈ bytesOf s, x < 256 := by
  intro x hx
  simp only [bytesOf, List.mem_map] at hx
  obtain ⟨c, _, rfl⟩ := hx
  exact c.toNat_lt

theorem bytesOf_length (s : ByteArray) : (bytesOf s).length = s.size := by simp [bytesOf]

theorem strB_size (xs : List Nat) : (strB xs).size = xs.length := by simp [strB, ByteArray.size]

theorem strB_at {xs : List Nat} (hb : ∀ x ∈ xs, x < 256) (k : Nat) (h : k < (strB xs).size) : ((strB xs)[k]'h).toNat = nth xs k := by
  have hk : k < xs.length := by rwa [strB_size] at h
  have e : (strB xs)[k]'h = UInt8.ofNat (xs[k]) := by
    show (strB xs).data[k]'_ = _
    simp [strB]
  rw [e, nth_eq hk]
  have := hb _ (List.getElem_mem hk)
  simp [UInt8.toNat_ofNat]
  omega

theorem formB_bad {xs : List Nat} {k : Nat} (hk : k < xs.length) (h : nth xs k < 48 ∨ 57 < nth xs k) : formB xs = false := by
  unfold formB
  rw [decide_eq_false_iff_not]
  rintro ⟨_, _, h3⟩
  have := h3 (nth xs k) (by rw [nth_eq hk]; exact List.getElem_mem _)
  omega

theorem formB_good {xs : List Nat} (h1 : xs ≠ []) (h2 : nth xs 0 = 48 → xs.length ≤ 1) (h3 : ∀ k, k < xs.length → 48 ≤ nth xs k ∧ nth xs k ≤ 57) : formB xs = true := by
  unfold formB
  rw [decide_eq_true_eq]
  refine ⟨h1, h2, fun x hx => ?_⟩
  obtain ⟨i, hi, rfl⟩ := List.getElem_of_mem hx
  rw [← nth_eq hi]
  exact h3 i hi

set_option maxHeartbeats 1000000 in
theorem form_any (w : World) (xs : List Nat) (hb : ∀ x ∈ xs, x < 256) (hn : xs.length ≤ 1099511627776) :
    Calls Tryd.prog 57 #[.string (strB xs)] w fun e w' => e = .returned (.bool (formB xs)) ∧ w = w' := by
  obtain ⟨r, hr0⟩ : ∃ r, r = formB xs := ⟨_, rfl⟩
  rw [← hr0]
  have HR := Lib.hid hr0
  clear hr0
  have hsz := strB_size xs
  by_cases h0 : xs = []
  · subst h0
    have e1 := Lib.hid (show r = false by rw [HR.out]; rfl)
    have he0 : (strB []).toList.isEmpty = true := by rw [strB_toList]; rfl
    go_enter Tryd.func57, Tryd.ntmps57
    go_wp2_with fail
    go_ret
    rw [e1.out]
    exact ⟨rfl, rfl⟩
  · have hl : 0 < xs.length := by cases xs with | nil => exact absurd rfl h0 | cons a l => simp
    have hne : (strB xs).toList ≠ [] := by rw [strB_toList]; simpa using h0
    have hne2 : (strB xs).toList.isEmpty = false := by
      cases hq : (strB xs).toList with
      | nil => exact absurd hq hne
      | cons a l => rfl
    have hat0 := strB_at hb 0
    have H0 := Lib.hid h0
    clear h0
    by_cases h1 : nth xs 0 = 48 ∧ 1 < xs.length
    · have e1 := Lib.hid (show r = false by
        rw [HR.out]
        unfold formB
        rw [decide_eq_false_iff_not]
        rintro ⟨_, h2, _⟩
        have := h2 h1.1
        omega)
      obtain ⟨h2, h3⟩ := h1
      rw [h2] at hat0
      clear h2
      go_enter Tryd.func57, Tryd.ntmps57
      go_wp2_with fail
      go_ret
      rw [e1.out]
      exact ⟨rfl, rfl⟩
    · have H1 := Lib.hid (show nth xs 0 = 48 → xs.length ≤ 1 from fun h => by
        rcases Nat.lt_or_ge 1 xs.length with h' | h'
        · exact absurd ⟨h, h'⟩ h1
        · exact h')
      obtain ⟨b0, hb0⟩ : ∃ b, b = nth xs 0 := ⟨_, rfl⟩
      have hd : (((b0 : Int) == 48) = false) ∨ b0 = 48 ∧ decide ((1 : Int) < (xs.length : Int)) = false := by
        by_cases h2 : b0 = 48
        · right
          have := H1.out (by rw [← hb0]; exact h2)
          exact ⟨h2, by simp; omega⟩
        · left
          rw [beq_eq_false_iff_ne]
          omega
      rw [← hb0] at hat0
      clear h1 hb0
      rcases hd with hd | ⟨rfl, hd⟩
      all_goals
        go_enter Tryd.func57, Tryd.ntmps57
        go_wp2_with fail
        go_loop [18] (fun i => ∃ k : Nat, k ≤ xs.length ∧ i = .int .i64 (k : Nat) ∧ Hid (∀ j, j < k → 48 ≤ nth xs j ∧ nth xs j ≤ 57)) (fun i => xs.length - (intOf i).toNat)
        case atStart => exact ⟨0, Nat.zero_le _, rfl, Lib.hid fun j hj => by omega⟩
        case round =>
          obtain ⟨k, hk, rfl, hG⟩ := hrel
          clear hat0 hd
          by_cases hlt : k < xs.length
          · have hatk := strB_at hb k
            by_cases h3 : nth xs k < 48
            · have e1 := Lib.hid (show r = false by rw [HR.out]; exact formB_bad hlt (.inl h3))
              go_wp2_with fail
              go_ret
              rw [e1.out]
              exact ⟨rfl, rfl⟩
            · by_cases h4 : 57 < nth xs k
              · have e1 := Lib.hid (show r = false by rw [HR.out]; exact formB_bad hlt (.inr h4))
                go_wp2_with fail
                go_ret
                rw [e1.out]
                exact ⟨rfl, rfl⟩
              · go_wp2_with fail
                go_round
                case rel => exact ⟨k + 1, by omega, by go_num, Lib.hid fun j hj => by
                              by_cases e : j = k
                              · subst e; omega
                              · exact hG.out j (by omega)⟩
                case measure => simp [intOf]; omega
          · obtain rfl : k = xs.length := by omega
            have e1 := Lib.hid (show r = true by rw [HR.out]; exact formB_good H0.out H1.out hG.out)
            go_wp2_with fail
            go_ret
            rw [e1.out]
            exact ⟨rfl, rfl⟩

def readC (xs : List Nat) : List Nat × Int := if formB xs = true then fitC (dread xs 0) else ([], 11)

theorem formB_dig {xs : List Nat} (h : formB xs = true) {k : Nat} (hk : k < xs.length) : 48 ≤ nth xs k ∧ nth xs k ≤ 57 := by
  unfold formB at h
  rw [decide_eq_true_eq] at h
  exact h.2.2 _ (by rw [nth_eq hk]; exact List.getElem_mem _)

set_option maxRecDepth 100000 in
set_option maxHeartbeats 2000000 in
theorem Read_any (w : World) (xs : List Nat) (hb : ∀ x ∈ xs, x < 256) (hn : xs.length ≤ 1099511627776) :
    Calls Tryd.prog 40 #[.string (strB xs)] w (RetN w (readC xs)) := by
  obtain ⟨r, hr0⟩ : ∃ r, r = readC xs := ⟨_, rfl⟩
  rw [← hr0]
  have HR := Lib.hid hr0
  clear hr0
  have hsz := strB_size xs
  have mk : ∀ w, (Instr.makeSlice 22 (.int .i64 0) (.int .i64 97)).run Tryd.prog w = .ok (.slice (some ⟨w.heap.size, 0, none⟩) 0 97) (w.alloc (.cells (zeros .u32 97) 47)) := fun w => run_zeros_cap etN 97 (by decide) (by decide) w
  have ho0 := Ow.made .u32 47 w 97 (by decide)
  go_enter Tryd.func40, Tryd.ntmps40
  go_wp2_with fail
  refine (form_any _ xs hb hn).mono ?_
  rintro e w1 ⟨rfl, rfl⟩
  by_cases hf : formB xs = true
  · have HF := Lib.hid hf
    have e1 := Lib.hid (show r = fitC (dread xs 0) by rw [HR.out, readC, if_pos hf])
    rw [hf]
    clear hf
    go_wp2_with fail
    go_loopw [4, 15] (fun v i wr => ∃ (k : Nat) (b : Option Addr) (n c : Nat) (us : List Nat), k ≤ xs.length ∧ i = .int .i64 (k : Nat) ∧ v = .slice b n c ∧ Ow .u32 47 w.heap.size wr b n c us ∧ n ≤ 96 ∧ Hid (us = limbs (dread (xs.take k) 0)) ∧ Below w.heap.size w wr) (fun _ i _ => xs.length - (intOf i).toNat)
    case atStart => exact ⟨0, _, 0, 97, [], Nat.zero_le _, rfl, rfl, ho0, by decide, Lib.hid (by rw [List.take_zero, dread, limbs_zero]), (Below.refl _ _).alloc (Nat.le_refl _) _⟩
    case round =>
      obtain ⟨k, b, n, c, us, hk, rfl, rfl, ho, hn96, hU, hb0⟩ := hrel
      by_cases hlt : k < xs.length
      · have hatk := strB_at hb k
        obtain ⟨h48, h57⟩ := formB_dig HF.out hlt
        obtain ⟨x0, hx0⟩ : ∃ x, x = nth xs k := ⟨_, rfl⟩
        have hds := Lib.hid (dread_take_succ hlt)
        rw [← hx0] at hatk h48 h57 hds
        obtain ⟨d, rfl⟩ : ∃ d, x0 = d + 48 := ⟨x0 - 48, by omega⟩
        have hd10 : d < 10 := by omega
        rw [Nat.add_sub_cancel] at hds
        clear hx0
        have HUL := Lib.hid ho.len
        have hT0 := Lib.hid (Ten.start (us := us) (show small32 us from ho.bd) hd10)
        go_wp2_with fail
        go_loopw [6, 25] (fun v i wz => ∃ (j c' : Nat) (out : List Nat), j ≤ n ∧ i = .int .i64 (j : Nat) ∧ v = .int .u64 (c' : Nat) ∧ c' < 10 ∧ Hid (Ten us out d j c') ∧ Ow .u32 47 w.heap.size wz b n c out ∧ Below w.heap.size w wz) (fun _ i _ => n - (intOf i).toNat)
        case atStart => exact ⟨0, d, us, Nat.zero_le _, rfl, by go_num, hd10, hT0, ho, hb0⟩
        case round =>
          obtain ⟨j, c', out, hj, rfl, rfl, hc', hT, ho', hb'⟩ := hrel
          by_cases hjn : j < n
          · obtain ⟨g, rfl, hg1, hg2⟩ := ho'.where (by omega)
            have hcell := ho'.at j hjn
            have hfree := ho'.free j
            have b2 := small32_nth hT.out.small j
            have hT2 := Lib.hid (hT.out.step (show j < us.length by rw [HUL.out]; exact hjn))
            have hv : ((c' : Int) + (nth out j : Int) * 10) % 4294967296 = (((c' + nth out j * 10) % 4294967296 : Nat) : Int) := by omega
            have hw := Lib.hid (show ((c' : Int) + (nth out j : Int) * 10) / 4294967296 = (((c' + nth out j * 10) / 4294967296 : Nat) : Int) by omega)
            have HO : Hid (Ow .u32 47 w.heap.size (wr.setCell ⟨g, j, none⟩ (.int .u32 (((c' : Int) + (nth out j : Int) * 10) % 4294967296))) (some ⟨g, 0, none⟩) n c (out.set j ((c' + nth out j * 10) % 4294967296))) := by
              rw [hv]
              exact Lib.hid (ho'.set j _ (Nat.mod_lt _ (by decide)))
            have HB := Lib.hid (hb'.setCell (p := ⟨g, j, none⟩) (by show w.heap.size ≤ g; omega) (.int .u32 (((c' : Int) + (nth out j : Int) * 10) % 4294967296)))
            clear hv
            go_wp2_with fail
            go_roundw
            case rel => exact ⟨j + 1, _, _, by omega, by go_num, by rw [hw.out], hT2.out.lt, hT2, HO.out, HB.out⟩
            case measure => simp [intOf]; omega
          · obtain rfl : j = n := by omega
            have hT2 := hT.out
            rw [← HUL.out] at hT2
            have hdn := hT2.done hU.out
            rw [← hds.out] at hdn
            have hbz := hb'.size
            by_cases hc0 : c' = 0
            · have hout := Lib.hid (hdn.1 hc0)
              subst hc0
              clear hdn hT2
              go_wp2_with fail
              go_roundw
              case rel => exact ⟨k + 1, b, j, c, out, by omega, by go_num, rfl, ho', hn96, hout, hb'⟩
              case measure => simp [intOf]; omega
            · have hout := Lib.hid (hdn.2 hc0)
              clear hdn hT2
              by_cases hj96 : j + 1 ≤ 96
              all_goals
                go_wp2_with (at_builtin; refine wpList_app rfl _ _ 22 rfl etN w.heap.size rfl (ho'.own.alloc _) rfl rfl (sl_new wr _ 47 rfl) (by unfold maxLen; omega) (by omega) (by simp; omega) ?_; intro a' cap' w' hown hg hbw)
                have ho2 : Ow .u32 47 w.heap.size w' a' (j + 1) cap' (out ++ [c']) := by
                  refine ⟨by simp [ho'.len], by rw [nums_append]; exact hown, fun x hx => ?_⟩
                  rw [List.mem_append] at hx
                  rcases hx with hx | hx
                  · exact ho'.bd x hx
                  · simp at hx; subst hx; show _ < 4294967296; omega
                have hbn := hb'.trans (((Below.refl w.heap.size wr).alloc hbz _).trans hbw)
                clear hown hg hbw ho'
              · go_roundw
                case rel => exact ⟨k + 1, a', j + 1, cap', out ++ [c'], by omega, by go_num, rfl, ho2, hj96, hout, hbn⟩
                case measure => simp [intOf]; omega
              · have e2 := Lib.hid (show r = ([], 30) by
                  have hl := congrArg List.length hout.out
                  rw [ho2.len] at hl
                  have hm := limbs_len_mono (dread_mono (xs := xs) (k := k + 1) (by omega))
                  rw [e1.out, fitC, if_pos (by omega)])
                go_ret2
                rw [e2.out]
                exact ⟨none, 0, 0, rfl, Rd.nil _ _, hbn⟩
      · obtain rfl : k = xs.length := by omega
        have hu2 := hU.out
        rw [List.take_of_length_le (Nat.le_refl _)] at hu2
        have e2 := Lib.hid (show r = (us, 0) by
          rw [e1.out, fitC, ← hu2, if_neg (by rw [ho.len]; omega)])
        clear hu2
        have hle := ho.rd.le
        have hA : n = 0 ∨ ∃ g off, b = some ⟨g, off, none⟩ := by
          rcases Nat.eq_zero_or_pos n with h | h
          · exact .inl h
          · obtain ⟨g, e, _⟩ := ho.where h
            exact .inr ⟨g, 0, e⟩
        have hR : Rd .u32 wr b n n us := by
          rcases Nat.eq_zero_or_pos n with h | h
          · subst h
            rw [List.eq_nil_of_length_eq_zero ho.len]
            exact ⟨rfl, Sl.empty _ _ _ (Nat.zero_le _) (fun _ => rfl), fun x hx => by simp at hx⟩
          · obtain ⟨g, rfl, _⟩ := ho.where h
            have := ho.rd.part 0 n n (Nat.zero_le _) (Nat.le_refl _) (Nat.le_refl _) hle 0 (fun _ => rfl)
            rw [List.take_of_length_le (by rw [ho.len]; exact Nat.le_refl _)] at this
            simpa using this
        go_wp2_with (with_reducible refine wpList_upto3A rfl _ _ _ _ rfl etN rfl rfl rfl n n rfl rfl (Nat.le_refl _) hle hA ?_)
        go_ret2
        rw [e2.out]
        exact ⟨b, n, n, rfl, hR, hb0⟩
  · have e1 := Lib.hid (show r = ([], 11) by rw [HR.out, readC, if_neg hf])
    have hf2 : formB xs = false := by simpa using hf
    rw [hf2]
    clear hf hf2
    go_wp2_with fail
    go_ret2
    rw [e1.out]
    exact ⟨none, 0, 0, rfl, Rd.nil _ _, Below.refl _ _⟩

end Go.Proofs.YtdaajeklnhbhjaaDoor
/- The document's answer: Check, Both, Trim, Same, Of, Word, less, Cmp, at, plus, Add, minus, Sub. No condition. -/
namespace Go.Proofs.YtdaajeklnhbhjaaDoor
open Go.RowKit Go.Suf
set_option linter.unusedVariables false
set_option linter.unusedSimpArgs false

/-- New limbs, in memory of the call's own. -/
def RetO (w : World) (r : List Nat) : Ending → World → Prop := fun e w' =>
  ∃ a m c, e = .returned (.slice a m c) ∧ Ow .u32 47 w.heap.size w' a m c r ∧ Below w.heap.size w w'

set_option maxHeartbeats 1000000 in
theorem refSame_any (w : World) {a b : Option Addr} {n m cap cap' : Nat} {xs ys : List Nat} (h : Rd .u32 w a n cap xs) (h' : Rd .u32 w b m cap' ys) :
    Calls Tryd.prog 25 #[.slice a n cap, .slice b m cap'] w (RetB w (sameN xs ys)) := by
  have hn := h.lt
  have hm := h'.lt
  have HL := Lib.hid h.len
  have HL' := Lib.hid h'.len
  obtain ⟨r, hr0⟩ : ∃ r, r = sameN xs ys := ⟨_, rfl⟩
  rw [← hr0]
  have HR := Lib.hid hr0
  clear hr0
  by_cases hne : n = m
  · subst hne
    go_enter Tryd.func25, Tryd.ntmps25
    go_wp2_with fail
    go_loopw [5] (fun i wr => ∃ (k : Nat) (nq : Nat), k ≤ n ∧ i = .int .i64 (k : Nat) ∧ wr = w.drewN nq ∧ Hid (xs.take k = ys.take k)) (fun i _ => n - (intOf i).toNat)
    case atStart => exact ⟨0, 0, Nat.zero_le _, rfl, rfl, Lib.hid rfl⟩
    case round =>
      obtain ⟨k, nq, hk, rfl, rfl, hD⟩ := hrel
      by_cases hlt : k < n
      · obtain ⟨p, off, rfl, hc, _⟩ := h.cell k hlt
        obtain ⟨p', off', rfl, hc', _⟩ := h'.cell k hlt
        by_cases he : nth xs k = nth ys k
        · have HE := Lib.hid (take_same (by have := HL.out; omega) (by have := HL'.out; omega) hD.out he)
          rw [he] at hc
          clear he
          go_wp2
          go_quiet (fail)
          go_wp2
          go_roundw
          case rel => exact ⟨k + 1, _, by omega, by go_num, rfl, HE⟩
          case measure => simp [intOf]; omega
        · have e1 := Lib.hid (show r = false by rw [HR.out]; exact sameN_false (fun e => he (by rw [e])))
          have hb : ((nth xs k : Int) != (nth ys k : Int)) = true := by rw [bne_iff_ne]; omega
          clear he
          go_wp2
          go_quiet (fail)
          go_wp2
          go_ret
          rw [e1.out]
          exact ⟨rfl, _, World.drewN_drewN _ _ _⟩
      · obtain rfl : k = n := by omega
        have e1 := Lib.hid (show r = true by
          have := hD.out
          rw [List.take_of_length_le (by have := HL.out; omega), List.take_of_length_le (by have := HL'.out; omega)] at this
          rw [HR.out]; exact sameN_true this)
        go_wp2
        go_ret
        rw [e1.out]
        exact ⟨rfl, nq, rfl⟩
  · have e1 := Lib.hid (show r = false by rw [HR.out]; exact sameN_false (fun e => hne (by rw [← HL.out, ← HL'.out, e])))
    have hb : ((n : Int) != (m : Int)) = true := by rw [bne_iff_ne]; omega
    go_enter Tryd.func25, Tryd.ntmps25
    go_wp2_with fail
    go_ret
    rw [e1.out]
    exact ⟨rfl, 0, rfl⟩

def ltC (xs ys : List Nat) : Bool := decide (val xs < val ys)

end Go.Proofs.YtdaajeklnhbhjaaDoor
/- The document's answer: Sub, Cmp, Of, Word, Mul, Long. No condition. -/
namespace Go.Proofs.YtdaajeklnhbhjaaDoor
open Go.RowKit Go.Suf
set_option linter.unusedVariables false
set_option linter.unusedSimpArgs false

theorem ltC_true {xs ys : List Nat} (h : val xs < val ys) : ltC xs ys = true := by simp [ltC, h]
theorem ltC_false {xs ys : List Nat} (h : ¬ val xs < val ys) : ltC xs ys = false := by simp only [ltC, decide_eq_false_iff_not]; exact h

theorem of_step (out : List Nat) (v k : Nat) (hl : out.length = k) : val (out ++ [v % 4294967296]) + pw (k + 1) * (v / 4294967296) = val out + pw k * v := by
  rw [val_snoc, hl, pw_succ]
  have e : 4294967296 * pw k * (v / 4294967296) = pw k * (4294967296 * (v / 4294967296)) := by rw [Nat.mul_comm 4294967296, Nat.mul_assoc]
  have h := congrArg (pw k * ·) (Nat.mod_add_div v 4294967296)
  simp only [Nat.mul_add] at h
  omega

def longB (xs : List Nat) : Bool := decide (24 < xs.length ∧ xs.length ≤ 96)

end Go.Proofs.YtdaajeklnhbhjaaDoor
/- Binary division and the binary greatest common divisor, as plain data. No condition. -/
namespace Go.Suf
open Go.RowKit
set_option linter.unusedVariables false
set_option linter.unusedSimpArgs false

theorem val_set {xs : List Nat} {i : Nat} (h : i < xs.length) (v : Nat) : val (xs.set i v) + pw i * nth xs i = val xs + pw i * v := by
  rw [val_split (xs.set i v) (i + 1) (by simp; omega), val_take_set h, set_drop_gt _ (by omega), val_split xs (i + 1) (by omega), val_take_succ xs]
  omega

theorem two_pow_add (i j : Nat) : (2 : Nat) ^ (i + j) = 2 ^ i * 2 ^ j := Nat.pow_add _ _ _

theorem pw_two (j : Nat) : pw j = 2 ^ (32 * j) := by
  rw [Nat.pow_mul]
  rfl

/-- A number about its limb j. -/
theorem val_mid {xs : List Nat} {j : Nat} (h : j < xs.length) : val xs = val (xs.take j) + pw j * (nth xs j + 4294967296 * val (xs.drop (j + 1))) := by
  have := val_split xs j (by omega)
  rwa [drop_nth h, val] at this

theorem bit_at {xs : List Nat} {j s : Nat} (hx : small32 xs) (h : j < xs.length) (hs : s < 32) : val xs / 2 ^ (32 * j + s) % 2 = nth xs j / 2 ^ s % 2 := by
  have a := val_lt' (small32_take hx j)
  rw [List.length_take, Nat.min_eq_left (by omega)] at a
  rw [two_pow_add, ← Nat.div_div_eq_div_mul, ← pw_two]
  have e : val xs / pw j = nth xs j + 4294967296 * val (xs.drop (j + 1)) := by
    rw [val_mid h, Nat.add_mul_div_left _ _ (pw_pos j), Nat.div_eq_of_lt a]
    omega
  rw [e]
  have e2 : 4294967296 = 2 ^ s * (2 * 2 ^ (31 - s)) := by
    rw [← Nat.pow_succ', ← Nat.pow_add, show s + (31 - s + 1) = 32 by omega]
  generalize val (xs.drop (j + 1)) = H
  have e3 : nth xs j + 4294967296 * H = nth xs j + 2 ^ s * (2 * (2 ^ (31 - s) * H)) := by
    rw [e2, Nat.mul_assoc, Nat.mul_assoc]
  rw [e3, Nat.add_mul_div_left _ _ (Nat.pow_pos (by decide))]
  generalize nth xs j / 2 ^ s = Y
  generalize 2 ^ (31 - s) * H = Z
  omega

/-- A multiple of 2^(32 j + s + 1): limb j is a multiple of 2^(s + 1). -/
theorem limb_mult {xs : List Nat} {j s K : Nat} (hx : small32 xs) (h : j < xs.length) (hs : s < 32) (hv : val xs = K * 2 ^ (32 * j + s + 1)) : nth xs j + 2 ^ s < 4294967296 := by
  have a := val_lt' (small32_take hx j)
  rw [List.length_take, Nat.min_eq_left (by omega)] at a
  have m := val_mid h
  rw [show 32 * j + s + 1 = 32 * j + (s + 1) by omega, two_pow_add, ← pw_two, Nat.mul_left_comm] at hv
  -- val (take j) is 0
  have e : val xs / pw j = nth xs j + 4294967296 * val (xs.drop (j + 1)) := by
    rw [m, Nat.add_mul_div_left _ _ (pw_pos j), Nat.div_eq_of_lt a]
    omega
  rw [hv, Nat.mul_div_cancel_left _ (pw_pos j)] at e
  have e2 : 4294967296 = 2 ^ (s + 1) * 2 ^ (31 - s) := by rw [← Nat.pow_add, show s + 1 + (31 - s) = 32 by omega]
  have hx2 : nth xs j % 2 ^ (s + 1) = 0 := by
    have h1 : (nth xs j + 4294967296 * val (xs.drop (j + 1))) % 2 ^ (s + 1) = 0 := by rw [← e, Nat.mul_mod_left]
    have h2 : nth xs j + 4294967296 * val (xs.drop (j + 1)) = nth xs j + 2 ^ (s + 1) * (2 ^ (31 - s) * val (xs.drop (j + 1))) := by
      rw [e2, Nat.mul_assoc]
    rw [h2, Nat.add_mul_mod_self_left] at h1
    exact h1
  have hlt := small32_nth hx j
  generalize nth xs j = x at *
  -- x = 2^(s+1) * t with t < 2^(31-s)
  have h3 := Nat.div_add_mod x (2 ^ (s + 1))
  rw [hx2, Nat.add_zero] at h3
  have h4 : x / 2 ^ (s + 1) < 2 ^ (31 - s) := by
    rw [Nat.div_lt_iff_lt_mul (Nat.pow_pos (by decide)), Nat.mul_comm, ← e2]
    exact hlt
  have h5 := Nat.mul_le_mul_left (2 ^ (s + 1)) (show x / 2 ^ (s + 1) + 1 ≤ 2 ^ (31 - s) from h4)
  rw [Nat.mul_add, h3, ← e2, Nat.mul_one] at h5
  have h6 : 2 ^ (s + 1) = 2 * 2 ^ s := by rw [Nat.pow_succ, Nat.mul_comm]
  have h7 : 0 < 2 ^ s := Nat.pow_pos (by decide)
  omega

/-- One bit more of a division. -/
theorem bit_step {A V i : Nat} (hV : 0 < V) : A / 2 ^ i % V = (if A / 2 ^ (i + 1) % V + A / 2 ^ (i + 1) % V + A / 2 ^ i % 2 < V then A / 2 ^ (i + 1) % V + A / 2 ^ (i + 1) % V + A / 2 ^ i % 2 else A / 2 ^ (i + 1) % V + A / 2 ^ (i + 1) % V + A / 2 ^ i % 2 - V) ∧
    A / 2 ^ i / V = 2 * (A / 2 ^ (i + 1) / V) + (if A / 2 ^ (i + 1) % V + A / 2 ^ (i + 1) % V + A / 2 ^ i % 2 < V then 0 else 1) := by
  have e : A / 2 ^ (i + 1) = A / 2 ^ i / 2 := by rw [Nat.pow_succ, Nat.div_div_eq_div_mul]
  rw [e]
  generalize A / 2 ^ i = Y
  have h1 := Nat.div_add_mod Y 2
  have h2 := Nat.div_add_mod (Y / 2) V
  have h3 := Nat.mod_lt (Y / 2) hV
  have h4 := Nat.mod_lt Y (show 0 < 2 by decide)
  generalize Y / 2 / V = q at *
  generalize Y / 2 % V = r at *
  generalize Y % 2 = b at *
  have hY : Y = V * (2 * q) + (r + r + b) := by
    rw [← h1, ← h2, Nat.mul_left_comm]
    omega
  split
  · rename_i hlt
    rw [hY]
    exact ⟨by rw [Nat.mul_add_mod, Nat.mod_eq_of_lt hlt], by rw [Nat.mul_add_div hV, Nat.div_eq_of_lt hlt]⟩
  · rename_i hge
    have hY2 : Y = V * (2 * q + 1) + (r + r + b - V) := by
      rw [Nat.mul_add, Nat.mul_one]
      omega
    have hlt : r + r + b - V < V := by omega
    rw [hY2]
    exact ⟨by rw [Nat.mul_add_mod, Nat.mod_eq_of_lt hlt], by rw [Nat.mul_add_div hV, Nat.div_eq_of_lt hlt]⟩

theorem val_mod2 (xs : List Nat) : val xs % 2 = nth xs 0 % 2 := by
  cases xs with
  | nil => rfl
  | cons x xs =>
    simp only [val, nth, List.getD_cons_zero]
    omega

/-- Halves. -/
theorem half_val {xs out : List Nat} (hx : small32 xs) (hl : out.length = xs.length) (h : ∀ i, i < xs.length → nth out i = (nth xs (i + 1) % 2 * 4294967296 + nth xs i) / 2) : val out = val xs / 2 := by
  have e := shr_val (s := 2) (m := 2147483648) (by decide) (xs ++ [0]) out (by simp [hl]) (small32_snoc hx (by decide)) (by rw [hl]; simp [nth]) (fun i hi => by
    rw [hl] at hi
    rw [h i hi]
    have e1 : nth (xs ++ [0]) i = nth xs i := by simp [nth, List.getElem?_append_left hi]
    have e2 : nth (xs ++ [0]) (i + 1) = nth xs (i + 1) := by
      by_cases h' : i + 1 < xs.length
      · simp [nth, List.getElem?_append_left h']
      · rw [nth_out (xs := xs) (by omega)]
        by_cases h'' : i + 1 = xs.length
        · simp [nth, h'']
        · exact nth_out (by simp; omega)
    rw [e1, e2]
    have := small32_nth hx i
    omega)
  rw [e, val_snoc]
  simp

/-- The greatest common divisor, by halving and subtracting. -/
theorem gcd_even_odd {a b : Nat} (hb : b % 2 = 1) : Nat.gcd (2 * a) b = Nat.gcd a b := by
  have hc : Nat.Coprime 2 b := by
    unfold Nat.Coprime
    rw [Nat.gcd_rec, hb]
    rfl
  exact hc.gcd_mul_left_cancel a

theorem gcd_half_left {a b : Nat} (ha : a % 2 = 0) (hb : b % 2 = 1) : Nat.gcd (a / 2) b = Nat.gcd a b := by
  have : a = 2 * (a / 2) := by omega
  conv => rhs; rw [this]
  exact (gcd_even_odd hb).symm

theorem gcd_half_right {a b : Nat} (ha : a % 2 = 1) (hb : b % 2 = 0) : Nat.gcd a (b / 2) = Nat.gcd a b := by
  rw [Nat.gcd_comm a, Nat.gcd_comm a]
  exact gcd_half_left hb ha

theorem gcd_half_both {a b : Nat} (ha : a % 2 = 0) (hb : b % 2 = 0) : Nat.gcd a b = 2 * Nat.gcd (a / 2) (b / 2) := by
  have h1 : a = 2 * (a / 2) := by omega
  have h2 : b = 2 * (b / 2) := by omega
  conv => lhs; rw [h1, h2]
  exact Nat.gcd_mul_left _ _ _

theorem gcd_less {a b : Nat} (h : a ≤ b) : Nat.gcd a (b - a) = Nat.gcd a b := by
  have : b = (b - a) + a := by omega
  conv => rhs; rw [this]
  exact (Nat.gcd_add_self_right _ _).symm

theorem gcd_less' {a b : Nat} (h : b ≤ a) : Nat.gcd (a - b) b = Nat.gcd a b := by
  rw [Nat.gcd_comm, gcd_less h, Nat.gcd_comm]

end Go.Suf
/- The document's answer: Mul, half. No condition. -/
namespace Go.Proofs.YtdaajeklnhbhjaaDoor
open Go.RowKit Go.Suf
set_option linter.unusedVariables false
set_option linter.unusedSimpArgs false

end Go.Proofs.YtdaajeklnhbhjaaDoor
/- The document's answer: Div. No condition. -/
namespace Go.Proofs.YtdaajeklnhbhjaaDoor
open Go.RowKit Go.Suf
set_option linter.unusedVariables false
set_option linter.unusedSimpArgs false

structure Bdv (A V n k : Nat) (qs : List Nat) : Prop where
  len : qs.length = n
  eq : val qs = A / 2 ^ k / V * 2 ^ k

theorem Bdv.step0 {A V n t : Nat} {qs : List Nat} (h : Bdv A V n (t + 1) qs) (hV : 0 < V) (hlt : A / 2 ^ (t + 1) % V + A / 2 ^ (t + 1) % V + A / 2 ^ t % 2 < V) :
    Bdv A V n t qs ∧ A / 2 ^ t % V = A / 2 ^ (t + 1) % V + A / 2 ^ (t + 1) % V + A / 2 ^ t % 2 := by
  obtain ⟨e1, e2⟩ := bit_step (A := A) (i := t) hV
  rw [if_pos hlt] at e1 e2
  refine ⟨⟨h.len, ?_⟩, e1⟩
  rw [h.eq, e2]
  generalize A / 2 ^ (t + 1) / V = D
  rw [Nat.pow_succ, Nat.mul_comm (2 ^ t) 2, ← Nat.mul_assoc, Nat.mul_comm D 2, Nat.add_zero]

theorem Bdv.step1 {A V n t j s : Nat} {qs : List Nat} (h : Bdv A V n (t + 1) qs) (hq : small32 qs) (hV : 0 < V) (hts : t = 32 * j + s) (hs : s < 32) (hj : j < n) (hlt : ¬ A / 2 ^ (t + 1) % V + A / 2 ^ (t + 1) % V + A / 2 ^ t % 2 < V) :
    nth qs j + 2 ^ s < 4294967296 ∧ Bdv A V n t (qs.set j (nth qs j + 2 ^ s)) ∧ A / 2 ^ t % V = A / 2 ^ (t + 1) % V + A / 2 ^ (t + 1) % V + A / 2 ^ t % 2 - V := by
  obtain ⟨e1, e2⟩ := bit_step (A := A) (i := t) hV
  rw [if_neg hlt] at e1 e2
  have hl := h.len
  refine ⟨limb_mult (K := A / 2 ^ (t + 1) / V) hq (by omega) hs (by rw [h.eq, hts]), ⟨by simp [hl], ?_⟩, e1⟩
  have e := val_set (xs := qs) (i := j) (by omega) (nth qs j + 2 ^ s)
  have e3 : pw j * 2 ^ s = 2 ^ t := by rw [pw_two, ← two_pow_add, ← hts]
  rw [Nat.mul_add, e3, h.eq] at e
  have e4 : A / 2 ^ (t + 1) / V * 2 ^ (t + 1) = 2 * (A / 2 ^ (t + 1) / V) * 2 ^ t := by
    generalize A / 2 ^ (t + 1) / V = D
    rw [Nat.pow_succ, Nat.mul_comm (2 ^ t) 2, ← Nat.mul_assoc, Nat.mul_comm D 2]
  rw [e4] at e
  rw [e2, Nat.add_mul, Nat.one_mul]
  omega

end Go.Proofs.YtdaajeklnhbhjaaDoor
