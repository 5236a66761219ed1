/- form, Read. No condition. -/
import Derived.Test.YtdaajeklnhbhjaaGreatDoorNatK
namespace Go.Proofs.YtdaajeklnhbhjaaGreatDoor
open Go.RowKit Go.Suf
set_option linter.unusedVariables false
set_option linter.unusedSimpArgs false

/-- The bytes of a string as numbers. -/
def bytesOf (s : ByteArray) : List Nat := s.data.toList.map UInt8.toNat

theorem strB_bytesOf (s : ByteArray) : strB (bytesOf s) = s := by
  unfold strB bytesOf
  have : (s.data.toList.map UInt8.toNat).map UInt8.ofNat = s.data.toList := by
    rw [List.map_map]
    conv => rhs; rw [← List.map_id s.data.toList]
    apply List.map_congr_left
    intro x _
    simp
  rw [this]

theorem bytesOf_bd (s : ByteArray) : ∀ x ∈ bytesOf s, x < 256 := by
  intro x hx
  simp only [bytesOf, List.mem_map] at hx
  obtain ⟨c, _, rfl⟩ := hx
  exact c.toNat_lt

theorem bytesOf_length (s : ByteArray) : (bytesOf s).length = s.size := by simp [bytesOf]

theorem strB_size (xs : List Nat) : (strB xs).size = xs.length := by simp [strB, ByteArray.size]

theorem strB_at {xs : List Nat} (hb : ∀ x ∈ xs, x < 256) (k : Nat) (h : k < (strB xs).size) : ((strB xs)[k]'h).toNat = nth xs k := by
  have hk : k < xs.length := by rwa [strB_size] at h
  have e : (strB xs)[k]'h = UInt8.ofNat (xs[k]) := by
    show (strB xs).data[k]'_ = _
    simp [strB]
  rw [e, nth_eq hk]
  have := hb _ (List.getElem_mem hk)
  simp [UInt8.toNat_ofNat]
  omega

theorem formB_bad {xs : List Nat} {k : Nat} (hk : k < xs.length) (h : nth xs k < 48 ∨ 57 < nth xs k) : formB xs = false := by
  unfold formB
  rw [decide_eq_false_iff_not]
  rintro ⟨_, _, h3⟩
  have := h3 (nth xs k) (by rw [nth_eq hk]; exact List.getElem_mem _)
  omega

theorem formB_good {xs : List Nat} (h1 : xs ≠ []) (h2 : nth xs 0 = 48 → xs.length ≤ 1) (h3 : ∀ k, k < xs.length → 48 ≤ nth xs k ∧ nth xs k ≤ 57) : formB xs = true := by
  unfold formB
  rw [decide_eq_true_eq]
  refine ⟨h1, h2, fun x hx => ?_⟩
  obtain ⟨i, hi, rfl⟩ := List.getElem_of_mem hx
  rw [← nth_eq hi]
  exact h3 i hi

set_option maxHeartbeats 1000000 in
theorem form_any (w : World) (xs : List Nat) (hb : ∀ x ∈ xs, x < 256) (hn : xs.length ≤ 1099511627776) :
    Calls Tryz.prog 103 #[.string (strB xs)] w fun e w' => e = .returned (.bool (formB xs)) ∧ w = w' := by
  obtain ⟨r, hr0⟩ : ∃ r, r = formB xs := ⟨_, rfl⟩
  rw [← hr0]
  have HR := Lib.hid hr0
  clear hr0
  have hsz := strB_size xs
  by_cases h0 : xs = []
  · subst h0
    have e1 := Lib.hid (show r = false by rw [HR.out]; rfl)
    have he0 : (strB []).toList.isEmpty = true := by rw [strB_toList]; rfl
    go_enter Tryz.func103, Tryz.ntmps103
    go_wp2_with fail
    go_ret
    rw [e1.out]
    exact ⟨rfl, rfl⟩
  · have hl : 0 < xs.length := by cases xs with | nil => exact absurd rfl h0 | cons a l => simp
    have hne : (strB xs).toList ≠ [] := by rw [strB_toList]; simpa using h0
    have hne2 : (strB xs).toList.isEmpty = false := by
      cases hq : (strB xs).toList with
      | nil => exact absurd hq hne
      | cons a l => rfl
    have hat0 := strB_at hb 0
    have H0 := Lib.hid h0
    clear h0
    by_cases h1 : nth xs 0 = 48 ∧ 1 < xs.length
    · have e1 := Lib.hid (show r = false by
        rw [HR.out]
        unfold formB
        rw [decide_eq_false_iff_not]
        rintro ⟨_, h2, _⟩
        have := h2 h1.1
        omega)
      obtain ⟨h2, h3⟩ := h1
      rw [h2] at hat0
      clear h2
      go_enter Tryz.func103, Tryz.ntmps103
      go_wp2_with fail
      go_ret
      rw [e1.out]
      exact ⟨rfl, rfl⟩
    · have H1 := Lib.hid (show nth xs 0 = 48 → xs.length ≤ 1 from fun h => by
        rcases Nat.lt_or_ge 1 xs.length with h' | h'
        · exact absurd ⟨h, h'⟩ h1
        · exact h')
      obtain ⟨b0, hb0⟩ : ∃ b, b = nth xs 0 := ⟨_, rfl⟩
      have hd : (((b0 : Int) == 48) = false) ∨ b0 = 48 ∧ decide ((1 : Int) < (xs.length : Int)) = false := by
        by_cases h2 : b0 = 48
        · right
          have := H1.out (by rw [← hb0]; exact h2)
          exact ⟨h2, by simp; omega⟩
        · left
          rw [beq_eq_false_iff_ne]
          omega
      rw [← hb0] at hat0
      clear h1 hb0
      rcases hd with hd | ⟨rfl, hd⟩
      all_goals
        go_enter Tryz.func103, Tryz.ntmps103
        go_wp2_with fail
        go_loop [18] (fun i => ∃ k : Nat, k ≤ xs.length ∧ i = .int .i64 (k : Nat) ∧ Hid (∀ j, j < k → 48 ≤ nth xs j ∧ nth xs j ≤ 57)) (fun i => xs.length - (intOf i).toNat)
        case atStart => exact ⟨0, Nat.zero_le _, rfl, Lib.hid fun j hj => by omega⟩
        case round =>
          obtain ⟨k, hk, rfl, hG⟩ := hrel
          clear hat0 hd
          by_cases hlt : k < xs.length
          · have hatk := strB_at hb k
            by_cases h3 : nth xs k < 48
            · have e1 := Lib.hid (show r = false by rw [HR.out]; exact formB_bad hlt (.inl h3))
              go_wp2_with fail
              go_ret
              rw [e1.out]
              exact ⟨rfl, rfl⟩
            · by_cases h4 : 57 < nth xs k
              · have e1 := Lib.hid (show r = false by rw [HR.out]; exact formB_bad hlt (.inr h4))
                go_wp2_with fail
                go_ret
                rw [e1.out]
                exact ⟨rfl, rfl⟩
              · go_wp2_with fail
                go_round
                case rel => exact ⟨k + 1, by omega, by go_num, Lib.hid fun j hj => by
                              by_cases e : j = k
                              · subst e; omega
                              · exact hG.out j (by omega)⟩
                case measure => simp [intOf]; omega
          · obtain rfl : k = xs.length := by omega
            have e1 := Lib.hid (show r = true by rw [HR.out]; exact formB_good H0.out H1.out hG.out)
            go_wp2_with fail
            go_ret
            rw [e1.out]
            exact ⟨rfl, rfl⟩

def readC (xs : List Nat) : List Nat × Int := if formB xs = true then fitC (dread xs 0) else ([], 11)

theorem formB_dig {xs : List Nat} (h : formB xs = true) {k : Nat} (hk : k < xs.length) : 48 ≤ nth xs k ∧ nth xs k ≤ 57 := by
  unfold formB at h
  rw [decide_eq_true_eq] at h
  exact h.2.2 _ (by rw [nth_eq hk]; exact List.getElem_mem _)

set_option maxRecDepth 100000 in
set_option maxHeartbeats 2000000 in
theorem Read_any (w : World) (xs : List Nat) (hb : ∀ x ∈ xs, x < 256) (hn : xs.length ≤ 1099511627776) :
    Calls Tryz.prog 81 #[.string (strB xs)] w (RetN w (readC xs)) := by
  obtain ⟨r, hr0⟩ : ∃ r, r = readC xs := ⟨_, rfl⟩
  rw [← hr0]
  have HR := Lib.hid hr0
  clear hr0
  have hsz := strB_size xs
  have mk : ∀ w, (Instr.makeSlice 22 (.int .i64 0) (.int .i64 97)).run Tryz.prog w = .ok (.slice (some ⟨w.heap.size, 0, none⟩) 0 97) (w.alloc (.cells (zeros .u32 97) 49)) := fun w => run_zeros_cap etN 97 (by decide) (by decide) w
  have ho0 := Ow.made .u32 49 w 97 (by decide)
  go_enter Tryz.func81, Tryz.ntmps81
  go_wp2_with fail
  refine (form_any _ xs hb hn).mono ?_
  rintro e w1 ⟨rfl, rfl⟩
  by_cases hf : formB xs = true
  · have HF := Lib.hid hf
    have e1 := Lib.hid (show r = fitC (dread xs 0) by rw [HR.out, readC, if_pos hf])
    rw [hf]
    clear hf
    go_wp2_with fail
    go_loopw [4, 15] (fun v i wr => ∃ (k : Nat) (b : Option Addr) (n c : Nat) (us : List Nat), k ≤ xs.length ∧ i = .int .i64 (k : Nat) ∧ v = .slice b n c ∧ Ow .u32 49 w.heap.size wr b n c us ∧ n ≤ 96 ∧ Hid (us = limbs (dread (xs.take k) 0)) ∧ Below w.heap.size w wr) (fun _ i _ => xs.length - (intOf i).toNat)
    case atStart => exact ⟨0, _, 0, 97, [], Nat.zero_le _, rfl, rfl, ho0, by decide, Lib.hid (by rw [List.take_zero, dread, limbs_zero]), (Below.refl _ _).alloc (Nat.le_refl _) _⟩
    case round =>
      obtain ⟨k, b, n, c, us, hk, rfl, rfl, ho, hn96, hU, hb0⟩ := hrel
      by_cases hlt : k < xs.length
      · have hatk := strB_at hb k
        obtain ⟨h48, h57⟩ := formB_dig HF.out hlt
        obtain ⟨x0, hx0⟩ : ∃ x, x = nth xs k := ⟨_, rfl⟩
        have hds := Lib.hid (dread_take_succ hlt)
        rw [← hx0] at hatk h48 h57 hds
        obtain ⟨d, rfl⟩ : ∃ d, x0 = d + 48 := ⟨x0 - 48, by omega⟩
        have hd10 : d < 10 := by omega
        rw [Nat.add_sub_cancel] at hds
        clear hx0
        have HUL := Lib.hid ho.len
        have hT0 := Lib.hid (Ten.start (us := us) (show small32 us from ho.bd) hd10)
        go_wp2_with fail
        go_loopw [6, 25] (fun v i wz => ∃ (j c' : Nat) (out : List Nat), j ≤ n ∧ i = .int .i64 (j : Nat) ∧ v = .int .u64 (c' : Nat) ∧ c' < 10 ∧ Hid (Ten us out d j c') ∧ Ow .u32 49 w.heap.size wz b n c out ∧ Below w.heap.size w wz) (fun _ i _ => n - (intOf i).toNat)
        case atStart => exact ⟨0, d, us, Nat.zero_le _, rfl, by go_num, hd10, hT0, ho, hb0⟩
        case round =>
          obtain ⟨j, c', out, hj, rfl, rfl, hc', hT, ho', hb'⟩ := hrel
          by_cases hjn : j < n
          · obtain ⟨g, rfl, hg1, hg2⟩ := ho'.where (by omega)
            have hcell := ho'.at j hjn
            have hfree := ho'.free j
            have b2 := small32_nth hT.out.small j
            have hT2 := Lib.hid (hT.out.step (show j < us.length by rw [HUL.out]; exact hjn))
            have hv : ((c' : Int) + (nth out j : Int) * 10) % 4294967296 = (((c' + nth out j * 10) % 4294967296 : Nat) : Int) := by omega
            have hw := Lib.hid (show ((c' : Int) + (nth out j : Int) * 10) / 4294967296 = (((c' + nth out j * 10) / 4294967296 : Nat) : Int) by omega)
            have HO : Hid (Ow .u32 49 w.heap.size (wr.setCell ⟨g, j, none⟩ (.int .u32 (((c' : Int) + (nth out j : Int) * 10) % 4294967296))) (some ⟨g, 0, none⟩) n c (out.set j ((c' + nth out j * 10) % 4294967296))) := by
              rw [hv]
              exact Lib.hid (ho'.set j _ (Nat.mod_lt _ (by decide)))
            have HB := Lib.hid (hb'.setCell (p := ⟨g, j, none⟩) (by show w.heap.size ≤ g; omega) (.int .u32 (((c' : Int) + (nth out j : Int) * 10) % 4294967296)))
            clear hv
            go_wp2_with fail
            go_roundw
            case rel => exact ⟨j + 1, _, _, by omega, by go_num, by rw [hw.out], hT2.out.lt, hT2, HO.out, HB.out⟩
            case measure => simp [intOf]; omega
          · obtain rfl : j = n := by omega
            have hT2 := hT.out
            rw [← HUL.out] at hT2
            have hdn := hT2.done hU.out
            rw [← hds.out] at hdn
            have hbz := hb'.size
            by_cases hc0 : c' = 0
            · have hout := Lib.hid (hdn.1 hc0)
              subst hc0
              clear hdn hT2
              go_wp2_with fail
              go_roundw
              case rel => exact ⟨k + 1, b, j, c, out, by omega, by go_num, rfl, ho', hn96, hout, hb'⟩
              case measure => simp [intOf]; omega
            · have hout := Lib.hid (hdn.2 hc0)
              clear hdn hT2
              by_cases hj96 : j + 1 ≤ 96
              all_goals
                go_wp2_with (at_builtin; refine wpList_app rfl _ _ 22 rfl etN w.heap.size rfl (ho'.own.alloc _) rfl rfl (sl_new wr _ 49 rfl) (by unfold maxLen; omega) (by omega) (by simp; omega) ?_; intro a' cap' w' hown hg hbw)
                have ho2 : Ow .u32 49 w.heap.size w' a' (j + 1) cap' (out ++ [c']) := by
                  refine ⟨by simp [ho'.len], by rw [nums_append]; exact hown, fun x hx => ?_⟩
                  rw [List.mem_append] at hx
                  rcases hx with hx | hx
                  · exact ho'.bd x hx
                  · simp at hx; subst hx; show _ < 4294967296; omega
                have hbn := hb'.trans (((Below.refl w.heap.size wr).alloc hbz _).trans hbw)
                clear hown hg hbw ho'
              · go_roundw
                case rel => exact ⟨k + 1, a', j + 1, cap', out ++ [c'], by omega, by go_num, rfl, ho2, hj96, hout, hbn⟩
                case measure => simp [intOf]; omega
              · have e2 := Lib.hid (show r = ([], 30) by
                  have hl := congrArg List.length hout.out
                  rw [ho2.len] at hl
                  have hm := limbs_len_mono (dread_mono (xs := xs) (k := k + 1) (by omega))
                  rw [e1.out, fitC, if_pos (by omega)])
                go_ret2
                rw [e2.out]
                exact ⟨none, 0, 0, rfl, Rd.nil _ _, hbn⟩
      · obtain rfl : k = xs.length := by omega
        have hu2 := hU.out
        rw [List.take_of_length_le (Nat.le_refl _)] at hu2
        have e2 := Lib.hid (show r = (us, 0) by
          rw [e1.out, fitC, ← hu2, if_neg (by rw [ho.len]; omega)])
        clear hu2
        have hle := ho.rd.le
        have hA : n = 0 ∨ ∃ g off, b = some ⟨g, off, none⟩ := by
          rcases Nat.eq_zero_or_pos n with h | h
          · exact .inl h
          · obtain ⟨g, e, _⟩ := ho.where h
            exact .inr ⟨g, 0, e⟩
        have hR : Rd .u32 wr b n n us := by
          rcases Nat.eq_zero_or_pos n with h | h
          · subst h
            rw [List.eq_nil_of_length_eq_zero ho.len]
            exact ⟨rfl, Sl.empty _ _ _ (Nat.zero_le _) (fun _ => rfl), fun x hx => by simp at hx⟩
          · obtain ⟨g, rfl, _⟩ := ho.where h
            have := ho.rd.part 0 n n (Nat.zero_le _) (Nat.le_refl _) (Nat.le_refl _) hle 0 (fun _ => rfl)
            rw [List.take_of_length_le (by rw [ho.len]; exact Nat.le_refl _)] at this
            simpa using this
        go_wp2_with (with_reducible refine wpList_upto3A rfl _ _ _ _ rfl etN rfl rfl rfl n n rfl rfl (Nat.le_refl _) hle hA ?_)
        go_ret2
        rw [e2.out]
        exact ⟨b, n, n, rfl, hR, hb0⟩
  · have e1 := Lib.hid (show r = ([], 11) by rw [HR.out, readC, if_neg hf])
    have hf2 : formB xs = false := by simpa using hf
    rw [hf2]
    clear hf hf2
    go_wp2_with fail
    go_ret2
    rw [e1.out]
    exact ⟨none, 0, 0, rfl, Rd.nil _ _, Below.refl _ _⟩

end Go.Proofs.YtdaajeklnhbhjaaGreatDoor
