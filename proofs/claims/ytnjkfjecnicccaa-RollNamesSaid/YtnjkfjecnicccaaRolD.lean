/- Same and at of the document. No condition. -/
import Derived.Test.YtnjkfjecnicccaaRolC
namespace Go.Proofs.Ytnjkfjecnicccaa
open Go.RowKit Go.Suf
set_option linter.unusedVariables false
set_option linter.unusedSimpArgs false

theorem vs_ext {us vs : List VQ} (hl : us.length = vs.length) (h : ∀ k, k < us.length → vth us k = vth vs k) : us = vs := by
  apply List.ext_getElem hl
  intro k h1 h2
  have := h k h1
  rwa [vth_eq h1, vth_eq h2] at this

def findV (vs : List VQ) (s : ByteArray) : Option Nat := (List.range vs.length).find? fun i => eqS (vth vs i).nm s
theorem findV_at {vs : List VQ} {s : ByteArray} {i : Nat} (hi : i < vs.length) (he : (vth vs i).nm = s) (hn : ∀ k, k < i → (vth vs k).nm ≠ s) : findV vs s = some i := by
  unfold findV
  rw [List.find?_eq_some_iff_getElem]
  refine ⟨eqS_iff.2 he, i, by simpa using hi, by simp, fun k hk => ?_⟩
  simp only [List.getElem_range, Bool.not_eq_true']
  cases h : eqS (vth vs k).nm s
  · rfl
  · exact absurd (eqS_iff.1 h) (hn k hk)
theorem findV_none {vs : List VQ} {s : ByteArray} (hn : ∀ k, k < vs.length → (vth vs k).nm ≠ s) : findV vs s = none := by
  unfold findV
  rw [List.find?_eq_none]
  intro k hk h
  exact hn k (List.mem_range.1 hk) (eqS_iff.1 h)
def atV (vs : List VQ) (s : ByteArray) : Int := match findV vs s with
  | some i => (i : Int)
  | none => -1

set_option maxHeartbeats 1000000 in
theorem at_any (w : World) {a : Option Addr} {n cap : Nat} {vs : List VQ} (h : RdV w a n cap vs) (s : ByteArray) :
    Calls Try.prog 35 #[.slice a n cap, .string s] w fun e w' => e = .returned (.int .i64 (atV vs s)) ∧ Below w.heap.size w w' := by
  have hn := h.lt
  have HL := Lib.hid h.len
  obtain ⟨r, hr⟩ : ∃ r, r = atV vs s := ⟨_, rfl⟩
  rw [← hr]
  have HR := Lib.hid hr
  clear hr
  go_enter Try.func35, Try.ntmps35
  go_wp2_with fail
  go_loop [5] (fun j => ∃ i, i ≤ n ∧ j = .int .i64 (i : Nat) ∧ Hid (∀ k, k < i → (vth vs k).nm ≠ s)) (fun j => n - (intOf j).toNat)
  case atStart => exact ⟨0, Nat.zero_le _, rfl, Lib.hid fun k hk => absurd hk (by omega)⟩
  case round =>
    obtain ⟨i, hi, rfl, hS⟩ := hrel
    by_cases hlt : i < n
    case neg =>
      obtain rfl : i = n := by omega
      have HE := Lib.hid (findV_none (vs := vs) (s := s) (fun k hk => hS.out k (by rw [← HL.out]; exact hk)))
      go_wp2_with fail
      go_ret
      exact ⟨by rw [HR.out, atV, HE.out]; rfl, Below.refl _ _⟩
    case pos =>
      obtain ⟨b, off, rfl, hc⟩ := h.addr (by omega)
      obtain ⟨k0, k1, k2⟩ := hc i hlt
      clear hc
      by_cases hg : (vth vs i).nm = s
      case pos =>
        have HE := Lib.hid (findV_at (by rw [HL.out]; exact hlt) hg hS.out)
        have hq : ((vth vs i).nm.toList == s.toList) = true := by rw [hg]; simp
        go_wp2_with fail
        go_ret
        exact ⟨by rw [HR.out, atV, HE.out]; rfl, Below.refl _ _⟩
      case neg =>
        have hq : ((vth vs i).nm.toList == s.toList) = false := by
          cases h : ((vth vs i).nm.toList == s.toList)
          · rfl
          · exact absurd (eqS_iff.1 h) hg
        have HG := Lib.hid hg
        clear hg
        go_wp2_with fail
        go_round
        case rel => exact ⟨i + 1, by omega, by go_num, Lib.hid fun k hk => by
                      by_cases hki : k < i
                      · exact hS.out k hki
                      · obtain rfl : k = i := by omega
                        exact HG.out⟩
        case measure => simp [intOf]; omega

theorem vq_ext {u v : VQ} (h1 : u.nm = v.nm) (h2 : u.pc = v.pc) (h3 : u.st = v.st) : u = v := by cases u; cases v; simp_all

set_option maxHeartbeats 2000000 in
theorem Same_any (w : World) {a a' : Option Addr} {n n' cap cap' : Nat} {us vs : List VQ} (h : RdV w a n cap us) (h' : RdV w a' n' cap' vs) :
    Calls Try.prog 15 #[.slice a n cap, .slice a' n' cap'] w fun e w' => e = .returned (.bool (decide (us = vs))) ∧ Below w.heap.size w w' := by
  have hn := h.lt
  have hn' := h'.lt
  have HL := Lib.hid h.len
  have HL' := Lib.hid h'.len
  obtain ⟨r, hr⟩ : ∃ r, r = decide (us = vs) := ⟨_, rfl⟩
  rw [← hr]
  have HR := Lib.hid hr
  clear hr
  go_enter Try.func15, Try.ntmps15
  by_cases hne : n = n'
  case neg =>
    have HE : Hid (decide (us = vs) = false) := Lib.hid (decide_eq_false fun e => hne (by rw [← HL.out, ← HL'.out, e]))
    go_wp2_with fail
    go_ret
    exact ⟨by rw [HR.out, HE.out]; rfl, Below.refl _ _⟩
  subst hne
  go_wp2_with fail
  go_loopw [5] (fun j wr => ∃ i, i ≤ n ∧ j = .int .i64 (i : Nat) ∧ Below w.heap.size w wr ∧ Hid (∀ k, k < i → vth us k = vth vs k)) (fun j _ => n - (intOf j).toNat)
  case atStart => exact ⟨0, Nat.zero_le _, rfl, Below.refl _ _, Lib.hid fun k hk => absurd hk (by omega)⟩
  case round =>
    rename_i wr _
    obtain ⟨i, hi, rfl, hb, hS⟩ := hrel
    by_cases hlt : i < n
    case neg =>
      obtain rfl : i = n := by omega
      have HE : Hid (decide (us = vs) = true) := Lib.hid (decide_eq_true (vs_ext (by rw [HL.out, HL'.out]) (fun k hk => hS.out k (by rw [← HL.out]; exact hk))))
      go_wp2_with fail
      go_ret
      exact ⟨by rw [HR.out, HE.out]; rfl, hb⟩
    case pos =>
      obtain ⟨b, off, rfl, hc⟩ := (h.below hb).addr (by omega)
      obtain ⟨b', off', rfl, hc'⟩ := (h'.below hb).addr (by omega)
      obtain ⟨k0, k1, k2⟩ := hc i hlt
      obtain ⟨k0', k1', k2'⟩ := hc' i hlt
      clear hc hc'
      have HU := Lib.hid (rfl : vth us i = vth us i)
      obtain ⟨u, hu⟩ : ∃ u, vth us i = u := ⟨_, rfl⟩
      obtain ⟨v, hv⟩ : ∃ v, vth vs i = v := ⟨_, rfl⟩
      rw [hu] at k0 k1 k2
      rw [hv] at k0' k1' k2'
      have HU := Lib.hid hu
      have HV := Lib.hid hv
      clear hu hv
      have hlw : decide (((i : Nat) : Int) < (n : Int)) = true := decide_eq_true (by omega)
      by_cases e : u = v
      case pos =>
        subst e
        have HE : Hid (vth us i = vth vs i) := Lib.hid (HU.out.trans HV.out.symm)
        have HB := Lib.hid (hb.trans ((Below.refl _ wr).drew.mono hb.size))
        clear HU HV
        go_upto_region 6 with fail
        have D0 : Below wr.heap.size wr wr.drew := (Below.refl _ _).drew
        refine wp_region_held_drew (S := (fun w' => w'.cell? ⟨b, off + i * 3, none⟩ = some (.string u.nm) ∧ w'.cell? ⟨b, off + i * 3 + 1, none⟩ = some (.int .i64 u.pc) ∧ w'.cell? ⟨b, off + i * 3 + 2, none⟩ = some (.int .u8 ((u.st : Nat) : Int)) ∧ w'.cell? ⟨b', off' + i * 3, none⟩ = some (.string u.nm) ∧ w'.cell? ⟨b', off' + i * 3 + 1, none⟩ = some (.int .i64 u.pc) ∧ w'.cell? ⟨b', off' + i * 3 + 2, none⟩ = some (.int .u8 ((u.st : Nat) : Int)) ∧ True)) (by kernel_rfl) ?_ (fun hHeld => ?_)
        · exact ⟨cell_below D0 k0, cell_below D0 k1, cell_below D0 k2, cell_below D0 k0', cell_below D0 k1', cell_below D0 k2', trivial⟩
        clear D0
        refine wpAnyH_take (i := 0) (oi := ?oir1_0) (v := ?vr1_0) ?hir1_0 (by kernel_rfl) (by kernel_rfl) (by kernel_rfl) ?hqr1_0 ?hyr1_0 (by assumption) ?restr1_0
        case hir1_0 => simp only [List.getElem?_toArray, List.getElem?_cons_succ, List.getElem?_cons_zero]; rfl
        case hqr1_0 => exact fun _ _ _ h => h
        case hyr1_0 => (refine Or.inl ⟨by rfl, ?_⟩; intro w hSw; (try dsimp only at hSw); go_simp; all_goals with_reducible rfl)
        try simp only [Act.put, List.setIfInBounds_toArray, List.set_cons_zero, List.set_cons_succ]
        refine wpAnyH_take (i := 1) (oi := ?oir1_1) (v := ?vr1_1) ?hir1_1 (by kernel_rfl) (by kernel_rfl) (by kernel_rfl) ?hqr1_1 ?hyr1_1 (by assumption) ?restr1_1
        case hir1_1 => simp only [List.getElem?_toArray, List.getElem?_cons_succ, List.getElem?_cons_zero]; rfl
        case hqr1_1 => exact fun _ _ _ h => h
        case hyr1_1 => (refine Or.inl ⟨by rfl, ?_⟩; intro w hSw; (try dsimp only at hSw); go_simp; all_goals with_reducible rfl)
        try simp only [Act.put, List.setIfInBounds_toArray, List.set_cons_zero, List.set_cons_succ]
        refine wpAnyH_take (i := 2) (oi := ?oir1_2) (v := ?vr1_2) ?hir1_2 (by kernel_rfl) (by kernel_rfl) (by kernel_rfl) ?hqr1_2 ?hyr1_2 (by assumption) ?restr1_2
        case hir1_2 => simp only [List.getElem?_toArray, List.getElem?_cons_succ, List.getElem?_cons_zero]; rfl
        case hqr1_2 => exact fun _ _ _ h => h
        case hyr1_2 => (refine Or.inl ⟨by rfl, ?_⟩; intro w hSw; (try dsimp only at hSw); go_simp; all_goals with_reducible rfl)
        try simp only [Act.put, List.setIfInBounds_toArray, List.set_cons_zero, List.set_cons_succ]
        refine wpAnyH_take (i := 3) (oi := ?oir1_3) (v := ?vr1_3) ?hir1_3 (by kernel_rfl) (by kernel_rfl) (by kernel_rfl) ?hqr1_3 ?hyr1_3 (by assumption) ?restr1_3
        case hir1_3 => simp only [List.getElem?_toArray, List.getElem?_cons_succ, List.getElem?_cons_zero]; rfl
        case hqr1_3 => exact fun _ _ _ h => h
        case hyr1_3 => (refine Or.inl ⟨by rfl, ?_⟩; intro w hSw; (try dsimp only at hSw); go_simp; all_goals with_reducible rfl)
        try simp only [Act.put, List.setIfInBounds_toArray, List.set_cons_zero, List.set_cons_succ]
        refine wpAnyH_take (i := 4) (oi := ?oir1_4) (v := ?vr1_4) ?hir1_4 (by kernel_rfl) (by kernel_rfl) (by kernel_rfl) ?hqr1_4 ?hyr1_4 (by assumption) ?restr1_4
        case hir1_4 => simp only [List.getElem?_toArray, List.getElem?_cons_succ, List.getElem?_cons_zero]; rfl
        case hqr1_4 => exact fun _ _ _ h => h
        case hyr1_4 => (refine Or.inl ⟨by rfl, ?_⟩; intro w hSw; (try dsimp only at hSw); go_simp; all_goals with_reducible rfl)
        try simp only [Act.put, List.setIfInBounds_toArray, List.set_cons_zero, List.set_cons_succ]
        refine wpAnyH_take (i := 5) (oi := ?oir1_5) (v := ?vr1_5) ?hir1_5 (by kernel_rfl) (by kernel_rfl) (by kernel_rfl) ?hqr1_5 ?hyr1_5 (by assumption) ?restr1_5
        case hir1_5 => simp only [List.getElem?_toArray, List.getElem?_cons_succ, List.getElem?_cons_zero]; rfl
        case hqr1_5 => exact fun _ _ _ h => h
        case hyr1_5 => (refine Or.inl ⟨by rfl, ?_⟩; intro w hSw; (try dsimp only at hSw); go_simp; all_goals with_reducible rfl)
        try simp only [Act.put, List.setIfInBounds_toArray, List.set_cons_zero, List.set_cons_succ]
        refine wpAnyH_take (i := 6) (oi := ?oir1_6) (v := ?vr1_6) ?hir1_6 (by kernel_rfl) (by kernel_rfl) (by kernel_rfl) ?hqr1_6 ?hyr1_6 (by assumption) ?restr1_6
        case hir1_6 => simp only [List.getElem?_toArray, List.getElem?_cons_succ, List.getElem?_cons_zero]; rfl
        case hqr1_6 => exact fun _ _ _ h => h
        case hyr1_6 => (refine Or.inl ⟨by rfl, ?_⟩; intro w hSw; (try dsimp only at hSw); go_simp; all_goals with_reducible rfl)
        try simp only [Act.put, List.setIfInBounds_toArray, List.set_cons_zero, List.set_cons_succ]
        refine wpAnyH_take (i := 7) (oi := ?oir1_7) (v := ?vr1_7) ?hir1_7 (by kernel_rfl) (by kernel_rfl) (by kernel_rfl) ?hqr1_7 ?hyr1_7 (by assumption) ?restr1_7
        case hir1_7 => simp only [List.getElem?_toArray, List.getElem?_cons_succ, List.getElem?_cons_zero]; rfl
        case hqr1_7 => exact fun _ _ _ h => h
        case hyr1_7 => (refine Or.inl ⟨by rfl, ?_⟩; intro w hSw; (try dsimp only at hSw); go_simp; all_goals with_reducible rfl)
        try simp only [Act.put, List.setIfInBounds_toArray, List.set_cons_zero, List.set_cons_succ]
        refine wpAnyH_take (i := 8) (oi := ?oir1_8) (v := ?vr1_8) ?hir1_8 (by kernel_rfl) (by kernel_rfl) (by kernel_rfl) ?hqr1_8 ?hyr1_8 (by assumption) ?restr1_8
        case hir1_8 => simp only [List.getElem?_toArray, List.getElem?_cons_succ, List.getElem?_cons_zero]; rfl
        case hqr1_8 => exact fun _ _ _ h => h
        case hyr1_8 => (refine Or.inl ⟨by rfl, ?_⟩; intro w hSw; (try dsimp only at hSw); go_simp; all_goals with_reducible rfl)
        try simp only [Act.put, List.setIfInBounds_toArray, List.set_cons_zero, List.set_cons_succ]
        refine wpAnyH_done (by kernel_rfl) ?_ _
        clear hHeld
        go_wp2_with fail
        go_roundw
        case rel => exact ⟨i + 1, by omega, by go_num, HB.out, Lib.hid fun k hk => by
                      by_cases hki : k < i
                      · exact hS.out k hki
                      · obtain rfl : k = i := by omega
                        exact HE.out⟩
        case measure => simp [intOf]; omega
      case neg =>
        have HE : Hid (decide (us = vs) = false) := Lib.hid (decide_eq_false fun e' => e (by rw [← HU.out, ← HV.out, e']))
        obtain ⟨b0, q0⟩ : ∃ b0, (u.nm.toList == v.nm.toList) = b0 := ⟨_, rfl⟩
        obtain ⟨b1, q1⟩ : ∃ b1, (u.pc == v.pc) = b1 := ⟨_, rfl⟩
        obtain ⟨b2, q2⟩ : ∃ b2, (((u.st : Nat) : Int) == ((v.st : Nat) : Int)) = b2 := ⟨_, rfl⟩
        have hx : ¬ (b0 = true ∧ b1 = true ∧ b2 = true) := by
          rintro ⟨rfl, rfl, rfl⟩
          exact e (vq_ext (eqS_iff.1 q0) (by simpa using q1) (by have := eq_of_beq q2; omega))
        clear e
        have HB := Lib.hid (hb.trans ((Below.refl _ wr).drew.mono hb.size))
        clear HU HV
        go_upto_region 6 with fail
        cases b0 with
        | false =>
          clear hx q1 q2
          have D0 : Below wr.heap.size wr wr.drew := (Below.refl _ _).drew
          refine wp_region_held_drew (S := (fun w' => w'.cell? ⟨b, off + i * 3, none⟩ = some (.string u.nm) ∧ w'.cell? ⟨b, off + i * 3 + 1, none⟩ = some (.int .i64 u.pc) ∧ w'.cell? ⟨b, off + i * 3 + 2, none⟩ = some (.int .u8 ((u.st : Nat) : Int)) ∧ w'.cell? ⟨b', off' + i * 3, none⟩ = some (.string v.nm) ∧ w'.cell? ⟨b', off' + i * 3 + 1, none⟩ = some (.int .i64 v.pc) ∧ w'.cell? ⟨b', off' + i * 3 + 2, none⟩ = some (.int .u8 ((v.st : Nat) : Int)) ∧ True)) (by kernel_rfl) ?_ (fun hHeld => ?_)
          · exact ⟨cell_below D0 k0, cell_below D0 k1, cell_below D0 k2, cell_below D0 k0', cell_below D0 k1', cell_below D0 k2', trivial⟩
          clear D0
          refine wpAnyH_take (i := 0) (oi := ?oir2_0) (v := ?vr2_0) ?hir2_0 (by kernel_rfl) (by kernel_rfl) (by kernel_rfl) ?hqr2_0 ?hyr2_0 (by assumption) ?restr2_0
          case hir2_0 => simp only [List.getElem?_toArray, List.getElem?_cons_succ, List.getElem?_cons_zero]; rfl
          case hqr2_0 => exact fun _ _ _ h => h
          case hyr2_0 => (refine Or.inl ⟨by rfl, ?_⟩; intro w hSw; (try dsimp only at hSw); go_simp; all_goals with_reducible rfl)
          try simp only [Act.put, List.setIfInBounds_toArray, List.set_cons_zero, List.set_cons_succ]
          refine wpAnyH_take (i := 1) (oi := ?oir2_1) (v := ?vr2_1) ?hir2_1 (by kernel_rfl) (by kernel_rfl) (by kernel_rfl) ?hqr2_1 ?hyr2_1 (by assumption) ?restr2_1
          case hir2_1 => simp only [List.getElem?_toArray, List.getElem?_cons_succ, List.getElem?_cons_zero]; rfl
          case hqr2_1 => exact fun _ _ _ h => h
          case hyr2_1 => (refine Or.inl ⟨by rfl, ?_⟩; intro w hSw; (try dsimp only at hSw); go_simp; all_goals with_reducible rfl)
          try simp only [Act.put, List.setIfInBounds_toArray, List.set_cons_zero, List.set_cons_succ]
          refine wpAnyH_take (i := 2) (oi := ?oir2_2) (v := ?vr2_2) ?hir2_2 (by kernel_rfl) (by kernel_rfl) (by kernel_rfl) ?hqr2_2 ?hyr2_2 (by assumption) ?restr2_2
          case hir2_2 => simp only [List.getElem?_toArray, List.getElem?_cons_succ, List.getElem?_cons_zero]; rfl
          case hqr2_2 => exact fun _ _ _ h => h
          case hyr2_2 => (refine Or.inl ⟨by rfl, ?_⟩; intro w hSw; (try dsimp only at hSw); go_simp; all_goals with_reducible rfl)
          try simp only [Act.put, List.setIfInBounds_toArray, List.set_cons_zero, List.set_cons_succ]
          refine wpAnyH_take (i := 3) (oi := ?oir2_3) (v := ?vr2_3) ?hir2_3 (by kernel_rfl) (by kernel_rfl) (by kernel_rfl) ?hqr2_3 ?hyr2_3 (by assumption) ?restr2_3
          case hir2_3 => simp only [List.getElem?_toArray, List.getElem?_cons_succ, List.getElem?_cons_zero]; rfl
          case hqr2_3 => exact fun _ _ _ h => h
          case hyr2_3 => (refine Or.inl ⟨by rfl, ?_⟩; intro w hSw; (try dsimp only at hSw); go_simp; all_goals with_reducible rfl)
          try simp only [Act.put, List.setIfInBounds_toArray, List.set_cons_zero, List.set_cons_succ]
          refine wpAnyH_take (i := 4) (oi := ?oir2_4) (v := ?vr2_4) ?hir2_4 (by kernel_rfl) (by kernel_rfl) (by kernel_rfl) ?hqr2_4 ?hyr2_4 (by assumption) ?restr2_4
          case hir2_4 => simp only [List.getElem?_toArray, List.getElem?_cons_succ, List.getElem?_cons_zero]; rfl
          case hqr2_4 => exact fun _ _ _ h => h
          case hyr2_4 => (refine Or.inl ⟨by rfl, ?_⟩; intro w hSw; (try dsimp only at hSw); go_simp; all_goals with_reducible rfl)
          try simp only [Act.put, List.setIfInBounds_toArray, List.set_cons_zero, List.set_cons_succ]
          refine wpAnyH_take (i := 5) (oi := ?oir2_5) (v := ?vr2_5) ?hir2_5 (by kernel_rfl) (by kernel_rfl) (by kernel_rfl) ?hqr2_5 ?hyr2_5 (by assumption) ?restr2_5
          case hir2_5 => simp only [List.getElem?_toArray, List.getElem?_cons_succ, List.getElem?_cons_zero]; rfl
          case hqr2_5 => exact fun _ _ _ h => h
          case hyr2_5 => (refine Or.inl ⟨by rfl, ?_⟩; intro w hSw; (try dsimp only at hSw); go_simp; all_goals with_reducible rfl)
          try simp only [Act.put, List.setIfInBounds_toArray, List.set_cons_zero, List.set_cons_succ]
          refine wpAnyH_take (i := 6) (oi := ?oir2_6) (v := ?vr2_6) ?hir2_6 (by kernel_rfl) (by kernel_rfl) (by kernel_rfl) ?hqr2_6 ?hyr2_6 (by assumption) ?restr2_6
          case hir2_6 => simp only [List.getElem?_toArray, List.getElem?_cons_succ, List.getElem?_cons_zero]; rfl
          case hqr2_6 => exact fun _ _ _ h => h
          case hyr2_6 => (refine Or.inl ⟨by rfl, ?_⟩; intro w hSw; (try dsimp only at hSw); go_simp; all_goals with_reducible rfl)
          try simp only [Act.put, List.setIfInBounds_toArray, List.set_cons_zero, List.set_cons_succ]
          refine wpAnyH_take (i := 7) (oi := ?oir2_7) (v := ?vr2_7) ?hir2_7 (by kernel_rfl) (by kernel_rfl) (by kernel_rfl) ?hqr2_7 ?hyr2_7 (by assumption) ?restr2_7
          case hir2_7 => simp only [List.getElem?_toArray, List.getElem?_cons_succ, List.getElem?_cons_zero]; rfl
          case hqr2_7 => exact fun _ _ _ h => h
          case hyr2_7 => (refine Or.inl ⟨by rfl, ?_⟩; intro w hSw; (try dsimp only at hSw); go_simp; all_goals with_reducible rfl)
          try simp only [Act.put, List.setIfInBounds_toArray, List.set_cons_zero, List.set_cons_succ]
          refine wpAnyH_take (i := 8) (oi := ?oir2_8) (v := ?vr2_8) ?hir2_8 (by kernel_rfl) (by kernel_rfl) (by kernel_rfl) ?hqr2_8 ?hyr2_8 (by assumption) ?restr2_8
          case hir2_8 => simp only [List.getElem?_toArray, List.getElem?_cons_succ, List.getElem?_cons_zero]; rfl
          case hqr2_8 => exact fun _ _ _ h => h
          case hyr2_8 => (refine Or.inl ⟨by rfl, ?_⟩; intro w hSw; (try dsimp only at hSw); go_simp; all_goals with_reducible rfl)
          try simp only [Act.put, List.setIfInBounds_toArray, List.set_cons_zero, List.set_cons_succ]
          refine wpAnyH_done (by kernel_rfl) ?_ _
          clear hHeld
          go_wp2_with fail
          go_ret
          exact ⟨by rw [HR.out, HE.out]; rfl, HB.out⟩
        | true =>
          cases b1 with
          | false =>
            clear hx q2
            have D0 : Below wr.heap.size wr wr.drew := (Below.refl _ _).drew
            refine wp_region_held_drew (S := (fun w' => w'.cell? ⟨b, off + i * 3, none⟩ = some (.string u.nm) ∧ w'.cell? ⟨b, off + i * 3 + 1, none⟩ = some (.int .i64 u.pc) ∧ w'.cell? ⟨b, off + i * 3 + 2, none⟩ = some (.int .u8 ((u.st : Nat) : Int)) ∧ w'.cell? ⟨b', off' + i * 3, none⟩ = some (.string v.nm) ∧ w'.cell? ⟨b', off' + i * 3 + 1, none⟩ = some (.int .i64 v.pc) ∧ w'.cell? ⟨b', off' + i * 3 + 2, none⟩ = some (.int .u8 ((v.st : Nat) : Int)) ∧ True)) (by kernel_rfl) ?_ (fun hHeld => ?_)
            · exact ⟨cell_below D0 k0, cell_below D0 k1, cell_below D0 k2, cell_below D0 k0', cell_below D0 k1', cell_below D0 k2', trivial⟩
            clear D0
            refine wpAnyH_take (i := 0) (oi := ?oir3_0) (v := ?vr3_0) ?hir3_0 (by kernel_rfl) (by kernel_rfl) (by kernel_rfl) ?hqr3_0 ?hyr3_0 (by assumption) ?restr3_0
            case hir3_0 => simp only [List.getElem?_toArray, List.getElem?_cons_succ, List.getElem?_cons_zero]; rfl
            case hqr3_0 => exact fun _ _ _ h => h
            case hyr3_0 => (refine Or.inl ⟨by rfl, ?_⟩; intro w hSw; (try dsimp only at hSw); go_simp; all_goals with_reducible rfl)
            try simp only [Act.put, List.setIfInBounds_toArray, List.set_cons_zero, List.set_cons_succ]
            refine wpAnyH_take (i := 1) (oi := ?oir3_1) (v := ?vr3_1) ?hir3_1 (by kernel_rfl) (by kernel_rfl) (by kernel_rfl) ?hqr3_1 ?hyr3_1 (by assumption) ?restr3_1
            case hir3_1 => simp only [List.getElem?_toArray, List.getElem?_cons_succ, List.getElem?_cons_zero]; rfl
            case hqr3_1 => exact fun _ _ _ h => h
            case hyr3_1 => (refine Or.inl ⟨by rfl, ?_⟩; intro w hSw; (try dsimp only at hSw); go_simp; all_goals with_reducible rfl)
            try simp only [Act.put, List.setIfInBounds_toArray, List.set_cons_zero, List.set_cons_succ]
            refine wpAnyH_take (i := 2) (oi := ?oir3_2) (v := ?vr3_2) ?hir3_2 (by kernel_rfl) (by kernel_rfl) (by kernel_rfl) ?hqr3_2 ?hyr3_2 (by assumption) ?restr3_2
            case hir3_2 => simp only [List.getElem?_toArray, List.getElem?_cons_succ, List.getElem?_cons_zero]; rfl
            case hqr3_2 => exact fun _ _ _ h => h
            case hyr3_2 => (refine Or.inl ⟨by rfl, ?_⟩; intro w hSw; (try dsimp only at hSw); go_simp; all_goals with_reducible rfl)
            try simp only [Act.put, List.setIfInBounds_toArray, List.set_cons_zero, List.set_cons_succ]
            refine wpAnyH_take (i := 3) (oi := ?oir3_3) (v := ?vr3_3) ?hir3_3 (by kernel_rfl) (by kernel_rfl) (by kernel_rfl) ?hqr3_3 ?hyr3_3 (by assumption) ?restr3_3
            case hir3_3 => simp only [List.getElem?_toArray, List.getElem?_cons_succ, List.getElem?_cons_zero]; rfl
            case hqr3_3 => exact fun _ _ _ h => h
            case hyr3_3 => (refine Or.inl ⟨by rfl, ?_⟩; intro w hSw; (try dsimp only at hSw); go_simp; all_goals with_reducible rfl)
            try simp only [Act.put, List.setIfInBounds_toArray, List.set_cons_zero, List.set_cons_succ]
            refine wpAnyH_take (i := 4) (oi := ?oir3_4) (v := ?vr3_4) ?hir3_4 (by kernel_rfl) (by kernel_rfl) (by kernel_rfl) ?hqr3_4 ?hyr3_4 (by assumption) ?restr3_4
            case hir3_4 => simp only [List.getElem?_toArray, List.getElem?_cons_succ, List.getElem?_cons_zero]; rfl
            case hqr3_4 => exact fun _ _ _ h => h
            case hyr3_4 => (refine Or.inl ⟨by rfl, ?_⟩; intro w hSw; (try dsimp only at hSw); go_simp; all_goals with_reducible rfl)
            try simp only [Act.put, List.setIfInBounds_toArray, List.set_cons_zero, List.set_cons_succ]
            refine wpAnyH_take (i := 5) (oi := ?oir3_5) (v := ?vr3_5) ?hir3_5 (by kernel_rfl) (by kernel_rfl) (by kernel_rfl) ?hqr3_5 ?hyr3_5 (by assumption) ?restr3_5
            case hir3_5 => simp only [List.getElem?_toArray, List.getElem?_cons_succ, List.getElem?_cons_zero]; rfl
            case hqr3_5 => exact fun _ _ _ h => h
            case hyr3_5 => (refine Or.inl ⟨by rfl, ?_⟩; intro w hSw; (try dsimp only at hSw); go_simp; all_goals with_reducible rfl)
            try simp only [Act.put, List.setIfInBounds_toArray, List.set_cons_zero, List.set_cons_succ]
            refine wpAnyH_take (i := 6) (oi := ?oir3_6) (v := ?vr3_6) ?hir3_6 (by kernel_rfl) (by kernel_rfl) (by kernel_rfl) ?hqr3_6 ?hyr3_6 (by assumption) ?restr3_6
            case hir3_6 => simp only [List.getElem?_toArray, List.getElem?_cons_succ, List.getElem?_cons_zero]; rfl
            case hqr3_6 => exact fun _ _ _ h => h
            case hyr3_6 => (refine Or.inl ⟨by rfl, ?_⟩; intro w hSw; (try dsimp only at hSw); go_simp; all_goals with_reducible rfl)
            try simp only [Act.put, List.setIfInBounds_toArray, List.set_cons_zero, List.set_cons_succ]
            refine wpAnyH_take (i := 7) (oi := ?oir3_7) (v := ?vr3_7) ?hir3_7 (by kernel_rfl) (by kernel_rfl) (by kernel_rfl) ?hqr3_7 ?hyr3_7 (by assumption) ?restr3_7
            case hir3_7 => simp only [List.getElem?_toArray, List.getElem?_cons_succ, List.getElem?_cons_zero]; rfl
            case hqr3_7 => exact fun _ _ _ h => h
            case hyr3_7 => (refine Or.inl ⟨by rfl, ?_⟩; intro w hSw; (try dsimp only at hSw); go_simp; all_goals with_reducible rfl)
            try simp only [Act.put, List.setIfInBounds_toArray, List.set_cons_zero, List.set_cons_succ]
            refine wpAnyH_take (i := 8) (oi := ?oir3_8) (v := ?vr3_8) ?hir3_8 (by kernel_rfl) (by kernel_rfl) (by kernel_rfl) ?hqr3_8 ?hyr3_8 (by assumption) ?restr3_8
            case hir3_8 => simp only [List.getElem?_toArray, List.getElem?_cons_succ, List.getElem?_cons_zero]; rfl
            case hqr3_8 => exact fun _ _ _ h => h
            case hyr3_8 => (refine Or.inl ⟨by rfl, ?_⟩; intro w hSw; (try dsimp only at hSw); go_simp; all_goals with_reducible rfl)
            try simp only [Act.put, List.setIfInBounds_toArray, List.set_cons_zero, List.set_cons_succ]
            refine wpAnyH_done (by kernel_rfl) ?_ _
            clear hHeld
            go_wp2_with fail
            go_ret
            exact ⟨by rw [HR.out, HE.out]; rfl, HB.out⟩
          | true =>
            obtain rfl : b2 = false := by cases b2 with
              | false => rfl
              | true => exact absurd ⟨rfl, rfl, rfl⟩ hx
            clear hx
            have D0 : Below wr.heap.size wr wr.drew := (Below.refl _ _).drew
            refine wp_region_held_drew (S := (fun w' => w'.cell? ⟨b, off + i * 3, none⟩ = some (.string u.nm) ∧ w'.cell? ⟨b, off + i * 3 + 1, none⟩ = some (.int .i64 u.pc) ∧ w'.cell? ⟨b, off + i * 3 + 2, none⟩ = some (.int .u8 ((u.st : Nat) : Int)) ∧ w'.cell? ⟨b', off' + i * 3, none⟩ = some (.string v.nm) ∧ w'.cell? ⟨b', off' + i * 3 + 1, none⟩ = some (.int .i64 v.pc) ∧ w'.cell? ⟨b', off' + i * 3 + 2, none⟩ = some (.int .u8 ((v.st : Nat) : Int)) ∧ True)) (by kernel_rfl) ?_ (fun hHeld => ?_)
            · exact ⟨cell_below D0 k0, cell_below D0 k1, cell_below D0 k2, cell_below D0 k0', cell_below D0 k1', cell_below D0 k2', trivial⟩
            clear D0
            refine wpAnyH_take (i := 0) (oi := ?oir4_0) (v := ?vr4_0) ?hir4_0 (by kernel_rfl) (by kernel_rfl) (by kernel_rfl) ?hqr4_0 ?hyr4_0 (by assumption) ?restr4_0
            case hir4_0 => simp only [List.getElem?_toArray, List.getElem?_cons_succ, List.getElem?_cons_zero]; rfl
            case hqr4_0 => exact fun _ _ _ h => h
            case hyr4_0 => (refine Or.inl ⟨by rfl, ?_⟩; intro w hSw; (try dsimp only at hSw); go_simp; all_goals with_reducible rfl)
            try simp only [Act.put, List.setIfInBounds_toArray, List.set_cons_zero, List.set_cons_succ]
            refine wpAnyH_take (i := 1) (oi := ?oir4_1) (v := ?vr4_1) ?hir4_1 (by kernel_rfl) (by kernel_rfl) (by kernel_rfl) ?hqr4_1 ?hyr4_1 (by assumption) ?restr4_1
            case hir4_1 => simp only [List.getElem?_toArray, List.getElem?_cons_succ, List.getElem?_cons_zero]; rfl
            case hqr4_1 => exact fun _ _ _ h => h
            case hyr4_1 => (refine Or.inl ⟨by rfl, ?_⟩; intro w hSw; (try dsimp only at hSw); go_simp; all_goals with_reducible rfl)
            try simp only [Act.put, List.setIfInBounds_toArray, List.set_cons_zero, List.set_cons_succ]
            refine wpAnyH_take (i := 2) (oi := ?oir4_2) (v := ?vr4_2) ?hir4_2 (by kernel_rfl) (by kernel_rfl) (by kernel_rfl) ?hqr4_2 ?hyr4_2 (by assumption) ?restr4_2
            case hir4_2 => simp only [List.getElem?_toArray, List.getElem?_cons_succ, List.getElem?_cons_zero]; rfl
            case hqr4_2 => exact fun _ _ _ h => h
            case hyr4_2 => (refine Or.inl ⟨by rfl, ?_⟩; intro w hSw; (try dsimp only at hSw); go_simp; all_goals with_reducible rfl)
            try simp only [Act.put, List.setIfInBounds_toArray, List.set_cons_zero, List.set_cons_succ]
            refine wpAnyH_take (i := 3) (oi := ?oir4_3) (v := ?vr4_3) ?hir4_3 (by kernel_rfl) (by kernel_rfl) (by kernel_rfl) ?hqr4_3 ?hyr4_3 (by assumption) ?restr4_3
            case hir4_3 => simp only [List.getElem?_toArray, List.getElem?_cons_succ, List.getElem?_cons_zero]; rfl
            case hqr4_3 => exact fun _ _ _ h => h
            case hyr4_3 => (refine Or.inl ⟨by rfl, ?_⟩; intro w hSw; (try dsimp only at hSw); go_simp; all_goals with_reducible rfl)
            try simp only [Act.put, List.setIfInBounds_toArray, List.set_cons_zero, List.set_cons_succ]
            refine wpAnyH_take (i := 4) (oi := ?oir4_4) (v := ?vr4_4) ?hir4_4 (by kernel_rfl) (by kernel_rfl) (by kernel_rfl) ?hqr4_4 ?hyr4_4 (by assumption) ?restr4_4
            case hir4_4 => simp only [List.getElem?_toArray, List.getElem?_cons_succ, List.getElem?_cons_zero]; rfl
            case hqr4_4 => exact fun _ _ _ h => h
            case hyr4_4 => (refine Or.inl ⟨by rfl, ?_⟩; intro w hSw; (try dsimp only at hSw); go_simp; all_goals with_reducible rfl)
            try simp only [Act.put, List.setIfInBounds_toArray, List.set_cons_zero, List.set_cons_succ]
            refine wpAnyH_take (i := 5) (oi := ?oir4_5) (v := ?vr4_5) ?hir4_5 (by kernel_rfl) (by kernel_rfl) (by kernel_rfl) ?hqr4_5 ?hyr4_5 (by assumption) ?restr4_5
            case hir4_5 => simp only [List.getElem?_toArray, List.getElem?_cons_succ, List.getElem?_cons_zero]; rfl
            case hqr4_5 => exact fun _ _ _ h => h
            case hyr4_5 => (refine Or.inl ⟨by rfl, ?_⟩; intro w hSw; (try dsimp only at hSw); go_simp; all_goals with_reducible rfl)
            try simp only [Act.put, List.setIfInBounds_toArray, List.set_cons_zero, List.set_cons_succ]
            refine wpAnyH_take (i := 6) (oi := ?oir4_6) (v := ?vr4_6) ?hir4_6 (by kernel_rfl) (by kernel_rfl) (by kernel_rfl) ?hqr4_6 ?hyr4_6 (by assumption) ?restr4_6
            case hir4_6 => simp only [List.getElem?_toArray, List.getElem?_cons_succ, List.getElem?_cons_zero]; rfl
            case hqr4_6 => exact fun _ _ _ h => h
            case hyr4_6 => (refine Or.inl ⟨by rfl, ?_⟩; intro w hSw; (try dsimp only at hSw); go_simp; all_goals with_reducible rfl)
            try simp only [Act.put, List.setIfInBounds_toArray, List.set_cons_zero, List.set_cons_succ]
            refine wpAnyH_take (i := 7) (oi := ?oir4_7) (v := ?vr4_7) ?hir4_7 (by kernel_rfl) (by kernel_rfl) (by kernel_rfl) ?hqr4_7 ?hyr4_7 (by assumption) ?restr4_7
            case hir4_7 => simp only [List.getElem?_toArray, List.getElem?_cons_succ, List.getElem?_cons_zero]; rfl
            case hqr4_7 => exact fun _ _ _ h => h
            case hyr4_7 => (refine Or.inl ⟨by rfl, ?_⟩; intro w hSw; (try dsimp only at hSw); go_simp; all_goals with_reducible rfl)
            try simp only [Act.put, List.setIfInBounds_toArray, List.set_cons_zero, List.set_cons_succ]
            refine wpAnyH_take (i := 8) (oi := ?oir4_8) (v := ?vr4_8) ?hir4_8 (by kernel_rfl) (by kernel_rfl) (by kernel_rfl) ?hqr4_8 ?hyr4_8 (by assumption) ?restr4_8
            case hir4_8 => simp only [List.getElem?_toArray, List.getElem?_cons_succ, List.getElem?_cons_zero]; rfl
            case hqr4_8 => exact fun _ _ _ h => h
            case hyr4_8 => (refine Or.inl ⟨by rfl, ?_⟩; intro w hSw; (try dsimp only at hSw); go_simp; all_goals with_reducible rfl)
            try simp only [Act.put, List.setIfInBounds_toArray, List.set_cons_zero, List.set_cons_succ]
            refine wpAnyH_done (by kernel_rfl) ?_ _
            clear hHeld
            go_wp2_with fail
            go_ret
            exact ⟨by rw [HR.out, HE.out]; rfl, HB.out⟩

end Go.Proofs.Ytnjkfjecnicccaa
