/- Boxes and Check of sheets, in the program and in the answer. No condition. Printed by gen_sheb.py. -/
import Derived.Test.YthpjnbnheagpiaaSheA
import Derived.BigQuiet
import Derived.Deep.CutRange
namespace Go.Proofs.Ythpjnbnheagpiaa
open Go.RowKit Go.Suf
set_option linter.unusedVariables false
set_option linter.unusedSimpArgs false

theorem wide_any (w : World) (k n : Nat) (hk : k < 256) : Calls Try.prog 22 #[.int .u8 (k : Nat), .int .i64 (n : Nat)] w fun e w' => e = .returned (.int .i64 ((wideN k n : Nat) : Int)) ∧ w = w' := by
  by_cases h1 : k = 1
  · subst h1
    go_enter Try.func22, Try.ntmps22
    go_wp2
    go_ret
    exact ⟨by simp [wideN], rfl⟩
  by_cases h3 : k = 3
  · subst h3
    go_enter Try.func22, Try.ntmps22
    go_wp2
    go_ret
    exact ⟨by simp [wideN], rfl⟩
  go_enter Try.func22, Try.ntmps22
  go_wp2
  go_ret
  exact ⟨by simp [wideN, h1, h3], rfl⟩

theorem mul_wrap {n m : Nat} (h : n * m ≤ 1000000) : IntKind.i64.wrap ((n : Int) * (m : Int)) = ((n * m : Nat) : Int) := by
  rw [← Int.natCast_mul]
  exact wrap_in (by omega) (by omega)

theorem boxes_le {ss : List ByteArray} {rule : Nat} (h : ss.length ≤ 10) : boxesN ss rule ≤ 110 := by
  unfold boxesN
  exact Nat.mul_le_mul h (wide_le h)

set_option maxRecDepth 100000 in
set_option maxHeartbeats 2000000 in
theorem Boxes_any (w : World) (nm : ByteArray) {a_s : Option Addr} {n_s c_s : Nat} {ss : List ByteArray} (h_s : RdS w a_s n_s c_s ss) (seats : Int) (hs1 : -9223372036854775808 ≤ seats) (hs2 : seats ≤ 9223372036854775807) (rule : Nat) (hr : rule < 256) : Calls Try.prog 18 #[.agg #[.string nm, .slice a_s n_s c_s, .int .i64 seats, .int .u8 ((rule : Nat) : Int)]] w (fun e w' => e = .returned (.tuple #[.int .i64 (((boxesC nm ss seats rule).1 : Nat) : Int), .int .i64 (boxesC nm ss seats rule).2]) ∧ Below w.heap.size w w') := by
  have HN := Lib.hid h_s.len
  have hns := h_s.lt
  obtain ⟨ck, hck⟩ : ∃ ck, checkC nm ss seats rule = ck := ⟨_, rfl⟩
  have HCK := Lib.hid hck
  clear hck
  obtain ⟨r, hr0⟩ : ∃ r, boxesC nm ss seats rule = r := ⟨_, rfl⟩
  rw [hr0]
  have HR := Lib.hid hr0
  clear hr0
  have B0 : Below w.heap.size w w := Below.refl _ _
  have h_s_0 := h_s
  go_enter Try.func18, Try.ntmps18
  have hb := below_al w (.cells #[.string nm, .slice a_s n_s c_s, .int .i64 seats, .int .u8 ((rule : Nat) : Int)] 24)
  have B1 := B0.trans (hb.mono B0.size)
  have h_s_1 := h_s_0.below hb
  clear hb B0 h_s_0
  have h_c_1 := PRow.new 24 w #[.string nm, .slice a_s n_s c_s, .int .i64 seats, .int .u8 ((rule : Nat) : Int)]
  have k_c_0 := h_c_1.cell 0 _ rfl
  have k_c_1 := h_c_1.cell 1 _ rfl
  have k_c_2 := h_c_1.cell 2 _ rfl
  have k_c_3 := h_c_1.cell 3 _ rfl
  go_wp2_with fail
  clear k_c_0 k_c_1 k_c_2 k_c_3
  generalize (w.alloc (.cells #[.string nm, .slice a_s n_s c_s, .int .i64 seats, .int .u8 ((rule : Nat) : Int)] 24)) = w1 at *
  have c := Check_any w1 nm h_s_1 seats hs1 hs2 rule hr
  rw [HCK.out] at c
  refine c.mono ?_
  rintro e w2 ⟨rfl, hb⟩
  clear c
  have B2 := B1.trans (hb.mono B1.size)
  have h_s_2 := h_s_1.below hb
  have h_c_2 := h_c_1.later hb
  clear hb B1 h_s_1 h_c_1
  by_cases hck : ck = 0
  case neg =>
    have e1 : (ck == (0 : Int)) = false := by simpa using hck
    have e2 : (ck != (0 : Int)) = true := by simpa using hck
    have HB := Lib.hid (show r = (0, ck) by rw [← HR.out]; unfold boxesC; rw [HCK.out, if_neg hck])
    clear hck
    go_wp2_with fail
    go_ret2
    exact ⟨by rw [HB.out]; rfl, B2⟩
  subst hck
  obtain ⟨q1, q2, q3⟩ := chk_rule HCK.out
  have HQ3 := Lib.hid q3
  have HW := Lib.hid (wide_le (k := kindN rule) q1)
  rw [HN.out] at q1 q2
  have HW := HW.out
  rw [HN.out] at HW
  have HB := Lib.hid (show r = (n_s * wideN (kindN rule) n_s, 0) by rw [← HR.out, ← HN.out]; unfold boxesC boxesN; rw [HCK.out]; rfl)
  have hmw : n_s * wideN (kindN rule) n_s ≤ 1000000 := Nat.le_trans (Nat.mul_le_mul q1 HW) (by decide)
  clear HW q3
  have k_c_0 := h_c_2.cell 0 _ rfl
  have k_c_1 := h_c_2.cell 1 _ rfl
  have k_c_2 := h_c_2.cell 2 _ rfl
  have k_c_3 := h_c_2.cell 3 _ rfl
  go_wp2_with fail
  clear k_c_0 k_c_1 k_c_2 k_c_3
  have c := Kind_any w2 rule hr
  rw [show kindC rule = (kindN rule, 0) by unfold kindC; rw [HQ3.out]; rfl] at c
  refine c.mono ?_
  rintro e w3 ⟨rfl, hb⟩
  clear c
  have B3 := B2.trans (hb.mono B2.size)
  have h_s_3 := h_s_2.below hb
  have h_c_3 := h_c_2.later hb
  clear hb B2 h_s_2 h_c_2
  obtain ⟨k, hk⟩ : ∃ k, kindN rule = k := ⟨_, rfl⟩
  have hk3 : k < 256 := by rw [← hk]; exact Nat.lt_of_le_of_lt (kind_le rule) (by decide)
  rw [hk] at hmw ⊢
  have HK := Lib.hid hk
  clear hk
  obtain ⟨wd, hwd⟩ : ∃ wd, wideN k n_s = wd := ⟨_, rfl⟩
  rw [hwd] at hmw
  have HWD := Lib.hid hwd
  clear hwd
  have hmul := mul_wrap hmw
  go_upto_region 5 with fail
  have hb := (Below.refl w3.heap.size w3).drew
  have B4 := B3.trans (hb.mono B3.size)
  have h_s_4 := h_s_3.below hb
  have h_c_4 := h_c_3.later hb
  clear hb B3 h_s_3 h_c_3
  refine wp_region_held_drew (S := (fun w' => w'.cell? ⟨w.heap.size, 0, none⟩ = some (.string nm) ∧ w'.cell? ⟨w.heap.size, 1, none⟩ = some (.slice a_s n_s c_s) ∧ w'.cell? ⟨w.heap.size, 2, none⟩ = some (.int .i64 seats) ∧ w'.cell? ⟨w.heap.size, 3, none⟩ = some (.int .u8 ((rule : Nat) : Int)) ∧ True)) (by kernel_rfl) ?_ (fun hHeld => ?_)
  · exact ⟨h_c_4.cell 0 _ rfl, h_c_4.cell 1 _ rfl, h_c_4.cell 2 _ rfl, h_c_4.cell 3 _ rfl, trivial⟩
  generalize w3.drew = w4 at *
  refine wpAnyH_take (i := 0) (oi := ?oir1_0) (v := ?vr1_0) ?hir1_0 (by kernel_rfl) (by kernel_rfl) (by kernel_rfl) ?hqr1_0 ?hyr1_0 (by assumption) ?restr1_0
  case hir1_0 => simp only [List.getElem?_toArray, List.getElem?_cons_succ, List.getElem?_cons_zero]; rfl
  case hqr1_0 => exact fun _ _ _ h => h
  case hyr1_0 => (refine Or.inl ⟨by rfl, ?_⟩; intro w hSw; (try dsimp only at hSw); go_simp; all_goals with_reducible rfl)
  try simp only [Act.put, List.setIfInBounds_toArray, List.set_cons_zero, List.set_cons_succ]
  refine wpAnyH_take (i := 1) (oi := ?oir1_1) (v := ?vr1_1) ?hir1_1 (by kernel_rfl) (by kernel_rfl) (by kernel_rfl) ?hqr1_1 ?hyr1_1 (by assumption) ?restr1_1
  case hir1_1 => simp only [List.getElem?_toArray, List.getElem?_cons_succ, List.getElem?_cons_zero]; rfl
  case hqr1_1 => exact fun _ _ _ h => h
  case hyr1_1 => (refine Or.inl ⟨by rfl, ?_⟩; intro w hSw; (try dsimp only at hSw); go_simp; all_goals with_reducible rfl)
  try simp only [Act.put, List.setIfInBounds_toArray, List.set_cons_zero, List.set_cons_succ]
  refine wpAnyH_take (i := 2) (oi := ?oir1_2) (v := ?vr1_2) ?hir1_2 (by kernel_rfl) (by kernel_rfl) (by kernel_rfl) ?hqr1_2 ?hyr1_2 (by assumption) ?restr1_2
  case hir1_2 => simp only [List.getElem?_toArray, List.getElem?_cons_succ, List.getElem?_cons_zero]; rfl
  case hqr1_2 => exact fun _ _ _ h => h
  case hyr1_2 => (refine Or.inl ⟨by rfl, ?_⟩; intro w hSw; (try dsimp only at hSw); go_simp; all_goals with_reducible rfl)
  try simp only [Act.put, List.setIfInBounds_toArray, List.set_cons_zero, List.set_cons_succ]
  refine wpAnyH_take (i := 3) (oi := ?oir1_3) (v := ?vr1_3) ?hir1_3 (by kernel_rfl) (by kernel_rfl) (by kernel_rfl) ?hqr1_3 ?hyr1_3 (by assumption) ?restr1_3
  case hir1_3 => simp only [List.getElem?_toArray, List.getElem?_cons_succ, List.getElem?_cons_zero]; rfl
  case hqr1_3 => exact fun _ _ _ h => h
  case hyr1_3 => (refine Or.inl ⟨by rfl, ?_⟩; intro w hSw; (try dsimp only at hSw); go_simp; all_goals with_reducible rfl)
  try simp only [Act.put, List.setIfInBounds_toArray, List.set_cons_zero, List.set_cons_succ]
  refine wpAnyH_take (i := 4) (oi := ?oir1_4) (v := ?vr1_4) ?hir1_4 (by kernel_rfl) (by kernel_rfl) (by kernel_rfl) ?hqr1_4 ?hyr1_4 (by assumption) ?restr1_4
  case hir1_4 => simp only [List.getElem?_toArray, List.getElem?_cons_succ, List.getElem?_cons_zero]; rfl
  case hqr1_4 => exact fun _ _ _ h => h
  case hyr1_4 => (refine Or.inl ⟨by rfl, ?_⟩; intro w hSw; (try dsimp only at hSw); go_simp; all_goals with_reducible rfl)
  try simp only [Act.put, List.setIfInBounds_toArray, List.set_cons_zero, List.set_cons_succ]
  refine wpAnyH_take (i := 5) (oi := ?oir1_5) (v := ?vr1_5) ?hir1_5 (by kernel_rfl) (by kernel_rfl) (by kernel_rfl) ?hqr1_5 ?hyr1_5 (by assumption) ?restr1_5
  case hir1_5 => simp only [List.getElem?_toArray, List.getElem?_cons_succ, List.getElem?_cons_zero]; rfl
  case hqr1_5 => exact fun _ _ _ h => h
  case hyr1_5 => (refine Or.inl ⟨by rfl, ?_⟩; intro w hSw; (try dsimp only at hSw); go_simp; all_goals with_reducible rfl)
  try simp only [Act.put, List.setIfInBounds_toArray, List.set_cons_zero, List.set_cons_succ]
  refine wpAnyH_take (i := 6) (oi := ?oir1_6) (v := ?vr1_6) ?hir1_6 (by kernel_rfl) (by kernel_rfl) (by kernel_rfl) ?hqr1_6 ?hyr1_6 (by assumption) ?restr1_6
  case hir1_6 => simp only [List.getElem?_toArray, List.getElem?_cons_succ, List.getElem?_cons_zero]; rfl
  case hqr1_6 => exact fun _ _ _ h => h
  case hyr1_6 => (refine Or.inl ⟨by rfl, ?_⟩; intro w hSw; (try dsimp only at hSw); go_simp; all_goals with_reducible rfl)
  try simp only [Act.put, List.setIfInBounds_toArray, List.set_cons_zero, List.set_cons_succ]
  refine wpAnyH_ready (rs := [7]) (by kernel_rfl) (by simp) ?_
  refine AllReadyH.cons (o := ?or2_7) ?hor2_7 (fun K hK => ?kr2_7) AllReadyH.nil
  case hor2_7 => simp only [List.getElem?_toArray, List.getElem?_cons_succ, List.getElem?_cons_zero]; rfl
  go_simp
  refine (wide_any _ k n_s hk3).mono ?_
  rintro e2 w2 ⟨rfl, hww⟩
  subst hww
  rw [HWD.out]
  go_wp2_with fail
  clear hHeld
  refine hK.out _ _ ?_ (fun hHeld => ?_)
  · exact ⟨h_c_4.cell 0 _ rfl, h_c_4.cell 1 _ rfl, h_c_4.cell 2 _ rfl, h_c_4.cell 3 _ rfl, trivial⟩
  clear hK K
  try simp only [Act.put, List.setIfInBounds_toArray, List.set_cons_zero, List.set_cons_succ]
  refine wpAnyH_take (i := 8) (oi := ?oir3_8) (v := ?vr3_8) ?hir3_8 (by kernel_rfl) (by kernel_rfl) (by kernel_rfl) ?hqr3_8 ?hyr3_8 (by assumption) ?restr3_8
  case hir3_8 => simp only [List.getElem?_toArray, List.getElem?_cons_succ, List.getElem?_cons_zero]; rfl
  case hqr3_8 => exact fun _ _ _ h => h
  case hyr3_8 => (refine Or.inl ⟨by rfl, ?_⟩; intro w hSw; (try dsimp only at hSw); go_simp; all_goals with_reducible rfl)
  try simp only [Act.put, List.setIfInBounds_toArray, List.set_cons_zero, List.set_cons_succ]
  refine wpAnyH_take (i := 9) (oi := ?oir3_9) (v := ?vr3_9) ?hir3_9 (by kernel_rfl) (by kernel_rfl) (by kernel_rfl) ?hqr3_9 ?hyr3_9 (by assumption) ?restr3_9
  case hir3_9 => simp only [List.getElem?_toArray, List.getElem?_cons_succ, List.getElem?_cons_zero]; rfl
  case hqr3_9 => exact fun _ _ _ h => h
  case hyr3_9 => (refine Or.inl ⟨by rfl, ?_⟩; intro w hSw; (try dsimp only at hSw); go_simp; all_goals with_reducible rfl)
  try simp only [Act.put, List.setIfInBounds_toArray, List.set_cons_zero, List.set_cons_succ]
  refine wpAnyH_take (i := 10) (oi := ?oir3_10) (v := ?vr3_10) ?hir3_10 (by kernel_rfl) (by kernel_rfl) (by kernel_rfl) ?hqr3_10 ?hyr3_10 (by assumption) ?restr3_10
  case hir3_10 => simp only [List.getElem?_toArray, List.getElem?_cons_succ, List.getElem?_cons_zero]; rfl
  case hqr3_10 => exact fun _ _ _ h => h
  case hyr3_10 => (refine Or.inl ⟨by rfl, ?_⟩; intro w hSw; (try dsimp only at hSw); go_simp; all_goals with_reducible rfl)
  try simp only [Act.put, List.setIfInBounds_toArray, List.set_cons_zero, List.set_cons_succ]
  refine wpAnyH_done (by kernel_rfl) ?_ _
  clear hHeld
  go_wp2_with fail
  go_ret2
  exact ⟨by rw [HB.out, HK.out, HWD.out]; rfl, B4⟩

def dkC (x : Nat) : Bool := decide (100 < x)
theorem dark_any (w : World) (n : Nat) (hn : n < 256) : Calls Try.prog 44 #[.int .u8 (n : Nat)] w fun e w' => e = .returned (.bool (dkC n)) ∧ w = w' := by
  unfold dkC
  by_cases g : 100 < n
  · go_enter Try.func44, Try.ntmps44
    go_wp2
    go_ret
    exact ⟨by simp [g]; omega, rfl⟩
  · go_enter Try.func44, Try.ntmps44
    go_wp2
    go_ret
    exact ⟨by simp [g]; omega, rfl⟩

abbrev darkV : Value := .func (.func 44) #[] #[]
set_option maxHeartbeats 1000000 in
theorem indexDark_any (w : World) {a : Option Addr} {n cap : Nat} {xs : List Nat} (h : Rd .u8 w a n cap xs) :
    Calls Try.prog 64 #[.slice a n cap, darkV] w fun e w' => e = .returned (.int .i64 (fstI (fun i => dkC (nth xs i)) n)) ∧ w = w' := by
  have hn := h.lt
  go_enter Try.func64, Try.ntmps64
  go_wp2_with fail
  go_loop [8] (fun j => ∃ i, i ≤ n ∧ j = .int .i64 (i : Nat) ∧ Hid (∀ k, k < i → dkC (nth xs k) = false)) (fun j => n - (intOf j).toNat)
  case atStart => exact ⟨0, by omega, rfl, Lib.hid fun k hk => absurd hk (by omega)⟩
  case round =>
    obtain ⟨i, hi, rfl, hS⟩ := hrel
    by_cases hlt : i < n
    · obtain ⟨b, off, rfl, hc, hb⟩ := h.cell i hlt
      have hb' : nth xs i < 256 := hb
      clear hb
      go_wp2_with fail
      refine (dark_any _ _ hb').mono ?_
      rintro e w1 ⟨rfl, rfl⟩
      cases hq : dkC (nth xs i)
      · have HQ := Lib.hid hq
        go_wp2
        go_round
        case rel => exact ⟨i + 1, by omega, by go_num, Lib.hid fun k hk => by
                      by_cases hki : k < i
                      · exact hS.out k hki
                      · obtain rfl : k = i := by omega
                        exact HQ.out⟩
        case measure => simp [intOf]; omega
      · have HQ := Lib.hid hq
        go_wp2
        go_ret
        rw [fstI_at hlt HQ.out hS.out]
        exact ⟨rfl, rfl⟩
    · obtain rfl : i = n := by omega
      go_wp2
      go_ret
      rw [fstI_none hS.out]
      exact ⟨rfl, rfl⟩

theorem containsDark_any (w : World) {a : Option Addr} {n cap : Nat} {xs : List Nat} (h : Rd .u8 w a n cap xs) :
    Calls Try.prog 39 #[.slice a n cap, darkV] w fun e w' => e = .returned (.bool (xs.any dkC)) ∧ w = w' := by
  have e := any_nth (xs := xs) dkC
  rw [h.len, ← fstI_ge] at e
  rw [← e]
  clear e
  go_enter Try.func39, Try.ntmps39
  go_wp2_with fail
  refine (indexDark_any _ h).mono ?_
  rintro e w1 ⟨rfl, rfl⟩
  go_wp2
  go_ret
  exact ⟨rfl, rfl⟩

set_option maxRecDepth 100000 in
set_option maxHeartbeats 2000000 in
theorem sheetCheck_any (w : World) (nm : ByteArray) {a_s : Option Addr} {n_s c_s : Nat} {ss : List ByteArray} (h_s : RdS w a_s n_s c_s ss) (seats : Int) (hs1 : -9223372036854775808 ≤ seats) (hs2 : seats ≤ 9223372036854775807) (rule : Nat) (hr : rule < 256) {a_x : Option Addr} {n_x c_x : Nat} {xs : List Nat} (h_x : Rd .u8 w a_x n_x c_x xs) : Calls Try.prog 21 #[.agg #[.string nm, .slice a_s n_s c_s, .int .i64 seats, .int .u8 ((rule : Nat) : Int)], .agg #[.slice a_x n_x c_x]] w (fun e w' => e = .returned (.int .i64 (sheetC nm ss seats rule xs)) ∧ Below w.heap.size w w') := by
  have HN := Lib.hid h_s.len
  have hns := h_s.lt
  obtain ⟨ck, hck⟩ : ∃ ck, checkC nm ss seats rule = ck := ⟨_, rfl⟩
  have HCK := Lib.hid hck
  clear hck
  have hnx := h_x.lt
  have HX := Lib.hid h_x.len
  obtain ⟨r, hr0⟩ : ∃ r, sheetC nm ss seats rule xs = r := ⟨_, rfl⟩
  rw [hr0]
  have HR := Lib.hid hr0
  clear hr0
  obtain ⟨bx, hbx⟩ : ∃ bx, boxesC nm ss seats rule = bx := ⟨_, rfl⟩
  have HBX := Lib.hid hbx
  clear hbx
  have B0 : Below w.heap.size w w := Below.refl _ _
  have h_s_0 := h_s
  have h_x_0 := h_x
  go_enter Try.func21, Try.ntmps21
  have hb := below_al w (.cells #[.string nm, .slice a_s n_s c_s, .int .i64 seats, .int .u8 ((rule : Nat) : Int)] 24)
  have B1 := B0.trans (hb.mono B0.size)
  have h_s_1 := h_s_0.below hb
  have h_x_1 := h_x_0.below hb
  clear hb B0 h_s_0 h_x_0
  have h_c_1 := PRow.new 24 w #[.string nm, .slice a_s n_s c_s, .int .i64 seats, .int .u8 ((rule : Nat) : Int)]
  have hb := below_al (w.alloc (.cells #[.string nm, .slice a_s n_s c_s, .int .i64 seats, .int .u8 ((rule : Nat) : Int)] 24)) (.cells #[.slice a_x n_x c_x] 40)
  have B2 := B1.trans (hb.mono B1.size)
  have h_s_2 := h_s_1.below hb
  have h_x_2 := h_x_1.below hb
  have h_c_2 := h_c_1.later hb
  clear hb B1 h_s_1 h_x_1 h_c_1
  have h_y_2 := PRow.new 40 (w.alloc (.cells #[.string nm, .slice a_s n_s c_s, .int .i64 seats, .int .u8 ((rule : Nat) : Int)] 24)) #[.slice a_x n_x c_x]
  simp only [World.size_alloc] at h_y_2
  have k_c_0 := h_c_2.cell 0 _ rfl
  have k_c_1 := h_c_2.cell 1 _ rfl
  have k_c_2 := h_c_2.cell 2 _ rfl
  have k_c_3 := h_c_2.cell 3 _ rfl
  go_wp2_with fail
  clear k_c_0 k_c_1 k_c_2 k_c_3
  generalize ((w.alloc (.cells #[.string nm, .slice a_s n_s c_s, .int .i64 seats, .int .u8 ((rule : Nat) : Int)] 24)).alloc (.cells #[.slice a_x n_x c_x] 40)) = w2 at *
  have c := Boxes_any w2 nm h_s_2 seats hs1 hs2 rule hr
  rw [HBX.out] at c
  refine c.mono ?_
  rintro e w3 ⟨rfl, hb⟩
  clear c
  have B3 := B2.trans (hb.mono B2.size)
  have h_s_3 := h_s_2.below hb
  have h_x_3 := h_x_2.below hb
  have h_c_3 := h_c_2.later hb
  have h_y_3 := h_y_2.later hb
  clear hb B2 h_s_2 h_x_2 h_c_2 h_y_2
  by_cases hck : ck = 0
  case neg =>
    have e1 : (ck == (0 : Int)) = false := by simpa using hck
    have e2 : (ck != (0 : Int)) = true := by simpa using hck
    obtain rfl : bx = (0, ck) := by rw [← HBX.out]; unfold boxesC; rw [HCK.out, if_neg hck]
    have HB := Lib.hid (show r = ck by rw [← HR.out]; unfold sheetC; rw [HCK.out, if_neg hck])
    clear hck
    go_wp2_with fail
    go_ret
    exact ⟨by rw [HB.out]; rfl, B3⟩
  subst hck
  obtain ⟨nb, hnb⟩ : ∃ nb, boxesN ss rule = nb := ⟨_, rfl⟩
  obtain rfl : bx = (nb, 0) := by rw [← HBX.out, ← hnb]; unfold boxesC; rw [HCK.out]; rfl
  have hnb2 : nb ≤ 110 := by rw [← hnb]; exact boxes_le (chk_rule HCK.out).1
  have HB := Lib.hid (show r = if xs.length = nb ∧ (xs.any fun x => decide (100 < x)) = false then 0 else 8 by rw [← HR.out, ← hnb]; unfold sheetC; rw [HCK.out]; rfl)
  clear hnb
  by_cases hl : n_x = nb
  case neg =>
    have e1 : (((n_x : Nat) : Int) != ((nb : Nat) : Int)) = true := by simp; omega
    have HB2 := Lib.hid (show r = 8 by rw [HB.out, if_neg]; rintro ⟨h1, _⟩; rw [HX.out] at h1; exact hl h1)
    clear hl
    have k_y_0 := h_y_3.cell 0 _ rfl
    go_wp2_with fail
    clear k_y_0
    go_ret
    exact ⟨by rw [HB2.out]; rfl, B3⟩
  subst hl
  obtain ⟨dk, hdk⟩ : ∃ dk, xs.any dkC = dk := ⟨_, rfl⟩
  have HDK := Lib.hid hdk
  clear hdk
  have hnn : (((n_x : Nat) : Int) != ((n_x : Nat) : Int)) = false := by simp
  have k_y_0 := h_y_3.cell 0 _ rfl
  go_wp2_with fail
  clear k_y_0
  refine (containsDark_any _ h_x_3).mono ?_
  rintro e w9 ⟨rfl, hw9⟩
  subst hw9
  rw [HDK.out]
  cases dk
  case false =>
    go_wp2_with fail
    go_ret
    exact ⟨by rw [HB.out, if_pos ⟨HX.out, HDK.out⟩]; rfl, B3⟩
  case true =>
    go_wp2_with fail
    go_ret
    exact ⟨by rw [HB.out, if_neg (fun h => by have h2 := HDK.out; unfold dkC at h2; rw [h.2] at h2; cases h2)]; rfl, B3⟩

end Go.Proofs.Ythpjnbnheagpiaa
