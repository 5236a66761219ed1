/- Readings of marks, ranks, scores: the plain side, and the answer's column, in, Marks, Ranks, Scores. Conditions: sizes of sheets. Printed by gen_shek.py. -/
import Derived.Test.YtlfempfhohejiaaSheJ
namespace Go.Proofs.Ytlfempfhohejiaa
open Go.RowKit Go.Suf
set_option linter.unusedVariables false
set_option linter.unusedSimpArgs false

/-- The marked ones of a column. -/
def colL (mk : List Bool) (wd j n : Nat) : List Int := ((List.range n).filter fun i => bth mk (i * wd + j)).map fun i => ((i : Nat) : Int)
theorem colL_succ (mk : List Bool) (wd j n : Nat) : colL mk wd j (n + 1) = colL mk wd j n ++ (if bth mk (n * wd + j) = true then [((n : Nat) : Int)] else []) := by
  unfold colL
  rw [List.range_succ, List.filter_append]
  by_cases h : bth mk (n * wd + j) = true
  · simp [h]
  · simp [h]
theorem colL_le (mk : List Bool) (wd j n : Nat) : (colL mk wd j n).length ≤ n := by
  unfold colL
  rw [List.length_map]
  exact Nat.le_trans (List.length_filter_le _ _) (by simp)
theorem colL_ok (mk : List Bool) (wd j n : Nat) (hn : n ≤ 9223372036854775807) : ∀ x ∈ colL mk wd j n, okI x := by
  intro x hx
  unfold colL at hx
  simp at hx
  obtain ⟨i, ⟨hi, _⟩, rfl⟩ := hx
  exact ⟨by omega, by omega⟩
theorem colL_in (mk : List Bool) (wd j n : Nat) : ∀ x ∈ colL mk wd j n, ∃ i : Nat, x = (i : Int) ∧ i < n := by
  intro x hx
  unfold colL at hx
  simp at hx
  obtain ⟨i, ⟨hi, _⟩, rfl⟩ := hx
  exact ⟨i, rfl, hi⟩
def marksR (mk : List Bool) (most : Int) : List Int × Int := if most < ((colL mk 1 0 mk.length).length : Int) then ([], 1) else (colL mk 1 0 mk.length, 0)
def rankS (mk : List Bool) (n : Nat) (skips : Int) : Nat → Nat → List Int → Int → List Int × Int
  | 0, _, out, _ => (out, 0)
  | f + 1, j, out, sk =>
    if 1 < (colL mk n j n).length then (out, 1)
    else if (colL mk n j n).length = 0 then (if 0 < skips ∧ skips ≤ sk + 1 then (out, 0) else rankS mk n skips f (j + 1) out (sk + 1))
    else rankS mk n skips f (j + 1) (if inI out out.length (ith (colL mk n j n) 0) = true then out else out ++ [ith (colL mk n j n) 0]) 0
def ranksR (mk : List Bool) (n : Nat) (skips : Int) : List Int × Int := rankS mk n skips n 0 [] 0
/-- Of the first k scores of a candidate: how many are marked, and the last one that is. -/
def cntS (mk : List Bool) (i : Nat) : Nat → Nat
  | 0 => 0
  | k + 1 => cntS mk i k + (if bth mk (i * 11 + k) = true then 1 else 0)
def lastS (mk : List Bool) (i : Nat) : Nat → Nat
  | 0 => 0
  | k + 1 => if bth mk (i * 11 + k) = true then k else lastS mk i k
def scoreS (mk : List Bool) (i : Nat) : Int := if 1 < cntS mk i 11 then 0 else (lastS mk i 11 : Nat)
def scoL (mk : List Bool) (n : Nat) : List Int := (List.range n).map (scoreS mk)
def ovrS (mk : List Bool) : Nat → Nat
  | 0 => 0
  | i + 1 => ovrS mk i + (if 1 < cntS mk i 11 then 1 else 0)
def scoresR (mk : List Bool) (n : Nat) : List Int × Int := (scoL mk n, (ovrS mk n : Nat))
theorem scoL_succ (mk : List Bool) (n : Nat) : scoL mk (n + 1) = scoL mk n ++ [scoreS mk n] := by simp [scoL, List.range_succ]
theorem cntS_le (mk : List Bool) (i k : Nat) : cntS mk i k ≤ k := by
  induction k with
  | zero => exact Nat.le_refl _
  | succ k ih => unfold cntS; split <;> omega
theorem lastS_le (mk : List Bool) (i k : Nat) : lastS mk i k ≤ k := by
  induction k with
  | zero => exact Nat.le_refl _
  | succ k ih => unfold lastS; split <;> omega
theorem ovrS_le (mk : List Bool) (n : Nat) : ovrS mk n ≤ n := by
  induction n with
  | zero => exact Nat.le_refl _
  | succ n ih => unfold ovrS; split <;> omega

/-- A new row of integers, and with a count. -/
def RetI (w : World) (n : Nat) (xs : List Int) : Ending → World → Prop := fun e w' =>
  ∃ a c, e = .returned (.slice a n c) ∧ OwI w.heap.size w' a n c xs ∧ Below w.heap.size w w'
def RetIE (w : World) (r : List Int × Int) : Ending → World → Prop := fun e w' =>
  ∃ a n c, e = .returned (.tuple #[.slice a n c, .int .i64 r.2]) ∧ OwI w.heap.size w' a n c r.1 ∧ Below w.heap.size w w'

theorem beqz {n : Nat} (h : n = 0) : (((n : Nat) : Int) == 0) = true := by rw [h]; rfl
theorem beqn {n : Nat} (h : ¬ n = 0) : (((n : Nat) : Int) == 0) = false := by simp; omega
theorem add_wrap {n m : Nat} (h : n + m ≤ 1000000) : IntKind.i64.wrap ((n : Int) + (m : Int)) = ((n + m : Nat) : Int) := by
  rw [← Int.natCast_add]
  exact wrap_in (by omega) (by omega)

set_option maxRecDepth 100000 in
set_option maxHeartbeats 2000000 in
theorem column_any (w : World) {a_k : Option Addr} {n_k c_k : Nat} {mk : List Bool} (h_k : RdB w a_k n_k c_k mk) (n wd j : Nat) (hnn : n ≤ 1000) (hwd : wd ≤ 1000) (hjj : j ≤ 1000) (hb : ∀ i, i < n → i * wd + j < n_k) : Calls Try.prog 59 #[.slice a_k n_k c_k, .int .i64 ((n : Nat) : Int), .int .i64 ((wd : Nat) : Int), .int .i64 ((j : Nat) : Int)] w (RetI w (colL mk wd j n).length (colL mk wd j n)) := by
  obtain ⟨r, hr⟩ : ∃ r, colL mk wd j n = r := ⟨_, rfl⟩
  rw [hr]
  have HR := Lib.hid hr
  clear hr
  go_enter Try.func59, Try.ntmps59
  go_wp2_with fail
  go_loopw [9, 10] (fun s9 jv wr => ∃ (i : Nat) (a : Option Addr) (m c : Nat), i ≤ n ∧ jv = .int .i64 (i : Nat) ∧ s9 = .slice a m c ∧ Below w.heap.size w wr ∧ OwI w.heap.size wr a m c (colL mk wd j i)) (fun _ jv _ => n - (intOf jv).toNat)
  case atStart => exact ⟨0, none, 0, 0, Nat.zero_le _, rfl, rfl, Below.refl _ _, OwG.nil _ _ _ _ _⟩
  case round =>
    rename World => wr
    obtain ⟨i, a, m, c, hi, rfl, rfl, BT, ho⟩ := hrel
    have hm : m ≤ 1000 := by rw [← ho.len]; exact Nat.le_trans (colL_le _ _ _ _) (by omega)
    by_cases hlt : i < n
    case neg =>
      obtain rfl : n = i := by omega
      rw [HR.out] at ho
      obtain rfl : r.length = m := ho.len
      have HO := Lib.hid ho
      have HB := Lib.hid BT
      clear ho BT
      go_wp2_with fail
      go_ret
      exact ⟨_, _, rfl, HO.out, HB.out⟩
    case pos =>
      have hix := hb i hlt
      have hiw : i * wd ≤ 1000000 := Nat.le_trans (Nat.mul_le_mul (show i ≤ 1000 by omega) hwd) (by decide)
      obtain ⟨q, hq⟩ : ∃ q, i * wd = q := ⟨_, rfl⟩
      have hw1 : IntKind.i64.wrap (((i : Nat) : Int) * ((wd : Nat) : Int)) = ((q : Nat) : Int) := by rw [← hq]; exact mul_wrap hiw
      rw [hq] at hix hiw
      obtain ⟨t, ht⟩ : ∃ t, q + j = t := ⟨_, rfl⟩
      have hw2 : IntKind.i64.wrap (((q : Nat) : Int) + ((j : Nat) : Int)) = ((t : Nat) : Int) := (congrArg IntKind.i64.wrap (by omega)).trans (wrap_in (z := ((t : Nat) : Int)) (by omega) (by omega))
      rw [ht] at hix
      have HQT := Lib.hid (show i * wd + j = t by rw [hq, ht])
      clear hq ht
      obtain ⟨b, off, rfl, hcc⟩ := (h_k.below BT).addrB (by omega)
      have kx := hcc t hix
      clear hcc
      obtain ⟨x, hx⟩ : ∃ x, bth mk t = x := ⟨_, rfl⟩
      rw [hx] at kx
      have HX := Lib.hid (show bth mk (i * wd + j) = x by rw [HQT.out]; exact hx)
      clear hx
      have htz : ((t : Nat) : Int) < ((n_k : Nat) : Int) := by omega
      have HBT := Lib.hid BT
      cases x with
      | false =>
        have ho2 : OwI w.heap.size wr a m c (colL mk wd j (i + 1)) := by rw [colL_succ, HX.out]; simpa using ho
        clear ho
        go_wp2_with fail
        go_roundw
        case rel => exact ⟨i + 1, _, _, _, by omega, by go_num, rfl, BT, ho2⟩
        case measure => simp [intOf]; omega
      | true =>
        have hal := below_al wr (.cells #[.int .i64 ((i : Nat) : Int)] 3)
        have hoe := ho.below hal
        go_wp2_with (at_builtin; refine wpList_app rfl _ _ 37 rfl etI w.heap.size rfl hoe.own rfl rfl (sl_alone wr _ 3 rfl) (by unfold maxLen; omega) (by omega) (Nat.le_trans HBT.out.size (by simp)) ?_; intro a' c' wn hown hg hbn; refine Hid.out ?_)
        have ho2 : OwI w.heap.size wn a' (m + 1) c' (colL mk wd j (i + 1)) := by
          rw [colL_succ, HX.out, if_pos rfl]
          exact hoe.snoc ⟨by omega, by omega⟩ rfl hown
        have hbe := HBT.out.trans ((hal.mono HBT.out.size).trans hbn)
        clear hown hg hbn hoe hal ho
        refine Lib.hid ?_
        go_wp2_with fail
        go_roundw
        case rel => exact ⟨i + 1, _, _, _, by omega, by go_num, rfl, hbe, ho2⟩
        case measure => simp [intOf]; omega

set_option maxHeartbeats 2000000 in
theorem in_any (w : World) {a_m : Option Addr} {n_m c_m : Nat} {ms : List Int} (h_m : RdI w a_m n_m c_m ms) (v : Int) : Calls Try.prog 60 #[.slice a_m n_m c_m, .int .i64 v] w (fun e w' => e = .returned (.bool (inI ms ms.length v)) ∧ w = w') := by
  have hn := h_m.lt
  rw [h_m.len]
  go_enter Try.func60, Try.ntmps60
  go_wp2_with fail
  go_loop [5] (fun j => ∃ i : Nat, i ≤ n_m ∧ j = .int .i64 (i : Nat) ∧ Hid (∀ k, k < i → ¬ ith ms k = v)) (fun j => n_m - (intOf j).toNat)
  case atStart => exact ⟨0, by omega, rfl, Lib.hid fun k hk => absurd hk (by omega)⟩
  case round =>
    obtain ⟨i, hi, rfl, hS⟩ := hrel
    by_cases hlt : i < n_m
    · obtain ⟨b, off, rfl, hcc⟩ := h_m.addrI (by omega)
      have hc := hcc i hlt
      clear hcc
      obtain ⟨x, hx⟩ : ∃ x, ith ms i = x := ⟨_, rfl⟩
      rw [hx] at hc
      have HX := Lib.hid hx
      clear hx
      by_cases e : x = v
      · subst e
        have HZ := Lib.hid (inI_yes (i := n_m) hlt HX.out)
        go_wp2
        go_ret
        exact ⟨by rw [HZ.out]; rfl, rfl⟩
      · have e1 : (x == v) = false := by simpa using e
        have HE := Lib.hid e
        clear e
        go_wp2
        go_round
        case rel => exact ⟨i + 1, by omega, by go_num, Lib.hid fun k hk => by
                      by_cases hki : k < i
                      · exact hS.out k hki
                      · obtain rfl : k = i := by omega
                        intro e; exact HE.out (HX.out.symm.trans e)⟩
        case measure => simp [intOf]; omega
    · obtain rfl : n_m = i := by omega
      have HZ := Lib.hid (inI_no hS.out)
      go_wp2
      go_ret
      exact ⟨by rw [HZ.out]; rfl, rfl⟩

set_option maxRecDepth 100000 in
set_option maxHeartbeats 2000000 in
theorem refMarks_any (w : World) {a_k : Option Addr} {n_k c_k : Nat} {mk : List Bool} (h_k : RdB w a_k n_k c_k mk) (most : Int) (hk : n_k ≤ 1000) : Calls Try.prog 43 #[.slice a_k n_k c_k, .int .i64 most] w (RetIE w (marksR mk most)) := by
  obtain ⟨r, hr⟩ : ∃ r, marksR mk most = r := ⟨_, rfl⟩
  rw [hr]
  unfold marksR at hr
  rw [h_k.len] at hr
  have HR := Lib.hid hr
  clear hr
  obtain ⟨l, hl⟩ : ∃ l, colL mk 1 0 n_k = l := ⟨_, rfl⟩
  have HL := Lib.hid hl
  have hll : l.length ≤ 1000 := by rw [← hl]; exact Nat.le_trans (colL_le _ _ _ _) hk
  clear hl
  have B0 : Below w.heap.size w w := Below.refl _ _
  have h_k_0 := h_k
  go_enter Try.func43, Try.ntmps43
  go_wp2_with fail
  have c := column_any w h_k_0 n_k 1 0 hk (by decide) (by decide) (fun i hi => by omega)
  rw [HL.out] at c
  refine c.mono ?_
  rintro e w1 ⟨a_l, c_l, rfl, h_l_1, hb⟩
  clear c
  have B1 := B0.trans (hb.mono B0.size)
  have h_k_1 := h_k_0.below hb
  clear hb B0 h_k_0
  by_cases hm : most < (l.length : Int)
  case pos =>
    have hd : decide (((l.length : Nat) : Int) > most) = true := decide_eq_true (by omega)
    have HF := Lib.hid (show r = ([], 1) by rw [← HR.out, HL.out, if_pos hm])
    go_wp2_with fail
    go_ret2
    exact ⟨none, 0, 0, by rw [HF.out]; rfl, by rw [HF.out]; exact OwG.nil _ _ _ _ _, B1⟩
  case neg =>
    have hd : decide (((l.length : Nat) : Int) > most) = false := decide_eq_false (by omega)
    have HF := Lib.hid (show r = (l, 0) by rw [← HR.out, HL.out, if_neg hm])
    have HO := Lib.hid h_l_1
    go_wp2_with fail
    go_ret2
    exact ⟨_, _, _, by rw [HF.out]; rfl, by rw [HF.out]; exact HO.out, B1⟩

set_option maxRecDepth 100000 in
set_option maxHeartbeats 4000000 in
theorem refRanks_any (w : World) {a_k : Option Addr} {n_k c_k : Nat} {mk : List Bool} (h_k : RdB w a_k n_k c_k mk) (n : Nat) (skips : Int) (hs1 : -9223372036854775808 ≤ skips) (hs2 : skips ≤ 9223372036854775807) (hn : n ≤ 10) (hk : n_k = n * n) : Calls Try.prog 42 #[.slice a_k n_k c_k, .int .i64 ((n : Nat) : Int), .int .i64 skips] w (RetIE w (ranksR mk n skips)) := by
  obtain ⟨r, hr⟩ : ∃ r, ranksR mk n skips = r := ⟨_, rfl⟩
  rw [hr]
  have HR := Lib.hid hr
  clear hr
  have HIDX := Lib.hid (fun (j : Nat) (hj : j < n) (i : Nat) (hi : i < n) => (show i * n + j < n_k by
    have e : (i + 1) * n ≤ n * n := Nat.mul_le_mul_right _ (by omega)
    rw [Nat.succ_mul] at e
    omega))
  clear hk
  go_enter Try.func42, Try.ntmps42
  go_wp2_with fail
  go_loopw [8, 9, 10] (fun s8 s9 jv wr => ∃ (j : Nat) (a : Option Addr) (m c : Nat) (out : List Int) (sk : Int), j ≤ n ∧ jv = .int .i64 (j : Nat) ∧ s8 = .slice a m c ∧ s9 = .int .i64 sk ∧ 0 ≤ sk ∧ sk ≤ j ∧ m ≤ j ∧ Below w.heap.size w wr ∧ OwI w.heap.size wr a m c out ∧ Hid (r = rankS mk n skips (n - j) j out sk)) (fun _ _ jv _ => n - (intOf jv).toNat)
  case atStart => exact ⟨0, none, 0, 0, [], 0, Nat.zero_le _, rfl, rfl, rfl, by decide, by decide, Nat.zero_le _, Below.refl _ _, OwG.nil _ _ _ _ _, Lib.hid HR.out.symm⟩
  case round =>
    rename World => wr
    obtain ⟨j, a, m, c, out, sk, hj, rfl, rfl, rfl, hk0, hk1, hmj, BT, ho, hR⟩ := hrel
    by_cases hlt : j < n
    case neg =>
      obtain rfl : n = j := by omega
      have HF := Lib.hid (show r = (out, 0) by rw [hR.out, Nat.sub_self]; rfl)
      have HO := Lib.hid ho
      have HB := Lib.hid BT
      clear ho BT
      go_wp2_with fail
      go_ret2
      exact ⟨_, _, _, by rw [HF.out]; rfl, by rw [HF.out]; exact HO.out, HB.out⟩
    case pos =>
      obtain ⟨f, hf⟩ : ∃ f, n - j = f + 1 := ⟨n - j - 1, by omega⟩
      have hfe : n - (j + 1) = f := by omega
      have HFE := Lib.hid hfe
      obtain ⟨l, hl⟩ : ∃ l, colL mk n j n = l := ⟨_, rfl⟩
      have hll : l.length ≤ 10 := by rw [← hl]; exact Nat.le_trans (colL_le _ _ _ _) hn
      have HLI := Lib.hid (show ∀ x ∈ l, ∃ i : Nat, x = (i : Int) ∧ i < n by rw [← hl]; exact colL_in _ _ _ _)
      have HU := Lib.hid (show r = if 1 < l.length then (out, 1) else if l.length = 0 then (if 0 < skips ∧ skips ≤ sk + 1 then (out, 0) else rankS mk n skips f (j + 1) out (sk + 1)) else rankS mk n skips f (j + 1) (if inI out out.length (ith l 0) = true then out else out ++ [ith l 0]) 0 by rw [hR.out, hf, rankS, hl])
      have HL := Lib.hid hl
      clear hl hf hfe hR
      have B300 := BT
      have h_k_300 := h_k.below BT
      have h_o_300 := ho
      clear BT ho
      go_wp2_with fail
      have c := column_any wr h_k_300 n n j (by omega) (by omega) (by omega) (fun i hi => HIDX.out j hlt i hi)
      rw [HL.out] at c
      refine c.mono ?_
      rintro e w301 ⟨a_l, c_l, rfl, h_l_301, hb⟩
      clear c
      have B301 := B300.trans (hb.mono B300.size)
      have h_k_301 := h_k_300.below hb
      have h_o_301 := h_o_300.below hb
      clear hb B300 h_k_300 h_o_300
      have hob := fun (base : Nat) (hb9 : base ≤ 0) => hb9
      clear hob
      by_cases h1 : 1 < l.length
      case pos =>
        have hd : decide (((l.length : Nat) : Int) > 1) = true := decide_eq_true (by omega)
        have HF := Lib.hid (show r = (out, 1) by rw [HU.out, if_pos h1])
        have HO := Lib.hid h_o_301
        go_wp2_with fail
        go_ret2
        exact ⟨_, _, _, by rw [HF.out]; rfl, by rw [HF.out]; exact HO.out, B301⟩
      have hd : decide (((l.length : Nat) : Int) > 1) = false := decide_eq_false (by omega)
      by_cases h0 : l.length = 0
      case pos =>
        have hz : (((l.length : Nat) : Int) == 0) = true := beqz h0
        have HU2 := Lib.hid (show r = if 0 < skips ∧ skips ≤ sk + 1 then (out, 0) else rankS mk n skips f (j + 1) out (sk + 1) by rw [HU.out, if_neg h1, if_pos h0])
        have HZ0 := Lib.hid h0
        clear h0 h1
        have hws : IntKind.i64.wrap (sk + 1) = sk + 1 := wrap_in (by omega) (by omega)
        by_cases g1 : 0 < skips
        case neg =>
          have gd : decide (skips > 0) = false := decide_eq_false (by omega)
          have HS := Lib.hid (show r = rankS mk n skips (n - (j + 1)) (j + 1) out (sk + 1) by rw [HU2.out, if_neg (by omega), HFE.out])
          go_wp2_with fail
          go_roundw
          case rel => exact ⟨j + 1, _, _, _, out, sk + 1, by omega, by go_num, rfl, rfl, by omega, by omega, by omega, B301, h_o_301, HS⟩
          case measure => simp [intOf]; omega
        have gd : decide (skips > 0) = true := decide_eq_true g1
        by_cases g2 : skips ≤ sk + 1
        case pos =>
          have gd2 : decide (sk + 1 ≥ skips) = true := decide_eq_true g2
          have HF := Lib.hid (show r = (out, 0) by rw [HU2.out, if_pos ⟨g1, g2⟩])
          have HO := Lib.hid h_o_301
          go_wp2_with fail
          go_ret2
          exact ⟨_, _, _, by rw [HF.out]; rfl, by rw [HF.out]; exact HO.out, B301⟩
        have gd2 : decide (sk + 1 ≥ skips) = false := decide_eq_false (by omega)
        have HS := Lib.hid (show r = rankS mk n skips (n - (j + 1)) (j + 1) out (sk + 1) by rw [HU2.out, if_neg (by omega), HFE.out])
        go_wp2_with fail
        go_roundw
        case rel => exact ⟨j + 1, _, _, _, out, sk + 1, by omega, by go_num, rfl, rfl, by omega, by omega, by omega, B301, h_o_301, HS⟩
        case measure => simp [intOf]; omega
      have hz : (((l.length : Nat) : Int) == 0) = false := beqn h0
      obtain ⟨v, hv⟩ : ∃ v, ith l 0 = v := ⟨_, rfl⟩
      have HV := Lib.hid hv
      have hvv : ∃ i : Nat, v = (i : Int) ∧ i < n := by rw [← hv]; exact HLI.out _ (gth_mem 0 (by omega))
      obtain ⟨vi, hv1, hv2⟩ := hvv
      have hvo : okI v := ⟨by omega, by omega⟩
      clear hv1 hv2
      obtain ⟨b, off, rfl, hcc⟩ := (h_l_301.rd oneI).addrI (by omega)
      have kx := hcc 0 (by omega)
      clear hcc
      rw [hv] at kx
      clear hv
      replace kx : World.cell? _ ⟨b, off, none⟩ = some (.int .i64 v) := kx
      have hl0 : (0 : Int) < ((l.length : Nat) : Int) := by omega
      have HU3 := Lib.hid (show r = rankS mk n skips f (j + 1) (if inI out out.length v = true then out else out ++ [v]) 0 by rw [HU.out, if_neg h1, if_neg h0, HV.out])
      have h0l : 0 < l.length := by omega
      clear h0 h1
      go_wp2_with fail
      obtain ⟨iv, hiv⟩ : ∃ iv, inI out out.length v = iv := ⟨_, rfl⟩
      have HIV := Lib.hid hiv
      clear hiv
      refine (in_any _ (h_o_301.rd oneI) v).mono ?_
      rintro e w9 ⟨rfl, hw9⟩
      subst hw9
      rw [HIV.out]
      cases iv
      case false =>
        have HS := Lib.hid (show r = rankS mk n skips (n - (j + 1)) (j + 1) (out ++ [v]) 0 by rw [HU3.out, HIV.out, HFE.out]; rfl)
        have hal := below_al w301 (.cells #[.int .i64 v] 3)
        have hoe := h_o_301.below hal
        have HBT := Lib.hid B301
        go_wp2_with (at_builtin; refine wpList_app rfl _ _ 37 rfl etI w.heap.size rfl hoe.own rfl rfl (sl_alone w301 _ 3 rfl) (by unfold maxLen; omega) (by omega) (Nat.le_trans HBT.out.size (by simp)) ?_; intro a' c' wn hown hg hbn; refine Hid.out ?_)
        have ho2 : OwI w.heap.size wn a' (m + 1) c' (out ++ [v]) := hoe.snoc hvo rfl hown
        have hbe := HBT.out.trans ((hal.mono HBT.out.size).trans hbn)
        clear hown hg hbn hoe hal
        refine Lib.hid ?_
        go_wp2_with fail
        go_roundw
        case rel => exact ⟨j + 1, _, _, _, out ++ [v], 0, by omega, by go_num, rfl, rfl, by omega, by omega, by omega, hbe, ho2, HS⟩
        case measure => simp [intOf]; omega
      case true =>
        have HS := Lib.hid (show r = rankS mk n skips (n - (j + 1)) (j + 1) out 0 by rw [HU3.out, HIV.out, HFE.out]; rfl)
        go_wp2_with fail
        go_roundw
        case rel => exact ⟨j + 1, _, _, _, out, 0, by omega, by go_num, rfl, rfl, by omega, by omega, by omega, B301, h_o_301, HS⟩
        case measure => simp [intOf]; omega

set_option maxRecDepth 100000 in
set_option maxHeartbeats 4000000 in
theorem refScores_any (w : World) {a_k : Option Addr} {n_k c_k : Nat} {mk : List Bool} (h_k : RdB w a_k n_k c_k mk) (n : Nat) (hn : n ≤ 10) (hk : n_k = n * 11) : Calls Try.prog 45 #[.slice a_k n_k c_k, .int .i64 ((n : Nat) : Int)] w (RetIE w (scoresR mk n)) := by
  obtain ⟨r, hr⟩ : ∃ r, scoresR mk n = r := ⟨_, rfl⟩
  rw [hr]
  have HR := Lib.hid hr
  have HNK := Lib.hid hk
  clear hr hk
  go_enter Try.func45, Try.ntmps45
  go_wp2_with fail
  go_loopw [6, 7, 8] (fun s6 s7 jv wr => ∃ (i : Nat) (a : Option Addr) (c o : Nat), i ≤ n ∧ jv = .int .i64 (i : Nat) ∧ s6 = .slice a i c ∧ s7 = .int .i64 ((o : Nat) : Int) ∧ Below w.heap.size w wr ∧ OwI w.heap.size wr a i c (scoL mk i) ∧ Hid (o = ovrS mk i)) (fun _ _ jv _ => n - (intOf jv).toNat)
  case atStart => exact ⟨0, none, 0, 0, Nat.zero_le _, rfl, rfl, rfl, Below.refl _ _, OwG.nil _ _ _ _ _, Lib.hid rfl⟩
  case round =>
    rename World => wr
    obtain ⟨i, a, c, ov, hi, rfl, rfl, rfl, BT, ho, hO⟩ := hrel
    have hov : ov ≤ i := by rw [hO.out]; exact ovrS_le _ _
    by_cases hlt : i < n
    case neg =>
      obtain rfl : n = i := by omega
      have HF := Lib.hid (show r = (scoL mk n, ((ov : Nat) : Int)) by rw [← HR.out, hO.out]; rfl)
      have HO := Lib.hid ho
      have HB := Lib.hid BT
      clear ho BT
      go_wp2_with fail
      go_ret2
      exact ⟨_, _, _, by rw [HF.out]; rfl, by rw [HF.out]; exact HO.out, HB.out⟩
    case pos =>
      go_wp2_with fail
      go_loopw [9, 10, 11] (fun s9 s10 kv wz => ∃ (k sc mn : Nat), k ≤ 11 ∧ kv = .int .i64 (k : Nat) ∧ s9 = .int .i64 ((sc : Nat) : Int) ∧ s10 = .int .i64 ((mn : Nat) : Int) ∧ wr = wz ∧ Hid (sc = lastS mk i k ∧ mn = cntS mk i k)) (fun _ _ kv _ => 11 - (intOf kv).toNat)
      case atStart => exact ⟨0, 0, 0, Nat.zero_le _, rfl, rfl, rfl, rfl, Lib.hid ⟨rfl, rfl⟩⟩
      case round =>
        obtain ⟨k, sc, mn, hkk, rfl, rfl, rfl, hww, hK⟩ := hrel
        subst hww
        have hsc : sc ≤ k := by rw [hK.out.1]; exact lastS_le _ _ _
        have hmn : mn ≤ k := by rw [hK.out.2]; exact cntS_le _ _ _
        by_cases hlk : k < 11
        case pos =>
          obtain ⟨q, hq⟩ : ∃ q, i * 11 = q := ⟨_, rfl⟩
          have hw1 : IntKind.i64.wrap (((i : Nat) : Int) * 11) = ((q : Nat) : Int) := (congrArg IntKind.i64.wrap (by omega)).trans (wrap_in (z := ((q : Nat) : Int)) (by omega) (by omega))
          obtain ⟨t, ht⟩ : ∃ t, q + k = t := ⟨_, rfl⟩
          have hw2 : IntKind.i64.wrap (((q : Nat) : Int) + ((k : Nat) : Int)) = ((t : Nat) : Int) := (congrArg IntKind.i64.wrap (by omega)).trans (wrap_in (z := ((t : Nat) : Int)) (by omega) (by omega))
          have hix : t < n_k := by rw [HNK.out]; omega
          have HQT := Lib.hid (show i * 11 + k = t by rw [hq, ht])
          clear hq ht
          obtain ⟨b, off, rfl, hcc⟩ := (h_k.below BT).addrB (by omega)
          have kx := hcc t hix
          clear hcc
          obtain ⟨x, hx⟩ : ∃ x, bth mk t = x := ⟨_, rfl⟩
          rw [hx] at kx
          have HX := Lib.hid (show bth mk (i * 11 + k) = x by rw [HQT.out]; exact hx)
          clear hx
          have htz : ((t : Nat) : Int) < ((n_k : Nat) : Int) := by omega
          cases x with
          | false =>
            have HS : Hid (sc = lastS mk i (k + 1) ∧ mn = cntS mk i (k + 1)) := Lib.hid ⟨by rw [lastS, HX.out]; exact hK.out.1, by rw [cntS, HX.out]; exact hK.out.2⟩
            go_wp2_with fail
            go_roundw
            case rel => exact ⟨k + 1, sc, mn, by omega, by go_num, rfl, rfl, by trivial, HS⟩
            case measure => simp [intOf]; omega
          | true =>
            have HS : Hid (k = lastS mk i (k + 1) ∧ mn + 1 = cntS mk i (k + 1)) := Lib.hid ⟨by rw [lastS, HX.out]; rfl, by rw [cntS, HX.out, hK.out.2]; rfl⟩
            go_wp2_with fail
            go_roundw
            case rel => exact ⟨k + 1, k, mn + 1, by omega, by go_num, rfl, by go_num, by trivial, HS⟩
            case measure => simp [intOf]; omega
        case neg =>
          have hk11 : k = 11 := by omega
          have hK2 : Hid (sc = lastS mk i 11 ∧ mn = cntS mk i 11) := Lib.hid (by rw [← hk11]; exact hK.out)
          have hkd : decide (((k : Nat) : Int) < 11) = false := decide_eq_false (by omega)
          clear hk11 hK
          have HBT := Lib.hid BT
          have hal0 := fun v : Int => below_al wr (.cells #[.int .i64 v] 3)
          by_cases hm : 1 < mn
          case pos =>
            have hmd : decide (((mn : Nat) : Int) > 1) = true := decide_eq_true (by omega)
            have HSC := Lib.hid (show scoreS mk i = 0 by unfold scoreS; rw [← hK2.out.2, if_pos hm])
            have HOV := Lib.hid (show ov + 1 = ovrS mk (i + 1) by rw [ovrS, ← hK2.out.2, if_pos hm, hO.out])
            have hal := hal0 0
            have hoe := ho.below hal
            clear hal0
            go_wp2_with (at_builtin; refine wpList_app rfl _ _ 37 rfl etI w.heap.size rfl hoe.own rfl rfl (sl_alone wr _ 3 rfl) (by unfold maxLen; omega) (by omega) (Nat.le_trans HBT.out.size (by simp)) ?_; intro a' c' wn hown hg hbn; refine Hid.out ?_)
            have ho2 : OwI w.heap.size wn a' (i + 1) c' (scoL mk (i + 1)) := by
              rw [scoL_succ, HSC.out]
              exact hoe.snoc ⟨by decide, by decide⟩ rfl hown
            have hbe := HBT.out.trans ((hal.mono HBT.out.size).trans hbn)
            clear hown hg hbn hoe hal ho
            refine Lib.hid ?_
            go_wp2_with fail
            go_roundw
            case rel => exact ⟨i + 1, _, _, ov + 1, by omega, by go_num, rfl, by go_num, hbe, ho2, HOV⟩
            case measure => simp [intOf]; omega
          case neg =>
            have hmd : decide (((mn : Nat) : Int) > 1) = false := decide_eq_false (by omega)
            have HSC := Lib.hid (show scoreS mk i = ((sc : Nat) : Int) by unfold scoreS; rw [← hK2.out.2, if_neg hm, hK2.out.1])
            have HOV := Lib.hid (show ov = ovrS mk (i + 1) by rw [ovrS, ← hK2.out.2, if_neg hm, hO.out]; rfl)
            have hal := hal0 ((sc : Nat) : Int)
            have hoe := ho.below hal
            clear hal0
            go_wp2_with (at_builtin; refine wpList_app rfl _ _ 37 rfl etI w.heap.size rfl hoe.own rfl rfl (sl_alone wr _ 3 rfl) (by unfold maxLen; omega) (by omega) (Nat.le_trans HBT.out.size (by simp)) ?_; intro a' c' wn hown hg hbn; refine Hid.out ?_)
            have ho2 : OwI w.heap.size wn a' (i + 1) c' (scoL mk (i + 1)) := by
              rw [scoL_succ, HSC.out]
              exact hoe.snoc ⟨by omega, by omega⟩ rfl hown
            have hbe := HBT.out.trans ((hal.mono HBT.out.size).trans hbn)
            clear hown hg hbn hoe hal ho
            refine Lib.hid ?_
            go_wp2_with fail
            go_roundw
            case rel => exact ⟨i + 1, _, _, ov, by omega, by go_num, rfl, rfl, hbe, ho2, HOV⟩
            case measure => simp [intOf]; omega

end Go.Proofs.Ytlfempfhohejiaa
