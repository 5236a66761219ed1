/- The reader's scores. Conditions: the sizes of sheets. Printed by gen_sher.py. -/
import Derived.Test.YthpjnbnheagpiaaSheQ
namespace Go.Proofs.Ythpjnbnheagpiaa
open Go.RowKit Go.Suf
set_option linter.unusedVariables false
set_option linter.unusedSimpArgs false
theorem fst_cases (p : Nat → Bool) (n : Nat) : (∀ j, j < n → p j = false) ∨ ∃ i, i < n ∧ p i = true ∧ ∀ j, j < i → p j = false := by
  induction n with
  | zero => exact .inl fun j hj => absurd hj (by omega)
  | succ n ih =>
    rcases ih with h | ⟨i, h1, h2, h3⟩
    · cases hp : p n
      · exact .inl fun j hj => by
          by_cases e : j < n
          · exact h j e
          · obtain rfl : j = n := by omega
            exact hp
      · exact .inr ⟨n, by omega, hp, h⟩
    · exact .inr ⟨i, by omega, h2, h3⟩
theorem cntS_none {mk : List Bool} {i : Nat} (k : Nat) (h : ∀ j, j < k → bth mk (i * 11 + j) = false) : cntS mk i k = 0 ∧ lastS mk i k = 0 := by
  induction k with
  | zero => exact ⟨rfl, rfl⟩
  | succ k ih =>
    obtain ⟨h1, h2⟩ := ih fun j hj => h j (by omega)
    unfold cntS lastS
    rw [h k (by omega), h1, h2]
    exact ⟨rfl, rfl⟩
theorem cntS_one {mk : List Bool} {i a : Nat} (ha : bth mk (i * 11 + a) = true) (k : Nat) (hk : a < k) (h : ∀ j, j < k → j ≠ a → bth mk (i * 11 + j) = false) : cntS mk i k = 1 ∧ lastS mk i k = a := by
  induction k with
  | zero => omega
  | succ k ih =>
    by_cases e : a = k
    · subst e
      obtain ⟨h1, h2⟩ := cntS_none (mk := mk) (i := i) a fun j hj => h j (by omega) (by omega)
      unfold cntS lastS
      rw [ha, h1]
      exact ⟨rfl, rfl⟩
    · obtain ⟨h1, h2⟩ := ih (by omega) fun j hj => h j (by omega)
      unfold cntS lastS
      rw [h k (by omega) (by omega), h1, h2]
      exact ⟨rfl, rfl⟩
theorem cntS_pos {mk : List Bool} {i a : Nat} (ha : bth mk (i * 11 + a) = true) (k : Nat) (hk : a < k) : 1 ≤ cntS mk i k := by
  induction k with
  | zero => omega
  | succ k ih =>
    unfold cntS
    by_cases e : a = k
    · subst e; rw [ha, if_pos rfl]; omega
    · have := ih (by omega)
      omega
theorem cntS_many {mk : List Bool} {i a b : Nat} (ha : bth mk (i * 11 + a) = true) (hb : bth mk (i * 11 + b) = true) (hab : a < b) (k : Nat) (hk : b < k) : 1 < cntS mk i k := by
  induction k with
  | zero => omega
  | succ k ih =>
    unfold cntS
    by_cases e : b = k
    · subst e
      have := cntS_pos ha b hab
      rw [hb, if_pos rfl]
      omega
    · have := ih (by omega)
      omega
theorem score_none {mk : List Bool} {i : Nat} (h : ∀ j, j < 11 → bth mk (i * 11 + j) = false) : scoreS mk i = 0 ∧ ¬ 1 < cntS mk i 11 := by
  obtain ⟨h1, h2⟩ := cntS_none (mk := mk) (i := i) 11 h
  unfold scoreS
  rw [h1, h2]
  exact ⟨rfl, by decide⟩
theorem score_one {mk : List Bool} {i a : Nat} (ha : bth mk (i * 11 + a) = true) (hk : a < 11) (h : ∀ j, j < 11 → j ≠ a → bth mk (i * 11 + j) = false) : scoreS mk i = (a : Int) ∧ ¬ 1 < cntS mk i 11 := by
  obtain ⟨h1, h2⟩ := cntS_one ha 11 hk h
  unfold scoreS
  rw [h1, h2]
  exact ⟨rfl, by decide⟩
theorem score_many {mk : List Bool} {i a b : Nat} (ha : bth mk (i * 11 + a) = true) (hb : bth mk (i * 11 + b) = true) (hab : a < b) (hk : b < 11) : scoreS mk i = 0 ∧ 1 < cntS mk i 11 := by
  have h1 := cntS_many ha hb hab 11 hk
  unfold scoreS
  rw [if_pos h1]
  exact ⟨rfl, h1⟩
/-- The scores of the first i candidates, then zeros. -/
def scoI (mk : List Bool) (n i : Nat) : List Int := (List.range n).map fun k => if k < i then scoreS mk k else 0
theorem scoI_zero (mk : List Bool) (n : Nat) : scoI mk n 0 = List.replicate n 0 := by
  refine List.ext_getElem (by simp [scoI]) fun k h1 h2 => ?_
  simp [scoI]
theorem scoI_full (mk : List Bool) (n : Nat) : scoI mk n n = scoL mk n := by
  refine List.ext_getElem (by simp [scoI, scoL]) fun k h1 h2 => ?_
  simp [scoI] at h1
  simp [scoI, scoL, h1]
theorem scoI_same {mk : List Bool} {i : Nat} (n : Nat) (h : scoreS mk i = 0) : scoI mk n (i + 1) = scoI mk n i := by
  refine List.ext_getElem (by simp [scoI]) fun k h1 h2 => ?_
  simp only [scoI, List.getElem_map, List.getElem_range]
  by_cases e : k = i
  · subst e; rw [if_pos (by omega), if_neg (by omega), h]
  · by_cases e2 : k < i
    · rw [if_pos (by omega), if_pos e2]
    · rw [if_neg (by omega), if_neg e2]
theorem scoI_set {mk : List Bool} {i : Nat} (n : Nat) {v : Int} (h : scoreS mk i = v) : scoI mk n (i + 1) = (scoI mk n i).set i v := by
  refine List.ext_getElem (by simp [scoI]) fun k h1 h2 => ?_
  rw [List.getElem_set]
  simp only [scoI, List.getElem_map, List.getElem_range]
  by_cases e : i = k
  · subst e; rw [if_pos (by omega), if_pos rfl, h]
  · rw [if_neg e]
    by_cases e2 : k < i
    · rw [if_pos (by omega), if_pos e2]
    · rw [if_neg (by omega), if_neg e2]
theorem ovrS_same {mk : List Bool} {i : Nat} (h : ¬ 1 < cntS mk i 11) : ovrS mk (i + 1) = ovrS mk i := by
  rw [ovrS, if_neg h]; rfl
theorem ovrS_more {mk : List Bool} {i : Nat} (h : 1 < cntS mk i 11) : ovrS mk (i + 1) = ovrS mk i + 1 := by
  rw [ovrS, if_pos h]
theorem part_bth {mk : List Bool} (lo hi : Nat) {k : Nat} (hk : lo + k < hi) : bth ((mk.take hi).drop lo) k = bth mk (lo + k) := by
  unfold bth gth
  simp [List.getD_eq_getElem?_getD, List.getElem?_drop, List.getElem?_take, hk]
theorem drop_bth {mk : List Bool} (lo k : Nat) : bth (mk.drop lo) k = bth mk (lo + k) := by
  unfold bth gth
  simp [List.getD_eq_getElem?_getD, List.getElem?_drop]
theorem KeepX.new {rp : Nat} {w w' : World} (h : KeepX rp w w') {p : Addr} (hp : w.heap.size ≤ p.block) (v : Value) : KeepX rp w (w'.setCell p v) :=
  ⟨by have := h.1; simpa [World.setCell] using this, fun k hk hr => (heap_setCell_other w' p k v (by omega)).trans (h.2 k hk hr)⟩

theorem MkW.rdB {w : World} {g mc : Nat} {gc : Array Value} {mk : List Bool} (h : MkW w g gc mk) (h1 : mk.length ≤ mc) (h2 : mc ≤ maxLen) : RdB w (some ⟨g, 0, none⟩) mk.length mc mk := by
  refine ⟨rfl, ⟨by rw [List.length_map]; exact h1, h2, fun e => by simp at e, fun i c hc => ⟨g, 0, rfl, ?_⟩, enc_one oneB mk⟩, fun x _ => trivial⟩
  have hi : i < mk.length := by
    have := (List.getElem?_eq_some_iff.1 hc).1
    simpa using this
  have := h.val i hi
  rw [List.getElem?_map, List.getElem?_eq_getElem hi] at hc
  simp only [World.cell?, h.blk, Option.map_some, Option.some.injEq] at hc ⊢
  rw [this, ← hc, ← gth_eq false hi]
  rfl
set_option maxRecDepth 100000 in
set_option maxHeartbeats 2000000 in
theorem scored_any (w0 w : World) (rp kd g mc n : Nat) (db : Value) (mo sk : Int) (gc : Array Value) (mk : List Bool) (hn : n ≤ 10) (hN : mk.length = n * 11) (hmc : mk.length ≤ mc) (hmx : mc ≤ maxLen) (hw0 : w0.heap.size ≤ w.heap.size)
    (P : PRow 72 w0 w rp (rdc kd (.slice none 0 0) 0 db g mk.length mc n 11 mo sk)) (M : MkW w g gc mk) :
    Calls Try.prog 46 #[.pointer (some ⟨rp, 0, none⟩)] w (RetB w0 w rp kd db g mk.length mc n 11 mo sk (scoresR mk n)) := by
  obtain ⟨r, hr⟩ : ∃ r, scoresR mk n = r := ⟨_, rfl⟩
  rw [hr]
  have HR := Lib.hid hr
  have HN := Lib.hid hN
  have HC := Lib.hid (And.intro hmc hmx)
  have HNE := Lib.hid (M.ne P)
  have HM := Lib.hid M
  have HLRP := Lib.hid P.lt
  have lg : g < w.heap.size := (Array.getElem?_eq_some_iff.1 M.blk).1
  have llo := P.lo
  clear hr hN hmc hmx M
  obtain ⟨Z, hZ⟩ : ∃ Z, (List.replicate n (Value.int .i64 0)).toArray = Z := ⟨_, rfl⟩
  have HZ := Lib.hid hZ
  have mz : ∀ w, (Instr.makeSlice 35 (.int .i64 ((n : Nat) : Int)) (.int .i64 ((n : Nat) : Int))).run Try.prog w = .ok (.slice (some ⟨w.heap.size, 0, none⟩) n n) (w.alloc (.cells Z 3)) := fun w => by rw [← hZ]; exact run_madeG etI rfl n (by omega) (by omega) w
  clear hZ
  have hal := below_al w (.cells Z 3)
  have k5 := P.cell 5 (.int .i64 ((n : Nat) : Int)) rfl
  have P1 := P.later hal
  have kr1 := P1.cell 1 (.slice none 0 0) rfl
  have fr1 := P1.free 1
  have HO := Lib.hid (OwG.full encI okI 3 w 0 (by unfold okI; omega) n (by unfold maxLen; omega))
  have HK := Lib.hid ((KeepX.of (rp := rp) hal).set 1 (.slice (some ⟨w.heap.size, 0, none⟩) n n))
  go_enter Try.func46, Try.ntmps46
  go_upto_region 1 with fail
  clear mz k5 kr1 fr1 hal
  have P2 := P1.set 1 (.slice (some ⟨w.heap.size, 0, none⟩) n n)
  have HO2 := Lib.hid ((show OwI w.heap.size (w.alloc (.cells Z 3)) (some ⟨w.heap.size, 0, none⟩) n n (List.replicate n 0) by
    have := HO.out
    rw [List.map_replicate] at this
    rw [← HZ.out]
    exact this).setHi P1.row (by decide) (.slice (some ⟨w.heap.size, 0, none⟩) n n) (i := 1))
  clear HO P1 P
  generalize (w.alloc (.cells Z 3)).setCell ⟨rp, 1, none⟩ (.slice (some ⟨w.heap.size, 0, none⟩) n n) = w1 at *
  obtain ⟨G, hG⟩ : ∃ G, G = w.heap.size := ⟨_, rfl⟩
  have lrp := HLRP.out
  rw [← hG] at P2 HO2 lrp lg hw0 ⊢
  have HG := Lib.hid hG
  clear hG
  have k5 := P2.cell 5 (.int .i64 ((n : Nat) : Int)) rfl
  go_wp2_with fail
  clear k5
  go_loopw [19] (fun jv wr => ∃ (i : Nat) (ov : Int), i ≤ n ∧ jv = .int .i64 (i : Nat) ∧ PRow 72 w0 wr rp (rdc kd (.slice (some ⟨G, 0, none⟩) n n) ov db g mk.length mc n 11 mo sk) ∧ OwI G wr (some ⟨G, 0, none⟩) n n (scoI mk n i) ∧ KeepX rp w wr ∧ Hid (ov = ((ovrS mk i : Nat) : Int))) (fun jv _ => n - (intOf jv).toNat)
  case atStart => exact ⟨0, 0, Nat.zero_le _, rfl, P2, by rw [scoI_zero]; exact HO2.out, HK.out, Lib.hid rfl⟩
  clear P2 HO2 HK
  case round =>
    rename World => wr
    obtain ⟨i, ov, hi, rfl, P, ho, KX, HOV⟩ := hrel
    by_cases hlt : i < n
    case neg =>
      obtain rfl : n = i := by omega
      have HF := Lib.hid (show r = (scoI mk n n, ov) by rw [← HR.out, scoI_full, HOV.out]; rfl)
      go_wp2_with fail
      go_end0
      refine ⟨rfl, some ⟨G, 0, none⟩, n, n, ?_, ?_, KX⟩
      · rw [HF.out]; exact P
      · rw [HF.out, ← HG.out]; exact ho
    case pos =>
      have MW := HM.out.keep KX HNE.out
      obtain ⟨lo, hlo⟩ : ∃ lo, i * 11 = lo := ⟨_, rfl⟩
      obtain ⟨hh, hhh⟩ : ∃ hh, lo + 11 = hh := ⟨_, rfl⟩
      have hl1 : hh ≤ mk.length := by have := HN.out; omega
      obtain ⟨a', hr', -, s2⟩ := run_partG false etB (MW.rdB HC.out.1 HC.out.2) lo hh (by omega) hl1
      have e11 : hh - lo = 11 := by omega
      rw [e11] at hr' s2
      obtain ⟨pt, hpt⟩ : ∃ pt, (mk.take hh).drop lo = pt := ⟨_, rfl⟩
      have HPT := Lib.hid (show ∀ k, k < 11 → bth pt k = bth mk (i * 11 + k) from fun k hk => by rw [← hpt, hlo]; exact part_bth lo hh (by omega))
      have hrl : RdB wr a' 11 (mc - lo) pt := by rw [← hpt]; exact hr'
      have hw1 : IntKind.i64.wrap (((i : Nat) : Int) * 11) = ((lo : Nat) : Int) := (congrArg IntKind.i64.wrap (by omega)).trans (wrap_in (z := ((lo : Nat) : Int)) (by omega) (by omega))
      have hw2 : IntKind.i64.wrap (((i : Nat) : Int) + 1) = ((i : Nat) : Int) + 1 := wrap_in (by omega) (by omega)
      have hw3 : IntKind.i64.wrap ((((i : Nat) : Int) + 1) * 11) = ((hh : Nat) : Int) := (congrArg IntKind.i64.wrap (by omega)).trans (wrap_in (z := ((hh : Nat) : Int)) (by omega) (by omega))
      clear hr' hpt hlo MW hl1 hhh e11
      go_upto_region 4 with fail
      have hb := (Below.refl wr.heap.size wr).drew
      have P3 := P.later hb
      have HO3 := Lib.hid (ho.below hb)
      have HK3 := Lib.hid (KX.trans (KeepX.of hb))
      have hrl3 := hrl.below hb
      clear P ho KX hrl hb
      have k4 := P3.cell 4 (.slice (some ⟨g, 0, none⟩) mk.length mc) rfl
      have k6 := P3.cell 6 (.int .i64 11) rfl
      refine wp_region_held_drew (S := (fun v => v.cell? ⟨rp, 4, none⟩ = some (.slice (some ⟨g, 0, none⟩) mk.length mc) ∧ v.cell? ⟨rp, 6, none⟩ = some (.int .i64 11))) (by kernel_rfl) ?_ (fun hHeld => ?_)
      · exact ⟨k4, k6⟩
      generalize wr.drew = w4 at *
      refine wpAnyH_take (i := 0) (oi := ?oir0_0) (v := ?vr0_0) ?hir0_0 (by kernel_rfl) (by kernel_rfl) (by kernel_rfl) ?hqr0_0 ?hyr0_0 (by assumption) ?restr0_0
      case hir0_0 => simp only [List.getElem?_toArray, List.getElem?_cons_succ, List.getElem?_cons_zero]; rfl
      case hqr0_0 => exact fun _ _ _ h => h
      case hyr0_0 => (refine Or.inl ⟨by rfl, ?_⟩; intro w hSw; (try dsimp only at hSw); go_simp; all_goals with_reducible rfl)
      try simp only [Act.put, List.setIfInBounds_toArray, List.set_cons_zero, List.set_cons_succ]
      refine wpAnyH_take (i := 1) (oi := ?oir0_1) (v := ?vr0_1) ?hir0_1 (by kernel_rfl) (by kernel_rfl) (by kernel_rfl) ?hqr0_1 ?hyr0_1 (by assumption) ?restr0_1
      case hir0_1 => simp only [List.getElem?_toArray, List.getElem?_cons_succ, List.getElem?_cons_zero]; rfl
      case hqr0_1 => exact fun _ _ _ h => h
      case hyr0_1 => (refine Or.inl ⟨by rfl, ?_⟩; intro w hSw; (try dsimp only at hSw); go_simp; all_goals with_reducible rfl)
      try simp only [Act.put, List.setIfInBounds_toArray, List.set_cons_zero, List.set_cons_succ]
      refine wpAnyH_take (i := 2) (oi := ?oir0_2) (v := ?vr0_2) ?hir0_2 (by kernel_rfl) (by kernel_rfl) (by kernel_rfl) ?hqr0_2 ?hyr0_2 (by assumption) ?restr0_2
      case hir0_2 => simp only [List.getElem?_toArray, List.getElem?_cons_succ, List.getElem?_cons_zero]; rfl
      case hqr0_2 => exact fun _ _ _ h => h
      case hyr0_2 => (refine Or.inl ⟨by rfl, ?_⟩; intro w hSw; (try dsimp only at hSw); go_simp; all_goals with_reducible rfl)
      try simp only [Act.put, List.setIfInBounds_toArray, List.set_cons_zero, List.set_cons_succ]
      refine wpAnyH_take (i := 3) (oi := ?oir0_3) (v := ?vr0_3) ?hir0_3 (by kernel_rfl) (by kernel_rfl) (by kernel_rfl) ?hqr0_3 ?hyr0_3 (by assumption) ?restr0_3
      case hir0_3 => simp only [List.getElem?_toArray, List.getElem?_cons_succ, List.getElem?_cons_zero]; rfl
      case hqr0_3 => exact fun _ _ _ h => h
      case hyr0_3 => (refine Or.inl ⟨by rfl, ?_⟩; intro w hSw; (try dsimp only at hSw); go_simp; all_goals with_reducible rfl)
      try simp only [Act.put, List.setIfInBounds_toArray, List.set_cons_zero, List.set_cons_succ]
      refine wpAnyH_take (i := 4) (oi := ?oir0_4) (v := ?vr0_4) ?hir0_4 (by kernel_rfl) (by kernel_rfl) (by kernel_rfl) ?hqr0_4 ?hyr0_4 (by assumption) ?restr0_4
      case hir0_4 => simp only [List.getElem?_toArray, List.getElem?_cons_succ, List.getElem?_cons_zero]; rfl
      case hqr0_4 => exact fun _ _ _ h => h
      case hyr0_4 => (refine Or.inl ⟨by rfl, ?_⟩; intro w hSw; (try dsimp only at hSw); go_simp; all_goals with_reducible rfl)
      try simp only [Act.put, List.setIfInBounds_toArray, List.set_cons_zero, List.set_cons_succ]
      refine wpAnyH_take (i := 5) (oi := ?oir0_5) (v := ?vr0_5) ?hir0_5 (by kernel_rfl) (by kernel_rfl) (by kernel_rfl) ?hqr0_5 ?hyr0_5 (by assumption) ?restr0_5
      case hir0_5 => simp only [List.getElem?_toArray, List.getElem?_cons_succ, List.getElem?_cons_zero]; rfl
      case hqr0_5 => exact fun _ _ _ h => h
      case hyr0_5 => (refine Or.inl ⟨by rfl, ?_⟩; intro w hSw; (try dsimp only at hSw); go_simp; all_goals with_reducible rfl)
      try simp only [Act.put, List.setIfInBounds_toArray, List.set_cons_zero, List.set_cons_succ]
      refine wpAnyH_take (i := 6) (oi := ?oir0_6) (v := ?vr0_6) ?hir0_6 (by kernel_rfl) (by kernel_rfl) (by kernel_rfl) ?hqr0_6 ?hyr0_6 (by assumption) ?restr0_6
      case hir0_6 => simp only [List.getElem?_toArray, List.getElem?_cons_succ, List.getElem?_cons_zero]; rfl
      case hqr0_6 => exact fun _ _ _ h => h
      case hyr0_6 => (refine Or.inl ⟨by rfl, ?_⟩; intro w hSw; (try dsimp only at hSw); go_simp; all_goals with_reducible rfl)
      try simp only [Act.put, List.setIfInBounds_toArray, List.set_cons_zero, List.set_cons_succ]
      refine wpAnyH_take (i := 7) (oi := ?oir0_7) (v := ?vr0_7) ?hir0_7 (by kernel_rfl) (by kernel_rfl) (by kernel_rfl) ?hqr0_7 ?hyr0_7 (by assumption) ?restr0_7
      case hir0_7 => simp only [List.getElem?_toArray, List.getElem?_cons_succ, List.getElem?_cons_zero]; rfl
      case hqr0_7 => exact fun _ _ _ h => h
      case hyr0_7 => (refine Or.inl ⟨by rfl, ?_⟩; intro w hSw; (try dsimp only at hSw); go_simp; all_goals with_reducible rfl)
      try simp only [Act.put, List.setIfInBounds_toArray, List.set_cons_zero, List.set_cons_succ]
      refine wpAnyH_take (i := 8) (oi := ?oir0_8) (v := ?vr0_8) ?hir0_8 (by kernel_rfl) (by kernel_rfl) (by kernel_rfl) ?hqr0_8 ?hyr0_8 (by assumption) ?restr0_8
      case hir0_8 => simp only [List.getElem?_toArray, List.getElem?_cons_succ, List.getElem?_cons_zero]; rfl
      case hqr0_8 => exact fun _ _ _ h => h
      case hyr0_8 => (refine Or.inl ⟨by rfl, ?_⟩; intro w hSw; (try dsimp only at hSw); go_simp; all_goals with_reducible rfl)
      try simp only [Act.put, List.setIfInBounds_toArray, List.set_cons_zero, List.set_cons_succ]
      refine wpAnyH_take (i := 9) (oi := ?oir0_9) (v := ?vr0_9) ?hir0_9 (by kernel_rfl) (by kernel_rfl) (by kernel_rfl) ?hqr0_9 ?hyr0_9 (by assumption) ?restr0_9
      case hir0_9 => simp only [List.getElem?_toArray, List.getElem?_cons_succ, List.getElem?_cons_zero]; rfl
      case hqr0_9 => exact fun _ _ _ h => h
      case hyr0_9 => (refine Or.inl ⟨by rfl, ?_⟩; intro w hSw; (try dsimp only at hSw); go_simp; all_goals with_reducible rfl)
      try simp only [Act.put, List.setIfInBounds_toArray, List.set_cons_zero, List.set_cons_succ]
      refine wpAnyH_take (i := 10) (oi := ?oir0_10) (v := ?vr0_10) ?hir0_10 (by kernel_rfl) (by kernel_rfl) (by kernel_rfl) ?hqr0_10 ?hyr0_10 (by assumption) ?restr0_10
      case hir0_10 => simp only [List.getElem?_toArray, List.getElem?_cons_succ, List.getElem?_cons_zero]; rfl
      case hqr0_10 => exact fun _ _ _ h => h
      case hyr0_10 => (refine Or.inl ⟨by rfl, ?_⟩; intro w hSw; (try dsimp only at hSw); go_simp; all_goals with_reducible rfl)
      try simp only [Act.put, List.setIfInBounds_toArray, List.set_cons_zero, List.set_cons_succ]
      refine wpAnyH_take (i := 11) (oi := ?oir0_11) (v := ?vr0_11) ?hir0_11 (by kernel_rfl) (by kernel_rfl) (by kernel_rfl) ?hqr0_11 ?hyr0_11 (by assumption) ?restr0_11
      case hir0_11 => simp only [List.getElem?_toArray, List.getElem?_cons_succ, List.getElem?_cons_zero]; rfl
      case hqr0_11 => exact fun _ _ _ h => h
      case hyr0_11 => (refine Or.inl ⟨by rfl, ?_⟩; intro w hSw; (try dsimp only at hSw); go_simp; all_goals with_reducible rfl)
      try simp only [Act.put, List.setIfInBounds_toArray, List.set_cons_zero, List.set_cons_succ]
      refine wpAnyH_take (i := 12) (oi := ?oir0_12) (v := ?vr0_12) ?hir0_12 (by kernel_rfl) (by kernel_rfl) (by kernel_rfl) ?hqr0_12 ?hyr0_12 (by assumption) ?restr0_12
      case hir0_12 => simp only [List.getElem?_toArray, List.getElem?_cons_succ, List.getElem?_cons_zero]; rfl
      case hqr0_12 => exact fun _ _ _ h => h
      case hyr0_12 => (refine Or.inl ⟨by rfl, ?_⟩; intro w hSw; (try dsimp only at hSw); go_simp; all_goals with_reducible rfl)
      try simp only [Act.put, List.setIfInBounds_toArray, List.set_cons_zero, List.set_cons_succ]
      refine wpAnyH_take (i := 13) (oi := ?oir0_13) (v := ?vr0_13) ?hir0_13 (by kernel_rfl) (by kernel_rfl) (by kernel_rfl) ?hqr0_13 ?hyr0_13 (by assumption) ?restr0_13
      case hir0_13 => simp only [List.getElem?_toArray, List.getElem?_cons_succ, List.getElem?_cons_zero]; rfl
      case hqr0_13 => exact fun _ _ _ h => h
      case hyr0_13 => (refine Or.inl ⟨by rfl, ?_⟩; intro w hSw; (try dsimp only at hSw); go_simp; all_goals with_reducible rfl)
      try simp only [Act.put, List.setIfInBounds_toArray, List.set_cons_zero, List.set_cons_succ]
      refine wpAnyH_take (i := 14) (oi := ?oir0_14) (v := ?vr0_14) ?hir0_14 (by kernel_rfl) (by kernel_rfl) (by kernel_rfl) ?hqr0_14 ?hyr0_14 (by assumption) ?restr0_14
      case hir0_14 => simp only [List.getElem?_toArray, List.getElem?_cons_succ, List.getElem?_cons_zero]; rfl
      case hqr0_14 => exact fun _ _ _ h => h
      case hyr0_14 => (refine Or.inl ⟨by rfl, ?_⟩; intro w hSw; (try dsimp only at hSw); go_simp; all_goals with_reducible rfl)
      try simp only [Act.put, List.setIfInBounds_toArray, List.set_cons_zero, List.set_cons_succ]
      refine wpAnyH_take (i := 15) (oi := ?oir0_15) (v := ?vr0_15) ?hir0_15 (by kernel_rfl) (by kernel_rfl) (by kernel_rfl) ?hqr0_15 ?hyr0_15 (by assumption) ?restr0_15
      case hir0_15 => simp only [List.getElem?_toArray, List.getElem?_cons_succ, List.getElem?_cons_zero]; rfl
      case hqr0_15 => exact fun _ _ _ h => h
      case hyr0_15 => (refine Or.inl ⟨by rfl, ?_⟩; intro w hSw; (try dsimp only at hSw); go_simp; all_goals with_reducible rfl)
      try simp only [Act.put, List.setIfInBounds_toArray, List.set_cons_zero, List.set_cons_succ]
      refine wpAnyH_take (i := 16) (oi := ?oir0_16) (v := ?vr0_16) ?hir0_16 (by kernel_rfl) (by kernel_rfl) (by kernel_rfl) ?hqr0_16 ?hyr0_16 (by assumption) ?restr0_16
      case hir0_16 => simp only [List.getElem?_toArray, List.getElem?_cons_succ, List.getElem?_cons_zero]; rfl
      case hqr0_16 => exact fun _ _ _ h => h
      case hyr0_16 => (refine Or.inl ⟨by rfl, ?_⟩; intro w hSw; (try dsimp only at hSw); go_simp; all_goals with_reducible rfl)
      try simp only [Act.put, List.setIfInBounds_toArray, List.set_cons_zero, List.set_cons_succ]
      refine wpAnyH_take (i := 17) (oi := ?oir0_17) (v := ?vr0_17) ?hir0_17 (by kernel_rfl) (by kernel_rfl) (by kernel_rfl) ?hqr0_17 ?hyr0_17 (by assumption) ?restr0_17
      case hir0_17 => simp only [List.getElem?_toArray, List.getElem?_cons_succ, List.getElem?_cons_zero]; rfl
      case hqr0_17 => exact fun _ _ _ h => h
      case hyr0_17 => (refine Or.inl ⟨by rfl, ?_⟩; intro w hSw; (try dsimp only at hSw); go_simp; all_goals with_reducible rfl)
      try simp only [Act.put, List.setIfInBounds_toArray, List.set_cons_zero, List.set_cons_succ]
      refine wpAnyH_take (i := 18) (oi := ?oir0_18) (v := ?vr0_18) ?hir0_18 (by kernel_rfl) (by kernel_rfl) (by kernel_rfl) ?hqr0_18 ?hyr0_18 (by assumption) ?restr0_18
      case hir0_18 => simp only [List.getElem?_toArray, List.getElem?_cons_succ, List.getElem?_cons_zero]; rfl
      case hqr0_18 => exact fun _ _ _ h => h
      case hyr0_18 => (refine Or.inl ⟨by rfl, ?_⟩; intro w hSw; (try dsimp only at hSw); go_simp; all_goals with_reducible rfl)
      try simp only [Act.put, List.setIfInBounds_toArray, List.set_cons_zero, List.set_cons_succ]
      refine wpAnyH_done (by kernel_rfl) ?_ _
      clear s2 hw1 hw2 hw3 hHeld k4 k6
      go_wp2_with fail
      refine (indexB_any _ hrl3).mono ?_
      rintro e w5 ⟨rfl, rfl⟩
      rcases fst_cases (fun k => bth pt k) 11 with h0 | ⟨at_, hat, h1, h2⟩
      case inl =>
        rw [fstI_none h0]
        have HS := Lib.hid (score_none (mk := mk) (i := i) fun j hj => by rw [← HPT.out j hj]; exact h0 j hj)
        clear h0
        go_wp2_with fail
        go_roundw
        case rel => exact ⟨i + 1, ov, by omega, by go_num, P3, by rw [scoI_same n HS.out.1]; exact HO3.out, HK3.out, Lib.hid (by rw [ovrS_same HS.out.2]; exact HOV.out)⟩
        case measure => simp [intOf]; omega
      case inr =>
        rw [fstI_at hat h1 h2]
        have HA := Lib.hid h1
        have HB := Lib.hid h2
        clear h1 h2
        have d1 : decide (((at_ : Nat) : Int) < 0) = false := decide_eq_false (by omega)
        obtain ⟨t, ht⟩ : ∃ t, at_ + 1 = t := ⟨_, rfl⟩
        obtain ⟨a2, hr2, -, s2⟩ := run_fromG false etB hrl3 t (by omega)
        have hw1 : IntKind.i64.wrap (((at_ : Nat) : Int) + 1) = ((t : Nat) : Int) := (congrArg IntKind.i64.wrap (by omega)).trans (wrap_in (z := ((t : Nat) : Int)) (by omega) (by omega))
        obtain ⟨m2, hm2⟩ : ∃ m2, 11 - t = m2 := ⟨_, rfl⟩
        obtain ⟨c2, hc2⟩ : ∃ c2, mc - lo - t = c2 := ⟨_, rfl⟩
        rw [hm2, hc2] at hr2 s2
        have HT := Lib.hid ht
        have HM2 := Lib.hid hm2
        clear ht hm2 hc2
        go_wp2_with fail
        clear s2 hw1
        refine (containsB_any _ hr2).mono ?_
        rintro e w5 ⟨rfl, rfl⟩
        have ht := HT.out
        have hm2 := HM2.out
        rcases fst_cases (fun k => bth (pt.drop t) k) m2 with h0 | ⟨b, hbt, h1, h2⟩
        case inl =>
          rw [fstI_none h0]
          rw [show decide ((0 : Int) ≤ -1) = false from rfl]
          have HS := Lib.hid (score_one (mk := mk) (i := i) (a := at_) (by rw [← HPT.out at_ hat]; exact HA.out) hat fun j hj hja => by
            rw [← HPT.out j hj]
            by_cases e : j < at_
            · exact HB.out j e
            · have := h0 (j - t) (by omega)
              rw [drop_bth] at this
              rw [show t + (j - t) = j by omega] at this
              exact this)
          clear h0 ht hm2
          have hoo := HO3.out
          have k1 := P3.cell 1 (.slice (some ⟨G, 0, none⟩) n n) rfl
          have k7 := hoo.at 0 i hlt
          have f7 := hoo.free i
          clear hoo
          go_wp2_with fail
          go_roundw
          case rel => exact ⟨i + 1, ov, by omega, by go_num, P3.other (p := ⟨G, i, none⟩) (by show rp ≠ G; omega) (by show w0.heap.size ≤ G; omega) _, by rw [scoI_set n HS.out.1]; exact HO3.out.set i (v := ((at_ : Nat) : Int)) (by unfold okI; omega), HK3.out.new (p := ⟨G, i, none⟩) (by rw [← HG.out]; exact Nat.le_refl _) _, Lib.hid (by rw [ovrS_same HS.out.2]; exact HOV.out)⟩
          case measure => simp [intOf]; omega
        case inr =>
          rw [fstI_at hbt h1 h2]
          rw [show decide ((0 : Int) ≤ ((b : Nat) : Int)) = true from decide_eq_true (by omega)]
          have HS := Lib.hid (score_many (mk := mk) (i := i) (a := at_) (b := t + b) (by rw [← HPT.out at_ hat]; exact HA.out) (by rw [← HPT.out (t + b) (by omega), ← drop_bth]; exact h1) (by omega) (by omega))
          clear h1 h2 ht hm2
          have k2 := P3.cell 2 (.int .i64 ov) rfl
          have f2 := P3.free 2
          have hov := ovrS_le mk i
          have hov2 : 0 ≤ ov ∧ ov ≤ 10 := by have := HOV.out; omega
          have hw1 : IntKind.i64.wrap (ov + 1) = ov + 1 := wrap_in (by omega) (by omega)
          clear hov
          go_wp2_with fail
          go_roundw
          case rel => exact ⟨i + 1, ov + 1, by omega, by go_num, P3.set 2 _, by rw [scoI_same n HS.out.1]; exact HO3.out.setHi P3.row (by decide) _, HK3.out.set 2 _, Lib.hid (by rw [ovrS_more HS.out.2, HOV.out]; rfl)⟩
          case measure => simp [intOf]; omega

end Go.Proofs.Ythpjnbnheagpiaa
