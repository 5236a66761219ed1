/- Find, Count, many of both. Conditions: none. -/
import Derived.Test.YtnjkfjecnicccaaRolI
namespace Go.Proofs.Ytnjkfjecnicccaa
open Go.RowKit Go.Suf
set_option linter.unusedVariables false
set_option linter.unusedSimpArgs false

/-- The block k, laid since w, holds the cells of a value of type t. -/
structure PRow (t : TypeId) (w w1 : World) (k : Nat) (cs : Array Value) : Prop where
  below : Below w.heap.size w w1
  row : w1.heap[k]? = some (.cells cs t (0, 0))
  lo : w.heap.size ≤ k
  lt : k < w1.heap.size
theorem PRow.new (t : TypeId) (w : World) (cs : Array Value) : PRow t w (w.alloc (.cells cs t)) w.heap.size cs :=
  ⟨(Below.refl _ _).alloc (Nat.le_refl _) _, heap_alloc_new w _, Nat.le_refl _, by rw [World.size_alloc]; omega⟩
theorem PRow.later {t : TypeId} {w w1 w2 : World} {k : Nat} {cs : Array Value} (h : PRow t w w1 k cs) (hb : Below w1.heap.size w1 w2) : PRow t w w2 k cs :=
  ⟨h.below.trans (hb.mono (Nat.le_trans h.lo (Nat.le_of_lt h.lt))), by rw [hb.block k h.lt]; exact h.row, h.lo, Nat.lt_of_lt_of_le h.lt hb.size⟩
theorem PRow.cell {t : TypeId} {w w1 : World} {k : Nat} {cs : Array Value} (h : PRow t w w1 k cs) (i : Nat) (v : Value) (hv : cs[i]? = some v) : w1.cell? ⟨k, i, none⟩ = some v := by
  simp only [World.cell?, h.row, hv]
  rfl
theorem PRow.cells {t : TypeId} {w w1 : World} {k : Nat} {cs : List Value} (h : PRow t w w1 k cs.toArray) (j : Nat) (u : Value) (hu : cs[j]? = some u) : w1.cell? ⟨k, 0 + j, none⟩ = some u := by
  rw [Nat.zero_add]
  exact h.cell j u (by simpa using hu)
theorem PRow.set {t : TypeId} {w w1 : World} {k : Nat} {cs : Array Value} (h : PRow t w w1 k cs) (i : Nat) (v : Value) : PRow t w (w1.setCell ⟨k, i, none⟩ v) k (cs.setIfInBounds i v) :=
  ⟨h.below.setCell h.lo v, heap_setCell_same w1 k i cs t v h.row, h.lo, by have := h.lt; simpa [World.setCell] using this⟩
theorem PRow.free {t : TypeId} {w w1 : World} {k : Nat} {cs : Array Value} (h : PRow t w w1 k cs) (i : Nat) : w1.frozen? ⟨k, i, none⟩ = false := frozen_of_row w1 k i _ t h.row
theorem PRow.put {t : TypeId} {w w1 : World} {k : Nat} {cs : Array Value} (h : PRow t w w1 k cs) (cs' : Array Value) : PRow t w (w1.setRow k cs') k cs' :=
  ⟨below_set h.below h.lo _, setRow_heap _ _ _ _ _ _ h.row, h.lo, by rw [setRow_size]; exact h.lt⟩

theorem results_cell_two {P : Program} {fn : Func} {p u : Tmp} {ty : TypeId} (h : fn.results = #[.cell p ty, .tmp u]) (tmps : Array Value) (w : World) (g : Nat) (t : TypeId) (cs : Array Value) (fr : Nat × Nat) (d : TypeDesc)
    (hp : tmps.getD p undef = .pointer (some ⟨g, 0, none⟩)) (hg : w.heap[g]? = some (.cells cs t fr))
    (hu : P.underlying ty = some d) (hd : (match d with | .struct _ | .array _ _ => true | _ => false) = true) (hi : (P.info? ty).map (·.size) = some cs.size) (v : Value) (hv : tmps.getD u undef = v) :
    (results fn tmps).run P w = .ok (.tuple #[.agg cs, v]) w := by
  have hp' : tmps[p]?.getD undef = .pointer (some ⟨g, 0, none⟩) := by simpa using hp
  have hv' : tmps[u]?.getD undef = v := by simpa using hv
  simp [results, h, hp', hv', asAddr, run_loadVar_row w g t ty cs fr d hg hu hd hi, Sem.run_bind, Result.andThen]

def inV (p : Int) (v : VQ) : Bool := decide (p < 0) || decide (v.pc = p)
def hasV (p : Int) (s : Nat) (v : VQ) : Bool := decide (v.st = s) && inV p v
def manyV (vs : List VQ) (p : Int) (s : Nat) : Nat := vs.countP (hasV p s)
theorem many_take (vs : List VQ) (p : Int) (s : Nat) {i : Nat} (h : i < vs.length) : manyV (vs.take (i + 1)) p s = manyV (vs.take i) p s + (if hasV p s (vth vs i) = true then 1 else 0) := by
  unfold manyV
  rw [List.take_succ_eq_append_getElem h, List.countP_append, vth_eq h]
  simp [List.countP_cons]
theorem many_le (vs : List VQ) (p : Int) (s : Nat) : manyV vs p s ≤ vs.length := List.countP_le_length

set_option maxHeartbeats 1000000 in
theorem many_any (w : World) {a : Option Addr} {n cap : Nat} {vs : List VQ} (h : RdV w a n cap vs) (p : Int) (hp1 : -9223372036854775808 ≤ p) (hp2 : p ≤ 9223372036854775807) (s : Nat) (hs : s < 256) :
    Calls Try.prog 41 #[.slice a n cap, .int .i64 p, .int .u8 ((s : Nat) : Int)] w fun e w' => e = .returned (.int .i64 ((manyV vs p s : Nat) : Int)) ∧ Below w.heap.size w w' := by
  have hn := h.lt
  have HL := Lib.hid h.len
  obtain ⟨r, hr⟩ : ∃ r, r = manyV vs p s := ⟨_, rfl⟩
  rw [← hr]
  have HR := Lib.hid hr
  clear hr
  go_enter Try.func41, Try.ntmps41
  go_wp2_with fail
  go_loop [7, 8] (fun v j => ∃ i m : Nat, i ≤ n ∧ m ≤ i ∧ v = .int .i64 (m : Nat) ∧ j = .int .i64 (i : Nat) ∧ Hid (m = manyV (vs.take i) p s)) (fun _ j => n - (intOf j).toNat)
  case atStart => exact ⟨0, 0, Nat.zero_le _, Nat.le_refl _, rfl, rfl, Lib.hid rfl⟩
  case round =>
    obtain ⟨i, m, hi, hm, rfl, rfl, hM⟩ := hrel
    by_cases hlt : i < n
    case neg =>
      obtain rfl : i = n := by omega
      have HE : Hid (r = m) := Lib.hid (by rw [HR.out, hM.out, ← HL.out, List.take_length])
      go_wp2_with fail
      go_ret
      exact ⟨by rw [HE.out]; rfl, Below.refl _ _⟩
    case pos =>
      obtain ⟨b, off, rfl, hc⟩ := h.addr (by omega)
      obtain ⟨k0, k1, k2⟩ := hc i hlt
      have HT := Lib.hid (many_take vs p s (i := i) (by rw [HL.out]; exact hlt))
      clear hc
      obtain ⟨v, hv⟩ : ∃ v, vth vs i = v := ⟨_, rfl⟩
      rw [hv] at k0 k1 k2
      have HV := Lib.hid hv
      clear hv
      by_cases e1 : v.st = s
      case neg =>
        have hd : decide (((v.st : Nat) : Int) = ((s : Nat) : Int)) = false := decide_eq_false (by omega)
        have HX : Hid (m = manyV (vs.take (i + 1)) p s) := Lib.hid (by rw [HT.out, HV.out, if_neg (by simp [hasV, e1]), ← hM.out, Nat.add_zero])
        go_wp2_with fail
        go_round
        case rel => exact ⟨i + 1, m, by omega, by omega, rfl, by go_num, HX⟩
        case measure => simp [intOf]; omega
      have hd : decide (((v.st : Nat) : Int) = ((s : Nat) : Int)) = true := decide_eq_true (by omega)
      have hst : ((v.st : Nat) : Int) = ((s : Nat) : Int) := by omega
      by_cases e2 : p < 0
      case pos =>
        have HX : Hid (m + 1 = manyV (vs.take (i + 1)) p s) := Lib.hid (by rw [HT.out, HV.out, if_pos (by simp [hasV, inV, e1, e2]), ← hM.out])
        go_wp2_with fail
        go_round
        case rel => exact ⟨i + 1, m + 1, by omega, by omega, by go_num, by go_num, HX⟩
        case measure => simp [intOf]; omega
      by_cases e3 : v.pc = p
      case pos =>
        have HX : Hid (m + 1 = manyV (vs.take (i + 1)) p s) := Lib.hid (by rw [HT.out, HV.out, if_pos (by simp [hasV, inV, e1, e3]), ← hM.out])
        go_wp2_with fail
        go_round
        case rel => exact ⟨i + 1, m + 1, by omega, by omega, by go_num, by go_num, HX⟩
        case measure => simp [intOf]; omega
      case neg =>
        have HX : Hid (m = manyV (vs.take (i + 1)) p s) := Lib.hid (by rw [HT.out, HV.out, if_neg (by simp [hasV, inV, e2, e3]), ← hM.out, Nat.add_zero])
        go_wp2_with fail
        go_round
        case rel => exact ⟨i + 1, m, by omega, by omega, rfl, by go_num, HX⟩
        case measure => simp [intOf]; omega

/-- A count and an error. -/
def cntV (vs : List VQ) (p : Int) : (Nat × Nat × Nat × Nat) × Int :=
  if chkV vs = 0 then (if p < -1 ∨ 8 ≤ p then ((0, 0, 0, 0), 2) else ((manyV vs p 1, manyV vs p 2, manyV vs p 3, manyV vs p 4), 0)) else ((0, 0, 0, 0), chkV vs)
def RetT (w : World) (r : (Nat × Nat × Nat × Nat) × Int) : Ending → World → Prop := fun e w' =>
  e = .returned (.tuple #[.agg #[.int .i64 ((r.1.1 : Nat) : Int), .int .i64 ((r.1.2.1 : Nat) : Int), .int .i64 ((r.1.2.2.1 : Nat) : Int), .int .i64 ((r.1.2.2.2 : Nat) : Int)], .int .i64 r.2]) ∧ Below w.heap.size w w'
theorem atTur : AT Try.prog 47 4 := ⟨⟨_, Try.underlying47, rfl⟩, by kernel_rfl⟩
theorem tur_one (a b c d : Int) : ∀ u ∈ (#[.int .i64 a, .int .i64 b, .int .i64 c, .int .i64 d] : Array Value).toList, u.oneCell' = true := by
  intro u hu
  simp at hu
  rcases hu with rfl | rfl | rfl | rfl <;> rfl

set_option maxRecDepth 100000 in
set_option maxHeartbeats 2000000 in
theorem refCount_any (w : World) {a : Option Addr} {n cap : Nat} {vs : List VQ} (h : RdV w a n cap vs) (p : Int) (hp1 : -9223372036854775808 ≤ p) (hp2 : p ≤ 9223372036854775807) :
    Calls Try.prog 23 #[.slice a n cap, .int .i64 p] w (RetT w (cntV vs p)) := by
  have R0 := PRow.new 47 w #[.int .i64 0, .int .i64 0, .int .i64 0, .int .i64 0]
  obtain ⟨r, hr⟩ : ∃ r, r = cntV vs p := ⟨_, rfl⟩
  rw [← hr]
  obtain ⟨ck, hck⟩ : ∃ ck, chkV vs = ck := ⟨_, rfl⟩
  have HC := Lib.hid hck
  have hd := h.below R0.below
  have c := refCheck_any (w.alloc (.cells #[.int .i64 0, .int .i64 0, .int .i64 0, .int .i64 0] 47)) hd
  rw [hck] at c
  clear hck
  go_enter Try.func23, Try.ntmps23
  go_wp2_with fail
  refine c.mono ?_
  rintro e w1 ⟨rfl, hb1⟩
  clear c
  have R1 := R0.later hb1
  have hd := hd.below hb1
  clear R0
  by_cases hc : ck = 0
  case neg =>
    have HE : Hid (r = ((0, 0, 0, 0), ck)) := Lib.hid (by rw [hr, cntV, HC.out, if_neg hc])
    clear hr
    go_wp2_with first | refine wpList_store_whole rfl 47 _ _ rfl atTur _ _ _ R1.row rfl rfl rfl rfl (tur_one 0 0 0 0) ?_
    refine bodyPost_ret (results_cell_two rfl _ _ _ _ _ _ _ rfl (setRow_heap _ _ _ _ _ _ R1.row) Try.underlying47 rfl (by kernel_rfl) _ rfl) rfl ?_
    exact ⟨by rw [HE.out]; rfl, (R1.put _).below⟩
  subst hc
  by_cases hq : p < -1 ∨ 8 ≤ p
  case pos =>
    have HE : Hid (r = ((0, 0, 0, 0), 2)) := Lib.hid (by rw [hr, cntV, HC.out, if_pos rfl, if_pos hq])
    clear hr
    by_cases hq1 : p < -1
    all_goals
      first | have hq2 : 8 ≤ p := by omega | skip
      go_wp2_with first | refine wpList_store_whole rfl 47 _ _ rfl atTur _ _ _ R1.row rfl rfl rfl rfl (tur_one 0 0 0 0) ?_
      refine bodyPost_ret (results_cell_two rfl _ _ _ _ _ _ _ rfl (setRow_heap _ _ _ _ _ _ R1.row) Try.underlying47 rfl (by kernel_rfl) _ rfl) rfl ?_
      exact ⟨by rw [HE.out]; rfl, (R1.put _).below⟩
  case neg =>
    have HE : Hid (r = ((manyV vs p 1, manyV vs p 2, manyV vs p 3, manyV vs p 4), 0)) := Lib.hid (by rw [hr, cntV, HC.out, if_pos rfl, if_neg hq])
    have hq1 : ¬ p < -1 := by omega
    have hq2 : ¬ 8 ≤ p := by omega
    clear hr hq
    go_wp2_with fail
    refine (many_any _ hd p hp1 hp2 1 (by decide)).mono ?_
    rintro e w2 ⟨rfl, hb2⟩
    have R1 := R1.later hb2
    have hd := hd.below hb2
    go_wp2_with fail
    refine (many_any _ hd p hp1 hp2 2 (by decide)).mono ?_
    rintro e w3 ⟨rfl, hb3⟩
    have R1 := R1.later hb3
    have hd := hd.below hb3
    go_wp2_with fail
    refine (many_any _ hd p hp1 hp2 3 (by decide)).mono ?_
    rintro e w4 ⟨rfl, hb4⟩
    have R1 := R1.later hb4
    have hd := hd.below hb4
    go_wp2_with fail
    refine (many_any _ hd p hp1 hp2 4 (by decide)).mono ?_
    rintro e w5 ⟨rfl, hb5⟩
    have R1 := R1.later hb5
    go_wp2_with first | refine wpList_store_whole rfl 47 _ _ rfl atTur _ _ _ R1.row rfl rfl rfl rfl (tur_one _ _ _ _) ?_
    refine bodyPost_ret (results_cell_two rfl _ _ _ _ _ _ _ rfl (setRow_heap _ _ _ _ _ _ R1.row) Try.underlying47 rfl (by kernel_rfl) _ rfl) rfl ?_
    exact ⟨by rw [HE.out]; rfl, (R1.put _).below⟩

end Go.Proofs.Ytnjkfjecnicccaa
