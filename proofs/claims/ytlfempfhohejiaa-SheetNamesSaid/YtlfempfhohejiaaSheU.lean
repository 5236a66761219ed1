/- The program's Read. No condition but at most 1,000 boxes and decisions. Printed by gen_sheu.py. -/
import Derived.Test.YtlfempfhohejiaaSheR
import Derived.Test.YtlfempfhohejiaaSheS
import Derived.Test.YtlfempfhohejiaaSheE
namespace Go.Proofs.Ytlfempfhohejiaa
open Go.RowKit Go.Suf
set_option linter.unusedVariables false
set_option linter.unusedSimpArgs false

/-- A reading of new memory (its two rows apart), and an error. -/
def RetRA (w : World) (r : RQ × Int) : Ending → World → Prop := fun e w' =>
  ∃ a n c b m d, e = .returned (.tuple #[.agg #[.int .u8 ((r.1.kd : Nat) : Int), .slice a n c, .int .i64 r.1.ov, .slice b m d], .int .i64 r.2]) ∧ OwI w.heap.size w' a n c r.1.ms ∧ OwI w.heap.size w' b m d r.1.ds ∧ (∀ p q, a = some p → b = some q → p.block ≠ q.block) ∧ Below w.heap.size w w'
theorem RetRA.nils {w w1 : World} {r : RQ × Int} {x : Int} (hr : r = (zeroR, x)) (hb : Below w.heap.size w w1) : RetRA w r (.returned (.tuple #[.agg #[.int .u8 0, .slice none 0 0, .int .i64 0, .slice none 0 0], .int .i64 x])) w1 := by
  subst hr
  exact ⟨none, 0, 0, none, 0, 0, rfl, OwG.nil _ _ _ _ _, OwG.nil _ _ _ _ _, (fun p q h => by cases h), hb⟩
theorem RetRA.ret {w w1 : World} {r : RQ × Int} {e : Ending} (h : RetRA w r e w1) : RetR w r e w1 := by
  obtain ⟨a, n, c, b, m, d, h1, h2, h3, _, h5⟩ := h
  exact ⟨a, n, c, b, m, d, h1, h2, h3, h5⟩
theorem atDec : AT Try.prog 58 2 := ⟨⟨_, Try.underlying58, rfl⟩, by kernel_rfl⟩
theorem dec_one (b : Int) (y : Bool) : ∀ u ∈ (#[.int .i64 b, .bool y] : Array Value).toList, u.oneCell' = true := by
  intro u hu
  simp at hu
  rcases hu with rfl | rfl <;> rfl
/-- The block of a row of Booleans that is the call's own. -/
theorem own_mkW {base : Nat} {w : World} {g n c : Nat} {mk : List Bool} (h : OwB base w (some ⟨g, 0, none⟩) n c mk) : ∃ gc, MkW w g gc mk := by
  have hl := h.len
  rcases h.own.2 with ⟨h2, _⟩ | ⟨b, cc, cur, hv, hb, hh, r⟩
  · cases h2
  · simp at hv
    obtain ⟨rfl, rfl⟩ := hv
    refine ⟨cur, hh, fun i hi => ?_⟩
    have := h.at false i (by omega)
    simp only [World.cell?, hh] at this
    rw [Nat.zero_add]
    simpa using this
end Go.Proofs.Ytlfempfhohejiaa
namespace Go.Suf
open Go.RowKit Go.Suf
open Go.Proofs.Ytlfempfhohejiaa
set_option linter.unusedVariables false
set_option linter.unusedSimpArgs false
theorem OwG.keepX {α : Type} {enc : α → Value} {ok : α → Prop} {e t : TypeId} {base rp : Nat} {w w' : World} {a : Option Addr} {n cap : Nat} {xs : List α} {cs : Array Value} (h : OwG enc ok e base w a n cap xs) (k : KeepX rp w w') (hg : w.heap[rp]? = some (.cells cs t (0, 0))) (hne : t ≠ e) : OwG enc ok e base w' a n cap xs := by
  refine ⟨h.len, ⟨h.own.1, ?_⟩, h.bd⟩
  rcases h.own.2 with h2 | ⟨b, c, cur, hv, hb, hh, r⟩
  · exact .inl h2
  · refine .inr ⟨b, c, cur, hv, hb, (k.2 b (Array.getElem?_eq_some_iff.1 hh).1 (fun e2 => ?_)).trans hh, r⟩
    subst e2
    rw [hg] at hh
    simp at hh
    exact hne hh.2
theorem OwG.lt {α : Type} {enc : α → Value} {ok : α → Prop} {e : TypeId} {base : Nat} {w : World} {a : Option Addr} {n cap : Nat} {xs : List α} (h : OwG enc ok e base w a n cap xs) : ∀ p, a = some p → p.block < w.heap.size := by
  rintro p rfl
  rcases h.own.2 with ⟨h2, _⟩ | ⟨b, c, cur, hv, hb, hh, r⟩
  · cases h2
  · simp at hv
    obtain ⟨rfl, _⟩ := hv
    exact (Array.getElem?_eq_some_iff.1 hh).1
theorem OwG.ge {α : Type} {enc : α → Value} {ok : α → Prop} {e : TypeId} {base : Nat} {w : World} {a : Option Addr} {n cap : Nat} {xs : List α} (h : OwG enc ok e base w a n cap xs) : ∀ p, a = some p → base ≤ p.block := by
  rintro p rfl
  rcases h.own.2 with ⟨h2, _⟩ | ⟨b, c, cur, hv, hb, hh, r⟩
  · cases h2
  · simp at hv
    obtain ⟨rfl, _⟩ := hv
    exact hb
end Go.Suf
namespace Go.Proofs.Ytlfempfhohejiaa
open Go.RowKit Go.Suf
set_option linter.unusedVariables false
set_option linter.unusedSimpArgs false
theorem ofRanks_any (w : World) : Calls Try.prog 37 #[.int .u8 1] w fun e w' => e = .returned (.func (.func 55) #[] #[]) ∧ w = w' := by
  go_enter Try.func37, Try.ntmps37
  go_wp2_with fail
  go_ret
  exact ⟨rfl, rfl⟩
theorem ofScored_any (w : World) : Calls Try.prog 37 #[.int .u8 3] w fun e w' => e = .returned (.func (.func 56) #[] #[]) ∧ w = w' := by
  go_enter Try.func37, Try.ntmps37
  go_wp2_with fail
  go_ret
  exact ⟨rfl, rfl⟩
theorem ofMarks_any (w : World) : Calls Try.prog 37 #[.int .u8 2] w fun e w' => e = .returned (.func (.func 57) #[] #[]) ∧ w = w' := by
  go_enter Try.func37, Try.ntmps37
  go_wp2_with fail
  go_ret
  exact ⟨rfl, rfl⟩

theorem cell_other_block (w : World) {p : Addr} (v : Value) (q : Addr) (h : q.block ≠ p.block) : (w.setCell p v).cell? q = w.cell? q := by
  simp only [World.cell?]
  rw [heap_setCell_other w p q.block v h]

set_option maxRecDepth 100000 in
set_option maxHeartbeats 8000000 in
theorem Read_any (w : World) (nm : ByteArray) {a_s : Option Addr} {n_s c_s : Nat} {ss : List ByteArray} (h_s : RdS w a_s n_s c_s ss) (seats : Int) (hs1 : -9223372036854775808 ≤ seats) (hs2 : seats ≤ 9223372036854775807) (rule : Nat) (hr : rule < 256) (p : PQ) (pw : PW p) {a_x : Option Addr} {n_x c_x : Nat} {xs : List Nat} (h_x : Rd .u8 w a_x n_x c_x xs) {a_d : Option Addr} {n_d c_d : Nat} {ds : List DQ} (h_d : RdD w a_d n_d c_d ds) (hnx : n_x ≤ 1000) (hnd : n_d ≤ 1000) : Calls Try.prog 20 #[.agg #[.string nm, .slice a_s n_s c_s, .int .i64 seats, .int .u8 ((rule : Nat) : Int)], .agg (polc p), .agg #[.slice a_x n_x c_x], .slice a_d n_d c_d] w (RetRA w (readR nm ss seats rule p xs ds)) := by
  have HN := Lib.hid h_s.len
  have hns := h_s.lt
  have HX := Lib.hid h_x.len
  have HD := Lib.hid h_d.len
  have PWW := Lib.hid pw
  obtain ⟨r, hr0⟩ : ∃ r, readR nm ss seats rule p xs ds = r := ⟨_, rfl⟩
  rw [hr0]
  have HR := Lib.hid hr0
  clear hr0
  obtain ⟨sc, hsc⟩ : ∃ sc, sheetC nm ss seats rule xs = sc := ⟨_, rfl⟩
  have HSC := Lib.hid hsc
  clear hsc
  obtain ⟨mp, hmp⟩ : ∃ mp, mayP p = mp := ⟨_, rfl⟩
  have HMP := Lib.hid hmp
  clear hmp
  have B0 : Below w.heap.size w w := Below.refl _ _
  have h_s_0 := h_s
  have h_x_0 := h_x
  have h_d_0 := h_d
  go_enter Try.func20, Try.ntmps20
  have hb := below_al w (.cells #[.string nm, .slice a_s n_s c_s, .int .i64 seats, .int .u8 ((rule : Nat) : Int)] 24)
  have B1 := B0.trans (hb.mono B0.size)
  have h_s_1 := h_s_0.below hb
  have h_x_1 := h_x_0.below hb
  have h_d_1 := h_d_0.below hb
  clear hb B0 h_s_0 h_x_0 h_d_0
  have h_c_1 := PRow.new 24 w #[.string nm, .slice a_s n_s c_s, .int .i64 seats, .int .u8 ((rule : Nat) : Int)]
  have hb := below_al (w.alloc (.cells #[.string nm, .slice a_s n_s c_s, .int .i64 seats, .int .u8 ((rule : Nat) : Int)] 24)) (.cells (polc p) 48)
  have B2 := B1.trans (hb.mono B1.size)
  have h_s_2 := h_s_1.below hb
  have h_x_2 := h_x_1.below hb
  have h_d_2 := h_d_1.below hb
  have h_c_2 := h_c_1.later hb
  clear hb B1 h_s_1 h_x_1 h_d_1 h_c_1
  have h_p_2 := PRow.new 48 (w.alloc (.cells #[.string nm, .slice a_s n_s c_s, .int .i64 seats, .int .u8 ((rule : Nat) : Int)] 24)) (polc p)
  simp only [World.size_alloc] at h_p_2
  have hb := below_al ((w.alloc (.cells #[.string nm, .slice a_s n_s c_s, .int .i64 seats, .int .u8 ((rule : Nat) : Int)] 24)).alloc (.cells (polc p) 48)) (.cells #[.slice a_x n_x c_x] 27)
  have B3 := B2.trans (hb.mono B2.size)
  have h_s_3 := h_s_2.below hb
  have h_x_3 := h_x_2.below hb
  have h_d_3 := h_d_2.below hb
  have h_c_3 := h_c_2.later hb
  have h_p_3 := h_p_2.later hb
  clear hb B2 h_s_2 h_x_2 h_d_2 h_c_2 h_p_2
  have h_y_3 := PRow.new 27 ((w.alloc (.cells #[.string nm, .slice a_s n_s c_s, .int .i64 seats, .int .u8 ((rule : Nat) : Int)] 24)).alloc (.cells (polc p) 48)) #[.slice a_x n_x c_x]
  simp only [World.size_alloc] at h_y_3
  have HO0 := Lib.hid B3
  have hb := below_al (((w.alloc (.cells #[.string nm, .slice a_s n_s c_s, .int .i64 seats, .int .u8 ((rule : Nat) : Int)] 24)).alloc (.cells (polc p) 48)).alloc (.cells #[.slice a_x n_x c_x] 27)) (.cells #[.int .u8 0, .slice none 0 0, .int .i64 0, .slice none 0 0] 51)
  have B4 := B3.trans (hb.mono B3.size)
  have h_s_4 := h_s_3.below hb
  have h_x_4 := h_x_3.below hb
  have h_d_4 := h_d_3.below hb
  have h_c_4 := h_c_3.later hb
  have h_p_4 := h_p_3.later hb
  have h_y_4 := h_y_3.later hb
  clear hb B3 h_s_3 h_x_3 h_d_3 h_c_3 h_p_3 h_y_3
  have h_o_4 := PRow.new 51 (((w.alloc (.cells #[.string nm, .slice a_s n_s c_s, .int .i64 seats, .int .u8 ((rule : Nat) : Int)] 24)).alloc (.cells (polc p) 48)).alloc (.cells #[.slice a_x n_x c_x] 27)) #[.int .u8 0, .slice none 0 0, .int .i64 0, .slice none 0 0]
  simp only [World.size_alloc] at h_o_4
  have k_c_0 := h_c_4.cell 0 _ rfl
  have k_c_1 := h_c_4.cell 1 _ rfl
  have k_c_2 := h_c_4.cell 2 _ rfl
  have k_c_3 := h_c_4.cell 3 _ rfl
  have k_y_0 := h_y_4.cell 0 _ rfl
  go_wp2_with fail
  clear k_c_0 k_c_1 k_c_2 k_c_3 k_y_0
  generalize ((((w.alloc (.cells #[.string nm, .slice a_s n_s c_s, .int .i64 seats, .int .u8 ((rule : Nat) : Int)] 24)).alloc (.cells (polc p) 48)).alloc (.cells #[.slice a_x n_x c_x] 27)).alloc (.cells #[.int .u8 0, .slice none 0 0, .int .i64 0, .slice none 0 0] 51)) = w4 at *
  have c := sheetCheck_any w4 nm h_s_4 seats hs1 hs2 rule hr h_x_4
  rw [HSC.out] at c
  refine c.mono ?_
  rintro e w5 ⟨rfl, hb⟩
  clear c
  have B5 := B4.trans (hb.mono B4.size)
  have h_s_5 := h_s_4.below hb
  have h_x_5 := h_x_4.below hb
  have h_d_5 := h_d_4.below hb
  have h_c_5 := h_c_4.later hb
  have h_p_5 := h_p_4.later hb
  have h_y_5 := h_y_4.later hb
  have h_o_5 := h_o_4.later hb
  clear hb B4 h_s_4 h_x_4 h_d_4 h_c_4 h_p_4 h_y_4 h_o_4
  by_cases hsc : sc = 0
  case neg =>
    have e1 : (sc == (0 : Int)) = false := by simpa using hsc
    have e2 : (sc != (0 : Int)) = true := by simpa using hsc
    have HRR := Lib.hid (show r = (zeroR, sc) by rw [← HR.out]; unfold readR; rw [HSC.out, if_neg hsc])
    have R := h_o_5
    have k_o_0 := h_o_5.cell 0 _ rfl
    have k_o_1 := h_o_5.cell 1 _ rfl
    have k_o_2 := h_o_5.cell 2 _ rfl
    have k_o_3 := h_o_5.cell 3 _ rfl
    go_wp2_with first | refine wpList_store_whole rfl 51 _ _ rfl atRea _ _ _ R.row rfl rfl rfl rfl (rea_one 0 0 none none 0 0 0 0) ?_
    clear k_o_0 k_o_1 k_o_2 k_o_3
    refine bodyPost_ret (results_cell_two rfl _ _ _ _ _ _ _ rfl (setRow_heap _ _ _ _ _ _ R.row) Try.underlying51 rfl (by kernel_rfl) _ rfl) rfl ?_
    exact RetRA.nils HRR.out (HO0.out.trans ((R.put _).below.mono HO0.out.size))
  subst hsc
  obtain ⟨s1, s2⟩ := sheet_ok HSC.out
  obtain ⟨g1, g2, g3⟩ := chk_rule s1
  have HQ3 := Lib.hid g3
  have HNB := Lib.hid s2
  have HKI := Lib.hid (kind_in g3)
  rw [HN.out] at g1 g2
  clear s1 s2 g3
  have HR1 := Lib.hid (show r = if mp = true then (if xs.length < ds.length then (zeroR, 4) else if decB p xs ds = true then (⟨kindN rule, (bodyR (kindN rule) ss.length rule p (markL p xs ds xs.length)).1, (bodyR (kindN rule) ss.length rule p (markL p xs ds xs.length)).2, dbtL p xs ds xs.length⟩, 0) else (zeroR, 2)) else (zeroR, 2) by rw [← HR.out]; unfold readR; rw [HSC.out, if_pos rfl, HMP.out])
  obtain ⟨p1, p2, p3, p4⟩ := PWW.out
  by_cases q1 : 1 ≤ p.low
  case neg =>
    have HM0 := Lib.hid (show mp = false by rw [← HMP.out]; simp [mayP]; omega)
    have HRR := Lib.hid (show r = (zeroR, 2) by rw [HR1.out, HM0.out]; rfl)
    have R := h_o_5
    have k_p_0 := h_p_5.cell 0 _ rfl
    have k_p_1 := h_p_5.cell 1 _ rfl
    have k_p_2 := h_p_5.cell 2 _ rfl
    have k_o_0 := h_o_5.cell 0 _ rfl
    have k_o_1 := h_o_5.cell 1 _ rfl
    have k_o_2 := h_o_5.cell 2 _ rfl
    have k_o_3 := h_o_5.cell 3 _ rfl
    go_wp2_with first | refine wpList_store_whole rfl 51 _ _ rfl atRea _ _ _ R.row rfl rfl rfl rfl (rea_one 0 0 none none 0 0 0 0) ?_
    clear k_p_0 k_p_1 k_p_2 k_o_0 k_o_1 k_o_2 k_o_3
    refine bodyPost_ret (results_cell_two rfl _ _ _ _ _ _ _ rfl (setRow_heap _ _ _ _ _ _ R.row) Try.underlying51 rfl (by kernel_rfl) _ rfl) rfl ?_
    exact RetRA.nils HRR.out (HO0.out.trans ((R.put _).below.mono HO0.out.size))
  by_cases q2 : p.low ≤ p.high
  case neg =>
    have HM0 := Lib.hid (show mp = false by rw [← HMP.out]; simp [mayP]; omega)
    have HRR := Lib.hid (show r = (zeroR, 2) by rw [HR1.out, HM0.out]; rfl)
    have R := h_o_5
    have k_p_0 := h_p_5.cell 0 _ rfl
    have k_p_1 := h_p_5.cell 1 _ rfl
    have k_p_2 := h_p_5.cell 2 _ rfl
    have k_o_0 := h_o_5.cell 0 _ rfl
    have k_o_1 := h_o_5.cell 1 _ rfl
    have k_o_2 := h_o_5.cell 2 _ rfl
    have k_o_3 := h_o_5.cell 3 _ rfl
    go_wp2_with first | refine wpList_store_whole rfl 51 _ _ rfl atRea _ _ _ R.row rfl rfl rfl rfl (rea_one 0 0 none none 0 0 0 0) ?_
    clear k_p_0 k_p_1 k_p_2 k_o_0 k_o_1 k_o_2 k_o_3
    refine bodyPost_ret (results_cell_two rfl _ _ _ _ _ _ _ rfl (setRow_heap _ _ _ _ _ _ R.row) Try.underlying51 rfl (by kernel_rfl) _ rfl) rfl ?_
    exact RetRA.nils HRR.out (HO0.out.trans ((R.put _).below.mono HO0.out.size))
  by_cases q3 : p.high ≤ 100
  case neg =>
    have HM0 := Lib.hid (show mp = false by rw [← HMP.out]; simp [mayP]; omega)
    have HRR := Lib.hid (show r = (zeroR, 2) by rw [HR1.out, HM0.out]; rfl)
    have R := h_o_5
    have k_p_0 := h_p_5.cell 0 _ rfl
    have k_p_1 := h_p_5.cell 1 _ rfl
    have k_p_2 := h_p_5.cell 2 _ rfl
    have k_o_0 := h_o_5.cell 0 _ rfl
    have k_o_1 := h_o_5.cell 1 _ rfl
    have k_o_2 := h_o_5.cell 2 _ rfl
    have k_o_3 := h_o_5.cell 3 _ rfl
    go_wp2_with first | refine wpList_store_whole rfl 51 _ _ rfl atRea _ _ _ R.row rfl rfl rfl rfl (rea_one 0 0 none none 0 0 0 0) ?_
    clear k_p_0 k_p_1 k_p_2 k_o_0 k_o_1 k_o_2 k_o_3
    refine bodyPost_ret (results_cell_two rfl _ _ _ _ _ _ _ rfl (setRow_heap _ _ _ _ _ _ R.row) Try.underlying51 rfl (by kernel_rfl) _ rfl) rfl ?_
    exact RetRA.nils HRR.out (HO0.out.trans ((R.put _).below.mono HO0.out.size))
  by_cases q4 : 0 ≤ p.skips
  case neg =>
    have HM0 := Lib.hid (show mp = false by rw [← HMP.out]; simp [mayP]; omega)
    have HRR := Lib.hid (show r = (zeroR, 2) by rw [HR1.out, HM0.out]; rfl)
    have R := h_o_5
    have k_p_0 := h_p_5.cell 0 _ rfl
    have k_p_1 := h_p_5.cell 1 _ rfl
    have k_p_2 := h_p_5.cell 2 _ rfl
    have k_o_0 := h_o_5.cell 0 _ rfl
    have k_o_1 := h_o_5.cell 1 _ rfl
    have k_o_2 := h_o_5.cell 2 _ rfl
    have k_o_3 := h_o_5.cell 3 _ rfl
    go_wp2_with first | refine wpList_store_whole rfl 51 _ _ rfl atRea _ _ _ R.row rfl rfl rfl rfl (rea_one 0 0 none none 0 0 0 0) ?_
    clear k_p_0 k_p_1 k_p_2 k_o_0 k_o_1 k_o_2 k_o_3
    refine bodyPost_ret (results_cell_two rfl _ _ _ _ _ _ _ rfl (setRow_heap _ _ _ _ _ _ R.row) Try.underlying51 rfl (by kernel_rfl) _ rfl) rfl ?_
    exact RetRA.nils HRR.out (HO0.out.trans ((R.put _).below.mono HO0.out.size))
  by_cases q5 : p.skips ≤ 10
  case neg =>
    have HM0 := Lib.hid (show mp = false by rw [← HMP.out]; simp [mayP]; omega)
    have HRR := Lib.hid (show r = (zeroR, 2) by rw [HR1.out, HM0.out]; rfl)
    have R := h_o_5
    have k_p_0 := h_p_5.cell 0 _ rfl
    have k_p_1 := h_p_5.cell 1 _ rfl
    have k_p_2 := h_p_5.cell 2 _ rfl
    have k_o_0 := h_o_5.cell 0 _ rfl
    have k_o_1 := h_o_5.cell 1 _ rfl
    have k_o_2 := h_o_5.cell 2 _ rfl
    have k_o_3 := h_o_5.cell 3 _ rfl
    go_wp2_with first | refine wpList_store_whole rfl 51 _ _ rfl atRea _ _ _ R.row rfl rfl rfl rfl (rea_one 0 0 none none 0 0 0 0) ?_
    clear k_p_0 k_p_1 k_p_2 k_o_0 k_o_1 k_o_2 k_o_3
    refine bodyPost_ret (results_cell_two rfl _ _ _ _ _ _ _ rfl (setRow_heap _ _ _ _ _ _ R.row) Try.underlying51 rfl (by kernel_rfl) _ rfl) rfl ?_
    exact RetRA.nils HRR.out (HO0.out.trans ((R.put _).below.mono HO0.out.size))
  have HM0 := Lib.hid (show mp = true by rw [← HMP.out]; simp [mayP]; omega)
  by_cases hld : n_x < n_d
  case pos =>
    have hd : decide (((n_d : Nat) : Int) > ((n_x : Nat) : Int)) = true := decide_eq_true (by omega)
    have HRR := Lib.hid (show r = (zeroR, 4) by rw [HR1.out, HM0.out, if_pos rfl, if_pos (by rw [HX.out, HD.out]; exact hld)])
    have R := h_o_5
    have k_p_0 := h_p_5.cell 0 _ rfl
    have k_p_1 := h_p_5.cell 1 _ rfl
    have k_p_2 := h_p_5.cell 2 _ rfl
    have k_y_0 := h_y_5.cell 0 _ rfl
    have k_o_0 := h_o_5.cell 0 _ rfl
    have k_o_1 := h_o_5.cell 1 _ rfl
    have k_o_2 := h_o_5.cell 2 _ rfl
    have k_o_3 := h_o_5.cell 3 _ rfl
    go_wp2_with first | refine wpList_store_whole rfl 51 _ _ rfl atRea _ _ _ R.row rfl rfl rfl rfl (rea_one 0 0 none none 0 0 0 0) ?_
    clear k_p_0 k_p_1 k_p_2 k_y_0 k_o_0 k_o_1 k_o_2 k_o_3
    refine bodyPost_ret (results_cell_two rfl _ _ _ _ _ _ _ rfl (setRow_heap _ _ _ _ _ _ R.row) Try.underlying51 rfl (by kernel_rfl) _ rfl) rfl ?_
    exact RetRA.nils HRR.out (HO0.out.trans ((R.put _).below.mono HO0.out.size))
  have hd : decide (((n_d : Nat) : Int) > ((n_x : Nat) : Int)) = false := decide_eq_false (by omega)
  have HR2 := Lib.hid (show r = if decB p xs ds = true then (⟨kindN rule, (bodyR (kindN rule) ss.length rule p (markL p xs ds xs.length)).1, (bodyR (kindN rule) ss.length rule p (markL p xs ds xs.length)).2, dbtL p xs ds xs.length⟩, 0) else (zeroR, 2) by rw [HR1.out, HM0.out, if_pos rfl, if_neg (by rw [HX.out, HD.out]; exact hld)])
  have k_p_0 := h_p_5.cell 0 _ rfl
  have k_p_1 := h_p_5.cell 1 _ rfl
  have k_p_2 := h_p_5.cell 2 _ rfl
  have k_y_0 := h_y_5.cell 0 _ rfl
  have k_c_0 := h_c_5.cell 0 _ rfl
  have k_c_1 := h_c_5.cell 1 _ rfl
  have k_c_2 := h_c_5.cell 2 _ rfl
  have k_c_3 := h_c_5.cell 3 _ rfl
  go_wp2_with fail
  clear k_p_0 k_p_1 k_p_2 k_y_0 k_c_0 k_c_1 k_c_2 k_c_3
  clear q1 q2 q3 hd
  have c := Kind_any w5 rule hr
  rw [show kindC rule = (kindN rule, 0) by unfold kindC; rw [HQ3.out]; rfl] at c
  refine c.mono ?_
  rintro e w6 ⟨rfl, hb⟩
  clear c
  have B6 := B5.trans (hb.mono B5.size)
  have h_s_6 := h_s_5.below hb
  have h_x_6 := h_x_5.below hb
  have h_d_6 := h_d_5.below hb
  have h_c_6 := h_c_5.later hb
  have h_p_6 := h_p_5.later hb
  have h_y_6 := h_y_5.later hb
  have h_o_6 := h_o_5.later hb
  clear hb B5 h_s_5 h_x_5 h_d_5 h_c_5 h_p_5 h_y_5 h_o_5
  obtain ⟨k, hk0⟩ : ∃ k, kindN rule = k := ⟨_, rfl⟩
  have hk3 : k < 256 := by rw [← hk0]; exact Nat.lt_of_le_of_lt (kind_le rule) (by decide)
  have HK := Lib.hid hk0
  rw [hk0]
  clear hk0
  have k_c_0 := h_c_6.cell 0 _ rfl
  have k_c_1 := h_c_6.cell 1 _ rfl
  have k_c_2 := h_c_6.cell 2 _ rfl
  have k_c_3 := h_c_6.cell 3 _ rfl
  go_wp2_with fail
  clear k_c_0 k_c_1 k_c_2 k_c_3
  obtain ⟨mo, hmo⟩ : ∃ mo, marksN rule (n_s : Nat) = mo := ⟨_, rfl⟩
  have HMO := Lib.hid hmo
  have hmob : -9223372036854775808 ≤ mo ∧ mo ≤ 9223372036854775807 := by rw [← hmo]; unfold marksN; split <;> omega
  clear hmo
  have c := Most_any w6 rule hr ((n_s : Nat) : Int) (by omega) (by omega)
  rw [show mostC rule ((n_s : Nat) : Int) = (mo, 0) by unfold mostC; rw [if_pos ⟨HQ3.out, by omega, by omega⟩, HMO.out]] at c
  refine c.mono ?_
  rintro e w7 ⟨rfl, hb⟩
  clear c
  have B7 := B6.trans (hb.mono B6.size)
  have h_s_7 := h_s_6.below hb
  have h_x_7 := h_x_6.below hb
  have h_d_7 := h_d_6.below hb
  have h_c_7 := h_c_6.later hb
  have h_p_7 := h_p_6.later hb
  have h_y_7 := h_y_6.later hb
  have h_o_7 := h_o_6.later hb
  clear hb B6 h_s_6 h_x_6 h_d_6 h_c_6 h_p_6 h_y_6 h_o_6
  have HKI2 := Lib.hid (show k = 1 ∨ k = 2 ∨ k = 3 by rw [← HK.out]; exact HKI.out)
  have HNX := Lib.hid (show n_x = n_s * wideN k n_s by rw [← HX.out, HNB.out, ← HK.out, ← HN.out]; rfl)
  obtain ⟨wd, hwd⟩ : ∃ wd, wideN k n_s = wd := ⟨_, rfl⟩
  have HWD := Lib.hid hwd
  have hnx0 := h_x_7.lt
  clear hwd
  go_upto_region 10 with fail
  obtain ⟨Z, hZ⟩ : ∃ Z, (List.replicate n_x (Value.bool false)).toArray = Z := ⟨_, rfl⟩
  have HZ := Lib.hid hZ
  clear hZ
  have mz : ∀ w, (Instr.makeSlice 78 (.int .i64 ((n_x : Nat) : Int)) (.int .i64 ((n_x : Nat) : Int))).run Try.prog w = .ok (.slice (some ⟨w.heap.size, 0, none⟩) n_x n_x) (w.alloc (.cells Z 4)) := fun w => by rw [← HZ.out]; exact run_madeG etB rfl n_x (by omega) (by omega) w
  go_cut [14] from 77 to 93 (fun s14 wx => s14 = Value.pointer (some ⟨w7.heap.size + 1, 0, none⟩) ∧ wx = (w7.drew.alloc (.cells Z 4)).alloc (.cells (rdc 0 (.slice none 0 0) 0 (.slice none 0 0) w7.heap.size n_x n_x n_s wd mo p.skips) 80))
  case first =>
    have D0 := (Below.refl w7.heap.size w7).drew
    have e_y := h_y_7.later D0
    have e_c := h_c_7.later D0
    have e_p := h_p_7.later D0
    have hsz : w7.drew.heap.size = w7.heap.size := rfl
    clear D0
    refine wp_region_held_drew (S := (fun v => v.cell? ⟨w.heap.size + 1 + 1, 0, none⟩ = some (.slice a_x n_x c_x) ∧ v.cell? ⟨w.heap.size, 1, none⟩ = some (.slice a_s n_s c_s) ∧ v.cell? ⟨w.heap.size + 1, 2, none⟩ = some (.int .i64 p.skips))) (by kernel_rfl) ?_ (fun hHeld => ?_)
    · exact ⟨e_y.cell 0 _ rfl, e_c.cell 1 _ rfl, e_p.cell 2 _ rfl⟩
    generalize w7.drew = wz8 at *
    refine wpAnyH_take (i := 0) (oi := ?oir90000_0) (v := ?vr90000_0) ?hir90000_0 (by kernel_rfl) (by kernel_rfl) (by kernel_rfl) ?hqr90000_0 ?hyr90000_0 (by assumption) ?restr90000_0
    case hir90000_0 => simp only [List.getElem?_toArray, List.getElem?_cons_succ, List.getElem?_cons_zero]; rfl
    case hqr90000_0 => exact fun _ _ _ h => h
    case hyr90000_0 => (refine Or.inl ⟨by rfl, ?_⟩; intro w hSw; (try dsimp only at hSw); go_simp; all_goals with_reducible rfl)
    try simp only [Act.put, List.setIfInBounds_toArray, List.set_cons_zero, List.set_cons_succ]
    refine wpAnyH_take (i := 1) (oi := ?oir90000_1) (v := ?vr90000_1) ?hir90000_1 (by kernel_rfl) (by kernel_rfl) (by kernel_rfl) ?hqr90000_1 ?hyr90000_1 (by assumption) ?restr90000_1
    case hir90000_1 => simp only [List.getElem?_toArray, List.getElem?_cons_succ, List.getElem?_cons_zero]; rfl
    case hqr90000_1 => exact fun _ _ _ h => h
    case hyr90000_1 => (refine Or.inl ⟨by rfl, ?_⟩; intro w hSw; (try dsimp only at hSw); go_simp; all_goals with_reducible rfl)
    try simp only [Act.put, List.setIfInBounds_toArray, List.set_cons_zero, List.set_cons_succ]
    refine wpAnyH_take (i := 2) (oi := ?oir90000_2) (v := ?vr90000_2) ?hir90000_2 (by kernel_rfl) (by kernel_rfl) (by kernel_rfl) ?hqr90000_2 ?hyr90000_2 (by assumption) ?restr90000_2
    case hir90000_2 => simp only [List.getElem?_toArray, List.getElem?_cons_succ, List.getElem?_cons_zero]; rfl
    case hqr90000_2 => exact fun _ _ _ h => h
    case hyr90000_2 => (refine Or.inl ⟨by rfl, ?_⟩; intro w hSw; (try dsimp only at hSw); go_simp; all_goals with_reducible rfl)
    try simp only [Act.put, List.setIfInBounds_toArray, List.set_cons_zero, List.set_cons_succ]
    refine wpAnyH_take (i := 4) (oi := ?oir90000_4) (v := ?vr90000_4) ?hir90000_4 (by kernel_rfl) (by kernel_rfl) (by kernel_rfl) ?hqr90000_4 ?hyr90000_4 (by assumption) ?restr90000_4
    case hir90000_4 => simp only [List.getElem?_toArray, List.getElem?_cons_succ, List.getElem?_cons_zero]; rfl
    case hqr90000_4 => exact fun _ _ _ h => h
    case hyr90000_4 => (refine Or.inl ⟨by rfl, ?_⟩; intro w hSw; (try dsimp only at hSw); go_simp; all_goals with_reducible rfl)
    try simp only [Act.put, List.setIfInBounds_toArray, List.set_cons_zero, List.set_cons_succ]
    refine wpAnyH_take (i := 5) (oi := ?oir90000_5) (v := ?vr90000_5) ?hir90000_5 (by kernel_rfl) (by kernel_rfl) (by kernel_rfl) ?hqr90000_5 ?hyr90000_5 (by assumption) ?restr90000_5
    case hir90000_5 => simp only [List.getElem?_toArray, List.getElem?_cons_succ, List.getElem?_cons_zero]; rfl
    case hqr90000_5 => exact fun _ _ _ h => h
    case hyr90000_5 => (refine Or.inl ⟨by rfl, ?_⟩; intro w hSw; (try dsimp only at hSw); go_simp; all_goals with_reducible rfl)
    try simp only [Act.put, List.setIfInBounds_toArray, List.set_cons_zero, List.set_cons_succ]
    refine wpAnyH_take (i := 6) (oi := ?oir90000_6) (v := ?vr90000_6) ?hir90000_6 (by kernel_rfl) (by kernel_rfl) (by kernel_rfl) ?hqr90000_6 ?hyr90000_6 (by assumption) ?restr90000_6
    case hir90000_6 => simp only [List.getElem?_toArray, List.getElem?_cons_succ, List.getElem?_cons_zero]; rfl
    case hqr90000_6 => exact fun _ _ _ h => h
    case hyr90000_6 => (refine Or.inl ⟨by rfl, ?_⟩; intro w hSw; (try dsimp only at hSw); go_simp; all_goals with_reducible rfl)
    try simp only [Act.put, List.setIfInBounds_toArray, List.set_cons_zero, List.set_cons_succ]
    refine wpAnyH_take (i := 7) (oi := ?oir90000_7) (v := ?vr90000_7) ?hir90000_7 (by kernel_rfl) (by kernel_rfl) (by kernel_rfl) ?hqr90000_7 ?hyr90000_7 (by assumption) ?restr90000_7
    case hir90000_7 => simp only [List.getElem?_toArray, List.getElem?_cons_succ, List.getElem?_cons_zero]; rfl
    case hqr90000_7 => exact fun _ _ _ h => h
    case hyr90000_7 => (refine Or.inl ⟨by rfl, ?_⟩; intro w hSw; (try dsimp only at hSw); go_simp; all_goals with_reducible rfl)
    try simp only [Act.put, List.setIfInBounds_toArray, List.set_cons_zero, List.set_cons_succ]
    refine wpAnyH_take (i := 8) (oi := ?oir90000_8) (v := ?vr90000_8) ?hir90000_8 (by kernel_rfl) (by kernel_rfl) (by kernel_rfl) ?hqr90000_8 ?hyr90000_8 (by assumption) ?restr90000_8
    case hir90000_8 => simp only [List.getElem?_toArray, List.getElem?_cons_succ, List.getElem?_cons_zero]; rfl
    case hqr90000_8 => exact fun _ _ _ h => h
    case hyr90000_8 => (refine Or.inl ⟨by rfl, ?_⟩; intro w hSw; (try dsimp only at hSw); go_simp; all_goals with_reducible rfl)
    try simp only [Act.put, List.setIfInBounds_toArray, List.set_cons_zero, List.set_cons_succ]
    refine wpAnyH_take (i := 9) (oi := ?oir90000_9) (v := ?vr90000_9) ?hir90000_9 (by kernel_rfl) (by kernel_rfl) (by kernel_rfl) ?hqr90000_9 ?hyr90000_9 (by assumption) ?restr90000_9
    case hir90000_9 => simp only [List.getElem?_toArray, List.getElem?_cons_succ, List.getElem?_cons_zero]; rfl
    case hqr90000_9 => exact fun _ _ _ h => h
    case hyr90000_9 => (refine Or.inl ⟨by rfl, ?_⟩; intro w hSw; (try dsimp only at hSw); go_simp; all_goals with_reducible rfl)
    try simp only [Act.put, List.setIfInBounds_toArray, List.set_cons_zero, List.set_cons_succ]
    refine wpAnyH_take (i := 10) (oi := ?oir90000_10) (v := ?vr90000_10) ?hir90000_10 (by kernel_rfl) (by kernel_rfl) (by kernel_rfl) ?hqr90000_10 ?hyr90000_10 (by assumption) ?restr90000_10
    case hir90000_10 => simp only [List.getElem?_toArray, List.getElem?_cons_succ, List.getElem?_cons_zero]; rfl
    case hqr90000_10 => exact fun _ _ _ h => h
    case hyr90000_10 => (refine Or.inl ⟨by rfl, ?_⟩; intro w hSw; (try dsimp only at hSw); go_simp; all_goals with_reducible rfl)
    try simp only [Act.put, List.setIfInBounds_toArray, List.set_cons_zero, List.set_cons_succ]
    refine wpAnyH_take (i := 12) (oi := ?oir90000_12) (v := ?vr90000_12) ?hir90000_12 (by kernel_rfl) (by kernel_rfl) (by kernel_rfl) ?hqr90000_12 ?hyr90000_12 (by assumption) ?restr90000_12
    case hir90000_12 => simp only [List.getElem?_toArray, List.getElem?_cons_succ, List.getElem?_cons_zero]; rfl
    case hqr90000_12 => exact fun _ _ _ h => h
    case hyr90000_12 => (refine Or.inl ⟨by rfl, ?_⟩; intro w hSw; (try dsimp only at hSw); go_simp; all_goals with_reducible rfl)
    try simp only [Act.put, List.setIfInBounds_toArray, List.set_cons_zero, List.set_cons_succ]
    refine wpAnyH_take (i := 13) (oi := ?oir90000_13) (v := ?vr90000_13) ?hir90000_13 (by kernel_rfl) (by kernel_rfl) (by kernel_rfl) ?hqr90000_13 ?hyr90000_13 (by assumption) ?restr90000_13
    case hir90000_13 => simp only [List.getElem?_toArray, List.getElem?_cons_succ, List.getElem?_cons_zero]; rfl
    case hqr90000_13 => exact fun _ _ _ h => h
    case hyr90000_13 => (refine Or.inl ⟨by rfl, ?_⟩; intro w hSw; (try dsimp only at hSw); go_simp; all_goals with_reducible rfl)
    try simp only [Act.put, List.setIfInBounds_toArray, List.set_cons_zero, List.set_cons_succ]
    refine wpAnyH_take (i := 14) (oi := ?oir90000_14) (v := ?vr90000_14) ?hir90000_14 (by kernel_rfl) (by kernel_rfl) (by kernel_rfl) ?hqr90000_14 ?hyr90000_14 (by assumption) ?restr90000_14
    case hir90000_14 => simp only [List.getElem?_toArray, List.getElem?_cons_succ, List.getElem?_cons_zero]; rfl
    case hqr90000_14 => exact fun _ _ _ h => h
    case hyr90000_14 => (refine Or.inl ⟨by rfl, ?_⟩; intro w hSw; (try dsimp only at hSw); go_simp; all_goals with_reducible rfl)
    try simp only [Act.put, List.setIfInBounds_toArray, List.set_cons_zero, List.set_cons_succ]
    refine wpAnyH_ready (rs := [3, 11]) (by kernel_rfl) (by simp) ?_
    refine (AllReadyH.cons (o := ?ob90014_3) ?hob90014_3 (fun K hK => ?kb90014_3) (AllReadyH.cons (o := ?ob90014_11) ?hob90014_11 (fun K hK => ?kb90014_11) AllReadyH.nil))
    case hob90014_3 => simp only [List.getElem?_toArray, List.getElem?_cons_succ, List.getElem?_cons_zero]; rfl
    case hob90014_11 => simp only [List.getElem?_toArray, List.getElem?_cons_succ, List.getElem?_cons_zero]; rfl
    case kb90014_3 =>
      go_simp
      refine hK.out _ _ ?_ (fun hHeld => ?_)
      · exact ⟨(e_y.later (below_al wz8 (.cells Z 4))).cell 0 _ rfl, (e_c.later (below_al wz8 (.cells Z 4))).cell 1 _ rfl, (e_p.later (below_al wz8 (.cells Z 4))).cell 2 _ rfl⟩
      clear hK K
      try simp only [Act.put, List.setIfInBounds_toArray, List.set_cons_zero, List.set_cons_succ]
      refine wpAnyH_ready (rs := [11]) (by kernel_rfl) (by simp) ?_
      refine (AllReadyH.cons (o := ?ob90003_11) ?hob90003_11 (fun K hK => ?kb90003_11) AllReadyH.nil)
      case hob90003_11 => simp only [List.getElem?_toArray, List.getElem?_cons_succ, List.getElem?_cons_zero]; rfl
      case kb90003_11 =>
        go_simp
        refine (wide_any _ k n_s hk3).mono ?_
        rintro e wq ⟨rfl, rfl⟩
        rw [HWD.out]
        go_wp2_with fail
        refine hK.out _ _ ?_ (fun hHeld => ?_)
        · exact ⟨(e_y.later (below_al wz8 (.cells Z 4))).cell 0 _ rfl, (e_c.later (below_al wz8 (.cells Z 4))).cell 1 _ rfl, (e_p.later (below_al wz8 (.cells Z 4))).cell 2 _ rfl⟩
        clear hK K
        try simp only [Act.put, List.setIfInBounds_toArray, List.set_cons_zero, List.set_cons_succ]
        refine wpAnyH_take (i := 15) (oi := ?oir90001_15) (v := ?vr90001_15) ?hir90001_15 (by kernel_rfl) (by kernel_rfl) (by kernel_rfl) ?hqr90001_15 ?hyr90001_15 (by assumption) ?restr90001_15
        case hir90001_15 => simp only [List.getElem?_toArray, List.getElem?_cons_succ, List.getElem?_cons_zero]; rfl
        case hqr90001_15 => exact fun _ _ _ h => h
        case hyr90001_15 => (refine Or.inl ⟨by rfl, ?_⟩; intro w hSw; (try dsimp only at hSw); go_simp; all_goals with_reducible rfl)
        try simp only [Act.put, List.setIfInBounds_toArray, List.set_cons_zero, List.set_cons_succ]
        refine wpAnyH_ready (rs := [16]) (by kernel_rfl) (by simp) ?_
        refine (AllReadyH.cons (o := ?ob90002_16) ?hob90002_16 (fun K hK => ?kb90002_16) AllReadyH.nil)
        case hob90002_16 => simp only [List.getElem?_toArray, List.getElem?_cons_succ, List.getElem?_cons_zero]; rfl
        case kb90002_16 =>
          go_simp
          refine hK.out _ _ ?_ (fun hHeld => ?_)
          · exact ⟨((e_y.later (below_al wz8 (.cells Z 4))).later (below_al (wz8.alloc (.cells Z 4)) (.cells (rdc 0 (.slice none 0 0) 0 (.slice none 0 0) w7.heap.size n_x n_x n_s wd mo p.skips) 80))).cell 0 _ rfl, ((e_c.later (below_al wz8 (.cells Z 4))).later (below_al (wz8.alloc (.cells Z 4)) (.cells (rdc 0 (.slice none 0 0) 0 (.slice none 0 0) w7.heap.size n_x n_x n_s wd mo p.skips) 80))).cell 1 _ rfl, ((e_p.later (below_al wz8 (.cells Z 4))).later (below_al (wz8.alloc (.cells Z 4)) (.cells (rdc 0 (.slice none 0 0) 0 (.slice none 0 0) w7.heap.size n_x n_x n_s wd mo p.skips) 80))).cell 2 _ rfl⟩
          clear hK K
          try simp only [Act.put, List.setIfInBounds_toArray, List.set_cons_zero, List.set_cons_succ]
          refine wpAnyH_take (i := 17) (oi := ?oir90001_17) (v := ?vr90001_17) ?hir90001_17 (by kernel_rfl) (by kernel_rfl) (by kernel_rfl) ?hqr90001_17 ?hyr90001_17 (by assumption) ?restr90001_17
          case hir90001_17 => simp only [List.getElem?_toArray, List.getElem?_cons_succ, List.getElem?_cons_zero]; rfl
          case hqr90001_17 => exact fun _ _ _ h => h
          case hyr90001_17 => (refine Or.inl ⟨by rfl, ?_⟩; intro w hSw; (try dsimp only at hSw); go_simp; all_goals with_reducible rfl)
          try simp only [Act.put, List.setIfInBounds_toArray, List.set_cons_zero, List.set_cons_succ]
          refine wpAnyH_done (by kernel_rfl) ?_ _
          go_wp2_with fail
          go_meet
          exact ⟨rfl, rfl⟩
    case kb90014_11 =>
      go_simp
      refine (wide_any _ k n_s hk3).mono ?_
      rintro e wq ⟨rfl, rfl⟩
      rw [HWD.out]
      go_wp2_with fail
      refine hK.out _ _ ?_ (fun hHeld => ?_)
      · exact ⟨e_y.cell 0 _ rfl, e_c.cell 1 _ rfl, e_p.cell 2 _ rfl⟩
      clear hK K
      try simp only [Act.put, List.setIfInBounds_toArray, List.set_cons_zero, List.set_cons_succ]
      refine wpAnyH_ready (rs := [3]) (by kernel_rfl) (by simp) ?_
      refine (AllReadyH.cons (o := ?ob90013_3) ?hob90013_3 (fun K hK => ?kb90013_3) AllReadyH.nil)
      case hob90013_3 => simp only [List.getElem?_toArray, List.getElem?_cons_succ, List.getElem?_cons_zero]; rfl
      case kb90013_3 =>
        go_simp
        refine hK.out _ _ ?_ (fun hHeld => ?_)
        · exact ⟨(e_y.later (below_al wz8 (.cells Z 4))).cell 0 _ rfl, (e_c.later (below_al wz8 (.cells Z 4))).cell 1 _ rfl, (e_p.later (below_al wz8 (.cells Z 4))).cell 2 _ rfl⟩
        clear hK K
        try simp only [Act.put, List.setIfInBounds_toArray, List.set_cons_zero, List.set_cons_succ]
        refine wpAnyH_take (i := 15) (oi := ?oir90011_15) (v := ?vr90011_15) ?hir90011_15 (by kernel_rfl) (by kernel_rfl) (by kernel_rfl) ?hqr90011_15 ?hyr90011_15 (by assumption) ?restr90011_15
        case hir90011_15 => simp only [List.getElem?_toArray, List.getElem?_cons_succ, List.getElem?_cons_zero]; rfl
        case hqr90011_15 => exact fun _ _ _ h => h
        case hyr90011_15 => (refine Or.inl ⟨by rfl, ?_⟩; intro w hSw; (try dsimp only at hSw); go_simp; all_goals with_reducible rfl)
        try simp only [Act.put, List.setIfInBounds_toArray, List.set_cons_zero, List.set_cons_succ]
        refine wpAnyH_ready (rs := [16]) (by kernel_rfl) (by simp) ?_
        refine (AllReadyH.cons (o := ?ob90012_16) ?hob90012_16 (fun K hK => ?kb90012_16) AllReadyH.nil)
        case hob90012_16 => simp only [List.getElem?_toArray, List.getElem?_cons_succ, List.getElem?_cons_zero]; rfl
        case kb90012_16 =>
          go_simp
          refine hK.out _ _ ?_ (fun hHeld => ?_)
          · exact ⟨((e_y.later (below_al wz8 (.cells Z 4))).later (below_al (wz8.alloc (.cells Z 4)) (.cells (rdc 0 (.slice none 0 0) 0 (.slice none 0 0) w7.heap.size n_x n_x n_s wd mo p.skips) 80))).cell 0 _ rfl, ((e_c.later (below_al wz8 (.cells Z 4))).later (below_al (wz8.alloc (.cells Z 4)) (.cells (rdc 0 (.slice none 0 0) 0 (.slice none 0 0) w7.heap.size n_x n_x n_s wd mo p.skips) 80))).cell 1 _ rfl, ((e_p.later (below_al wz8 (.cells Z 4))).later (below_al (wz8.alloc (.cells Z 4)) (.cells (rdc 0 (.slice none 0 0) 0 (.slice none 0 0) w7.heap.size n_x n_x n_s wd mo p.skips) 80))).cell 2 _ rfl⟩
          clear hK K
          try simp only [Act.put, List.setIfInBounds_toArray, List.set_cons_zero, List.set_cons_succ]
          refine wpAnyH_take (i := 17) (oi := ?oir90011_17) (v := ?vr90011_17) ?hir90011_17 (by kernel_rfl) (by kernel_rfl) (by kernel_rfl) ?hqr90011_17 ?hyr90011_17 (by assumption) ?restr90011_17
          case hir90011_17 => simp only [List.getElem?_toArray, List.getElem?_cons_succ, List.getElem?_cons_zero]; rfl
          case hqr90011_17 => exact fun _ _ _ h => h
          case hyr90011_17 => (refine Or.inl ⟨by rfl, ?_⟩; intro w hSw; (try dsimp only at hSw); go_simp; all_goals with_reducible rfl)
          try simp only [Act.put, List.setIfInBounds_toArray, List.set_cons_zero, List.set_cons_succ]
          refine wpAnyH_done (by kernel_rfl) ?_ _
          go_wp2_with fail
          go_meet
          exact ⟨rfl, rfl⟩
  case rest =>
  obtain ⟨rfl, hwc⟩ := hcut
  have PR0 : PRow 80 w7 wc (w7.heap.size + 1) (rdc 0 (.slice none 0 0) 0 (.slice none 0 0) w7.heap.size n_x n_x n_s wd mo p.skips) := by
    have e := (PRow.new 80 (w7.drew.alloc (.cells Z 4)) (rdc 0 (.slice none 0 0) 0 (.slice none 0 0) w7.heap.size n_x n_x n_s wd mo p.skips)).base (w0 := w7) (((Below.refl w7.heap.size w7).drew).trans ((below_al w7.drew (.cells Z 4)).mono (by simp)))
    rw [World.size_alloc] at e
    rw [hwc]
    exact e
  have OM0 : OwB w7.heap.size wc (some ⟨w7.heap.size, 0, none⟩) n_x n_x (mkI p xs n_x 0) := by
    have e := (OwG.full encB okB 4 w7.drew false trivial n_x (by unfold maxLen; omega)).below (below_al (w7.drew.alloc (.cells ((List.replicate n_x false).map encB).toArray 4)) (.cells (rdc 0 (.slice none 0 0) 0 (.slice none 0 0) w7.heap.size n_x n_x n_s wd mo p.skips) 80))
    rw [List.map_replicate, show (List.replicate n_x (encB false)).toArray = Z from HZ.out] at e
    rw [hwc, mkI_zero]
    exact e
  clear hwc
  have y0 := (h_y_7.later PR0.below).cell 0 _ rfl
  have hal := below_al wc (.cells Z 4)
  have PR1 := PR0.later hal
  have OM1 := OM0.below hal
  have hsz := PR0.lt
  have OD1 : OwB w7.heap.size (wc.alloc (.cells Z 4)) (some ⟨wc.heap.size, 0, none⟩) n_x n_x (dbI p xs n_x 0) := by
    have e := (OwG.full encB okB 4 wc false trivial n_x (by unfold maxLen; omega)).base_le (base' := w7.heap.size) (by omega)
    rw [List.map_replicate, show (List.replicate n_x (encB false)).toArray = Z from HZ.out] at e
    rw [dbI_zero]
    exact e
  go_upto_region 12 with fail
  clear mz y0 hal PR0 OM0
  obtain ⟨D, hD⟩ : ∃ D, wc.heap.size = D := ⟨_, rfl⟩
  rw [hD] at OD1 hsz ⊢
  generalize wc.alloc (.cells Z 4) = wd0 at *
  obtain ⟨RP, hRP⟩ : ∃ RP, w7.heap.size + 1 = RP := ⟨_, rfl⟩
  obtain ⟨G, hG⟩ : ∃ G, w7.heap.size = G := ⟨_, rfl⟩
  have hGR : G < RP := by omega
  have hRD : RP < D := by omega
  rw [hRP] at PR1 hsz ⊢
  have HG := Lib.hid hG
  rw [hG] at PR1 OM1 OD1
  clear hD hRP hG hsz
  have H_c := Lib.hid h_c_7
  have H_p := Lib.hid h_p_7
  have H_y := Lib.hid h_y_7
  have H_o := Lib.hid h_o_7
  have H_x := Lib.hid h_x_7
  have H_d := Lib.hid h_d_7
  have H_s := Lib.hid h_s_7
  have H_B := Lib.hid B7
  clear h_c_7 h_p_7 h_y_7 h_o_7 h_x_7 h_d_7 h_s_7 B7
  have y0 := (H_y.out.later PR1.below).cell 0 _ rfl
  go_wp2_with fail
  clear y0
  go_loopw [101] (fun jv wr => ∃ i : Nat, i ≤ n_x ∧ jv = .int .i64 (i : Nat) ∧ PRow 80 w7 wr RP (rdc 0 (.slice none 0 0) 0 (.slice none 0 0) G n_x n_x n_s wd mo p.skips) ∧ OwB G wr (some ⟨G, 0, none⟩) n_x n_x (mkI p xs n_x i) ∧ OwB G wr (some ⟨D, 0, none⟩) n_x n_x (dbI p xs n_x i)) (fun jv _ => n_x - (intOf jv).toNat)
  case atStart => exact ⟨0, Nat.zero_le _, rfl, PR1, OM1, OD1⟩
  clear PR1 OM1 OD1
  case round =>
    rename World => wr
    obtain ⟨i, hi, rfl, PR, OM, OD⟩ := hrel
    by_cases hlt : i < n_x
    case pos =>
      obtain ⟨bx, ox, rfl, kx, hbx⟩ := (H_x.out.below PR.below).cell i hlt
      obtain ⟨x, hx⟩ : ∃ x, nth xs i = x := ⟨_, rfl⟩
      rw [hx] at kx hbx
      replace hbx : x < 256 := hbx
      obtain ⟨m, hm⟩ : ∃ m, decide (p.high ≤ x) = m := ⟨_, rfl⟩
      have HM := Lib.hid (show decide (p.high ≤ nth xs i) = m by rw [hx]; exact hm)
      have hPW := PWW.out
      go_upto_region 15 with fail
      clear kx
      have hb := (Below.refl wr.heap.size wr).drew
      have PR2 := PR.later hb
      have OM2 := OM.below hb
      have OD2 := OD.below hb
      have PP2 := H_p.out.later PR2.below
      clear PR OM OD hb
      have r4 := PR2.cell 4 (.slice (some ⟨G, 0, none⟩) n_x n_x) rfl
      have q0 := PP2.cell 0 _ rfl
      have q1 := PP2.cell 1 _ rfl
      by_cases hlo : p.low ≤ x
      case pos =>
        have HLO := Lib.hid hlo
        have e1 : decide (p.low ≤ x) = true := decide_eq_true hlo
        obtain ⟨b, hb2⟩ : ∃ b, decide (x < p.high) = b := ⟨_, rfl⟩
        have HB := Lib.hid (show doubtB p (nth xs i) = b by rw [hx]; unfold doubtB; rw [e1, hb2]; rfl)
        clear hlo hx
        refine wp_region_held_drew (S := (fun v => v.cell? ⟨RP, 4, none⟩ = some (.slice (some ⟨G, 0, none⟩) n_x n_x) ∧ v.cell? ⟨w.heap.size + 1, 0, none⟩ = some (.int .u8 ((p.low : Nat) : Int)) ∧ v.cell? ⟨w.heap.size + 1, 1, none⟩ = some (.int .u8 ((p.high : Nat) : Int)))) (by kernel_rfl) ?_ (fun hHeld => ?_)
        · exact ⟨r4, q0, q1⟩
        generalize wr.drew = w4 at *
        refine wpAnyH_take (i := 0) (oi := ?oir90024_0) (v := ?vr90024_0) ?hir90024_0 (by kernel_rfl) (by kernel_rfl) (by kernel_rfl) ?hqr90024_0 ?hyr90024_0 (by assumption) ?restr90024_0
        case hir90024_0 => simp only [List.getElem?_toArray, List.getElem?_cons_succ, List.getElem?_cons_zero]; rfl
        case hqr90024_0 => exact fun _ _ _ h => h
        case hyr90024_0 => (refine Or.inl ⟨by rfl, ?_⟩; intro w hSw; (try dsimp only at hSw); go_simp; all_goals with_reducible rfl)
        try simp only [Act.put, List.setIfInBounds_toArray, List.set_cons_zero, List.set_cons_succ]
        refine wpAnyH_take (i := 1) (oi := ?oir90024_1) (v := ?vr90024_1) ?hir90024_1 (by kernel_rfl) (by kernel_rfl) (by kernel_rfl) ?hqr90024_1 ?hyr90024_1 (by assumption) ?restr90024_1
        case hir90024_1 => simp only [List.getElem?_toArray, List.getElem?_cons_succ, List.getElem?_cons_zero]; rfl
        case hqr90024_1 => exact fun _ _ _ h => h
        case hyr90024_1 => (refine Or.inl ⟨by rfl, ?_⟩; intro w hSw; (try dsimp only at hSw); go_simp; all_goals with_reducible rfl)
        try simp only [Act.put, List.setIfInBounds_toArray, List.set_cons_zero, List.set_cons_succ]
        refine wpAnyH_take (i := 2) (oi := ?oir90024_2) (v := ?vr90024_2) ?hir90024_2 (by kernel_rfl) (by kernel_rfl) (by kernel_rfl) ?hqr90024_2 ?hyr90024_2 (by assumption) ?restr90024_2
        case hir90024_2 => simp only [List.getElem?_toArray, List.getElem?_cons_succ, List.getElem?_cons_zero]; rfl
        case hqr90024_2 => exact fun _ _ _ h => h
        case hyr90024_2 => (refine Or.inl ⟨by rfl, ?_⟩; intro w hSw; (try dsimp only at hSw); go_simp; all_goals with_reducible rfl)
        try simp only [Act.put, List.setIfInBounds_toArray, List.set_cons_zero, List.set_cons_succ]
        refine wpAnyH_take (i := 3) (oi := ?oir90024_3) (v := ?vr90024_3) ?hir90024_3 (by kernel_rfl) (by kernel_rfl) (by kernel_rfl) ?hqr90024_3 ?hyr90024_3 (by assumption) ?restr90024_3
        case hir90024_3 => simp only [List.getElem?_toArray, List.getElem?_cons_succ, List.getElem?_cons_zero]; rfl
        case hqr90024_3 => exact fun _ _ _ h => h
        case hyr90024_3 => (refine Or.inl ⟨by rfl, ?_⟩; intro w hSw; (try dsimp only at hSw); go_simp; all_goals with_reducible rfl)
        try simp only [Act.put, List.setIfInBounds_toArray, List.set_cons_zero, List.set_cons_succ]
        refine wpAnyH_take (i := 4) (oi := ?oir90024_4) (v := ?vr90024_4) ?hir90024_4 (by kernel_rfl) (by kernel_rfl) (by kernel_rfl) ?hqr90024_4 ?hyr90024_4 (by assumption) ?restr90024_4
        case hir90024_4 => simp only [List.getElem?_toArray, List.getElem?_cons_succ, List.getElem?_cons_zero]; rfl
        case hqr90024_4 => exact fun _ _ _ h => h
        case hyr90024_4 => (refine Or.inl ⟨by rfl, ?_⟩; intro w hSw; (try dsimp only at hSw); go_simp; all_goals with_reducible rfl)
        try simp only [Act.put, List.setIfInBounds_toArray, List.set_cons_zero, List.set_cons_succ]
        refine wpAnyH_take (i := 5) (oi := ?oir90024_5) (v := ?vr90024_5) ?hir90024_5 (by kernel_rfl) (by kernel_rfl) (by kernel_rfl) ?hqr90024_5 ?hyr90024_5 (by assumption) ?restr90024_5
        case hir90024_5 => simp only [List.getElem?_toArray, List.getElem?_cons_succ, List.getElem?_cons_zero]; rfl
        case hqr90024_5 => exact fun _ _ _ h => h
        case hyr90024_5 => (refine Or.inl ⟨by rfl, ?_⟩; intro w hSw; (try dsimp only at hSw); go_simp; all_goals with_reducible rfl)
        try simp only [Act.put, List.setIfInBounds_toArray, List.set_cons_zero, List.set_cons_succ]
        refine wpAnyH_take (i := 6) (oi := ?oir90024_6) (v := ?vr90024_6) ?hir90024_6 (by kernel_rfl) (by kernel_rfl) (by kernel_rfl) ?hqr90024_6 ?hyr90024_6 (by assumption) ?restr90024_6
        case hir90024_6 => simp only [List.getElem?_toArray, List.getElem?_cons_succ, List.getElem?_cons_zero]; rfl
        case hqr90024_6 => exact fun _ _ _ h => h
        case hyr90024_6 => (refine Or.inl ⟨by rfl, ?_⟩; intro w hSw; (try dsimp only at hSw); go_simp; all_goals with_reducible rfl)
        try simp only [Act.put, List.setIfInBounds_toArray, List.set_cons_zero, List.set_cons_succ]
        refine wpAnyH_take (i := 7) (oi := ?oir90024_7) (v := ?vr90024_7) ?hir90024_7 (by kernel_rfl) (by kernel_rfl) (by kernel_rfl) ?hqr90024_7 ?hyr90024_7 (by assumption) ?restr90024_7
        case hir90024_7 => simp only [List.getElem?_toArray, List.getElem?_cons_succ, List.getElem?_cons_zero]; rfl
        case hqr90024_7 => exact fun _ _ _ h => h
        case hyr90024_7 => (refine Or.inl ⟨by rfl, ?_⟩; intro w hSw; (try dsimp only at hSw); go_simp; all_goals with_reducible rfl)
        try simp only [Act.put, List.setIfInBounds_toArray, List.set_cons_zero, List.set_cons_succ]
        refine wpAnyH_take (i := 8) (oi := ?oir90024_8) (v := ?vr90024_8) ?hir90024_8 (by kernel_rfl) (by kernel_rfl) (by kernel_rfl) ?hqr90024_8 ?hyr90024_8 (by assumption) ?restr90024_8
        case hir90024_8 => simp only [List.getElem?_toArray, List.getElem?_cons_succ, List.getElem?_cons_zero]; rfl
        case hqr90024_8 => exact fun _ _ _ h => h
        case hyr90024_8 => (refine Or.inl ⟨by rfl, ?_⟩; intro w hSw; (try dsimp only at hSw); go_simp; all_goals with_reducible rfl)
        try simp only [Act.put, List.setIfInBounds_toArray, List.set_cons_zero, List.set_cons_succ]
        refine wpAnyH_take (i := 9) (oi := ?oir90024_9) (v := ?vr90024_9) ?hir90024_9 (by kernel_rfl) (by kernel_rfl) (by kernel_rfl) ?hqr90024_9 ?hyr90024_9 (by assumption) ?restr90024_9
        case hir90024_9 => simp only [List.getElem?_toArray, List.getElem?_cons_succ, List.getElem?_cons_zero]; rfl
        case hqr90024_9 => exact fun _ _ _ h => h
        case hyr90024_9 => (refine Or.inl ⟨by rfl, ?_⟩; intro w hSw; (try dsimp only at hSw); go_simp; all_goals with_reducible rfl)
        try simp only [Act.put, List.setIfInBounds_toArray, List.set_cons_zero, List.set_cons_succ]
        refine wpAnyH_take (i := 10) (oi := ?oir90024_10) (v := ?vr90024_10) ?hir90024_10 (by kernel_rfl) (by kernel_rfl) (by kernel_rfl) ?hqr90024_10 ?hyr90024_10 (by assumption) ?restr90024_10
        case hir90024_10 => simp only [List.getElem?_toArray, List.getElem?_cons_succ, List.getElem?_cons_zero]; rfl
        case hqr90024_10 => exact fun _ _ _ h => h
        case hyr90024_10 => (refine Or.inl ⟨by rfl, ?_⟩; intro w hSw; (try dsimp only at hSw); go_simp; all_goals with_reducible rfl)
        try simp only [Act.put, List.setIfInBounds_toArray, List.set_cons_zero, List.set_cons_succ]
        refine wpAnyH_take (i := 11) (oi := ?oir90024_11) (v := ?vr90024_11) ?hir90024_11 (by kernel_rfl) (by kernel_rfl) (by kernel_rfl) ?hqr90024_11 ?hyr90024_11 (by assumption) ?restr90024_11
        case hir90024_11 => simp only [List.getElem?_toArray, List.getElem?_cons_succ, List.getElem?_cons_zero]; rfl
        case hqr90024_11 => exact fun _ _ _ h => h
        case hyr90024_11 => (refine Or.inl ⟨by rfl, ?_⟩; intro w hSw; (try dsimp only at hSw); go_simp; all_goals with_reducible rfl)
        try simp only [Act.put, List.setIfInBounds_toArray, List.set_cons_zero, List.set_cons_succ]
        refine wpAnyH_take (i := 12) (oi := ?oir90024_12) (v := ?vr90024_12) ?hir90024_12 (by kernel_rfl) (by kernel_rfl) (by kernel_rfl) ?hqr90024_12 ?hyr90024_12 (by assumption) ?restr90024_12
        case hir90024_12 => simp only [List.getElem?_toArray, List.getElem?_cons_succ, List.getElem?_cons_zero]; rfl
        case hqr90024_12 => exact fun _ _ _ h => h
        case hyr90024_12 => (refine Or.inl ⟨by rfl, ?_⟩; intro w hSw; (try dsimp only at hSw); go_simp; all_goals with_reducible rfl)
        try simp only [Act.put, List.setIfInBounds_toArray, List.set_cons_zero, List.set_cons_succ]
        refine wpAnyH_take (i := 13) (oi := ?oir90024_13) (v := ?vr90024_13) ?hir90024_13 (by kernel_rfl) (by kernel_rfl) (by kernel_rfl) ?hqr90024_13 ?hyr90024_13 (by assumption) ?restr90024_13
        case hir90024_13 => simp only [List.getElem?_toArray, List.getElem?_cons_succ, List.getElem?_cons_zero]; rfl
        case hqr90024_13 => exact fun _ _ _ h => h
        case hyr90024_13 => (refine Or.inl ⟨by rfl, ?_⟩; intro w hSw; (try dsimp only at hSw); go_simp; all_goals with_reducible rfl)
        try simp only [Act.put, List.setIfInBounds_toArray, List.set_cons_zero, List.set_cons_succ]
        refine wpAnyH_take (i := 14) (oi := ?oir90024_14) (v := ?vr90024_14) ?hir90024_14 (by kernel_rfl) (by kernel_rfl) (by kernel_rfl) ?hqr90024_14 ?hyr90024_14 (by assumption) ?restr90024_14
        case hir90024_14 => simp only [List.getElem?_toArray, List.getElem?_cons_succ, List.getElem?_cons_zero]; rfl
        case hqr90024_14 => exact fun _ _ _ h => h
        case hyr90024_14 => (refine Or.inl ⟨by rfl, ?_⟩; intro w hSw; (try dsimp only at hSw); go_simp; all_goals with_reducible rfl)
        try simp only [Act.put, List.setIfInBounds_toArray, List.set_cons_zero, List.set_cons_succ]
        refine wpAnyH_take (i := 15) (oi := ?oir90024_15) (v := ?vr90024_15) ?hir90024_15 (by kernel_rfl) (by kernel_rfl) (by kernel_rfl) ?hqr90024_15 ?hyr90024_15 (by assumption) ?restr90024_15
        case hir90024_15 => simp only [List.getElem?_toArray, List.getElem?_cons_succ, List.getElem?_cons_zero]; rfl
        case hqr90024_15 => exact fun _ _ _ h => h
        case hyr90024_15 => (refine Or.inl ⟨by rfl, ?_⟩; intro w hSw; (try dsimp only at hSw); go_simp; all_goals with_reducible rfl)
        try simp only [Act.put, List.setIfInBounds_toArray, List.set_cons_zero, List.set_cons_succ]
        refine wpAnyH_take (i := 16) (oi := ?oir90024_16) (v := ?vr90024_16) ?hir90024_16 (by kernel_rfl) (by kernel_rfl) (by kernel_rfl) ?hqr90024_16 ?hyr90024_16 (by assumption) ?restr90024_16
        case hir90024_16 => simp only [List.getElem?_toArray, List.getElem?_cons_succ, List.getElem?_cons_zero]; rfl
        case hqr90024_16 => exact fun _ _ _ h => h
        case hyr90024_16 => (refine Or.inl ⟨by rfl, ?_⟩; intro w hSw; (try dsimp only at hSw); go_simp; all_goals with_reducible rfl)
        try simp only [Act.put, List.setIfInBounds_toArray, List.set_cons_zero, List.set_cons_succ]
        refine wpAnyH_take (i := 17) (oi := ?oir90024_17) (v := ?vr90024_17) ?hir90024_17 (by kernel_rfl) (by kernel_rfl) (by kernel_rfl) ?hqr90024_17 ?hyr90024_17 (by assumption) ?restr90024_17
        case hir90024_17 => simp only [List.getElem?_toArray, List.getElem?_cons_succ, List.getElem?_cons_zero]; rfl
        case hqr90024_17 => exact fun _ _ _ h => h
        case hyr90024_17 => (refine Or.inl ⟨by rfl, ?_⟩; intro w hSw; (try dsimp only at hSw); go_simp; all_goals with_reducible rfl)
        try simp only [Act.put, List.setIfInBounds_toArray, List.set_cons_zero, List.set_cons_succ]
        refine wpAnyH_take (i := 18) (oi := ?oir90024_18) (v := ?vr90024_18) ?hir90024_18 (by kernel_rfl) (by kernel_rfl) (by kernel_rfl) ?hqr90024_18 ?hyr90024_18 (by assumption) ?restr90024_18
        case hir90024_18 => simp only [List.getElem?_toArray, List.getElem?_cons_succ, List.getElem?_cons_zero]; rfl
        case hqr90024_18 => exact fun _ _ _ h => h
        case hyr90024_18 => (refine Or.inl ⟨by rfl, ?_⟩; intro w hSw; (try dsimp only at hSw); go_simp; all_goals with_reducible rfl)
        try simp only [Act.put, List.setIfInBounds_toArray, List.set_cons_zero, List.set_cons_succ]
        refine wpAnyH_take (i := 19) (oi := ?oir90024_19) (v := ?vr90024_19) ?hir90024_19 (by kernel_rfl) (by kernel_rfl) (by kernel_rfl) ?hqr90024_19 ?hyr90024_19 (by assumption) ?restr90024_19
        case hir90024_19 => simp only [List.getElem?_toArray, List.getElem?_cons_succ, List.getElem?_cons_zero]; rfl
        case hqr90024_19 => exact fun _ _ _ h => h
        case hyr90024_19 => (refine Or.inl ⟨by rfl, ?_⟩; intro w hSw; (try dsimp only at hSw); go_simp; all_goals with_reducible rfl)
        try simp only [Act.put, List.setIfInBounds_toArray, List.set_cons_zero, List.set_cons_succ]
        refine wpAnyH_take (i := 20) (oi := ?oir90024_20) (v := ?vr90024_20) ?hir90024_20 (by kernel_rfl) (by kernel_rfl) (by kernel_rfl) ?hqr90024_20 ?hyr90024_20 (by assumption) ?restr90024_20
        case hir90024_20 => simp only [List.getElem?_toArray, List.getElem?_cons_succ, List.getElem?_cons_zero]; rfl
        case hqr90024_20 => exact fun _ _ _ h => h
        case hyr90024_20 => (refine Or.inl ⟨by rfl, ?_⟩; intro w hSw; (try dsimp only at hSw); go_simp; all_goals with_reducible rfl)
        try simp only [Act.put, List.setIfInBounds_toArray, List.set_cons_zero, List.set_cons_succ]
        refine wpAnyH_take (i := 21) (oi := ?oir90024_21) (v := ?vr90024_21) ?hir90024_21 (by kernel_rfl) (by kernel_rfl) (by kernel_rfl) ?hqr90024_21 ?hyr90024_21 (by assumption) ?restr90024_21
        case hir90024_21 => simp only [List.getElem?_toArray, List.getElem?_cons_succ, List.getElem?_cons_zero]; rfl
        case hqr90024_21 => exact fun _ _ _ h => h
        case hyr90024_21 => (refine Or.inl ⟨by rfl, ?_⟩; intro w hSw; (try dsimp only at hSw); go_simp; all_goals with_reducible rfl)
        try simp only [Act.put, List.setIfInBounds_toArray, List.set_cons_zero, List.set_cons_succ]
        have c1 := OM2.at false i hlt
        have f1 := OM2.free i
        refine wpAnyH_ready (rs := [22]) (by kernel_rfl) (by simp) ?_
        refine (AllReadyH.cons (o := ?ob90027_22) ?hob90027_22 (fun K hK => ?kb90027_22) AllReadyH.nil)
        case hob90027_22 => simp only [List.getElem?_toArray, List.getElem?_cons_succ, List.getElem?_cons_zero]; rfl
        case kb90027_22 =>
          go_simp
          have PR3 := PR2.other (p := ⟨G, i, none⟩) (by show RP ≠ G; omega) (by show w7.heap.size ≤ G; rw [HG.out]; exact Nat.le_refl _) (.bool m)
          have OM3 : OwB G (w4.setCell ⟨G, i, none⟩ (.bool m)) (some ⟨G, 0, none⟩) n_x n_x (mkI p xs n_x (i + 1)) := by
            rw [mkI_succ n_x HM.out]
            exact OM2.set i (v := m) trivial
          have OD3 := OD2.alone (g := G) i (.bool m) (fun p e => by simp at e; subst e; show D ≠ G; omega)
          have PP3 := H_p.out.later PR3.below
          clear PR2 OM2 OD2 PP2 r4 q0 q1 f1 c1
          have r4 := PR3.cell 4 (.slice (some ⟨G, 0, none⟩) n_x n_x) rfl
          have q0 := PP3.cell 0 _ rfl
          have q1 := PP3.cell 1 _ rfl
          generalize w4.setCell ⟨G, i, none⟩ (.bool m) = w5 at *
          have c1 := OD3.at false i hlt
          have f1 := OD3.free i
          refine hK.out _ _ ?_ (fun hHeld => ?_)
          · exact ⟨r4, q0, q1⟩
          clear hK K
          try simp only [Act.put, List.setIfInBounds_toArray, List.set_cons_zero, List.set_cons_succ]
          refine wpAnyH_take (i := 23) (oi := ?oir90025_23) (v := ?vr90025_23) ?hir90025_23 (by kernel_rfl) (by kernel_rfl) (by kernel_rfl) ?hqr90025_23 ?hyr90025_23 (by assumption) ?restr90025_23
          case hir90025_23 => simp only [List.getElem?_toArray, List.getElem?_cons_succ, List.getElem?_cons_zero]; rfl
          case hqr90025_23 => exact fun _ _ _ h => h
          case hyr90025_23 => (refine Or.inl ⟨by rfl, ?_⟩; intro w hSw; (try dsimp only at hSw); go_simp; all_goals with_reducible rfl)
          try simp only [Act.put, List.setIfInBounds_toArray, List.set_cons_zero, List.set_cons_succ]
          refine wpAnyH_ready (rs := [24]) (by kernel_rfl) (by simp) ?_
          refine (AllReadyH.cons (o := ?ob90026_24) ?hob90026_24 (fun K hK => ?kb90026_24) AllReadyH.nil)
          case hob90026_24 => simp only [List.getElem?_toArray, List.getElem?_cons_succ, List.getElem?_cons_zero]; rfl
          case kb90026_24 =>
            go_simp
            have PR4 := PR3.other (p := ⟨D, i, none⟩) (by show RP ≠ D; omega) (by show w7.heap.size ≤ D; rw [HG.out]; omega) (.bool b)
            have OD4 : OwB G (w5.setCell ⟨D, i, none⟩ (.bool b)) (some ⟨D, 0, none⟩) n_x n_x (dbI p xs n_x (i + 1)) := by
              rw [dbI_succ n_x HB.out]
              exact OD3.set i (v := b) trivial
            have OM4 := OM3.alone (g := D) i (.bool b) (fun p e => by simp at e; subst e; show G ≠ D; omega)
            have PP4 := H_p.out.later PR4.below
            clear PR3 OM3 OD3 PP3 r4 q0 q1 f1 c1
            have r4 := PR4.cell 4 (.slice (some ⟨G, 0, none⟩) n_x n_x) rfl
            have q0 := PP4.cell 0 _ rfl
            have q1 := PP4.cell 1 _ rfl
            refine hK.out _ _ ?_ (fun hHeld => ?_)
            · exact ⟨r4, q0, q1⟩
            clear hK K
            try simp only [Act.put, List.setIfInBounds_toArray, List.set_cons_zero, List.set_cons_succ]
            refine wpAnyH_done (by kernel_rfl) ?_ _
            go_wp2_with fail
            go_roundw
            case rel => exact ⟨i + 1, by omega, by go_num, PR4, OM4, OD4⟩
            case measure => simp [intOf]; omega
      case neg =>
        have HLO := Lib.hid hlo
        have e1 : decide (p.low ≤ x) = false := decide_eq_false hlo
        have HB := Lib.hid (show doubtB p (nth xs i) = false by rw [hx]; unfold doubtB; rw [e1]; rfl)
        clear hlo hx
        refine wp_region_held_drew (S := (fun v => v.cell? ⟨RP, 4, none⟩ = some (.slice (some ⟨G, 0, none⟩) n_x n_x) ∧ v.cell? ⟨w.heap.size + 1, 0, none⟩ = some (.int .u8 ((p.low : Nat) : Int)) ∧ v.cell? ⟨w.heap.size + 1, 1, none⟩ = some (.int .u8 ((p.high : Nat) : Int)))) (by kernel_rfl) ?_ (fun hHeld => ?_)
        · exact ⟨r4, q0, q1⟩
        generalize wr.drew = w4 at *
        refine wpAnyH_take (i := 0) (oi := ?oir90037_0) (v := ?vr90037_0) ?hir90037_0 (by kernel_rfl) (by kernel_rfl) (by kernel_rfl) ?hqr90037_0 ?hyr90037_0 (by assumption) ?restr90037_0
        case hir90037_0 => simp only [List.getElem?_toArray, List.getElem?_cons_succ, List.getElem?_cons_zero]; rfl
        case hqr90037_0 => exact fun _ _ _ h => h
        case hyr90037_0 => (refine Or.inl ⟨by rfl, ?_⟩; intro w hSw; (try dsimp only at hSw); go_simp; all_goals with_reducible rfl)
        try simp only [Act.put, List.setIfInBounds_toArray, List.set_cons_zero, List.set_cons_succ]
        refine wpAnyH_take (i := 1) (oi := ?oir90037_1) (v := ?vr90037_1) ?hir90037_1 (by kernel_rfl) (by kernel_rfl) (by kernel_rfl) ?hqr90037_1 ?hyr90037_1 (by assumption) ?restr90037_1
        case hir90037_1 => simp only [List.getElem?_toArray, List.getElem?_cons_succ, List.getElem?_cons_zero]; rfl
        case hqr90037_1 => exact fun _ _ _ h => h
        case hyr90037_1 => (refine Or.inl ⟨by rfl, ?_⟩; intro w hSw; (try dsimp only at hSw); go_simp; all_goals with_reducible rfl)
        try simp only [Act.put, List.setIfInBounds_toArray, List.set_cons_zero, List.set_cons_succ]
        refine wpAnyH_take (i := 2) (oi := ?oir90037_2) (v := ?vr90037_2) ?hir90037_2 (by kernel_rfl) (by kernel_rfl) (by kernel_rfl) ?hqr90037_2 ?hyr90037_2 (by assumption) ?restr90037_2
        case hir90037_2 => simp only [List.getElem?_toArray, List.getElem?_cons_succ, List.getElem?_cons_zero]; rfl
        case hqr90037_2 => exact fun _ _ _ h => h
        case hyr90037_2 => (refine Or.inl ⟨by rfl, ?_⟩; intro w hSw; (try dsimp only at hSw); go_simp; all_goals with_reducible rfl)
        try simp only [Act.put, List.setIfInBounds_toArray, List.set_cons_zero, List.set_cons_succ]
        refine wpAnyH_take (i := 3) (oi := ?oir90037_3) (v := ?vr90037_3) ?hir90037_3 (by kernel_rfl) (by kernel_rfl) (by kernel_rfl) ?hqr90037_3 ?hyr90037_3 (by assumption) ?restr90037_3
        case hir90037_3 => simp only [List.getElem?_toArray, List.getElem?_cons_succ, List.getElem?_cons_zero]; rfl
        case hqr90037_3 => exact fun _ _ _ h => h
        case hyr90037_3 => (refine Or.inl ⟨by rfl, ?_⟩; intro w hSw; (try dsimp only at hSw); go_simp; all_goals with_reducible rfl)
        try simp only [Act.put, List.setIfInBounds_toArray, List.set_cons_zero, List.set_cons_succ]
        refine wpAnyH_take (i := 4) (oi := ?oir90037_4) (v := ?vr90037_4) ?hir90037_4 (by kernel_rfl) (by kernel_rfl) (by kernel_rfl) ?hqr90037_4 ?hyr90037_4 (by assumption) ?restr90037_4
        case hir90037_4 => simp only [List.getElem?_toArray, List.getElem?_cons_succ, List.getElem?_cons_zero]; rfl
        case hqr90037_4 => exact fun _ _ _ h => h
        case hyr90037_4 => (refine Or.inl ⟨by rfl, ?_⟩; intro w hSw; (try dsimp only at hSw); go_simp; all_goals with_reducible rfl)
        try simp only [Act.put, List.setIfInBounds_toArray, List.set_cons_zero, List.set_cons_succ]
        refine wpAnyH_take (i := 5) (oi := ?oir90037_5) (v := ?vr90037_5) ?hir90037_5 (by kernel_rfl) (by kernel_rfl) (by kernel_rfl) ?hqr90037_5 ?hyr90037_5 (by assumption) ?restr90037_5
        case hir90037_5 => simp only [List.getElem?_toArray, List.getElem?_cons_succ, List.getElem?_cons_zero]; rfl
        case hqr90037_5 => exact fun _ _ _ h => h
        case hyr90037_5 => (refine Or.inl ⟨by rfl, ?_⟩; intro w hSw; (try dsimp only at hSw); go_simp; all_goals with_reducible rfl)
        try simp only [Act.put, List.setIfInBounds_toArray, List.set_cons_zero, List.set_cons_succ]
        refine wpAnyH_take (i := 6) (oi := ?oir90037_6) (v := ?vr90037_6) ?hir90037_6 (by kernel_rfl) (by kernel_rfl) (by kernel_rfl) ?hqr90037_6 ?hyr90037_6 (by assumption) ?restr90037_6
        case hir90037_6 => simp only [List.getElem?_toArray, List.getElem?_cons_succ, List.getElem?_cons_zero]; rfl
        case hqr90037_6 => exact fun _ _ _ h => h
        case hyr90037_6 => (refine Or.inl ⟨by rfl, ?_⟩; intro w hSw; (try dsimp only at hSw); go_simp; all_goals with_reducible rfl)
        try simp only [Act.put, List.setIfInBounds_toArray, List.set_cons_zero, List.set_cons_succ]
        refine wpAnyH_take (i := 7) (oi := ?oir90037_7) (v := ?vr90037_7) ?hir90037_7 (by kernel_rfl) (by kernel_rfl) (by kernel_rfl) ?hqr90037_7 ?hyr90037_7 (by assumption) ?restr90037_7
        case hir90037_7 => simp only [List.getElem?_toArray, List.getElem?_cons_succ, List.getElem?_cons_zero]; rfl
        case hqr90037_7 => exact fun _ _ _ h => h
        case hyr90037_7 => (refine Or.inl ⟨by rfl, ?_⟩; intro w hSw; (try dsimp only at hSw); go_simp; all_goals with_reducible rfl)
        try simp only [Act.put, List.setIfInBounds_toArray, List.set_cons_zero, List.set_cons_succ]
        refine wpAnyH_take (i := 8) (oi := ?oir90037_8) (v := ?vr90037_8) ?hir90037_8 (by kernel_rfl) (by kernel_rfl) (by kernel_rfl) ?hqr90037_8 ?hyr90037_8 (by assumption) ?restr90037_8
        case hir90037_8 => simp only [List.getElem?_toArray, List.getElem?_cons_succ, List.getElem?_cons_zero]; rfl
        case hqr90037_8 => exact fun _ _ _ h => h
        case hyr90037_8 => (refine Or.inl ⟨by rfl, ?_⟩; intro w hSw; (try dsimp only at hSw); go_simp; all_goals with_reducible rfl)
        try simp only [Act.put, List.setIfInBounds_toArray, List.set_cons_zero, List.set_cons_succ]
        refine wpAnyH_take (i := 9) (oi := ?oir90037_9) (v := ?vr90037_9) ?hir90037_9 (by kernel_rfl) (by kernel_rfl) (by kernel_rfl) ?hqr90037_9 ?hyr90037_9 (by assumption) ?restr90037_9
        case hir90037_9 => simp only [List.getElem?_toArray, List.getElem?_cons_succ, List.getElem?_cons_zero]; rfl
        case hqr90037_9 => exact fun _ _ _ h => h
        case hyr90037_9 => (refine Or.inl ⟨by rfl, ?_⟩; intro w hSw; (try dsimp only at hSw); go_simp; all_goals with_reducible rfl)
        try simp only [Act.put, List.setIfInBounds_toArray, List.set_cons_zero, List.set_cons_succ]
        refine wpAnyH_take (i := 10) (oi := ?oir90037_10) (v := ?vr90037_10) ?hir90037_10 (by kernel_rfl) (by kernel_rfl) (by kernel_rfl) ?hqr90037_10 ?hyr90037_10 (by assumption) ?restr90037_10
        case hir90037_10 => simp only [List.getElem?_toArray, List.getElem?_cons_succ, List.getElem?_cons_zero]; rfl
        case hqr90037_10 => exact fun _ _ _ h => h
        case hyr90037_10 => (refine Or.inl ⟨by rfl, ?_⟩; intro w hSw; (try dsimp only at hSw); go_simp; all_goals with_reducible rfl)
        try simp only [Act.put, List.setIfInBounds_toArray, List.set_cons_zero, List.set_cons_succ]
        refine wpAnyH_take (i := 11) (oi := ?oir90037_11) (v := ?vr90037_11) ?hir90037_11 (by kernel_rfl) (by kernel_rfl) (by kernel_rfl) ?hqr90037_11 ?hyr90037_11 (by assumption) ?restr90037_11
        case hir90037_11 => simp only [List.getElem?_toArray, List.getElem?_cons_succ, List.getElem?_cons_zero]; rfl
        case hqr90037_11 => exact fun _ _ _ h => h
        case hyr90037_11 => (refine Or.inl ⟨by rfl, ?_⟩; intro w hSw; (try dsimp only at hSw); go_simp; all_goals with_reducible rfl)
        try simp only [Act.put, List.setIfInBounds_toArray, List.set_cons_zero, List.set_cons_succ]
        refine wpAnyH_take (i := 12) (oi := ?oir90037_12) (v := ?vr90037_12) ?hir90037_12 (by kernel_rfl) (by kernel_rfl) (by kernel_rfl) ?hqr90037_12 ?hyr90037_12 (by assumption) ?restr90037_12
        case hir90037_12 => simp only [List.getElem?_toArray, List.getElem?_cons_succ, List.getElem?_cons_zero]; rfl
        case hqr90037_12 => exact fun _ _ _ h => h
        case hyr90037_12 => (refine Or.inl ⟨by rfl, ?_⟩; intro w hSw; (try dsimp only at hSw); go_simp; all_goals with_reducible rfl)
        try simp only [Act.put, List.setIfInBounds_toArray, List.set_cons_zero, List.set_cons_succ]
        refine wpAnyH_take (i := 13) (oi := ?oir90037_13) (v := ?vr90037_13) ?hir90037_13 (by kernel_rfl) (by kernel_rfl) (by kernel_rfl) ?hqr90037_13 ?hyr90037_13 (by assumption) ?restr90037_13
        case hir90037_13 => simp only [List.getElem?_toArray, List.getElem?_cons_succ, List.getElem?_cons_zero]; rfl
        case hqr90037_13 => exact fun _ _ _ h => h
        case hyr90037_13 => (refine Or.inl ⟨by rfl, ?_⟩; intro w hSw; (try dsimp only at hSw); go_simp; all_goals with_reducible rfl)
        try simp only [Act.put, List.setIfInBounds_toArray, List.set_cons_zero, List.set_cons_succ]
        refine wpAnyH_take (i := 14) (oi := ?oir90037_14) (v := ?vr90037_14) ?hir90037_14 (by kernel_rfl) (by kernel_rfl) (by kernel_rfl) ?hqr90037_14 ?hyr90037_14 (by assumption) ?restr90037_14
        case hir90037_14 => simp only [List.getElem?_toArray, List.getElem?_cons_succ, List.getElem?_cons_zero]; rfl
        case hqr90037_14 => exact fun _ _ _ h => h
        case hyr90037_14 => (refine Or.inl ⟨by rfl, ?_⟩; intro w hSw; (try dsimp only at hSw); go_simp; all_goals with_reducible rfl)
        try simp only [Act.put, List.setIfInBounds_toArray, List.set_cons_zero, List.set_cons_succ]
        refine wpAnyH_take (i := 15) (oi := ?oir90037_15) (v := ?vr90037_15) ?hir90037_15 (by kernel_rfl) (by kernel_rfl) (by kernel_rfl) ?hqr90037_15 ?hyr90037_15 (by assumption) ?restr90037_15
        case hir90037_15 => simp only [List.getElem?_toArray, List.getElem?_cons_succ, List.getElem?_cons_zero]; rfl
        case hqr90037_15 => exact fun _ _ _ h => h
        case hyr90037_15 => (refine Or.inl ⟨by rfl, ?_⟩; intro w hSw; (try dsimp only at hSw); go_simp; all_goals with_reducible rfl)
        try simp only [Act.put, List.setIfInBounds_toArray, List.set_cons_zero, List.set_cons_succ]
        refine wpAnyH_take (i := 16) (oi := ?oir90037_16) (v := undef) ?hir90037_16 (by kernel_rfl) (by kernel_rfl) (by kernel_rfl) ?hqr90037_16 ?hyr90037_16 (by assumption) ?restr90037_16
        case hir90037_16 => simp only [List.getElem?_toArray, List.getElem?_cons_succ, List.getElem?_cons_zero]; rfl
        case hqr90037_16 => exact fun _ _ _ h => h
        case hyr90037_16 => exact Or.inr ⟨by rfl, rfl⟩
        try simp only [Act.put, List.setIfInBounds_toArray, List.set_cons_zero, List.set_cons_succ]
        refine wpAnyH_take (i := 17) (oi := ?oir90037_17) (v := undef) ?hir90037_17 (by kernel_rfl) (by kernel_rfl) (by kernel_rfl) ?hqr90037_17 ?hyr90037_17 (by assumption) ?restr90037_17
        case hir90037_17 => simp only [List.getElem?_toArray, List.getElem?_cons_succ, List.getElem?_cons_zero]; rfl
        case hqr90037_17 => exact fun _ _ _ h => h
        case hyr90037_17 => exact Or.inr ⟨by rfl, rfl⟩
        try simp only [Act.put, List.setIfInBounds_toArray, List.set_cons_zero, List.set_cons_succ]
        refine wpAnyH_take (i := 18) (oi := ?oir90037_18) (v := undef) ?hir90037_18 (by kernel_rfl) (by kernel_rfl) (by kernel_rfl) ?hqr90037_18 ?hyr90037_18 (by assumption) ?restr90037_18
        case hir90037_18 => simp only [List.getElem?_toArray, List.getElem?_cons_succ, List.getElem?_cons_zero]; rfl
        case hqr90037_18 => exact fun _ _ _ h => h
        case hyr90037_18 => exact Or.inr ⟨by rfl, rfl⟩
        try simp only [Act.put, List.setIfInBounds_toArray, List.set_cons_zero, List.set_cons_succ]
        refine wpAnyH_take (i := 19) (oi := ?oir90037_19) (v := undef) ?hir90037_19 (by kernel_rfl) (by kernel_rfl) (by kernel_rfl) ?hqr90037_19 ?hyr90037_19 (by assumption) ?restr90037_19
        case hir90037_19 => simp only [List.getElem?_toArray, List.getElem?_cons_succ, List.getElem?_cons_zero]; rfl
        case hqr90037_19 => exact fun _ _ _ h => h
        case hyr90037_19 => exact Or.inr ⟨by rfl, rfl⟩
        try simp only [Act.put, List.setIfInBounds_toArray, List.set_cons_zero, List.set_cons_succ]
        refine wpAnyH_take (i := 20) (oi := ?oir90037_20) (v := ?vr90037_20) ?hir90037_20 (by kernel_rfl) (by kernel_rfl) (by kernel_rfl) ?hqr90037_20 ?hyr90037_20 (by assumption) ?restr90037_20
        case hir90037_20 => simp only [List.getElem?_toArray, List.getElem?_cons_succ, List.getElem?_cons_zero]; rfl
        case hqr90037_20 => exact fun _ _ _ h => h
        case hyr90037_20 => (refine Or.inl ⟨by rfl, ?_⟩; intro w hSw; (try dsimp only at hSw); go_simp; all_goals with_reducible rfl)
        try simp only [Act.put, List.setIfInBounds_toArray, List.set_cons_zero, List.set_cons_succ]
        refine wpAnyH_take (i := 21) (oi := ?oir90037_21) (v := ?vr90037_21) ?hir90037_21 (by kernel_rfl) (by kernel_rfl) (by kernel_rfl) ?hqr90037_21 ?hyr90037_21 (by assumption) ?restr90037_21
        case hir90037_21 => simp only [List.getElem?_toArray, List.getElem?_cons_succ, List.getElem?_cons_zero]; rfl
        case hqr90037_21 => exact fun _ _ _ h => h
        case hyr90037_21 => (refine Or.inl ⟨by rfl, ?_⟩; intro w hSw; (try dsimp only at hSw); go_simp; all_goals with_reducible rfl)
        try simp only [Act.put, List.setIfInBounds_toArray, List.set_cons_zero, List.set_cons_succ]
        have c1 := OM2.at false i hlt
        have f1 := OM2.free i
        refine wpAnyH_ready (rs := [22]) (by kernel_rfl) (by simp) ?_
        refine (AllReadyH.cons (o := ?ob90040_22) ?hob90040_22 (fun K hK => ?kb90040_22) AllReadyH.nil)
        case hob90040_22 => simp only [List.getElem?_toArray, List.getElem?_cons_succ, List.getElem?_cons_zero]; rfl
        case kb90040_22 =>
          go_simp
          have PR3 := PR2.other (p := ⟨G, i, none⟩) (by show RP ≠ G; omega) (by show w7.heap.size ≤ G; rw [HG.out]; exact Nat.le_refl _) (.bool m)
          have OM3 : OwB G (w4.setCell ⟨G, i, none⟩ (.bool m)) (some ⟨G, 0, none⟩) n_x n_x (mkI p xs n_x (i + 1)) := by
            rw [mkI_succ n_x HM.out]
            exact OM2.set i (v := m) trivial
          have OD3 := OD2.alone (g := G) i (.bool m) (fun p e => by simp at e; subst e; show D ≠ G; omega)
          have PP3 := H_p.out.later PR3.below
          clear PR2 OM2 OD2 PP2 r4 q0 q1 f1 c1
          have r4 := PR3.cell 4 (.slice (some ⟨G, 0, none⟩) n_x n_x) rfl
          have q0 := PP3.cell 0 _ rfl
          have q1 := PP3.cell 1 _ rfl
          generalize w4.setCell ⟨G, i, none⟩ (.bool m) = w5 at *
          have c1 := OD3.at false i hlt
          have f1 := OD3.free i
          refine hK.out _ _ ?_ (fun hHeld => ?_)
          · exact ⟨r4, q0, q1⟩
          clear hK K
          try simp only [Act.put, List.setIfInBounds_toArray, List.set_cons_zero, List.set_cons_succ]
          refine wpAnyH_take (i := 23) (oi := ?oir90038_23) (v := ?vr90038_23) ?hir90038_23 (by kernel_rfl) (by kernel_rfl) (by kernel_rfl) ?hqr90038_23 ?hyr90038_23 (by assumption) ?restr90038_23
          case hir90038_23 => simp only [List.getElem?_toArray, List.getElem?_cons_succ, List.getElem?_cons_zero]; rfl
          case hqr90038_23 => exact fun _ _ _ h => h
          case hyr90038_23 => (refine Or.inl ⟨by rfl, ?_⟩; intro w hSw; (try dsimp only at hSw); go_simp; all_goals with_reducible rfl)
          try simp only [Act.put, List.setIfInBounds_toArray, List.set_cons_zero, List.set_cons_succ]
          refine wpAnyH_ready (rs := [24]) (by kernel_rfl) (by simp) ?_
          refine (AllReadyH.cons (o := ?ob90039_24) ?hob90039_24 (fun K hK => ?kb90039_24) AllReadyH.nil)
          case hob90039_24 => simp only [List.getElem?_toArray, List.getElem?_cons_succ, List.getElem?_cons_zero]; rfl
          case kb90039_24 =>
            go_simp
            have PR4 := PR3.other (p := ⟨D, i, none⟩) (by show RP ≠ D; omega) (by show w7.heap.size ≤ D; rw [HG.out]; omega) (.bool false)
            have OD4 : OwB G (w5.setCell ⟨D, i, none⟩ (.bool false)) (some ⟨D, 0, none⟩) n_x n_x (dbI p xs n_x (i + 1)) := by
              rw [dbI_succ n_x HB.out]
              exact OD3.set i (v := false) trivial
            have OM4 := OM3.alone (g := D) i (.bool false) (fun p e => by simp at e; subst e; show G ≠ D; omega)
            have PP4 := H_p.out.later PR4.below
            clear PR3 OM3 OD3 PP3 r4 q0 q1 f1 c1
            have r4 := PR4.cell 4 (.slice (some ⟨G, 0, none⟩) n_x n_x) rfl
            have q0 := PP4.cell 0 _ rfl
            have q1 := PP4.cell 1 _ rfl
            refine hK.out _ _ ?_ (fun hHeld => ?_)
            · exact ⟨r4, q0, q1⟩
            clear hK K
            try simp only [Act.put, List.setIfInBounds_toArray, List.set_cons_zero, List.set_cons_succ]
            refine wpAnyH_done (by kernel_rfl) ?_ _
            go_wp2_with fail
            go_roundw
            case rel => exact ⟨i + 1, by omega, by go_num, PR4, OM4, OD4⟩
            case measure => simp [intOf]; omega
    case neg =>
      obtain rfl : n_x = i := by omega
      rw [mkI_full p xs ds] at OM
      rw [dbI_full p xs ds] at OD
      go_wp2_with fail
      go_loopw [132] (fun jv wz => ∃ j : Nat, j ≤ n_d ∧ jv = .int .i64 (j : Nat) ∧ PRow 80 w7 wz RP (rdc 0 (.slice none 0 0) 0 (.slice none 0 0) G n_x n_x n_s wd mo p.skips) ∧ OwB G wz (some ⟨G, 0, none⟩) n_x n_x (markL p xs (ds.take j) n_x) ∧ OwB G wz (some ⟨D, 0, none⟩) n_x n_x (dL p xs (ds.take j) n_x) ∧ Hid (∀ m, m < j → okD p xs ds m)) (fun jv _ => n_d - (intOf jv).toNat)
      case atStart => exact ⟨0, Nat.zero_le _, rfl, PR, OM, OD, Lib.hid fun m hm => absurd hm (by omega)⟩
      clear PR OM OD
      case round =>
        rename World => wz
        obtain ⟨j, hj, rfl, PR, OM, OD, hS⟩ := hrel
        by_cases hlt : j < n_d
        case pos =>
          obtain ⟨bd, od, rfl, hcc⟩ := (H_d.out.below PR.below).addr (by omega)
          obtain ⟨kd0, kd1⟩ := hcc j hlt
          clear hcc
          obtain ⟨bx, hbx⟩ : ∃ bx, (dth ds j).bx = bx := ⟨_, rfl⟩
          obtain ⟨ys, hys⟩ : ∃ ys, (dth ds j).yes = ys := ⟨_, rfl⟩
          rw [hbx] at kd0
          rw [hys] at kd1
          have HBX := Lib.hid hbx
          have HYS := Lib.hid hys
          clear hbx hys
          have PD := PRow.new 58 wz #[.int .i64 bx, .bool ys]
          have PR2 := PR.later PD.below
          have OM2 := OM.below PD.below
          have OD2 := OD.below PD.below
          have lRP := PR.lt
          have lD : D < wz.heap.size := OD.lt ⟨D, 0, none⟩ rfl
          have lG : G < wz.heap.size := OM.lt ⟨G, 0, none⟩ rfl
          go_upto_region 20 with (first | refine wpList_store_new rfl 58 _ _ rfl atDec _ _ _ rfl rfl rfl rfl (dec_one _ _) ?_)
          clear PR OM OD kd0 kd1
          obtain ⟨E, hE⟩ : ∃ E, wz.heap.size = E := ⟨_, rfl⟩
          rw [hE] at PD lRP lD lG ⊢
          have HE := Lib.hid hE
          clear hE
          generalize wz.alloc (.cells #[.int .i64 bx, .bool ys] 58) = wa at *
          have kd0 := PD.cell 0 _ rfl
          have kd1 := PD.cell 1 _ rfl
          have RO := H_o.out.later PR2.below
          have HBN := Lib.hid (H_B.out.trans (PR2.below.mono H_B.out.size))
          by_cases b0 : bx < 0
          case pos =>
            have d0 : decide (bx < 0) = true := decide_eq_true b0
            have HDB := Lib.hid (show decB p xs ds = false from decB_no (i := j) (by rw [HD.out]; exact hlt) (fun h => by have := h.1.1; rw [HBX.out] at this; omega))
            have HRR := Lib.hid (show r = (zeroR, 2) by rw [HR2.out, HDB.out]; rfl)
            have z0 := RO.cell 0 _ rfl
            have z1 := RO.cell 1 _ rfl
            have z2 := RO.cell 2 _ rfl
            have z3 := RO.cell 3 _ rfl
            go_wp2_with first | refine wpList_store_whole rfl 51 _ _ rfl atRea _ _ _ RO.row rfl rfl rfl rfl (rea_one 0 0 none none 0 0 0 0) ?_
            refine bodyPost_ret (results_cell_two rfl _ _ _ _ _ _ _ rfl (setRow_heap _ _ _ _ _ _ RO.row) Try.underlying51 rfl (by kernel_rfl) _ rfl) rfl ?_
            exact RetRA.nils HRR.out (HO0.out.trans ((RO.put _).below.mono HO0.out.size))
          have d0 : decide (bx < 0) = false := decide_eq_false b0
          by_cases b1 : bx < (n_x : Int)
          case neg =>
            have d1 : decide (bx ≥ ((n_x : Nat) : Int)) = true := decide_eq_true (by omega)
            have d2 : decide (((n_x : Nat) : Int) ≤ bx) = true := decide_eq_true (by omega)
            have HDB := Lib.hid (show decB p xs ds = false from decB_no (i := j) (by rw [HD.out]; exact hlt) (fun h => by have := h.1.2.1; rw [HBX.out, HX.out] at this; omega))
            have HRR := Lib.hid (show r = (zeroR, 2) by rw [HR2.out, HDB.out]; rfl)
            have z0 := RO.cell 0 _ rfl
            have z1 := RO.cell 1 _ rfl
            have z2 := RO.cell 2 _ rfl
            have z3 := RO.cell 3 _ rfl
            go_wp2_with first | refine wpList_store_whole rfl 51 _ _ rfl atRea _ _ _ RO.row rfl rfl rfl rfl (rea_one 0 0 none none 0 0 0 0) ?_
            refine bodyPost_ret (results_cell_two rfl _ _ _ _ _ _ _ rfl (setRow_heap _ _ _ _ _ _ RO.row) Try.underlying51 rfl (by kernel_rfl) _ rfl) rfl ?_
            exact RetRA.nils HRR.out (HO0.out.trans ((RO.put _).below.mono HO0.out.size))
          have d1 : decide (bx ≥ ((n_x : Nat) : Int)) = false := decide_eq_false (by omega)
          have d2 : decide (((n_x : Nat) : Int) ≤ bx) = false := decide_eq_false (by omega)
          obtain ⟨b, rfl⟩ : ∃ b : Nat, bx = (b : Int) := ⟨bx.toNat, by omega⟩
          have hbn : b < n_x := by omega
          have d3 : decide (n_x ≤ b) = false := decide_eq_false (by omega)
          have d4 : ¬ n_x ≤ b := by omega
          have kdb : wa.cell? ⟨D, b, none⟩ = some (.bool (bth (dL p xs (ds.take j) n_x) b)) := OD2.at false b hbn
          rw [bth_dL hbn, dbtB_ok (by rw [HD.out]; exact hlt) HBX.out (by rw [HX.out]; exact hbn)] at kdb
          obtain ⟨bb, hbb⟩ : ∃ bb, decide (okD p xs ds j) = bb := ⟨_, rfl⟩
          rw [hbb] at kdb
          have HBB := Lib.hid hbb
          clear hbb
          cases bb
          case false =>
            have HDB := Lib.hid (show decB p xs ds = false from decB_no (i := j) (by rw [HD.out]; exact hlt) (of_decide_eq_false HBB.out))
            have HRR := Lib.hid (show r = (zeroR, 2) by rw [HR2.out, HDB.out]; rfl)
            have z0 := RO.cell 0 _ rfl
            have z1 := RO.cell 1 _ rfl
            have z2 := RO.cell 2 _ rfl
            have z3 := RO.cell 3 _ rfl
            go_wp2_with first | refine wpList_store_whole rfl 51 _ _ rfl atRea _ _ _ RO.row rfl rfl rfl rfl (rea_one 0 0 none none 0 0 0 0) ?_
            refine bodyPost_ret (results_cell_two rfl _ _ _ _ _ _ _ rfl (setRow_heap _ _ _ _ _ _ RO.row) Try.underlying51 rfl (by kernel_rfl) _ rfl) rfl ?_
            exact RetRA.nils HRR.out (HO0.out.trans ((RO.put _).below.mono HO0.out.size))
          case true =>
            have HOK := Lib.hid (of_decide_eq_true HBB.out)
            have HS2 : Hid (∀ m, m < j + 1 → okD p xs ds m) := Lib.hid fun m hm => by
              by_cases hmi : m < j
              · exact hS.out m hmi
              · obtain rfl : m = j := by omega
                exact HOK.out
            go_upto_region 22 with fail
            clear kdb d0 d1 d2 kd0 kd1 b0 b1
            have hb := (Below.refl wa.heap.size wa).drew
            have PR3 := PR2.later hb
            have OM3 := OM2.below hb
            have OD3 := OD2.below hb
            have PD3 := PD.later hb
            clear PR2 OM2 OD2 PD hb RO HBN
            have r4 := PR3.cell 4 (.slice (some ⟨G, 0, none⟩) n_x n_x) rfl
            have q0 := PD3.cell 0 _ rfl
            have q1 := PD3.cell 1 _ rfl
            refine wp_region_held_drew (S := (fun v => v.cell? ⟨RP, 4, none⟩ = some (.slice (some ⟨G, 0, none⟩) n_x n_x) ∧ v.cell? ⟨E, 0, none⟩ = some (.int .i64 ((b : Nat) : Int)) ∧ v.cell? ⟨E, 1, none⟩ = some (.bool ys))) (by kernel_rfl) ?_ (fun hHeld => ?_)
            · exact ⟨r4, q0, q1⟩
            generalize wa.drew = w4 at *
            refine wpAnyH_take (i := 0) (oi := ?oir90050_0) (v := ?vr90050_0) ?hir90050_0 (by kernel_rfl) (by kernel_rfl) (by kernel_rfl) ?hqr90050_0 ?hyr90050_0 (by assumption) ?restr90050_0
            case hir90050_0 => simp only [List.getElem?_toArray, List.getElem?_cons_succ, List.getElem?_cons_zero]; rfl
            case hqr90050_0 => exact fun _ _ _ h => h
            case hyr90050_0 => (refine Or.inl ⟨by rfl, ?_⟩; intro w hSw; (try dsimp only at hSw); go_simp; all_goals with_reducible rfl)
            try simp only [Act.put, List.setIfInBounds_toArray, List.set_cons_zero, List.set_cons_succ]
            refine wpAnyH_take (i := 1) (oi := ?oir90050_1) (v := ?vr90050_1) ?hir90050_1 (by kernel_rfl) (by kernel_rfl) (by kernel_rfl) ?hqr90050_1 ?hyr90050_1 (by assumption) ?restr90050_1
            case hir90050_1 => simp only [List.getElem?_toArray, List.getElem?_cons_succ, List.getElem?_cons_zero]; rfl
            case hqr90050_1 => exact fun _ _ _ h => h
            case hyr90050_1 => (refine Or.inl ⟨by rfl, ?_⟩; intro w hSw; (try dsimp only at hSw); go_simp; all_goals with_reducible rfl)
            try simp only [Act.put, List.setIfInBounds_toArray, List.set_cons_zero, List.set_cons_succ]
            refine wpAnyH_take (i := 2) (oi := ?oir90050_2) (v := ?vr90050_2) ?hir90050_2 (by kernel_rfl) (by kernel_rfl) (by kernel_rfl) ?hqr90050_2 ?hyr90050_2 (by assumption) ?restr90050_2
            case hir90050_2 => simp only [List.getElem?_toArray, List.getElem?_cons_succ, List.getElem?_cons_zero]; rfl
            case hqr90050_2 => exact fun _ _ _ h => h
            case hyr90050_2 => (refine Or.inl ⟨by rfl, ?_⟩; intro w hSw; (try dsimp only at hSw); go_simp; all_goals with_reducible rfl)
            try simp only [Act.put, List.setIfInBounds_toArray, List.set_cons_zero, List.set_cons_succ]
            refine wpAnyH_take (i := 3) (oi := ?oir90050_3) (v := ?vr90050_3) ?hir90050_3 (by kernel_rfl) (by kernel_rfl) (by kernel_rfl) ?hqr90050_3 ?hyr90050_3 (by assumption) ?restr90050_3
            case hir90050_3 => simp only [List.getElem?_toArray, List.getElem?_cons_succ, List.getElem?_cons_zero]; rfl
            case hqr90050_3 => exact fun _ _ _ h => h
            case hyr90050_3 => (refine Or.inl ⟨by rfl, ?_⟩; intro w hSw; (try dsimp only at hSw); go_simp; all_goals with_reducible rfl)
            try simp only [Act.put, List.setIfInBounds_toArray, List.set_cons_zero, List.set_cons_succ]
            refine wpAnyH_take (i := 4) (oi := ?oir90050_4) (v := ?vr90050_4) ?hir90050_4 (by kernel_rfl) (by kernel_rfl) (by kernel_rfl) ?hqr90050_4 ?hyr90050_4 (by assumption) ?restr90050_4
            case hir90050_4 => simp only [List.getElem?_toArray, List.getElem?_cons_succ, List.getElem?_cons_zero]; rfl
            case hqr90050_4 => exact fun _ _ _ h => h
            case hyr90050_4 => (refine Or.inl ⟨by rfl, ?_⟩; intro w hSw; (try dsimp only at hSw); go_simp; all_goals with_reducible rfl)
            try simp only [Act.put, List.setIfInBounds_toArray, List.set_cons_zero, List.set_cons_succ]
            refine wpAnyH_take (i := 5) (oi := ?oir90050_5) (v := ?vr90050_5) ?hir90050_5 (by kernel_rfl) (by kernel_rfl) (by kernel_rfl) ?hqr90050_5 ?hyr90050_5 (by assumption) ?restr90050_5
            case hir90050_5 => simp only [List.getElem?_toArray, List.getElem?_cons_succ, List.getElem?_cons_zero]; rfl
            case hqr90050_5 => exact fun _ _ _ h => h
            case hyr90050_5 => (refine Or.inl ⟨by rfl, ?_⟩; intro w hSw; (try dsimp only at hSw); go_simp; all_goals with_reducible rfl)
            try simp only [Act.put, List.setIfInBounds_toArray, List.set_cons_zero, List.set_cons_succ]
            refine wpAnyH_take (i := 6) (oi := ?oir90050_6) (v := ?vr90050_6) ?hir90050_6 (by kernel_rfl) (by kernel_rfl) (by kernel_rfl) ?hqr90050_6 ?hyr90050_6 (by assumption) ?restr90050_6
            case hir90050_6 => simp only [List.getElem?_toArray, List.getElem?_cons_succ, List.getElem?_cons_zero]; rfl
            case hqr90050_6 => exact fun _ _ _ h => h
            case hyr90050_6 => (refine Or.inl ⟨by rfl, ?_⟩; intro w hSw; (try dsimp only at hSw); go_simp; all_goals with_reducible rfl)
            try simp only [Act.put, List.setIfInBounds_toArray, List.set_cons_zero, List.set_cons_succ]
            refine wpAnyH_take (i := 7) (oi := ?oir90050_7) (v := ?vr90050_7) ?hir90050_7 (by kernel_rfl) (by kernel_rfl) (by kernel_rfl) ?hqr90050_7 ?hyr90050_7 (by assumption) ?restr90050_7
            case hir90050_7 => simp only [List.getElem?_toArray, List.getElem?_cons_succ, List.getElem?_cons_zero]; rfl
            case hqr90050_7 => exact fun _ _ _ h => h
            case hyr90050_7 => (refine Or.inl ⟨by rfl, ?_⟩; intro w hSw; (try dsimp only at hSw); go_simp; all_goals with_reducible rfl)
            try simp only [Act.put, List.setIfInBounds_toArray, List.set_cons_zero, List.set_cons_succ]
            refine wpAnyH_take (i := 8) (oi := ?oir90050_8) (v := ?vr90050_8) ?hir90050_8 (by kernel_rfl) (by kernel_rfl) (by kernel_rfl) ?hqr90050_8 ?hyr90050_8 (by assumption) ?restr90050_8
            case hir90050_8 => simp only [List.getElem?_toArray, List.getElem?_cons_succ, List.getElem?_cons_zero]; rfl
            case hqr90050_8 => exact fun _ _ _ h => h
            case hyr90050_8 => (refine Or.inl ⟨by rfl, ?_⟩; intro w hSw; (try dsimp only at hSw); go_simp; all_goals with_reducible rfl)
            try simp only [Act.put, List.setIfInBounds_toArray, List.set_cons_zero, List.set_cons_succ]
            refine wpAnyH_take (i := 9) (oi := ?oir90050_9) (v := ?vr90050_9) ?hir90050_9 (by kernel_rfl) (by kernel_rfl) (by kernel_rfl) ?hqr90050_9 ?hyr90050_9 (by assumption) ?restr90050_9
            case hir90050_9 => simp only [List.getElem?_toArray, List.getElem?_cons_succ, List.getElem?_cons_zero]; rfl
            case hqr90050_9 => exact fun _ _ _ h => h
            case hyr90050_9 => (refine Or.inl ⟨by rfl, ?_⟩; intro w hSw; (try dsimp only at hSw); go_simp; all_goals with_reducible rfl)
            try simp only [Act.put, List.setIfInBounds_toArray, List.set_cons_zero, List.set_cons_succ]
            refine wpAnyH_take (i := 10) (oi := ?oir90050_10) (v := ?vr90050_10) ?hir90050_10 (by kernel_rfl) (by kernel_rfl) (by kernel_rfl) ?hqr90050_10 ?hyr90050_10 (by assumption) ?restr90050_10
            case hir90050_10 => simp only [List.getElem?_toArray, List.getElem?_cons_succ, List.getElem?_cons_zero]; rfl
            case hqr90050_10 => exact fun _ _ _ h => h
            case hyr90050_10 => (refine Or.inl ⟨by rfl, ?_⟩; intro w hSw; (try dsimp only at hSw); go_simp; all_goals with_reducible rfl)
            try simp only [Act.put, List.setIfInBounds_toArray, List.set_cons_zero, List.set_cons_succ]
            refine wpAnyH_take (i := 11) (oi := ?oir90050_11) (v := ?vr90050_11) ?hir90050_11 (by kernel_rfl) (by kernel_rfl) (by kernel_rfl) ?hqr90050_11 ?hyr90050_11 (by assumption) ?restr90050_11
            case hir90050_11 => simp only [List.getElem?_toArray, List.getElem?_cons_succ, List.getElem?_cons_zero]; rfl
            case hqr90050_11 => exact fun _ _ _ h => h
            case hyr90050_11 => (refine Or.inl ⟨by rfl, ?_⟩; intro w hSw; (try dsimp only at hSw); go_simp; all_goals with_reducible rfl)
            try simp only [Act.put, List.setIfInBounds_toArray, List.set_cons_zero, List.set_cons_succ]
            have c1 := OM3.at false b hbn
            have f1 := OM3.free b
            refine wpAnyH_ready (rs := [12]) (by kernel_rfl) (by simp) ?_
            refine (AllReadyH.cons (o := ?ob90052_12) ?hob90052_12 (fun K hK => ?kb90052_12) AllReadyH.nil)
            case hob90052_12 => simp only [List.getElem?_toArray, List.getElem?_cons_succ, List.getElem?_cons_zero]; rfl
            case kb90052_12 =>
              go_simp
              have PR4 := PR3.other (p := ⟨G, b, none⟩) (by show RP ≠ G; omega) (by show w7.heap.size ≤ G; rw [HG.out]; exact Nat.le_refl _) (.bool ys)
              have OM4 : OwB G (w4.setCell ⟨G, b, none⟩ (.bool ys)) (some ⟨G, 0, none⟩) n_x n_x (markL p xs (ds.take (j + 1)) n_x) := by
                rw [mark_step n_x (by rw [HD.out]; exact hlt) HBX.out HOK.out, HYS.out]
                exact OM3.set b (v := ys) trivial
              have OD4 := OD3.alone (g := G) b (.bool ys) (fun p e => by simp at e; subst e; show D ≠ G; omega)
              have PD4 := cell_other_block w4 (p := ⟨G, b, none⟩) (.bool ys)
              clear PR3 OM3 OD3 r4 f1 c1
              have r4 := PR4.cell 4 (.slice (some ⟨G, 0, none⟩) n_x n_x) rfl
              replace q0 := (PD4 ⟨E, 0, none⟩ (by show E ≠ G; omega)).trans q0
              replace q1 := (PD4 ⟨E, 1, none⟩ (by show E ≠ G; omega)).trans q1
              clear PD4 PD3
              generalize w4.setCell ⟨G, b, none⟩ (.bool ys) = w5 at *
              have c1 := OD4.at false b hbn
              have f1 := OD4.free b
              refine hK.out _ _ ?_ (fun hHeld => ?_)
              · exact ⟨r4, q0, q1⟩
              clear hK K
              try simp only [Act.put, List.setIfInBounds_toArray, List.set_cons_zero, List.set_cons_succ]
              refine wpAnyH_take (i := 13) (oi := ?oir90050_13) (v := ?vr90050_13) ?hir90050_13 (by kernel_rfl) (by kernel_rfl) (by kernel_rfl) ?hqr90050_13 ?hyr90050_13 (by assumption) ?restr90050_13
              case hir90050_13 => simp only [List.getElem?_toArray, List.getElem?_cons_succ, List.getElem?_cons_zero]; rfl
              case hqr90050_13 => exact fun _ _ _ h => h
              case hyr90050_13 => (refine Or.inl ⟨by rfl, ?_⟩; intro w hSw; (try dsimp only at hSw); go_simp; all_goals with_reducible rfl)
              try simp only [Act.put, List.setIfInBounds_toArray, List.set_cons_zero, List.set_cons_succ]
              refine wpAnyH_ready (rs := [14]) (by kernel_rfl) (by simp) ?_
              refine (AllReadyH.cons (o := ?ob90051_14) ?hob90051_14 (fun K hK => ?kb90051_14) AllReadyH.nil)
              case hob90051_14 => simp only [List.getElem?_toArray, List.getElem?_cons_succ, List.getElem?_cons_zero]; rfl
              case kb90051_14 =>
                go_simp
                have PR5 := PR4.other (p := ⟨D, b, none⟩) (by show RP ≠ D; omega) (by show w7.heap.size ≤ D; rw [HG.out]; omega) (.bool false)
                have OD5 : OwB G (w5.setCell ⟨D, b, none⟩ (.bool false)) (some ⟨D, 0, none⟩) n_x n_x (dL p xs (ds.take (j + 1)) n_x) := by
                  rw [dbt_step n_x (by rw [HD.out]; exact hlt) HBX.out]
                  exact OD4.set b (v := false) trivial
                have OM5 := OM4.alone (g := D) b (.bool false) (fun p e => by simp at e; subst e; show G ≠ D; omega)
                have PD5 := cell_other_block w5 (p := ⟨D, b, none⟩) (.bool false)
                clear PR4 OM4 OD4 r4 f1 c1
                have r4 := PR5.cell 4 (.slice (some ⟨G, 0, none⟩) n_x n_x) rfl
                replace q0 := (PD5 ⟨E, 0, none⟩ (by show E ≠ D; omega)).trans q0
                replace q1 := (PD5 ⟨E, 1, none⟩ (by show E ≠ D; omega)).trans q1
                clear PD5
                refine hK.out _ _ ?_ (fun hHeld => ?_)
                · exact ⟨r4, q0, q1⟩
                clear hK K
                try simp only [Act.put, List.setIfInBounds_toArray, List.set_cons_zero, List.set_cons_succ]
                refine wpAnyH_done (by kernel_rfl) ?_ _
                go_wp2_with fail
                go_roundw
                case rel => exact ⟨j + 1, by omega, by go_num, PR5, OM5, OD5, HS2⟩
                case measure => simp [intOf]; omega
        case neg =>
          obtain rfl : n_d = j := by omega
          have HDB := Lib.hid (show decB p xs ds = true from decide_eq_true (by rw [HD.out]; exact hS.out))
          obtain ⟨mk, hmk⟩ : ∃ mk, markL p xs ds n_x = mk := ⟨_, rfl⟩
          obtain ⟨dt, hdt⟩ : ∃ dt, dbtL p xs ds n_x = dt := ⟨_, rfl⟩
          have HMK := Lib.hid hmk
          have HDT := Lib.hid hdt
          have HRF := Lib.hid (show r = (⟨k, (bodyR k n_s rule p mk).1, (bodyR k n_s rule p mk).2, dt⟩, 0) by rw [HR2.out, HDB.out, if_pos rfl, HK.out, HN.out, HX.out, hmk, hdt])
          have hmkl : mk.length = n_x := by rw [← hmk]; exact markL_len _ _ _ _
          rw [List.take_of_length_le (by rw [HD.out]; exact Nat.le_refl _), hmk] at OM
          rw [List.take_of_length_le (by rw [HD.out]; exact Nat.le_refl _)] at OD
          have HML := Lib.hid hmkl
          clear hmk hdt hmkl
          go_wp2_with fail
          go_loopw [171] (fun jv wy => ∃ (i : Nat) (am : Option Addr) (m c : Nat), i ≤ n_x ∧ jv = .int .i64 (i : Nat) ∧ PRow 80 w7 wy RP (rdc 0 (.slice none 0 0) 0 (.slice am m c) G n_x n_x n_s wd mo p.skips) ∧ OwB G wy (some ⟨G, 0, none⟩) n_x n_x mk ∧ OwB G wy (some ⟨D, 0, none⟩) n_x n_x (dL p xs ds n_x) ∧ OwI G wy am m c (dbtL p xs ds i)) (fun jv _ => n_x - (intOf jv).toNat)
          case atStart => exact ⟨0, none, 0, 0, Nat.zero_le _, rfl, PR, OM, OD, OwG.nil _ _ _ _ _⟩
          clear PR OM OD
          case round =>
            rename World => wy
            obtain ⟨i, am, m, c, hi, rfl, PR, OM, OD, OI⟩ := hrel
            by_cases hlt2 : i < n_x
            case pos =>
              have kdb : wy.cell? ⟨D, i, none⟩ = some (.bool (bth (dL p xs ds n_x) i)) := OD.at false i hlt2
              rw [bth_dL hlt2] at kdb
              obtain ⟨bb, hbb⟩ : ∃ bb, dbtB p xs ds i = bb := ⟨_, rfl⟩
              rw [hbb] at kdb
              have HBB := Lib.hid hbb
              clear hbb
              cases bb
              case false =>
                have OI2 : OwI G wy am m c (dbtL p xs ds (i + 1)) := by
                  rw [dbtL_succ, HBB.out, if_neg (by decide), List.append_nil]
                  exact OI
                go_wp2_with fail
                go_roundw
                case rel => exact ⟨i + 1, am, m, c, by omega, by go_num, PR, OM, OD, OI2⟩
                case measure => simp [intOf]; omega
              case true =>
                have hmn : m ≤ 1000 := by rw [← OI.len]; exact Nat.le_trans (dbtL_le _ _ _ _) (by omega)
                have k3 := PR.cell 3 (.slice am m c) rfl
                have hal := below_al wy (.cells #[.int .i64 ((i : Nat) : Int)] 3)
                have PRa := PR.later hal
                have OMa := OM.below hal
                have ODa := OD.below hal
                have OIa := OI.below hal
                have hGwy : G ≤ wy.heap.size := by have := PR.lt; omega
                go_wp2_with (at_builtin; refine wpList_app rfl _ _ 37 rfl etI G rfl OIa.own rfl rfl (sl_alone wy _ 3 rfl) (by unfold maxLen; omega) (by omega) (by rw [World.size_alloc]; omega) ?_; intro af cf wf hown hg hbn; refine Hid.out ?_)
                have PRb := PRa.grown (by decide) OIa.own hg (by rw [HG.out]; exact hbn)
                have OMb : OwB G wf (some ⟨G, 0, none⟩) n_x n_x mk := ⟨OMa.len, own_grown OMa.own OIa.own (by decide) hg, OMa.bd⟩
                have ODb : OwB G wf (some ⟨D, 0, none⟩) n_x n_x (dL p xs ds n_x) := ⟨ODa.len, own_grown ODa.own OIa.own (by decide) hg, ODa.bd⟩
                have OIb : OwI G wf af (m + 1) cf (dbtL p xs ds (i + 1)) := by
                  rw [dbtL_succ, HBB.out, if_pos rfl]
                  exact OIa.snoc ⟨by omega, by omega⟩ rfl hown
                clear hown hg hbn PRa OMa ODa OIa hal k3 kdb PR OM OD OI
                refine Lib.hid ?_
                have k3 := PRb.cell 3 (.slice am m c) rfl
                have f3 := PRb.free 3
                go_wp2_with fail
                go_roundw
                case rel => exact ⟨i + 1, af, m + 1, cf, by omega, by go_num, PRb.set 3 _, OMb.setHi PRb.row (by decide) _, ODb.setHi PRb.row (by decide) _, OIb.setHi PRb.row (by decide) _⟩
                case measure => simp [intOf]; omega
            case neg =>
              obtain rfl : n_x = i := by omega
              rw [HDT.out] at OI
              clear OD
              have k0 := PR.cell 0 (.int .u8 0) rfl
              have f0 := PR.free 0
              have PR2 := PR.set 0 (.int .u8 ((k : Nat) : Int))
              have OM2 := OM.setHi PR.row (by decide) (.int .u8 ((k : Nat) : Int)) (i := 0)
              have OI2 := OI.setHi PR.row (by decide) (.int .u8 ((k : Nat) : Int)) (i := 0)
              go_upto_region 31 with fail
              clear k0 f0 PR OM OI
              generalize wy.setCell ⟨RP, 0, none⟩ (.int .u8 ((k : Nat) : Int)) = wk at *
              have PR3 : PRow 80 w7 wk RP (rdc k (.slice none 0 0) 0 (.slice am m c) G mk.length n_x n_s wd mo p.skips) := by rw [HML.out]; exact PR2
              obtain ⟨gc, MW⟩ := own_mkW OM2
              have hww : w7.heap.size ≤ wk.heap.size := PR2.below.size
              have HDI := Lib.hid OI2
              clear PR2 OM2 OI2
              obtain ⟨br, hbr⟩ : ∃ br, bodyR k n_s rule p mk = br := ⟨_, rfl⟩
              have HBR := Lib.hid hbr
              have HRG := Lib.hid (show r = (⟨k, br.1, br.2, dt⟩, 0) by rw [HRF.out, hbr])
              clear hbr
              rcases HKI2.out with rfl | rfl | rfl
              case inl =>
                have cc := ofRanks_any wk
                obtain rfl : n_s = wd := HWD.out
                go_wp2_with fail
                refine cc.mono ?_
                rintro e w9 ⟨rfl, hw9⟩
                subst hw9
                clear cc
                go_wp2_with fail
                have cc := ranks_any w7 wk RP 1 G n_x n_s (.slice am m c) mo p.skips q4 q5 gc mk g1 (by rw [HML.out]; exact HNX.out) hww PR3 MW
                rw [show ranksR mk n_s p.skips = br from HBR.out] at cc
                refine cc.mono ?_
                rintro e wm ⟨rfl, a_m, n_m, c_m, PF, OF, KX⟩
                clear cc
                have s0 := PF.cell 0 (.int .u8 ((1 : Nat) : Int)) rfl
                have s1 := PF.cell 1 (.slice a_m n_m c_m) rfl
                have s2 := PF.cell 2 (.int .i64 br.2) rfl
                have s3 := PF.cell 3 (.slice am m c) rfl
                have OIF := HDI.out.keepX KX PR3.row (by decide)
                have RO := H_o.out.later PF.below
                have HOF := Lib.hid OF
                have HOI := Lib.hid OIF
                have HAP := Lib.hid (show ∀ p q, a_m = some p → am = some q → p.block ≠ q.block from fun p q e1 e2 => by
                  have h1 := OF.ge p e1
                  have h2 := HDI.out.lt q e2
                  omega)
                have hol := H_o.out.lt
                rw [HG.out] at hol
                have hwk := PR3.lt
                clear OF OIF KX PR3 MW
                go_wp2_with first | refine wpList_store_whole rfl 51 _ _ rfl atRea _ _ _ RO.row rfl rfl rfl rfl (rea_one _ _ _ _ _ _ _ _) ?_
                refine bodyPost_ret (results_cell_two rfl _ _ _ _ _ _ _ rfl (setRow_heap _ _ _ _ _ _ RO.row) Try.underlying51 rfl (by kernel_rfl) _ rfl) rfl ?_
                have hwg : w.heap.size ≤ G := by have := H_B.out.size; rw [← HG.out]; exact this
                exact ⟨a_m, n_m, c_m, am, m, c, by rw [HRG.out]; rfl, by rw [HRG.out]; exact ((HOF.out.rowLow (by omega) _).base_le (by omega)), by rw [HRG.out]; exact ((HOI.out.rowLow (by omega) _).base_le hwg), HAP.out, HO0.out.trans ((RO.put _).below.mono HO0.out.size)⟩
              case inr.inl =>
                have cc := ofMarks_any wk
                obtain rfl : 1 = wd := HWD.out
                go_wp2_with fail
                refine cc.mono ?_
                rintro e w9 ⟨rfl, hw9⟩
                subst hw9
                clear cc
                go_wp2_with fail
                have cc := marks_any w7 wk RP 2 G n_x n_s (.slice am m c) mo p.skips gc mk (by omega) (by rw [HML.out]; exact HNX.out.trans (Nat.mul_one _)) hww PR3 MW
                rw [show marksR mk mo = br by rw [← HMO.out]; exact HBR.out] at cc
                refine cc.mono ?_
                rintro e wm ⟨rfl, a_m, n_m, c_m, PF, OF, KX⟩
                clear cc
                have s0 := PF.cell 0 (.int .u8 ((2 : Nat) : Int)) rfl
                have s1 := PF.cell 1 (.slice a_m n_m c_m) rfl
                have s2 := PF.cell 2 (.int .i64 br.2) rfl
                have s3 := PF.cell 3 (.slice am m c) rfl
                have OIF := HDI.out.keepX KX PR3.row (by decide)
                have RO := H_o.out.later PF.below
                have HOF := Lib.hid OF
                have HOI := Lib.hid OIF
                have HAP := Lib.hid (show ∀ p q, a_m = some p → am = some q → p.block ≠ q.block from fun p q e1 e2 => by
                  have h1 := OF.ge p e1
                  have h2 := HDI.out.lt q e2
                  omega)
                have hol := H_o.out.lt
                rw [HG.out] at hol
                have hwk := PR3.lt
                clear OF OIF KX PR3 MW
                go_wp2_with first | refine wpList_store_whole rfl 51 _ _ rfl atRea _ _ _ RO.row rfl rfl rfl rfl (rea_one _ _ _ _ _ _ _ _) ?_
                refine bodyPost_ret (results_cell_two rfl _ _ _ _ _ _ _ rfl (setRow_heap _ _ _ _ _ _ RO.row) Try.underlying51 rfl (by kernel_rfl) _ rfl) rfl ?_
                have hwg : w.heap.size ≤ G := by have := H_B.out.size; rw [← HG.out]; exact this
                exact ⟨a_m, n_m, c_m, am, m, c, by rw [HRG.out]; rfl, by rw [HRG.out]; exact ((HOF.out.rowLow (by omega) _).base_le (by omega)), by rw [HRG.out]; exact ((HOI.out.rowLow (by omega) _).base_le hwg), HAP.out, HO0.out.trans ((RO.put _).below.mono HO0.out.size)⟩
              case inr.inr =>
                have cc := ofScored_any wk
                obtain rfl : 11 = wd := HWD.out
                go_wp2_with fail
                refine cc.mono ?_
                rintro e w9 ⟨rfl, hw9⟩
                subst hw9
                clear cc
                go_wp2_with fail
                have cc := scored_any w7 wk RP 3 G n_x n_s (.slice am m c) mo p.skips gc mk g1 (by rw [HML.out]; exact HNX.out) (by rw [HML.out]; exact Nat.le_refl _) (by unfold maxLen; omega) hww PR3 MW
                rw [show scoresR mk n_s = br from HBR.out] at cc
                refine cc.mono ?_
                rintro e wm ⟨rfl, a_m, n_m, c_m, PF, OF, KX⟩
                clear cc
                have s0 := PF.cell 0 (.int .u8 ((3 : Nat) : Int)) rfl
                have s1 := PF.cell 1 (.slice a_m n_m c_m) rfl
                have s2 := PF.cell 2 (.int .i64 br.2) rfl
                have s3 := PF.cell 3 (.slice am m c) rfl
                have OIF := HDI.out.keepX KX PR3.row (by decide)
                have RO := H_o.out.later PF.below
                have HOF := Lib.hid OF
                have HOI := Lib.hid OIF
                have HAP := Lib.hid (show ∀ p q, a_m = some p → am = some q → p.block ≠ q.block from fun p q e1 e2 => by
                  have h1 := OF.ge p e1
                  have h2 := HDI.out.lt q e2
                  omega)
                have hol := H_o.out.lt
                rw [HG.out] at hol
                have hwk := PR3.lt
                clear OF OIF KX PR3 MW
                go_wp2_with first | refine wpList_store_whole rfl 51 _ _ rfl atRea _ _ _ RO.row rfl rfl rfl rfl (rea_one _ _ _ _ _ _ _ _) ?_
                refine bodyPost_ret (results_cell_two rfl _ _ _ _ _ _ _ rfl (setRow_heap _ _ _ _ _ _ RO.row) Try.underlying51 rfl (by kernel_rfl) _ rfl) rfl ?_
                have hwg : w.heap.size ≤ G := by have := H_B.out.size; rw [← HG.out]; exact this
                exact ⟨a_m, n_m, c_m, am, m, c, by rw [HRG.out]; rfl, by rw [HRG.out]; exact ((HOF.out.rowLow (by omega) _).base_le (by omega)), by rw [HRG.out]; exact ((HOI.out.rowLow (by omega) _).base_le hwg), HAP.out, HO0.out.trans ((RO.put _).below.mono HO0.out.size)⟩

end Go.Proofs.Ytlfempfhohejiaa
