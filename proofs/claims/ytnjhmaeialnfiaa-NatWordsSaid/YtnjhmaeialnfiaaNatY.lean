/- wakes and right of the laws about nat. No condition. -/
import Derived.Test.YtnjhmaeialnfiaaNatX
namespace Go.Proofs.Ytnjhmaeialnfiaa
open Go.RowKit Go.Suf
set_option linter.unusedVariables false
set_option linter.unusedSimpArgs false

theorem limbs_of {N : Nat} {xs : List Nat} (hv : val xs = N) (hs : small32 xs) (hc : canon xs) : limbs N = xs := by rw [← hv, limbs_val hs hc]

theorem fit_of {N : Nat} {xs : List Nat} (hv : val xs = N) (hs : small32 xs) (hc : canon xs) (hl : xs.length ≤ 96) : fitC N = (xs, 0) := by
  rw [fitC, limbs_of hv hs hc, if_neg (by omega)]

theorem text_of {N : Nat} {ys : List Nat} (hf : formB ys = true) (hd : dread ys 0 = N) : textN N = ys := by rw [← hd, textN_dread hf]

theorem lit1 (w : World) (x : Nat) (hx : x < 4294967296) : Rd .u32 (w.alloc (.cells #[.int .u32 (x : Nat)] 36)) (some ⟨w.heap.size, 0, none⟩) 1 1 [x] :=
  rd_lit .u32 w [x] 36 1 rfl (by decide) (by intro y hy; simp at hy; subst hy; exact hx)

theorem lit2 (w : World) (x y : Nat) (hx : x < 4294967296) (hy : y < 4294967296) : Rd .u32 (w.alloc (.cells #[.int .u32 (x : Nat), .int .u32 (y : Nat)] 36)) (some ⟨w.heap.size, 0, none⟩) 2 2 [x, y] :=
  rd_lit .u32 w [x, y] 36 2 rfl (by decide) (by intro z hz; simp at hz; rcases hz with rfl | rfl; exact hx; exact hy)

theorem al (w : World) (o : Obj) : Below w.heap.size w (w.alloc o) := (Below.refl _ _).alloc (Nat.le_refl _) _

theorem lit11 (w : World) (x y : Nat) (hx : x < 4294967296) (hy : y < 4294967296) :
    Rd .u32 ((w.alloc (.cells #[.int .u32 (x : Nat)] 36)).alloc (.cells #[.int .u32 (y : Nat)] 36)) (some ⟨w.heap.size, 0, none⟩) 1 1 [x] ∧
    Rd .u32 ((w.alloc (.cells #[.int .u32 (x : Nat)] 36)).alloc (.cells #[.int .u32 (y : Nat)] 36)) (some ⟨w.heap.size + 1, 0, none⟩) 1 1 [y] ∧
    Below w.heap.size w ((w.alloc (.cells #[.int .u32 (x : Nat)] 36)).alloc (.cells #[.int .u32 (y : Nat)] 36)) := by
  refine ⟨(lit1 w x hx).below (al _ _), ?_, (al w _).alloc (by simp) _⟩
  have := lit1 (w.alloc (.cells #[.int .u32 (x : Nat)] 36)) y hy
  rwa [World.size_alloc] at this

theorem lit21 (w : World) (x x' y : Nat) (hx : x < 4294967296) (hx' : x' < 4294967296) (hy : y < 4294967296) :
    Rd .u32 ((w.alloc (.cells #[.int .u32 (x : Nat), .int .u32 (x' : Nat)] 36)).alloc (.cells #[.int .u32 (y : Nat)] 36)) (some ⟨w.heap.size, 0, none⟩) 2 2 [x, x'] ∧
    Rd .u32 ((w.alloc (.cells #[.int .u32 (x : Nat), .int .u32 (x' : Nat)] 36)).alloc (.cells #[.int .u32 (y : Nat)] 36)) (some ⟨w.heap.size + 1, 0, none⟩) 1 1 [y] ∧
    Below w.heap.size w ((w.alloc (.cells #[.int .u32 (x : Nat), .int .u32 (x' : Nat)] 36)).alloc (.cells #[.int .u32 (y : Nat)] 36)) := by
  refine ⟨(lit2 w x x' hx hx').below (al _ _), ?_, (al w _).alloc (by simp) _⟩
  have := lit1 (w.alloc (.cells #[.int .u32 (x : Nat), .int .u32 (x' : Nat)] 36)) y hy
  rwa [World.size_alloc] at this

theorem both_ok {xs ys : List Nat} (h1 : chk xs = 0) (h2 : chk ys = 0) : bothC xs ys = 0 := by rw [bothC, if_pos h1, h2]

/-! The examples, as plain data. -/
theorem ex_mul : mulC [0, 1] [4294967295] = ([0, 4294967295], 0) := by
  rw [mulC, if_pos (both_ok (by decide) (by decide)), fit_of (xs := [0, 4294967295]) (by decide) (by unfold small32; decide) (by unfold canon; decide) (by decide)]
theorem ex_text : textC [0, 4294967295] = ([49, 56, 52, 52, 54, 55, 52, 52, 48, 54, 57, 52, 49, 52, 53, 56, 52, 51, 50, 48], 0) := by
  rw [textC, if_pos (by decide), text_of (ys := [49, 56, 52, 52, 54, 55, 52, 52, 48, 54, 57, 52, 49, 52, 53, 56, 52, 51, 50, 48]) (by decide) (by decide)]
theorem ex_div : divC [100] [7] = ([14], [2], 0) := by
  rw [divC, if_pos (both_ok (by decide) (by decide)), if_neg (by decide), limbs_of (xs := [14]) (by decide) (by unfold small32; decide) (by unfold canon; decide), limbs_of (xs := [2]) (by decide) (by unfold small32; decide) (by unfold canon; decide)]
theorem ex_div0 : divC [100] [] = ([], [], 40) := by
  rw [divC, if_pos (both_ok (by decide) (by decide)), if_pos (by decide)]
theorem ex_gcd : gcdC [12] [18] = ([6], 0) := by
  rw [gcdC, if_pos (both_ok (by decide) (by decide)), limbs_of (xs := [6]) (by decide) (by unfold small32; decide) (by unfold canon; decide)]
theorem ex_read1 : readC [48, 48, 55] = ([], 11) := by rw [readC, if_neg (by decide)]
theorem ex_read2 : readC [45, 49] = ([], 11) := by rw [readC, if_neg (by decide)]
theorem ex_read3 : readC [] = ([], 11) := by rw [readC, if_neg (by decide)]
theorem ex_read4 : readC [49, 56, 52, 52, 54, 55, 52, 52, 48, 54, 57, 52, 49, 52, 53, 56, 52, 51, 50, 48] = ([0, 4294967295], 0) := by
  rw [readC, if_pos (by decide), fit_of (xs := [0, 4294967295]) (by decide) (by unfold small32; decide) (by unfold canon; decide) (by decide)]
theorem ex_sub : subC [1] [2] = ([], 6) := by
  rw [subC, if_pos (both_ok (by decide) (by decide)), if_pos (by decide)]
theorem ex_text0 : textC [] = ([48], 0) := by rw [textC, if_pos (by decide)]; rfl
theorem ex_word : wordC [0, 4294967295] = (18446744069414584320, 0) := by
  rw [wordC, if_pos (by decide), if_neg (by decide)]
  decide
theorem ex_chk0 : chk [0] = 8 := by decide
theorem ex_chk97 : chk (zs 97) = 4 := by rw [chk, if_pos (by rw [zs_length]; decide)]

set_option maxRecDepth 100000 in
set_option maxHeartbeats 8000000 in
theorem wakes_any (w : World) :
    Calls Try.prog 11 #[] w fun e w' => e = .returned (.bool true) ∧ Below w.heap.size w w' := by
  go_enter Try.func11, Try.ntmps11
  go_wp2_with fail
  obtain ⟨l1, l2, l3⟩ := lit21 w 0 1 4294967295 (by decide) (by decide) (by decide)
  have c := Mul_any _ l1 l2
  rw [ex_mul] at c
  refine c.mono ?_
  rintro e w1 ⟨aA, nA, cA, rfl, hA1, hb1⟩
  have B1 := l3.trans (hb1.mono l3.size)
  clear c l1 l2 l3 hb1
  go_wp2_with fail
  have c := Text_any _ hA1
  rw [ex_text] at c
  refine c.mono ?_
  rintro e w2 ⟨rfl, hb2⟩
  have B2 := B1.trans (hb2.mono B1.size)
  have hA2 := hA1.below hb2
  clear c B1 hA1 hb2
  go_wp2_with fail
  obtain ⟨l1, l2, l3⟩ := lit11 w2 100 7 (by decide) (by decide)
  have c := Div_any _ l1 l2
  rw [ex_div] at c
  refine c.mono ?_
  rintro e w3 ⟨aQ, nQ, cQ, aR, nR, cR, rfl, hQ3, hR3, hb3⟩
  have l4 := l3.trans (hb3.mono l3.size)
  have B3 := B2.trans (l4.mono B2.size)
  have hA3 := hA2.below l4
  clear c l1 l2 l3 l4 B2 hA2 hb3
  go_wp2_with fail
  have c := Div_any _ (lit1 w3 100 (by decide)) (Rd.nil .u32 _)
  rw [ex_div0] at c
  refine c.mono ?_
  rintro e w4 ⟨aX, nX, cX, aY, nY, cY, rfl, _, _, hb4⟩
  have l4 := (al w3 (.cells #[.int .u32 (100 : Nat)] 36)).trans (hb4.mono (by simp))
  have B4 := B3.trans (l4.mono B3.size)
  have hA4 := hA3.below l4
  have hQ4 := hQ3.below l4
  have hR4 := hR3.below l4
  clear c l4 B3 hA3 hQ3 hR3 hb4
  go_wp2_with fail
  obtain ⟨l1, l2, l3⟩ := lit11 w4 12 18 (by decide) (by decide)
  have c := Gcd_any _ l1 l2
  rw [ex_gcd] at c
  refine c.mono ?_
  rintro e w5 ⟨aD, nD, cD, rfl, hD5, hb5⟩
  have l4 := l3.trans (hb5.mono l3.size)
  have B5 := B4.trans (l4.mono B4.size)
  have hA5 := hA4.below l4
  have hQ5 := hQ4.below l4
  have hR5 := hR4.below l4
  clear c l1 l2 l3 l4 B4 hA4 hQ4 hR4 hb5
  go_wp2_with fail
  have c := Read_any w5 [48, 48, 55] (by decide) (by decide)
  rw [ex_read1] at c
  refine c.mono ?_
  rintro e w6 ⟨a6, n6, c6, rfl, _, hb6⟩
  clear c
  go_wp2_with fail
  have c := Read_any w6 [45, 49] (by decide) (by decide)
  rw [ex_read2] at c
  refine c.mono ?_
  rintro e w7 ⟨a7, n7, c7, rfl, _, hb7⟩
  clear c
  go_wp2_with fail
  have c := Read_any w7 [] (by decide) (by decide)
  rw [ex_read3] at c
  refine c.mono ?_
  rintro e w8 ⟨a8, n8, c8, rfl, _, hb8⟩
  clear c
  go_wp2_with fail
  have c := Read_any w8 [49, 56, 52, 52, 54, 55, 52, 52, 48, 54, 57, 52, 49, 52, 53, 56, 52, 51, 50, 48] (by decide) (by decide)
  rw [ex_read4] at c
  refine c.mono ?_
  rintro e w9 ⟨aB, nB, cB, rfl, hB9, hb9⟩
  have l4 : Below w5.heap.size w5 w9 := ((hb6.trans (hb7.mono hb6.size)).trans (hb8.mono (hb6.trans (hb7.mono hb6.size)).size)).trans (hb9.mono ((hb6.trans (hb7.mono hb6.size)).trans (hb8.mono (hb6.trans (hb7.mono hb6.size)).size)).size)
  have B9 := B5.trans (l4.mono B5.size)
  have hA9 := hA5.below l4
  have hQ9 := hQ5.below l4
  have hR9 := hR5.below l4
  have hD9 := hD5.below l4
  clear c l4 B5 hA5 hQ5 hR5 hD5 hb6 hb7 hb8 hb9
  go_wp2_with fail
  obtain ⟨l1, l2, l3⟩ := lit11 w9 1 2 (by decide) (by decide)
  have c := Sub_any _ l1 l2
  rw [ex_sub] at c
  refine c.mono ?_
  rintro e w10 ⟨a10, n10, c10, rfl, _, hb10⟩
  have l4 := l3.trans (hb10.mono l3.size)
  have B10 := B9.trans (l4.mono B9.size)
  have hA10 := hA9.below l4
  have hQ10 := hQ9.below l4
  have hR10 := hR9.below l4
  have hD10 := hD9.below l4
  have hB10 := hB9.below l4
  clear c l1 l2 l3 l4 B9 hA9 hQ9 hR9 hD9 hB9 hb10
  go_wp2_with fail
  have c := Text_any _ (Rd.nil .u32 w10)
  rw [ex_text0] at c
  refine c.mono ?_
  rintro e w11 ⟨rfl, l4⟩
  have B11 := B10.trans (l4.mono B10.size)
  have hA11 := hA10.below l4
  have hQ11 := hQ10.below l4
  have hR11 := hR10.below l4
  have hD11 := hD10.below l4
  have hB11 := hB10.below l4
  clear c l4 B10 hA10 hQ10 hR10 hD10 hB10
  go_wp2_with fail
  have c := Word_any _ hA11
  rw [ex_word] at c
  refine c.mono ?_
  rintro e w12 ⟨rfl, rfl⟩
  clear c
  go_wp2_with fail
  have hl := lit2 w11 0 4294967295 (by decide) (by decide)
  have c := refSame_any _ (hA11.below (al w11 _)) hl
  rw [show sameN [0, 4294967295] [0, 4294967295] = true from by decide] at c
  refine c.mono ?_
  rintro e w12 ⟨rfl, nq, rfl⟩
  have l4 := below_drewN (al w11 (.cells #[.int .u32 (0 : Nat), .int .u32 (4294967295 : Nat)] 36)) nq
  have B12 := B11.trans (l4.mono B11.size)
  have hA12 := hA11.below l4
  have hQ12 := hQ11.below l4
  have hR12 := hR11.below l4
  have hD12 := hD11.below l4
  have hB12 := hB11.below l4
  clear c l4 hl B11 hA11 hQ11 hR11 hD11 hB11
  generalize ((w11.alloc (.cells #[.int .u32 (0 : Nat), .int .u32 (4294967295 : Nat)] 36)).drewN nq) = w12 at *
  have hstr : strB [49, 56, 52, 52, 54, 55, 52, 52, 48, 54, 57, 52, 49, 52, 53, 56, 52, 51, 50, 48] = ⟨#[49, 56, 52, 52, 54, 55, 52, 52, 48, 54, 57, 52, 49, 52, 53, 56, 52, 51, 50, 48]⟩ := rfl
  have hstr0 : strB [48] = ⟨#[48]⟩ := rfl
  go_wp2_with fail
  have hl := lit1 w12 14 (by decide)
  have c := refSame_any _ (hQ12.below (al w12 _)) hl
  rw [show sameN [14] [14] = true from by decide] at c
  refine c.mono ?_
  rintro e w13 ⟨rfl, nq, rfl⟩
  have l4 := below_drewN (al w12 (.cells #[.int .u32 (14 : Nat)] 36)) nq
  have B13 := B12.trans (l4.mono B12.size)
  have hA13 := hA12.below l4
  have hR13 := hR12.below l4
  have hD13 := hD12.below l4
  have hB13 := hB12.below l4
  clear c l4 hl B12 hD12 hA12 hQ12 hB12 hR12
  generalize ((w12.alloc (.cells #[.int .u32 (14 : Nat)] 36)).drewN nq) = w13 at *
  go_wp2_with fail
  have hl := lit1 w13 2 (by decide)
  have c := refSame_any _ (hR13.below (al w13 _)) hl
  rw [show sameN [2] [2] = true from by decide] at c
  refine c.mono ?_
  rintro e w14 ⟨rfl, nq, rfl⟩
  have l4 := below_drewN (al w13 (.cells #[.int .u32 (2 : Nat)] 36)) nq
  have B14 := B13.trans (l4.mono B13.size)
  have hA14 := hA13.below l4
  have hD14 := hD13.below l4
  have hB14 := hB13.below l4
  clear c l4 hl B13 hD13 hB13 hR13 hA13
  generalize ((w13.alloc (.cells #[.int .u32 (2 : Nat)] 36)).drewN nq) = w14 at *
  go_wp2_with fail
  have hl := lit1 w14 6 (by decide)
  have c := refSame_any _ (hD14.below (al w14 _)) hl
  rw [show sameN [6] [6] = true from by decide] at c
  refine c.mono ?_
  rintro e w15 ⟨rfl, nq, rfl⟩
  have l4 := below_drewN (al w14 (.cells #[.int .u32 (6 : Nat)] 36)) nq
  have B15 := B14.trans (l4.mono B14.size)
  have hA15 := hA14.below l4
  have hB15 := hB14.below l4
  clear c l4 hl B14 hD14 hB14 hA14
  generalize ((w14.alloc (.cells #[.int .u32 (6 : Nat)] 36)).drewN nq) = w15 at *
  go_wp2_with fail
  have c := Same_any _ hA15 hB15
  rw [show sameN [0, 4294967295] [0, 4294967295] = true from by decide] at c
  refine c.mono ?_
  rintro e w16 ⟨rfl, nq, rfl⟩
  have B16 := B15.trans (below_drewN (Below.refl w15.heap.size w15) nq |>.mono B15.size)
  clear c B15 hA15 hB15
  generalize w15.drewN nq = w16 at *
  go_wp2_with fail
  have c := Check_any _ (lit1 w16 0 (by decide))
  rw [ex_chk0] at c
  refine c.mono ?_
  rintro e w17 ⟨rfl, rfl⟩
  have B17 := B16.trans ((al w16 (.cells #[.int .u32 (0 : Nat)] 36)).mono B16.size)
  clear c B16
  generalize w16.alloc (.cells #[.int .u32 (0 : Nat)] 36) = w17 at *
  have mk : ∀ w, (Instr.makeSlice 22 (.int .i64 97) (.int .i64 97)).run Try.prog w = .ok (.slice (some ⟨w.heap.size, 0, none⟩) 97 97) (w.alloc (.cells (zeros .u32 97) 36)) := fun w => run_zeros etN 97 (by decide) (by decide) w
  go_wp2_with fail
  have c := Check_any _ (rd_zeros .u32 w17 36 97 (by decide))
  rw [ex_chk97] at c
  refine c.mono ?_
  rintro e w18 ⟨rfl, rfl⟩
  go_wp2_with fail
  go_ret
  exact ⟨rfl, B17.alloc B17.size _⟩
end Go.Proofs.Ytnjhmaeialnfiaa
