/- The walk of the law OctetNames: it returns true and turns nothing that was there. No condition. -/
import Derived.Test.YtihjopclaihccaaOctetG
import Derived.Deep.RegionWith
namespace Go.Proofs.Ytihjopclaihccaa
open Go.RowKit Go.Suf

/-- New bytes and an error, and nothing that lay in w has turned. -/
def RetBF (w : World) (r : List Nat × Int) : Ending → World → Prop := fun e w' =>
  ∃ a n cap, e = .returned (.tuple #[.slice a n cap, .int .i64 r.2]) ∧ r.1.length = n ∧ Below w.heap.size w w'

/-- Two rows of zeros joined. -/
theorem join_two (w0 w : World) (p q i j S : Nat) (r : List Nat × Int) (hb : Below w0.heap.size w0 w) (hp : Rd .u8 w (some ⟨i, 0, none⟩) p p (zs p)) (hq : Rd .u8 w (some ⟨j, 0, none⟩) q q (zs q)) (hpl : p ≤ 1099511627776) (hql : q ≤ 1099511627776) (hr : joinX [] [zs p, zs q] = r) (hS : w.heap.size = S) :
    Calls Try.prog 23 #[.slice (some ⟨S, 0, none⟩) 2 2] (w.alloc (.cells #[.slice (some ⟨i, 0, none⟩) p p, .slice (some ⟨j, 0, none⟩) q q] 22)).drew (RetBF w0 r) := by
  subst hS
  subst hr
  have l := rdl_lit w [((some ⟨i, 0, none⟩, p, p), zs p), ((some ⟨j, 0, none⟩, q, q), zs q)] 2 rfl (by decide) (fun x hx => by
    simp only [List.mem_cons, List.not_mem_nil, or_false] at hx
    rcases hx with rfl | rfl
    · exact hp
    · exact hq)
  have hd := (Below.refl (w.alloc (.cells #[.slice (some ⟨i, 0, none⟩) p p, .slice (some ⟨j, 0, none⟩) q q] 22)).heap.size (w.alloc (.cells #[.slice (some ⟨i, 0, none⟩) p p, .slice (some ⟨j, 0, none⟩) q q] 22))).drew
  refine (Join_any _ (l.below hd) (fun xs hxs => ?_)).mono ?_
  · simp only [List.map_cons, List.map_nil, List.mem_cons, List.not_mem_nil, or_false] at hxs
    rcases hxs with rfl | rfl
    · rw [zs_length]; exact hpl
    · rw [zs_length]; exact hql
  · rintro e w' ⟨a, n, c, rfl, ho, hb'⟩
    refine ⟨a, n, c, rfl, ho.len, ?_⟩
    have h1 : Below w.heap.size w (w.alloc (.cells #[.slice (some ⟨i, 0, none⟩) p p, .slice (some ⟨j, 0, none⟩) q q] 22)).drew := ((Below.refl _ w).alloc (Nat.le_refl _) _).drew
    exact hb.trans ((h1.trans (hb'.mono h1.size)).mono hb.size)

set_option maxRecDepth 100000 in
set_option maxHeartbeats 4000000 in
theorem octetNames_walk (w : World) :
    Calls Try.prog 9 #[] w fun e w' => e = .returned (.bool true) ∧ Below w.heap.size w w' := by
  have P1 : Hid (putX [] 256 1 = ([], 2)) := Lib.hid (by decide)
  have P2 : Hid (putX [] 0 9 = ([], 2)) := Lib.hid (by decide)
  have P3 : Hid (putX (zs 16383) 0 2 = ([], 4)) := Lib.hid (by unfold putX; rw [if_pos (by decide), if_pos (by rw [zs_length]; decide)])
  have P4 : Hid (putX (zs 16383) 1 1 = (zs 16383 ++ [1], 0)) := Lib.hid (by unfold putX; rw [if_pos (by decide), if_neg (by rw [zs_length]; decide)]; rfl)
  have P5 : Hid (putX [] 18446744073709551615 8 = ([255, 255, 255, 255, 255, 255, 255, 255], 0)) := Lib.hid (by decide)
  have P6 : Hid (takeX [1, 2] 1 2 = (0, 0, 10)) := Lib.hid (by decide)
  have P7 : Hid (takeX [1, 2] 3 1 = (0, 0, 2)) := Lib.hid (by decide)
  have P8 : Hid (takeX [1, 2, 3] 1 2 = (515, 3, 0)) := Lib.hid (by decide)
  have P9 : Hid (splitX [0, 2, 1] = ([], 10)) := Lib.hid (by decide)
  have P10 : Hid (splitX [] = ([], 0)) := Lib.hid (by decide)
  have m1 : ∀ w, (Instr.makeSlice 22 (.int .i64 16383) (.int .i64 16383)).run Try.prog w = .ok (.slice (some ⟨w.heap.size, 0, none⟩) 16383 16383) (w.alloc (.cells (zeros .u8 16383) 5)) := fun w => run_zeros etB 16383 (by decide) (by decide) w
  have m2 : ∀ w, (Instr.makeSlice 22 (.int .i64 9000) (.int .i64 9000)).run Try.prog w = .ok (.slice (some ⟨w.heap.size, 0, none⟩) 9000 9000) (w.alloc (.cells (zeros .u8 9000) 5)) := fun w => run_zeros etB 9000 (by decide) (by decide) w
  have m3 : ∀ w, (Instr.makeSlice 22 (.int .i64 7381) (.int .i64 7381)).run Try.prog w = .ok (.slice (some ⟨w.heap.size, 0, none⟩) 7381 7381) (w.alloc (.cells (zeros .u8 7381) 5)) := fun w => run_zeros etB 7381 (by decide) (by decide) w
  have m4 : ∀ w, (Instr.makeSlice 22 (.int .i64 7380) (.int .i64 7380)).run Try.prog w = .ok (.slice (some ⟨w.heap.size, 0, none⟩) 7380 7380) (w.alloc (.cells (zeros .u8 7380) 5)) := fun w => run_zeros etB 7380 (by decide) (by decide) w
  have P11 : Hid (joinX [] [zs 9000, zs 7381] = ([], 4)) := Lib.hid (by rw [joinX_eq _ _ (Nat.zero_le _), if_neg (by simp only [sumF, List.map_cons, List.map_nil, List.sum_cons, List.sum_nil, zs_length, List.length_nil]; decide)])
  have P12 : Hid (joinX [] [zs 9000, zs 7380] = ([zs 9000, zs 7380].flatMap field, 0)) := Lib.hid (by rw [joinX_eq _ _ (Nat.zero_le _), if_pos (by simp only [sumF, List.map_cons, List.map_nil, List.sum_cons, List.sum_nil, zs_length, List.length_nil]; decide)]; rfl)
  have HM : Hid ((18446744073709551615 : Nat) < 18446744073709551616) := Lib.hid (by decide)
  go_enter Try.func9, Try.ntmps9
  go_wp2_with fail
  have c := Put_any w (Rd.nil .u8 _) 256 (by omega) 1 (by omega) (by omega) (by omega)
  rw [P1.out] at c
  refine c.mono ?_
  clear c P1
  rintro e w1 ⟨a1, n1, c1, rfl, ho1, hb1⟩
  have z1 := hb1.size
  go_wp2_with fail
  have c := Put_any w1 (Rd.nil .u8 _) 0 (by omega) 9 (by omega) (by omega) (by omega)
  rw [P2.out] at c
  refine c.mono ?_
  clear c P2
  rintro e w2 ⟨a2, n2, c2, rfl, ho2, hb2⟩
  have b2 := hb1.trans (hb2.mono z1)
  have z2 := b2.size
  clear hb1 hb2 z1
  go_wp2_with fail
  have c := Put_any _ (rd_zeros .u8 w2 5 16383 (by decide)) 0 (by omega) 2 (by omega) (by omega) (by omega)
  rw [P3.out] at c
  refine c.mono ?_
  clear c P3
  rintro e w3 ⟨a3, n3, c3, rfl, ho3, hb3⟩
  have b3 := b2.trans ((((Below.refl _ w2).alloc (Nat.le_refl _) _).mono z2).trans (hb3.mono (by simp; omega)))
  have z3 := b3.size
  clear hb3 b2 z2
  go_wp2_with fail
  have c := Put_any _ (rd_zeros .u8 w3 5 16383 (by decide)) 1 (by omega) 1 (by omega) (by omega) (by omega)
  rw [P4.out] at c
  refine c.mono ?_
  clear c P4
  rintro e w4 ⟨a4, n4, c4, rfl, ho4, hb4⟩
  have b4 := b3.trans ((((Below.refl _ w3).alloc (Nat.le_refl _) _).mono z3).trans (hb4.mono (by simp; omega)))
  have z4 := b4.size
  clear hb4 b3 z3
  go_wp2_with fail
  have c := Put_any w4 (Rd.nil .u8 _) 18446744073709551615 HM.out 8 (by omega) (by omega) (by omega)
  rw [P5.out] at c
  refine c.mono ?_
  clear c P5
  rintro e w5 ⟨a5, n5, c5, rfl, ho5, hb5⟩
  have b5 := b4.trans (hb5.mono z4)
  have z5 := b5.size
  clear hb5 b4 z4
  go_wp2_with fail
  have c := Take_any _ (rd_lit .u8 w5 [1, 2] 5 2 rfl (by decide) (by decide)) 1 2 (by omega) (by omega) (by omega) (by omega)
  rw [P6.out] at c
  refine c.mono ?_
  clear c P6
  rintro e w6 ⟨rfl, hw6⟩
  have b6 := b5.trans (((Below.refl _ w5).alloc (Nat.le_refl _) (.cells (nums .u8 [1, 2]).toArray 5)).mono z5)
  rw [hw6] at b6
  have z6 := b6.size
  clear hw6 b5 z5
  go_wp2_with fail
  have c := Take_any _ (rd_lit .u8 w6 [1, 2] 5 2 rfl (by decide) (by decide)) 3 1 (by omega) (by omega) (by omega) (by omega)
  rw [P7.out] at c
  refine c.mono ?_
  clear c P7
  rintro e w7 ⟨rfl, hw7⟩
  have b7 := b6.trans (((Below.refl _ w6).alloc (Nat.le_refl _) (.cells (nums .u8 [1, 2]).toArray 5)).mono z6)
  rw [hw7] at b7
  have z7 := b7.size
  clear hw7 b6 z6
  go_wp2_with fail
  have c := Take_any _ (rd_lit .u8 w7 [1, 2, 3] 5 3 rfl (by decide) (by decide)) 1 2 (by omega) (by omega) (by omega) (by omega)
  rw [P8.out] at c
  refine c.mono ?_
  clear c P8
  rintro e w8 ⟨rfl, hw8⟩
  have b8 := b7.trans (((Below.refl _ w7).alloc (Nat.le_refl _) (.cells (nums .u8 [1, 2, 3]).toArray 5)).mono z7)
  rw [hw8] at b8
  have z8 := b8.size
  clear hw8 b7 z7
  go_wp2_with fail
  have c := Split_any _ (rd_lit .u8 w8 [0, 2, 1] 5 3 rfl (by decide) (by decide)) (by omega)
  rw [P9.out] at c
  refine c.mono ?_
  clear c P9
  rintro e w9 ⟨a9, n9, c9, rfl, ho9, hb9⟩
  have b9 := b8.trans ((((Below.refl _ w8).alloc (Nat.le_refl _) _).mono z8).trans (hb9.mono (by simp; omega)))
  have z9 := b9.size
  clear hb9 b8 z8
  go_wp2_with fail
  have c := Split_any w9 (Rd.nil .u8 _) (by omega)
  rw [P10.out] at c
  refine c.mono ?_
  clear c P10
  rintro e w10 ⟨a10, n10, c10, rfl, ho10, hb10⟩
  have b10 := b9.trans (hb10.mono z9)
  have z10 := b10.size
  clear hb10 b9 z9
  go_wp2_with fail
  obtain rfl : n4 = 16384 := by rw [← ho4.len]; simp only [List.length_append, zs_length]; rfl
  obtain rfl : n5 = 8 := by rw [← ho5.len]; rfl
  obtain rfl : n10 = 0 := by rw [← ho10.len]; rfl
  clear ho1 ho2 ho3 ho4 ho5 ho9 ho10 m1
  have JA := join_two w10 ((w10.alloc (.cells (zeros .u8 9000) 5)).alloc (.cells (zeros .u8 7381) 5)) 9000 7381 w10.heap.size (w10.heap.size + 1) (w10.heap.size + 1 + 1) ([], 4) (((Below.refl _ w10).alloc (Nat.le_refl _) _).alloc (by simp) _) ((rd_zeros .u8 w10 5 9000 (by decide)).below ((Below.refl _ _).alloc (Nat.le_refl _) _)) (by have := rd_zeros .u8 (w10.alloc (.cells (zeros .u8 9000) 5)) 5 7381 (by decide); rw [World.size_alloc] at this; exact this) (by omega) (by omega) P11.out (by simp)
  have JB := join_two w10 ((w10.alloc (.cells (zeros .u8 7381) 5)).alloc (.cells (zeros .u8 9000) 5)) 9000 7381 (w10.heap.size + 1) w10.heap.size (w10.heap.size + 1 + 1) ([], 4) (((Below.refl _ w10).alloc (Nat.le_refl _) _).alloc (by simp) _) (by have := rd_zeros .u8 (w10.alloc (.cells (zeros .u8 7381) 5)) 5 9000 (by decide); rw [World.size_alloc] at this; exact this) ((rd_zeros .u8 w10 5 7381 (by decide)).below ((Below.refl _ _).alloc (Nat.le_refl _) _)) (by omega) (by omega) P11.out (by simp)
  have KA := Lib.hid JA
  have KB := Lib.hid JB
  clear JA JB
  go_region_with (go_at_call 23; first | ((with_reducible refine KA.out.mono ?_); rintro e w11 ⟨a11, n11, c11, rfl, hn11, hb11⟩) | ((with_reducible refine KB.out.mono ?_); rintro e w11 ⟨a11, n11, c11, rfl, hn11, hb11⟩))
  all_goals
    have b11 := b10.trans (hb11.mono z10)
    have z11 := b11.size
    clear hb11 hn11 KA KB
    have JA := join_two w11 ((w11.alloc (.cells (zeros .u8 9000) 5)).alloc (.cells (zeros .u8 7380) 5)) 9000 7380 w11.heap.size (w11.heap.size + 1) (w11.heap.size + 1 + 1) ([zs 9000, zs 7380].flatMap field, 0) (((Below.refl _ w11).alloc (Nat.le_refl _) _).alloc (by simp) _) ((rd_zeros .u8 w11 5 9000 (by decide)).below ((Below.refl _ _).alloc (Nat.le_refl _) _)) (by have := rd_zeros .u8 (w11.alloc (.cells (zeros .u8 9000) 5)) 5 7380 (by decide); rw [World.size_alloc] at this; exact this) (by omega) (by omega) P12.out (by simp)
    have JB := join_two w11 ((w11.alloc (.cells (zeros .u8 7380) 5)).alloc (.cells (zeros .u8 9000) 5)) 9000 7380 (w11.heap.size + 1) w11.heap.size (w11.heap.size + 1 + 1) ([zs 9000, zs 7380].flatMap field, 0) (((Below.refl _ w11).alloc (Nat.le_refl _) _).alloc (by simp) _) (by have := rd_zeros .u8 (w11.alloc (.cells (zeros .u8 7380) 5)) 5 9000 (by decide); rw [World.size_alloc] at this; exact this) ((rd_zeros .u8 w11 5 7380 (by decide)).below ((Below.refl _ _).alloc (Nat.le_refl _) _)) (by omega) (by omega) P12.out (by simp)
    have KA := Lib.hid JA
    have KB := Lib.hid JB
    clear JA JB
    go_wp2_with fail
    go_region_with (go_at_call 23; first | ((with_reducible refine KA.out.mono ?_); rintro e w12 ⟨a12, n12, c12, rfl, hn12, hb12⟩) | ((with_reducible refine KB.out.mono ?_); rintro e w12 ⟨a12, n12, c12, rfl, hn12, hb12⟩))
    all_goals
      have b12 := b11.trans (hb12.mono z11)
      obtain rfl : n12 = 16384 := by rw [← hn12]; simp only [List.flatMap_cons, List.flatMap_nil, List.length_append, field_length, zs_length, List.length_nil]
      clear hb12 hn12 KA KB
      go_wp2_with fail
      refine (alive_any _).mono ?_
      rintro e w13 ⟨rfl, hb13⟩
      have b13 := b12.trans (hb13.mono b12.size)
      go_wp2
      go_ret
      exact ⟨rfl, b13⟩
end Go.Proofs.Ytihjopclaihccaa
