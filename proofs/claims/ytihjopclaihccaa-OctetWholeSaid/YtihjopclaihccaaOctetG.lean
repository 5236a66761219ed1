/- The chapter's examples (alive): they hold. No condition. -/
import Derived.Test.YtihjopclaihccaaOctetF
namespace Go.Proofs.Ytihjopclaihccaa
open Go.RowKit Go.Suf

/-- A literal of byte slices. -/
theorem rdl_lit (w : World) (l : List ((Option Addr × Nat × Nat) × List Nat)) (n : Nat) (hn : l.length = n) (hm : n ≤ maxLen) (h : ∀ p ∈ l, Rd .u8 w p.1.1 p.1.2.1 p.1.2.2 p.2) :
    RdL (w.alloc (.cells (l.map fun p => Value.slice p.1.1 p.1.2.1 p.1.2.2).toArray 22)) (some ⟨w.heap.size, 0, none⟩) n n (l.map (·.2)) := by
  subst hn
  refine ⟨by simp, l.map fun p => Value.slice p.1.1 p.1.2.1 p.1.2.2, by simp, ?_, fun i hi => ?_⟩
  · have := sl_lit w (l.map fun p => Value.slice p.1.1 p.1.2.1 p.1.2.2) 22 (fun u hu => by rw [List.mem_map] at hu; obtain ⟨p, _, rfl⟩ := hu; rfl) (by simpa using hm)
    simpa using this
  · refine ⟨l[i].1.1, l[i].1.2.1, l[i].1.2.2, by simp [hi], ?_⟩
    have := (h l[i] (List.getElem_mem _)).below ((Below.refl _ w).alloc (Nat.le_refl _) (.cells (l.map fun p => Value.slice p.1.1 p.1.2.1 p.1.2.2).toArray 22))
    simpa [lth, hi] using this

set_option maxHeartbeats 400000 in
theorem alive_any (w : World) : Calls Try.prog 26 #[] w fun e w' => e = .returned (.bool true) ∧ Below w.heap.size w w' := by
  have p1 : putX [7] 258 2 = ([7, 1, 2], 0) := by decide
  have p2 : putFieldX [] [5, 6] = ([0, 2, 5, 6], 0) := by decide
  have p3 : splitX [0, 1, 9, 0, 0] = ([[9], []], 0) := by decide
  have P1 := Lib.hid p1
  have P2 := Lib.hid p2
  have P3 := Lib.hid p3
  clear p1 p2 p3
  go_enter Try.func26, Try.ntmps26
  go_wp2_with fail
  have c1 := Put_any _ (rd_lit .u8 w [7] 5 1 rfl (by decide) (by decide)) 258 (by omega) 2 (by omega) (by omega) (by omega)
  rw [P1.out] at c1
  refine c1.mono ?_
  clear c1
  rintro e w1 ⟨a1, n1, k1, rfl, ho1, hb1⟩
  have b1 : Below w.heap.size w w1 := ((Below.refl _ w).alloc (Nat.le_refl _) _).trans (hb1.mono (by simp))
  have z1 := b1.size
  clear hb1
  go_wp2_with fail
  have c2 := PutField_any _ (Rd.nil .u8 _) (rd_lit .u8 w1 [5, 6] 5 2 rfl (by decide) (by decide)) (by omega) (by omega)
  rw [P2.out] at c2
  refine c2.mono ?_
  clear c2
  rintro e w2 ⟨a2, n2, k2, rfl, ho2, hb2⟩
  have b2 : Below w1.heap.size w1 w2 := ((Below.refl _ w1).alloc (Nat.le_refl _) _).trans (hb2.mono (by simp))
  have z2 := b2.size
  clear hb2
  go_wp2_with fail
  have c3 := Split_any _ (rd_lit .u8 w2 [0, 1, 9, 0, 0] 5 5 rfl (by decide) (by decide)) (by omega)
  rw [P3.out] at c3
  refine c3.mono ?_
  clear c3
  rintro e w3 ⟨a3, n3, k3, rfl, ho3, hb3⟩
  have b3 : Below w2.heap.size w2 w3 := ((Below.refl _ w2).alloc (Nat.le_refl _) _).trans (hb3.mono (by simp))
  have z3 := b3.size
  clear hb3
  have v1 := convB ((ho1.rd.below b2).below b3)
  have v2 := convB (ho2.rd.below b3)
  have t1 : (strB [7, 1, 2]).toList = [7, 1, 2] := by rw [ByteArray.toList_eq]; rfl
  have t2 : (strB [0, 2, 5, 6]).toList = [0, 2, 5, 6] := by rw [ByteArray.toList_eq]; rfl
  go_wp2_with fail
  have r1 := (rd_lit .u8 w3 [9] 5 1 rfl (by decide) (by decide)).below ((Below.refl _ _).alloc (Nat.le_refl _) (.cells #[] 5))
  have r2 := rd_lit .u8 (w3.alloc (.cells (nums .u8 [9]).toArray 5)) [] 5 0 rfl (by decide) (by decide)
  rw [World.size_alloc] at r2
  have q := rdl_lit ((w3.alloc (.cells #[.int .u8 9] 5)).alloc (.cells #[] 5)) [((some ⟨w3.heap.size, 0, none⟩, 1, 1), [9]), ((some ⟨w3.heap.size + 1, 0, none⟩, 0, 0), [])] 2 rfl (by decide) (fun p hp => by
    simp only [List.mem_cons, List.not_mem_nil, or_false] at hp
    rcases hp with rfl | rfl
    · exact r1
    · exact r2)
  have b4 : Below w3.heap.size w3 (((w3.alloc (.cells #[.int .u8 9] 5)).alloc (.cells #[] 5)).alloc (.cells #[.slice (some ⟨w3.heap.size, 0, none⟩) 1 1, .slice (some ⟨w3.heap.size + 1, 0, none⟩) 0 0] 22)) :=
    (((Below.refl _ w3).alloc (Nat.le_refl _) _).alloc (by simp) _).alloc (by simp; omega) _
  rw [World.size_alloc, World.size_alloc] at q
  have q' : RdL (((w3.alloc (.cells #[.int .u8 9] 5)).alloc (.cells #[] 5)).alloc (.cells #[.slice (some ⟨w3.heap.size, 0, none⟩) 1 1, .slice (some ⟨w3.heap.size + 1, 0, none⟩) 0 0] 22)) (some ⟨w3.heap.size + 1 + 1, 0, none⟩) 2 2 [[9], []] := q
  clear q
  have c4 := same_any _ (ho3.rd.below b4) q'
  have e4 : sameL [[9], []] [[9], []] = true := by decide
  rw [e4] at c4
  refine c4.mono ?_
  clear c4 r1 r2 q' v1 v2
  rintro e w' ⟨rfl, nq, rfl⟩
  go_wp2
  go_ret
  exact ⟨rfl, below_drewN ((b1.trans (b2.mono z1)).trans ((b3.mono (by omega)).trans (b4.mono (by omega)))) _⟩
end Go.Proofs.Ytihjopclaihccaa
