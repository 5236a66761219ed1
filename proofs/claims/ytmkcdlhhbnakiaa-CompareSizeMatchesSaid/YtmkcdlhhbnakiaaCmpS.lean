/- Observing one overstatement: all of them. -/
import Derived.Test.YtmkcdlhhbnakiaaCmpD0
import Derived.Test.YtmkcdlhhbnakiaaCmpD1
import Derived.Test.YtmkcdlhhbnakiaaCmpD2
import Derived.Test.YtmkcdlhhbnakiaaCmpD3
import Derived.Test.YtmkcdlhhbnakiaaCmpD4
import Derived.Test.YtmkcdlhhbnakiaaCmpL
namespace Go.Proofs.Ytmkcdlhhbnakiaa
open Go.RowKit Go.Suf
set_option linter.unusedVariables false
set_option linter.unusedSimpArgs false

set_option maxRecDepth 100000 in
set_option maxHeartbeats 2000000 in
theorem see_any (wb w : World) {q : CV} {a b : Option Addr} {n m c d k L B : Nat} (R : PRow 66 wb w k (cmC q a n c b m d)) (ra : Rd .u32 w a n c (limbs L)) (rb : Rd .u32 w b m d (limbs B)) (vld' : VldC q L B) (x : Int) :
    Calls Try.prog 42 #[.pointer (some ⟨k, 0, none⟩), .int .i64 x] w (RetSee wb k q x) := by
  by_cases hx : -2 ≤ x ∧ x ≤ 2
  case neg =>
    have e := Lib.hid (show obs1C q x = none from obs1C_out (by omega))
    have cc := within_any w x (-2) 2
    rw [decide_eq_false hx] at cc
    clear hx
    go_enter Try.func42, Try.ntmps42
    go_wp2_with fail
    refine cc.mono ?_
    rintro e1 w9 ⟨rfl, rfl⟩
    clear cc
    go_wp2_with fail
    go_ret
    exact .inl ⟨e.out, rfl, R.below⟩
  case pos =>
  have five : x = -2 ∨ x = -1 ∨ x = 0 ∨ x = 1 ∨ x = 2 := by omega
  clear hx
  rcases five with rfl | rfl | rfl | rfl | rfl
  · exact see0_any wb w R ra rb vld'
  · exact see1_any wb w R ra rb vld'
  · exact see2_any wb w R ra rb vld'
  · exact see3_any wb w R ra rb vld'
  · exact see4_any wb w R ra rb vld'

end Go.Proofs.Ytmkcdlhhbnakiaa
/- SampleSize of comparison audits. -/
namespace Go.Proofs.Ytmkcdlhhbnakiaa
open Go.RowKit Go.Suf
set_option linter.unusedVariables false
set_option linter.unusedSimpArgs false

/-- The states of the search, opaque. -/
theorem see_parts {bet ballots margin : Int} (hb : mayC bet ballots margin) : ∃ (st : Nat → CV) (lv : Nat → Nat), newCC bet ballots margin = (st 0, 0) ∧ (∀ k, k ≤ 1000000 → VldC (st k) (lv k) (lv k)) ∧ (∀ k, stepC (st k) 0 = st (k + 1)) ∧ (∀ k, k < 1000000 → obs1C (st k) 0 = some (stepC (st k) 0)) ∧ (∀ k, (st k).lev = limbs (lv k) ∧ (st k).best = limbs (lv k)) ∧ (∀ k, lv k ≤ mostN) ∧ lv = levC (c0 bet ballots margin) :=
  ⟨cN bet ballots margin, levC (c0 bet ballots margin), newCC_yes hb, fun k hk => cN_vld hb hk, fun k => cN_step hb k, fun k hk => by rw [cN_obs hb hk, cN_step hb k], fun k => ⟨by unfold cN c0; with_reducible rfl, by unfold cN c0; with_reducible rfl⟩, levC_le _, rfl⟩

set_option maxRecDepth 100000 in
set_option maxHeartbeats 4000000 in
theorem cmSampleSize_any (w : World) (bet ballots margin : Int) {g : Bool} {a b : Option Addr} {n m c d : Nat} {xs ys : List Nat} (h1 : Rd .u32 w a n c xs) (h2 : Rd .u32 w b m d ys) :
    Calls Try.prog 13 #[.int .i64 bet, .int .i64 ballots, .int .i64 margin, ratV g a n c b m d] w (RetIEB w (sizeCC bet ballots margin ⟨g, xs, ys⟩)) := by
  obtain ⟨r, hr⟩ : ∃ r, r = sizeCC bet ballots margin ⟨g, xs, ys⟩ := ⟨_, rfl⟩
  rw [← hr]
  have L1 := Has.new w #[.bool g, .slice a n c, .slice b m d] 34
  by_cases hb : mayC bet ballots margin
  case neg =>
    have e := Lib.hid (show r = (0, 2) by rw [hr]; exact sizeCC_bet hb)
    have N := Lib.hid (newCC_no hb)
    clear hr hb
    go_enter Try.func13, Try.ntmps13
    go_wp2_with fail
    have cc := cmNew_any (w.alloc (.cells #[.bool g, .slice a n c, .slice b m d] 34)) bet ballots margin
    rw [N.out] at cc
    refine cc.mono ?_
    rintro e1 w1 ⟨a1, n1, c1, b1, m1, d1, rfl, x1, x2, hb⟩
    clear cc
    have L1 := L1.later hb
    go_wp2_with (refine wpList_store_new rfl 25 _ _ rfl atCmp _ _ _ rfl rfl rfl rfl (cm_one zeroCV _ _ _ _ _ _) ?_)
    go_ret2
    exact ⟨by rw [e.out]; rfl, L1.below.trans ((below_al w1 _).mono L1.below.size)⟩
  case pos =>
  obtain ⟨st, lv, pN, pV, pX, pO, pB, pE, pS⟩ := see_parts hb
  obtain ⟨q, hq⟩ : ∃ q, q = st 0 := ⟨_, rfl⟩
  rw [← hq] at pN
  have HQ := Lib.hid hq
  have N := Lib.hid pN
  have VV := Lib.hid pV
  have PX := Lib.hid pX
  have PO := Lib.hid pO
  have PB := Lib.hid pB
  have PE := Lib.hid pE
  clear pN pV pX pO pB pE hq
  by_cases hl : limC ⟨g, xs, ys⟩ = 0
  case neg =>
    obtain ⟨s, hs⟩ : ∃ s, s = limC ⟨g, xs, ys⟩ := ⟨_, rfl⟩
    have e := Lib.hid (show r = (0, s) by rw [hr, hs]; exact sizeCC_lim hb hl)
    have HS := Lib.hid hs
    rw [← hs] at hl
    have d1 : (s != 0) = true := by rw [bne_iff_ne]; exact hl
    clear hr hb hl hs
    go_enter Try.func13, Try.ntmps13
    go_wp2_with fail
    have cc := cmNew_any (w.alloc (.cells #[.bool g, .slice a n c, .slice b m d] 34)) bet ballots margin
    rw [N.out] at cc
    refine cc.mono ?_
    rintro e1 w1 ⟨a1, n1, c1, b1, m1, d1, rfl, x1, x2, hb⟩
    clear cc
    have L1 := (L1.later hb).later (below_al w1 (.cells (cmC q a1 n1 c1 b1 m1 d1) 25))
    have k0 := L1.cell 0 _ rfl
    have k1 := L1.cell 1 _ rfl
    have k2 := L1.cell 2 _ rfl
    clear hb
    go_wp2_with (refine wpList_store_new rfl 25 _ _ rfl atCmp _ _ _ rfl rfl rfl rfl (cm_one q _ _ _ _ _ _) ?_)
    have cc := checkLimit_any (g := g) _ (h1.below L1.below) (h2.below L1.below)
    rw [← HS.out] at cc
    refine cc.mono ?_
    rintro e1 w2 ⟨rfl, hb⟩
    clear cc
    go_wp2_with fail
    go_ret2
    exact ⟨by rw [e.out]; rfl, L1.below.trans (hb.mono L1.below.size)⟩
  case pos =>
  obtain ⟨N0, D0, LM⟩ := limC_get (x := ⟨g, xs, ys⟩) h1.bd h2.bd hl
  have exs : xs = limbs N0 := LM.num
  have eys : ys = limbs D0 := LM.den
  obtain ⟨sk, sE, s0, sY, sN⟩ := seek_parts pS N0 D0
  have HR := Lib.hid (show r = sk 4097 0 by rw [sE]; rw [hr, sizeCC_ok hb hl]; show seekC (c0 bet ballots margin) (val xs) (val ys) 4097 0 = seekC (c0 bet ballots margin) N0 D0 4097 0; rw [exs, eys, val_limbs, val_limbs])
  have LT := Lib.hid (show N0 < 18446744073709551616 ∧ D0 < 18446744073709551616 from ⟨Nat.lt_of_le_of_lt LM.le LM.lt, LM.lt⟩)
  have SZ := Lib.hid s0
  have SY := Lib.hid sY
  have SN := Lib.hid sN
  have SU := Lib.hid (fun k => (show sureC (limbs (lv k)) xs ys = sureN (lv k) N0 D0 by rw [exs, eys]; exact sureC_ok (PE.out k) LT.out.1 LT.out.2))
  have C2 := Lib.hid hl
  clear hr hb hl LM exs eys sE s0 sY sN pS
  go_enter Try.func13, Try.ntmps13
  go_wp2_with fail
  have cc := cmNew_any (w.alloc (.cells #[.bool g, .slice a n c, .slice b m d] 34)) bet ballots margin
  rw [N.out] at cc
  refine cc.mono ?_
  rintro e1 w1 ⟨a1, n1, c1, b1, m1, d1, rfl, x1, x2, hb⟩
  clear cc
  have hA := below_al w1 (.cells (cmC q a1 n1 c1 b1 m1 d1) 25)
  have L2 := (L1.later hb).later hA
  have RG := (PRow.new 25 w1 (cmC q a1 n1 c1 b1 m1 d1)).rebase (w1 := w.alloc (.cells #[.bool g, .slice a n c, .slice b m d] 34)) (hb.trans (hA.mono hb.size)) hb.size
  have x1 := x1.below hA
  have x2 := x2.below hA
  have k0 := L2.cell 0 _ rfl
  have k1 := L2.cell 1 _ rfl
  have k2 := L2.cell 2 _ rfl
  clear hb hA
  go_wp2_with (refine wpList_store_new rfl 25 _ _ rfl atCmp _ _ _ rfl rfl rfl rfl (cm_one q _ _ _ _ _ _) ?_)
  have cc := checkLimit_any (g := g) _ (h1.below L2.below) (h2.below L2.below)
  rw [C2.out] at cc
  refine cc.mono ?_
  rintro e1 w2 ⟨rfl, hb⟩
  clear cc k0 k1 k2
  have RG := RG.later hb
  have x1 := x1.below hb
  have x2 := x2.below hb
  have k0 := RG.cell 0 _ rfl
  have k1 := RG.cell 1 _ rfl
  have k2 := RG.cell 2 _ rfl
  have k3 := RG.cell 3 _ rfl
  have k4 := RG.cell 4 _ rfl
  have k5 := RG.cell 5 _ rfl
  have k6 := RG.cell 6 _ rfl
  have k7 := RG.cell 7 _ rfl
  have k8 := RG.cell 8 _ rfl
  have k9 := RG.cell 9 _ rfl
  have L2 := L2.later hb
  have RN := PRow.new 66 w2 (cmC q a1 n1 c1 b1 m1 d1)
  have x1 := x1.below RN.below
  have x2 := x2.below RN.below
  have x1 : Rd .u32 (w2.alloc (.cells (cmC q a1 n1 c1 b1 m1 d1) 66)) a1 n1 c1 (limbs (lv 0)) := by rw [← (PB.out 0).1, ← HQ.out]; exact x1
  have x2 : Rd .u32 (w2.alloc (.cells (cmC q a1 n1 c1 b1 m1 d1) 66)) b1 m1 d1 (limbs (lv 0)) := by rw [← (PB.out 0).2, ← HQ.out]; exact x2
  have RN : PRow 66 w2 (w2.alloc (.cells (cmC q a1 n1 c1 b1 m1 d1) 66)) w2.heap.size (cmC (st 0) a1 n1 c1 b1 m1 d1) := by rw [← HQ.out]; exact RN
  clear hb RG
  go_wp2_with fail
  clear k0 k1 k2 k3 k4 k5 k6 k7 k8 k9
  have START0 : ∃ (a : Option Addr) (n c : Nat) (b : Option Addr) (m d : Nat), PRow 66 w2 (w2.alloc (.cells (cmC q a1 n1 c1 b1 m1 d1) 66)) w2.heap.size (cmC (st 0) a n c b m d) ∧ Rd .u32 (w2.alloc (.cells (cmC q a1 n1 c1 b1 m1 d1) 66)) a n c (limbs (lv 0)) ∧ Rd .u32 (w2.alloc (.cells (cmC q a1 n1 c1 b1 m1 d1) 66)) b m d (limbs (lv 0)) := ⟨a1, n1, c1, b1, m1, d1, RN, x1, x2⟩
  clear RN x1 x2
  go_loopw [33] (fun i wr => ∃ (k : Nat) (a : Option Addr) (n c : Nat) (b : Option Addr) (m d : Nat), k ≤ 4097 ∧ i = .int .i64 (k : Nat) ∧ PRow 66 w2 wr w2.heap.size (cmC (st k) a n c b m d) ∧ Rd .u32 wr a n c (limbs (lv k)) ∧ Rd .u32 wr b m d (limbs (lv k)) ∧ Hid (r = sk (4097 - k) k)) (fun i _ => 4097 - (intOf i).toNat)
  case atStart =>
    obtain ⟨a, n, c, b, m, d, p1, p2, p3⟩ := START0
    exact ⟨0, a, n, c, b, m, d, Nat.zero_le _, rfl, p1, p2, p3, HR⟩
  case round =>
    obtain ⟨k, a3, n3, c3, b3, m3, d3, hk, rfl, RK, z1, z2, HK⟩ := hrel
    clear START0
    have LK := L2.later RK.below
    by_cases hlt : k < 4097
    · obtain ⟨f, hf⟩ : ∃ f, 4097 - k = f + 1 := ⟨4096 - k, by omega⟩
      have HF := Lib.hid hf
      have HLT := Lib.hid hlt
      clear hf
      obtain ⟨t, ht⟩ : ∃ t, t = sureN (lv k) N0 D0 := ⟨_, rfl⟩
      have HT := Lib.hid ht
      clear ht
      go_upto_region 11 with fail
      have hb := (Below.refl wr.heap.size wr).drew
      have RK := RK.later hb
      have LK := LK.later hb
      have z1 := z1.below hb
      have z2 := z2.below hb
      clear hb
      refine wp_region_held_drew (S := (fun w' => w'.cell? ⟨w2.heap.size, 9, none⟩ = some (.slice b3 m3 d3) ∧ w'.cell? ⟨w.heap.size, 0, none⟩ = some (.bool g) ∧ w'.cell? ⟨w.heap.size, 1, none⟩ = some (.slice a n c) ∧ w'.cell? ⟨w.heap.size, 2, none⟩ = some (.slice b m d))) (by kernel_rfl) ?_ (fun hHeld => ?_)
      · exact ⟨RK.cell 9 _ rfl, LK.cell 0 _ rfl, LK.cell 1 _ rfl, LK.cell 2 _ rfl⟩
      generalize wr.drew = w3 at *
      refine wpAnyH_take (i := 0) (oi := ?a2_0) (v := ?b2_0) ?c2_0 (by kernel_rfl) (by kernel_rfl) (by kernel_rfl) ?d2_0 ?e2_0 (by assumption) ?f2_0
      case c2_0 => simp only [tA, tS, tZ]; rfl
      case d2_0 => exact fun _ _ _ h => h
      case e2_0 => (refine Or.inl ⟨by rfl, ?_⟩; intro w h; (try dsimp only at h); go_simp; all_goals with_reducible rfl)
      try simp only [Act.put, tI, tP, tQ]
      refine wpAnyH_take (i := 1) (oi := ?a2_1) (v := ?b2_1) ?c2_1 (by kernel_rfl) (by kernel_rfl) (by kernel_rfl) ?d2_1 ?e2_1 (by assumption) ?f2_1
      case c2_1 => simp only [tA, tS, tZ]; rfl
      case d2_1 => exact fun _ _ _ h => h
      case e2_1 => (refine Or.inl ⟨by rfl, ?_⟩; intro w h; (try dsimp only at h); go_simp; all_goals with_reducible rfl)
      try simp only [Act.put, tI, tP, tQ]
      refine wpAnyH_take (i := 2) (oi := ?a2_2) (v := ?b2_2) ?c2_2 (by kernel_rfl) (by kernel_rfl) (by kernel_rfl) ?d2_2 ?e2_2 (by assumption) ?f2_2
      case c2_2 => simp only [tA, tS, tZ]; rfl
      case d2_2 => exact fun _ _ _ h => h
      case e2_2 => (refine Or.inl ⟨by rfl, ?_⟩; intro w h; (try dsimp only at h); go_simp; all_goals with_reducible rfl)
      try simp only [Act.put, tI, tP, tQ]
      refine wpAnyH_take (i := 3) (oi := ?a2_3) (v := ?b2_3) ?c2_3 (by kernel_rfl) (by kernel_rfl) (by kernel_rfl) ?d2_3 ?e2_3 (by assumption) ?f2_3
      case c2_3 => simp only [tA, tS, tZ]; rfl
      case d2_3 => exact fun _ _ _ h => h
      case e2_3 => (refine Or.inl ⟨by rfl, ?_⟩; intro w h; (try dsimp only at h); go_simp; all_goals with_reducible rfl)
      try simp only [Act.put, tI, tP, tQ]
      refine wpAnyH_take (i := 4) (oi := ?a2_4) (v := ?b2_4) ?c2_4 (by kernel_rfl) (by kernel_rfl) (by kernel_rfl) ?d2_4 ?e2_4 (by assumption) ?f2_4
      case c2_4 => simp only [tA, tS, tZ]; rfl
      case d2_4 => exact fun _ _ _ h => h
      case e2_4 => (refine Or.inl ⟨by rfl, ?_⟩; intro w h; (try dsimp only at h); go_simp; all_goals with_reducible rfl)
      try simp only [Act.put, tI, tP, tQ]
      refine wpAnyH_take (i := 5) (oi := ?a2_5) (v := ?b2_5) ?c2_5 (by kernel_rfl) (by kernel_rfl) (by kernel_rfl) ?d2_5 ?e2_5 (by assumption) ?f2_5
      case c2_5 => simp only [tA, tS, tZ]; rfl
      case d2_5 => exact fun _ _ _ h => h
      case e2_5 => (refine Or.inl ⟨by rfl, ?_⟩; intro w h; (try dsimp only at h); go_simp; all_goals with_reducible rfl)
      try simp only [Act.put, tI, tP, tQ]
      refine wpAnyH_ready (rs := [6]) (by kernel_rfl) (by simp) ?_
      refine AllReadyH.cons (o := ?or1_6) ?hor1_6 (fun K hK => ?kr1_6) AllReadyH.nil
      case hor1_6 => simp only [List.getElem?_toArray, List.getElem?_cons_succ, List.getElem?_cons_zero]; rfl
      go_simp
      have cc := cmSure_any (g := g) w3 z2 (h1.below LK.below) (h2.below LK.below)
      rw [SU.out, ← HT.out] at cc
      refine cc.mono ?_
      rintro e1 w4 ⟨rfl, hb⟩
      clear cc
      have RK := RK.later hb
      have LK := LK.later hb
      have z1 := z1.below hb
      have z2 := z2.below hb
      clear hb

      go_wp2_with fail
      refine hK.out _ _ ?_ (fun hHeld => ?_)
      · exact ⟨RK.cell 9 _ rfl, LK.cell 0 _ rfl, LK.cell 1 _ rfl, LK.cell 2 _ rfl⟩
      clear hK K
      try simp only [Act.put, List.setIfInBounds_toArray, List.set_cons_zero, List.set_cons_succ]
      refine wpAnyH_done (by kernel_rfl) ?_ _
      clear hHeld
      cases t
      · have HN := Lib.hid (show r = sk (4097 - (k + 1)) (k + 1) by
          rw [HK.out, HF.out, SN.out f k (by rw [← HT.out]; simp), show f = 4097 - (k + 1) by have := HF.out; omega])
        go_wp2_with fail
        have cc := see_any w2 w4 RK z1 z2 (VV.out k (by have := HLT.out; omega)) 0
        refine cc.mono ?_
        rintro e1 w5 hs
        clear cc z1 z2 RK
        rcases hs with ⟨o, -, -⟩ | ⟨a4, n4, c4, b4, m4, d4, -, rfl, R4, y1, y2⟩
        · rw [PO.out k (by have := HLT.out; omega)] at o
          exact absurd o (by simp)
        rw [PX.out k] at R4 y1 y2
        rw [(PB.out (k + 1)).1] at y1
        rw [(PB.out (k + 1)).2] at y2
        go_wp2_with fail
        go_roundw
        case rel => exact ⟨k + 1, a4, n4, c4, b4, m4, d4, by have := HLT.out; omega, by go_num, R4, y1, y2, HN⟩
        case measure => simp [intOf]; have := HLT.out; omega
      · have e := Lib.hid (show r = ((k : Int), 0) by rw [HK.out, HF.out, SY.out _ _ HT.out.symm])
        go_wp2_with fail
        go_ret2
        exact ⟨by rw [e.out]; rfl, LK.below⟩
    · obtain rfl : k = 4097 := by omega
      have e := Lib.hid (show r = (0, 6) by rw [HK.out]; exact SZ.out _)
      go_wp2_with fail
      go_ret2
      exact ⟨by rw [e.out]; rfl, LK.below⟩

end Go.Proofs.Ytmkcdlhhbnakiaa
