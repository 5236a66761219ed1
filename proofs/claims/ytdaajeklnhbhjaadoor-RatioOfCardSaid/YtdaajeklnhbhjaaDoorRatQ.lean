/- Rational numbers: the reference's Add, Sub, Mul, Div. No condition. Printed by gen_ratq.py. -/
import Derived.Test.YtdaajeklnhbhjaaDoorRatP
import Derived.Test.YtdaajeklnhbhjaaDoorRatK
import Derived.Test.YtdaajeklnhbhjaaDoorRatD
namespace Go.Proofs.YtdaajeklnhbhjaaDoor
open Go.RowKit Go.Suf
set_option linter.unusedVariables false
set_option linter.unusedSimpArgs false

theorem laid_three (w : World) (x y z : Array Value) :
    Has w (((w.alloc (.cells x 24)).alloc (.cells y 24)).alloc (.cells z 24)) w.heap.size x ∧
    Has w (((w.alloc (.cells x 24)).alloc (.cells y 24)).alloc (.cells z 24)) (w.heap.size + 1) y ∧
    Row w (((w.alloc (.cells x 24)).alloc (.cells y 24)).alloc (.cells z 24)) (w.heap.size + 1 + 1) z := by
  obtain ⟨h1, h2⟩ := two_boxes w x y
  have s2 : ((w.alloc (.cells x 24)).alloc (.cells y 24)).heap.size = w.heap.size + 1 + 1 := by rw [World.size_alloc, World.size_alloc]
  have h3 := Row.new ((w.alloc (.cells x 24)).alloc (.cells y 24)) z
  have hb := below_al ((w.alloc (.cells x 24)).alloc (.cells y 24)) (.cells z 24)
  rw [s2] at h3
  have h4 := h1.later hb
  exact ⟨h4, h2.later hb, h4.below, h3.row, by omega, h3.lt⟩

theorem addV_sum {x y : QV} (s1 : small32 x.num) (s2 : small32 x.den) (s3 : small32 y.num) (s4 : small32 y.den) (cx : chkV x = 0) (cy : chkV y = 0) : addV x y = sumV x.neg y.neg (val x.num) (val x.den) (val y.num) (val y.den) := by
  obtain ⟨p, e1, f1⟩ := chkV_get s1 s2 cx
  obtain ⟨q, e2, f2⟩ := chkV_get s3 s4 cy
  rw [addV, bothV, if_pos ⟨cx, cy⟩, e1, e2, toQ_ofQ, toQ_ofQ, ← sumV_eq]
  simp only [ofQ, val_limbs]

theorem mulV_prod {x y : QV} (s1 : small32 x.num) (s2 : small32 x.den) (s3 : small32 y.num) (s4 : small32 y.den) (cx : chkV x = 0) (cy : chkV y = 0) : mulV x y = prodV x.neg y.neg (val x.num) (val x.den) (val y.num) (val y.den) := by
  obtain ⟨p, e1, f1⟩ := chkV_get s1 s2 cx
  obtain ⟨q, e2, f2⟩ := chkV_get s3 s4 cy
  rw [mulV, bothV, if_pos ⟨cx, cy⟩, e1, e2, toQ_ofQ, toQ_ofQ, ← prodV_eq]
  simp only [ofQ, val_limbs]

theorem divV_quo {x y : QV} (s1 : small32 x.num) (s2 : small32 x.den) (s3 : small32 y.num) (s4 : small32 y.den) (cx : chkV x = 0) (cy : chkV y = 0) : divV x y = quoV x.neg y.neg (val x.num) (val x.den) (val y.num) (val y.den) := by
  obtain ⟨p, e1, f1⟩ := chkV_get s1 s2 cx
  obtain ⟨q, e2, f2⟩ := chkV_get s3 s4 cy
  rw [divV, bothV, if_pos ⟨cx, cy⟩, e1, e2, toQ_ofQ, toQ_ofQ, ← quoV_eq]
  simp only [ofQ, val_limbs]

theorem turn_ofQ (q : Rat) : turnV (ofQ q) = ofQ (-q) := by
  rw [ofQ_neg]
  exact turn_limbs _ _ _

theorem subV_add {x y : QV} (s3 : small32 y.num) (s4 : small32 y.den) (cy : chkV y = 0) : subV x y = addV x (turnV y) := by
  obtain ⟨q, e2, f2⟩ := chkV_get s3 s4 cy
  rw [subV, addV, e2, turn_ofQ]
  unfold bothV
  rw [toQ_ofQ, toQ_ofQ]
  have c1 := chkV_ofQ f2
  have c2 := chkV_ofQ (fitQ_neg f2)
  rw [c1, c2]

end Go.Proofs.YtdaajeklnhbhjaaDoor
/- Rational numbers: Same, and Text of both. No condition. Printed by gen_ratr.py. -/
namespace Go.Proofs.YtdaajeklnhbhjaaDoor
open Go.RowKit Go.Suf
set_option linter.unusedVariables false
set_option linter.unusedSimpArgs false

set_option maxHeartbeats 1000000 in
theorem ratSame_any (w : World) {g1 g2 : Bool} {a b a' b' : Option Addr} {n m c d n' m' c' d' : Nat} {xs ys xs' ys' : List Nat}
    (h1 : Rd .u32 w a n c xs) (h2 : Rd .u32 w b m d ys) (h3 : Rd .u32 w a' n' c' xs') (h4 : Rd .u32 w b' m' d' ys') :
    Calls Tryd.prog 21 #[ratV g1 a n c b m d, ratV g2 a' n' c' b' m' d'] w (RetBB w (sameV ⟨g1, xs, ys⟩ ⟨g2, xs', ys'⟩)) := by
  obtain ⟨r, hr⟩ : ∃ r, r = sameV ⟨g1, xs, ys⟩ ⟨g2, xs', ys'⟩ := ⟨_, rfl⟩
  rw [← hr]
  obtain ⟨L1, L2⟩ := two_boxes w #[.bool g1, .slice a n c, .slice b m d] #[.bool g2, .slice a' n' c', .slice b' m' d']
  have k0 := L1.cell 0 _ rfl
  have k1 := L1.cell 1 _ rfl
  have k3 := L2.cell 0 _ rfl
  have k4 := L2.cell 1 _ rfl
  by_cases hg : g1 = g2
  · subst hg
    have q1 : (g1 == g1) = true := by simp
    cases hs : sameN xs xs' with
    | false =>
      have e := Lib.hid (show r = false by rw [hr, sameV]; simp [hs])
      have HS := Lib.hid hs
      clear hr hs
      go_enter Tryd.func21, Tryd.ntmps21
      go_wp2_with fail
      have cc := Same_any _ (h1.below L1.below) (h3.below L1.below)
      rw [HS.out] at cc
      refine cc.mono ?_
      rintro e1 w4 ⟨rfl, nq, rfl⟩
      clear cc
      go_wp2_with fail
      go_ret
      exact ⟨by rw [e.out]; rfl, below_drewN L1.below nq⟩
    | true =>
      have e := Lib.hid (show r = sameN ys ys' by rw [hr, sameV]; simp [hs])
      have HS := Lib.hid hs
      clear hr hs
      go_enter Tryd.func21, Tryd.ntmps21
      go_wp2_with fail
      have cc := Same_any _ (h1.below L1.below) (h3.below L1.below)
      rw [HS.out] at cc
      refine cc.mono ?_
      rintro e1 w4 ⟨rfl, nq, rfl⟩
      clear cc
      have hd := fun (W : World) => below_drewN (Below.refl W.heap.size W) nq
      have L3 := L1.later (hd _)
      have L4 := L2.later (hd _)
      have k2 := L3.cell 2 _ rfl
      have k5 := L4.cell 2 _ rfl
      clear k0 k1 k3 k4
      go_wp2_with fail
      have cc := Same_any _ (h2.below L3.below) (h4.below L3.below)
      rw [← e.out] at cc
      refine cc.mono ?_
      rintro e1 w4 ⟨rfl, mq, rfl⟩
      clear cc
      go_wp2_with fail
      go_ret
      exact ⟨rfl, below_drewN L1.below _⟩
  · have q1 : (g1 == g2) = false := by rw [beq_eq_false_iff_ne]; exact hg
    have e := Lib.hid (show r = false by rw [hr, sameV]; simp [q1])
    clear hr hg
    go_enter Tryd.func21, Tryd.ntmps21
    go_wp2_with fail
    go_ret
    exact ⟨by rw [e.out]; rfl, L1.below⟩

def signB (g : Bool) : List Nat := if g = true then [45] else []
def textV (x : QV) : List Nat × Int := if chkV x = 0 then (signB x.neg ++ textN (val x.num) ++ (if textN (val x.den) = [49] then [] else 47 :: textN (val x.den)), 0) else ([], 8)

theorem str_ne {ds : List Nat} (h : ∀ x ∈ ds, x < 256) : ((strB ds).toList == [49]) = decide (ds = [49]) := by
  rw [strB_toList]
  by_cases e : ds = [49]
  · subst e; rfl
  · rw [decide_eq_false e]
    rw [beq_eq_false_iff_ne]
    intro h2
    exact e (strB_inj h (by simp) (by unfold strB; rw [h2]; rfl))

theorem strB_one45 : (⟨#[45]⟩ : ByteArray) = strB [45] := rfl
theorem strB_one47 : (⟨#[47]⟩ : ByteArray) = strB [47] := rfl
set_option maxRecDepth 100000 in
set_option maxHeartbeats 2000000 in
theorem ratText_any (w : World) {g : Bool} {a b : Option Addr} {n m c d : Nat} {xs ys : List Nat} (h1 : Rd .u32 w a n c xs) (h2 : Rd .u32 w b m d ys) :
    Calls Tryd.prog 17 #[ratV g a n c b m d] w (RetSE w (textV ⟨g, xs, ys⟩)) := by
  obtain ⟨r, hr⟩ : ∃ r, r = textV ⟨g, xs, ys⟩ := ⟨_, rfl⟩
  rw [← hr]
  by_cases hc : chkV ⟨g, xs, ys⟩ = 0
  case neg =>
    have hres := Lib.hid (show r = ([], 8) by rw [hr, textV, if_neg hc])
    have C := Lib.hid ((chkV_two _).resolve_left hc)
    clear hr hc
    have h_x_0 := Has.new w #[.bool g, .slice a n c, .slice b m d] 24
    have B0 := h_x_0.below
    have h_xn_0 := h1.below h_x_0.below
    have h_xd_0 := h2.below h_x_0.below
    have k0 := h_x_0.cell 0 _ rfl
    have k1 := h_x_0.cell 1 _ rfl
    have k2 := h_x_0.cell 2 _ rfl
    go_enter Tryd.func17, Tryd.ntmps17
    go_wp2_with fail
    clear k0 k1 k2
    generalize w.alloc (.cells #[.bool g, .slice a n c, .slice b m d] 24) = w0 at *
    have c := ratCheck_any (neg := g) w0 h_xn_0 h_xd_0
    rw [C.out] at c
    refine c.mono ?_
    rintro e w1 ⟨rfl, hb⟩
    clear c
    have B1 := B0.trans (hb.mono B0.size)
    have h_xn_1 := h_xn_0.below hb
    have h_xd_1 := h_xd_0.below hb
    have h_x_1 := h_x_0.later hb
    clear hb B0 h_xn_0 h_xd_0 h_x_0
    go_wp2_with fail
    go_ret2
    rw [hres.out]
    exact ⟨rfl, B1⟩
  rw [textV, if_pos hc] at hr
  obtain ⟨e1, e2, l1, l2, z1, -, -⟩ := chkV_parts (x := ⟨g, xs, ys⟩) h1.bd h2.bd hc
  dsimp only at hr e1 e2 l1 l2 z1
  have C := Lib.hid hc
  clear hc
  obtain ⟨ts, hts⟩ : ∃ t, t = textN (val xs) := ⟨_, rfl⟩
  obtain ⟨ds, hds⟩ : ∃ t, t = textN (val ys) := ⟨_, rfl⟩
  have T1 := Lib.hid (show textC xs = (ts, 0) by rw [e1, text_ok l1, ← hts])
  have T2 := Lib.hid (show textC ys = (ds, 0) by rw [e2, text_ok l2, ← hds])
  have db : ∀ x ∈ ds, x < 256 := by rw [hds]; exact textN_bd _
  have dq := str_ne db
  have y1 : (strB ts).size = ts.length := strB_size ts
  have y2 : (strB ds).size = ds.length := strB_size ds
  have y3 : (⟨#[45]⟩ ++ strB ts : ByteArray).size = 1 + ts.length := by rw [strB_one45, strB_append, strB_size]; simp; omega
  have y4 : (⟨#[47]⟩ ++ strB ds : ByteArray).size = 1 + ds.length := by rw [strB_one47, strB_append, strB_size]; simp; omega
  have y5 : (strB ts ++ ⟨#[47]⟩ : ByteArray).size = ts.length + 1 := by rw [strB_one47, strB_append, strB_size]; simp
  have y6 : (⟨#[45]⟩ ++ strB ts ++ ⟨#[47]⟩ : ByteArray).size = 1 + ts.length + 1 := by rw [strB_one45, strB_one47, strB_append, strB_append, strB_size]; simp; omega
  have b1 : ts.length ≤ 960 := by rw [hts]; exact textN_len l1
  have b2 : ds.length ≤ 960 := by rw [hds]; exact textN_len l2
  rw [← hts, ← hds] at hr
  clear hts hds e1 e2 z1 db
  cases g
  case true =>
    by_cases ho : ds = [49]
    case pos =>
      have d1 : ((strB ds).toList == [49]) = true := by rw [dq]; exact decide_eq_true ho
      have hres := Lib.hid (show r = ([45] ++ ts, 0) by rw [hr, if_pos ho]; simp [signB])
      clear hr ho dq
      have h_x_0 := Has.new w #[.bool true, .slice a n c, .slice b m d] 24
      have B0 := h_x_0.below
      have h_xn_0 := h1.below h_x_0.below
      have h_xd_0 := h2.below h_x_0.below
      have k0 := h_x_0.cell 0 _ rfl
      have k1 := h_x_0.cell 1 _ rfl
      have k2 := h_x_0.cell 2 _ rfl
      go_enter Tryd.func17, Tryd.ntmps17
      go_wp2_with fail
      clear k0 k1 k2
      generalize w.alloc (.cells #[.bool true, .slice a n c, .slice b m d] 24) = w0 at *
      have c := ratCheck_any (neg := true) w0 h_xn_0 h_xd_0
      rw [C.out] at c
      refine c.mono ?_
      rintro e w1 ⟨rfl, hb⟩
      clear c
      have B1 := B0.trans (hb.mono B0.size)
      have h_xn_1 := h_xn_0.below hb
      have h_xd_1 := h_xd_0.below hb
      have h_x_1 := h_x_0.later hb
      clear hb B0 h_xn_0 h_xd_0 h_x_0
      have k_x_1 := h_x_1.cell 1 _ rfl
      go_wp2_with fail
      clear k_x_1
      have c := Text_any w1 h_xn_1
      rw [T1.out] at c
      refine c.mono ?_
      rintro e w2 ⟨rfl, hb⟩
      clear c
      have B2 := B1.trans (hb.mono B1.size)
      have h_xn_2 := h_xn_1.below hb
      have h_xd_2 := h_xd_1.below hb
      have h_x_2 := h_x_1.later hb
      clear hb B1 h_xn_1 h_xd_1 h_x_1
      have k_x_0 := h_x_2.cell 0 _ rfl
      have k_x_1 := h_x_2.cell 1 _ rfl
      have k_x_2 := h_x_2.cell 2 _ rfl
      go_wp2_with fail
      clear k_x_0 k_x_1 k_x_2
      have c := Text_any w2 h_xd_2
      rw [T2.out] at c
      refine c.mono ?_
      rintro e w3 ⟨rfl, hb⟩
      clear c
      have B3 := B2.trans (hb.mono B2.size)
      have h_xn_3 := h_xn_2.below hb
      have h_xd_3 := h_xd_2.below hb
      have h_x_3 := h_x_2.later hb
      clear hb B2 h_xn_2 h_xd_2 h_x_2
      go_wp2_with fail
      go_ret2
      rw [hres.out]
      exact ⟨by first | rfl | (simp only [strB_one45, strB_one47, strB_append, List.cons_append, List.nil_append, List.append_assoc]; rfl), B3⟩
    have d1 : ((strB ds).toList == [49]) = false := by rw [dq]; exact decide_eq_false ho
    have hres := Lib.hid (show r = ([45] ++ ts ++ 47 :: ds, 0) by rw [hr, if_neg ho]; simp [signB])
    clear hr ho dq
    have h_x_0 := Has.new w #[.bool true, .slice a n c, .slice b m d] 24
    have B0 := h_x_0.below
    have h_xn_0 := h1.below h_x_0.below
    have h_xd_0 := h2.below h_x_0.below
    have k0 := h_x_0.cell 0 _ rfl
    have k1 := h_x_0.cell 1 _ rfl
    have k2 := h_x_0.cell 2 _ rfl
    go_enter Tryd.func17, Tryd.ntmps17
    go_wp2_with fail
    clear k0 k1 k2
    generalize w.alloc (.cells #[.bool true, .slice a n c, .slice b m d] 24) = w0 at *
    have c := ratCheck_any (neg := true) w0 h_xn_0 h_xd_0
    rw [C.out] at c
    refine c.mono ?_
    rintro e w1 ⟨rfl, hb⟩
    clear c
    have B1 := B0.trans (hb.mono B0.size)
    have h_xn_1 := h_xn_0.below hb
    have h_xd_1 := h_xd_0.below hb
    have h_x_1 := h_x_0.later hb
    clear hb B0 h_xn_0 h_xd_0 h_x_0
    have k_x_1 := h_x_1.cell 1 _ rfl
    go_wp2_with fail
    clear k_x_1
    have c := Text_any w1 h_xn_1
    rw [T1.out] at c
    refine c.mono ?_
    rintro e w2 ⟨rfl, hb⟩
    clear c
    have B2 := B1.trans (hb.mono B1.size)
    have h_xn_2 := h_xn_1.below hb
    have h_xd_2 := h_xd_1.below hb
    have h_x_2 := h_x_1.later hb
    clear hb B1 h_xn_1 h_xd_1 h_x_1
    have k_x_0 := h_x_2.cell 0 _ rfl
    have k_x_1 := h_x_2.cell 1 _ rfl
    have k_x_2 := h_x_2.cell 2 _ rfl
    go_wp2_with fail
    clear k_x_0 k_x_1 k_x_2
    have c := Text_any w2 h_xd_2
    rw [T2.out] at c
    refine c.mono ?_
    rintro e w3 ⟨rfl, hb⟩
    clear c
    have B3 := B2.trans (hb.mono B2.size)
    have h_xn_3 := h_xn_2.below hb
    have h_xd_3 := h_xd_2.below hb
    have h_x_3 := h_x_2.later hb
    clear hb B2 h_xn_2 h_xd_2 h_x_2
    go_wp2_with fail
    go_ret2
    rw [hres.out]
    exact ⟨by first | rfl | (simp only [strB_one45, strB_one47, strB_append, List.cons_append, List.nil_append, List.append_assoc]; rfl), B3⟩
  case false =>
    by_cases ho : ds = [49]
    case pos =>
      have d1 : ((strB ds).toList == [49]) = true := by rw [dq]; exact decide_eq_true ho
      have hres := Lib.hid (show r = (ts, 0) by rw [hr, if_pos ho]; simp [signB])
      clear hr ho dq
      have h_x_0 := Has.new w #[.bool false, .slice a n c, .slice b m d] 24
      have B0 := h_x_0.below
      have h_xn_0 := h1.below h_x_0.below
      have h_xd_0 := h2.below h_x_0.below
      have k0 := h_x_0.cell 0 _ rfl
      have k1 := h_x_0.cell 1 _ rfl
      have k2 := h_x_0.cell 2 _ rfl
      go_enter Tryd.func17, Tryd.ntmps17
      go_wp2_with fail
      clear k0 k1 k2
      generalize w.alloc (.cells #[.bool false, .slice a n c, .slice b m d] 24) = w0 at *
      have c := ratCheck_any (neg := false) w0 h_xn_0 h_xd_0
      rw [C.out] at c
      refine c.mono ?_
      rintro e w1 ⟨rfl, hb⟩
      clear c
      have B1 := B0.trans (hb.mono B0.size)
      have h_xn_1 := h_xn_0.below hb
      have h_xd_1 := h_xd_0.below hb
      have h_x_1 := h_x_0.later hb
      clear hb B0 h_xn_0 h_xd_0 h_x_0
      have k_x_1 := h_x_1.cell 1 _ rfl
      go_wp2_with fail
      clear k_x_1
      have c := Text_any w1 h_xn_1
      rw [T1.out] at c
      refine c.mono ?_
      rintro e w2 ⟨rfl, hb⟩
      clear c
      have B2 := B1.trans (hb.mono B1.size)
      have h_xn_2 := h_xn_1.below hb
      have h_xd_2 := h_xd_1.below hb
      have h_x_2 := h_x_1.later hb
      clear hb B1 h_xn_1 h_xd_1 h_x_1
      have k_x_0 := h_x_2.cell 0 _ rfl
      have k_x_1 := h_x_2.cell 1 _ rfl
      have k_x_2 := h_x_2.cell 2 _ rfl
      go_wp2_with fail
      clear k_x_0 k_x_1 k_x_2
      have c := Text_any w2 h_xd_2
      rw [T2.out] at c
      refine c.mono ?_
      rintro e w3 ⟨rfl, hb⟩
      clear c
      have B3 := B2.trans (hb.mono B2.size)
      have h_xn_3 := h_xn_2.below hb
      have h_xd_3 := h_xd_2.below hb
      have h_x_3 := h_x_2.later hb
      clear hb B2 h_xn_2 h_xd_2 h_x_2
      go_wp2_with fail
      go_ret2
      rw [hres.out]
      exact ⟨by first | rfl | (simp only [strB_one45, strB_one47, strB_append, List.cons_append, List.nil_append, List.append_assoc]; rfl), B3⟩
    have d1 : ((strB ds).toList == [49]) = false := by rw [dq]; exact decide_eq_false ho
    have hres := Lib.hid (show r = (ts ++ 47 :: ds, 0) by rw [hr, if_neg ho]; simp [signB])
    clear hr ho dq
    have h_x_0 := Has.new w #[.bool false, .slice a n c, .slice b m d] 24
    have B0 := h_x_0.below
    have h_xn_0 := h1.below h_x_0.below
    have h_xd_0 := h2.below h_x_0.below
    have k0 := h_x_0.cell 0 _ rfl
    have k1 := h_x_0.cell 1 _ rfl
    have k2 := h_x_0.cell 2 _ rfl
    go_enter Tryd.func17, Tryd.ntmps17
    go_wp2_with fail
    clear k0 k1 k2
    generalize w.alloc (.cells #[.bool false, .slice a n c, .slice b m d] 24) = w0 at *
    have c := ratCheck_any (neg := false) w0 h_xn_0 h_xd_0
    rw [C.out] at c
    refine c.mono ?_
    rintro e w1 ⟨rfl, hb⟩
    clear c
    have B1 := B0.trans (hb.mono B0.size)
    have h_xn_1 := h_xn_0.below hb
    have h_xd_1 := h_xd_0.below hb
    have h_x_1 := h_x_0.later hb
    clear hb B0 h_xn_0 h_xd_0 h_x_0
    have k_x_1 := h_x_1.cell 1 _ rfl
    go_wp2_with fail
    clear k_x_1
    have c := Text_any w1 h_xn_1
    rw [T1.out] at c
    refine c.mono ?_
    rintro e w2 ⟨rfl, hb⟩
    clear c
    have B2 := B1.trans (hb.mono B1.size)
    have h_xn_2 := h_xn_1.below hb
    have h_xd_2 := h_xd_1.below hb
    have h_x_2 := h_x_1.later hb
    clear hb B1 h_xn_1 h_xd_1 h_x_1
    have k_x_0 := h_x_2.cell 0 _ rfl
    have k_x_1 := h_x_2.cell 1 _ rfl
    have k_x_2 := h_x_2.cell 2 _ rfl
    go_wp2_with fail
    clear k_x_0 k_x_1 k_x_2
    have c := Text_any w2 h_xd_2
    rw [T2.out] at c
    refine c.mono ?_
    rintro e w3 ⟨rfl, hb⟩
    clear c
    have B3 := B2.trans (hb.mono B2.size)
    have h_xn_3 := h_xn_2.below hb
    have h_xd_3 := h_xd_2.below hb
    have h_x_3 := h_x_2.later hb
    clear hb B2 h_xn_2 h_xd_2 h_x_2
    go_wp2_with fail
    go_ret2
    rw [hres.out]
    exact ⟨by first | rfl | (simp only [strB_one45, strB_one47, strB_append, List.cons_append, List.nil_append, List.append_assoc]; rfl), B3⟩

end Go.Proofs.YtdaajeklnhbhjaaDoor
