/- Records: Twin. Condition: batches of at most 2^40 ballots of at most 2^40 marks. Printed by gen_topu.py. -/
import Derived.Test.YthpjnbnheagpiaaTopS
namespace Go.Proofs.Ythpjnbnheagpiaa
open Go.RowKit Go.Suf
set_option linter.unusedVariables false
set_option linter.unusedSimpArgs false

theorem batQ.below {base : Nat} {Q : Nat → Prop} {w0 w w' : World} {x : CQ} {u v : Value} (h : batQ base Q w0 w x u v) (hb : Below w.heap.size w w') : batQ base Q w0 w' x u v := by
  obtain ⟨h1, a, n, c, h3, h4⟩ := h
  exact ⟨h1, a, n, c, h3, h4.below hb⟩
theorem batQ.keep {base g : Nat} {t : TypeId} {Q : Nat → Prop} {w0 w w' : World} {x : CQ} {u v : Value} {cs : Array Value} (h : batQ base Q w0 w x u v) (hg : w.heap[g]? = some (.cells cs t (0, 0))) (hne : t ≠ 3) (ha : blkV v ≠ some g) (hk : KeepB (some ⟨g, 0, none⟩) w w') : batQ base Q w0 w' x u v := by
  obtain ⟨h1, a, n, c, h3, h4⟩ := h
  subst h3
  refine ⟨h1, a, n, c, rfl, h4.keep hg hne (fun p e1 e2 => ?_) hk⟩
  subst e1
  exact ha (by simp [blkV, e2])
theorem batQ.keepT {base g : Nat} {t : TypeId} {Q : Nat → Prop} {w0 w w' : World} {x : CQ} {u v : Value} {cs : Array Value} (h : batQ base Q w0 w x u v) (hg : w.heap[g]? = some (.cells cs t (0, 0))) (hne : t ≠ 3) (hne2 : t ≠ 37) (hk : KeepB (some ⟨g, 0, none⟩) w w') : batQ base Q w0 w' x u v := by
  obtain ⟨h1, a, n, c, h3, h4⟩ := h
  exact ⟨h1, a, n, c, h3, h4.keepT hg hne hne2 hk⟩
theorem batQ.blk {base b : Nat} {Q : Nat → Prop} {w0 w : World} {x : CQ} {u v : Value} (h : batQ base Q w0 w x u v) (hb : blkV v = some b) : b < w.heap.size := by
  obtain ⟨h1, a, n, c, h3, h4⟩ := h
  subst h3
  cases a with
  | none => simp [blkV] at hb
  | some p =>
    simp [blkV] at hb
    subst hb
    exact (h4.typed p rfl).2.1
theorem apart_zero (ps : List PV) : ApartV ps 0 := fun j k p q b h => absurd h (by omega)
theorem apart_next {base i : Nat} {w0 w w1 : World} {l : List CQ} {qs : List PV} {a : Option Addr} {n c m : Nat} {bs : List BQ} {pv : PV} {Q : Nat → Prop} (hA : ApartV qs i) (hl : l.length = qs.length)
    (hF : ∀ (j : Nat) x q, l[j]? = some x → qs[j]? = some q → j < i → batM base w0 w x q.u q.v) (hv : pv.v = .slice a n c) (ho : OwM m Q w0 w1 a n c bs) (hm : w.heap.size ≤ m) : ApartV (qs.set i pv) (i + 1) := by
  have lo : ∀ (j : Nat) q b, j < i → qs[j]? = some q → blkV q.v = some b → b < w.heap.size := fun j q b h1 h2 h3 => by
    have hj := (List.getElem?_eq_some_iff.1 h2).1
    exact (hF j l[j] q (List.getElem?_eq_getElem (by omega)) h2 h1).blk h3
  have hi : ∀ b, blkV pv.v = some b → m ≤ b := fun b h => by
    rw [hv] at h
    cases a with
    | none => simp [blkV] at h
    | some p =>
      simp [blkV] at h
      subst h
      exact (ho.typed p rfl).1
  intro j k p q b hj hk hne e1 e2 hb hc
  rcases pset_at e1 with ⟨rfl, rfl⟩ | ⟨h1, h2⟩
  · rcases pset_at e2 with ⟨h3, _⟩ | ⟨h3, h4⟩
    · exact hne h3.symm
    · have := lo k q b (by omega) h4 hc
      have := hi b hb
      omega
  · rcases pset_at e2 with ⟨rfl, rfl⟩ | ⟨h3, h4⟩
    · have := lo j p b (by omega) h2 hb
      have := hi b hc
      omega
    · exact hA j k p q b (by omega) (by omega) hne h2 h4 hb hc
theorem keepB_setCell (w : World) (g i : Nat) (v : Value) : KeepB (some ⟨g, 0, none⟩) w (w.setCell ⟨g, i, none⟩ v) := keepB_cell w g i v
set_option maxRecDepth 100000 in
set_option maxHeartbeats 4000000 in
theorem TwinC_any (w : World) {a_l : Option Addr} {n_l c_l : Nat} {l : List CQ} (h_l : RdC w a_l n_l c_l l) (hn : n_l ≤ 1099511627776) (hsm : ∀ x ∈ l, x.bs.length ≤ 1099511627776 ∧ ∀ y ∈ x.bs, y.ms.length ≤ 1099511627776) : Calls Try.prog 28 #[.slice a_l n_l c_l] w (RetTC w n_l l) := by
  have HRW := Lib.hid h_l
  have HL := Lib.hid h_l.len
  have HSM := Lib.hid hsm
  have hn0 := h_l.lt
  clear h_l hsm
  go_enter Try.func28, Try.ntmps28
  go_wp2_with fail
  refine (cloneC_any w HRW.out hn).mono ?_
  rintro e w9 ⟨a9, c9, rfl, h9, B9⟩
  obtain ⟨ps, hps, hF⟩ := ow2_x h9
  have HF := Lib.hid hF
  clear h9 hF
  go_wp2_with fail
  go_loopw [10] (fun jv wr => ∃ (i : Nat) (qs : List PV), i ≤ n_l ∧ jv = .int .i64 (i : Nat) ∧ OwX 79 w.heap.size wr a9 n_l c9 qs ∧ Below w.heap.size w wr ∧ Hid (∀ (j : Nat) x q, l[j]? = some x → qs[j]? = some q → (j < i → batM w.heap.size w wr x q.u q.v) ∧ (i ≤ j → batE w x q.u q.v)) ∧ Hid (ApartV qs i)) (fun jv _ => n_l - (intOf jv).toNat)
  case atStart => exact ⟨0, ps, Nat.zero_le _, rfl, hps, B9, Lib.hid fun j x q h1 h2 => ⟨fun h => absurd h (by omega), fun _ => HF.out j x q h1 h2⟩, Lib.hid (apart_zero ps)⟩
  clear hps B9
  case round =>
    rename World => wr
    obtain ⟨i, qs, hi, rfl, Q, B, hS, hA⟩ := hrel
    by_cases hlt : i < n_l
    case neg =>
      obtain rfl : n_l = i := by omega
      have HFIN := Lib.hid (fun (j : Nat) x q (h1 : l[j]? = some x) (h2 : qs[j]? = some q) => (hS.out j x q h1 h2).1 (by rw [← HL.out]; exact (List.getElem?_eq_some_iff.1 h1).1))
      clear hS
      go_wp2_with fail
      go_ret
      exact ⟨a9, c9, qs, rfl, Q, HFIN.out, hA.out, B⟩
    case pos =>
      obtain ⟨x, hx⟩ : ∃ x, l[i]? = some x := ⟨_, List.getElem?_eq_getElem (by rw [HL.out]; exact hlt)⟩
      obtain ⟨q, hq⟩ : ∃ q, qs[i]? = some q := ⟨_, List.getElem?_eq_getElem (by rw [Q.len]; exact hlt)⟩
      have hpq : pth qs i = q := by simp [pth, hq]
      obtain ⟨e1, a_b, n_b, c_b, e3, h_b⟩ := (hS.out i x q hx hq).2 (Nat.le_refl _)
      obtain ⟨g, cur, rfl, hgb, hg, -, -, -, -⟩ := Q.row (by omega)
      obtain ⟨b, off, e, t0, t1⟩ := Q.rd.cell i hlt
      simp only [Option.some.injEq, Addr.mk.injEq, and_true] at e
      obtain ⟨rfl, rfl⟩ := e
      rw [Nat.zero_add, hpq] at t0 t1
      rw [e3] at t1
      rw [e1] at t0
      have hbn : n_b ≤ 1099511627776 := by rw [← h_b.len]; exact (HSM.out x (List.mem_of_getElem? hx)).1
      have HX := Lib.hid hx
      have HQ := Lib.hid hq
      have HPQ := Lib.hid hpq
      have HE1 := Lib.hid e1
      have HBR := Lib.hid (h_b.below balE_lasts B)
      have HBL := Lib.hid h_b.len
      have HB0 := Lib.hid h_b
      have HG := Lib.hid hg
      clear hx hq hpq e1 e3 h_b hg
      go_wp2_with fail
      refine (cloneQ_any (E := fun _ => balE w) wr (HB0.out.fix B) hbn).mono ?_
      rintro e w5 ⟨a5, c5, rfl, h5, hb⟩
      obtain ⟨rs, hrs, hR⟩ := ow2_x h5
      have Q5 := Q.below hb
      have B5 := B.trans (hb.mono B.size)
      have HG5 := Lib.hid ((hb.block g (Array.getElem?_eq_some_iff.1 HG.out).1).trans HG.out)
      have HOM := Lib.hid (show OwM wr.heap.size (fun m => 0 ≤ m) w w5 a5 n_b c5 x.bs from ⟨HBL.out, rs, hrs, fun j y p h1 h2 => balM.of (hR j y p h1 h2) (Nat.zero_le _)⟩)
      have HWS := Lib.hid B.size
      have HB := Lib.hid hb
      clear h5 hrs hR t0 t1 Q hb
      obtain ⟨b, off, e, t0, t1⟩ := Q5.rd.cell i hlt
      simp only [Option.some.injEq, Addr.mk.injEq, and_true] at e
      obtain ⟨rfl, rfl⟩ := e
      rw [Nat.zero_add, HPQ.out] at t0 t1
      have f1 := Q5.free (i * 2 + 1)
      have Q6 := Q5.setV hlt (x := .slice a5 n_b c5) rfl
      have B6 := B5.setCell (p := ⟨g, i * 2 + 1, none⟩) hgb (.slice a5 n_b c5)
      have hk6 := keepB_cell w5 g (i * 2 + 1) (.slice a5 n_b c5)
      have HOM6 := Lib.hid ((HOM.out.keepT HG5.out (by decide) (by decide) hk6).base_le HWS.out)
      have HS6 : Hid (∀ (j : Nat) y p, l[j]? = some y → (qs.set i ⟨(pth qs i).u, .slice a5 n_b c5, (pth qs i).hu, rfl⟩)[j]? = some p → (j < i → batM w.heap.size w (w5.setCell ⟨g, i * 2 + 1, none⟩ (.slice a5 n_b c5)) y p.u p.v) ∧ (j = i → batQ w.heap.size (fun m => 0 ≤ m) w (w5.setCell ⟨g, i * 2 + 1, none⟩ (.slice a5 n_b c5)) y p.u p.v) ∧ (i + 1 ≤ j → batE w y p.u p.v)) := Lib.hid fun j y p h1 h2 => by
        rcases pset_at h2 with ⟨rfl, rfl⟩ | ⟨h3, h4⟩
        · rw [HX.out] at h1
          cases h1
          refine ⟨fun h => absurd h (by omega), fun _ => ⟨?_, a5, n_b, c5, rfl, HOM6.out⟩, fun h => absurd h (by omega)⟩
          show (pth qs j).u = _
          rw [HPQ.out, HE1.out]
        · have h5 := hS.out j y p h1 h4
          exact ⟨fun h => ((h5.1 h).below HB.out).keepT HG5.out (by decide) (by decide) hk6, fun h => absurd h h3, fun h => h5.2 (by omega)⟩
      have HA6 := Lib.hid (apart_next (pv := ⟨(pth qs i).u, .slice a5 n_b c5, (pth qs i).hu, rfl⟩) hA.out (by rw [Q5.len, HL.out]) (fun j y p h1 h2 h3 => (hS.out j y p h1 h2).1 h3) rfl HOM.out (Nat.le_refl _))
      have HV6 := Lib.hid (show ∃ q6, (qs.set i ⟨(pth qs i).u, .slice a5 n_b c5, (pth qs i).hu, rfl⟩)[i]? = some q6 ∧ q6.v = .slice a5 n_b c5 from ⟨_, List.getElem?_set_self (by rw [Q5.len]; exact hlt), rfl⟩)
      go_upto_region 6 with fail
      clear t0 t1 f1 Q5 B5 hk6 HOM HG5 HB B hS hA HG HBR
      generalize qs.set i ⟨(pth qs i).u, .slice a5 n_b c5, (pth qs i).hu, rfl⟩ = qt at *
      generalize w5.setCell ⟨g, i * 2 + 1, none⟩ (.slice a5 n_b c5) = w6 at *
      clear HPQ HQ
      obtain ⟨q6, hq6, hv6⟩ := HV6.out
      have hp6 : pth qt i = q6 := by simp [pth, hq6]
      obtain ⟨b, off, e, t0, t1⟩ := Q6.rd.cell i hlt
      simp only [Option.some.injEq, Addr.mk.injEq, and_true] at e
      obtain ⟨rfl, rfl⟩ := e
      rw [Nat.zero_add, hp6, hv6] at t1
      clear t0 hp6 hq6 hv6 q6
      go_wp2_with fail
      clear t1
      go_loopw [29] (fun kv wr => ∃ (k : Nat), k ≤ n_b ∧ kv = .int .i64 (k : Nat) ∧ OwX 79 w.heap.size wr (some ⟨g, 0, none⟩) n_l c9 qt ∧ Below w.heap.size w wr ∧ Hid (∀ (j : Nat) x q, l[j]? = some x → qt[j]? = some q → (j < i → batM w.heap.size w wr x q.u q.v) ∧ (j = i → batQ w.heap.size (fun m => k ≤ m) w wr x q.u q.v) ∧ (i + 1 ≤ j → batE w x q.u q.v))) (fun kv _ => n_b - (intOf kv).toNat)
      case atStart => exact ⟨0, Nat.zero_le _, rfl, Q6, B6, HS6⟩
      clear Q6 B6 HS6 HOM6
      case round =>
        rename World => wi
        obtain ⟨k, hk, rfl, Q, B, hS⟩ := hrel
        by_cases hlk : k < n_b
        case neg =>
          obtain rfl : n_b = k := by omega
          have HSN : Hid (∀ (j : Nat) y p, l[j]? = some y → qt[j]? = some p → (j < i + 1 → batM w.heap.size w wi y p.u p.v) ∧ (i + 1 ≤ j → batE w y p.u p.v)) := Lib.hid fun j y p h1 h2 => by
            have h5 := hS.out j y p h1 h2
            refine ⟨fun h => ?_, h5.2.2⟩
            by_cases hji : j = i
            · subst hji
              obtain ⟨e1, a, n, c, e3, h4⟩ := h5.2.1 rfl
              refine ⟨e1, a, n, c, e3, h4.weak fun m hm hq => ?_⟩
              rw [HX.out] at h1
              cases h1
              have h6 := h4.1
              have h7 := HBL.out
              have hq2 : n_b ≤ m := hq
              omega
            · exact h5.1 (by omega)
          clear hS
          go_wp2_with fail
          go_roundw
          case rel => exact ⟨i + 1, qt, by omega, by go_num, Q, B, HSN, HA6⟩
          case measure => simp [intOf]; omega
        case pos =>
          obtain ⟨q6, hq6, hv6⟩ := HV6.out
          have hp6 : pth qt i = q6 := by simp [pth, hq6]
          obtain ⟨e1, ab, nb, cb, e3, hom⟩ := (hS.out i x q6 HX.out hq6).2.1 rfl
          rw [hv6] at e3
          simp only [Value.slice.injEq] at e3
          obtain ⟨rfl, rfl, rfl⟩ := e3
          obtain ⟨hol, ps5, hps5, hfs⟩ := hom
          obtain ⟨y, hy⟩ : ∃ y, x.bs[k]? = some y := ⟨_, List.getElem?_eq_getElem (by omega)⟩
          obtain ⟨p5, hp5⟩ : ∃ p5, ps5[k]? = some p5 := ⟨_, List.getElem?_eq_getElem (by rw [hps5.len]; exact hlk)⟩
          have hpp5 : pth ps5 k = p5 := by simp [pth, hp5]
          obtain ⟨g5, cur5, rfl, hgb5, hg5, -, -, -, -⟩ := hps5.row (by omega)
          obtain ⟨u1, u2, a_m, n_m, c_m, u3, hm⟩ := hfs k y p5 hy hp5
          obtain ⟨b, off, e, s0, s1⟩ := hps5.rd.cell k hlk
          simp only [Option.some.injEq, Addr.mk.injEq, and_true] at e
          obtain ⟨rfl, rfl⟩ := e
          rw [Nat.zero_add, hpp5] at s0 s1
          rw [u1] at s0
          rw [u3] at s1
          obtain ⟨b, off, e, t0, t1⟩ := Q.rd.cell i hlt
          simp only [Option.some.injEq, Addr.mk.injEq, and_true] at e
          obtain ⟨rfl, rfl⟩ := e
          rw [Nat.zero_add, hp6, hv6] at t1
          have HMR := Lib.hid (hm.elim (fun h => h.2.below B) fun h => h.rd oneI)
          have hmn : n_m ≤ 1099511627776 := by rw [← HMR.out.len]; exact (HSM.out x (List.mem_of_getElem? HX.out)).2 y (List.mem_of_getElem? hy)
          have HY := Lib.hid hy
          have HP5 := Lib.hid hp5
          have HFS := Lib.hid hfs
          have HU2 := Lib.hid u2
          have HHOL := Lib.hid hol
          have HG5 := Lib.hid hg5
          have HQ6 := Lib.hid hq6
          have HV := Lib.hid hv6
          have HP6 := Lib.hid hp6
          clear hm hy hp5 hpp5 hfs u1 u2 u3 t0 hol hg5 hq6 hv6 hp6
          go_upto_region 9 with fail
          have hb := (Below.refl wi.heap.size wi).drew
          have HDW := Lib.hid hb
          have Q2 := Q.below hb
          have X2 := hps5.below hb
          have B2 := B.trans (hb.mono B.size)
          have HM2 := Lib.hid (HMR.out.below hb)
          have t1 := cell_below hb t1
          have s0 := cell_below hb s0
          have s1 := cell_below hb s1
          clear Q hps5 B hb HMR
          refine wp_region_held_drew (S := (fun v => v.cell? ⟨g, i * 2 + 1, none⟩ = some (.slice (some ⟨g5, 0, none⟩) n_b c5))) (by kernel_rfl) ?_ (fun hHeld => ?_)
          · exact t1
          generalize wi.drew = w4 at *
          refine wpAnyH_take (i := 0) (oi := ?oir1_0) (v := ?vr1_0) ?hir1_0 (by kernel_rfl) (by kernel_rfl) (by kernel_rfl) ?hqr1_0 ?hyr1_0 (by assumption) ?restr1_0
          case hir1_0 => simp only [List.getElem?_toArray, List.getElem?_cons_succ, List.getElem?_cons_zero]; rfl
          case hqr1_0 => exact fun _ _ _ h => h
          case hyr1_0 => (refine Or.inl ⟨by rfl, ?_⟩; intro w hSw; (try dsimp only at hSw); go_simp; all_goals with_reducible rfl)
          try simp only [Act.put, List.setIfInBounds_toArray, List.set_cons_zero, List.set_cons_succ]
          refine wpAnyH_take (i := 1) (oi := ?oir1_1) (v := ?vr1_1) ?hir1_1 (by kernel_rfl) (by kernel_rfl) (by kernel_rfl) ?hqr1_1 ?hyr1_1 (by assumption) ?restr1_1
          case hir1_1 => simp only [List.getElem?_toArray, List.getElem?_cons_succ, List.getElem?_cons_zero]; rfl
          case hqr1_1 => exact fun _ _ _ h => h
          case hyr1_1 => (refine Or.inl ⟨by rfl, ?_⟩; intro w hSw; (try dsimp only at hSw); go_simp; all_goals with_reducible rfl)
          try simp only [Act.put, List.setIfInBounds_toArray, List.set_cons_zero, List.set_cons_succ]
          refine wpAnyH_take (i := 2) (oi := ?oir1_2) (v := ?vr1_2) ?hir1_2 (by kernel_rfl) (by kernel_rfl) (by kernel_rfl) ?hqr1_2 ?hyr1_2 (by assumption) ?restr1_2
          case hir1_2 => simp only [List.getElem?_toArray, List.getElem?_cons_succ, List.getElem?_cons_zero]; rfl
          case hqr1_2 => exact fun _ _ _ h => h
          case hyr1_2 => (refine Or.inl ⟨by rfl, ?_⟩; intro w hSw; (try dsimp only at hSw); go_simp; all_goals with_reducible rfl)
          try simp only [Act.put, List.setIfInBounds_toArray, List.set_cons_zero, List.set_cons_succ]
          refine wpAnyH_take (i := 3) (oi := ?oir1_3) (v := ?vr1_3) ?hir1_3 (by kernel_rfl) (by kernel_rfl) (by kernel_rfl) ?hqr1_3 ?hyr1_3 (by assumption) ?restr1_3
          case hir1_3 => simp only [List.getElem?_toArray, List.getElem?_cons_succ, List.getElem?_cons_zero]; rfl
          case hqr1_3 => exact fun _ _ _ h => h
          case hyr1_3 => (refine Or.inl ⟨by rfl, ?_⟩; intro w hSw; (try dsimp only at hSw); go_simp; all_goals with_reducible rfl)
          try simp only [Act.put, List.setIfInBounds_toArray, List.set_cons_zero, List.set_cons_succ]
          refine wpAnyH_take (i := 4) (oi := ?oir1_4) (v := ?vr1_4) ?hir1_4 (by kernel_rfl) (by kernel_rfl) (by kernel_rfl) ?hqr1_4 ?hyr1_4 (by assumption) ?restr1_4
          case hir1_4 => simp only [List.getElem?_toArray, List.getElem?_cons_succ, List.getElem?_cons_zero]; rfl
          case hqr1_4 => exact fun _ _ _ h => h
          case hyr1_4 => (refine Or.inl ⟨by rfl, ?_⟩; intro w hSw; (try dsimp only at hSw); go_simp; all_goals with_reducible rfl)
          try simp only [Act.put, List.setIfInBounds_toArray, List.set_cons_zero, List.set_cons_succ]
          refine wpAnyH_take (i := 5) (oi := ?oir1_5) (v := ?vr1_5) ?hir1_5 (by kernel_rfl) (by kernel_rfl) (by kernel_rfl) ?hqr1_5 ?hyr1_5 (by assumption) ?restr1_5
          case hir1_5 => simp only [List.getElem?_toArray, List.getElem?_cons_succ, List.getElem?_cons_zero]; rfl
          case hqr1_5 => exact fun _ _ _ h => h
          case hyr1_5 => (refine Or.inl ⟨by rfl, ?_⟩; intro w hSw; (try dsimp only at hSw); go_simp; all_goals with_reducible rfl)
          try simp only [Act.put, List.setIfInBounds_toArray, List.set_cons_zero, List.set_cons_succ]
          refine wpAnyH_take (i := 6) (oi := ?oir1_6) (v := ?vr1_6) ?hir1_6 (by kernel_rfl) (by kernel_rfl) (by kernel_rfl) ?hqr1_6 ?hyr1_6 (by assumption) ?restr1_6
          case hir1_6 => simp only [List.getElem?_toArray, List.getElem?_cons_succ, List.getElem?_cons_zero]; rfl
          case hqr1_6 => exact fun _ _ _ h => h
          case hyr1_6 => (refine Or.inl ⟨by rfl, ?_⟩; intro w hSw; (try dsimp only at hSw); go_simp; all_goals with_reducible rfl)
          try simp only [Act.put, List.setIfInBounds_toArray, List.set_cons_zero, List.set_cons_succ]
          refine wpAnyH_take (i := 7) (oi := ?oir1_7) (v := ?vr1_7) ?hir1_7 (by kernel_rfl) (by kernel_rfl) (by kernel_rfl) ?hqr1_7 ?hyr1_7 (by assumption) ?restr1_7
          case hir1_7 => simp only [List.getElem?_toArray, List.getElem?_cons_succ, List.getElem?_cons_zero]; rfl
          case hqr1_7 => exact fun _ _ _ h => h
          case hyr1_7 => (refine Or.inl ⟨by rfl, ?_⟩; intro w hSw; (try dsimp only at hSw); go_simp; all_goals with_reducible rfl)
          try simp only [Act.put, List.setIfInBounds_toArray, List.set_cons_zero, List.set_cons_succ]
          refine wpAnyH_take (i := 8) (oi := ?oir1_8) (v := ?vr1_8) ?hir1_8 (by kernel_rfl) (by kernel_rfl) (by kernel_rfl) ?hqr1_8 ?hyr1_8 (by assumption) ?restr1_8
          case hir1_8 => simp only [List.getElem?_toArray, List.getElem?_cons_succ, List.getElem?_cons_zero]; rfl
          case hqr1_8 => exact fun _ _ _ h => h
          case hyr1_8 => (refine Or.inl ⟨by rfl, ?_⟩; intro w hSw; (try dsimp only at hSw); go_simp; all_goals with_reducible rfl)
          try simp only [Act.put, List.setIfInBounds_toArray, List.set_cons_zero, List.set_cons_succ]
          refine wpAnyH_take (i := 9) (oi := ?oir1_9) (v := ?vr1_9) ?hir1_9 (by kernel_rfl) (by kernel_rfl) (by kernel_rfl) ?hqr1_9 ?hyr1_9 (by assumption) ?restr1_9
          case hir1_9 => simp only [List.getElem?_toArray, List.getElem?_cons_succ, List.getElem?_cons_zero]; rfl
          case hqr1_9 => exact fun _ _ _ h => h
          case hyr1_9 => (refine Or.inl ⟨by rfl, ?_⟩; intro w hSw; (try dsimp only at hSw); go_simp; all_goals with_reducible rfl)
          try simp only [Act.put, List.setIfInBounds_toArray, List.set_cons_zero, List.set_cons_succ]
          refine wpAnyH_take (i := 10) (oi := ?oir1_10) (v := ?vr1_10) ?hir1_10 (by kernel_rfl) (by kernel_rfl) (by kernel_rfl) ?hqr1_10 ?hyr1_10 (by assumption) ?restr1_10
          case hir1_10 => simp only [List.getElem?_toArray, List.getElem?_cons_succ, List.getElem?_cons_zero]; rfl
          case hqr1_10 => exact fun _ _ _ h => h
          case hyr1_10 => (refine Or.inl ⟨by rfl, ?_⟩; intro w hSw; (try dsimp only at hSw); go_simp; all_goals with_reducible rfl)
          try simp only [Act.put, List.setIfInBounds_toArray, List.set_cons_zero, List.set_cons_succ]
          refine wpAnyH_take (i := 11) (oi := ?oir1_11) (v := ?vr1_11) ?hir1_11 (by kernel_rfl) (by kernel_rfl) (by kernel_rfl) ?hqr1_11 ?hyr1_11 (by assumption) ?restr1_11
          case hir1_11 => simp only [List.getElem?_toArray, List.getElem?_cons_succ, List.getElem?_cons_zero]; rfl
          case hqr1_11 => exact fun _ _ _ h => h
          case hyr1_11 => (refine Or.inl ⟨by rfl, ?_⟩; intro w hSw; (try dsimp only at hSw); go_simp; all_goals with_reducible rfl)
          try simp only [Act.put, List.setIfInBounds_toArray, List.set_cons_zero, List.set_cons_succ]
          refine wpAnyH_take (i := 12) (oi := ?oir1_12) (v := ?vr1_12) ?hir1_12 (by kernel_rfl) (by kernel_rfl) (by kernel_rfl) ?hqr1_12 ?hyr1_12 (by assumption) ?restr1_12
          case hir1_12 => simp only [List.getElem?_toArray, List.getElem?_cons_succ, List.getElem?_cons_zero]; rfl
          case hqr1_12 => exact fun _ _ _ h => h
          case hyr1_12 => (refine Or.inl ⟨by rfl, ?_⟩; intro w hSw; (try dsimp only at hSw); go_simp; all_goals with_reducible rfl)
          try simp only [Act.put, List.setIfInBounds_toArray, List.set_cons_zero, List.set_cons_succ]
          refine wpAnyH_ready (rs := [13]) (by kernel_rfl) (by simp) ?_
          refine AllReadyH.cons (o := ?oz2) ?hoz2 (fun K hK => ?kz2) AllReadyH.nil
          case hoz2 => simp only [List.getElem?_toArray, List.getElem?_cons_succ, List.getElem?_cons_zero]; rfl
          go_wp2_with fail
          refine hK.out _ _ ?_ (fun hHeld => ?_)
          · exact t1
          clear hK K
          try simp only [Act.put, List.setIfInBounds_toArray, List.set_cons_zero, List.set_cons_succ]
          refine wpAnyH_ready (rs := [14]) (by kernel_rfl) (by simp) ?_
          refine AllReadyH.cons (o := ?oz3) ?hoz3 (fun K hK => ?kz3) AllReadyH.nil
          case hoz3 => simp only [List.getElem?_toArray, List.getElem?_cons_succ, List.getElem?_cons_zero]; rfl
          go_simp
          refine (copied_any w4 y.kd HM2.out hmn).mono ?_
          rintro e w7 ⟨a7, c7, rfl, h7, hb⟩
          have Q7 := Q2.below hb
          have X7 := X2.below hb
          have B7 := B2.trans (hb.mono B2.size)
          have HB7 := Lib.hid hb
          have H7 := Lib.hid (h7.base_le B2.size)
          have t1 := cell_below hb t1
          clear h7 Q2 X2 hb s0 s1
          go_wp2_with fail
          refine hK.out _ _ ?_ (fun hHeld => ?_)
          · exact t1
          clear hK K
          try simp only [Act.put, List.setIfInBounds_toArray, List.set_cons_zero, List.set_cons_succ]
          refine wpAnyH_take (i := 15) (oi := ?oir4_15) (v := ?vr4_15) ?hir4_15 (by kernel_rfl) (by kernel_rfl) (by kernel_rfl) ?hqr4_15 ?hyr4_15 (by assumption) ?restr4_15
          case hir4_15 => simp only [List.getElem?_toArray, List.getElem?_cons_succ, List.getElem?_cons_zero]; rfl
          case hqr4_15 => exact fun _ _ _ h => h
          case hyr4_15 => (refine Or.inl ⟨by rfl, ?_⟩; intro w hSw; (try dsimp only at hSw); go_simp; all_goals with_reducible rfl)
          try simp only [Act.put, List.setIfInBounds_toArray, List.set_cons_zero, List.set_cons_succ]
          refine wpAnyH_ready (rs := [16]) (by kernel_rfl) (by simp) ?_
          refine AllReadyH.cons (o := ?oz5) ?hoz5 (fun K hK => ?kz5) AllReadyH.nil
          case hoz5 => simp only [List.getElem?_toArray, List.getElem?_cons_succ, List.getElem?_cons_zero]; rfl
          refine op_store_x 37 _ _ rfl atBal X7 hlk ⟨.int .u8 ((y.kd : Nat) : Int), .slice a7 n_m c7, rfl, rfl⟩ rfl rfl ?_
          intro w8 X8 hk8 hb8 hz8
          have hg8 : w7.heap[g5]? = some (.cells cur5 37 (0, 0)) := by
            have h1 : g5 < wi.heap.size := (Array.getElem?_eq_some_iff.1 HG5.out).1
            have h2 := HDW.out.size
            rw [HB7.out.block g5 (by omega), HDW.out.block g5 h1]
            exact HG5.out
          have Q8 := Q7.keepT hg8 (by decide) hk8
          have B8 := B7.trans hb8
          have hlo : w.heap.size ≤ g5 := hgb5
          have HS8 : Hid (∀ (j : Nat) z p, l[j]? = some z → qt[j]? = some p → (j < i → batM w.heap.size w w8 z p.u p.v) ∧ (j = i → batQ w.heap.size (fun m => k + 1 ≤ m) w w8 z p.u p.v) ∧ (i + 1 ≤ j → batE w z p.u p.v)) := Lib.hid fun j z p h1 h2 => by
            refine ⟨fun h => ?_, fun h => ?_, (hS.out j z p h1 h2).2.2⟩
            · have h3 := (((hS.out j z p h1 h2).1 h).below HDW.out).below HB7.out
              refine h3.keep hg8 (by decide) (fun h4 => ?_) hk8
              exact HA6.out j i p q6 g5 (by omega) (by omega) (by omega) h2 HQ6.out h4 (by rw [HV.out]; rfl)
            · subst h
              have h3 := (((hS.out j z p h1 h2).2.1 rfl).below HDW.out).below HB7.out
              rw [HX.out] at h1
              cases h1
              rw [HQ6.out] at h2
              cases h2
              refine ⟨h3.1, some ⟨g5, 0, none⟩, n_b, c5, HV.out, HHOL.out, _, X8, fun m z2 p2 h4 h5 => ?_⟩
              rcases pset_at h5 with ⟨rfl, rfl⟩ | ⟨h6, h7⟩
              · rw [HY.out] at h4
                cases h4
                exact ⟨rfl, HU2.out, a7, n_m, c7, rfl, .inr (H7.out.keepB hg8 (by decide) hk8)⟩
              · exact ((((HFS.out m z2 p2 h4 h7).below HDW.out).below HB7.out).keepT hg8 (by decide) hk8).weak fun h => by have h9 : k ≤ m := h; show k + 1 ≤ m; omega
          have t1 : w8.cell? ⟨g, i * 2 + 1, none⟩ = some (.slice (some ⟨g5, 0, none⟩) n_b c5) := by
            obtain ⟨b, off, e, t0, t1⟩ := Q8.rd.cell i hlt
            simp only [Option.some.injEq, Addr.mk.injEq, and_true] at e
            obtain ⟨rfl, rfl⟩ := e
            rw [Nat.zero_add, HP6.out, HV.out] at t1
            exact t1
          refine hK.out _ _ ?_ (fun hHeld => ?_)
          · exact t1
          clear hK K
          try simp only [Act.put, List.setIfInBounds_toArray, List.set_cons_zero, List.set_cons_succ]
          refine wpAnyH_done (by kernel_rfl) ?_ _
          clear t1 hHeld X8 Q7 X7 B7 hS
          go_wp2_with fail
          go_roundw
          case rel => exact ⟨k + 1, by omega, by go_num, Q8, B8, HS8⟩
          case measure => simp [intOf]; omega

end Go.Proofs.Ythpjnbnheagpiaa
