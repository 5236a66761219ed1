/- A profile's own rows; Twin. Conditions: at most 2^40 rows. Printed by gen_topj.py. -/
import Derived.Test.YthpjnbnheagpiaaTopV
import Derived.Test.YthpjnbnheagpiaaSheP
namespace Go.Proofs.Ythpjnbnheagpiaa
open Go.RowKit Go.Suf
set_option linter.unusedVariables false
set_option linter.unusedSimpArgs false

theorem pfl_setU : ∀ (vs : List PV) (i : Nat) (x : Value) (hx : x.oneCell' = true), i < vs.length → pfl (vs.set i ⟨x, (pth vs i).v, hx, (pth vs i).hv⟩) = (pfl vs).set (i * 2) x
  | [], i, x, hx, h => by simp at h
  | v :: vs, 0, x, hx, h => rfl
  | v :: vs, i + 1, x, hx, h => by
    have e : (i + 1) * 2 = (i * 2) + 1 + 1 := by omega
    show pcl v ++ pfl (vs.set i ⟨x, (pth vs i).v, hx, (pth vs i).hv⟩) = (pcl v ++ pfl vs).set ((i + 1) * 2) _
    rw [pfl_setU vs i x hx (by simpa using h), e]
    rfl
theorem pfl_setV : ∀ (vs : List PV) (i : Nat) (x : Value) (hx : x.oneCell' = true), i < vs.length → pfl (vs.set i ⟨(pth vs i).u, x, (pth vs i).hu, hx⟩) = (pfl vs).set (i * 2 + 1) x
  | [], i, x, hx, h => by simp at h
  | v :: vs, 0, x, hx, h => rfl
  | v :: vs, i + 1, x, hx, h => by
    have e : (i + 1) * 2 + 1 = (i * 2 + 1) + 1 + 1 := by omega
    show pcl v ++ pfl (vs.set i ⟨(pth vs i).u, x, (pth vs i).hu, hx⟩) = (pcl v ++ pfl vs).set ((i + 1) * 2 + 1) _
    rw [pfl_setV vs i x hx (by simpa using h), e]
    rfl
theorem OwP.setU {base g n cap : Nat} {w : World} {vs : List PV} (h : OwP base w (some ⟨g, 0, none⟩) n cap vs) {i : Nat} (hi : i < n) {x : Value} (hx : x.oneCell' = true) :
    OwP base (w.setCell ⟨g, i * 2, none⟩ x) (some ⟨g, 0, none⟩) n cap (vs.set i ⟨x, (pth vs i).v, hx, (pth vs i).hv⟩) := by
  refine ⟨by rw [List.length_set]; exact h.len, ?_, fun v hv => trivial⟩
  rw [pfl_setU vs i x hx (by rw [h.len]; exact hi)]
  exact (h.own.stored (i * 2) x).1
theorem OwP.setV {base g n cap : Nat} {w : World} {vs : List PV} (h : OwP base w (some ⟨g, 0, none⟩) n cap vs) {i : Nat} (hi : i < n) {x : Value} (hx : x.oneCell' = true) :
    OwP base (w.setCell ⟨g, i * 2 + 1, none⟩ x) (some ⟨g, 0, none⟩) n cap (vs.set i ⟨(pth vs i).u, x, (pth vs i).hu, hx⟩) := by
  refine ⟨by rw [List.length_set]; exact h.len, ?_, fun v hv => trivial⟩
  rw [pfl_setV vs i x hx (by rw [h.len]; exact hi)]
  exact (h.own.stored (i * 2 + 1) x).1
theorem OwP.setHi2 {base g i : Nat} {t : TypeId} {w : World} {a : Option Addr} {n c : Nat} {ds : List PV} {cs : Array Value} (h : OwP base w a n c ds) (hg : w.heap[g]? = some (.cells cs t (0, 0))) (hne : t ≠ 92) (v : Value) : OwP base (w.setCell ⟨g, i, none⟩ v) a n c ds := by
  refine ⟨h.len, ⟨h.own.1, ?_⟩, h.wf⟩
  rcases h.own.2 with h2 | ⟨b, c2, cur, hv, hb, hh, r⟩
  · exact .inl h2
  · refine .inr ⟨b, c2, cur, hv, hb, (heap_setCell_other w ⟨g, i, none⟩ b v (fun e2 => ?_)).trans hh, r⟩
    have e3 : b = g := e2
    subst e3
    rw [hg] at hh
    simp at hh
    exact hne hh.2
theorem OwP.free {base g n cap : Nat} {w : World} {vs : List PV} (h : OwP base w (some ⟨g, 0, none⟩) n cap vs) (i : Nat) : w.frozen? ⟨g, i, none⟩ = false := h.own.frozenAt i
theorem pairs_pv : ∀ cs : List (Value × Value), (∀ c ∈ cs, c.1.oneCell' = true ∧ c.2.oneCell' = true) → ∃ ps : List PV, ps.map (fun p => (p.u, p.v)) = cs
  | [], _ => ⟨[], rfl⟩
  | c :: cs, h => by
    obtain ⟨ps, e⟩ := pairs_pv cs fun x hx => h x (List.mem_cons_of_mem _ hx)
    have h0 := h c (by simp)
    exact ⟨⟨c.1, c.2, h0.1, h0.2⟩ :: ps, by rw [List.map_cons, e]⟩
theorem flat_pv (ps : List PV) : flat2 (ps.map fun p => (p.u, p.v)) = pfl ps := by
  induction ps with
  | nil => rfl
  | cons p ps ih =>
    show [p.u, p.v] ++ flat2 (ps.map fun p => (p.u, p.v)) = pcl p ++ pfl ps
    rw [ih]
theorem ow2_p {α : Type} {F : α → Value → Value → Prop} {base : Nat} {w : World} {a : Option Addr} {n c : Nat} {l : List α} (h : Ow2 F 92 base w a n c l) :
    ∃ ps, OwP base w a n c ps ∧ ∀ (i : Nat) x p, l[i]? = some x → ps[i]? = some p → F x p.u p.v := by
  obtain ⟨cs, h1, h2, h3⟩ := h.own
  have hl := h.len
  obtain ⟨ps, rfl⟩ := pairs_pv cs fun x hx => by
    obtain ⟨i, hi, e⟩ := List.getElem_of_mem hx
    exact (h3 i l[i] x (List.getElem?_eq_getElem (by omega)) (by rw [← e]; exact List.getElem?_eq_getElem hi)).2
  rw [flat_pv] at h2
  refine ⟨ps, ⟨by rw [← h1, List.length_map], h2, fun _ _ => trivial⟩, fun i x p hx hp => ?_⟩
  exact (h3 i x (p.u, p.v) hx (by rw [List.getElem?_map, hp]; rfl)).1
theorem p_ow2 {α : Type} {F : α → Value → Value → Prop} {base : Nat} {w : World} {a : Option Addr} {n c : Nat} {l : List α} {ps : List PV} (h : OwP base w a n c ps) (hl : l.length = n) (hF : ∀ (i : Nat) x p, l[i]? = some x → ps[i]? = some p → F x p.u p.v) : Ow2 F 92 base w a n c l := by
  refine ⟨hl, ps.map fun p => (p.u, p.v), by rw [List.length_map]; exact h.len, by rw [flat_pv]; exact h.own, fun i x c hx hc => ?_⟩
  rw [List.getElem?_map] at hc
  cases hp : ps[i]? with
  | none => rw [hp] at hc; cases hc
  | some p =>
    rw [hp] at hc
    simp only [Option.map_some, Option.some.injEq] at hc
    subst hc
    exact ⟨hF i x p hx hp, p.hu, p.hv⟩
/-- A row of a profile whose marks are the call's own. -/
def rowO (base : Nat) (w : World) (x : RwQ) (u v : Value) : Prop := v = .int .i64 x.many ∧ okI x.many ∧ ∃ a n c, u = .slice a n c ∧ OwI base w a n c x.ms
theorem rowO.below {base : Nat} {w w' : World} {x : RwQ} {u v : Value} (h : rowO base w x u v) (hb : Below w.heap.size w w') : rowO base w' x u v := by
  obtain ⟨h1, h2, a, n, c, h3, h4⟩ := h
  exact ⟨h1, h2, a, n, c, h3, h4.below hb⟩
theorem rowO.rd {base : Nat} {w : World} {x : RwQ} {u v : Value} (h : rowO base w x u v) : rowE w x u v := by
  obtain ⟨h1, h2, a, n, c, h3, h4⟩ := h
  exact ⟨h1, h2, a, n, c, h3, h4.rd oneI⟩
theorem rowO.base_le {base base' : Nat} {w : World} {x : RwQ} {u v : Value} (h : rowO base w x u v) (hb : base' ≤ base) : rowO base' w x u v := by
  obtain ⟨h1, h2, a, n, c, h3, h4⟩ := h
  exact ⟨h1, h2, a, n, c, h3, h4.base_le hb⟩
end Go.Proofs.Ythpjnbnheagpiaa
namespace Go.Suf
open Go.RowKit Go.Suf
open Go.Proofs.Ythpjnbnheagpiaa
set_option linter.unusedVariables false
set_option linter.unusedSimpArgs false
theorem OwG.keepB {α : Type} {enc : α → Value} {ok : α → Prop} {e t : TypeId} {base g : Nat} {w w' : World} {a : Option Addr} {n cap : Nat} {xs : List α} {cs : Array Value} (h : OwG enc ok e base w a n cap xs) (hg : w.heap[g]? = some (.cells cs t (0, 0))) (hne : t ≠ e) (hk : KeepB (some ⟨g, 0, none⟩) w w') : OwG enc ok e base w' a n cap xs := by
  refine ⟨h.len, ⟨h.own.1, ?_⟩, h.bd⟩
  rcases h.own.2 with h2 | ⟨b, c, cur, hv, hb, hh, r⟩
  · exact .inl h2
  · refine .inr ⟨b, c, cur, hv, hb, (hk b (Array.getElem?_eq_some_iff.1 hh).1 (fun p e2 => ?_)).trans hh, r⟩
    cases e2
    intro e3
    have e4 : b = g := e3
    subst e4
    rw [hg] at hh
    simp at hh
    exact hne hh.2
end Go.Suf
namespace Go.Proofs.Ythpjnbnheagpiaa
open Go.RowKit Go.Suf
set_option linter.unusedVariables false
set_option linter.unusedSimpArgs false
theorem rowO.keep {base g : Nat} {w w' : World} {x : RwQ} {u v : Value} {cs : Array Value} (h : rowO base w x u v) (hg : w.heap[g]? = some (.cells cs 92 (0, 0))) (hk : KeepB (some ⟨g, 0, none⟩) w w') : rowO base w' x u v := by
  obtain ⟨h1, h2, a, n, c, h3, h4⟩ := h
  exact ⟨h1, h2, a, n, c, h3, h4.keepB hg (by decide) hk⟩
theorem keepB_cell (w : World) (g i : Nat) (v : Value) : KeepB (some ⟨g, 0, none⟩) w (w.setCell ⟨g, i, none⟩ v) := fun k h1 h2 => heap_setCell_other w ⟨g, i, none⟩ k v (show k ≠ g from h2 ⟨g, 0, none⟩ rfl)
theorem rowO.setRow {base g : Nat} {t : TypeId} {w : World} {x : RwQ} {u v : Value} {cs : Array Value} (h : rowO base w x u v) (hg : w.heap[g]? = some (.cells cs t (0, 0))) (hne : t ≠ 3) (cs' : Array Value) : rowO base (w.setRow g cs') x u v := by
  obtain ⟨h1, h2, a, n, c, h3, h4⟩ := h
  exact ⟨h1, h2, a, n, c, h3, h4.len, own_setRow h4.own hg hne cs', h4.bd⟩
theorem ow2_setRow {base g : Nat} {t : TypeId} {w : World} {a : Option Addr} {n c : Nat} {l : List RwQ} {b0 : Nat} {cs : Array Value} (h : Ow2 (rowO b0 w) 92 base w a n c l) (hg : w.heap[g]? = some (.cells cs t (0, 0))) (hn1 : t ≠ 92) (hn2 : t ≠ 3) (cs' : Array Value) : Ow2 (rowO b0 (w.setRow g cs')) 92 base (w.setRow g cs') a n c l := by
  obtain ⟨cc, h1, h2, h3⟩ := h.own
  refine ⟨h.len, cc, h1, ⟨h2.1, ?_⟩, fun i x q hx hq => ⟨(h3 i x q hx hq).1.setRow hg hn2 cs', (h3 i x q hx hq).2⟩⟩
  rcases h2.2 with h4 | ⟨b, c2, cur, hv, hb, hh, r⟩
  · exact .inl h4
  · refine .inr ⟨b, c2, cur, hv, hb, (setRow_other _ _ _ _ (fun e2 => ?_)).trans hh, r⟩
    subst e2
    rw [hg] at hh
    simp at hh
    exact hn1 hh.2
theorem pset_at {ps : List PV} {i j : Nat} {q p : PV} (h : (ps.set i q)[j]? = some p) : (j = i ∧ p = q) ∨ (j ≠ i ∧ ps[j]? = some p) := by
  by_cases e : j = i
  · subst e
    left
    have hj := (List.getElem?_eq_some_iff.1 h).1
    rw [List.length_set] at hj
    rw [List.getElem?_set_self hj] at h
    exact ⟨rfl, (Option.some.inj h).symm⟩
  · right
    rw [List.getElem?_set_ne (Ne.symm e)] at h
    exact ⟨e, h⟩

/-- A new profile's rows. -/
def RetTw (w : World) (cn : Int) (kd n : Nat) (rs : List RwQ) : Ending → World → Prop := fun e w' =>
  ∃ a c, e = .returned (.agg #[.int .i64 cn, .int .u8 ((kd : Nat) : Int), .slice a n c]) ∧ Ow2 (rowO w.heap.size w') 92 w.heap.size w' a n c rs ∧ Below w.heap.size w w'
set_option maxRecDepth 100000 in
set_option maxHeartbeats 4000000 in
theorem twinR_any (w : World) (cn : Int) (kd : Nat) {a_r : Option Addr} {n_r c_r : Nat} {rs : List RwQ} (h_r : RdR w a_r n_r c_r rs) (hn : n_r ≤ 1099511627776) (hmm : ∀ r ∈ rs, r.ms.length ≤ 1099511627776) : Calls Try.prog 60 #[.agg #[.int .i64 cn, .int .u8 ((kd : Nat) : Int), .slice a_r n_r c_r]] w (RetTw w cn kd n_r rs) := by
  have HRW := Lib.hid h_r
  have HL := Lib.hid h_r.len
  have hn0 := h_r.lt
  clear h_r
  have B0 : Below w.heap.size w w := Below.refl _ _
  go_enter Try.func60, Try.ntmps60
  have hb := below_al w (.cells #[.int .i64 cn, .int .u8 ((kd : Nat) : Int), .slice a_r n_r c_r] 51)
  have B1 := B0.trans (hb.mono B0.size)
  clear hb B0
  have h_p_1 := PRow.new 51 w #[.int .i64 cn, .int .u8 ((kd : Nat) : Int), .slice a_r n_r c_r]
  have HOB := Lib.hid B1
  have hb := below_al (w.alloc (.cells #[.int .i64 cn, .int .u8 ((kd : Nat) : Int), .slice a_r n_r c_r] 51)) (.cells #[.int .i64 0, .int .u8 0, .slice none 0 0] 51)
  have B2 := B1.trans (hb.mono B1.size)
  have h_p_2 := h_p_1.later hb
  clear hb B1 h_p_1
  have h_o_2 := (PRow.new 51 (w.alloc (.cells #[.int .i64 cn, .int .u8 ((kd : Nat) : Int), .slice a_r n_r c_r] 51)) #[.int .i64 0, .int .u8 0, .slice none 0 0]).base HOB.out
  simp only [World.size_alloc] at h_o_2
  have k_p_0 := h_p_2.cell 0 _ rfl
  have k_p_1 := h_p_2.cell 1 _ rfl
  have k_p_2 := h_p_2.cell 2 _ rfl
  go_wp2_with fail
  clear k_p_0 k_p_1 k_p_2
  generalize ((w.alloc (.cells #[.int .i64 cn, .int .u8 ((kd : Nat) : Int), .slice a_r n_r c_r] 51)).alloc (.cells #[.int .i64 0, .int .u8 0, .slice none 0 0] 51)) = w2 at *
  have hsz := B2.size
  have hlp := h_p_2.lt
  have hlo := h_o_2.lt
  refine (cloneR_any (E := fun _ => rowE w) w2 (HRW.out.fix B2) hn).mono ?_
  rintro e w9 ⟨a9, c9, rfl, h9, hb⟩
  have B3 := B2.trans (hb.mono B2.size)
  have h_p_3 := h_p_2.later hb
  have h_o_3 := h_o_2.later hb
  clear hb B2 h_p_2 h_o_2
  obtain ⟨ps, hps, hF⟩ := ow2_p h9
  have HF := Lib.hid hF
  clear h9 hF
  have k2 := h_p_3.cell 2 _ rfl
  have fp := h_p_3.free 2
  have P2 := h_p_3.set 2 (.slice a9 n_r c9)
  simp only [List.setIfInBounds_toArray, List.set_cons_zero, List.set_cons_succ] at P2
  have O2 := h_o_3.other (p := ⟨w.heap.size, 2, none⟩) (by show w.heap.size + 1 ≠ w.heap.size; omega) h_p_3.lo (.slice a9 n_r c9)
  have Q2 := hps.setHi2 h_p_3.row (by decide) (.slice a9 n_r c9) (i := 2)
  go_upto_region 2 with fail
  clear k2 fp hps h_p_3 h_o_3 B3
  generalize w9.setCell ⟨w.heap.size, 2, none⟩ (.slice a9 n_r c9) = wt at *
  have k2 := P2.cell 2 _ rfl
  go_wp2_with fail
  clear k2
  obtain ⟨OG, hOG⟩ : ∃ OG, w.heap.size + 1 = OG := ⟨_, rfl⟩
  go_loopw [12] (fun jv wr => ∃ (i : Nat) (qs : List PV), i ≤ n_r ∧ jv = .int .i64 (i : Nat) ∧ PRow 51 w wr w.heap.size #[.int .i64 cn, .int .u8 ((kd : Nat) : Int), .slice a9 n_r c9] ∧ PRow 51 w wr (w.heap.size + 1) #[.int .i64 0, .int .u8 0, .slice none 0 0] ∧ OwP w2.heap.size wr a9 n_r c9 qs ∧ Hid (∀ (j : Nat) x q, rs[j]? = some x → qs[j]? = some q → (j < i → rowO w.heap.size wr x q.u q.v) ∧ (i ≤ j → rowE w x q.u q.v))) (fun jv _ => n_r - (intOf jv).toNat)
  case atStart => exact ⟨0, ps, Nat.zero_le _, rfl, P2, O2, Q2, Lib.hid fun j x q h1 h2 => ⟨fun h => absurd h (by omega), fun _ => HF.out j x q h1 h2⟩⟩
  clear P2 O2 Q2
  case round =>
    rename World => wr
    obtain ⟨i, qs, hi, rfl, P, O, Q, hS⟩ := hrel
    by_cases hlt : i < n_r
    case neg =>
      obtain rfl : n_r = i := by omega
      have HOW := Lib.hid (p_ow2 (F := rowO w.heap.size wr) (Q.base_le hsz) HL.out (fun j x q h1 h2 => (hS.out j x q h1 h2).1 (by rw [← HL.out]; exact (List.getElem?_eq_some_iff.1 h1).1)))
      have q0 := P.cell 0 _ rfl
      have q1 := P.cell 1 _ rfl
      have q2 := P.cell 2 _ rfl
      go_wp2_with first | refine wpList_store_whole rfl 51 _ _ rfl atPrf _ _ _ O.row rfl rfl rfl rfl (prf_one _ _ _ _ _) ?_
      refine bodyPost_ret (results_cell_row rfl _ _ _ _ _ _ _ rfl (setRow_heap _ _ _ _ _ _ O.row) Try.underlying51 rfl (by kernel_rfl)) rfl ?_
      exact ⟨a9, c9, rfl, ow2_setRow HOW.out O.row (by decide) (by decide) _, (O.put _).below⟩
    case pos =>
      obtain ⟨x, hx⟩ : ∃ x, rs[i]? = some x := ⟨_, List.getElem?_eq_getElem (by rw [HL.out]; exact hlt)⟩
      obtain ⟨q, hq⟩ : ∃ q, qs[i]? = some q := ⟨_, List.getElem?_eq_getElem (by rw [Q.len]; exact hlt)⟩
      have hpq : pth qs i = q := by simp [pth, hq]
      obtain ⟨e1, e2, a_m, n_m, c_m, e3, h_m⟩ := (hS.out i x q hx hq).2 (Nat.le_refl _)
      obtain ⟨g, cur, rfl, hgb, hg, -, -, -, -⟩ := Q.row (by omega)
      obtain ⟨b, off, e, t0, t1⟩ := Q.rd.cell i hlt
      simp only [Option.some.injEq, Addr.mk.injEq, and_true] at e
      obtain ⟨rfl, rfl⟩ := e
      rw [Nat.zero_add, hpq] at t0 t1
      rw [e3] at t0
      rw [e1] at t1
      have hne : w.heap.size ≠ g := by
        rintro h0
        have h1 := P.row
        rw [h0, hg] at h1
        simp at h1
      have hne2 : w.heap.size + 1 ≠ g := by
        rintro h0
        have h1 := O.row
        rw [h0, hg] at h1
        simp at h1
      have hmn : n_m ≤ 1099511627776 := by rw [← h_m.len]; exact hmm x (List.mem_of_getElem? hx)
      have HX := Lib.hid hx
      have HQ := Lib.hid hq
      have HPQ := Lib.hid hpq
      have HE1 := Lib.hid e1
      have HE2 := Lib.hid e2
      have HM := Lib.hid h_m
      have HG := Lib.hid hg
      clear hx hq hpq e1 e2 e3 h_m hg
      have R := (PRow.new 92 wr #[.slice a_m n_m c_m, .int .i64 x.many]).base P.below
      have hal := below_al wr (.cells #[.slice a_m n_m c_m, .int .i64 x.many] 92)
      have P1 := P.later hal
      have O1 := O.later hal
      have Q1 := Q.below hal
      have HG1 := Lib.hid ((hal.block g (Array.getElem?_eq_some_iff.1 HG.out).1).trans HG.out)
      have HAL := Lib.hid hal
      go_upto_region 5 with (first | refine wpList_store_new rfl 92 _ _ rfl atRow _ _ _ rfl rfl rfl rfl (row_one _ _ _ _) ?_)
      clear t0 t1 P O Q hal
      obtain ⟨gq, hgq⟩ : ∃ gq, wr.heap.size = gq := ⟨_, rfl⟩
      rw [hgq] at R ⊢
      have HGQ := Lib.hid hgq
      clear hgq
      generalize wr.alloc (.cells #[.slice a_m n_m c_m, .int .i64 x.many] 92) = wa at *
      have hb := (Below.refl wa.heap.size wa).drew
      have HDW := Lib.hid hb
      have P2 := P1.later hb
      have O2 := O1.later hb
      have Q2 := Q1.below hb
      have R2 := R.later hb
      clear P1 O1 Q1 R hb
      have k2 := P2.cell 2 _ rfl
      have r0 := R2.cell 0 _ rfl
      refine wp_region_held_drew (S := (fun v => v.cell? ⟨w.heap.size, 2, none⟩ = some (.slice (some ⟨g, 0, none⟩) n_r c9) ∧ v.cell? ⟨gq, 0, none⟩ = some (.slice a_m n_m c_m))) (by kernel_rfl) ?_ (fun hHeld => ?_)
      · exact ⟨k2, r0⟩
      generalize wa.drew = w4 at *
      refine wpAnyH_take (i := 0) (oi := ?oir1_0) (v := ?vr1_0) ?hir1_0 (by kernel_rfl) (by kernel_rfl) (by kernel_rfl) ?hqr1_0 ?hyr1_0 (by assumption) ?restr1_0
      case hir1_0 => simp only [List.getElem?_toArray, List.getElem?_cons_succ, List.getElem?_cons_zero]; rfl
      case hqr1_0 => exact fun _ _ _ h => h
      case hyr1_0 => (refine Or.inl ⟨by rfl, ?_⟩; intro w hSw; (try dsimp only at hSw); go_simp; all_goals with_reducible rfl)
      try simp only [Act.put, List.setIfInBounds_toArray, List.set_cons_zero, List.set_cons_succ]
      refine wpAnyH_take (i := 1) (oi := ?oir1_1) (v := ?vr1_1) ?hir1_1 (by kernel_rfl) (by kernel_rfl) (by kernel_rfl) ?hqr1_1 ?hyr1_1 (by assumption) ?restr1_1
      case hir1_1 => simp only [List.getElem?_toArray, List.getElem?_cons_succ, List.getElem?_cons_zero]; rfl
      case hqr1_1 => exact fun _ _ _ h => h
      case hyr1_1 => (refine Or.inl ⟨by rfl, ?_⟩; intro w hSw; (try dsimp only at hSw); go_simp; all_goals with_reducible rfl)
      try simp only [Act.put, List.setIfInBounds_toArray, List.set_cons_zero, List.set_cons_succ]
      refine wpAnyH_take (i := 2) (oi := ?oir1_2) (v := ?vr1_2) ?hir1_2 (by kernel_rfl) (by kernel_rfl) (by kernel_rfl) ?hqr1_2 ?hyr1_2 (by assumption) ?restr1_2
      case hir1_2 => simp only [List.getElem?_toArray, List.getElem?_cons_succ, List.getElem?_cons_zero]; rfl
      case hqr1_2 => exact fun _ _ _ h => h
      case hyr1_2 => (refine Or.inl ⟨by rfl, ?_⟩; intro w hSw; (try dsimp only at hSw); go_simp; all_goals with_reducible rfl)
      try simp only [Act.put, List.setIfInBounds_toArray, List.set_cons_zero, List.set_cons_succ]
      refine wpAnyH_take (i := 3) (oi := ?oir1_3) (v := ?vr1_3) ?hir1_3 (by kernel_rfl) (by kernel_rfl) (by kernel_rfl) ?hqr1_3 ?hyr1_3 (by assumption) ?restr1_3
      case hir1_3 => simp only [List.getElem?_toArray, List.getElem?_cons_succ, List.getElem?_cons_zero]; rfl
      case hqr1_3 => exact fun _ _ _ h => h
      case hyr1_3 => (refine Or.inl ⟨by rfl, ?_⟩; intro w hSw; (try dsimp only at hSw); go_simp; all_goals with_reducible rfl)
      try simp only [Act.put, List.setIfInBounds_toArray, List.set_cons_zero, List.set_cons_succ]
      refine wpAnyH_take (i := 4) (oi := ?oir1_4) (v := ?vr1_4) ?hir1_4 (by kernel_rfl) (by kernel_rfl) (by kernel_rfl) ?hqr1_4 ?hyr1_4 (by assumption) ?restr1_4
      case hir1_4 => simp only [List.getElem?_toArray, List.getElem?_cons_succ, List.getElem?_cons_zero]; rfl
      case hqr1_4 => exact fun _ _ _ h => h
      case hyr1_4 => (refine Or.inl ⟨by rfl, ?_⟩; intro w hSw; (try dsimp only at hSw); go_simp; all_goals with_reducible rfl)
      try simp only [Act.put, List.setIfInBounds_toArray, List.set_cons_zero, List.set_cons_succ]
      refine wpAnyH_ready (rs := [5]) (by kernel_rfl) (by simp) ?_
      refine AllReadyH.cons (o := ?oz2) ?hoz2 (fun K hK => ?kz2) AllReadyH.nil
      case hoz2 => simp only [List.getElem?_toArray, List.getElem?_cons_succ, List.getElem?_cons_zero]; rfl
      go_simp
      refine (cloneI_any w4 (HM.out.below P2.below) hmn).mono ?_
      have HP4 := Lib.hid P2.below.size
      rintro e w5 ⟨a', c', rfl, hc, hb⟩
      have P3 := P2.later hb
      have O3 := O2.later hb
      have Q3 := Q2.below hb
      have R3 := R2.later hb
      have HB5 := Lib.hid hb
      clear k2 r0 P2 O2 Q2 R2 hb
      have k2 := P3.cell 2 _ rfl
      have r0 := R3.cell 0 _ rfl
      go_wp2_with fail
      refine hK.out _ _ ?_ (fun hHeld => ?_)
      · exact ⟨k2, r0⟩
      clear hK K
      try simp only [Act.put, List.setIfInBounds_toArray, List.set_cons_zero, List.set_cons_succ]
      have hlt2 : i < n_r := hlt
      refine wpAnyH_take (i := 6) (oi := ?oir3_6) (v := ?vr3_6) ?hir3_6 (by kernel_rfl) (by kernel_rfl) (by kernel_rfl) ?hqr3_6 ?hyr3_6 (by assumption) ?restr3_6
      case hir3_6 => simp only [List.getElem?_toArray, List.getElem?_cons_succ, List.getElem?_cons_zero]; rfl
      case hqr3_6 => exact fun _ _ _ h => h
      case hyr3_6 => (refine Or.inl ⟨by rfl, ?_⟩; intro w hSw; (try dsimp only at hSw); go_simp; all_goals with_reducible rfl)
      try simp only [Act.put, List.setIfInBounds_toArray, List.set_cons_zero, List.set_cons_succ]
      refine wpAnyH_take (i := 7) (oi := ?oir3_7) (v := ?vr3_7) ?hir3_7 (by kernel_rfl) (by kernel_rfl) (by kernel_rfl) ?hqr3_7 ?hyr3_7 (by assumption) ?restr3_7
      case hir3_7 => simp only [List.getElem?_toArray, List.getElem?_cons_succ, List.getElem?_cons_zero]; rfl
      case hqr3_7 => exact fun _ _ _ h => h
      case hyr3_7 => (refine Or.inl ⟨by rfl, ?_⟩; intro w hSw; (try dsimp only at hSw); go_simp; all_goals with_reducible rfl)
      try simp only [Act.put, List.setIfInBounds_toArray, List.set_cons_zero, List.set_cons_succ]
      have hg5 : w5.heap[g]? = wr.heap[g]? := by
        have h1 : g < wr.heap.size := (Array.getElem?_eq_some_iff.1 HG.out).1
        have h2 := HAL.out.size
        have h3 := HDW.out.size
        have h4 := HB5.out.size
        rw [HB5.out.block g (by omega), HDW.out.block g (by omega), HAL.out.block g h1]
      have HG5 := Lib.hid (hg5.trans HG.out)
      clear hg5
      have t0 : ∃ v, w5.cell? ⟨g, i * 2, none⟩ = some v := by
        obtain ⟨b, off, e, t0, -⟩ := Q3.rd.cell i hlt
        simp only [Option.some.injEq, Addr.mk.injEq, and_true] at e
        obtain ⟨rfl, rfl⟩ := e
        rw [Nat.zero_add] at t0
        exact ⟨_, t0⟩
      obtain ⟨v0, t0⟩ := t0
      have f0 := Q3.free (i * 2)
      have HNE := Lib.hid (And.intro hne hne2)
      refine wpAnyH_ready (rs := [8]) (by kernel_rfl) (by simp) ?_
      refine AllReadyH.cons (o := ?oz4) ?hoz4 (fun K hK => ?kz4) AllReadyH.nil
      case hoz4 => simp only [List.getElem?_toArray, List.getElem?_cons_succ, List.getElem?_cons_zero]; rfl
      have HWS := Lib.hid (show w.heap.size ≤ w4.heap.size from HP4.out)
      have kq := R3.other (p := ⟨g, i * 2, none⟩) (by have h1 : g < wr.heap.size := (Array.getElem?_eq_some_iff.1 HG.out).1; have h2 := HGQ.out; show gq ≠ g; omega) (Nat.le_trans hsz hgb) (.slice a' n_m c')
      have kk := kq.cell 0 _ rfl
      go_simp
      have hwg : w.heap.size ≤ g := Nat.le_trans hsz hgb
      have P4 := P3.other (p := ⟨g, i * 2, none⟩) HNE.out.1 hwg (.slice a' n_m c')
      have O4 := O3.other (p := ⟨g, i * 2, none⟩) HNE.out.2 hwg (.slice a' n_m c')
      have Q4 := Q3.setU hlt (x := .slice a' n_m c') rfl
      have HS4 : Hid (∀ (j : Nat) y p, rs[j]? = some y → (qs.set i ⟨.slice a' n_m c', (pth qs i).v, rfl, (pth qs i).hv⟩)[j]? = some p → (j < i + 1 → rowO w.heap.size (w5.setCell ⟨g, i * 2, none⟩ (.slice a' n_m c')) y p.u p.v) ∧ (i + 1 ≤ j → rowE w y p.u p.v)) := Lib.hid fun j y p h1 h2 => by
        rcases pset_at h2 with ⟨rfl, rfl⟩ | ⟨h3, h4⟩
        · rw [HX.out] at h1
          cases h1
          refine ⟨fun _ => ⟨?_, HE2.out, a', n_m, c', rfl, ?_⟩, fun h => absurd h (by omega)⟩
          · show (pth qs j).v = _
            rw [HPQ.out, HE1.out]
          · exact (hc.base_le (by have h1 := P3.below.size; have h2 := HB5.out.size; have h3 := P3.below.size; exact HWS.out)).setHi HG5.out (by decide) _
        · have h5 := hS.out j y p h1 h4
          refine ⟨fun h => ?_, fun h => h5.2 (by omega)⟩
          have h6 := ((h5.1 (by omega)).below (HAL.out.trans ((HDW.out.mono HAL.out.size).trans (HB5.out.mono (by have h1 := HAL.out.size; have h2 := HDW.out.size; omega)))))
          exact h6.keep HG5.out (keepB_cell _ _ _ _)
      clear hc t0 f0 P3 O3 Q3 R3 k2 r0
      have k2 := P4.cell 2 _ rfl
      refine hK.out _ _ ?_ (fun hHeld => ?_)
      · exact ⟨k2, kk⟩
      clear hK K kk kq k2
      try simp only [Act.put, List.setIfInBounds_toArray, List.set_cons_zero, List.set_cons_succ]
      refine wpAnyH_done (by kernel_rfl) ?_ _
      go_wp2_with fail
      subst hOG
      go_roundw
      case rel => exact ⟨i + 1, _, by omega, by go_num, P4, O4, Q4, HS4⟩
      case measure => simp [intOf]; omega

end Go.Proofs.Ythpjnbnheagpiaa
