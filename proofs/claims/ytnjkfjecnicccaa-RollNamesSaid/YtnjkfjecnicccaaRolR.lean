/- Read of both. Condition: at most 2^40 bytes. Printed by gen_rolr.py. -/
import Derived.Test.YtnjkfjecnicccaaRolI
import Derived.Test.YtnjkfjecnicccaaOctetF
import Derived.Test.YtnjkfjecnicccaaOctetE
import Derived.Test.YtnjkfjecnicccaaWOctetTells
namespace Go.Proofs.Ytnjkfjecnicccaa
open Go.RowKit Go.Suf
set_option linter.unusedVariables false
set_option linter.unusedSimpArgs false

theorem joinX_flat {l : List (List Nat)} {xs : List Nat} (h : joinX [] l = (xs, 0)) : xs = l.flatMap field := by
  rw [joinX_eq l [] (Nat.zero_le _)] at h
  split at h
  · simpa using (congrArg Prod.fst h).symm
  · have := congrArg Prod.snd h
    simp at this

theorem split_count {xs : List Nat} (hx : ∀ x ∈ xs, x < 256) : (splitX xs).1.length ≤ xs.length := by
  rcases join_split xs hx with ⟨_, h1, _⟩ | ⟨_, h1⟩
  · have e := joinX_flat h1
    have : ∀ l : List (List Nat), l.length ≤ (l.flatMap field).length := by
      intro l
      induction l with
      | nil => simp
      | cons y l ih =>
        have := field_length y
        rw [List.flatMap_cons, List.length_append, List.length_cons]
        omega
    exact Nat.le_trans (this _) (Nat.le_of_eq (congrArg List.length e.symm))
  · rw [h1]
    simp

theorem OwL.at {base : Nat} {w : World} {a : Option Addr} {n cap : Nat} {xss : List (List Nat)} (h : OwL base w a n cap xss) (i : Nat) (hi : i < n) :
    ∃ b off q m k, a = some ⟨b, off, none⟩ ∧ base ≤ b ∧ w.cell? ⟨b, off + i, none⟩ = some (.slice q m k) ∧ Ow .u8 5 base w q m k (lth xss i) := by
  obtain ⟨vs, hv, ho, hr⟩ := h.row
  obtain ⟨g, rfl, hg, hlt⟩ := own_block hv (by omega)
  obtain ⟨q, m, k, e1, e2⟩ := hr i hi
  obtain ⟨b, off, e, hc⟩ := (sl_of_own hv ho).cell i _ e1
  obtain ⟨rfl, rfl⟩ : g = b ∧ 0 = off := by simpa using e
  exact ⟨g, 0, q, m, k, rfl, hg, hc, e2⟩


/-- 'x[i:]' of numbers, as the walk spells its place. -/
theorem rd_from {k : IntKind} {w : World} {b off n cap : Nat} {xs : List Nat} (h : Rd k w (some ⟨b, off, none⟩) n cap xs) (i : Nat) (hi : i ≤ n) :
    Rd k w (if cap = i then some ⟨b, off, none⟩ else some ⟨b, off + i, none⟩) (n - i) (cap - i) (xs.drop i) := by
  have hle := h.le
  have hmx := h.sl.max
  by_cases e : cap = i
  · rw [if_pos e]
    have hn : n = i := by omega
    have hx : xs.drop i = [] := List.drop_eq_nil_of_le (by rw [h.len]; omega)
    rw [hx]
    exact ⟨by simp; omega, Sl.empty _ _ _ (by omega) (fun hh => by simp at hh), fun x hx => by simp at hx⟩
  · rw [if_neg e]
    have := h.part i n cap hi (Nat.le_refl _) hle (Nat.le_refl _) (off + i) (fun _ => rfl)
    rwa [List.take_of_length_le (by rw [h.len]; exact Nat.le_refl _)] at this

theorem rdV_new (w : World) (v : VQ) (hv : VW v) : RdV (w.alloc (.cells #[.string v.nm, .int .i64 v.pc, .int .u8 ((v.st : Nat) : Int)] 32)) (some ⟨w.heap.size, 0, none⟩) 1 1 [v] :=
  rdV_row (vs := [v]) rfl (heap_alloc_new _ _) (Nat.le_refl _) (by decide) (fun j u h => by
    have : (vflat [v])[j]? = (vcells v)[j]? := by simp [vflat]
    rw [this] at h
    simpa [vcells] using h) (fun x hx => by simp at hx; subst hx; exact hv)

/-- The append of one's own row of voters, as one operation of a region. -/
theorem op_appV {o : Oper} {a : Act} {w : World} {K : Act → World → Prop} {Q : Exit → Act → World → Prop} (s x : Operand)
    (ho : o.op = .call { callee := .builtin .append, args := #[s, x], argTypes := #[22, 22] })
    (base : Nat) {a1 : Option Addr} {n1 cap1 : Nat} {vs : List VQ} (hs : a.eval s = .slice a1 n1 cap1) (hown : OwV base w a1 n1 cap1 vs)
    {ad : Addr} {n2 cap2 : Nat} {us : List VQ} (hx : a.eval x = .slice (some ad) n2 cap2) (hr : RdV w (some ad) n2 cap2 us)
    (hm : n1 + n2 ≤ 2199023255552) (hbase : base ≤ w.heap.size)
    (h : ∀ a' cap' w', OwV base w' a' (n1 + n2) cap' (vs ++ us) → w.grownBy w' (Value.ownBlock (.slice a1 n1 cap1)) → Below base w w' → K (a.put o.dst (.slice a' (n1 + n2) cap')) w') : o.wp Try.prog a w K Q := by
  obtain ⟨i, hi, hz, h1, hby⟩ := infoV
  have below : ∀ {w'}, w.grownBy w' (Value.ownBlock (.slice a1 n1 cap1)) → Below base w w' := fun hg =>
    (Below.refl base w).grown hg hbase (fun k hk => (hown.own.lt k hk).1)
  have wf : ∀ v ∈ vs ++ us, VW v := fun v hv => by
    rcases List.mem_append.1 hv with h | h
    · exact hown.wf v h
    · exact hr.wf v h
  have hlen : (vs ++ us).length = n1 + n2 := by rw [List.length_append, hown.len, hr.len]
  refine wp_append_own w s x 22 ho base 32 i _ 3 32 Try.underlying22 hi hz h1 hby rfl (by decide) _ n1 (vflat vs) hs hown.own ad n2 cap2 (vflat us) hx (by rw [vflat_length, hr.len]) (fun j u hu => ?_) (vflat_one us) (by unfold maxLen; omega) (by omega) hbase ?_
  · obtain ⟨hj1, hj2⟩ := vflat_some hu
    obtain ⟨b, off, e, k0, k1, k2⟩ := hr.cell (j / 3) (by rw [← hr.len]; exact hj1)
    simp only [Option.some.injEq] at e
    subst e
    have ea : (⟨b, off, none⟩ : Addr).add j = ⟨b, off + j, none⟩ := by unfold Addr.add; split <;> simp_all
    rw [ea]
    have h3 : j % 3 = 0 ∨ j % 3 = 1 ∨ j % 3 = 2 := by omega
    rcases h3 with h3 | h3 | h3 <;> rw [h3] at hj2 <;> simp [vcells] at hj2 <;> subst hj2
    · rw [show off + j = off + j / 3 * 3 by omega]; exact k0
    · rw [show off + j = off + j / 3 * 3 + 1 by omega]; exact k1
    · rw [show off + j = off + j / 3 * 3 + 2 by omega]; exact k2
  · intro v' w' hown' hg _
    rw [← vflat_append] at hown'
    rcases hown'.2 with ⟨hv, hn⟩ | ⟨g, cap', cur, hv, _⟩
    · subst hv
      have hn0 : n1 + n2 = 0 := hn
      have h' := h none 0 w' ⟨hlen, by rw [hn0] at hown' ⊢; exact hown', wf⟩ hg (below hg)
      rw [hn0] at h'
      exact h'
    · subst hv
      exact h _ _ w' ⟨hlen, hown', wf⟩ hg (below hg)

/-- A voter out of a field. -/
def votF (f : List Nat) : VQ := ⟨strB (f.drop 2), (nth f 0 : Nat), nth f 1⟩
def fmtV (l : List (List Nat)) : List VQ × Int := if (l.all fun f => decide (2 ≤ f.length)) = true ∧ chkV (l.map votF) = 0 then (l.map votF, 0) else ([], 11)
def readV (xs : List Nat) : List VQ × Int := if (splitX xs).2 = 0 then fmtV (splitX xs).1 else ([], (splitX xs).2)

theorem wrap_in' {z : Int} (h1 : -9223372036854775808 ≤ z) (h2 : z ≤ 9223372036854775807) : IntKind.i64.wrap z = z := wrap_in h1 h2

set_option maxRecDepth 100000 in
set_option maxHeartbeats 8000000 in
theorem Read_any (w : World) {a : Option Addr} {n cap : Nat} {xs : List Nat} (h : Rd .u8 w a n cap xs) (hn : n ≤ 1099511627776) :
    Calls Try.prog 18 #[.slice a n cap] w (RetVE w (readV xs)) := by
  obtain ⟨r, hr⟩ : ∃ r, r = readV xs := ⟨_, rfl⟩
  rw [← hr]
  have HC := Lib.hid (show (splitX xs).1.length ≤ n by rw [← h.len]; exact split_count h.bd)
  have c := Split_any w h hn
  go_enter Try.func18, Try.ntmps18
  go_wp2_with fail
  refine c.mono ?_
  rintro e w1 ⟨a1, n1, c1, rfl, ho1, hb1⟩
  clear c
  by_cases hz : (splitX xs).2 = 0
  case neg =>
    have HE := Lib.hid (show r = ([], (splitX xs).2) by rw [hr, readV, if_neg hz])
    clear hr
    go_wp2_with fail
    go_ret2
    exact RetVE.nil HE.out hb1
  have hr1 : r = fmtV (splitX xs).1 := by rw [hr, readV, if_pos hz]
  rw [hz]
  clear hr hz
  generalize (splitX xs).1 = l at *
  have HL := Lib.hid ho1.len
  have hmx : n1 ≤ 1099511627776 := by have := HC.out; have := HL.out; omega
  have HR := Lib.hid hr1
  have HB1 := Lib.hid hb1
  have hov0 : OwV w1.heap.size w1 none 0 0 ((l.take 0).map votF) := OwV.nil _ _
  have hz1 := hb1.size
  clear hr1 hb1
  go_wp2_with fail
  go_loopw [2, 17] (fun v j wr => ∃ i a' c', i ≤ n1 ∧ v = .slice a' i c' ∧ j = .int .i64 (i : Nat) ∧ OwV w1.heap.size wr a' i c' ((l.take i).map votF) ∧ Below w1.heap.size w1 wr ∧ Hid (∀ q, q < i → 2 ≤ (lth l q).length)) (fun _ j _ => n1 - (intOf j).toNat)
  case atStart => exact ⟨0, none, 0, Nat.zero_le _, rfl, rfl, hov0, Below.refl _ _, Lib.hid fun q hq => absurd hq (by omega)⟩
  clear hov0
  case round =>
    rename_i wr _
    obtain ⟨i, a', c', hi, rfl, rfl, hov, hB, hS⟩ := hrel
    by_cases hlt : i < n1
    case neg =>
      obtain rfl : i = n1 := by omega
      have hall : (l.take i).map votF = l.map votF := by rw [← HL.out, List.take_length]
      rw [hall] at hov
      have HA : Hid ((l.all fun f => decide (2 ≤ f.length)) = true) := Lib.hid (List.all_eq_true.2 fun f hf => by
        obtain ⟨q, hq, rfl⟩ := List.getElem_of_mem hf
        have := hS.out q (by rw [← HL.out]; exact hq)
        rw [show lth l q = l[q] by simp [lth, hq]] at this
        exact decide_eq_true this)
      obtain ⟨ck, hck⟩ : ∃ ck, chkV (l.map votF) = ck := ⟨_, rfl⟩
      have HCK := Lib.hid hck
      have c := Check_any wr hov.rd
      rw [hck] at c
      clear hck hall
      go_wp2_with fail
      refine c.mono ?_
      rintro e w2 ⟨rfl, hb2⟩
      clear c
      have hov := hov.below hb2
      have HB := Lib.hid (HB1.out.trans ((hB.trans (hb2.mono hB.size)).mono hz1))
      clear hB hb2
      by_cases hc : ck = 0
      case neg =>
        have HE : Hid (r = ([], 11)) := Lib.hid (by rw [HR.out, fmtV, HCK.out, if_neg (fun h => hc h.2)])
        go_wp2_with fail
        go_ret2
        exact RetVE.nil HE.out HB.out
      case pos =>
        have HE : Hid (r = (l.map votF, 0)) := Lib.hid (by rw [HR.out, fmtV, HCK.out, if_pos ⟨HA.out, hc⟩])
        subst hc
        have HO := Lib.hid (hov.base_le hz1)
        clear hov
        go_wp2_with fail
        go_ret2
        rw [HE.out]
        exact ⟨_, _, _, rfl, HO.out, HB.out⟩
    case pos =>
      obtain ⟨b, off, q, m, k, rfl, hbb, hce, hoe⟩ := ho1.at i (by omega)
      have hkw := hoe.rd.lt
      have HM := Lib.hid hoe.len
      have hlw : ((i : Nat) : Int) < (n1 : Int) := by omega
      have hld : decide (((i : Nat) : Int) < (n1 : Int)) = true := decide_eq_true hlw
      by_cases hm : m < 2
      case pos =>
        have HE : Hid (r = ([], 11)) := Lib.hid (by
          rw [HR.out, fmtV, if_neg]
          rintro ⟨h1, _⟩
          have := List.all_eq_true.1 h1 _ (lth_mem (xss := l) (i := i) (by rw [HL.out]; exact hlt))
          have := of_decide_eq_true this
          rw [HM.out] at this
          omega)
        have ce := cell_below hB hce
        have HB := Lib.hid (HB1.out.trans (hB.mono hz1))
        clear hov hoe
        go_wp2_with fail
        go_ret2
        exact RetVE.nil HE.out HB.out
      case neg =>
        obtain ⟨fl, hfl⟩ : ∃ fl, lth l i = fl := ⟨_, rfl⟩
        rw [hfl] at hoe
        have HFL := Lib.hid hfl
        clear hfl
        obtain ⟨bq, oq, rfl, hc0, lv0⟩ := hoe.rd.cell 0 (by omega)
        have hrq := rd_from hoe.rd 2 (by omega)
        obtain ⟨bq', oq', eq', hc1, lv1⟩ := hoe.rd.cell 1 (by omega)
        obtain ⟨rfl, rfl⟩ : bq = bq' ∧ oq = oq' := by simpa using eq'
        clear eq'
        rw [Nat.add_zero] at hc0
        have lv0 : nth fl 0 < 256 := lv0
        have lv1 : nth fl 1 < 256 := lv1
        have hvw : VW (votF fl) := ⟨by show (-9223372036854775808 : Int) ≤ ((nth fl 0 : Nat) : Int); omega, by show ((nth fl 0 : Nat) : Int) ≤ 9223372036854775807; omega, lv1⟩
        have HCV := Lib.hid (fun w' hb => convB (hrq.below (w' := w') hb))
        have Hc0 := Lib.hid hc0
        have Hc1 := Lib.hid hc1
        have Hce := Lib.hid hce
        have HVW := Lib.hid hvw
        have hwr := wrap_in (z := ((nth fl 0 : Nat) : Int)) (by omega) (by omega)
        have ce := cell_below hB hce
        clear hc0 hc1 hvw hrq hce
        have hsz0 := hB.size
        have hm0 : 0 < m := by omega
        have hm1 : 1 < m := by omega
        have hm2 : 2 ≤ m := by omega
        have hm1' : (1 : Int) < (m : Int) := by omega
        have hm2' : (2 : Int) ≤ (m : Int) := by omega
        go_upto_region 9 with fail
        have D0 : Below wr.heap.size wr wr.drew := (Below.refl _ _).drew
        have hBd := hB.trans (D0.mono hB.size)
        refine wp_region_held_drew (S := (fun w' => Sem.run Try.prog (convert 34 9 (.slice (if k = 2 then some ⟨bq, oq, none⟩ else some ⟨bq, oq + 2, none⟩) (m - 2) (k - 2))) w' = .ok (.string (strB (fl.drop 2))) w' ∧ w'.cell? ⟨bq, oq, none⟩ = some (.int .u8 ((nth fl 0 : Nat) : Int)) ∧ w'.cell? ⟨bq, oq + 1, none⟩ = some (.int .u8 ((nth fl 1 : Nat) : Int)))) (by kernel_rfl) ?_ (fun hHeld => ?_)
        · exact ⟨HCV.out _ hBd, cell_below hBd Hc0.out, cell_below hBd Hc1.out⟩
        have hov := hov.below D0
        clear ce D0 hB
        generalize wr.drew = wd at *
        refine wpAnyH_take (i := 0) (oi := ?oir1_0) (v := ?vr1_0) ?hir1_0 (by kernel_rfl) (by kernel_rfl) (by kernel_rfl) ?hqr1_0 ?hyr1_0 (by assumption) ?restr1_0
        case hir1_0 => simp only [List.getElem?_toArray, List.getElem?_cons_succ, List.getElem?_cons_zero]; rfl
        case hqr1_0 => exact fun _ _ _ h => h
        case hyr1_0 => (refine Or.inl ⟨by rfl, ?_⟩; intro w hSw; (try dsimp only at hSw); go_simp; all_goals with_reducible rfl)
        try simp only [Act.put, List.setIfInBounds_toArray, List.set_cons_zero, List.set_cons_succ]
        refine wpAnyH_take (i := 1) (oi := ?oir1_1) (v := ?vr1_1) ?hir1_1 (by kernel_rfl) (by kernel_rfl) (by kernel_rfl) ?hqr1_1 ?hyr1_1 (by assumption) ?restr1_1
        case hir1_1 => simp only [List.getElem?_toArray, List.getElem?_cons_succ, List.getElem?_cons_zero]; rfl
        case hqr1_1 => exact fun _ _ _ h => h
        case hyr1_1 => (refine Or.inl ⟨by rfl, ?_⟩; intro w hSw; (try dsimp only at hSw); go_simp; all_goals with_reducible rfl)
        try simp only [Act.put, List.setIfInBounds_toArray, List.set_cons_zero, List.set_cons_succ]
        refine wpAnyH_take (i := 2) (oi := ?oir1_2) (v := ?vr1_2) ?hir1_2 (by kernel_rfl) (by kernel_rfl) (by kernel_rfl) ?hqr1_2 ?hyr1_2 (by assumption) ?restr1_2
        case hir1_2 => simp only [List.getElem?_toArray, List.getElem?_cons_succ, List.getElem?_cons_zero]; rfl
        case hqr1_2 => exact fun _ _ _ h => h
        case hyr1_2 => (refine Or.inl ⟨by rfl, ?_⟩; intro w hSw; (try dsimp only at hSw); go_simp; all_goals with_reducible rfl)
        try simp only [Act.put, List.setIfInBounds_toArray, List.set_cons_zero, List.set_cons_succ]
        refine wpAnyH_take (i := 3) (oi := ?oir1_3) (v := ?vr1_3) ?hir1_3 (by kernel_rfl) (by kernel_rfl) (by kernel_rfl) ?hqr1_3 ?hyr1_3 (by assumption) ?restr1_3
        case hir1_3 => simp only [List.getElem?_toArray, List.getElem?_cons_succ, List.getElem?_cons_zero]; rfl
        case hqr1_3 => exact fun _ _ _ h => h
        case hyr1_3 => (refine Or.inl ⟨by rfl, ?_⟩; intro w hSw; (try dsimp only at hSw); go_simp; all_goals with_reducible rfl)
        try simp only [Act.put, List.setIfInBounds_toArray, List.set_cons_zero, List.set_cons_succ]
        refine wpAnyH_take (i := 4) (oi := ?oir1_4) (v := ?vr1_4) ?hir1_4 (by kernel_rfl) (by kernel_rfl) (by kernel_rfl) ?hqr1_4 ?hyr1_4 (by assumption) ?restr1_4
        case hir1_4 => simp only [List.getElem?_toArray, List.getElem?_cons_succ, List.getElem?_cons_zero]; rfl
        case hqr1_4 => exact fun _ _ _ h => h
        case hyr1_4 => (refine Or.inl ⟨by rfl, ?_⟩; intro w hSw; (try dsimp only at hSw); go_simp; all_goals with_reducible rfl)
        try simp only [Act.put, List.setIfInBounds_toArray, List.set_cons_zero, List.set_cons_succ]
        refine wpAnyH_take (i := 5) (oi := ?oir1_5) (v := ?vr1_5) ?hir1_5 (by kernel_rfl) (by kernel_rfl) (by kernel_rfl) ?hqr1_5 ?hyr1_5 (by assumption) ?restr1_5
        case hir1_5 => simp only [List.getElem?_toArray, List.getElem?_cons_succ, List.getElem?_cons_zero]; rfl
        case hqr1_5 => exact fun _ _ _ h => h
        case hyr1_5 => (refine Or.inl ⟨by rfl, ?_⟩; intro w hSw; (try dsimp only at hSw); go_simp; all_goals with_reducible rfl)
        try simp only [Act.put, List.setIfInBounds_toArray, List.set_cons_zero, List.set_cons_succ]
        refine wpAnyH_take (i := 6) (oi := ?oir1_6) (v := ?vr1_6) ?hir1_6 (by kernel_rfl) (by kernel_rfl) (by kernel_rfl) ?hqr1_6 ?hyr1_6 (by assumption) ?restr1_6
        case hir1_6 => simp only [List.getElem?_toArray, List.getElem?_cons_succ, List.getElem?_cons_zero]; rfl
        case hqr1_6 => exact fun _ _ _ h => h
        case hyr1_6 => (refine Or.inl ⟨by rfl, ?_⟩; intro w hSw; (try dsimp only at hSw); go_simp; all_goals with_reducible rfl)
        try simp only [Act.put, List.setIfInBounds_toArray, List.set_cons_zero, List.set_cons_succ]
        refine wpAnyH_take (i := 7) (oi := ?oir1_7) (v := ?vr1_7) ?hir1_7 (by kernel_rfl) (by kernel_rfl) (by kernel_rfl) ?hqr1_7 ?hyr1_7 (by assumption) ?restr1_7
        case hir1_7 => simp only [List.getElem?_toArray, List.getElem?_cons_succ, List.getElem?_cons_zero]; rfl
        case hqr1_7 => exact fun _ _ _ h => h
        case hyr1_7 => (refine Or.inl ⟨by rfl, ?_⟩; intro w hSw; (try dsimp only at hSw); go_simp; all_goals with_reducible rfl)
        try simp only [Act.put, List.setIfInBounds_toArray, List.set_cons_zero, List.set_cons_succ]
        refine wpAnyH_take (i := 8) (oi := ?oir1_8) (v := ?vr1_8) ?hir1_8 (by kernel_rfl) (by kernel_rfl) (by kernel_rfl) ?hqr1_8 ?hyr1_8 (by assumption) ?restr1_8
        case hir1_8 => simp only [List.getElem?_toArray, List.getElem?_cons_succ, List.getElem?_cons_zero]; rfl
        case hqr1_8 => exact fun _ _ _ h => h
        case hyr1_8 => (refine Or.inl ⟨by rfl, ?_⟩; intro w hSw; (try dsimp only at hSw); go_simp; all_goals with_reducible rfl)
        try simp only [Act.put, List.setIfInBounds_toArray, List.set_cons_zero, List.set_cons_succ]
        refine wpAnyH_take (i := 9) (oi := ?oir1_9) (v := ?vr1_9) ?hir1_9 (by kernel_rfl) (by kernel_rfl) (by kernel_rfl) ?hqr1_9 ?hyr1_9 (by assumption) ?restr1_9
        case hir1_9 => simp only [List.getElem?_toArray, List.getElem?_cons_succ, List.getElem?_cons_zero]; rfl
        case hqr1_9 => exact fun _ _ _ h => h
        case hyr1_9 => (refine Or.inl ⟨by rfl, ?_⟩; intro w hSw; (try dsimp only at hSw); go_simp; all_goals with_reducible rfl)
        try simp only [Act.put, List.setIfInBounds_toArray, List.set_cons_zero, List.set_cons_succ]
        refine wpAnyH_take (i := 10) (oi := ?oir1_10) (v := ?vr1_10) ?hir1_10 (by kernel_rfl) (by kernel_rfl) (by kernel_rfl) ?hqr1_10 ?hyr1_10 (by assumption) ?restr1_10
        case hir1_10 => simp only [List.getElem?_toArray, List.getElem?_cons_succ, List.getElem?_cons_zero]; rfl
        case hqr1_10 => exact fun _ _ _ h => h
        case hyr1_10 => (refine Or.inl ⟨by rfl, ?_⟩; intro w hSw; (try dsimp only at hSw); go_simp; all_goals with_reducible rfl)
        try simp only [Act.put, List.setIfInBounds_toArray, List.set_cons_zero, List.set_cons_succ]
        refine wpAnyH_take (i := 11) (oi := ?oir1_11) (v := ?vr1_11) ?hir1_11 (by kernel_rfl) (by kernel_rfl) (by kernel_rfl) ?hqr1_11 ?hyr1_11 (by assumption) ?restr1_11
        case hir1_11 => simp only [List.getElem?_toArray, List.getElem?_cons_succ, List.getElem?_cons_zero]; rfl
        case hqr1_11 => exact fun _ _ _ h => h
        case hyr1_11 => (refine Or.inl ⟨by rfl, ?_⟩; intro w hSw; (try dsimp only at hSw); go_simp; all_goals with_reducible rfl)
        try simp only [Act.put, List.setIfInBounds_toArray, List.set_cons_zero, List.set_cons_succ]
        try simp only [hwr]
        refine wpAnyH_ready (rs := [12]) (by kernel_rfl) (by simp) ?_
        refine (AllReadyH.cons (o := ?ob5_12) ?hob5_12 (fun K hK => ?kb5_12) AllReadyH.nil)
        case hob5_12 => simp only [List.getElem?_toArray, List.getElem?_cons_succ, List.getElem?_cons_zero]; rfl
        case kb5_12 =>
          go_simp
          refine hK.out _ _ ?_ (fun hHeld => ?_)
          · exact ⟨HCV.out _ (hBd.trans ((below_al wd _).mono hBd.size)), cell_below (hBd.trans ((below_al wd _).mono hBd.size)) Hc0.out, cell_below (hBd.trans ((below_al wd _).mono hBd.size)) Hc1.out⟩
          clear hK K
          try simp only [Act.put, List.setIfInBounds_toArray, List.set_cons_zero, List.set_cons_succ]
          refine wpAnyH_ready (rs := [13]) (by kernel_rfl) (by simp) ?_
          refine (AllReadyH.cons (o := ?ob4_13) ?hob4_13 (fun K hK => ?kb4_13) AllReadyH.nil)
          case hob4_13 => simp only [List.getElem?_toArray, List.getElem?_cons_succ, List.getElem?_cons_zero]; rfl
          case kb4_13 =>
            rw [if_pos (by rfl)]
            refine op_appV _ _ rfl w1.heap.size rfl (hov.below (below_al wd _)) rfl (rdV_new wd (votF fl) HVW.out) (by omega) (by rw [World.size_alloc]; have := hBd.size; omega) ?_
            intro a5 c5 w5 hov5 hg5 hb5
            have hB5 := (hBd.trans ((below_al wd (.cells #[.string (votF fl).nm, .int .i64 (votF fl).pc, .int .u8 (((votF fl).st : Nat) : Int)] 32)).mono hBd.size)).trans hb5
            refine hK.out _ _ ?_ (fun hHeld => ?_)
            · exact ⟨HCV.out _ hB5, cell_below hB5 Hc0.out, cell_below hB5 Hc1.out⟩
            clear hK K
            try simp only [Act.put, List.setIfInBounds_toArray, List.set_cons_zero, List.set_cons_succ]
            refine wpAnyH_take (i := 14) (oi := ?oir3_14) (v := ?vr3_14) ?hir3_14 (by kernel_rfl) (by kernel_rfl) (by kernel_rfl) ?hqr3_14 ?hyr3_14 (by assumption) ?restr3_14
            case hir3_14 => simp only [List.getElem?_toArray, List.getElem?_cons_succ, List.getElem?_cons_zero]; rfl
            case hqr3_14 => exact fun _ _ _ h => h
            case hyr3_14 => (refine Or.inl ⟨by rfl, ?_⟩; intro w hSw; (try dsimp only at hSw); go_simp; all_goals with_reducible rfl)
            try simp only [Act.put, List.setIfInBounds_toArray, List.set_cons_zero, List.set_cons_succ]
            refine wpAnyH_done (by kernel_rfl) ?_ _
            go_wp2_with fail
            go_roundw
            case rel =>
              have ht : (l.take (i + 1)).map votF = (l.take i).map votF ++ [votF fl] := by
                rw [take_lth l i (by rw [HL.out]; exact hlt), List.map_append, HFL.out]
                rfl
              exact ⟨i + 1, a5, c5, by omega, rfl, by go_num, by rw [ht]; exact hov5, hB5, Lib.hid fun q hq => by
                by_cases hqi : q < i
                · exact hS.out q hqi
                · obtain rfl : q = i := by omega
                  have := HM.out
                  omega⟩
            case measure => simp [intOf]; omega

set_option maxRecDepth 100000 in
set_option maxHeartbeats 8000000 in
theorem refRead_any (w : World) {a : Option Addr} {n cap : Nat} {xs : List Nat} (h : Rd .u8 w a n cap xs) (hn : n ≤ 1099511627776) :
    Calls Try.prog 19 #[.slice a n cap] w (RetVE w (readV xs)) := by
  obtain ⟨r, hr⟩ : ∃ r, r = readV xs := ⟨_, rfl⟩
  rw [← hr]
  have HC := Lib.hid (show (splitX xs).1.length ≤ n by rw [← h.len]; exact split_count h.bd)
  have c := refSplit_any w h hn
  go_enter Try.func19, Try.ntmps19
  go_wp2_with fail
  refine c.mono ?_
  rintro e w1 ⟨a1, n1, c1, rfl, ho1, hb1⟩
  clear c
  by_cases hz : (splitX xs).2 = 0
  case neg =>
    have HE := Lib.hid (show r = ([], (splitX xs).2) by rw [hr, readV, if_neg hz])
    clear hr
    go_wp2_with fail
    go_ret2
    exact RetVE.nil HE.out hb1
  have hr1 : r = fmtV (splitX xs).1 := by rw [hr, readV, if_pos hz]
  rw [hz]
  clear hr hz
  generalize (splitX xs).1 = l at *
  have HL := Lib.hid ho1.len
  have hmx : n1 ≤ 1099511627776 := by have := HC.out; have := HL.out; omega
  have HR := Lib.hid hr1
  have HB1 := Lib.hid hb1
  have hov0 : OwV w1.heap.size w1 none 0 0 ((l.take 0).map votF) := OwV.nil _ _
  have hz1 := hb1.size
  clear hr1 hb1
  go_wp2_with fail
  go_loopw [6, 7] (fun v j wr => ∃ i a' c', i ≤ n1 ∧ v = .slice a' i c' ∧ j = .int .i64 (i : Nat) ∧ OwV w1.heap.size wr a' i c' ((l.take i).map votF) ∧ Below w1.heap.size w1 wr ∧ Hid (∀ q, q < i → 2 ≤ (lth l q).length)) (fun _ j _ => n1 - (intOf j).toNat)
  case atStart => exact ⟨0, none, 0, Nat.zero_le _, rfl, rfl, hov0, Below.refl _ _, Lib.hid fun q hq => absurd hq (by omega)⟩
  clear hov0
  case round =>
    rename_i wr _
    obtain ⟨i, a', c', hi, rfl, rfl, hov, hB, hS⟩ := hrel
    by_cases hlt : i < n1
    case neg =>
      obtain rfl : i = n1 := by omega
      have hall : (l.take i).map votF = l.map votF := by rw [← HL.out, List.take_length]
      rw [hall] at hov
      have HA : Hid ((l.all fun f => decide (2 ≤ f.length)) = true) := Lib.hid (List.all_eq_true.2 fun f hf => by
        obtain ⟨q, hq, rfl⟩ := List.getElem_of_mem hf
        have := hS.out q (by rw [← HL.out]; exact hq)
        rw [show lth l q = l[q] by simp [lth, hq]] at this
        exact decide_eq_true this)
      obtain ⟨ck, hck⟩ : ∃ ck, chkV (l.map votF) = ck := ⟨_, rfl⟩
      have HCK := Lib.hid hck
      have c := refCheck_any wr hov.rd
      rw [hck] at c
      clear hck hall
      go_wp2_with fail
      refine c.mono ?_
      rintro e w2 ⟨rfl, hb2⟩
      clear c
      have hov := hov.below hb2
      have HB := Lib.hid (HB1.out.trans ((hB.trans (hb2.mono hB.size)).mono hz1))
      clear hB hb2
      by_cases hc : ck = 0
      case neg =>
        have HE : Hid (r = ([], 11)) := Lib.hid (by rw [HR.out, fmtV, HCK.out, if_neg (fun h => hc h.2)])
        go_wp2_with fail
        go_ret2
        exact RetVE.nil HE.out HB.out
      case pos =>
        have HE : Hid (r = (l.map votF, 0)) := Lib.hid (by rw [HR.out, fmtV, HCK.out, if_pos ⟨HA.out, hc⟩])
        subst hc
        have HO := Lib.hid (hov.base_le hz1)
        clear hov
        go_wp2_with fail
        go_ret2
        rw [HE.out]
        exact ⟨_, _, _, rfl, HO.out, HB.out⟩
    case pos =>
      obtain ⟨b, off, q, m, k, rfl, hbb, hce, hoe⟩ := ho1.at i (by omega)
      have hkw := hoe.rd.lt
      have HM := Lib.hid hoe.len
      have hlw : ((i : Nat) : Int) < (n1 : Int) := by omega
      have hld : decide (((i : Nat) : Int) < (n1 : Int)) = true := decide_eq_true hlw
      by_cases hm : m < 2
      case pos =>
        have HE : Hid (r = ([], 11)) := Lib.hid (by
          rw [HR.out, fmtV, if_neg]
          rintro ⟨h1, _⟩
          have := List.all_eq_true.1 h1 _ (lth_mem (xss := l) (i := i) (by rw [HL.out]; exact hlt))
          have := of_decide_eq_true this
          rw [HM.out] at this
          omega)
        have ce := cell_below hB hce
        have HB := Lib.hid (HB1.out.trans (hB.mono hz1))
        clear hov hoe
        go_wp2_with fail
        go_ret2
        exact RetVE.nil HE.out HB.out
      case neg =>
        obtain ⟨fl, hfl⟩ : ∃ fl, lth l i = fl := ⟨_, rfl⟩
        rw [hfl] at hoe
        have HFL := Lib.hid hfl
        clear hfl
        obtain ⟨bq, oq, rfl, hc0, lv0⟩ := hoe.rd.cell 0 (by omega)
        have hrq := rd_from hoe.rd 2 (by omega)
        obtain ⟨bq', oq', eq', hc1, lv1⟩ := hoe.rd.cell 1 (by omega)
        obtain ⟨rfl, rfl⟩ : bq = bq' ∧ oq = oq' := by simpa using eq'
        clear eq'
        rw [Nat.add_zero] at hc0
        have lv0 : nth fl 0 < 256 := lv0
        have lv1 : nth fl 1 < 256 := lv1
        have hvw : VW (votF fl) := ⟨by show (-9223372036854775808 : Int) ≤ ((nth fl 0 : Nat) : Int); omega, by show ((nth fl 0 : Nat) : Int) ≤ 9223372036854775807; omega, lv1⟩
        have HCV := Lib.hid (fun w' hb => convB (hrq.below (w' := w') hb))
        have Hc0 := Lib.hid hc0
        have Hc1 := Lib.hid hc1
        have Hce := Lib.hid hce
        have HVW := Lib.hid hvw
        have hwr := wrap_in (z := ((nth fl 0 : Nat) : Int)) (by omega) (by omega)
        have ce := cell_below hB hce
        clear hc0 hc1 hvw hrq hce
        have hsz0 := hB.size
        have hm0 : 0 < m := by omega
        have hm1 : 1 < m := by omega
        have hm2 : 2 ≤ m := by omega
        have hm1' : (1 : Int) < (m : Int) := by omega
        have hm2' : (2 : Int) ≤ (m : Int) := by omega
        go_upto_region 10 with fail
        have D0 : Below wr.heap.size wr wr.drew := (Below.refl _ _).drew
        have hBd := hB.trans (D0.mono hB.size)
        refine wp_region_held_drew (S := (fun w' => Sem.run Try.prog (convert 34 9 (.slice (if k = 2 then some ⟨bq, oq, none⟩ else some ⟨bq, oq + 2, none⟩) (m - 2) (k - 2))) w' = .ok (.string (strB (fl.drop 2))) w' ∧ w'.cell? ⟨bq, oq, none⟩ = some (.int .u8 ((nth fl 0 : Nat) : Int)) ∧ w'.cell? ⟨bq, oq + 1, none⟩ = some (.int .u8 ((nth fl 1 : Nat) : Int)) ∧ w'.cell? ⟨b, off + i, none⟩ = some (.slice (some ⟨bq, oq, none⟩) m k))) (by kernel_rfl) ?_ (fun hHeld => ?_)
        · exact ⟨HCV.out _ hBd, cell_below hBd Hc0.out, cell_below hBd Hc1.out, cell_below hBd Hce.out⟩
        have hov := hov.below D0
        clear ce D0 hB
        generalize wr.drew = wd at *
        refine wpAnyH_take (i := 0) (oi := ?oir6_0) (v := ?vr6_0) ?hir6_0 (by kernel_rfl) (by kernel_rfl) (by kernel_rfl) ?hqr6_0 ?hyr6_0 (by assumption) ?restr6_0
        case hir6_0 => simp only [List.getElem?_toArray, List.getElem?_cons_succ, List.getElem?_cons_zero]; rfl
        case hqr6_0 => exact fun _ _ _ h => h
        case hyr6_0 => (refine Or.inl ⟨by rfl, ?_⟩; intro w hSw; (try dsimp only at hSw); go_simp; all_goals with_reducible rfl)
        try simp only [Act.put, List.setIfInBounds_toArray, List.set_cons_zero, List.set_cons_succ]
        refine wpAnyH_take (i := 1) (oi := ?oir6_1) (v := ?vr6_1) ?hir6_1 (by kernel_rfl) (by kernel_rfl) (by kernel_rfl) ?hqr6_1 ?hyr6_1 (by assumption) ?restr6_1
        case hir6_1 => simp only [List.getElem?_toArray, List.getElem?_cons_succ, List.getElem?_cons_zero]; rfl
        case hqr6_1 => exact fun _ _ _ h => h
        case hyr6_1 => (refine Or.inl ⟨by rfl, ?_⟩; intro w hSw; (try dsimp only at hSw); go_simp; all_goals with_reducible rfl)
        try simp only [Act.put, List.setIfInBounds_toArray, List.set_cons_zero, List.set_cons_succ]
        refine wpAnyH_take (i := 2) (oi := ?oir6_2) (v := ?vr6_2) ?hir6_2 (by kernel_rfl) (by kernel_rfl) (by kernel_rfl) ?hqr6_2 ?hyr6_2 (by assumption) ?restr6_2
        case hir6_2 => simp only [List.getElem?_toArray, List.getElem?_cons_succ, List.getElem?_cons_zero]; rfl
        case hqr6_2 => exact fun _ _ _ h => h
        case hyr6_2 => (refine Or.inl ⟨by rfl, ?_⟩; intro w hSw; (try dsimp only at hSw); go_simp; all_goals with_reducible rfl)
        try simp only [Act.put, List.setIfInBounds_toArray, List.set_cons_zero, List.set_cons_succ]
        refine wpAnyH_take (i := 3) (oi := ?oir6_3) (v := ?vr6_3) ?hir6_3 (by kernel_rfl) (by kernel_rfl) (by kernel_rfl) ?hqr6_3 ?hyr6_3 (by assumption) ?restr6_3
        case hir6_3 => simp only [List.getElem?_toArray, List.getElem?_cons_succ, List.getElem?_cons_zero]; rfl
        case hqr6_3 => exact fun _ _ _ h => h
        case hyr6_3 => (refine Or.inl ⟨by rfl, ?_⟩; intro w hSw; (try dsimp only at hSw); go_simp; all_goals with_reducible rfl)
        try simp only [Act.put, List.setIfInBounds_toArray, List.set_cons_zero, List.set_cons_succ]
        refine wpAnyH_take (i := 4) (oi := ?oir6_4) (v := ?vr6_4) ?hir6_4 (by kernel_rfl) (by kernel_rfl) (by kernel_rfl) ?hqr6_4 ?hyr6_4 (by assumption) ?restr6_4
        case hir6_4 => simp only [List.getElem?_toArray, List.getElem?_cons_succ, List.getElem?_cons_zero]; rfl
        case hqr6_4 => exact fun _ _ _ h => h
        case hyr6_4 => (refine Or.inl ⟨by rfl, ?_⟩; intro w hSw; (try dsimp only at hSw); go_simp; all_goals with_reducible rfl)
        try simp only [Act.put, List.setIfInBounds_toArray, List.set_cons_zero, List.set_cons_succ]
        refine wpAnyH_take (i := 5) (oi := ?oir6_5) (v := ?vr6_5) ?hir6_5 (by kernel_rfl) (by kernel_rfl) (by kernel_rfl) ?hqr6_5 ?hyr6_5 (by assumption) ?restr6_5
        case hir6_5 => simp only [List.getElem?_toArray, List.getElem?_cons_succ, List.getElem?_cons_zero]; rfl
        case hqr6_5 => exact fun _ _ _ h => h
        case hyr6_5 => (refine Or.inl ⟨by rfl, ?_⟩; intro w hSw; (try dsimp only at hSw); go_simp; all_goals with_reducible rfl)
        try simp only [Act.put, List.setIfInBounds_toArray, List.set_cons_zero, List.set_cons_succ]
        refine wpAnyH_take (i := 6) (oi := ?oir6_6) (v := ?vr6_6) ?hir6_6 (by kernel_rfl) (by kernel_rfl) (by kernel_rfl) ?hqr6_6 ?hyr6_6 (by assumption) ?restr6_6
        case hir6_6 => simp only [List.getElem?_toArray, List.getElem?_cons_succ, List.getElem?_cons_zero]; rfl
        case hqr6_6 => exact fun _ _ _ h => h
        case hyr6_6 => (refine Or.inl ⟨by rfl, ?_⟩; intro w hSw; (try dsimp only at hSw); go_simp; all_goals with_reducible rfl)
        try simp only [Act.put, List.setIfInBounds_toArray, List.set_cons_zero, List.set_cons_succ]
        refine wpAnyH_take (i := 7) (oi := ?oir6_7) (v := ?vr6_7) ?hir6_7 (by kernel_rfl) (by kernel_rfl) (by kernel_rfl) ?hqr6_7 ?hyr6_7 (by assumption) ?restr6_7
        case hir6_7 => simp only [List.getElem?_toArray, List.getElem?_cons_succ, List.getElem?_cons_zero]; rfl
        case hqr6_7 => exact fun _ _ _ h => h
        case hyr6_7 => (refine Or.inl ⟨by rfl, ?_⟩; intro w hSw; (try dsimp only at hSw); go_simp; all_goals with_reducible rfl)
        try simp only [Act.put, List.setIfInBounds_toArray, List.set_cons_zero, List.set_cons_succ]
        refine wpAnyH_take (i := 8) (oi := ?oir6_8) (v := ?vr6_8) ?hir6_8 (by kernel_rfl) (by kernel_rfl) (by kernel_rfl) ?hqr6_8 ?hyr6_8 (by assumption) ?restr6_8
        case hir6_8 => simp only [List.getElem?_toArray, List.getElem?_cons_succ, List.getElem?_cons_zero]; rfl
        case hqr6_8 => exact fun _ _ _ h => h
        case hyr6_8 => (refine Or.inl ⟨by rfl, ?_⟩; intro w hSw; (try dsimp only at hSw); go_simp; all_goals with_reducible rfl)
        try simp only [Act.put, List.setIfInBounds_toArray, List.set_cons_zero, List.set_cons_succ]
        refine wpAnyH_take (i := 9) (oi := ?oir6_9) (v := ?vr6_9) ?hir6_9 (by kernel_rfl) (by kernel_rfl) (by kernel_rfl) ?hqr6_9 ?hyr6_9 (by assumption) ?restr6_9
        case hir6_9 => simp only [List.getElem?_toArray, List.getElem?_cons_succ, List.getElem?_cons_zero]; rfl
        case hqr6_9 => exact fun _ _ _ h => h
        case hyr6_9 => (refine Or.inl ⟨by rfl, ?_⟩; intro w hSw; (try dsimp only at hSw); go_simp; all_goals with_reducible rfl)
        try simp only [Act.put, List.setIfInBounds_toArray, List.set_cons_zero, List.set_cons_succ]
        refine wpAnyH_take (i := 10) (oi := ?oir6_10) (v := ?vr6_10) ?hir6_10 (by kernel_rfl) (by kernel_rfl) (by kernel_rfl) ?hqr6_10 ?hyr6_10 (by assumption) ?restr6_10
        case hir6_10 => simp only [List.getElem?_toArray, List.getElem?_cons_succ, List.getElem?_cons_zero]; rfl
        case hqr6_10 => exact fun _ _ _ h => h
        case hyr6_10 => (refine Or.inl ⟨by rfl, ?_⟩; intro w hSw; (try dsimp only at hSw); go_simp; all_goals with_reducible rfl)
        try simp only [Act.put, List.setIfInBounds_toArray, List.set_cons_zero, List.set_cons_succ]
        refine wpAnyH_take (i := 11) (oi := ?oir6_11) (v := ?vr6_11) ?hir6_11 (by kernel_rfl) (by kernel_rfl) (by kernel_rfl) ?hqr6_11 ?hyr6_11 (by assumption) ?restr6_11
        case hir6_11 => simp only [List.getElem?_toArray, List.getElem?_cons_succ, List.getElem?_cons_zero]; rfl
        case hqr6_11 => exact fun _ _ _ h => h
        case hyr6_11 => (refine Or.inl ⟨by rfl, ?_⟩; intro w hSw; (try dsimp only at hSw); go_simp; all_goals with_reducible rfl)
        try simp only [Act.put, List.setIfInBounds_toArray, List.set_cons_zero, List.set_cons_succ]
        refine wpAnyH_take (i := 12) (oi := ?oir6_12) (v := ?vr6_12) ?hir6_12 (by kernel_rfl) (by kernel_rfl) (by kernel_rfl) ?hqr6_12 ?hyr6_12 (by assumption) ?restr6_12
        case hir6_12 => simp only [List.getElem?_toArray, List.getElem?_cons_succ, List.getElem?_cons_zero]; rfl
        case hqr6_12 => exact fun _ _ _ h => h
        case hyr6_12 => (refine Or.inl ⟨by rfl, ?_⟩; intro w hSw; (try dsimp only at hSw); go_simp; all_goals with_reducible rfl)
        try simp only [Act.put, List.setIfInBounds_toArray, List.set_cons_zero, List.set_cons_succ]
        refine wpAnyH_take (i := 13) (oi := ?oir6_13) (v := ?vr6_13) ?hir6_13 (by kernel_rfl) (by kernel_rfl) (by kernel_rfl) ?hqr6_13 ?hyr6_13 (by assumption) ?restr6_13
        case hir6_13 => simp only [List.getElem?_toArray, List.getElem?_cons_succ, List.getElem?_cons_zero]; rfl
        case hqr6_13 => exact fun _ _ _ h => h
        case hyr6_13 => (refine Or.inl ⟨by rfl, ?_⟩; intro w hSw; (try dsimp only at hSw); go_simp; all_goals with_reducible rfl)
        try simp only [Act.put, List.setIfInBounds_toArray, List.set_cons_zero, List.set_cons_succ]
        refine wpAnyH_take (i := 14) (oi := ?oir6_14) (v := ?vr6_14) ?hir6_14 (by kernel_rfl) (by kernel_rfl) (by kernel_rfl) ?hqr6_14 ?hyr6_14 (by assumption) ?restr6_14
        case hir6_14 => simp only [List.getElem?_toArray, List.getElem?_cons_succ, List.getElem?_cons_zero]; rfl
        case hqr6_14 => exact fun _ _ _ h => h
        case hyr6_14 => (refine Or.inl ⟨by rfl, ?_⟩; intro w hSw; (try dsimp only at hSw); go_simp; all_goals with_reducible rfl)
        try simp only [Act.put, List.setIfInBounds_toArray, List.set_cons_zero, List.set_cons_succ]
        refine wpAnyH_take (i := 15) (oi := ?oir6_15) (v := ?vr6_15) ?hir6_15 (by kernel_rfl) (by kernel_rfl) (by kernel_rfl) ?hqr6_15 ?hyr6_15 (by assumption) ?restr6_15
        case hir6_15 => simp only [List.getElem?_toArray, List.getElem?_cons_succ, List.getElem?_cons_zero]; rfl
        case hqr6_15 => exact fun _ _ _ h => h
        case hyr6_15 => (refine Or.inl ⟨by rfl, ?_⟩; intro w hSw; (try dsimp only at hSw); go_simp; all_goals with_reducible rfl)
        try simp only [Act.put, List.setIfInBounds_toArray, List.set_cons_zero, List.set_cons_succ]
        refine wpAnyH_take (i := 16) (oi := ?oir6_16) (v := ?vr6_16) ?hir6_16 (by kernel_rfl) (by kernel_rfl) (by kernel_rfl) ?hqr6_16 ?hyr6_16 (by assumption) ?restr6_16
        case hir6_16 => simp only [List.getElem?_toArray, List.getElem?_cons_succ, List.getElem?_cons_zero]; rfl
        case hqr6_16 => exact fun _ _ _ h => h
        case hyr6_16 => (refine Or.inl ⟨by rfl, ?_⟩; intro w hSw; (try dsimp only at hSw); go_simp; all_goals with_reducible rfl)
        try simp only [Act.put, List.setIfInBounds_toArray, List.set_cons_zero, List.set_cons_succ]
        refine wpAnyH_take (i := 17) (oi := ?oir6_17) (v := ?vr6_17) ?hir6_17 (by kernel_rfl) (by kernel_rfl) (by kernel_rfl) ?hqr6_17 ?hyr6_17 (by assumption) ?restr6_17
        case hir6_17 => simp only [List.getElem?_toArray, List.getElem?_cons_succ, List.getElem?_cons_zero]; rfl
        case hqr6_17 => exact fun _ _ _ h => h
        case hyr6_17 => (refine Or.inl ⟨by rfl, ?_⟩; intro w hSw; (try dsimp only at hSw); go_simp; all_goals with_reducible rfl)
        try simp only [Act.put, List.setIfInBounds_toArray, List.set_cons_zero, List.set_cons_succ]
        refine wpAnyH_take (i := 18) (oi := ?oir6_18) (v := ?vr6_18) ?hir6_18 (by kernel_rfl) (by kernel_rfl) (by kernel_rfl) ?hqr6_18 ?hyr6_18 (by assumption) ?restr6_18
        case hir6_18 => simp only [List.getElem?_toArray, List.getElem?_cons_succ, List.getElem?_cons_zero]; rfl
        case hqr6_18 => exact fun _ _ _ h => h
        case hyr6_18 => (refine Or.inl ⟨by rfl, ?_⟩; intro w hSw; (try dsimp only at hSw); go_simp; all_goals with_reducible rfl)
        try simp only [Act.put, List.setIfInBounds_toArray, List.set_cons_zero, List.set_cons_succ]
        refine wpAnyH_take (i := 19) (oi := ?oir6_19) (v := ?vr6_19) ?hir6_19 (by kernel_rfl) (by kernel_rfl) (by kernel_rfl) ?hqr6_19 ?hyr6_19 (by assumption) ?restr6_19
        case hir6_19 => simp only [List.getElem?_toArray, List.getElem?_cons_succ, List.getElem?_cons_zero]; rfl
        case hqr6_19 => exact fun _ _ _ h => h
        case hyr6_19 => (refine Or.inl ⟨by rfl, ?_⟩; intro w hSw; (try dsimp only at hSw); go_simp; all_goals with_reducible rfl)
        try simp only [Act.put, List.setIfInBounds_toArray, List.set_cons_zero, List.set_cons_succ]
        refine wpAnyH_take (i := 20) (oi := ?oir6_20) (v := ?vr6_20) ?hir6_20 (by kernel_rfl) (by kernel_rfl) (by kernel_rfl) ?hqr6_20 ?hyr6_20 (by assumption) ?restr6_20
        case hir6_20 => simp only [List.getElem?_toArray, List.getElem?_cons_succ, List.getElem?_cons_zero]; rfl
        case hqr6_20 => exact fun _ _ _ h => h
        case hyr6_20 => (refine Or.inl ⟨by rfl, ?_⟩; intro w hSw; (try dsimp only at hSw); go_simp; all_goals with_reducible rfl)
        try simp only [Act.put, List.setIfInBounds_toArray, List.set_cons_zero, List.set_cons_succ]
        try simp only [hwr]
        refine wpAnyH_ready (rs := [21]) (by kernel_rfl) (by simp) ?_
        refine (AllReadyH.cons (o := ?ob10_21) ?hob10_21 (fun K hK => ?kb10_21) AllReadyH.nil)
        case hob10_21 => simp only [List.getElem?_toArray, List.getElem?_cons_succ, List.getElem?_cons_zero]; rfl
        case kb10_21 =>
          go_simp
          refine hK.out _ _ ?_ (fun hHeld => ?_)
          · exact ⟨HCV.out _ (hBd.trans ((below_al wd _).mono hBd.size)), cell_below (hBd.trans ((below_al wd _).mono hBd.size)) Hc0.out, cell_below (hBd.trans ((below_al wd _).mono hBd.size)) Hc1.out, cell_below (hBd.trans ((below_al wd _).mono hBd.size)) Hce.out⟩
          clear hK K
          try simp only [Act.put, List.setIfInBounds_toArray, List.set_cons_zero, List.set_cons_succ]
          refine wpAnyH_ready (rs := [22]) (by kernel_rfl) (by simp) ?_
          refine (AllReadyH.cons (o := ?ob9_22) ?hob9_22 (fun K hK => ?kb9_22) AllReadyH.nil)
          case hob9_22 => simp only [List.getElem?_toArray, List.getElem?_cons_succ, List.getElem?_cons_zero]; rfl
          case kb9_22 =>
            rw [if_pos (by rfl)]
            refine op_appV _ _ rfl w1.heap.size rfl (hov.below (below_al wd _)) rfl (rdV_new wd (votF fl) HVW.out) (by omega) (by rw [World.size_alloc]; have := hBd.size; omega) ?_
            intro a5 c5 w5 hov5 hg5 hb5
            have hB5 := (hBd.trans ((below_al wd (.cells #[.string (votF fl).nm, .int .i64 (votF fl).pc, .int .u8 (((votF fl).st : Nat) : Int)] 32)).mono hBd.size)).trans hb5
            refine hK.out _ _ ?_ (fun hHeld => ?_)
            · exact ⟨HCV.out _ hB5, cell_below hB5 Hc0.out, cell_below hB5 Hc1.out, cell_below hB5 Hce.out⟩
            clear hK K
            try simp only [Act.put, List.setIfInBounds_toArray, List.set_cons_zero, List.set_cons_succ]
            refine wpAnyH_take (i := 23) (oi := ?oir8_23) (v := ?vr8_23) ?hir8_23 (by kernel_rfl) (by kernel_rfl) (by kernel_rfl) ?hqr8_23 ?hyr8_23 (by assumption) ?restr8_23
            case hir8_23 => simp only [List.getElem?_toArray, List.getElem?_cons_succ, List.getElem?_cons_zero]; rfl
            case hqr8_23 => exact fun _ _ _ h => h
            case hyr8_23 => (refine Or.inl ⟨by rfl, ?_⟩; intro w hSw; (try dsimp only at hSw); go_simp; all_goals with_reducible rfl)
            try simp only [Act.put, List.setIfInBounds_toArray, List.set_cons_zero, List.set_cons_succ]
            refine wpAnyH_done (by kernel_rfl) ?_ _
            go_wp2_with fail
            go_roundw
            case rel =>
              have ht : (l.take (i + 1)).map votF = (l.take i).map votF ++ [votF fl] := by
                rw [take_lth l i (by rw [HL.out]; exact hlt), List.map_append, HFL.out]
                rfl
              exact ⟨i + 1, a5, c5, by omega, rfl, by go_num, by rw [ht]; exact hov5, hB5, Lib.hid fun q hq => by
                by_cases hqi : q < i
                · exact hS.out q hqi
                · obtain rfl : q = i := by omega
                  have := HM.out
                  omega⟩
            case measure => simp [intOf]; omega

end Go.Proofs.Ytnjkfjecnicccaa
