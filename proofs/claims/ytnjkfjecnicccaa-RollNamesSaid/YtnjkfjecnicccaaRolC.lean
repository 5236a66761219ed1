/- Own rows of voters; twin, Clone, Great. Conditions: at most 2^40 voters. -/
import Derived.Test.YtnjkfjecnicccaaRolB
import Derived.Laws.StructEq
namespace Go.Proofs.Ytnjkfjecnicccaa
open Go.RowKit Go.Suf
set_option linter.unusedVariables false
set_option linter.unusedSimpArgs false

def vflat (vs : List VQ) : List Value := vs.flatMap vcells
theorem vflat_length (vs : List VQ) : (vflat vs).length = vs.length * 3 := by
  induction vs with
  | nil => rfl
  | cons v vs ih =>
    show (vcells v ++ vflat vs).length = _
    rw [List.length_append, ih]
    simp [vcells]
    omega
theorem vflat_append (us vs : List VQ) : vflat (us ++ vs) = vflat us ++ vflat vs := by simp [vflat]
theorem vflat_at : ∀ (vs : List VQ) (i : Nat), i < vs.length → ∀ j, j < 3 → (vflat vs)[i * 3 + j]? = (vcells (vth vs i))[j]?
  | [], i, h, _, _ => by simp at h
  | v :: vs, 0, _, j, hj => by
    show (vcells v ++ vflat vs)[0 * 3 + j]? = _
    rw [Nat.zero_mul, Nat.zero_add, List.getElem?_append_left (by simpa [vcells] using hj)]
    rfl
  | v :: vs, i + 1, h, j, hj => by
    show (vcells v ++ vflat vs)[(i + 1) * 3 + j]? = _
    rw [List.getElem?_append_right (by simp [vcells]; omega), show (i + 1) * 3 + j - (vcells v).length = i * 3 + j by simp [vcells]; omega]
    exact vflat_at vs i (by simpa using h) j hj
theorem vflat_one (vs : List VQ) : ∀ u ∈ vflat vs, u.oneCell' = true := by
  intro u hu
  obtain ⟨v, _, hv⟩ := List.mem_flatMap.1 hu
  simp [vcells] at hv
  rcases hv with rfl | rfl | rfl <;> rfl
theorem vflat_some {vs : List VQ} {j : Nat} {u : Value} (h : (vflat vs)[j]? = some u) : j / 3 < vs.length ∧ (vcells (vth vs (j / 3)))[j % 3]? = some u := by
  have hj : j < vs.length * 3 := by
    rw [← vflat_length]
    exact (List.getElem?_eq_some_iff.1 h).1
  have h1 : j / 3 < vs.length := by omega
  refine ⟨h1, ?_⟩
  rw [← vflat_at vs (j / 3) h1 (j % 3) (by omega), show j / 3 * 3 + j % 3 = j by omega]
  exact h

/-- A row of voters of the call's own. -/
structure OwV (base : Nat) (w : World) (a : Option Addr) (n cap : Nat) (vs : List VQ) : Prop where
  len : vs.length = n
  own : w.ownsRow base 32 3 (.slice a n cap) n (vflat vs)
  wf : ∀ v ∈ vs, VW v

theorem OwV.below {base : Nat} {w w' : World} {a : Option Addr} {n cap : Nat} {vs : List VQ} (h : OwV base w a n cap vs) (hb : Below w.heap.size w w') : OwV base w' a n cap vs :=
  ⟨h.len, h.own.kept (row := none) ⟨hb.os, hb.tape, hb.output, hb.size, fun k hk _ => hb.block k hk⟩ (by cases (Value.slice a n cap).ownBlock <;> simp), h.wf⟩

theorem OwV.nil (base : Nat) (w : World) : OwV base w none 0 0 [] := ⟨rfl, World.ownsRow_nil w base _ 3, fun v h => by simp at h⟩

theorem OwV.base_le {base base' : Nat} {w : World} {a : Option Addr} {n cap : Nat} {vs : List VQ} (h : OwV base w a n cap vs) (hb : base' ≤ base) : OwV base' w a n cap vs := by
  refine ⟨h.len, ⟨h.own.1, ?_⟩, h.wf⟩
  rcases h.own.2 with h2 | ⟨g, c, cur, hv, hg, r⟩
  · exact .inl h2
  · exact .inr ⟨g, c, cur, hv, by omega, r⟩

/-- The block of an own row. -/
theorem OwV.row {base : Nat} {w : World} {a : Option Addr} {n cap : Nat} {vs : List VQ} (h : OwV base w a n cap vs) (hp : 0 < n) :
    ∃ g cur, a = some ⟨g, 0, none⟩ ∧ base ≤ g ∧ w.heap[g]? = some (.cells cur 32 (0, 0)) ∧ n ≤ cap ∧ cap ≤ maxLen ∧ cur.size = cap * 3 ∧ ∀ (j : Nat) (u : Value), (vflat vs)[j]? = some u → cur[j]? = some u := by
  rcases h.own.2 with ⟨hv, hn⟩ | ⟨g, cap', cur, hv, hg, hh, hnc, hm, hsz, htake⟩
  · omega
  · simp at hv
    obtain ⟨rfl, rfl⟩ := hv
    refine ⟨g, cur, rfl, hg, hh, hnc, hm, hsz, fun j u hu => ?_⟩
    rw [← htake] at hu
    have hj := (List.getElem?_eq_some_iff.1 hu).1
    rw [List.getElem?_take_of_lt (by simp at hj; omega)] at hu
    simpa using hu

theorem rdV_row {w : World} {g cap n : Nat} {cur : Array Value} {vs : List VQ} {t : TypeId} {f : Nat × Nat} (hl : vs.length = n) (hh : w.heap[g]? = some (.cells cur t f)) (hc : n ≤ cap) (hm : cap ≤ maxLen) (h : ∀ (j : Nat) (u : Value), (vflat vs)[j]? = some u → cur[j]? = some u) (hw : ∀ v ∈ vs, VW v) : RdV w (some ⟨g, 0, none⟩) n cap vs := by
  refine ⟨hl, hc, hm, fun e => by simp at e, fun i hi => ⟨g, 0, rfl, ?_⟩, hw⟩
  have at' : ∀ (j : Nat) (u : Value), (vcells (vth vs i))[j]? = some u → j < 3 → w.cell? ⟨g, i * 3 + j, none⟩ = some u := fun j u hu hj => by
    rw [cell_of_row _ _ _ _ _ _ hh]
    exact h _ _ (by rw [vflat_at vs i (by omega) j hj]; exact hu)
  simp only [Nat.zero_add]
  exact ⟨at' 0 _ rfl (by omega), at' 1 _ rfl (by omega), at' 2 _ rfl (by omega)⟩

theorem OwV.rd {base : Nat} {w : World} {a : Option Addr} {n cap : Nat} {vs : List VQ} (h : OwV base w a n cap vs) : RdV w a n cap vs := by
  rcases Nat.eq_zero_or_pos n with h0 | hp
  · subst h0
    have hx : vs = [] := List.eq_nil_of_length_eq_zero h.len
    subst hx
    rcases h.own.2 with ⟨hv, hn⟩ | ⟨g, cap', cur, hv, hg, hh, hnc, hm, hsz, htake⟩
    · simp at hv
      obtain ⟨rfl, rfl⟩ := hv
      exact ⟨rfl, Nat.le_refl _, Nat.zero_le _, fun _ => rfl, fun i hi => absurd hi (by omega), h.wf⟩
    · simp at hv
      obtain ⟨rfl, rfl⟩ := hv
      exact ⟨rfl, hnc, hm, fun e => by simp at e, fun i hi => absurd hi (by omega), h.wf⟩
  · obtain ⟨g, cur, rfl, _, hh, hc, hm, _, hcur⟩ := h.row hp
    exact rdV_row h.len hh hc hm hcur h.wf

theorem infoV : ∃ i, Try.prog.info? 32 = some i ∧ i.zero = some (.agg #[.string ⟨#[]⟩, .int .i64 0, .int .u8 0]) ∧ i.size = 3 ∧ i.bytes = 32 := by
  have h : (Try.prog.info? 32).map (fun i => (i.zero, i.size, i.bytes)) = some (some (.agg #[.string ⟨#[]⟩, .int .i64 0, .int .u8 0]), 3, 32) := by kernel_rfl
  cases hq : Try.prog.info? 32 with
  | none => simp [hq] at h
  | some i =>
    simp [hq] at h
    exact ⟨i, rfl, h.1, h.2.1, h.2.2⟩

/-- 'append(s, x...)' of voters: s the call's own, x whatever reads. -/
theorem wpList_appV {ops : Array Oper} {rest : List Oper} {o : Oper} {a : Act} {w : World} {Q : Exit → Act → World → Prop} (hgd : o.guard = none) (s x : Operand)
    (ho : o.op = .call { callee := .builtin .append, args := #[s, x], argTypes := #[22, 22] })
    (base : Nat) {a1 : Option Addr} {n1 cap1 : Nat} {vs : List VQ} (hs : a.eval s = .slice a1 n1 cap1) (hown : OwV base w a1 n1 cap1 vs)
    {a2 : Option Addr} {n2 cap2 : Nat} {us : List VQ} (hx : a.eval x = .slice a2 n2 cap2) (hr : RdV w a2 n2 cap2 us)
    (hm : n1 + n2 ≤ 2199023255552) (hbase : base ≤ w.heap.size)
    (h : ∀ a' cap' w', OwV base w' a' (n1 + n2) cap' (vs ++ us) → w.grownBy w' (Value.ownBlock (.slice a1 n1 cap1)) → Below base w w' →
      wpList Try.prog ops Q rest (a.put o.dst (.slice a' (n1 + n2) cap')) w') : wpList Try.prog ops Q (o :: rest) a w := by
  obtain ⟨i, hi, hz, h1, hby⟩ := infoV
  have below : ∀ {w'}, w.grownBy w' (Value.ownBlock (.slice a1 n1 cap1)) → Below base w w' := fun hg =>
    (Below.refl base w).grown hg hbase (fun k hk => (hown.own.lt k hk).1)
  have wf : ∀ v ∈ vs ++ us, VW v := fun v hv => by
    rcases List.mem_append.1 hv with h | h
    · exact hown.wf v h
    · exact hr.wf v h
  have hlen : (vs ++ us).length = n1 + n2 := by rw [List.length_append, hown.len, hr.len]
  cases a2 with
  | none =>
    have hc := hr.nil rfl
    subst hc
    have hn : n2 = 0 := Nat.le_zero.1 hr.le
    subst hn
    have hd : us = [] := List.eq_nil_of_length_eq_zero hr.len
    subst hd
    refine wpList_append_own_none hgd s x 22 ho base 32 i 3 Try.underlying22 hi _ n1 (vflat vs) hs hown.own hx ?_
    have := h a1 cap1 w (by simpa using hown) ⟨rfl, rfl, rfl, Nat.le_refl _, fun _ _ _ => rfl⟩ (Below.refl _ _)
    simpa using this
  | some ad =>
    refine wpList_append_own w hgd s x 22 ho base 32 i _ 3 32 Try.underlying22 hi hz h1 hby rfl (by decide) _ n1 (vflat vs) hs hown.own ad n2 cap2 (vflat us) hx (by rw [vflat_length, hr.len]) (fun j u hu => ?_) (vflat_one us) (by unfold maxLen; omega) (by omega) hbase ?_
    · obtain ⟨hj1, hj2⟩ := vflat_some hu
      obtain ⟨b, off, e, k0, k1, k2⟩ := hr.cell (j / 3) (by rw [← hr.len]; exact hj1)
      simp only [Option.some.injEq] at e
      subst e
      have ea : (⟨b, off, none⟩ : Addr).add j = ⟨b, off + j, none⟩ := by unfold Addr.add; split <;> simp_all
      rw [ea]
      have h3 : j % 3 = 0 ∨ j % 3 = 1 ∨ j % 3 = 2 := by omega
      rcases h3 with h3 | h3 | h3 <;> rw [h3] at hj2 <;> simp [vcells] at hj2 <;> subst hj2
      · rw [show off + j = off + j / 3 * 3 by omega]; exact k0
      · rw [show off + j = off + j / 3 * 3 + 1 by omega]; exact k1
      · rw [show off + j = off + j / 3 * 3 + 2 by omega]; exact k2
    · intro v' w' hown' hg _
      rw [← vflat_append] at hown'
      rcases hown'.2 with ⟨hv, hn⟩ | ⟨g, cap', cur, hv, _⟩
      · subst hv
        have hn0 : n1 + n2 = 0 := hn
        have h' := h none 0 w' ⟨hlen, by rw [hn0] at hown' ⊢; exact hown', wf⟩ hg (below hg)
        rw [hn0] at h'
        exact h'
      · subst hv
        exact h _ _ w' ⟨hlen, hown', wf⟩ hg (below hg)

/-- A new row of voters. -/
def RetV (w : World) (n : Nat) (vs : List VQ) : Ending → World → Prop := fun e w' =>
  ∃ a cap, e = .returned (.slice a n cap) ∧ OwV w.heap.size w' a n cap vs ∧ Below w.heap.size w w'

theorem owV_made (w : World) : OwV w.heap.size (w.alloc (.cells #[] 32)) (some ⟨w.heap.size, 0, none⟩) 0 0 [] :=
  ⟨rfl, World.ownsRow_made w #[] 0 (Nat.le_refl _) (by decide) rfl, fun v h => by simp at h⟩

set_option maxHeartbeats 1000000 in
theorem twinV_any (w : World) {a : Option Addr} {n cap : Nat} {vs : List VQ} (h : RdV w a n cap vs) (hn : n ≤ 1099511627776) :
    Calls Try.prog 12 #[.slice a n cap] w (RetV w n vs) := by
  have hm := owV_made w
  have hb0 := below_al w (.cells #[] 32)
  have hr := h.below hb0
  have hz := hb0.size
  go_enter Try.func12, Try.ntmps12
  go_wp2_with (at_builtin; refine wpList_appV rfl _ _ rfl w.heap.size rfl hm rfl hr (by omega) hz ?_; intro a' c' w1 hown hg hb1; refine Hid.out ?_)
  simp only [Nat.zero_add, List.nil_append] at hown ⊢
  have HO := Lib.hid hown
  have HB := Lib.hid (hb0.trans hb1)
  clear hown hg hb1 hm hb0 hr
  refine Lib.hid ?_
  go_wp2_with fail
  go_ret
  exact ⟨a', c', rfl, HO.out, HB.out⟩

set_option maxHeartbeats 1000000 in
theorem Clone_any (w : World) {a : Option Addr} {n cap : Nat} {vs : List VQ} (h : RdV w a n cap vs) (hn : n ≤ 1099511627776) :
    Calls Try.prog 44 #[.slice a n cap] w (RetV w n vs) := by
  have heq := fun (w : World) => Lib.run_eql_slice_nil (P := Try.prog) w
  cases a with
  | none =>
    have hc := h.nil rfl
    subst hc
    have hn : n = 0 := by have := h.le; omega
    subst hn
    have hx : vs = [] := List.eq_nil_of_length_eq_zero h.len
    subst hx
    go_enter Try.func44, Try.ntmps44
    go_wp2
    go_ret
    exact ⟨none, 0, rfl, OwV.nil _ _, Below.refl _ _⟩
  | some ad =>
    have hm := owV_made w
    have hb0 := below_al w (.cells #[] 32)
    have hr := h.below hb0
    have hz := hb0.size
    go_enter Try.func44, Try.ntmps44
    go_wp2_with (at_builtin; refine wpList_appV rfl _ _ rfl w.heap.size rfl hm rfl hr (by omega) hz ?_; intro a' c' w1 hown hg hb1; refine Hid.out ?_)
    simp only [Nat.zero_add, List.nil_append] at hown ⊢
    have HO := Lib.hid hown
    have HB := Lib.hid (hb0.trans hb1)
    clear hown hg hb1 hm hb0 hr
    refine Lib.hid ?_
    go_wp2_with fail
    go_ret
    exact ⟨a', c', rfl, HO.out, HB.out⟩

def greatV (vs : List VQ) : Bool := decide (100 < vs.length) || vs.any fun v => decide (1000 < v.nm.size)

set_option maxHeartbeats 1000000 in
theorem Great_any (w : World) {a : Option Addr} {n cap : Nat} {vs : List VQ} (h : RdV w a n cap vs) :
    Calls Try.prog 11 #[.slice a n cap] w fun e w' => e = .returned (.bool (greatV vs)) ∧ Below w.heap.size w w' := by
  have hn := h.lt
  have HL := Lib.hid h.len
  obtain ⟨r, hr⟩ : ∃ r, r = greatV vs := ⟨_, rfl⟩
  rw [← hr]
  have HR := Lib.hid hr
  clear hr
  go_enter Try.func11, Try.ntmps11
  by_cases hbig : 100 < n
  case pos =>
    go_wp2_with fail
    go_ret
    exact ⟨by rw [HR.out, greatV, show decide (100 < vs.length) = true from decide_eq_true (by rw [HL.out]; exact hbig)]; rfl, Below.refl _ _⟩
  go_wp2_with fail
  go_loop [3] (fun j => ∃ i, i ≤ n ∧ j = .int .i64 (i : Nat) ∧ Hid (∀ k, k < i → (vth vs k).nm.size ≤ 1000)) (fun j => n - (intOf j).toNat)
  case atStart => exact ⟨0, Nat.zero_le _, rfl, Lib.hid fun k hk => absurd hk (by omega)⟩
  case round =>
    obtain ⟨i, hi, rfl, hS⟩ := hrel
    by_cases hlt : i < n
    case neg =>
      obtain rfl : i = n := by omega
      have HE : Hid (greatV vs = false) := Lib.hid (by
        unfold greatV
        rw [Bool.or_eq_false_iff]
        refine ⟨decide_eq_false (by rw [HL.out]; exact hbig), List.any_eq_false.2 fun v hv => ?_⟩
        obtain ⟨k, hk, rfl⟩ := List.getElem_of_mem hv
        have := hS.out k (by rw [← HL.out]; exact hk)
        rw [vth_eq hk] at this
        simp
        omega)
      go_wp2_with fail
      go_ret
      exact ⟨by rw [HR.out, HE.out]; rfl, Below.refl _ _⟩
    case pos =>
      obtain ⟨b, off, rfl, hc⟩ := h.addr (by omega)
      obtain ⟨k0, k1, k2⟩ := hc i hlt
      clear hc
      by_cases hg : 1000 < (vth vs i).nm.size
      case pos =>
        have HE : Hid (greatV vs = true) := Lib.hid (by
          unfold greatV
          rw [Bool.or_eq_true]
          exact .inr (List.any_eq_true.2 ⟨_, vth_mem (by rw [HL.out]; exact hlt), decide_eq_true hg⟩))
        go_wp2_with fail
        go_ret
        exact ⟨by rw [HR.out, HE.out]; rfl, Below.refl _ _⟩
      case neg =>
        go_wp2_with fail
        go_round
        case rel => exact ⟨i + 1, by omega, by go_num, Lib.hid fun k hk => by
                      by_cases hki : k < i
                      · exact hS.out k hki
                      · obtain rfl : k = i := by omega
                        omega⟩
        case measure => simp [intOf]; omega

end Go.Proofs.Ytnjkfjecnicccaa
