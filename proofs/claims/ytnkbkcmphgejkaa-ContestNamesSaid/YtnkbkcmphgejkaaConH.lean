/- The fields of a contest's encoding, in the program. Conditions: short names, at most ten seats. -/
import Derived.Test.YtnkbkcmphgejkaaConG
import Derived.Test.YtnkbkcmphgejkaaOctetE
set_option linter.unusedVariables false
set_option linter.unusedSimpArgs false
namespace Go.Proofs.Ytnkbkcmphgejkaa
open Go.RowKit Go.Suf

/-- Bytes that read as xs, in a block of bytes. -/
structure RdT (w : World) (a : Option Addr) (n cap : Nat) (xs : List Nat) : Prop where
  rd : Rd .u8 w a n cap xs
  blk : ∃ b off C f, a = some ⟨b, off, none⟩ ∧ w.heap[b]? = some (.cells C 5 f)

theorem RdT.lt {w : World} {a : Option Addr} {n cap : Nat} {xs : List Nat} (h : RdT w a n cap xs) : ∃ b off, a = some ⟨b, off, none⟩ ∧ b < w.heap.size := by
  obtain ⟨b, off, C, f, rfl, hb⟩ := h.blk
  exact ⟨b, off, rfl, (Array.getElem?_eq_some_iff.1 hb).1⟩

/-- Where the block is as it was, the bytes read as they read. -/
theorem RdT.moved {w w' : World} {a : Option Addr} {n cap : Nat} {xs : List Nat} (h : RdT w a n cap xs) (hk : ∀ b off, a = some ⟨b, off, none⟩ → w'.heap[b]? = w.heap[b]?) : RdT w' a n cap xs := by
  obtain ⟨b, off, C, f, rfl, hb⟩ := h.blk
  have e := hk b off rfl
  refine ⟨⟨h.rd.len, ⟨h.rd.sl.le, h.rd.sl.max, h.rd.sl.nil, ?_, h.rd.sl.one⟩, h.rd.bd⟩, b, off, C, f, rfl, by rw [e]; exact hb⟩
  intro i c hc
  obtain ⟨b', off', ea, hw⟩ := h.rd.sl.cell i c hc
  obtain ⟨rfl, rfl⟩ : b = b' ∧ off = off' := by simpa using ea
  refine ⟨b, off, rfl, ?_⟩
  rw [World.cell?_of_block (w := w) e]
  exact hw

theorem RdT.below {w w' : World} {a : Option Addr} {n cap : Nat} {xs : List Nat} (h : RdT w a n cap xs) (hb : Below w.heap.size w w') : RdT w' a n cap xs := by
  obtain ⟨b, off, rfl, hlt⟩ := h.lt
  exact h.moved fun b' off' e => by
    obtain ⟨rfl, rfl⟩ : b = b' ∧ off = off' := by simpa using e
    exact hb.block _ hlt

theorem RdT.kept {base : Nat} {w w' : World} {a : Option Addr} {n cap n' : Nat} {xs : List Nat} {v : Value} {vs : List Value} (h : RdT w a n cap xs) (hv : w.ownsRow base 52 1 v n' vs) (hg : w.grownBy w' v.ownBlock) : RdT w' a n cap xs := by
  obtain ⟨b, off, C, f, rfl, hb⟩ := h.blk
  refine h.moved fun b' off' e => ?_
  obtain ⟨rfl, rfl⟩ : b = b' ∧ off = off' := by simpa using e
  refine hg.block b (Array.getElem?_eq_some_iff.1 hb).1 ?_
  intro e
  rcases hv.2 with ⟨rfl, _⟩ | ⟨g, c, cur, rfl, _, hh, _⟩
  · simp [Value.ownBlock] at e
  · simp [Value.ownBlock] at e
    subst e
    rw [hb] at hh
    simp at hh

/-- A list of byte strings: the row in memory of the call's own, its strings in blocks of bytes. -/
structure OwT (base : Nat) (w : World) (a : Option Addr) (n cap : Nat) (xss : List (List Nat)) : Prop where
  len : xss.length = n
  row : ∃ vs : List Value, w.ownsRow base 52 1 (.slice a n cap) n vs ∧ (∀ u ∈ vs, u.oneCell' = true) ∧ ∀ i, i < n → ∃ b m c, vs[i]? = some (.slice b m c) ∧ RdT w b m c (lth xss i)

section
variable {base : Nat} {w w' : World} {a : Option Addr} {n cap : Nat} {xss : List (List Nat)}

theorem OwT.below (h : OwT base w a n cap xss) (hb : Below w.heap.size w w') : OwT base w' a n cap xss := by
  obtain ⟨vs, hv, ho, hi⟩ := h.row
  exact ⟨h.len, vs, own_below hv hb, ho, fun i hn => by obtain ⟨b, m, c, h1, h2⟩ := hi i hn; exact ⟨b, m, c, h1, h2.below hb⟩⟩

theorem OwT.rd (h : OwT base w a n cap xss) : RdL w a n cap xss := by
  obtain ⟨vs, hv, ho, hi⟩ := h.row
  have hl : vs.length = n := by have := hv.1; simpa using this
  refine ⟨h.len, vs, hl, ?_, fun i hn => by obtain ⟨b, m, c, h1, h2⟩ := hi i hn; exact ⟨b, m, c, h1, h2.rd⟩⟩
  subst hl
  exact sl_of_own hv ho

theorem OwT.snoc {ys : List Nat} {b : Option Addr} {m c c' : Nat} {a2 : Option Addr} {vs : List Value} (hl : xss.length = n) (h1 : w'.ownsRow base 52 1 (.slice a2 (n + 1) c') (n + 1) (vs ++ [.slice b m c])) (hv : vs.length = n) (ho : ∀ u ∈ vs, u.oneCell' = true)
    (hi : ∀ i, i < n → ∃ b m c, vs[i]? = some (.slice b m c) ∧ RdT w' b m c (lth xss i)) (hy : RdT w' b m c ys) : OwT base w' a2 (n + 1) c' (xss ++ [ys]) := by
  refine ⟨by simp [hl], vs ++ [.slice b m c], h1, fun u hu => ?_, fun i hin => ?_⟩
  · rw [List.mem_append] at hu
    rcases hu with hu | hu
    · exact ho u hu
    · simp at hu; subst hu; rfl
  · by_cases h : i < n
    · obtain ⟨b', m', c1, e1, e2⟩ := hi i h
      exact ⟨b', m', c1, by rw [List.getElem?_append_left (by omega)]; exact e1, by rw [lth_append_left (by omega)]; exact e2⟩
    · obtain rfl : i = n := by omega
      exact ⟨b, m, c, by rw [List.getElem?_append_right (by omega)]; simp [hv], by subst hl; rw [lth_append_one]; exact hy⟩
end

/-- '[]byte(s)', as a fact ahead of a walk. -/
theorem conv_T (w : World) (s : ByteArray) (hl : s.size ≤ maxLen) :
    ∃ a' c' w', Sem.run Try.prog (convert 9 52 (.string s)) w = .ok (.slice a' s.size c') w' ∧ RdT w' a' s.size c' (byts s) ∧ Below w.heap.size w w' ∧ w'.heap.size = w.heap.size + 1 :=
  ⟨_, _, _, Lib.run_convert_string_bytes w _ _ _ s Try.underlying9 Try.underlying52 Try.underlying5, ⟨rd_bytes w _ s hl, _, _, _, _, rfl, Lib.bytesWorld_at_new w _ s⟩, bytesWorld_below _ w _ s (Nat.le_refl _), Lib.bytesWorld_size w _ s⟩

/-- The fields of an encoding. -/
def fieldsC (nm : ByteArray) (ss : List ByteArray) (seats rule : Nat) : List (List Nat) := byts nm :: [seats, rule] :: ss.map byts

set_option maxRecDepth 100000 in
set_option maxHeartbeats 2000000 in
theorem fields_any (w : World) (nm : ByteArray) {a : Option Addr} {n cap : Nat} {ss : List ByteArray} (h : RdS w a n cap ss) (seats : Nat) (hs : seats ≤ 10) (rule : Nat) (hr : rule < 256) (hnm : nm.size ≤ 40) (hss : ∀ s ∈ ss, s.size ≤ 40) (hn : n ≤ 10) :
    Calls Try.prog 57 #[.agg #[.string nm, .slice a n cap, .int .i64 (seats : Nat), .int .u8 (rule : Nat)]] w fun e w' => ∃ a' n' c', e = .returned (.slice a' n' c') ∧ RdL w' a' n' c' (fieldsC nm ss seats rule) ∧ Below w.heap.size w w' := by
  have HL := Lib.hid h.len
  have hA : Below w.heap.size w (w.alloc (.cells #[.string nm, .slice a n cap, .int .i64 (seats : Nat), .int .u8 (rule : Nat)] 40)) := (Below.refl _ _).alloc (Nat.le_refl _) _
  have c1 := new_cell w #[.string nm, .slice a n cap, .int .i64 (seats : Nat), .int .u8 (rule : Nat)] 40 1 _ rfl
  have c2 := new_cell w #[.string nm, .slice a n cap, .int .i64 (seats : Nat), .int .u8 (rule : Nat)] 40 2 _ rfl
  have c3 := new_cell w #[.string nm, .slice a n cap, .int .i64 (seats : Nat), .int .u8 (rule : Nat)] 40 3 _ rfl
  obtain ⟨a1, k1, w1, hcv, hT, hb1, hz1⟩ := conv_T (w.alloc (.cells #[.string nm, .slice a n cap, .int .i64 (seats : Nat), .int .u8 (rule : Nat)] 40)) nm (by unfold maxLen; omega)
  have d1 := cell_below hb1 c1
  have d2 := cell_below hb1 c2
  have d3 := cell_below hb1 c3
  clear c1 c2 c3
  have hw1 : w1.heap.size = w.heap.size + 1 + 1 := by rw [hz1, World.size_alloc]
  have hTb := hT.below ((Below.refl w1.heap.size w1).alloc (Nat.le_refl _) (.cells #[.int .u8 (seats : Nat), .int .u8 (rule : Nat)] 5))
  have hU : RdT (w1.alloc (.cells #[.int .u8 (seats : Nat), .int .u8 (rule : Nat)] 5)) (some ⟨w1.heap.size, 0, none⟩) 2 2 [seats, rule] :=
    ⟨rd_lit .u8 w1 [seats, rule] 5 2 rfl (by unfold maxLen; omega) (by simp [lim]; omega), _, _, _, _, rfl, heap_alloc_new _ _⟩
  have hB0 : Below w.heap.size w (w1.alloc (.cells #[.int .u8 (seats : Nat), .int .u8 (rule : Nat)] 5)) := (hA.trans (hb1.mono hA.size)).alloc (by omega) _
  generalize hg2 : w1.alloc (.cells #[.int .u8 (seats : Nat), .int .u8 (rule : Nat)] 5) = w2 at hTb hU hB0
  have hz2 : w2.heap.size = w.heap.size + 1 + 1 + 1 := by rw [← hg2, World.size_alloc, hw1]
  rw [hw1] at hU
  have hO : OwT w.heap.size (w2.alloc (.cells #[.slice a1 nm.size k1, .slice (some ⟨w.heap.size + 1 + 1, 0, none⟩) 2 2] 52)) (some ⟨w.heap.size + 1 + 1 + 1, 0, none⟩) 2 2 [byts nm, [seats, rule]] := by
    have hbw := (Below.refl w2.heap.size w2).alloc (Nat.le_refl _) (.cells #[.slice a1 nm.size k1, .slice (some ⟨w.heap.size + 1 + 1, 0, none⟩) 2 2] 52)
    refine ⟨rfl, [.slice a1 nm.size k1, .slice (some ⟨w.heap.size + 1 + 1, 0, none⟩) 2 2], ⟨rfl, .inr ⟨_, 2, _, rfl, by omega, by rw [← hz2]; exact heap_alloc_new _ _, Nat.le_refl _, by unfold maxLen; omega, rfl, rfl⟩⟩, fun u hu => ?_, fun i hi => ?_⟩
    · simp at hu
      rcases hu with rfl | rfl <;> rfl
    · obtain rfl | rfl : i = 0 ∨ i = 1 := by omega
      · exact ⟨_, _, _, rfl, hTb.below hbw⟩
      · exact ⟨_, _, _, rfl, hU.below hbw⟩
  have hB3 : Below w.heap.size w (w2.alloc (.cells #[.slice a1 nm.size k1, .slice (some ⟨w.heap.size + 1 + 1, 0, none⟩) 2 2] 52)) := hB0.alloc (by omega) _
  have HT1 := Lib.hid hT
  clear hTb hU hT
  subst hg2
  go_enter Try.func57, Try.ntmps57
  go_wp2_with fail
  go_loopw [3, 19] (fun v j wr => ∃ i a' c', i ≤ n ∧ j = .int .i64 (i : Nat) ∧ v = .slice a' (2 + i) c' ∧ OwT w.heap.size wr a' (2 + i) c' (byts nm :: [seats, rule] :: (ss.take i).map byts) ∧ Below w.heap.size w wr) (fun _ j _ => n - (intOf j).toNat)
  case atStart => exact ⟨0, _, _, Nat.zero_le _, rfl, rfl, hO, hB3⟩
  case round =>
    rename_i wr _
    obtain ⟨i, a', c', hi, rfl, rfl, ho, hb⟩ := hrel
    have hz := hb.size
    by_cases hlt : i < n
    · obtain ⟨b, off, rfl, hc⟩ := h.cell i hlt
      have hc' := cell_below hb hc
      have hsz : (sth ss i).size ≤ 40 := hss _ (sth_mem (by have := HL.out; omega))
      obtain ⟨a4, k4, w4, hcv4, hT4, hb4, hz4⟩ := conv_T wr (sth ss i) (by unfold maxLen; omega)
      obtain ⟨vs, hv, h1, hr⟩ := (ho.below hb4).row
      have hz5 := hb4.size
      have HV := Lib.hid hv.1
      have HO := Lib.hid ho.len
      clear hcv d1 d2 d3 hz4 hw1 hz1 hz2
      go_wp2_with (at_builtin; refine wpList_app rfl _ _ 81 rfl etL w.heap.size rfl (hv.alloc _) rfl rfl (sl_new w4 _ 52 rfl) (by unfold maxLen; omega) (by omega) (by simp; omega) ?_; intro a5 c5 w5 hown5 hg5 hb5)
      go_wp2_with fail
      go_roundw
      case rel =>
        have hl1 : vs.length = 2 + i := by have := HV.out; simpa using this
        refine ⟨i + 1, _, _, by omega, by go_num, rfl, ?_, (hb.trans (hb4.mono hz)).trans (((Below.refl _ _).alloc (by omega) _).trans hb5)⟩
        have ht : (ss.take (i + 1)).map byts = (ss.take i).map byts ++ [byts (sth ss i)] := by
          have : i < ss.length := by have := HL.out; omega
          rw [List.take_succ_eq_append_getElem this, List.map_append, sth_eq this]
          rfl
        rw [ht]
        have := OwT.snoc (base := w.heap.size) (xss := byts nm :: [seats, rule] :: (ss.take i).map byts) HO.out hown5 hl1 h1 (fun q hq => by
          obtain ⟨b, m, c, e1, e2⟩ := hr q hq
          exact ⟨b, m, c, e1, (e2.below ((Below.refl _ _).alloc (Nat.le_refl _) _)).kept (hv.alloc _) hg5⟩) ((hT4.below ((Below.refl _ _).alloc (Nat.le_refl _) _)).kept (hv.alloc _) hg5)
        exact this
      case measure => simp [intOf]; omega
    · obtain rfl : i = n := by omega
      go_wp2_with fail
      go_ret
      refine ⟨_, _, _, rfl, ?_, hb⟩
      have := ho.rd
      rw [List.take_of_length_le (by have := HL.out; omega)] at this
      exact this

end Go.Proofs.Ytnkbkcmphgejkaa
