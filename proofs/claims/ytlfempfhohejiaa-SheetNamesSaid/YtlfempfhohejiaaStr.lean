/- Slices of strings. No condition. -/
import Derived.Test.YtlfempfhohejiaaBase
import Derived.Lib.ConvBytes
set_option linter.unusedVariables false
set_option linter.unusedSimpArgs false
namespace Go.Suf
open Go.RowKit

def strs (ss : List ByteArray) : List Value := ss.map fun s => .string s

@[simp] theorem strs_length (ss : List ByteArray) : (strs ss).length = ss.length := by simp [strs]

theorem strs_one (ss : List ByteArray) : ∀ u ∈ strs ss, u.oneCell' = true := by
  intro u hu
  simp only [strs, List.mem_map] at hu
  obtain ⟨x, _, rfl⟩ := hu
  rfl

/-- The i-th string. -/
def sth (ss : List ByteArray) (i : Nat) : ByteArray := ss.getD i ⟨#[]⟩
theorem sth_eq {ss : List ByteArray} {i : Nat} (h : i < ss.length) : sth ss i = ss[i] := by simp [sth, h]
theorem sth_mem {ss : List ByteArray} {i : Nat} (h : i < ss.length) : sth ss i ∈ ss := by rw [sth_eq h]; exact List.getElem_mem _
theorem strs_at (ss : List ByteArray) (i : Nat) (h : i < ss.length) : (strs ss)[i]? = some (.string (sth ss i)) := by simp [strs, sth, h]

/-- The slice of 'n' strings at 'a' reads as ss. -/
structure RdS (w : World) (a : Option Addr) (n cap : Nat) (ss : List ByteArray) : Prop where
  len : ss.length = n
  sl : Sl w a cap (strs ss)

/-- The same, in memory of the call's own. -/
structure OwS (e : TypeId) (base : Nat) (w : World) (a : Option Addr) (n cap : Nat) (ss : List ByteArray) : Prop where
  len : ss.length = n
  own : w.ownsRow base e 1 (.slice a n cap) n (strs ss)

section
variable {e : TypeId} {base : Nat} {w w' : World} {a : Option Addr} {n cap : Nat} {ss : List ByteArray}

theorem RdS.le (h : RdS w a n cap ss) : n ≤ cap := by have := h.sl.le; simp at this; have := h.len; omega
theorem RdS.lt (h : RdS w a n cap ss) : n ≤ 9223372036854775807 := by have h1 := h.le; have h2 := h.sl.max; unfold maxLen at h2; omega
theorem RdS.below (h : RdS w a n cap ss) (hb : Below w.heap.size w w') : RdS w' a n cap ss := ⟨h.len, h.sl.below hb⟩

theorem RdS.cell (h : RdS w a n cap ss) (i : Nat) (hi : i < n) : ∃ b off, a = some ⟨b, off, none⟩ ∧ w.cell? ⟨b, off + i, none⟩ = some (.string (sth ss i)) := by
  have hl := h.len
  exact h.sl.cell i _ (strs_at ss i (by omega))

theorem RdS.addr (h : RdS w a n cap ss) (hp : 0 < n) : ∃ b off, a = some ⟨b, off, none⟩ ∧ ∀ i, i < n → w.cell? ⟨b, off + i, none⟩ = some (.string (sth ss i)) := by
  have hl := h.len
  obtain ⟨b, off, e, hw⟩ := h.sl.addr (by simp; omega)
  exact ⟨b, off, e, fun i hi => hw i _ (strs_at ss i (by omega))⟩

theorem OwS.rd (h : OwS e base w a n cap ss) : RdS w a n cap ss := ⟨h.len, sl_of_own h.own (strs_one ss)⟩
theorem OwS.below (h : OwS e base w a n cap ss) (hb : Below w.heap.size w w') : OwS e base w' a n cap ss := ⟨h.len, own_below h.own hb⟩
theorem OwS.nil (e : TypeId) (base : Nat) (w : World) : OwS e base w none 0 0 [] := ⟨rfl, World.ownsRow_nil w base e 1⟩
theorem OwS.base_le (h : OwS e base w a n cap ss) {base' : Nat} (hb : base' ≤ base) : OwS e base' w a n cap ss := by
  refine ⟨h.len, ⟨h.own.1, ?_⟩⟩
  rcases h.own.2 with h2 | ⟨g, c, cur, hv, hg, r⟩
  · exact .inl h2
  · exact .inr ⟨g, c, cur, hv, by omega, r⟩

theorem RdS.part {b off : Nat} (h : RdS w (some ⟨b, off, none⟩) n cap ss) (i j c : Nat) (hij : i ≤ j) (hj : j ≤ n) (hjk : j ≤ c) (hk : c ≤ cap) (off' : Nat) (ho : i < j → off' = off + i) :
    RdS w (some ⟨b, off', none⟩) (j - i) (c - i) ((ss.take j).drop i) := by
  have hl := h.len
  refine ⟨by simp; omega, ?_⟩
  have := h.sl.part i j c hij (by simp; omega) hjk hk off' ho
  simpa [strs, List.map_take, List.map_drop] using this

theorem rdS_lit (w : World) (ss : List ByteArray) (t : TypeId) (hm : ss.length ≤ maxLen) : RdS (w.alloc (.cells (strs ss).toArray t)) (some ⟨w.heap.size, 0, none⟩) ss.length ss.length ss := by
  refine ⟨rfl, ?_⟩
  have := sl_lit w (strs ss) t (strs_one ss) (by simpa using hm)
  simpa using this
end

theorem sliced_rdS {w : World} {a : Option Addr} {n cap : Nat} {ss : List ByteArray} (h : RdS w a n cap ss) (l j m : Nat) (hlj : l ≤ j) (hj : j ≤ n) (hjm : j ≤ m) (hm : m ≤ cap) :
    ∃ a', sliced a l j m 1 = .slice a' (j - l) (m - l) ∧ RdS w a' (j - l) (m - l) ((ss.take j).drop l) := by
  have hl := h.len
  have hmax := h.sl.max
  refine ⟨_, rfl, ?_⟩
  by_cases he : l < j
  · obtain ⟨b, off, rfl, _⟩ := h.addr (by omega)
    rw [if_neg (by omega)]
    have : (⟨b, off, none⟩ : Addr).add (l * 1) = ⟨b, off + l, none⟩ := by unfold Addr.add; split <;> simp_all
    simp only [Option.map_some, this]
    exact h.part l j m hlj hj hjm hm _ (fun _ => rfl)
  · obtain rfl : l = j := by omega
    have e : (ss.take l).drop l = [] := List.drop_eq_nil_of_le (by simp; omega)
    rw [e]
    refine ⟨by simp, Sl.empty _ _ _ (by omega) (fun hn => ?_)⟩
    have : a = none := by
      split at hn
      · exact hn
      · simpa using hn
    have := h.sl.nil this
    omega

section
variable {P : Program} {ops : Array Oper} {rest : List Oper} {o : Oper} {a : Act} {w : World} {Q : Exit → Act → World → Prop} {a1 : Option Addr} {n cap : Nat} {ss : List ByteArray} {t e : TypeId} {z : Value} {bs : Nat}

/-- 'x[:j]', of strings. -/
theorem wpList_uptoS (hgd : o.guard = none) (x hi : Operand) (t : TypeId) (ho : o.op = .slice t x none (some hi) none) (T : ET P t e z bs) (h : RdS w a1 n cap ss) (hx : a.eval x = .slice a1 n cap)
    {kh : IntKind} {J : Int} (hhi : a.eval hi = .int kh J) (j : Nat) (hJ : J = (j : Int)) (hj : j ≤ n)
    (K : ∀ a', RdS w a' j cap (ss.take j) → wpList P ops Q rest (a.put o.dst (.slice a' j cap)) w) : wpList P ops Q (o :: rest) a w := by
  subst hJ
  have ht' : P.underlying t = some (.slice (P.elem t)) := by rw [elem_of T]; exact T.ht
  have hle := h.le
  obtain ⟨a', e1, hr⟩ := sliced_rdS h 0 j cap (Nat.zero_le _) hj (by omega) (Nat.le_refl _)
  simp only [Nat.sub_zero, List.drop_zero] at e1 hr
  have hrun : (Instr.sliceAt t (.slice a1 n cap) none (some (.int kh j)) none).run P w = .ok (.slice a' j cap) w := by
    rw [run_sliceAt_slice w t _ _ _ _ ht', run_slice_h w t a1 n cap ht' kh j (by omega) (by omega), elem_of T, run_sizeOf1 T]
    simp [e1]
  refine wpList_plain hgd fun K' hK => ?_
  unfold Oper.wp
  simp [execOp, ho, hx, hhi, hrun, Result.andThen]
  exact hK _ _ (K a' hr)
end

/-- The bytes of a string, as numbers. -/
def byts (s : ByteArray) : List Nat := s.data.toList.map UInt8.toNat
@[simp] theorem byts_length (s : ByteArray) : (byts s).length = s.size := by
  unfold byts
  rw [List.length_map, Array.length_toList]
  rfl

theorem byts_lt (s : ByteArray) : ∀ x ∈ byts s, x < 256 := by
  intro x hx
  simp only [byts, List.mem_map] at hx
  obtain ⟨b, _, rfl⟩ := hx
  exact b.toNat_lt

theorem strB_byts (s : ByteArray) : strB (byts s) = s := by
  cases s
  have e : (UInt8.ofNat ∘ UInt8.toNat) = id := funext fun x => by simp
  simp [strB, byts, e]

theorem bytesWorld_below (B : Nat) (w : World) (e : TypeId) (s : ByteArray) (hB : B ≤ w.heap.size) : Below B w (Lib.bytesWorld w e s) := by
  refine ⟨?_, ?_, ?_, by rw [Lib.bytesWorld_size]; omega, fun k hk => Lib.bytesWorld_at_old w e s k (by omega)⟩ <;>
  · unfold Lib.bytesWorld World.freeze
    split <;> rfl

theorem rd_bytes (w : World) (e : TypeId) (s : ByteArray) (hs : s.size ≤ maxLen) : Rd .u8 (Lib.bytesWorld w e s) (some ⟨w.heap.size, 0, none⟩) s.size (grownCap w s.size 0 e) (byts s) := by
  refine ⟨byts_length s, ⟨by simpa using grownCap_ge w s.size 0 e, grownCap_le_maxLen w _ 0 e hs, fun h => by simp at h, ?_, nums_one _ _⟩, byts_lt s⟩
  intro i c hc
  have hi : i < s.size := by
    have := (List.getElem?_eq_some_iff.1 hc).1
    simpa using this
  refine ⟨_, _, rfl, ?_⟩
  have := Lib.bytesWorld_cell w e s i hi
  rw [Nat.zero_add, this, ← hc, nums_at .u8 (byts s) i (by simpa using hi)]
  have hd : i < s.data.size := hi
  simp only [nth, byts, List.getD, List.getElem?_map, Array.getElem?_toList, getElem?_pos s.data i hd]
  rfl

section
variable {P : Program} {ops : Array Oper} {rest : List Oper} {o : Oper} {a : Act} {w : World} {Q : Exit → Act → World → Prop}
/-- '[]byte(s)'. -/
theorem wpList_bytes (hgd : o.guard = none) (src dst e : TypeId) (x : Operand) (ho : o.op = .convert src dst x) {u : TypeDesc} (hs : P.underlying src = some u) (hd : P.underlying dst = some (.slice e)) (he : P.underlying e = some (.int .u8))
    (s : ByteArray) (hx : a.eval x = .string s) (hl : s.size ≤ maxLen)
    (K : ∀ a' c' w', Rd .u8 w' a' s.size c' (byts s) → Below w.heap.size w w' → w'.heap.size = w.heap.size + 1 → wpList P ops Q rest (a.put o.dst (.slice a' s.size c')) w') : wpList P ops Q (o :: rest) a w := by
  refine wpList_plain hgd fun K' hK => ?_
  unfold Oper.wp execOp
  simp only [ho, hx, Sem.run_bind, Result.andThen_ok, Lib.run_convert_string_bytes w src dst e s hs hd he, Sem.run_pure]
  exact hK _ _ (K _ _ _ (rd_bytes w e s hl) (bytesWorld_below _ w e s (Nat.le_refl _)) (Lib.bytesWorld_size w e s))
end

/-- The same, as a fact ahead of a walk. -/
theorem conv_bytes (P : Program) (w : World) {src dst e : TypeId} {u : TypeDesc} (hs : P.underlying src = some u) (hd : P.underlying dst = some (.slice e)) (he : P.underlying e = some (.int .u8)) (s : ByteArray) (hl : s.size ≤ maxLen) :
    ∃ a' c' w', Sem.run P (convert src dst (.string s)) w = .ok (.slice a' s.size c') w' ∧ Rd .u8 w' a' s.size c' (byts s) ∧ Below w.heap.size w w' ∧ w'.heap.size = w.heap.size + 1 :=
  ⟨_, _, _, Lib.run_convert_string_bytes w src dst e s hs hd he, rd_bytes w e s hl, bytesWorld_below _ w e s (Nat.le_refl _), Lib.bytesWorld_size w e s⟩

/-! ### Names -/
def badC (c : Nat) : Bool := decide (c < 33) || decide (126 < c)
def oddS (s : ByteArray) : Bool := decide (s.size = 0) || decide (40 < s.size) || (byts s).any badC
def oddL (ss : List ByteArray) : Bool := ss.any oddS
/-- Equality of strings, as the model tests it. -/
def eqS (s t : ByteArray) : Bool := s.toList == t.toList
theorem eqS_iff {s t : ByteArray} : eqS s t = true ↔ s = t := by
  unfold eqS
  rw [ByteArray.toList_eq, ByteArray.toList_eq, beq_iff_eq]
  constructor
  · intro h
    cases s; cases t
    simp at h
    simp [h]
  · rintro rfl; rfl
def idxS (ss : List ByteArray) (s : ByteArray) : Option Nat := (List.range ss.length).find? fun i => eqS s (sth ss i)
def hasS (ss : List ByteArray) (s : ByteArray) : Bool := ss.any (eqS s)
def twiceL (ss : List ByteArray) : Bool := (List.range ss.length).any fun i => hasS (ss.take i) (sth ss i)

end Go.Suf
