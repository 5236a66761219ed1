/- Voters: the plain side. No condition. -/
import Derived.Test.YtnjkfjecnicccaaRolA
namespace Go.Proofs.Ytnjkfjecnicccaa
open Go.RowKit Go.Suf
set_option linter.unusedVariables false
set_option linter.unusedSimpArgs false

theorem bytesLess_eq : ∀ (x y : List UInt8), Op.bytesLess x y = decide (x < y)
  | [], [] => by simp [Op.bytesLess]
  | _ :: _, [] => by simp [Op.bytesLess]
  | [], _ :: _ => by simp [Op.bytesLess]
  | a :: x, b :: y => by
    rw [Op.bytesLess, bytesLess_eq x y]
    simp only [List.cons_lt_cons_iff]
    by_cases h1 : a < b <;> by_cases h2 : a = b <;> by_cases h3 : x < y <;> simp [h1, h2, h3]

/-- The order of names. -/
def ltS (s t : ByteArray) : Bool := Op.bytesLess s.toList t.toList
theorem ltS_eq (s t : ByteArray) : ltS s t = decide (s.toList < t.toList) := bytesLess_eq _ _
theorem ltS_irrefl (s : ByteArray) : ltS s s = false := by simp [ltS_eq, List.lt_irrefl]
theorem ltS_trans {s t u : ByteArray} (h1 : ltS s t = true) (h2 : ltS t u = true) : ltS s u = true := by
  simp only [ltS_eq, decide_eq_true_eq] at *
  exact List.lt_trans h1 h2
theorem ltS_asymm {s t : ByteArray} (h1 : ltS s t = true) : ltS t s = false := by
  cases h : ltS t s
  · rfl
  · have := ltS_trans h1 h
    rw [ltS_irrefl] at this
    cases this
theorem ltS_total (s t : ByteArray) : ltS s t = true ∨ s = t ∨ ltS t s = true := by
  simp only [ltS_eq, decide_eq_true_eq]
  by_cases h1 : s.toList < t.toList
  · exact .inl h1
  · by_cases h2 : t.toList < s.toList
    · exact .inr (.inr h2)
    · refine .inr (.inl (eqS_iff.1 ?_))
      have := List.le_antisymm (List.not_lt.1 h2) (List.not_lt.1 h1)
      simp [eqS, this]
theorem leq_ltS (s t : ByteArray) : (Op.bytesLess s.toList t.toList || s.toList == t.toList) = !ltS t s := by
  show (ltS s t || eqS s t) = !ltS t s
  rcases ltS_total s t with h | h | h
  · rw [h, ltS_asymm h]; rfl
  · subst h
    rw [ltS_irrefl, eqS_iff.2 rfl]
    rfl
  · rw [h, ltS_asymm h]
    cases he : eqS s t
    · rfl
    · rw [eqS_iff.1 he, ltS_irrefl] at h
      cases h

structure VQ where
  nm : ByteArray
  pc : Int
  st : Nat
  deriving DecidableEq

def zeroVQ : VQ := ⟨⟨#[]⟩, 0, 0⟩
def vth (vs : List VQ) (i : Nat) : VQ := vs.getD i zeroVQ
theorem vth_eq {vs : List VQ} {i : Nat} (h : i < vs.length) : vth vs i = vs[i] := by simp [vth, h]
theorem vth_mem {vs : List VQ} {i : Nat} (h : i < vs.length) : vth vs i ∈ vs := by rw [vth_eq h]; exact List.getElem_mem _

def vcells (v : VQ) : List Value := [.string v.nm, .int .i64 v.pc, .int .u8 ((v.st : Nat) : Int)]
def voterV (v : VQ) : Value := .agg #[.string v.nm, .int .i64 v.pc, .int .u8 ((v.st : Nat) : Int)]
def VW (v : VQ) : Prop := -9223372036854775808 ≤ v.pc ∧ v.pc ≤ 9223372036854775807 ∧ v.st < 256

def mayV (v : VQ) : Bool := !oddS v.nm && decide (0 ≤ v.pc) && decide (v.pc < 8) && decide (1 ≤ v.st) && decide (v.st ≤ 4)
def okAt (vs : List VQ) (i : Nat) : Bool := mayV (vth vs i) && (decide (i = 0) || ltS (vth vs (i - 1)).nm (vth vs i).nm)
def chkV (vs : List VQ) : Int := if 64 < vs.length then 4 else if (List.range vs.length).all (okAt vs) = true then 0 else 8
theorem chk_many {vs : List VQ} (h : 64 < vs.length) : chkV vs = 4 := if_pos h
theorem chk_all {vs : List VQ} (h : ¬ 64 < vs.length) (ha : ∀ i, i < vs.length → okAt vs i = true) : chkV vs = 0 := by
  unfold chkV
  rw [if_neg h, if_pos (List.all_eq_true.2 fun i hi => ha i (List.mem_range.1 hi))]
theorem chk_bad {vs : List VQ} {i : Nat} (h : ¬ 64 < vs.length) (hi : i < vs.length) (hb : okAt vs i = false) : chkV vs = 8 := by
  unfold chkV
  rw [if_neg h, if_neg]
  intro ha
  rw [List.all_eq_true] at ha
  have := ha i (List.mem_range.2 hi)
  rw [hb] at this
  cases this

/-- A slice of voters reads. -/
structure RdV (w : World) (a : Option Addr) (n cap : Nat) (vs : List VQ) : Prop where
  len : vs.length = n
  le : n ≤ cap
  max : cap ≤ maxLen
  nil : a = none → cap = 0
  cell : ∀ i, i < n → ∃ b off, a = some ⟨b, off, none⟩ ∧ w.cell? ⟨b, off + i * 3, none⟩ = some (.string (vth vs i).nm) ∧ w.cell? ⟨b, off + i * 3 + 1, none⟩ = some (.int .i64 (vth vs i).pc) ∧ w.cell? ⟨b, off + i * 3 + 2, none⟩ = some (.int .u8 (((vth vs i).st : Nat) : Int))
  wf : ∀ v ∈ vs, VW v

theorem RdV.lt {w : World} {a : Option Addr} {n cap : Nat} {vs : List VQ} (h : RdV w a n cap vs) : n ≤ 9223372036854775807 := by have h1 := h.le; have h2 := h.max; unfold maxLen at h2; omega

theorem RdV.below {w w' : World} {a : Option Addr} {n cap : Nat} {vs : List VQ} (h : RdV w a n cap vs) (hb : Below w.heap.size w w') : RdV w' a n cap vs :=
  ⟨h.len, h.le, h.max, h.nil, fun i hi => by
    obtain ⟨b, off, e, h1, h2, h3⟩ := h.cell i hi
    exact ⟨b, off, e, cell_below hb h1, cell_below hb h2, cell_below hb h3⟩, h.wf⟩

/-- One place for all elements. -/
theorem RdV.addr {w : World} {a : Option Addr} {n cap : Nat} {vs : List VQ} (h : RdV w a n cap vs) (hp : 0 < n) : ∃ b off, a = some ⟨b, off, none⟩ ∧ ∀ i, i < n → w.cell? ⟨b, off + i * 3, none⟩ = some (.string (vth vs i).nm) ∧ w.cell? ⟨b, off + i * 3 + 1, none⟩ = some (.int .i64 (vth vs i).pc) ∧ w.cell? ⟨b, off + i * 3 + 2, none⟩ = some (.int .u8 (((vth vs i).st : Nat) : Int)) := by
  obtain ⟨b, off, e, _⟩ := h.cell 0 hp
  subst e
  refine ⟨b, off, rfl, fun i hi => ?_⟩
  obtain ⟨b', off', e, h'⟩ := h.cell i hi
  obtain ⟨rfl, rfl⟩ : b = b' ∧ off = off' := by simpa using e
  exact h'
theorem RdV.w {w : World} {a : Option Addr} {n cap : Nat} {vs : List VQ} (h : RdV w a n cap vs) {i : Nat} (hi : i < n) : VW (vth vs i) := h.wf _ (vth_mem (by rw [h.len]; exact hi))

end Go.Proofs.Ytnjkfjecnicccaa
