/- What Read answers, as plain data; Bytes and Read undo each other. No program in sight. No condition. -/
import Derived.Test.YtnkbkcmphgejkaaConI
set_option linter.unusedVariables false
set_option linter.unusedSimpArgs false
namespace Go.Proofs.Ytnkbkcmphgejkaa
open Go.RowKit Go.Suf

/-- A contest as plain data. -/
structure CQ where
  nm : ByteArray
  ss : List ByteArray
  seats : Nat
  rule : Nat

def zeroK : CQ := ⟨⟨#[]⟩, [], 0, 0⟩
/-- The contest that fields say. -/
def ofF (l : List (List Nat)) : CQ := ⟨strB (lth l 0), (l.drop 2).map strB, nth (lth l 1) 0, nth (lth l 1) 1⟩
def chkK (q : CQ) : Int := checkC q.nm q.ss q.seats q.rule
def fmt (l : List (List Nat)) : CQ × Int :=
  if l.length < 3 ∨ (lth l 1).length ≠ 2 then (zeroK, 11) else if chkK (ofF l) = 0 then (ofF l, 0) else (zeroK, 11)
def readC (xs : List Nat) : CQ × Int := if (splitX xs).2 = 0 then fmt (splitX xs).1 else (zeroK, (splitX xs).2)

theorem sumF_fields {nm : ByteArray} {ss : List ByteArray} {seats rule : Nat} (h0 : nm.size ≤ 40) (h : ∀ s ∈ ss, s.size ≤ 40) (hn : ss.length ≤ 10) : sumF (fieldsC nm ss seats rule) ≤ 16384 := by
  have : ∀ l : List ByteArray, (∀ s ∈ l, s.size ≤ 40) → sumF (l.map byts) ≤ 42 * l.length := by
    intro l
    induction l with
    | nil => intro _; simp [sumF]
    | cons x l ih =>
      intro hx
      have h2 := ih (fun s hs => hx s (by simp [hs]))
      have h1 := hx x (by simp)
      have e : sumF ((x :: l).map byts) = 2 + x.size + sumF (l.map byts) := by simp only [sumF, List.map_cons, List.sum_cons, byts_length]
      rw [e, List.length_cons]
      omega
  have := this ss h
  have e : sumF (fieldsC nm ss seats rule) = 2 + nm.size + (2 + 2 + sumF (ss.map byts)) := by simp only [fieldsC, sumF, List.map_cons, List.sum_cons, byts_length, List.length_cons, List.length_nil]
  rw [e]
  omega

/-- Bytes of a valid contest. -/
theorem bytesC_ok {nm : ByteArray} {ss : List ByteArray} {seats : Int} {rule : Nat} (h : checkC nm ss seats rule = 0) : bytesC nm ss seats rule = ((fieldsC nm ss seats.toNat rule).flatMap field, 0) ∧ joinX [] (fieldsC nm ss seats.toNat rule) = ((fieldsC nm ss seats.toNat rule).flatMap field, 0) := by
  obtain ⟨k1, k2, k3, k4, k5, k6, _⟩ := check_ok h
  have hj : joinX [] (fieldsC nm ss seats.toNat rule) = ((fieldsC nm ss seats.toNat rule).flatMap field, 0) := by
    rw [joinX_eq _ [] (Nat.zero_le _), if_pos (by have := sumF_fields (seats := seats.toNat) (rule := rule) k5 k6 k1; simp; omega)]
    simp
  refine ⟨?_, hj⟩
  unfold bytesC
  rw [if_pos h, hj]

theorem ofF_fields (nm : ByteArray) (ss : List ByteArray) (seats rule : Nat) : ofF (fieldsC nm ss seats rule) = ⟨nm, ss, seats, rule⟩ := by
  unfold ofF fieldsC
  have e : (ss.map byts).map strB = ss := by
    rw [List.map_map]
    exact (List.map_congr_left (fun s _ => strB_byts s)).trans (List.map_id _)
  have e0 : lth (byts nm :: [seats, rule] :: ss.map byts) 0 = byts nm := rfl
  have e1 : lth (byts nm :: [seats, rule] :: ss.map byts) 1 = [seats, rule] := rfl
  have e2 : (byts nm :: [seats, rule] :: ss.map byts).drop 2 = ss.map byts := rfl
  rw [e0, e1, e2, e, strB_byts]
  rfl

/-- Read undoes Bytes. -/
theorem read_bytes {nm : ByteArray} {ss : List ByteArray} {seats : Int} {rule : Nat} (h : checkC nm ss seats rule = 0) : readC (bytesC nm ss seats rule).1 = (⟨nm, ss, seats.toNat, rule⟩, 0) := by
  obtain ⟨k1, k2, k3, k4, k5, k6, _⟩ := check_ok h
  obtain ⟨e1, e2⟩ := bytesC_ok h
  have e3 := split_join (fieldsC nm ss seats.toNat rule) (by rw [e2])
  rw [e2] at e3
  unfold readC
  rw [e1]
  simp only at e3 ⊢
  rw [e3, if_pos rfl]
  unfold fmt
  have hl : ¬ ((fieldsC nm ss seats.toNat rule).length < 3 ∨ (lth (fieldsC nm ss seats.toNat rule) 1).length ≠ 2) := by
    have h1 : lth (fieldsC nm ss seats.toNat rule) 1 = [seats.toNat, rule] := rfl
    have h2 : (fieldsC nm ss seats.toNat rule).length = ss.length + 1 + 1 := by simp [fieldsC]
    rw [h1, h2]
    simp
    omega
  have hc : chkK (ofF (fieldsC nm ss seats.toNat rule)) = 0 := by
    rw [ofF_fields]
    unfold chkK
    rw [Int.toNat_of_nonneg (by omega)]
    exact h
  simp only
  rw [if_neg hl, if_pos hc, ofF_fields]

theorem byts_strB {xs : List Nat} (h : ∀ x ∈ xs, x < 256) : byts (strB xs) = xs := by
  unfold byts strB
  simp only [List.map_map]
  refine (List.map_congr_left (fun x hx => ?_)).trans (List.map_id _)
  have := h x hx
  simp
  omega

theorem fields_ofF {l : List (List Nat)} (h : ¬ (l.length < 3 ∨ (lth l 1).length ≠ 2)) (hb : ∀ y ∈ l, ∀ x ∈ y, x < 256) : fieldsC (ofF l).nm (ofF l).ss (ofF l).seats (ofF l).rule = l := by
  simp only [not_or, Nat.not_lt, Classical.not_not] at h
  match l, h with
  | a :: b :: r, h =>
    have h2 : b.length = 2 := h.2
    match b, h2 with
    | [p, q], _ =>
      unfold ofF fieldsC
      have e0 : lth (a :: [p, q] :: r) 0 = a := rfl
      have e1 : lth (a :: [p, q] :: r) 1 = [p, q] := rfl
      have e2 : (a :: [p, q] :: r).drop 2 = r := rfl
      simp only [e0, e1, e2]
      rw [byts_strB (hb a (by simp)), List.map_map]
      have : r.map (byts ∘ strB) = r := (List.map_congr_left (fun y hy => byts_strB (hb y (by simp [hy])))).trans (List.map_id _)
      rw [this]
      rfl

theorem flat_lt {l : List (List Nat)} {B : Nat} (h : ∀ x ∈ l.flatMap field, x < B) : ∀ y ∈ l, ∀ x ∈ y, x < B := by
  intro y hy x hx
  exact h x (List.mem_flatMap.2 ⟨y, hy, by unfold field; rw [List.mem_append]; exact .inr hx⟩)

theorem joinX_flat {l : List (List Nat)} {xs : List Nat} (h : joinX [] l = (xs, 0)) : xs = l.flatMap field := by
  rw [joinX_eq l [] (Nat.zero_le _)] at h
  split at h
  · simpa using (congrArg Prod.fst h).symm
  · have := congrArg Prod.snd h
    simp at this

theorem fmt_cases (l : List (List Nat)) : (¬ (l.length < 3 ∨ (lth l 1).length ≠ 2) ∧ chkK (ofF l) = 0 ∧ fmt l = (ofF l, 0)) ∨ fmt l = (zeroK, 11) := by
  unfold fmt
  by_cases h : l.length < 3 ∨ (lth l 1).length ≠ 2
  · rw [if_pos h]; exact .inr rfl
  · rw [if_neg h]
    by_cases hc : chkK (ofF l) = 0
    · rw [if_pos hc]; exact .inl ⟨h, hc, rfl⟩
    · rw [if_neg hc]; exact .inr rfl

/-- Bytes undoes Read. -/
theorem bytes_read {xs : List Nat} (hx : ∀ x ∈ xs, x < 256) : ((readC xs).2 = 0 ∧ chkK (readC xs).1 = 0 ∧ bytesC (readC xs).1.nm (readC xs).1.ss (readC xs).1.seats (readC xs).1.rule = (xs, 0)) ∨ (¬ (readC xs).2 = 0 ∧ (readC xs).1 = zeroK) := by
  rcases join_split xs hx with ⟨h0, h1, h2⟩ | ⟨h0, h1⟩
  · unfold readC
    rw [if_pos h0]
    rcases fmt_cases (splitX xs).1 with ⟨ha, hb, hc⟩ | hc
    · left
      rw [hc]
      refine ⟨rfl, hb, ?_⟩
      have hf : ∀ y ∈ (splitX xs).1, ∀ x ∈ y, x < 256 := flat_lt (by rw [← joinX_flat h1]; exact hx)
      have e := fields_ofF ha hf
      have hc0 : checkC (ofF (splitX xs).1).nm (ofF (splitX xs).1).ss ((ofF (splitX xs).1).seats : Int) (ofF (splitX xs).1).rule = 0 := hb
      unfold bytesC
      rw [if_pos hc0, Int.toNat_natCast, e, h1]
    · right
      rw [hc]
      exact ⟨by decide, rfl⟩
  · right
    unfold readC
    rw [if_neg h0]
    exact ⟨h0, rfl⟩

theorem rule_lt {xs : List Nat} (hx : ∀ x ∈ xs, x < 256) : (readC xs).1.rule < 256 ∧ (readC xs).1.seats < 256 := by
  rcases bytes_read hx with ⟨h0, h1, h2⟩ | ⟨_, h⟩
  · have hj := (bytesC_ok (seats := ((readC xs).1.seats : Int)) h1).2
    have h3 := (bytesC_ok (seats := ((readC xs).1.seats : Int)) h1).1
    rw [h2] at h3
    have h4 : xs = (fieldsC (readC xs).1.nm (readC xs).1.ss ((readC xs).1.seats : Int).toNat (readC xs).1.rule).flatMap field := congrArg Prod.fst h3
    have hf := flat_lt (l := fieldsC (readC xs).1.nm (readC xs).1.ss ((readC xs).1.seats : Int).toNat (readC xs).1.rule) (B := 256) (by rw [← h4]; exact hx) [((readC xs).1.seats : Int).toNat, (readC xs).1.rule] (by simp [fieldsC])
    have a1 := hf (readC xs).1.rule (by simp)
    have a2 := hf ((readC xs).1.seats : Int).toNat (by simp)
    rw [Int.toNat_natCast] at a2
    exact ⟨a1, a2⟩
  · rw [h]; exact ⟨by decide, by decide⟩

end Go.Proofs.Ytnkbkcmphgejkaa
