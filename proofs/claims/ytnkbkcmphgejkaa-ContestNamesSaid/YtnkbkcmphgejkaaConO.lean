/- The encoding of a contest in the answer of the document. Conditions: short names, at most ten seats and candidates (a valid contest). -/
import Derived.Test.YtnkbkcmphgejkaaConI
import Derived.Test.YtnkbkcmphgejkaaConN
set_option linter.unusedVariables false
set_option linter.unusedSimpArgs false
namespace Go.Proofs.Ytnkbkcmphgejkaa
open Go.RowKit Go.Suf

def textC (nm : ByteArray) (ss : List ByteArray) (seats rule : Nat) : List Nat := (fieldsC nm ss seats rule).flatMap field

theorem textC_take (nm : ByteArray) (ss : List ByteArray) (seats rule : Nat) (i : Nat) (h : i < ss.length) : textC nm (ss.take (i + 1)) seats rule = textC nm (ss.take i) seats rule ++ field (byts (sth ss i)) := by
  unfold textC fieldsC
  rw [List.take_succ_eq_append_getElem h, sth_eq h]
  simp only [List.map_append, List.flatMap_cons, List.flatMap_append, List.map_cons, List.map_nil, List.flatMap_nil, List.append_nil, List.append_assoc]

theorem field_len (xs : List Nat) : (field xs).length = 2 + xs.length := by rw [field_length]; omega

theorem textC_len (nm : ByteArray) (ss : List ByteArray) (seats rule : Nat) (h0 : nm.size ≤ 40) (h : ∀ s ∈ ss, s.size ≤ 40) : (textC nm ss seats rule).length ≤ 46 + 42 * ss.length := by
  unfold textC fieldsC
  simp only [List.flatMap_cons, List.length_append, field_len, byts_length, List.length_cons, List.length_nil]
  have : ∀ l : List ByteArray, (∀ s ∈ l, s.size ≤ 40) → ((l.map byts).flatMap field).length ≤ 42 * l.length := by
    intro l
    induction l with
    | nil => intro _; simp
    | cons x l ih =>
      intro hx
      have := ih (fun s hs => hx s (by simp [hs]))
      have h1 := hx x (by simp)
      simp only [List.map_cons, List.flatMap_cons, List.length_append, field_len, byts_length, List.length_cons]
      omega
  have := this ss h
  omega

set_option maxRecDepth 100000 in
set_option maxHeartbeats 2000000 in
theorem refText_any (w : World) (nm : ByteArray) {a : Option Addr} {n cap : Nat} {ss : List ByteArray} (h : RdS w a n cap ss) (seats : Nat) (hs : seats ≤ 10) (rule : Nat) (hr : rule < 256) (hnm : nm.size ≤ 40) (hss : ∀ s ∈ ss, s.size ≤ 40) (hn : n ≤ 10) :
    Calls Try.prog 58 #[.agg #[.string nm, .slice a n cap, .int .i64 (seats : Nat), .int .u8 (rule : Nat)]] w (RetB w (textC nm ss seats rule)) := by
  have HL := Lib.hid h.len
  have HHS := Lib.hid hss
  have HHN := Lib.hid hnm
  have hA : Below w.heap.size w (w.alloc (.cells #[.string nm, .slice a n cap, .int .i64 (seats : Nat), .int .u8 (rule : Nat)] 40)) := (Below.refl _ _).alloc (Nat.le_refl _) _
  have hrd := h.below hA
  have c1 := new_cell w #[.string nm, .slice a n cap, .int .i64 (seats : Nat), .int .u8 (rule : Nat)] 40 1 _ rfl
  have c2 := new_cell w #[.string nm, .slice a n cap, .int .i64 (seats : Nat), .int .u8 (rule : Nat)] 40 2 _ rfl
  have c3 := new_cell w #[.string nm, .slice a n cap, .int .i64 (seats : Nat), .int .u8 (rule : Nat)] 40 3 _ rfl
  obtain ⟨a1, k1, w1, hcv, hT, hb1, hz1⟩ := conv_T (w.alloc (.cells #[.string nm, .slice a n cap, .int .i64 (seats : Nat), .int .u8 (rule : Nat)] 40)) nm (by unfold maxLen; omega)
  clear hz1 h
  go_enter Try.func58, Try.ntmps58
  go_wp2_with fail
  clear hcv
  have hz0 : (w.alloc (.cells #[.string nm, .slice a n cap, .int .i64 (seats : Nat), .int .u8 (rule : Nat)] 40)).heap.size = w.heap.size + 1 := World.size_alloc _ _
  generalize w.alloc (.cells #[.string nm, .slice a n cap, .int .i64 (seats : Nat), .int .u8 (rule : Nat)] 40) = wA at *
  refine (Field_any _ hT.rd (by have := HHN.out; omega)).mono ?_
  rintro e w2 ⟨a2, n2, k2, rfl, ho2, hb2⟩
  have B2 := hb1.trans (hb2.mono hb1.size)
  have ho2 := ho2.base_le hb1.size
  have d1 := cell_below B2 c1
  have d2 := cell_below B2 c2
  have d3 := cell_below B2 c3
  have HL2 : Hid (n2 = 2 + nm.size) := Lib.hid (by rw [← ho2.len, field_len, byts_length])
  clear c1 c2 c3 hb1 hb2 hT
  have hU : Rd .u8 (w2.alloc (.cells #[.int .u8 (seats : Nat), .int .u8 (rule : Nat)] 5)) (some ⟨w2.heap.size, 0, none⟩) 2 2 [seats, rule] := rd_lit .u8 w2 [seats, rule] 5 2 rfl (by unfold maxLen; omega) (by simp [lim]; omega)
  have hB3 := (Below.refl w2.heap.size w2).alloc (Nat.le_refl _) (.cells #[.int .u8 (seats : Nat), .int .u8 (rule : Nat)] 5)
  have B3 := B2.trans (hB3.mono B2.size)
  have e1 := cell_below hB3 d1
  have ho3 := ho2.below hB3
  clear hB3
  go_wp2_with fail
  generalize w2.alloc (.cells #[.int .u8 (seats : Nat), .int .u8 (rule : Nat)] 5) = w3 at *
  refine (Field_any _ hU (by omega)).mono ?_
  rintro e w4 ⟨a4, n4, k4, rfl, ho4, hb4⟩
  have B4 := B3.trans (hb4.mono B3.size)
  have ho5 := ho3.below hb4
  have f1 := cell_below hb4 e1
  have HL4 : Hid (n4 = 4) := Lib.hid (by rw [← ho4.len]; rfl)
  have HB4 := Lib.hid B4
  have hz4 := B4.size
  clear d1 d2 d3 e1 ho2 ho3 hU hb4 B2 B3 B4
  go_wp2_with (at_builtin; refine wpList_app rfl _ _ 52 rfl etB wA.heap.size rfl ho5.own rfl (by simpa using ho4.len) ho4.rd.sl (by have := HHN.out; have := HL2.out; have := HL4.out; unfold maxLen; omega) (by have := HHN.out; have := HL2.out; have := HL4.out; omega) hz4 ?_; intro a5 k5 w5 hown5 hg5 hb5)
  have B5 := HB4.out.trans hb5
  have ho6 : Ow .u8 5 wA.heap.size w5 a5 (n2 + n4) k5 (textC nm (ss.take 0) seats rule) := by
    have e : textC nm (ss.take 0) seats rule = field (byts nm) ++ field [seats, rule] := by simp [textC, fieldsC]
    rw [e]
    refine ⟨by rw [List.length_append, ho5.len, ho4.len], by rw [nums_append]; exact hown5, append_lt ho5.bd ho4.bd⟩
  have g1 : w5.cell? ⟨w.heap.size, 1, none⟩ = some (.slice a n cap) := (hb5.cell (by show w.heap.size < _; omega)).trans f1
  have hle6 : n2 + n4 ≤ 46 + 42 * 0 := by have := HHN.out; have := HL2.out; have := HL4.out; omega
  clear hown5 hg5 hb5 ho5 ho4 f1
  go_loopw [3, 4] (fun v j wr => ∃ i a' n' c', i ≤ n ∧ j = .int .i64 (i : Nat) ∧ v = .slice a' n' c' ∧ n' ≤ 46 + 42 * i ∧ Ow .u8 5 wA.heap.size wr a' n' c' (textC nm (ss.take i) seats rule) ∧ Below wA.heap.size wA wr ∧ wr.cell? ⟨w.heap.size, 1, none⟩ = some (.slice a n cap)) (fun _ j _ => n - (intOf j).toNat)
  case atStart => exact ⟨0, _, _, _, Nat.zero_le _, rfl, rfl, hle6, ho6, B5, g1⟩
  case round =>
    rename_i wr _
    clear g1 ho6 hle6 B5 HL2 HL4 hz4
    obtain ⟨i, a', n', c', hi, rfl, rfl, hle, ho, hb, g1⟩ := hrel
    have hz := hb.size
    by_cases hlt : i < n
    · obtain ⟨b, off, rfl, hc⟩ := (hrd.below hb).cell i hlt
      have hsz : (sth ss i).size ≤ 40 := HHS.out _ (sth_mem (by have := HL.out; omega))
      obtain ⟨a7, k7, w7, hcv7, hT7, hb7, hz7⟩ := conv_T wr (sth ss i) (by unfold maxLen; omega)
      have HSZ := Lib.hid hsz
      have HT := Lib.hid (textC_take nm ss seats rule i (by have := HL.out; omega))
      clear hsz hz7
      have B7 := hb.trans (hb7.mono hb.size)
      have ho7 := ho.below hb7
      have g7 := cell_below hb7 g1
      go_wp2_with fail
      refine (Field_any _ hT7.rd (by have := HSZ.out; omega)).mono ?_
      rintro e w8 ⟨a8, n8, k8, rfl, ho8, hb8⟩
      have B8 := B7.trans (hb8.mono B7.size)
      have ho9 := ho7.below hb8
      have g8 := cell_below hb8 g7
      have HL8 : Hid (n8 = 2 + (sth ss i).size) := Lib.hid (by rw [← ho8.len, field_len, byts_length])
      have hz8 := B8.size
      have HB8 := Lib.hid B8
      clear hcv7 hT7 hb7 B7 ho7 g7 hb8 B8 hc hb ho
      go_wp2_with (at_builtin; refine wpList_app rfl _ _ 52 rfl etB wA.heap.size rfl ho9.own rfl (by simpa using ho8.len) ho8.rd.sl (by have := HSZ.out; have := HL8.out; unfold maxLen; omega) (by have := HSZ.out; have := HL8.out; omega) hz8 ?_; intro a9 k9 w9 hown9 hg9 hb9)
      go_wp2_with fail
      go_roundw
      case rel =>
        refine ⟨i + 1, _, _, _, by omega, by go_num, rfl, by have := HSZ.out; have := HL8.out; omega, ?_, HB8.out.trans hb9, (hb9.cell (by show w.heap.size < _; omega)).trans g8⟩
        rw [HT.out]
        exact ⟨by rw [List.length_append, ho9.len, ho8.len], by rw [nums_append]; exact hown9, append_lt ho9.bd ho8.bd⟩
      case measure => simp [intOf]; omega
    · obtain rfl : i = n := by omega
      have HTK : Hid (ss.take i = ss) := Lib.hid (List.take_of_length_le (by have := HL.out; omega))
      go_wp2_with fail
      go_ret
      rw [HTK.out] at ho
      exact ⟨a', n', c', rfl, ho.base_le hA.size, hA.trans (hb.mono hA.size)⟩

set_option maxRecDepth 100000 in
set_option maxHeartbeats 2000000 in
theorem refBytes_any (w : World) (nm : ByteArray) {a : Option Addr} {n cap : Nat} {ss : List ByteArray} (h : RdS w a n cap ss) (seats : Int) (hs1 : -9223372036854775808 ≤ seats) (hs2 : seats ≤ 9223372036854775807) (rule : Nat) (hr : rule < 256) :
    Calls Try.prog 29 #[.agg #[.string nm, .slice a n cap, .int .i64 seats, .int .u8 (rule : Nat)]] w (RetBE w (bytesC nm ss seats rule)) := by
  have HL := Lib.hid h.len
  obtain ⟨r, hr0⟩ : ∃ r, r = bytesC nm ss seats rule := ⟨_, rfl⟩
  rw [← hr0]
  have HR := Lib.hid hr0
  clear hr0
  have hA : Below w.heap.size w (w.alloc (.cells #[.string nm, .slice a n cap, .int .i64 seats, .int .u8 (rule : Nat)] 40)) := (Below.refl _ _).alloc (Nat.le_refl _) _
  have hz0 := hA.size
  go_enter Try.func29, Try.ntmps29
  go_wp2_with fail
  refine (refCheck_any _ nm (h.below hA) seats hs1 hs2 rule hr).mono ?_
  rintro e w1 ⟨rfl, hb1⟩
  have hB1 := hA.trans (hb1.mono hz0)
  have c (i : Nat) (v : Value) (hv : (#[.string nm, .slice a n cap, .int .i64 seats, .int .u8 (rule : Nat)] : Array Value)[i]? = some v) := cell_below hb1 (new_cell w _ 40 i v hv)
  have c0 := c 0 _ rfl
  have c1 := c 1 _ rfl
  have c2 := c 2 _ rfl
  have c3 := c 3 _ rfl
  clear c
  by_cases hz : checkC nm ss seats rule = 0
  · obtain ⟨k1, k2, k3, k4, k5, k6, _⟩ := check_ok hz
    obtain ⟨s, rfl⟩ : ∃ s : Nat, seats = (s : Int) := ⟨seats.toNat, by omega⟩
    have HZ := Lib.hid hz
    rw [hz]
    clear hz
    go_wp2_with fail
    refine (refText_any _ nm (h.below hB1) s (by omega) rule hr k5 k6 (by have := HL.out; omega)).mono ?_
    rintro e w2 ⟨a2, n2, c2', rfl, ho, hb2⟩
    go_wp2_with fail
    go_ret2
    have hq : bytesC nm ss (s : Int) rule = (textC nm ss s rule, 0) := by
      unfold bytesC
      rw [if_pos HZ.out, joinX_eq _ [] (Nat.zero_le _), if_pos]
      · simp [textC]
      · have : (textC nm ss s rule).length ≤ 46 + 42 * ss.length := textC_len nm ss s rule k5 k6
        have e := flatMap_field_length (fieldsC nm ss ((s : Nat) : Int).toNat rule)
        rw [Int.toNat_natCast] at e ⊢
        unfold textC at this
        simp
        omega
    refine ⟨a2, n2, c2', ?_, ?_, hB1.trans (hb2.mono hB1.size)⟩
    · rw [HR.out, hq]; rfl
    · rw [HR.out, hq]
      exact ho.base_le hB1.size
  · have HZ := Lib.hid hz
    go_wp2_with fail
    go_ret2
    refine ⟨none, 0, 0, ?_, ?_, hB1⟩
    · rw [HR.out, bytesC, if_neg HZ.out]; rfl
    · rw [HR.out, bytesC, if_neg HZ.out]
      exact Ow.nil _ _ _ _

end Go.Proofs.Ytnkbkcmphgejkaa
