/- Find of both; Count of the program. Conditions: none. -/
import Derived.Test.YtnjkfjecnicccaaRolJ
namespace Go.Proofs.Ytnjkfjecnicccaa
open Go.RowKit Go.Suf
set_option linter.unusedVariables false
set_option linter.unusedSimpArgs false

/-- A voter and an error. -/
def fndV (vs : List VQ) (s : ByteArray) : VQ × Int :=
  if chkV vs = 0 then (match findV vs s with
    | some i => (vth vs i, 0)
    | none => (zeroVQ, 6)) else (zeroVQ, chkV vs)
def RetQ (w : World) (r : VQ × Int) : Ending → World → Prop := fun e w' =>
  e = .returned (.tuple #[voterV r.1, .int .i64 r.2]) ∧ Below w.heap.size w w'

set_option maxRecDepth 100000 in
set_option maxHeartbeats 2000000 in
theorem refFind_any (w : World) {a : Option Addr} {n cap : Nat} {vs : List VQ} (h : RdV w a n cap vs) (s : ByteArray) :
    Calls Try.prog 21 #[.slice a n cap, .string s] w (RetQ w (fndV vs s)) := by
  have R0 := PRow.new 32 w #[Value.string ⟨#[]⟩, .int .i64 0, .int .u8 0]
  have HL := Lib.hid h.len
  obtain ⟨r, hr⟩ : ∃ r, r = fndV vs s := ⟨_, rfl⟩
  rw [← hr]
  obtain ⟨ck, hck⟩ : ∃ ck, chkV vs = ck := ⟨_, rfl⟩
  have HC := Lib.hid hck
  have hd := h.below R0.below
  have c := refCheck_any (w.alloc (.cells #[Value.string ⟨#[]⟩, .int .i64 0, .int .u8 0] 32)) hd
  rw [hck] at c
  clear hck
  go_enter Try.func21, Try.ntmps21
  go_wp2_with fail
  refine c.mono ?_
  rintro e w1 ⟨rfl, hb1⟩
  clear c
  have R1 := R0.later hb1
  have hd := hd.below hb1
  clear R0
  by_cases hc : ck = 0
  case neg =>
    have HE : Hid (r = (zeroVQ, ck)) := Lib.hid (by rw [hr, fndV, HC.out, if_neg hc])
    clear hr
    go_wp2_with first | refine wpList_store_whole rfl 32 _ _ rfl atVot _ _ _ R1.row rfl rfl rfl rfl (vot_one zeroVQ) ?_
    refine bodyPost_ret (results_cell_two rfl _ _ _ _ _ _ _ rfl (setRow_heap _ _ _ _ _ _ R1.row) Try.underlying32 rfl (by kernel_rfl) _ rfl) rfl ?_
    exact ⟨by rw [HE.out]; rfl, (R1.put _).below⟩
  subst hc
  have c := at_any w1 hd s
  go_wp2_with fail
  cases hf : findV vs s with
  | none =>
    have HE : Hid (r = (zeroVQ, 6)) := Lib.hid (by rw [hr, fndV, HC.out, if_pos rfl, hf])
    rw [atV, hf] at c
    refine c.mono ?_
    rintro e w2 ⟨rfl, hb2⟩
    have R1 := R1.later hb2
    clear c hr hf
    go_wp2_with first | refine wpList_store_whole rfl 32 _ _ rfl atVot _ _ _ R1.row rfl rfl rfl rfl (vot_one zeroVQ) ?_
    refine bodyPost_ret (results_cell_two rfl _ _ _ _ _ _ _ rfl (setRow_heap _ _ _ _ _ _ R1.row) Try.underlying32 rfl (by kernel_rfl) _ rfl) rfl ?_
    exact ⟨by rw [HE.out]; rfl, (R1.put _).below⟩
  | some p =>
    have hlt : p < n := by
      rw [← HL.out]
      exact List.mem_range.1 (List.mem_of_find?_eq_some hf)
    have hn := h.lt
    have HE : Hid (r = (vth vs p, 0)) := Lib.hid (by rw [hr, fndV, HC.out, if_pos rfl, hf])
    rw [atV, hf] at c
    refine c.mono ?_
    rintro e w2 ⟨rfl, hb2⟩
    have R1 := R1.later hb2
    have hd := hd.below hb2
    clear c hr hf
    obtain ⟨b, off, rfl, hcc⟩ := hd.addr (by omega)
    obtain ⟨k0, k1, k2⟩ := hcc p hlt
    clear hcc
    have hlw : ((p : Nat) : Int) < (n : Int) := by omega
    go_wp2_with first | refine wpList_store_whole rfl 32 _ _ rfl atVot _ _ _ R1.row rfl rfl rfl rfl (vot_one (vth vs p)) ?_
    refine bodyPost_ret (results_cell_two rfl _ _ _ _ _ _ _ rfl (setRow_heap _ _ _ _ _ _ R1.row) Try.underlying32 rfl (by kernel_rfl) _ rfl) rfl ?_
    exact ⟨by rw [HE.out]; rfl, (R1.put _).below⟩

set_option maxRecDepth 100000 in
set_option maxHeartbeats 2000000 in
theorem Find_any (w : World) {a : Option Addr} {n cap : Nat} {vs : List VQ} (h : RdV w a n cap vs) (s : ByteArray) :
    Calls Try.prog 20 #[.slice a n cap, .string s] w (RetQ w (fndV vs s)) := by
  have R0 := PRow.new 32 w #[Value.string ⟨#[]⟩, .int .i64 0, .int .u8 0]
  have HL := Lib.hid h.len
  obtain ⟨r, hr⟩ : ∃ r, r = fndV vs s := ⟨_, rfl⟩
  rw [← hr]
  obtain ⟨ck, hck⟩ : ∃ ck, chkV vs = ck := ⟨_, rfl⟩
  have HC := Lib.hid hck
  have hd := h.below R0.below
  have c := Check_any (w.alloc (.cells #[Value.string ⟨#[]⟩, .int .i64 0, .int .u8 0] 32)) hd
  rw [hck] at c
  clear hck
  go_enter Try.func20, Try.ntmps20
  go_wp2_with fail
  refine c.mono ?_
  rintro e w1 ⟨rfl, hb1⟩
  clear c
  have R1 := R0.later hb1
  have hd := hd.below hb1
  clear R0
  by_cases hc : ck = 0
  case neg =>
    have HE : Hid (r = (zeroVQ, ck)) := Lib.hid (by rw [hr, fndV, HC.out, if_neg hc])
    clear hr
    go_wp2_with first | refine wpList_store_whole rfl 32 _ _ rfl atVot _ _ _ R1.row rfl rfl rfl rfl (vot_one zeroVQ) ?_
    refine bodyPost_ret (results_cell_two rfl _ _ _ _ _ _ _ rfl (setRow_heap _ _ _ _ _ _ R1.row) Try.underlying32 rfl (by kernel_rfl) _ rfl) rfl ?_
    exact ⟨by rw [HE.out]; rfl, (R1.put _).below⟩
  subst hc
  obtain ⟨hR, hlen, -⟩ := rise_of HC.out
  have hn : n ≤ 64 := by have := HL.out; omega
  have hf := find_pos hR s
  go_wp2_with fail
  have c := place_any w1 hd (by omega) hR s
  obtain ⟨p, hp⟩ : ∃ p, posV vs s = p := ⟨_, rfl⟩
  obtain ⟨t, ht⟩ : ∃ t, isV vs s = t := ⟨_, rfl⟩
  have hpl : t = true → p < n := by
    intro h
    rw [h] at ht
    simp only [isV, Bool.and_eq_true, decide_eq_true_eq] at ht
    rw [hp] at ht
    rw [← HL.out]
    exact ht.1
  rw [hp, ht] at c hf
  clear hp ht hR
  refine c.mono ?_
  rintro e w2 ⟨rfl, hb2⟩
  have R1 := R1.later hb2
  have hd := hd.below hb2
  clear c
  cases t with
  | false =>
    have HE : Hid (r = (zeroVQ, 6)) := Lib.hid (by rw [hr, fndV, HC.out, if_pos rfl, hf]; rfl)
    clear hr hf hpl
    go_wp2_with first | refine wpList_store_whole rfl 32 _ _ rfl atVot _ _ _ R1.row rfl rfl rfl rfl (vot_one zeroVQ) ?_
    refine bodyPost_ret (results_cell_two rfl _ _ _ _ _ _ _ rfl (setRow_heap _ _ _ _ _ _ R1.row) Try.underlying32 rfl (by kernel_rfl) _ rfl) rfl ?_
    exact ⟨by rw [HE.out]; rfl, (R1.put _).below⟩
  | true =>
    have hlt := hpl rfl
    have HE : Hid (r = (vth vs p, 0)) := Lib.hid (by rw [hr, fndV, HC.out, if_pos rfl, hf]; rfl)
    clear hr hf hpl
    obtain ⟨b, off, rfl, hcc⟩ := hd.addr (by omega)
    obtain ⟨k0, k1, k2⟩ := hcc p hlt
    clear hcc
    have hlw : ((p : Nat) : Int) < (n : Int) := by omega
    go_wp2_with first | refine wpList_store_whole rfl 32 _ _ rfl atVot _ _ _ R1.row rfl rfl rfl rfl (vot_one (vth vs p)) ?_
    refine bodyPost_ret (results_cell_two rfl _ _ _ _ _ _ _ rfl (setRow_heap _ _ _ _ _ _ R1.row) Try.underlying32 rfl (by kernel_rfl) _ rfl) rfl ?_
    exact ⟨by rw [HE.out]; rfl, (R1.put _).below⟩

end Go.Proofs.Ytnjkfjecnicccaa
