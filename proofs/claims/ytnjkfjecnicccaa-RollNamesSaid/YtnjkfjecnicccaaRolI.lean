/- Issue, Return, Vote, Strike, Restore; does; the document's Done. Conditions: none. Printed by gen_roli.py. -/
import Derived.Test.YtnjkfjecnicccaaRolH
namespace Go.Proofs.Ytnjkfjecnicccaa
open Go.RowKit Go.Suf
set_option linter.unusedVariables false
set_option linter.unusedSimpArgs false

theorem Issue_any (w : World) {a : Option Addr} {n cap : Nat} {vs : List VQ} (h : RdV w a n cap vs) (s : ByteArray) :
    Calls Try.prog 34 #[.slice a n cap, .string s] w (RetVE w (opV vs s 1 2)) := by
  go_enter Try.func34, Try.ntmps34
  go_wp2_with fail
  refine (from_any w 1 2).mono ?_
  rintro e w1 ⟨b0, b1, rfl, h0, h1, hb⟩
  have c := do_any w1 (x := 1) (y := 2) (by decide) (by decide) h0 h1 (h.below hb) s
  go_wp2_with fail
  refine c.mono ?_
  rintro e w2 ⟨a2, n2, c2, rfl, ho, hb2⟩
  clear c
  go_wp2_with fail
  go_ret2
  exact ⟨_, _, _, rfl, ho.base_le hb.size, hb.trans (hb2.mono hb.size)⟩

theorem Return_any (w : World) {a : Option Addr} {n cap : Nat} {vs : List VQ} (h : RdV w a n cap vs) (s : ByteArray) :
    Calls Try.prog 31 #[.slice a n cap, .string s] w (RetVE w (opV vs s 2 1)) := by
  go_enter Try.func31, Try.ntmps31
  go_wp2_with fail
  refine (from_any w 2 1).mono ?_
  rintro e w1 ⟨b0, b1, rfl, h0, h1, hb⟩
  have c := do_any w1 (x := 2) (y := 1) (by decide) (by decide) h0 h1 (h.below hb) s
  go_wp2_with fail
  refine c.mono ?_
  rintro e w2 ⟨a2, n2, c2, rfl, ho, hb2⟩
  clear c
  go_wp2_with fail
  go_ret2
  exact ⟨_, _, _, rfl, ho.base_le hb.size, hb.trans (hb2.mono hb.size)⟩

theorem Vote_any (w : World) {a : Option Addr} {n cap : Nat} {vs : List VQ} (h : RdV w a n cap vs) (s : ByteArray) :
    Calls Try.prog 30 #[.slice a n cap, .string s] w (RetVE w (opV vs s 2 3)) := by
  go_enter Try.func30, Try.ntmps30
  go_wp2_with fail
  refine (from_any w 2 3).mono ?_
  rintro e w1 ⟨b0, b1, rfl, h0, h1, hb⟩
  have c := do_any w1 (x := 2) (y := 3) (by decide) (by decide) h0 h1 (h.below hb) s
  go_wp2_with fail
  refine c.mono ?_
  rintro e w2 ⟨a2, n2, c2, rfl, ho, hb2⟩
  clear c
  go_wp2_with fail
  go_ret2
  exact ⟨_, _, _, rfl, ho.base_le hb.size, hb.trans (hb2.mono hb.size)⟩

theorem Strike_any (w : World) {a : Option Addr} {n cap : Nat} {vs : List VQ} (h : RdV w a n cap vs) (s : ByteArray) :
    Calls Try.prog 32 #[.slice a n cap, .string s] w (RetVE w (opV vs s 1 4)) := by
  go_enter Try.func32, Try.ntmps32
  go_wp2_with fail
  refine (from_any w 1 4).mono ?_
  rintro e w1 ⟨b0, b1, rfl, h0, h1, hb⟩
  have c := do_any w1 (x := 1) (y := 4) (by decide) (by decide) h0 h1 (h.below hb) s
  go_wp2_with fail
  refine c.mono ?_
  rintro e w2 ⟨a2, n2, c2, rfl, ho, hb2⟩
  clear c
  go_wp2_with fail
  go_ret2
  exact ⟨_, _, _, rfl, ho.base_le hb.size, hb.trans (hb2.mono hb.size)⟩

theorem Restore_any (w : World) {a : Option Addr} {n cap : Nat} {vs : List VQ} (h : RdV w a n cap vs) (s : ByteArray) :
    Calls Try.prog 33 #[.slice a n cap, .string s] w (RetVE w (opV vs s 4 1)) := by
  go_enter Try.func33, Try.ntmps33
  go_wp2_with fail
  refine (from_any w 4 1).mono ?_
  rintro e w1 ⟨b0, b1, rfl, h0, h1, hb⟩
  have c := do_any w1 (x := 4) (y := 1) (by decide) (by decide) h0 h1 (h.below hb) s
  go_wp2_with fail
  refine c.mono ?_
  rintro e w2 ⟨a2, n2, c2, rfl, ho, hb2⟩
  clear c
  go_wp2_with fail
  go_ret2
  exact ⟨_, _, _, rfl, ho.base_le hb.size, hb.trans (hb2.mono hb.size)⟩

def wasN (k : Int) : Nat := if k = 1 then 1 else if k = 2 then 2 else if k = 3 then 2 else if k = 4 then 1 else 4
def isN (k : Int) : Nat := if k = 1 then 2 else if k = 2 then 1 else if k = 3 then 3 else if k = 4 then 4 else 1

set_option maxHeartbeats 2000000 in
theorem does_any (w : World) {a : Option Addr} {n cap : Nat} {vs : List VQ} (h : RdV w a n cap vs) (s : ByteArray) (k : Int) (hk1 : -9223372036854775808 ≤ k) (hk2 : k ≤ 9223372036854775807) :
    Calls Try.prog 13 #[.slice a n cap, .string s, .int .i64 k] w (RetVE w (opV vs s (wasN k) (isN k))) := by
  by_cases e1 : k = 1
  case pos =>
    subst e1
    go_enter Try.func13, Try.ntmps13
    go_wp2_with fail
    refine (Issue_any w h s).mono ?_
    rintro e w1 ⟨a1, n1, c1, rfl, ho, hb⟩
    go_wp2_with fail
    go_ret2
    exact ⟨_, _, _, rfl, ho, hb⟩
  by_cases e2 : k = 2
  case pos =>
    subst e2
    go_enter Try.func13, Try.ntmps13
    go_wp2_with fail
    refine (Return_any w h s).mono ?_
    rintro e w1 ⟨a1, n1, c1, rfl, ho, hb⟩
    go_wp2_with fail
    go_ret2
    exact ⟨_, _, _, rfl, ho, hb⟩
  by_cases e3 : k = 3
  case pos =>
    subst e3
    go_enter Try.func13, Try.ntmps13
    go_wp2_with fail
    refine (Vote_any w h s).mono ?_
    rintro e w1 ⟨a1, n1, c1, rfl, ho, hb⟩
    go_wp2_with fail
    go_ret2
    exact ⟨_, _, _, rfl, ho, hb⟩
  by_cases e4 : k = 4
  case pos =>
    subst e4
    go_enter Try.func13, Try.ntmps13
    go_wp2_with fail
    refine (Strike_any w h s).mono ?_
    rintro e w1 ⟨a1, n1, c1, rfl, ho, hb⟩
    go_wp2_with fail
    go_ret2
    exact ⟨_, _, _, rfl, ho, hb⟩
  rw [show wasN k = 4 by simp [wasN, e1, e2, e3, e4], show isN k = 1 by simp [isN, e1, e2, e3, e4]]
  go_enter Try.func13, Try.ntmps13
  go_wp2_with fail
  refine (Restore_any w h s).mono ?_
  rintro e w1 ⟨a1, n1, c1, rfl, ho, hb⟩
  go_wp2_with fail
  go_ret2
  exact ⟨_, _, _, rfl, ho, hb⟩

theorem wasN_lt (k : Int) : wasN k < 256 := by unfold wasN; repeat (first | decide | split)
theorem isN_lt (k : Int) : isN k < 256 := by unfold isN; repeat (first | decide | split)

set_option maxHeartbeats 4000000 in
theorem Done_any (w : World) {a : Option Addr} {n cap : Nat} {vs : List VQ} (h : RdV w a n cap vs) (s : ByteArray) (k : Int) (hk1 : -9223372036854775808 ≤ k) (hk2 : k ≤ 9223372036854775807) :
    Calls Try.prog 14 #[.slice a n cap, .string s, .int .i64 k] w (RetVE w (opV vs s (wasN k) (isN k))) := by
  have HL := Lib.hid h.len
  have hx := Lib.hid (wasN_lt k)
  have hy := isN_lt k
  obtain ⟨r, hr⟩ : ∃ r, r = opV vs s (wasN k) (isN k) := ⟨_, rfl⟩
  rw [← hr]
  obtain ⟨ck, hck⟩ : ∃ ck, chkV vs = ck := ⟨_, rfl⟩
  have HC := Lib.hid hck
  have c := refCheck_any w h
  rw [hck] at c
  clear hck
  go_enter Try.func14, Try.ntmps14
  go_wp2_with fail
  refine c.mono ?_
  rintro e w1 ⟨rfl, hb1⟩
  clear c
  by_cases hc : ck = 0
  case neg =>
    have HE : Hid (r = ([], ck)) := Lib.hid (by rw [hr, opV, HC.out, if_neg hc])
    clear hr
    go_wp2_with fail
    go_ret2
    exact RetVE.nil HE.out hb1
  subst hc
  obtain ⟨hR, hlen, -⟩ := rise_of HC.out
  have hn : n ≤ 64 := by have := HL.out; omega
  clear hR hlen
  have hd := h.below hb1
  have c := at_any w1 hd s
  go_wp2_with fail
  cases hf : findV vs s with
  | none =>
    have HE : Hid (r = ([], 6)) := Lib.hid (by rw [hr, opV, HC.out, if_pos rfl, hf])
    rw [atV, hf] at c
    refine c.mono ?_
    rintro e w2 ⟨rfl, hb2⟩
    have hB := hb1.trans (hb2.mono hb1.size)
    clear c hr hf
    go_wp2_with fail
    go_ret2
    exact RetVE.nil HE.out hB
  | some p =>
    have hlt : p < n := by
      rw [← HL.out]
      exact List.mem_range.1 (List.mem_of_find?_eq_some hf)
    have HRR : Hid (r = if (vth vs p).st = wasN k then (vs.set p ⟨(vth vs p).nm, (vth vs p).pc, isN k⟩, 0) else ([], 241)) := Lib.hid (by rw [hr, opV, HC.out, if_pos rfl, hf])
    rw [atV, hf] at c
    refine c.mono ?_
    rintro e w2 ⟨rfl, hb2⟩
    have hB := hb1.trans (hb2.mono hb1.size)
    clear c hr hf
    have hd := hd.below hb2
    obtain ⟨b, off, rfl, hcc⟩ := hd.addr (by omega)
    obtain ⟨-, -, m2⟩ := hcc p hlt
    clear hcc
    obtain ⟨v, hv⟩ : ∃ v, vth vs p = v := ⟨_, rfl⟩
    rw [hv] at m2
    have HV := Lib.hid hv
    clear hv
    have hlw : ((p : Nat) : Int) < (n : Int) := by omega
    obtain ⟨x, hxx⟩ : ∃ x, wasN k = x := ⟨_, rfl⟩
    obtain ⟨y, hyy⟩ : ∃ y, isN k = y := ⟨_, rfl⟩
    rw [hyy] at hy
    have HX := Lib.hid hxx
    have HY := Lib.hid hyy
    have hm := owV_made w2
    have hb0 := below_al w2 (.cells #[] 32)
    have hro := hd.below hb0
    have hz := hb0.size
    clear hxx hyy
    by_cases e1 : k = 1
    case pos =>
      subst e1
      obtain rfl : x = 1 := by rw [← HX.out]; rfl
      obtain rfl : y = 2 := by rw [← HY.out]; rfl
      by_cases hst : v.st = 1
      case neg =>
        have HE : Hid (r = ([], 241)) := Lib.hid (by rw [HRR.out, HX.out, HV.out, if_neg hst])
        have hdec : decide (((v.st : Nat) : Int) = 1) = false := decide_eq_false (by omega)
        go_wp2_with fail
        go_ret2
        exact RetVE.nil HE.out hB
      case pos =>
        have HE : Hid (r = (vs.set p ⟨v.nm, v.pc, 2⟩, 0)) := Lib.hid (by rw [HRR.out, HX.out, HY.out, HV.out, if_pos hst])
        have hst' : ((v.st : Nat) : Int) = 1 := by omega
        go_wp2_with (at_builtin; refine wpList_appV rfl _ _ rfl w2.heap.size rfl hm rfl hro (by omega) hz ?_; intro a4 c4 w4 ho hg4 hb4; refine Hid.out ?_)
        simp only [Nat.zero_add, List.nil_append] at ho ⊢
        obtain ⟨g, cur, rfl, hgl, hgh, -, -, hsz, hcur⟩ := ho.row (by omega)
        have hcl : n ≤ c4 := ho.rd.le
        have u2 : w4.cell? ⟨g, p * 3 + 2, none⟩ = some (cur[p * 3 + 2]'(by rw [hsz]; omega)) := by
          simp only [World.cell?, hgh]
          exact Array.getElem?_eq_getElem (by rw [hsz]; omega)
        have f2 : w4.frozen? ⟨g, p * 3 + 2, none⟩ = false := frozen_of_row w4 g _ _ _ hgh
        have hset := ho.set hlt (s := 2) (by decide)
        rw [HV.out] at hset
        have HO := Lib.hid (hset.base_le hB.size)
        have hb5 := hB.trans ((hb0.trans hb4).mono hB.size)
        have HB := Lib.hid (show Below w.heap.size w (w4.setCell ⟨g, p * 3 + 2, none⟩ (.int .u8 2)) from hb5.setCell (Nat.le_trans hB.size hgl) _)
        clear hset ho hb4 hcur hgh hb5 hg4 hm hb0 hro
        refine Lib.hid ?_
        go_wp2_with fail
        go_ret2
        rw [HE.out]
        exact ⟨_, _, _, rfl, HO.out, HB.out⟩
    by_cases e2 : k = 2
    case pos =>
      subst e2
      obtain rfl : x = 2 := by rw [← HX.out]; rfl
      obtain rfl : y = 1 := by rw [← HY.out]; rfl
      by_cases hst : v.st = 2
      case neg =>
        have HE : Hid (r = ([], 241)) := Lib.hid (by rw [HRR.out, HX.out, HV.out, if_neg hst])
        have hdec : decide (((v.st : Nat) : Int) = 2) = false := decide_eq_false (by omega)
        go_wp2_with fail
        go_ret2
        exact RetVE.nil HE.out hB
      case pos =>
        have HE : Hid (r = (vs.set p ⟨v.nm, v.pc, 1⟩, 0)) := Lib.hid (by rw [HRR.out, HX.out, HY.out, HV.out, if_pos hst])
        have hst' : ((v.st : Nat) : Int) = 2 := by omega
        go_wp2_with (at_builtin; refine wpList_appV rfl _ _ rfl w2.heap.size rfl hm rfl hro (by omega) hz ?_; intro a4 c4 w4 ho hg4 hb4; refine Hid.out ?_)
        simp only [Nat.zero_add, List.nil_append] at ho ⊢
        obtain ⟨g, cur, rfl, hgl, hgh, -, -, hsz, hcur⟩ := ho.row (by omega)
        have hcl : n ≤ c4 := ho.rd.le
        have u2 : w4.cell? ⟨g, p * 3 + 2, none⟩ = some (cur[p * 3 + 2]'(by rw [hsz]; omega)) := by
          simp only [World.cell?, hgh]
          exact Array.getElem?_eq_getElem (by rw [hsz]; omega)
        have f2 : w4.frozen? ⟨g, p * 3 + 2, none⟩ = false := frozen_of_row w4 g _ _ _ hgh
        have hset := ho.set hlt (s := 1) (by decide)
        rw [HV.out] at hset
        have HO := Lib.hid (hset.base_le hB.size)
        have hb5 := hB.trans ((hb0.trans hb4).mono hB.size)
        have HB := Lib.hid (show Below w.heap.size w (w4.setCell ⟨g, p * 3 + 2, none⟩ (.int .u8 1)) from hb5.setCell (Nat.le_trans hB.size hgl) _)
        clear hset ho hb4 hcur hgh hb5 hg4 hm hb0 hro
        refine Lib.hid ?_
        go_wp2_with fail
        go_ret2
        rw [HE.out]
        exact ⟨_, _, _, rfl, HO.out, HB.out⟩
    by_cases e3 : k = 3
    case pos =>
      subst e3
      obtain rfl : x = 2 := by rw [← HX.out]; rfl
      obtain rfl : y = 3 := by rw [← HY.out]; rfl
      by_cases hst : v.st = 2
      case neg =>
        have HE : Hid (r = ([], 241)) := Lib.hid (by rw [HRR.out, HX.out, HV.out, if_neg hst])
        have hdec : decide (((v.st : Nat) : Int) = 2) = false := decide_eq_false (by omega)
        go_wp2_with fail
        go_ret2
        exact RetVE.nil HE.out hB
      case pos =>
        have HE : Hid (r = (vs.set p ⟨v.nm, v.pc, 3⟩, 0)) := Lib.hid (by rw [HRR.out, HX.out, HY.out, HV.out, if_pos hst])
        have hst' : ((v.st : Nat) : Int) = 2 := by omega
        go_wp2_with (at_builtin; refine wpList_appV rfl _ _ rfl w2.heap.size rfl hm rfl hro (by omega) hz ?_; intro a4 c4 w4 ho hg4 hb4; refine Hid.out ?_)
        simp only [Nat.zero_add, List.nil_append] at ho ⊢
        obtain ⟨g, cur, rfl, hgl, hgh, -, -, hsz, hcur⟩ := ho.row (by omega)
        have hcl : n ≤ c4 := ho.rd.le
        have u2 : w4.cell? ⟨g, p * 3 + 2, none⟩ = some (cur[p * 3 + 2]'(by rw [hsz]; omega)) := by
          simp only [World.cell?, hgh]
          exact Array.getElem?_eq_getElem (by rw [hsz]; omega)
        have f2 : w4.frozen? ⟨g, p * 3 + 2, none⟩ = false := frozen_of_row w4 g _ _ _ hgh
        have hset := ho.set hlt (s := 3) (by decide)
        rw [HV.out] at hset
        have HO := Lib.hid (hset.base_le hB.size)
        have hb5 := hB.trans ((hb0.trans hb4).mono hB.size)
        have HB := Lib.hid (show Below w.heap.size w (w4.setCell ⟨g, p * 3 + 2, none⟩ (.int .u8 3)) from hb5.setCell (Nat.le_trans hB.size hgl) _)
        clear hset ho hb4 hcur hgh hb5 hg4 hm hb0 hro
        refine Lib.hid ?_
        go_wp2_with fail
        go_ret2
        rw [HE.out]
        exact ⟨_, _, _, rfl, HO.out, HB.out⟩
    by_cases e4 : k = 4
    case pos =>
      subst e4
      obtain rfl : x = 1 := by rw [← HX.out]; rfl
      obtain rfl : y = 4 := by rw [← HY.out]; rfl
      by_cases hst : v.st = 1
      case neg =>
        have HE : Hid (r = ([], 241)) := Lib.hid (by rw [HRR.out, HX.out, HV.out, if_neg hst])
        have hdec : decide (((v.st : Nat) : Int) = 1) = false := decide_eq_false (by omega)
        go_wp2_with fail
        go_ret2
        exact RetVE.nil HE.out hB
      case pos =>
        have HE : Hid (r = (vs.set p ⟨v.nm, v.pc, 4⟩, 0)) := Lib.hid (by rw [HRR.out, HX.out, HY.out, HV.out, if_pos hst])
        have hst' : ((v.st : Nat) : Int) = 1 := by omega
        go_wp2_with (at_builtin; refine wpList_appV rfl _ _ rfl w2.heap.size rfl hm rfl hro (by omega) hz ?_; intro a4 c4 w4 ho hg4 hb4; refine Hid.out ?_)
        simp only [Nat.zero_add, List.nil_append] at ho ⊢
        obtain ⟨g, cur, rfl, hgl, hgh, -, -, hsz, hcur⟩ := ho.row (by omega)
        have hcl : n ≤ c4 := ho.rd.le
        have u2 : w4.cell? ⟨g, p * 3 + 2, none⟩ = some (cur[p * 3 + 2]'(by rw [hsz]; omega)) := by
          simp only [World.cell?, hgh]
          exact Array.getElem?_eq_getElem (by rw [hsz]; omega)
        have f2 : w4.frozen? ⟨g, p * 3 + 2, none⟩ = false := frozen_of_row w4 g _ _ _ hgh
        have hset := ho.set hlt (s := 4) (by decide)
        rw [HV.out] at hset
        have HO := Lib.hid (hset.base_le hB.size)
        have hb5 := hB.trans ((hb0.trans hb4).mono hB.size)
        have HB := Lib.hid (show Below w.heap.size w (w4.setCell ⟨g, p * 3 + 2, none⟩ (.int .u8 4)) from hb5.setCell (Nat.le_trans hB.size hgl) _)
        clear hset ho hb4 hcur hgh hb5 hg4 hm hb0 hro
        refine Lib.hid ?_
        go_wp2_with fail
        go_ret2
        rw [HE.out]
        exact ⟨_, _, _, rfl, HO.out, HB.out⟩
    obtain rfl : x = 4 := by rw [← HX.out]; simp [wasN, e1, e2, e3, e4]
    obtain rfl : y = 1 := by rw [← HY.out]; simp [isN, e1, e2, e3, e4]
    by_cases hst : v.st = 4
    case neg =>
      have HE : Hid (r = ([], 241)) := Lib.hid (by rw [HRR.out, HX.out, HV.out, if_neg hst])
      have hdec : decide (((v.st : Nat) : Int) = 4) = false := decide_eq_false (by omega)
      go_wp2_with fail
      go_ret2
      exact RetVE.nil HE.out hB
    case pos =>
      have HE : Hid (r = (vs.set p ⟨v.nm, v.pc, 1⟩, 0)) := Lib.hid (by rw [HRR.out, HX.out, HY.out, HV.out, if_pos hst])
      have hst' : ((v.st : Nat) : Int) = 4 := by omega
      go_wp2_with (at_builtin; refine wpList_appV rfl _ _ rfl w2.heap.size rfl hm rfl hro (by omega) hz ?_; intro a4 c4 w4 ho hg4 hb4; refine Hid.out ?_)
      simp only [Nat.zero_add, List.nil_append] at ho ⊢
      obtain ⟨g, cur, rfl, hgl, hgh, -, -, hsz, hcur⟩ := ho.row (by omega)
      have hcl : n ≤ c4 := ho.rd.le
      have u2 : w4.cell? ⟨g, p * 3 + 2, none⟩ = some (cur[p * 3 + 2]'(by rw [hsz]; omega)) := by
        simp only [World.cell?, hgh]
        exact Array.getElem?_eq_getElem (by rw [hsz]; omega)
      have f2 : w4.frozen? ⟨g, p * 3 + 2, none⟩ = false := frozen_of_row w4 g _ _ _ hgh
      have hset := ho.set hlt (s := 1) (by decide)
      rw [HV.out] at hset
      have HO := Lib.hid (hset.base_le hB.size)
      have hb5 := hB.trans ((hb0.trans hb4).mono hB.size)
      have HB := Lib.hid (show Below w.heap.size w (w4.setCell ⟨g, p * 3 + 2, none⟩ (.int .u8 1)) from hb5.setCell (Nat.le_trans hB.size hgl) _)
      clear hset ho hb4 hcur hgh hb5 hg4 hm hb0 hro
      refine Lib.hid ?_
      go_wp2_with fail
      go_ret2
      rw [HE.out]
      exact ⟨_, _, _, rfl, HO.out, HB.out⟩

theorem great_len {vs : List VQ} (h : greatV vs = false) : vs.length ≤ 100 := by
  simp [greatV] at h
  omega

end Go.Proofs.Ytnjkfjecnicccaa
