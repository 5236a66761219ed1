/- The operations on a roll, the program's. Conditions: none. Printed by gen_rolh.py. -/
import Derived.Test.YtnjkfjecnicccaaRolG
namespace Go.Proofs.Ytnjkfjecnicccaa
open Go.RowKit Go.Suf
set_option linter.unusedVariables false
set_option linter.unusedSimpArgs false

theorem below_set {B g : Nat} {w0 w : World} (hb : Below B w0 w) (hBg : B ≤ g) (cs : Array Value) : Below B w0 (w.setRow g cs) :=
  ⟨hb.os, hb.tape, hb.output, by rw [setRow_size]; exact hb.size, fun k hk => by rw [setRow_other _ _ _ _ (by omega)]; exact hb.block k hk⟩

theorem vflat_set : ∀ (vs : List VQ) (i : Nat) (s : Nat), i < vs.length → vflat (vs.set i ⟨(vth vs i).nm, (vth vs i).pc, s⟩) = (vflat vs).set (i * 3 + 2) (.int .u8 ((s : Nat) : Int))
  | [], i, s, h => by simp at h
  | v :: vs, 0, s, h => rfl
  | v :: vs, i + 1, s, h => by
    have e : (i + 1) * 3 + 2 = (i * 3 + 2) + 1 + 1 + 1 := by omega
    show vcells v ++ vflat (vs.set i ⟨(vth vs i).nm, (vth vs i).pc, s⟩) = (vcells v ++ vflat vs).set ((i + 1) * 3 + 2) _
    rw [vflat_set vs i s (by simpa using h), e]
    rfl

theorem OwV.set {base g n cap : Nat} {w : World} {vs : List VQ} (h : OwV base w (some ⟨g, 0, none⟩) n cap vs) {i : Nat} (hi : i < n) {s : Nat} (hs : s < 256) :
    OwV base (w.setCell ⟨g, i * 3 + 2, none⟩ (.int .u8 ((s : Nat) : Int))) (some ⟨g, 0, none⟩) n cap (vs.set i ⟨(vth vs i).nm, (vth vs i).pc, s⟩) := by
  refine ⟨by rw [List.length_set]; exact h.len, ?_, fun v hv => ?_⟩
  · rw [vflat_set vs i s (by rw [h.len]; exact hi)]
    exact (h.own.stored (i * 3 + 2) (.int .u8 ((s : Nat) : Int))).1
  · rcases List.mem_or_eq_of_mem_set hv with h' | h'
    · exact h.wf v h'
    · subst h'
      have := h.wf _ (vth_mem (vs := vs) (i := i) (by rw [h.len]; exact hi))
      exact ⟨this.1, this.2.1, hs⟩

/-- An operation. -/
def opV (vs : List VQ) (s : ByteArray) (x y : Nat) : List VQ × Int :=
  if chkV vs = 0 then
    match findV vs s with
    | some i => if (vth vs i).st = x then (vs.set i ⟨(vth vs i).nm, (vth vs i).pc, y⟩, 0) else ([], 241)
    | none => ([], 6)
  else ([], chkV vs)

/-- A new row of voters and an error. -/
def RetVE (w : World) (r : List VQ × Int) : Ending → World → Prop := fun e w' =>
  ∃ a n cap, e = .returned (.tuple #[.slice a n cap, .int .i64 r.2]) ∧ OwV w.heap.size w' a n cap r.1 ∧ Below w.heap.size w w'
theorem RetVE.nil {w w' : World} {x : Int} {r : List VQ × Int} (hr : r = ([], x)) (hb : Below w.heap.size w w') : RetVE w r (.returned (.tuple #[.slice none 0 0, .int .i64 x])) w' := by
  subst hr
  exact ⟨none, 0, 0, rfl, OwV.nil _ _, hb⟩

theorem atDeed : AT Try.prog 77 1 := ⟨⟨_, Try.underlying77, rfl⟩, by kernel_rfl⟩

theorem from_any (w : World) (x y : Int) : Calls Try.prog 46 #[.int .u8 x, .int .u8 y] w fun e w' =>
    ∃ b0 b1, e = .returned (.agg #[.func (.func 58) #[] #[.pointer (some ⟨b0, 0, none⟩), .pointer (some ⟨b1, 0, none⟩)]]) ∧ w'.cell? ⟨b0, 0, none⟩ = some (.int .u8 x) ∧ w'.cell? ⟨b1, 0, none⟩ = some (.int .u8 y) ∧ Below w.heap.size w w' := by
  have z1 : (w.alloc (.cells #[.int .u8 x] 5)).heap.size = w.heap.size + 1 := World.size_alloc _ _
  have z2 : ((w.alloc (.cells #[.int .u8 x] 5)).alloc (.cells #[.int .u8 y] 5)).heap.size = w.heap.size + 1 + 1 := by rw [World.size_alloc, z1]
  have hg : (((w.alloc (.cells #[.int .u8 x] 5)).alloc (.cells #[.int .u8 y] 5)).alloc (.cells #[Value.nilFunc] 77)).heap[w.heap.size + 1 + 1]? = some (.cells #[Value.nilFunc] 77 (0, 0)) := by rw [← z2]; exact heap_alloc_new _ _
  have k0 : ((((w.alloc (.cells #[.int .u8 x] 5)).alloc (.cells #[.int .u8 y] 5)).alloc (.cells #[Value.nilFunc] 77)).setRow (w.heap.size + 1 + 1) #[.func (.func 58) #[] #[.pointer (some ⟨w.heap.size, 0, none⟩), .pointer (some ⟨w.heap.size + 1, 0, none⟩)]]).cell? ⟨w.heap.size, 0, none⟩ = some (.int .u8 x) := by
    simp only [World.cell?]
    rw [setRow_other _ _ _ _ (by omega), heap_alloc_old _ _ (by omega), heap_alloc_old _ _ (by omega), heap_alloc_new]
    rfl
  have k1 : ((((w.alloc (.cells #[.int .u8 x] 5)).alloc (.cells #[.int .u8 y] 5)).alloc (.cells #[Value.nilFunc] 77)).setRow (w.heap.size + 1 + 1) #[.func (.func 58) #[] #[.pointer (some ⟨w.heap.size, 0, none⟩), .pointer (some ⟨w.heap.size + 1, 0, none⟩)]]).cell? ⟨w.heap.size + 1, 0, none⟩ = some (.int .u8 y) := by
    simp only [World.cell?]
    rw [setRow_other _ _ _ _ (by omega), heap_alloc_old _ _ (by omega), ← z1, heap_alloc_new]
    rfl
  have hb : Below w.heap.size w ((((w.alloc (.cells #[.int .u8 x] 5)).alloc (.cells #[.int .u8 y] 5)).alloc (.cells #[Value.nilFunc] 77)).setRow (w.heap.size + 1 + 1) #[.func (.func 58) #[] #[.pointer (some ⟨w.heap.size, 0, none⟩), .pointer (some ⟨w.heap.size + 1, 0, none⟩)]]) := below_set ((((Below.refl _ w).alloc (Nat.le_refl _) _).alloc (by omega) _).alloc (by omega) _) (by omega) _
  have K0 := Lib.hid k0
  have K1 := Lib.hid k1
  have HB := Lib.hid hb
  clear k0 k1 hb z1 z2
  go_enter Try.func46, Try.ntmps46
  go_wp2_with (refine wpList_store_whole rfl 77 _ _ rfl atDeed _ _ _ hg rfl rfl rfl rfl (fun u hu => by simp at hu; subst hu; rfl) ?_)
  refine bodyPost_ret (results_cell_row rfl _ _ _ _ _ _ _ rfl (setRow_heap _ _ _ _ _ _ hg) Try.underlying77 rfl (by kernel_rfl)) rfl ?_
  exact ⟨_, _, rfl, K0.out, K1.out, HB.out⟩

set_option maxHeartbeats 4000000 in
theorem do_any (w : World) {b0 b1 : Nat} {x y : Nat} (hx : x < 256) (hy : y < 256) (h0 : w.cell? ⟨b0, 0, none⟩ = some (.int .u8 ((x : Nat) : Int))) (h1 : w.cell? ⟨b1, 0, none⟩ = some (.int .u8 ((y : Nat) : Int))) {a : Option Addr} {n cap : Nat} {vs : List VQ} (h : RdV w a n cap vs) (s : ByteArray) :
    Calls Try.prog 47 #[.agg #[.func (.func 58) #[] #[.pointer (some ⟨b0, 0, none⟩), .pointer (some ⟨b1, 0, none⟩)]], .slice a n cap, .string s] w (RetVE w (opV vs s x y)) := by
  have hl := h.len
  obtain ⟨r, hr⟩ : ∃ r, r = opV vs s x y := ⟨_, rfl⟩
  rw [← hr]
  have hB := below_al w (.cells #[.func (.func 58) #[] #[.pointer (some ⟨b0, 0, none⟩), .pointer (some ⟨b1, 0, none⟩)]] 77)
  have kf : (w.alloc (.cells #[.func (.func 58) #[] #[.pointer (some ⟨b0, 0, none⟩), .pointer (some ⟨b1, 0, none⟩)]] 77)).cell? ⟨w.heap.size, 0, none⟩ = some (.func (.func 58) #[] #[.pointer (some ⟨b0, 0, none⟩), .pointer (some ⟨b1, 0, none⟩)]) := by
    simp only [World.cell?, heap_alloc_new]
    rfl
  have k0 := cell_below hB h0
  have k1 := cell_below hB h1
  have hd := h.below hB
  have hzw : w.heap.size < (w.alloc (.cells #[.func (.func 58) #[] #[.pointer (some ⟨b0, 0, none⟩), .pointer (some ⟨b1, 0, none⟩)]] 77)).heap.size := by rw [World.size_alloc]; omega
  have HL := Lib.hid hl
  clear hl h
  go_enter Try.func47, Try.ntmps47
  go_wp2_with fail
  generalize w.alloc (.cells #[.func (.func 58) #[] #[.pointer (some ⟨b0, 0, none⟩), .pointer (some ⟨b1, 0, none⟩)]] 77) = wa at *
  obtain ⟨ck, hck⟩ : ∃ ck, chkV vs = ck := ⟨_, rfl⟩
  have HC := Lib.hid hck
  have c := Check_any wa hd
  rw [hck] at c
  clear hck
  refine c.mono ?_
  rintro e w1 ⟨rfl, hb1⟩
  clear c
  have hB := hB.trans (hb1.mono hB.size)
  by_cases hc : ck = 0
  case neg =>
    have HE : Hid (r = ([], ck)) := Lib.hid (by rw [hr, opV, HC.out, if_neg hc])
    clear hr
    go_wp2_with fail
    go_ret2
    exact RetVE.nil HE.out hB
  subst hc
  obtain ⟨hR, hlen, -⟩ := rise_of HC.out
  have hn : n ≤ 64 := by have := HL.out; omega
  have hd := hd.below hb1
  have k0 := cell_below hb1 k0
  have k1 := cell_below hb1 k1
  have kf := cell_below hb1 kf
  have hf := find_pos hR s
  go_wp2_with fail
  have c := place_any w1 hd (by omega) hR s
  obtain ⟨p, hp⟩ : ∃ p, posV vs s = p := ⟨_, rfl⟩
  obtain ⟨t, ht⟩ : ∃ t, isV vs s = t := ⟨_, rfl⟩
  have hpl : t = true → p < n := by
    intro h
    rw [h] at ht
    simp only [isV, Bool.and_eq_true, decide_eq_true_eq] at ht
    rw [hp] at ht
    rw [← HL.out]
    exact ht.1
  rw [hp, ht] at c hf
  clear hp ht hR
  refine c.mono ?_
  rintro e w2 ⟨rfl, hb2⟩
  clear c
  have hB := hB.trans (hb2.mono hB.size)
  cases t with
  | false =>
    have HE : Hid (r = ([], 6)) := Lib.hid (by rw [hr, opV, HC.out, if_pos rfl, hf]; rfl)
    clear hr hf hpl
    go_wp2_with fail
    go_ret2
    exact RetVE.nil HE.out hB
  | true =>
    have hlt := hpl rfl
    clear hpl
    have hd := hd.below hb2
    have k0 := cell_below hb2 k0
    have k1 := cell_below hb2 k1
    have kf := cell_below hb2 kf
    obtain ⟨b, off, rfl, hcc⟩ := hd.addr (by omega)
    obtain ⟨-, -, m2⟩ := hcc p hlt
    clear hcc
    have hwv := (hd.w hlt).2.2
    obtain ⟨v, hv⟩ : ∃ v, vth vs p = v := ⟨_, rfl⟩
    rw [hv] at m2 hwv
    have HV := Lib.hid hv
    have HRR : Hid (r = if v.st = x then (vs.set p ⟨v.nm, v.pc, y⟩, 0) else ([], 241)) := Lib.hid (by rw [hr, opV, HC.out, if_pos rfl, hf]; simp only [if_true]; rw [hv])
    clear hr hf hv
    have hlw : ((p : Nat) : Int) < (n : Int) := by omega
    go_upto_region 7 with fail
    have D0 : Below w2.heap.size w2 w2.drew := (Below.refl _ _).drew
    refine wp_region_held_drew (S := (fun w' => w'.cell? ⟨w.heap.size, 0, none⟩ = some (.func (.func 58) #[] #[.pointer (some ⟨b0, 0, none⟩), .pointer (some ⟨b1, 0, none⟩)]) ∧ w'.cell? ⟨b, off + p * 3 + 2, none⟩ = some (.int .u8 ((v.st : Nat) : Int)) ∧ True)) (by kernel_rfl) ?_ (fun hHeld => ?_)
    · exact ⟨cell_below D0 kf, cell_below D0 m2, trivial⟩
    have hd := hd.below D0
    have hB := hB.trans (D0.mono hB.size)
    have k0 := cell_below D0 k0
    have k1 := cell_below D0 k1
    have kf := cell_below D0 kf
    have m2 := cell_below D0 m2
    clear D0
    generalize w2.drew = wd at *
    refine wpAnyH_take (i := 0) (oi := ?oir2_0) (v := ?vr2_0) ?hir2_0 (by kernel_rfl) (by kernel_rfl) (by kernel_rfl) ?hqr2_0 ?hyr2_0 (by assumption) ?restr2_0
    case hir2_0 => simp only [List.getElem?_toArray, List.getElem?_cons_succ, List.getElem?_cons_zero]; rfl
    case hqr2_0 => exact fun _ _ _ h => h
    case hyr2_0 => (refine Or.inl ⟨by rfl, ?_⟩; intro w hSw; (try dsimp only at hSw); go_simp; all_goals with_reducible rfl)
    try simp only [Act.put, List.setIfInBounds_toArray, List.set_cons_zero, List.set_cons_succ]
    refine wpAnyH_take (i := 1) (oi := ?oir2_1) (v := ?vr2_1) ?hir2_1 (by kernel_rfl) (by kernel_rfl) (by kernel_rfl) ?hqr2_1 ?hyr2_1 (by assumption) ?restr2_1
    case hir2_1 => simp only [List.getElem?_toArray, List.getElem?_cons_succ, List.getElem?_cons_zero]; rfl
    case hqr2_1 => exact fun _ _ _ h => h
    case hyr2_1 => (refine Or.inl ⟨by rfl, ?_⟩; intro w hSw; (try dsimp only at hSw); go_simp; all_goals with_reducible rfl)
    try simp only [Act.put, List.setIfInBounds_toArray, List.set_cons_zero, List.set_cons_succ]
    refine wpAnyH_take (i := 3) (oi := ?oir2_3) (v := ?vr2_3) ?hir2_3 (by kernel_rfl) (by kernel_rfl) (by kernel_rfl) ?hqr2_3 ?hyr2_3 (by assumption) ?restr2_3
    case hir2_3 => simp only [List.getElem?_toArray, List.getElem?_cons_succ, List.getElem?_cons_zero]; rfl
    case hqr2_3 => exact fun _ _ _ h => h
    case hyr2_3 => (refine Or.inl ⟨by rfl, ?_⟩; intro w hSw; (try dsimp only at hSw); go_simp; all_goals with_reducible rfl)
    try simp only [Act.put, List.setIfInBounds_toArray, List.set_cons_zero, List.set_cons_succ]
    refine wpAnyH_take (i := 4) (oi := ?oir2_4) (v := ?vr2_4) ?hir2_4 (by kernel_rfl) (by kernel_rfl) (by kernel_rfl) ?hqr2_4 ?hyr2_4 (by assumption) ?restr2_4
    case hir2_4 => simp only [List.getElem?_toArray, List.getElem?_cons_succ, List.getElem?_cons_zero]; rfl
    case hqr2_4 => exact fun _ _ _ h => h
    case hyr2_4 => (refine Or.inl ⟨by rfl, ?_⟩; intro w hSw; (try dsimp only at hSw); go_simp; all_goals with_reducible rfl)
    try simp only [Act.put, List.setIfInBounds_toArray, List.set_cons_zero, List.set_cons_succ]
    refine wpAnyH_take (i := 5) (oi := ?oir2_5) (v := ?vr2_5) ?hir2_5 (by kernel_rfl) (by kernel_rfl) (by kernel_rfl) ?hqr2_5 ?hyr2_5 (by assumption) ?restr2_5
    case hir2_5 => simp only [List.getElem?_toArray, List.getElem?_cons_succ, List.getElem?_cons_zero]; rfl
    case hqr2_5 => exact fun _ _ _ h => h
    case hyr2_5 => (refine Or.inl ⟨by rfl, ?_⟩; intro w hSw; (try dsimp only at hSw); go_simp; all_goals with_reducible rfl)
    try simp only [Act.put, List.setIfInBounds_toArray, List.set_cons_zero, List.set_cons_succ]
    refine wpAnyH_take (i := 6) (oi := ?oir2_6) (v := ?vr2_6) ?hir2_6 (by kernel_rfl) (by kernel_rfl) (by kernel_rfl) ?hqr2_6 ?hyr2_6 (by assumption) ?restr2_6
    case hir2_6 => simp only [List.getElem?_toArray, List.getElem?_cons_succ, List.getElem?_cons_zero]; rfl
    case hqr2_6 => exact fun _ _ _ h => h
    case hyr2_6 => (refine Or.inl ⟨by rfl, ?_⟩; intro w hSw; (try dsimp only at hSw); go_simp; all_goals with_reducible rfl)
    try simp only [Act.put, List.setIfInBounds_toArray, List.set_cons_zero, List.set_cons_succ]
    refine wpAnyH_take (i := 7) (oi := ?oir2_7) (v := ?vr2_7) ?hir2_7 (by kernel_rfl) (by kernel_rfl) (by kernel_rfl) ?hqr2_7 ?hyr2_7 (by assumption) ?restr2_7
    case hir2_7 => simp only [List.getElem?_toArray, List.getElem?_cons_succ, List.getElem?_cons_zero]; rfl
    case hqr2_7 => exact fun _ _ _ h => h
    case hyr2_7 => (refine Or.inl ⟨by rfl, ?_⟩; intro w hSw; (try dsimp only at hSw); go_simp; all_goals with_reducible rfl)
    try simp only [Act.put, List.setIfInBounds_toArray, List.set_cons_zero, List.set_cons_succ]
    refine wpAnyH_ready (rs := [2]) (by kernel_rfl) (by simp) ?_
    refine AllReadyH.cons (o := ?oq2) ?hoq2 (fun K hK => ?kq2) AllReadyH.nil
    case hoq2 => simp only [List.getElem?_toArray, List.getElem?_cons_succ, List.getElem?_cons_zero]; rfl
    go_simp
    have c := fromMap_any wd b0 b1 x y k0 k1
    refine c.mono ?_
    rintro e w3 ⟨rfl, hw⟩
    clear c
    have hbm : Below wd.heap.size wd w3 := by rw [hw]; exact below_al wd _
    have hmp : w3.heap[wd.heap.size]? = some (.map #[⟨.int .u8 ((x : Nat) : Int), .int .u8 ((y : Nat) : Int), 0⟩] 1) := by rw [hw]; exact heap_alloc_new _ _
    clear hw
    have hB := hB.trans (hbm.mono hB.size)
    have hd := hd.below hbm
    have kf := cell_below hbm kf
    have m2 := cell_below hbm m2
    have lk := run_lookup1 Try.underlying90 Try.underlying5 Try.underlying5 hmp ((v.st : Nat) : Int) (by kernel_rfl)
    go_wp2_with fail
    refine hK.out _ _ ?_ (fun hHeld => ?_)
    · exact ⟨kf, m2, trivial⟩
    clear hK K
    try simp only [Act.put, List.setIfInBounds_toArray, List.set_cons_zero, List.set_cons_succ]
    refine wpAnyH_ready (rs := [8]) (by kernel_rfl) (by simp) ?_
    refine AllReadyH.cons (o := ?oq8) ?hoq8 (fun K hK => ?kq8) AllReadyH.nil
    case hoq8 => simp only [List.getElem?_toArray, List.getElem?_cons_succ, List.getElem?_cons_zero]; rfl
    go_simp
    refine hK.out _ _ ?_ (fun hHeld => ?_)
    · exact ⟨kf, m2, trivial⟩
    clear hK K
    try simp only [Act.put, List.setIfInBounds_toArray, List.set_cons_zero, List.set_cons_succ]
    refine wpAnyH_take (i := 9) (oi := ?oir3_9) (v := ?vr3_9) ?hir3_9 (by kernel_rfl) (by kernel_rfl) (by kernel_rfl) ?hqr3_9 ?hyr3_9 (by assumption) ?restr3_9
    case hir3_9 => simp only [List.getElem?_toArray, List.getElem?_cons_succ, List.getElem?_cons_zero]; rfl
    case hqr3_9 => exact fun _ _ _ h => h
    case hyr3_9 => (refine Or.inl ⟨by rfl, ?_⟩; intro w hSw; (try dsimp only at hSw); go_simp; all_goals with_reducible rfl)
    try simp only [Act.put, List.setIfInBounds_toArray, List.set_cons_zero, List.set_cons_succ]
    refine wpAnyH_take (i := 10) (oi := ?oir3_10) (v := ?vr3_10) ?hir3_10 (by kernel_rfl) (by kernel_rfl) (by kernel_rfl) ?hqr3_10 ?hyr3_10 (by assumption) ?restr3_10
    case hir3_10 => simp only [List.getElem?_toArray, List.getElem?_cons_succ, List.getElem?_cons_zero]; rfl
    case hqr3_10 => exact fun _ _ _ h => h
    case hyr3_10 => (refine Or.inl ⟨by rfl, ?_⟩; intro w hSw; (try dsimp only at hSw); go_simp; all_goals with_reducible rfl)
    try simp only [Act.put, List.setIfInBounds_toArray, List.set_cons_zero, List.set_cons_succ]
    refine wpAnyH_take (i := 11) (oi := ?oir3_11) (v := ?vr3_11) ?hir3_11 (by kernel_rfl) (by kernel_rfl) (by kernel_rfl) ?hqr3_11 ?hyr3_11 (by assumption) ?restr3_11
    case hir3_11 => simp only [List.getElem?_toArray, List.getElem?_cons_succ, List.getElem?_cons_zero]; rfl
    case hqr3_11 => exact fun _ _ _ h => h
    case hyr3_11 => (refine Or.inl ⟨by rfl, ?_⟩; intro w hSw; (try dsimp only at hSw); go_simp; all_goals with_reducible rfl)
    try simp only [Act.put, List.setIfInBounds_toArray, List.set_cons_zero, List.set_cons_succ]
    refine wpAnyH_take (i := 12) (oi := ?oir3_12) (v := ?vr3_12) ?hir3_12 (by kernel_rfl) (by kernel_rfl) (by kernel_rfl) ?hqr3_12 ?hyr3_12 (by assumption) ?restr3_12
    case hir3_12 => simp only [List.getElem?_toArray, List.getElem?_cons_succ, List.getElem?_cons_zero]; rfl
    case hqr3_12 => exact fun _ _ _ h => h
    case hyr3_12 => (refine Or.inl ⟨by rfl, ?_⟩; intro w hSw; (try dsimp only at hSw); go_simp; all_goals with_reducible rfl)
    try simp only [Act.put, List.setIfInBounds_toArray, List.set_cons_zero, List.set_cons_succ]
    refine wpAnyH_take (i := 13) (oi := ?oir3_13) (v := ?vr3_13) ?hir3_13 (by kernel_rfl) (by kernel_rfl) (by kernel_rfl) ?hqr3_13 ?hyr3_13 (by assumption) ?restr3_13
    case hir3_13 => simp only [List.getElem?_toArray, List.getElem?_cons_succ, List.getElem?_cons_zero]; rfl
    case hqr3_13 => exact fun _ _ _ h => h
    case hyr3_13 => (refine Or.inl ⟨by rfl, ?_⟩; intro w hSw; (try dsimp only at hSw); go_simp; all_goals with_reducible rfl)
    try simp only [Act.put, List.setIfInBounds_toArray, List.set_cons_zero, List.set_cons_succ]
    refine wpAnyH_done (by kernel_rfl) ?_ _
    clear hHeld lk
    by_cases hst : v.st = x
    case neg =>
      have HE : Hid (r = ([], 241)) := Lib.hid (by rw [HRR.out, if_neg hst])
      have hdec : decide (((v.st : Nat) : Int) = ((x : Nat) : Int)) = false := decide_eq_false (by omega)
      go_wp2_with fail
      go_ret2
      exact RetVE.nil HE.out hB
    case pos =>
      have HE : Hid (r = (vs.set p ⟨v.nm, v.pc, y⟩, 0)) := Lib.hid (by rw [HRR.out, if_pos hst])
      have hdec : decide (((v.st : Nat) : Int) = ((x : Nat) : Int)) = true := decide_eq_true (by omega)
      have hst' : ((v.st : Nat) : Int) = ((x : Nat) : Int) := by omega
      go_wp2_with fail
      refine (Clone_any _ hd (by omega)).mono ?_
      rintro e w4 ⟨a3, c3, rfl, ho, hb3⟩
      obtain ⟨g, cur, rfl, hgl, hgh, -, -, hsz, hcur⟩ := ho.row (by omega)
      have hcl : n ≤ c3 := ho.rd.le
      have u2 : w4.cell? ⟨g, p * 3 + 2, none⟩ = some (cur[p * 3 + 2]'(by rw [hsz]; omega)) := by
        simp only [World.cell?, hgh]
        exact Array.getElem?_eq_getElem (by rw [hsz]; omega)
      have f2 : w4.frozen? ⟨g, p * 3 + 2, none⟩ = false := frozen_of_row w4 g _ _ _ hgh
      have hset := ho.set hlt hy
      rw [HV.out] at hset
      have HO := Lib.hid (hset.base_le hB.size)
      have HB := Lib.hid (show Below w.heap.size w (w4.setCell ⟨g, p * 3 + 2, none⟩ (.int .u8 ((y : Nat) : Int))) from (hB.trans (hb3.mono hB.size)).setCell (Nat.le_trans hB.size hgl) _)
      clear hset ho hb3 hcur hgh
      go_wp2_with fail
      go_ret2
      rw [HE.out]
      exact ⟨_, _, _, rfl, HO.out, HB.out⟩

end Go.Proofs.Ytnjkfjecnicccaa
