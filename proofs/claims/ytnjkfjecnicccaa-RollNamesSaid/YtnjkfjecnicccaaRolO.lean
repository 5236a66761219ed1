/- What the law RollNames leans on: the numbers of its examples, a full roll, a store into the middle of a row. No condition. -/
import Derived.Test.YtnjkfjecnicccaaRolY
import Derived.Test.YtnjkfjecnicccaaRolM
import Derived.Test.YtnjkfjecnicccaaRolK
namespace Go.Proofs.Ytnjkfjecnicccaa
open Go.RowKit Go.Suf
set_option linter.unusedVariables false
set_option linter.unusedSimpArgs false

def catS : ByteArray := ⟨#[99, 97, 116]⟩
def danS : ByteArray := ⟨#[100, 97, 110]⟩
def noS : ByteArray := ⟨#[]⟩
def zzS : ByteArray := ⟨#[122, 122]⟩
def zzzS : ByteArray := ⟨#[122, 122, 122]⟩
def bS : ByteArray := ⟨#[98]⟩
def aS : ByteArray := ⟨#[97]⟩
def cS : ByteArray := ⟨#[99]⟩
def strV : List VQ := [⟨annS, 1, 4⟩, ⟨bobS, 1, 3⟩]
theorem ex_e : addV twoV annS 0 = ([], 240) := by decide +kernel
theorem ex_f : addV twoV catS 8 = ([], 2) := by decide +kernel
theorem ex_g : addV twoV noS 0 = ([], 2) := by decide +kernel
theorem ex_h : opV twoV annS 2 3 = ([], 241) := by decide +kernel
theorem ex_i : opV twoV bobS 2 1 = ([], 241) := by decide +kernel
theorem ex_j : opV twoV annS 1 4 = (strV, 0) := by decide +kernel
theorem ex_k : opV strV annS 4 1 = (twoV, 0) := by decide +kernel
theorem ex_m : opV twoV danS 1 4 = ([], 6) := by decide +kernel
theorem ex_n : fndV twoV danS = (zeroVQ, 6) := by decide +kernel
theorem ex_o : cntV twoV 8 = ((0, 0, 0, 0), 2) := by decide +kernel
theorem ex_p : cntV twoV (-2) = ((0, 0, 0, 0), 2) := by decide +kernel
def fV (i : Nat) : VQ := ⟨strB [33 + i], 0, 1⟩
def fullV : List VQ := (List.range 64).map fV
def midV (i : Nat) : List VQ := (List.range 64).map fun k => if k < i then fV k else zeroVQ
theorem midV_zero : midV 0 = List.replicate 64 zeroVQ := by decide +kernel
theorem midV_all : midV 64 = fullV := by decide +kernel
theorem midV_len (i : Nat) : (midV i).length = 64 := by simp [midV]
theorem midV_step {i : Nat} (h : i < 64) : midV (i + 1) = (midV i).set i (fV i) := by
  refine vs_ext (by simp [midV]) fun k hk => ?_
  rw [midV_len] at hk
  rw [vth_set _ (by rw [midV_len]; exact h)]
  have e : ∀ j, vth (midV j) k = if k < j then fV k else zeroVQ := fun j => by simp [vth, midV, List.getD_eq_getElem?_getD, hk]
  rw [e, e]
  by_cases h1 : k = i
  · subst h1
    rw [if_pos (by omega), if_pos rfl]
  · rw [if_neg h1]
    by_cases h2 : k < i
    · rw [if_pos (by omega), if_pos h2]
    · rw [if_neg (by omega), if_neg h2]
theorem ex_full : chkV fullV = 0 := by decide +kernel
theorem ex_q : addV fullV zzS 0 = ([], 9) := by decide +kernel
theorem ex_t : addV (fullV ++ [⟨zzS, 0, 1⟩]) zzzS 0 = ([], 4) := by decide +kernel
theorem ex_u : addV [⟨bS, 0, 1⟩, ⟨aS, 0, 1⟩] cS 0 = ([], 8) := by decide +kernel
theorem ex_v : readV [0, 1, 0] = ([], 11) := by decide +kernel
theorem fullV_wf : ∀ v ∈ fullV, VW v := by
  intro v hv
  simp [fullV] at hv
  obtain ⟨i, _, rfl⟩ := hv
  exact ⟨show -9223372036854775808 ≤ (0 : Int) by decide, show (0 : Int) ≤ 9223372036854775807 by decide, show 1 < 256 by decide⟩

theorem vflat_setV : ∀ (vs : List VQ) (i : Nat) (v : VQ), i < vs.length → vflat (vs.set i v) = (vflat vs).take (i * 3) ++ vcells v ++ (vflat vs).drop (i * 3 + 3)
  | [], i, v, h => by simp at h
  | u :: vs, 0, v, h => by simp [vflat, vcells]
  | u :: vs, i + 1, v, h => by
    have ih := vflat_setV vs i v (by simpa using h)
    simp only [List.set_cons_succ]
    have e : ∀ us, vflat (u :: us) = vcells u ++ vflat us := fun us => by simp [vflat]
    have hl : (vcells u).length = 3 := rfl
    rw [e, e, ih, show (i + 1) * 3 = 3 + i * 3 by omega, show 3 + i * 3 + 3 = 3 + (i * 3 + 3) by omega, List.take_append, List.drop_append, hl]
    rw [List.take_of_length_le (show (vcells u).length ≤ 3 + i * 3 by rw [hl]; omega), List.drop_of_length_le (show (vcells u).length ≤ 3 + (i * 3 + 3) by rw [hl]; omega)]
    simp [List.append_assoc]

/-- A struct is stored whole into the middle of a row. -/
theorem wpList_store_part {P : Program} {ops : Array Oper} {rest : List Oper} {o : Oper} {a : Act} {w : World} {Q : Exit → Act → World → Prop} (hgd : o.guard = none) (t : TypeId) (x y : Operand) (ho : o.op = .store t x y) {m : Nat} (A : AT P t m)
    {b off : Nat} (cur vs : Array Value) (e : TypeId) (hg : w.heap[b]? = some (.cells cur e (0, 0))) (hx : a.eval x = .pointer (some ⟨b, off, none⟩)) (hy : a.eval y = .agg vs) (hm : vs.size = m) (hcur : off + m ≤ cur.size) (h1 : ∀ u ∈ vs.toList, u.oneCell' = true)
    (h : wpList P ops Q rest (a.put o.dst undef) (w.setRow b (cur.toList.take off ++ vs.toList ++ cur.toList.drop (off + m)).toArray)) : wpList P ops Q (o :: rest) a w := by
  refine wpList_plain hgd fun K hK => ?_
  have hst := run_storeCells_at P b off e vs.toList 0 cur w hg (by simp; omega) h1
  simp only [Nat.add_zero, Array.length_toList, hm] at hst
  unfold Oper.wp execOp
  simp only [ho, hx, hy, Instr.storeAt, Instr.sureAddr, Sem.run_bind, Sem.run_pure, Result.andThen_ok, storeVar, A.sizeOf, Value.cells, hm]
  simp only [ne_eq, not_true_eq_false, if_false, hst]
  exact hK _ _ h

theorem run_make64 (w : World) : (Instr.makeSlice 22 (.int .i64 64) (.int .i64 64)).run Try.prog w = .ok (.slice (some ⟨w.heap.size, 0, none⟩) 64 64) (w.alloc (.cells (vflat (midV 0)).toArray 32)) := by
  obtain ⟨i, hi, hz, h1, hby⟩ := infoV
  rw [run_make (P := Try.prog) w _ 32 i _ (by kernel_rfl) hi hz .i64 .i64 64 64 (by decide) (by decide) (by rw [hby]; decide) (by decide), h1, midV_zero]
  have e : madeCells (Value.cells (.agg #[.string ⟨#[]⟩, .int .i64 0, .int .u8 0])) (((64 : Int).toNat) * 3) = (vflat (List.replicate 64 zeroVQ)).toArray := by kernel_rfl
  rw [e]
  rfl

theorem rdV_pair (w : World) (u v : VQ) (hu : VW u) (hv : VW v) : RdV (w.alloc (.cells #[.string u.nm, .int .i64 u.pc, .int .u8 ((u.st : Nat) : Int), .string v.nm, .int .i64 v.pc, .int .u8 ((v.st : Nat) : Int)] 32)) (some ⟨w.heap.size, 0, none⟩) 2 2 [u, v] :=
  rdV_row (vs := [u, v]) rfl (heap_alloc_new _ _) (Nat.le_refl _) (by decide) (fun j x h => by
    have : (vflat [u, v])[j]? = (vcells u ++ vcells v)[j]? := by simp [vflat]
    rw [this] at h
    simpa [vcells] using h) (fun x hx => by simp at hx; rcases hx with rfl | rfl; exact hu; exact hv)

theorem rdV_flat {w : World} {ad : Addr} {n cap : Nat} {us : List VQ} (hr : RdV w (some ad) n cap us) (j : Nat) (u : Value) (hu : (vflat us)[j]? = some u) : w.cell? (ad.add j) = some u := by
  obtain ⟨hj1, hj2⟩ := vflat_some hu
  obtain ⟨b, off, e, k0, k1, k2⟩ := hr.cell (j / 3) (by rw [← hr.len]; exact hj1)
  simp only [Option.some.injEq] at e
  subst e
  have ea : (⟨b, off, none⟩ : Addr).add j = ⟨b, off + j, none⟩ := by unfold Addr.add; split <;> simp_all
  rw [ea]
  have h3 : j % 3 = 0 ∨ j % 3 = 1 ∨ j % 3 = 2 := by omega
  rcases h3 with h3 | h3 | h3 <;> rw [h3] at hj2 <;> simp [vcells] at hj2 <;> subst hj2
  · rw [show off + j = off + j / 3 * 3 by omega]; exact k0
  · rw [show off + j = off + j / 3 * 3 + 1 by omega]; exact k1
  · rw [show off + j = off + j / 3 * 3 + 2 by omega]; exact k2

/-- 'append(s, x...)' of voters where there is no room: nothing that was there is turned. -/
theorem wpList_appVgrow {ops : Array Oper} {rest : List Oper} {o : Oper} {a : Act} {w : World} {Q : Exit → Act → World → Prop} (hgd : o.guard = none) (s x : Operand)
    (ho : o.op = .call { callee := .builtin .append, args := #[s, x], argTypes := #[22, 22] })
    {a1 : Addr} {n1 cap1 : Nat} {vs : List VQ} (hs : a.eval s = .slice (some a1) n1 cap1) (h1 : RdV w (some a1) n1 cap1 vs)
    {a2 : Addr} {n2 cap2 : Nat} {us : List VQ} (hx : a.eval x = .slice (some a2) n2 cap2) (hr : RdV w (some a2) n2 cap2 us)
    (hg : cap1 < n1 + n2) (hm : n1 + n2 ≤ 2199023255552)
    (h : ∀ a' cap' w', OwV w.heap.size w' a' (n1 + n2) cap' (vs ++ us) → Below w.heap.size w w' →
      wpList Try.prog ops Q rest (a.put o.dst (.slice a' (n1 + n2) cap')) w') : wpList Try.prog ops Q (o :: rest) a w := by
  obtain ⟨i, hi, hz, h3, hby⟩ := infoV
  have wf : ∀ v ∈ vs ++ us, VW v := fun v hv => by
    rcases List.mem_append.1 hv with h | h
    · exact h1.wf v h
    · exact hr.wf v h
  have hlen : (vs ++ us).length = n1 + n2 := by rw [List.length_append, h1.len, hr.len]
  obtain ⟨v', w', hrun, hown', hgr⟩ := run_append_arg_grows (P := Try.prog) w 22 o.type 32 i _ 3 32 Try.underlying22 hi hz h3 hby rfl (by decide) a1 n1 cap1 (vflat vs) (by rw [vflat_length, h1.len]) (rdV_flat h1) a2 n2 cap2 (vflat us) (by rw [vflat_length, hr.len]) (rdV_flat hr) hg (by unfold maxLen; omega) (by omega)
  have hbw : Below w.heap.size w w' := (Below.refl _ w).grown hgr (Nat.le_refl _) (fun k e => by cases e)
  rw [← vflat_append] at hown'
  rcases hown'.2 with ⟨_, hz0⟩ | ⟨g, c', cur, hv, _⟩
  · have : n1 + n2 = 0 := hz0
    omega
  · subst hv
    refine wpList_plain hgd fun K hK => ?_
    unfold Oper.wp
    simp [execOp, ho, resolve, invoke, builtin, hs, hx, hrun, Result.andThen]
    exact hK _ _ (h _ _ w' ⟨hlen, hown', wf⟩ hbw)

end Go.Proofs.Ytnjkfjecnicccaa
