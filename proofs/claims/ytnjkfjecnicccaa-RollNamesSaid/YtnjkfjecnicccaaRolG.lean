/- The operations on a roll: the program's deeds. Conditions: none. -/
import Derived.Test.YtnjkfjecnicccaaRolF
namespace Go.Proofs.Ytnjkfjecnicccaa
open Go.RowKit Go.Suf
set_option linter.unusedVariables false
set_option linter.unusedSimpArgs false

theorem rise_of {vs : List VQ} (h : chkV vs = 0) : Rise vs ∧ vs.length ≤ 64 ∧ ∀ i, i < vs.length → mayV (vth vs i) = true := by
  unfold chkV at h
  by_cases h1 : 64 < vs.length
  · rw [if_pos h1] at h; omega
  rw [if_neg h1] at h
  by_cases h2 : (List.range vs.length).all (okAt vs) = true
  · rw [List.all_eq_true] at h2
    have hk : ∀ i, i < vs.length → okAt vs i = true := fun i hi => h2 i (List.mem_range.2 hi)
    refine ⟨?_, by omega, fun i hi => ?_⟩
    · intro j k hjk
      induction k with
      | zero => omega
      | succ k ih =>
        intro hk1
        have h3 := hk (k + 1) hk1
        simp [okAt] at h3
        by_cases e : j = k
        · subst e; exact h3.2
        · exact ltS_trans (ih (by omega) (by omega)) h3.2
    · have := hk i hi
      simp only [okAt, Bool.and_eq_true] at this
      exact this.1
  · rw [if_neg h2] at h; omega

theorem find_pos {vs : List VQ} (hR : Rise vs) (s : ByteArray) : findV vs s = if isV vs s = true then some (posV vs s) else none := by
  by_cases h : isV vs s = true
  · rw [if_pos h]
    simp only [isV, Bool.and_eq_true, decide_eq_true_eq] at h
    have he := eqS_iff.1 h.2
    refine findV_at h.1 he fun k hk e => ?_
    have := hR k _ hk h.1
    rw [e, he, ltS_irrefl] at this
    cases this
  · rw [if_neg h]
    refine findV_none fun k hk e => h ?_
    have hp : posV vs s = k := pos_eq (by omega) (fun j hj => by rw [← e]; exact hR j k hj hk) (fun _ => by rw [e, ltS_irrefl])
    simp only [isV, hp, Bool.and_eq_true, decide_eq_true_eq]
    exact ⟨hk, eqS_iff.2 e⟩

theorem run_checkKey {kt : TypeId} (hk : Try.prog.underlying kt = some (.int .u8)) (b : Bool) (w : World) (x : Int) : (Instr.checkKey b 10000 kt (.int .u8 x)).run Try.prog w = .ok () w := by
  rw [show (10000 : Nat) = 9999 + 1 from rfl, Instr.checkKey]
  simp only [Sem.run_bind, run_underlying hk, Result.andThen_ok, Sem.run_pure]

theorem run_update1 {t kt et : TypeId} (ht : Try.prog.underlying t = some (.map kt et)) (hk : Try.prog.underlying kt = some (.int .u8)) (w : World) (x y : Int) :
    (Instr.mapUpdate t (.map (some w.heap.size)) (.int .u8 x) (.int .u8 y)).run Try.prog (w.alloc (.map #[] 0)) = .ok () (w.alloc (.map #[⟨.int .u8 x, .int .u8 y, 0⟩] 1)) := by
  have hg : ∀ es c, (getObj w.heap.size).run Try.prog (w.alloc (.map es c)) = .ok (.map es c) (w.alloc (.map es c)) := fun es c => by simp only [getObj, Sem.run, heap_alloc_new]
  have hs : ∀ es c o', (setObj w.heap.size o').run Try.prog (w.alloc (.map es c)) = .ok () (w.alloc o') := fun es c o' => by
    simp only [setObj, Sem.run, heap_alloc_new]
    simp [World.alloc, Array.setIfInBounds, Array.push]
  simp only [Instr.mapUpdate, Sem.run_bind, run_underlying ht, Result.andThen_ok, hg, run_checkKey hk, run_underlying hk, Instr.findKey, Instr.findNow, Sem.run_pure, hs]
  rfl

/-- A look-up in a map of one entry. -/
theorem run_lookup1 {t kt et : TypeId} (ht : Try.prog.underlying t = some (.map kt et)) (hk : Try.prog.underlying kt = some (.int .u8)) (he : Try.prog.underlying et = some (.int .u8)) {w : World} {m : Nat} {x y : Int} (hm : w.heap[m]? = some (.map #[⟨.int .u8 x, .int .u8 y, 0⟩] 1)) (z : Int)
    (hz : (zeroValue et).run Try.prog w = .ok (.int .u8 0) w) :
    (Instr.lookup t (.map (some m)) (.int .u8 z) true).run Try.prog w = .ok (.tuple #[.int .u8 (if z = x then y else 0), .bool (decide (z = x))]) w := by
  have hg : (getObj m).run Try.prog w = .ok (.map #[⟨.int .u8 x, .int .u8 y, 0⟩] 1) w := by simp [getObj, Sem.run, hm]
  by_cases e : z = x
  · have e' : (z == x) = true := by simpa using e
    simp only [Instr.lookup, Sem.run_bind, run_underlying ht, Result.andThen_ok, hg, run_checkKey hk, run_underlying hk, Instr.findKey, Instr.findNow, Instr.sameNow, Sem.run_pure, e', if_true, if_pos e]
    simp [e]
  · have e' : (z == x) = false := by simpa using e
    simp only [Instr.lookup, Sem.run_bind, run_underlying ht, Result.andThen_ok, hg, run_checkKey hk, run_underlying hk, Instr.findKey, Instr.findNow, Instr.sameNow, Sem.run_pure, e', if_true, if_neg e, hz]
    simp [e]

theorem fromMap_any (w : World) (b0 b1 : Nat) (x y : Int) (h0 : w.cell? ⟨b0, 0, none⟩ = some (.int .u8 x)) (h1 : w.cell? ⟨b1, 0, none⟩ = some (.int .u8 y)) :
    Calls Try.prog 58 #[.pointer (some ⟨b0, 0, none⟩), .pointer (some ⟨b1, 0, none⟩)] w fun e w' =>
      e = .returned (.map (some w.heap.size)) ∧ w' = w.alloc (.map #[⟨.int .u8 x, .int .u8 y, 0⟩] 1) := by
  have hB := below_al w (.map #[] 0)
  have k0 := cell_below hB h0
  have k1 := cell_below hB h1
  have hu := run_update1 Try.underlying90 Try.underlying5 w x y
  have mk : ∀ w, (Instr.makeMap 90 none).run Try.prog w = .ok (.map (some w.heap.size)) (w.alloc (.map #[] 0)) := fun w => rfl
  go_enter Try.func58, Try.ntmps58
  go_wp2_with fail
  go_ret
  exact ⟨rfl, rfl⟩

end Go.Proofs.Ytnjkfjecnicccaa
