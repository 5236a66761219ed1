/- Which boxes count as marked: the plain side, and the answer's MayPolicy, Doubt, decided, Marked. No condition. Printed by gen_shej.py. -/
import Derived.Test.YthpjnbnheagpiaaSheF
import Derived.OrdersHeld
import Derived.OrdersIn
import Derived.RangeFuncKeeps
namespace Go.Proofs.Ythpjnbnheagpiaa
open Go.RowKit Go.Suf
set_option linter.unusedVariables false
set_option linter.unusedSimpArgs false

def mayP (p : PQ) : Bool := decide (1 ≤ p.low) && decide (p.low ≤ p.high) && decide (p.high ≤ 100) && decide (0 ≤ p.skips) && decide (p.skips ≤ 10)
def doubtB (p : PQ) (b : Nat) : Bool := decide (p.low ≤ b) && decide (b < p.high)
def findD (l : List DQ) (b : Int) : Option DQ := l.find? fun d => decide (d.bx = b)
def yesD (o : Option DQ) : Bool := match o with | some d => d.yes | none => false
def markB (p : PQ) (xs : List Nat) (l : List DQ) (i : Nat) : Bool := if doubtB p (nth xs i) = true then yesD (findD l (i : Nat)) else decide (p.high ≤ nth xs i)
def dbtB (p : PQ) (xs : List Nat) (l : List DQ) (i : Nat) : Bool := doubtB p (nth xs i) && (findD l (i : Nat)).isNone
def markL (p : PQ) (xs : List Nat) (l : List DQ) (n : Nat) : List Bool := (List.range n).map (markB p xs l)
def dbtL (p : PQ) (xs : List Nat) (l : List DQ) (n : Nat) : List Int := ((List.range n).filter (dbtB p xs l)).map fun i => ((i : Nat) : Int)

theorem findD_at {l : List DQ} {b : Int} {i : Nat} (hi : i < l.length) (he : (dth l i).bx = b) (hn : ∀ k, k < i → ¬ (dth l k).bx = b) : findD l b = some (dth l i) := by
  unfold findD
  rw [dth_eq hi]
  rw [List.find?_eq_some_iff_getElem]
  refine ⟨by rw [dth_eq hi] at he; simpa using he, i, hi, rfl, fun j hj => ?_⟩
  have := hn j hj
  rw [dth_eq (by omega)] at this
  simpa using this
theorem findD_none {l : List DQ} {b : Int} (hn : ∀ k, k < l.length → ¬ (dth l k).bx = b) : findD l b = none := by
  unfold findD
  rw [List.find?_eq_none]
  intro d hd
  obtain ⟨k, hk, rfl⟩ := List.getElem_of_mem hd
  have := hn k hk
  rw [dth_eq hk] at this
  simpa using this
theorem markL_succ (p : PQ) (xs : List Nat) (l : List DQ) (i : Nat) : markL p xs l (i + 1) = markL p xs l i ++ [markB p xs l i] := by simp [markL, List.range_succ]
theorem dbtL_succ (p : PQ) (xs : List Nat) (l : List DQ) (i : Nat) : dbtL p xs l (i + 1) = dbtL p xs l i ++ (if dbtB p xs l i = true then [((i : Nat) : Int)] else []) := by
  unfold dbtL
  rw [List.range_succ, List.filter_append]
  by_cases h : dbtB p xs l i = true
  · simp [h]
  · simp [h]
theorem markL_len (p : PQ) (xs : List Nat) (l : List DQ) (n : Nat) : (markL p xs l n).length = n := by simp [markL]
theorem dbtL_le (p : PQ) (xs : List Nat) (l : List DQ) (n : Nat) : (dbtL p xs l n).length ≤ n := by
  unfold dbtL
  rw [List.length_map]
  exact Nat.le_trans (List.length_filter_le _ _) (by simp)

/-- A row beside one that grows, of another type. -/
theorem own_grown {base base' : Nat} {e e' : TypeId} {w w' : World} {v v' : Value} {n m : Nat} {xs ys : List Value} (h : w.ownsRow base e 1 v n xs) (hv : w.ownsRow base' e' 1 v' m ys) (hne : e ≠ e') (hg : w.grownBy w' v'.ownBlock) : w'.ownsRow base e 1 v n xs := by
  refine ⟨h.1, ?_⟩
  rcases h.2 with h2 | ⟨b, c, cur, hb, hlo, hh, r⟩
  · exact .inl h2
  · refine .inr ⟨b, c, cur, hb, hlo, ?_, r⟩
    exact (hg.block b (Array.getElem?_eq_some_iff.1 hh).1 (fun e2 => own_block_ne hv hh hne e2.symm)).trans hh

/-- The marked boxes, and those in doubt. -/
def RetM (w : World) (n : Nat) (mk : List Bool) (dt : List Int) : Ending → World → Prop := fun e w' =>
  ∃ a c b m d, e = .returned (.tuple #[.slice a n c, .slice b m d]) ∧ OwB w.heap.size w' a n c mk ∧ OwI w.heap.size w' b m d dt ∧ Below w.heap.size w w'

end Go.Proofs.Ythpjnbnheagpiaa
/- Readings of marks, ranks, scores: the plain side, and the answer's column, in, Marks, Ranks, Scores. Conditions: sizes of sheets. Printed by gen_shek.py. -/
namespace Go.Proofs.Ythpjnbnheagpiaa
open Go.RowKit Go.Suf
set_option linter.unusedVariables false
set_option linter.unusedSimpArgs false

/-- The marked ones of a column. -/
def colL (mk : List Bool) (wd j n : Nat) : List Int := ((List.range n).filter fun i => bth mk (i * wd + j)).map fun i => ((i : Nat) : Int)
theorem colL_succ (mk : List Bool) (wd j n : Nat) : colL mk wd j (n + 1) = colL mk wd j n ++ (if bth mk (n * wd + j) = true then [((n : Nat) : Int)] else []) := by
  unfold colL
  rw [List.range_succ, List.filter_append]
  by_cases h : bth mk (n * wd + j) = true
  · simp [h]
  · simp [h]
theorem colL_le (mk : List Bool) (wd j n : Nat) : (colL mk wd j n).length ≤ n := by
  unfold colL
  rw [List.length_map]
  exact Nat.le_trans (List.length_filter_le _ _) (by simp)
theorem colL_ok (mk : List Bool) (wd j n : Nat) (hn : n ≤ 9223372036854775807) : ∀ x ∈ colL mk wd j n, okI x := by
  intro x hx
  unfold colL at hx
  simp at hx
  obtain ⟨i, ⟨hi, _⟩, rfl⟩ := hx
  exact ⟨by omega, by omega⟩
theorem colL_in (mk : List Bool) (wd j n : Nat) : ∀ x ∈ colL mk wd j n, ∃ i : Nat, x = (i : Int) ∧ i < n := by
  intro x hx
  unfold colL at hx
  simp at hx
  obtain ⟨i, ⟨hi, _⟩, rfl⟩ := hx
  exact ⟨i, rfl, hi⟩
def marksR (mk : List Bool) (most : Int) : List Int × Int := if most < ((colL mk 1 0 mk.length).length : Int) then ([], 1) else (colL mk 1 0 mk.length, 0)
def rankS (mk : List Bool) (n : Nat) (skips : Int) : Nat → Nat → List Int → Int → List Int × Int
  | 0, _, out, _ => (out, 0)
  | f + 1, j, out, sk =>
    if 1 < (colL mk n j n).length then (out, 1)
    else if (colL mk n j n).length = 0 then (if 0 < skips ∧ skips ≤ sk + 1 then (out, 0) else rankS mk n skips f (j + 1) out (sk + 1))
    else rankS mk n skips f (j + 1) (if inI out out.length (ith (colL mk n j n) 0) = true then out else out ++ [ith (colL mk n j n) 0]) 0
def ranksR (mk : List Bool) (n : Nat) (skips : Int) : List Int × Int := rankS mk n skips n 0 [] 0
/-- Of the first k scores of a candidate: how many are marked, and the last one that is. -/
def cntS (mk : List Bool) (i : Nat) : Nat → Nat
  | 0 => 0
  | k + 1 => cntS mk i k + (if bth mk (i * 11 + k) = true then 1 else 0)
def lastS (mk : List Bool) (i : Nat) : Nat → Nat
  | 0 => 0
  | k + 1 => if bth mk (i * 11 + k) = true then k else lastS mk i k
def scoreS (mk : List Bool) (i : Nat) : Int := if 1 < cntS mk i 11 then 0 else (lastS mk i 11 : Nat)
def scoL (mk : List Bool) (n : Nat) : List Int := (List.range n).map (scoreS mk)
def ovrS (mk : List Bool) : Nat → Nat
  | 0 => 0
  | i + 1 => ovrS mk i + (if 1 < cntS mk i 11 then 1 else 0)
def scoresR (mk : List Bool) (n : Nat) : List Int × Int := (scoL mk n, (ovrS mk n : Nat))
theorem scoL_succ (mk : List Bool) (n : Nat) : scoL mk (n + 1) = scoL mk n ++ [scoreS mk n] := by simp [scoL, List.range_succ]
theorem cntS_le (mk : List Bool) (i k : Nat) : cntS mk i k ≤ k := by
  induction k with
  | zero => exact Nat.le_refl _
  | succ k ih => unfold cntS; split <;> omega
theorem lastS_le (mk : List Bool) (i k : Nat) : lastS mk i k ≤ k := by
  induction k with
  | zero => exact Nat.le_refl _
  | succ k ih => unfold lastS; split <;> omega
theorem ovrS_le (mk : List Bool) (n : Nat) : ovrS mk n ≤ n := by
  induction n with
  | zero => exact Nat.le_refl _
  | succ n ih => unfold ovrS; split <;> omega

/-- A new row of integers, and with a count. -/
def RetI (w : World) (n : Nat) (xs : List Int) : Ending → World → Prop := fun e w' =>
  ∃ a c, e = .returned (.slice a n c) ∧ OwI w.heap.size w' a n c xs ∧ Below w.heap.size w w'
def RetIE (w : World) (r : List Int × Int) : Ending → World → Prop := fun e w' =>
  ∃ a n c, e = .returned (.tuple #[.slice a n c, .int .i64 r.2]) ∧ OwI w.heap.size w' a n c r.1 ∧ Below w.heap.size w w'

theorem beqz {n : Nat} (h : n = 0) : (((n : Nat) : Int) == 0) = true := by rw [h]; rfl
theorem beqn {n : Nat} (h : ¬ n = 0) : (((n : Nat) : Int) == 0) = false := by simp; omega
theorem add_wrap {n m : Nat} (h : n + m ≤ 1000000) : IntKind.i64.wrap ((n : Int) + (m : Int)) = ((n + m : Nat) : Int) := by
  rw [← Int.natCast_add]
  exact wrap_in (by omega) (by omega)

end Go.Proofs.Ythpjnbnheagpiaa
/- Reading a sheet: the plain side, and the answer's Read. No condition but at most 1,000 boxes and decisions. Printed by gen_shel.py. -/
namespace Go.Proofs.Ythpjnbnheagpiaa
open Go.RowKit Go.Suf
set_option linter.unusedVariables false
set_option linter.unusedSimpArgs false

def okD (p : PQ) (xs : List Nat) (l : List DQ) (i : Nat) : Prop := (0 ≤ (dth l i).bx ∧ (dth l i).bx < (xs.length : Int) ∧ doubtB p (nth xs (dth l i).bx.toNat) = true) ∧ ∀ k, k < i → ¬ (dth l k).bx = (dth l i).bx
instance (p : PQ) (xs : List Nat) (l : List DQ) (i : Nat) : Decidable (okD p xs l i) := by unfold okD; infer_instance
def decB (p : PQ) (xs : List Nat) (l : List DQ) : Bool := decide (∀ i, i < l.length → okD p xs l i)
def zeroR : RQ := ⟨0, [], 0, []⟩
def bodyR (k n rule : Nat) (p : PQ) (mk : List Bool) : List Int × Int := if k = 1 then ranksR mk n p.skips else if k = 3 then scoresR mk n else marksR mk (marksN rule (n : Nat))
def readR (nm : ByteArray) (ss : List ByteArray) (seats : Int) (rule : Nat) (p : PQ) (xs : List Nat) (l : List DQ) : RQ × Int :=
  if sheetC nm ss seats rule xs = 0 then
    (if mayP p = true then
      (if xs.length < l.length then (zeroR, 4)
       else if decB p xs l = true then (⟨kindN rule, (bodyR (kindN rule) ss.length rule p (markL p xs l xs.length)).1, (bodyR (kindN rule) ss.length rule p (markL p xs l xs.length)).2, dbtL p xs l xs.length⟩, 0)
       else (zeroR, 2))
     else (zeroR, 2))
  else (zeroR, sheetC nm ss seats rule xs)
theorem decB_no {p : PQ} {xs : List Nat} {l : List DQ} {i : Nat} (hi : i < l.length) (h : ¬ okD p xs l i) : decB p xs l = false := decide_eq_false fun hh => h (hh i hi)
theorem sheet_ok {nm : ByteArray} {ss : List ByteArray} {seats : Int} {rule : Nat} {xs : List Nat} (h : sheetC nm ss seats rule xs = 0) : checkC nm ss seats rule = 0 ∧ xs.length = boxesN ss rule := by
  unfold sheetC at h
  by_cases h1 : checkC nm ss seats rule = 0
  · rw [if_pos h1] at h
    by_cases h2 : xs.length = boxesN ss rule ∧ (xs.any fun x => decide (100 < x)) = false
    · exact ⟨h1, h2.1⟩
    · rw [if_neg h2] at h; cases h
  · rw [if_neg h1] at h; exact absurd h h1
theorem kind_in {rule : Nat} (h : isR rule = true) : kindN rule = 1 ∨ kindN rule = 2 ∨ kindN rule = 3 := by
  rw [← kindOf_eq rule h]
  unfold kindOf
  split
  · exact .inr (.inl rfl)
  split
  · exact .inr (.inr rfl)
  · exact .inl rfl

/-- A reading of new memory, and an error. -/
def RetR (w : World) (r : RQ × Int) : Ending → World → Prop := fun e w' =>
  ∃ a n c b m d, e = .returned (.tuple #[.agg #[.int .u8 ((r.1.kd : Nat) : Int), .slice a n c, .int .i64 r.1.ov, .slice b m d], .int .i64 r.2]) ∧ OwI w.heap.size w' a n c r.1.ms ∧ OwI w.heap.size w' b m d r.1.ds ∧ Below w.heap.size w w'
theorem RetR.nils {w w1 : World} {r : RQ × Int} {x : Int} (hr : r = (zeroR, x)) (hb : Below w.heap.size w w1) : RetR w r (.returned (.tuple #[.agg #[.int .u8 0, .slice none 0 0, .int .i64 0, .slice none 0 0], .int .i64 x])) w1 := by
  subst hr
  exact ⟨none, 0, 0, none, 0, 0, rfl, OwG.nil _ _ _ _ _, OwG.nil _ _ _ _ _, hb⟩

end Go.Proofs.Ythpjnbnheagpiaa
namespace Go.Suf
open Go.RowKit Go.Suf
open Go.Proofs.Ythpjnbnheagpiaa
set_option linter.unusedVariables false
set_option linter.unusedSimpArgs false
theorem OwG.setLow {α : Type} {enc : α → Value} {ok : α → Prop} {e : TypeId} {base g i : Nat} {w : World} {a : Option Addr} {n cap : Nat} {xs : List α} (h : OwG enc ok e base w a n cap xs) (hg : g < base) (v : Value) : OwG enc ok e base (w.setCell ⟨g, i, none⟩ v) a n cap xs := by
  refine ⟨h.len, ⟨h.own.1, ?_⟩, h.bd⟩
  rcases h.own.2 with h2 | ⟨b, c, cur, hv, hb, hh, r⟩
  · exact .inl h2
  · exact .inr ⟨b, c, cur, hv, hb, (heap_setCell_other w ⟨g, i, none⟩ b v (by show b ≠ g; omega)).trans hh, r⟩
theorem OwG.rowLow {α : Type} {enc : α → Value} {ok : α → Prop} {e : TypeId} {base g : Nat} {w : World} {a : Option Addr} {n cap : Nat} {xs : List α} (h : OwG enc ok e base w a n cap xs) (hg : g < base) (cs : Array Value) : OwG enc ok e base (w.setRow g cs) a n cap xs := by
  refine ⟨h.len, ⟨h.own.1, ?_⟩, h.bd⟩
  rcases h.own.2 with h2 | ⟨b, c, cur, hv, hb, hh, r⟩
  · exact .inl h2
  · exact .inr ⟨b, c, cur, hv, hb, (setRow_other _ _ _ _ (by omega)).trans hh, r⟩
end Go.Suf
namespace Go.Proofs.Ythpjnbnheagpiaa
open Go.RowKit Go.Suf
set_option linter.unusedVariables false
set_option linter.unusedSimpArgs false
end Go.Proofs.Ythpjnbnheagpiaa
/- A drawn region inside a fence, with a condition on the world (the kit has it outside a fence, and inside one without the condition); then the iterator over a row of boxes. -/
namespace Go.Proofs.Ythpjnbnheagpiaa
open Go.RowKit Go.Suf

section
variable {F : Fence} {n : Nat} {P : Program} {ops : Array Oper} {Q : Exit → Act → World → Prop} {md : Region.Mode} {S : World → Prop}

/-- It yields in every world that meets S, and is about to make no call there. -/
def YieldsHI (P : Program) (ops : Array Oper) (S : World → Prop) (o : Oper) (v : Value) (a : Act) : Prop := YieldsIf P ops S o v a ∧ ∀ w, S w → o.about P w a.eval = none

theorem YieldsHI.wpOpIn {i : Nat} {o : Oper} {v : Value} {a : Act} (hro : F.round = none) (hi : ops[i]? = some o) (hy : YieldsHI P ops S o v a)
    {K : Act → World → Prop} {w : World} (hS : S w) (h : K (a.put o.dst v) w) : Go.wpOpIn F n P ops Q i K a w := by
  unfold Go.wpOpIn
  simp only [hi]
  have hab : ∀ f, o.about P w a.eval = some f → F.fn f := fun f hf => by rw [hy.2 w hS] at hf; cases hf
  rcases hy.1 with ⟨hw, hv⟩ | ⟨hw, rfl⟩
  · simp only [hw, if_true, Oper.wpIn, hro, Oper.semAt_none, hv w hS, Oper.uponIn]; exact ⟨hab, h⟩
  · simp only [hw, Bool.false_eq_true, if_false]; exact ⟨hab, h⟩

theorem YieldsHI.of_same {o : Oper} {v : Value} {a a' : Act} (hy : YieldsHI P ops S o v a) (he : execOp a'.eval o = execOp a.eval o)
    (hw : Region.wanted o (yielded ops a'.tmps) = Region.wanted o (yielded ops a.tmps)) (hb : ∀ w, o.about P w a'.eval = o.about P w a.eval) : YieldsHI P ops S o v a' :=
  ⟨hy.1.of_same he hw, fun w hS => by rw [hb w]; exact hy.2 w hS⟩

theorem wpOpIn_putHI {j : Nat} {oi oj : Oper} {v : Value} (hro : F.round = none) (hj : ops[j]? = some oj) (hap : oi.apart ops oj = true)
    (hsi : ∀ cs b, oi.op ≠ .select cs b) (hsj : ∀ cs b, oj.op ≠ .select cs b)
    (hQ : ∀ c a w, Q (.panic c) (a.put oi.dst v) w → Q (.panic c) a w) {K : Act → World → Prop} {a : Act} {w : World}
    (hy : YieldsHI P ops S oi v a) (h : wpOpIn F n P ops Q j K (a.put oi.dst v) w) :
    wpOpIn F n P ops Q j (fun a' w' => YieldsHI P ops S oi v a' ∧ K (a'.put oi.dst v) w') a w := by
  obtain ⟨h1, h2, h3⟩ := Oper.apart_spec hap
  have keep : ∀ (a : Act), YieldsHI P ops S oi v a → ∀ u, YieldsHI P ops S oi v (a.put oj.dst u) := fun a hy u =>
    hy.of_same (execOp_put oi hsi a oj.dst u h3) (wanted_put oi a oj.dst u h3) (fun w => about_put oi w a oj.dst u h3)
  have keepD : ∀ d, YieldsHI P ops S oi v { a with defers := d :: a.defers } := fun d => hy.of_same rfl rfl (fun _ => rfl)
  unfold wpOpIn at *
  simp only [hj] at *
  rw [wanted_put oj a oi.dst v h1, about_put oj w a oi.dst v h1] at h
  split
  · rename_i hw
    simp only [hw, if_true] at h
    unfold Oper.wpIn at *
    rw [about_put oj w a oi.dst v h1] at h
    refine ⟨h.1, ?_⟩
    have h := h.2
    rw [hro, Oper.semAt_none, execOp_put oj hsj a oi.dst v h1] at h
    rw [hro, Oper.semAt_none]
    generalize (execOp a.eval oj).run P w = r at *
    cases r with
    | ok x w' =>
      cases x <;> simp only [Oper.uponIn] at h ⊢
      case value u => exact ⟨keep a hy u, by rw [← Act.put_comm a v u h2]; exact h⟩
      case skip => exact ⟨keep a hy _, by rw [← Act.put_comm a v undef h2]; exact h⟩
      case defer d =>
        refine ⟨keep _ (keepD d) _, ?_⟩
        rw [← Act.put_comm _ v undef h2, ← Act.put_defers]
        exact h
      case enter f args =>
        refine ⟨h.1, CallsIn.mono h.2 fun e w'' he => ?_⟩
        cases e with
        | returned u => exact ⟨keep a hy u, by rw [← Act.put_comm a v u h2]; exact he⟩
        | panicked c => exact hQ _ _ _ he
        | outgrown => exact he
      case row row args => exact ⟨h.1, RowsIn.mono h.2 fun u w'' he => ⟨keep a hy u, by rw [← Act.put_comm a v u h2]; exact he⟩⟩
      case round l f tmps assign body =>
        refine ⟨h.1, RoundIn.mono h.2 fun e w'' he => ?_⟩
        cases e with
        | returned u => exact ⟨keep a hy u, by rw [← Act.put_comm a v u h2]; exact he⟩
        | panicked c => exact hQ _ _ _ he
        | outgrown => exact he
    | halt x w' =>
      cases x <;> simp only [Oper.uponIn] at h ⊢
      case panic u => exact hQ _ _ _ h
  · rename_i hw
    simp only [hw] at h
    exact ⟨h.1, keep a hy _, by rw [← Act.put_comm a v undef h2]; exact h.2⟩

/-- Whatever order is picked, S holding behind every operation that is carried out ahead of i0; behind i0 nothing is asked. -/
def wpAnyHI (F : Fence) (n : Nat) (P : Program) (md : Region.Mode) (ops : Array Oper) (Q : Exit → Act → World → Prop) (S : World → Prop) (i0 : Nat) : Nat → Array Bool → Act → World → Prop
  | 0, listed, a, w => Region.ready md ops listed = [] ∧ Q .normal a w
  | fuel + 1, listed, a, w =>
    (Region.ready md ops listed = [] → Q .normal a w) ∧
    ∀ i ∈ Region.ready md ops listed, wpOpIn F n P ops Q i (fun a' w' => if i = i0 then wpAnyIn F n P md ops Q fuel (listed.setIfInBounds i true) a' w' else S w' ∧ wpAnyHI F n P md ops Q S i0 fuel (listed.setIfInBounds i true) a' w') a w

theorem wpAnyIn_of_held {i0 : Nat} : ∀ (fuel : Nat) (listed : Array Bool) (a : Act) (w : World), wpAnyHI F n P md ops Q S i0 fuel listed a w → wpAnyIn F n P md ops Q fuel listed a w
  | 0, _, _, _, h => h
  | fuel + 1, _, _, _, h => ⟨h.1, fun i hi => wpOpIn_mono (fun a' w' h' => by
      split at h'
      · exact h'
      · exact wpAnyIn_of_held fuel _ a' w' h'.2) (h.2 i hi)⟩

/-- The chain C, none of it listed, leads from i to i0: while i waits, nothing of C but i comes up, and i0 does not. -/
def Chain (md : Region.Mode) (ops : Array Oper) (i i0 : Nat) (C : List Nat) : Prop :=
  (∀ c ∈ C, c = i ∨ ∃ o, ops[c]? = some o ∧ ∃ e ∈ o.after, Region.binds md e = true ∧ e.on ∈ C) ∧ ∃ o, ops[i0]? = some o ∧ ∃ e ∈ o.after, Region.binds md e = true ∧ e.on ∈ C

def chainB (md : Region.Mode) (ops : Array Oper) (i i0 : Nat) (C : List Nat) : Bool :=
  C.all (fun c => c == i || (match ops[c]? with | some o => o.after.toList.any (fun e => Region.binds md e && C.contains e.on) | none => false)) &&
    (match ops[i0]? with | some o => o.after.toList.any (fun e => Region.binds md e && C.contains e.on) | none => false)

theorem dep_spec {md : Region.Mode} {ops : Array Oper} {c : Nat} {C : List Nat} (h : (match ops[c]? with | some o => o.after.toList.any (fun e => Region.binds md e && C.contains e.on) | none => false) = true) :
    ∃ o, ops[c]? = some o ∧ ∃ e ∈ o.after, Region.binds md e = true ∧ e.on ∈ C := by
  cases ho : ops[c]? with
  | none => rw [ho] at h; simp at h
  | some o =>
    rw [ho] at h
    simp only [List.any_eq_true, Bool.and_eq_true] at h
    obtain ⟨e, he, h1, h2⟩ := h
    exact ⟨o, rfl, e, by simpa using he, h1, by simpa using h2⟩

theorem chain_spec {i i0 : Nat} {C : List Nat} (h : chainB md ops i i0 C = true) : Chain md ops i i0 C := by
  unfold chainB at h
  rw [Bool.and_eq_true] at h
  refine ⟨fun c hc => ?_, dep_spec h.2⟩
  have h1 := List.all_eq_true.1 h.1 c hc
  rw [Bool.or_eq_true] at h1
  rcases h1 with h1 | h1
  · exact .inl (by simpa using h1)
  · exact .inr (dep_spec h1)

/-- Whoever waits for one of the unlisted is not ready. -/
theorem not_ready {C : List Nat} {c : Nat} {listed : Array Bool} (hC : ∀ k ∈ C, listed.getD k true = false) (h : ∃ o, ops[c]? = some o ∧ ∃ e ∈ o.after, Region.binds md e = true ∧ e.on ∈ C) : c ∉ Region.ready md ops listed := by
  intro hc
  obtain ⟨o, ho, e, he, hb, hon⟩ := h
  obtain ⟨_, o', ho', hall⟩ := mem_ready.1 hc
  rw [ho] at ho'
  obtain rfl : o = o' := by simpa using ho'
  have h1 := hall e he hb
  have h2 := hC _ hon
  rcases Nat.lt_or_ge e.on listed.size with h' | h'
  · simp [h'] at h1 h2; rw [h1] at h2; cases h2
  · simp [Array.getElem?_eq_none h'] at h1 h2

theorem wpAnyHI_first {i i0 : Nat} {C : List Nat} {oi : Oper} {v : Value} (hro : F.round = none) (hi : ops[i]? = some oi) (hsel : ∀ (j : Nat) (o : Oper) cs b, ops[j]? = some o → o.op ≠ .select cs b)
    (hQ : ∀ c a w, Q (.panic c) (a.put oi.dst v) w → Q (.panic c) a w) (hii : i ≠ i0) (hch : Chain md ops i i0 C) :
    ∀ (fuel : Nat) (listed : Array Bool) (a : Act) (w : World),
      (∀ j oj, ops[j]? = some oj → j ≠ i → listed.getD j true = false → (∀ e ∈ oj.after, Region.binds md e = true → e.on ≠ i) → oi.apart ops oj = true) →
      (∀ k ∈ C, listed.getD k true = false) →
      i ∈ Region.ready md ops listed → YieldsHI P ops S oi v a → S w →
      wpAnyHI F n P md ops Q S i0 fuel (listed.setIfInBounds i true) (a.put oi.dst v) w → wpAnyHI F n P md ops Q S i0 (fuel + 1) listed a w := by
  intro fuel
  induction fuel with
  | zero =>
    intro listed a w _ _ hr hy hS H
    refine ⟨fun h => (by rw [h] at hr; cases hr), fun j hj => ?_⟩
    by_cases hji : j = i
    · subst hji; exact hy.wpOpIn hro hi hS (by rw [if_neg hii]; exact ⟨hS, H⟩)
    · have := ready_mono hj hji
      rw [H.1] at this
      cases this
  | succ fuel ih =>
    intro listed a w hfree hC hr hy hS H
    refine ⟨fun h => (by rw [h] at hr; cases hr), fun j hj => ?_⟩
    by_cases hji : j = i
    · subst hji; exact hy.wpOpIn hro hi hS (by rw [if_neg hii]; exact ⟨hS, H⟩)
    · have h1 := H.2 j (ready_mono hj hji)
      have hj0 : j ≠ i0 := by rintro rfl; exact not_ready hC hch.2 hj
      have hjC : j ∉ C := fun hc => by
        rcases hch.1 j hc with e | e
        · exact hji e
        · exact not_ready hC e hj
      obtain ⟨hjun, oj, hoj, hall⟩ := mem_ready.1 hj
      have hnot : ∀ e ∈ oj.after, Region.binds md e = true → e.on ≠ i := fun e he hb heq => by
        have h1 := hall e he hb
        have h0 := (mem_ready.1 hr).1
        rw [heq] at h1
        rcases Nat.lt_or_ge i listed.size with h' | h'
        · simp [h'] at h0 h1; rw [h0] at h1; cases h1
        · simp [Array.getElem?_eq_none h'] at h1
      have h2 := wpOpIn_putHI hro hoj (hfree j oj hoj hji hjun hnot) (fun cs b => hsel i oi cs b hi) (fun cs b => hsel j oj cs b hoj) hQ hy h1
      have hfree' : ∀ k ok, ops[k]? = some ok → k ≠ i → (listed.setIfInBounds j true).getD k true = false →
          (∀ e ∈ ok.after, Region.binds md e = true → e.on ≠ i) → oi.apart ops ok = true := fun k ok hk hki hun hno => by
        refine hfree k ok hk hki ?_ hno
        by_cases hjk : j = k
        · subst hjk; exact hjun
        · rw [getD_set_ne true hjk] at hun; exact hun
      have hC' : ∀ k ∈ C, (listed.setIfInBounds j true).getD k true = false := fun k hk => by
        rw [getD_set_ne true (fun e => hjC (by rw [e]; exact hk))]
        exact hC k hk
      refine wpOpIn_mono (fun a' w' h3 => ?_) h2
      have h4 := h3.2
      rw [if_neg hj0] at h4
      rw [if_neg hj0]
      refine ⟨h4.1, ih (listed.setIfInBounds j true) a' w' hfree' hC' (ready_mono hr (Ne.symm hji)) h3.1 h4.1 ?_⟩
      rw [Array.setIfInBounds_comm _ _ hji]
      exact h4.2

theorem wpAnyHI_take {i i0 : Nat} (C : List Nat) {oi : Oper} {v : Value} {fuel : Nat} {listed : Array Bool} {a : Act} {w : World} (hro : F.round = none) (hi : ops[i]? = some oi)
    (hs : Region.noSelect ops = true) (hf : Region.free md ops listed i = true) (hr : (Region.ready md ops listed).contains i = true) (hc : (i != i0 && chainB md ops i i0 C && C.all (fun k => !listed.getD k true)) = true)
    (hQ : ∀ c a w, Q (.panic c) (a.put oi.dst v) w → Q (.panic c) a w) (hy : YieldsHI P ops S oi v a) (hS : S w)
    (h : wpAnyHI F n P md ops Q S i0 fuel (listed.setIfInBounds i true) (a.put oi.dst v) w) : wpAnyHI F n P md ops Q S i0 (fuel + 1) listed a w := by
  simp only [Bool.and_eq_true] at hc
  exact wpAnyHI_first hro hi (Region.noSelect_spec hs) hQ (by simpa using hc.1.1) (chain_spec hc.1.2) fuel listed a w (Region.free_spec hi hf) (fun k hk => by simpa using List.all_eq_true.1 hc.2 k hk) (by simpa using hr) hy hS h

/-- Now i0, and nothing else. -/
theorem wpAnyHI_one {i0 : Nat} {o : Oper} {fuel : Nat} {listed : Array Bool} {a : Act} {w : World} (hr : Region.ready md ops listed = [i0]) (ho : ops[i0]? = some o)
    (h : ∀ K : Act → World → Prop, Hid (∀ a' w', wpAnyIn F n P md ops Q fuel (listed.setIfInBounds i0 true) a' w' → K a' w') → if Region.wanted o (yielded ops a.tmps) = true then Oper.wpIn F n P o a w K Q else (∀ f, o.about P w a.eval = some f → F.fn f) ∧ K (a.put o.dst undef) w) : wpAnyHI F n P md ops Q S i0 (fuel + 1) listed a w :=
  ⟨fun h0 => absurd (hr ▸ h0) (by simp), by
    rw [hr]
    intro j hj
    simp only [List.mem_singleton] at hj
    subst hj
    unfold wpOpIn
    rw [ho]
    exact h _ (Lib.hid fun _ _ h1 => by rw [if_pos rfl]; exact h1)⟩

theorem wpAnyHI_done {i0 : Nat} {listed : Array Bool} {a : Act} {w : World} (hr : Region.ready md ops listed = []) (h : Q .normal a w) :
    ∀ fuel, wpAnyHI F n P md ops Q S i0 fuel listed a w
  | 0 => ⟨hr, h⟩
  | _ + 1 => ⟨fun _ => h, by rw [hr]; simp⟩

theorem wpIn_region_held {id : Nat} {a : Act} {w : World} (hm : P.follows .mixedOrders = true) (S : World → Prop) (i0 : Nat)
    (h : wpAnyHI F n P .any ops Q S i0 ops.size (Array.replicate ops.size false) a { w with drawn := w.drawn + 1 }) : (Code.region id ops true).wpIn F n P Q a w :=
  wpIn_region_any hm (wpAnyIn_of_held _ _ _ _ h)
end

end Go.Proofs.Ythpjnbnheagpiaa
