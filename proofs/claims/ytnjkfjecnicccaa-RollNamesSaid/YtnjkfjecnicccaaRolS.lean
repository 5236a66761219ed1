/- Bytes of both. Conditions: none. Printed by gen_rols.py. -/
import Derived.Test.YtnjkfjecnicccaaRolR
import Derived.Lib.AppendStr
namespace Go.Proofs.Ytnjkfjecnicccaa
open Go.RowKit Go.Suf
set_option linter.unusedVariables false
set_option linter.unusedSimpArgs false


/-- Bytes that read as xs, in a block of bytes. -/
structure RdT (w : World) (a : Option Addr) (n cap : Nat) (xs : List Nat) : Prop where
  rd : Rd .u8 w a n cap xs
  blk : ∃ b off C f, a = some ⟨b, off, none⟩ ∧ w.heap[b]? = some (.cells C 5 f)

theorem RdT.lt {w : World} {a : Option Addr} {n cap : Nat} {xs : List Nat} (h : RdT w a n cap xs) : ∃ b off, a = some ⟨b, off, none⟩ ∧ b < w.heap.size := by
  obtain ⟨b, off, C, f, rfl, hb⟩ := h.blk
  exact ⟨b, off, rfl, (Array.getElem?_eq_some_iff.1 hb).1⟩

/-- Where the block is as it was, the bytes read as they read. -/
theorem RdT.moved {w w' : World} {a : Option Addr} {n cap : Nat} {xs : List Nat} (h : RdT w a n cap xs) (hk : ∀ b off, a = some ⟨b, off, none⟩ → w'.heap[b]? = w.heap[b]?) : RdT w' a n cap xs := by
  obtain ⟨b, off, C, f, rfl, hb⟩ := h.blk
  have e := hk b off rfl
  refine ⟨⟨h.rd.len, ⟨h.rd.sl.le, h.rd.sl.max, h.rd.sl.nil, ?_, h.rd.sl.one⟩, h.rd.bd⟩, b, off, C, f, rfl, by rw [e]; exact hb⟩
  intro i c hc
  obtain ⟨b', off', ea, hw⟩ := h.rd.sl.cell i c hc
  obtain ⟨rfl, rfl⟩ : b = b' ∧ off = off' := by simpa using ea
  refine ⟨b, off, rfl, ?_⟩
  rw [World.cell?_of_block (w := w) e]
  exact hw

theorem RdT.below {w w' : World} {a : Option Addr} {n cap : Nat} {xs : List Nat} (h : RdT w a n cap xs) (hb : Below w.heap.size w w') : RdT w' a n cap xs := by
  obtain ⟨b, off, rfl, hlt⟩ := h.lt
  exact h.moved fun b' off' e => by
    obtain ⟨rfl, rfl⟩ : b = b' ∧ off = off' := by simpa using e
    exact hb.block _ hlt

theorem RdT.kept {base : Nat} {w w' : World} {a : Option Addr} {n cap n' : Nat} {xs : List Nat} {v : Value} {vs : List Value} (h : RdT w a n cap xs) (hv : w.ownsRow base 34 1 v n' vs) (hg : w.grownBy w' v.ownBlock) : RdT w' a n cap xs := by
  obtain ⟨b, off, C, f, rfl, hb⟩ := h.blk
  refine h.moved fun b' off' e => ?_
  obtain ⟨rfl, rfl⟩ : b = b' ∧ off = off' := by simpa using e
  refine hg.block b (Array.getElem?_eq_some_iff.1 hb).1 ?_
  intro e
  rcases hv.2 with ⟨rfl, _⟩ | ⟨g, c, cur, rfl, _, hh, _⟩
  · simp [Value.ownBlock] at e
  · simp [Value.ownBlock] at e
    subst e
    rw [hb] at hh
    simp at hh

/-- A list of byte strings: the row in memory of the call's own, its strings in blocks of bytes. -/
structure OwT (base : Nat) (w : World) (a : Option Addr) (n cap : Nat) (xss : List (List Nat)) : Prop where
  len : xss.length = n
  row : ∃ vs : List Value, w.ownsRow base 34 1 (.slice a n cap) n vs ∧ (∀ u ∈ vs, u.oneCell' = true) ∧ ∀ i, i < n → ∃ b m c, vs[i]? = some (.slice b m c) ∧ RdT w b m c (lth xss i)

section
variable {base : Nat} {w w' : World} {a : Option Addr} {n cap : Nat} {xss : List (List Nat)}

theorem OwT.below (h : OwT base w a n cap xss) (hb : Below w.heap.size w w') : OwT base w' a n cap xss := by
  obtain ⟨vs, hv, ho, hi⟩ := h.row
  exact ⟨h.len, vs, own_below hv hb, ho, fun i hn => by obtain ⟨b, m, c, h1, h2⟩ := hi i hn; exact ⟨b, m, c, h1, h2.below hb⟩⟩

theorem OwT.rd (h : OwT base w a n cap xss) : RdL w a n cap xss := by
  obtain ⟨vs, hv, ho, hi⟩ := h.row
  have hl : vs.length = n := by have := hv.1; simpa using this
  refine ⟨h.len, vs, hl, ?_, fun i hn => by obtain ⟨b, m, c, h1, h2⟩ := hi i hn; exact ⟨b, m, c, h1, h2.rd⟩⟩
  subst hl
  exact sl_of_own hv ho

theorem OwT.snoc {ys : List Nat} {b : Option Addr} {m c c' : Nat} {a2 : Option Addr} {vs : List Value} (hl : xss.length = n) (h1 : w'.ownsRow base 34 1 (.slice a2 (n + 1) c') (n + 1) (vs ++ [.slice b m c])) (hv : vs.length = n) (ho : ∀ u ∈ vs, u.oneCell' = true)
    (hi : ∀ i, i < n → ∃ b m c, vs[i]? = some (.slice b m c) ∧ RdT w' b m c (lth xss i)) (hy : RdT w' b m c ys) : OwT base w' a2 (n + 1) c' (xss ++ [ys]) := by
  refine ⟨by simp [hl], vs ++ [.slice b m c], h1, fun u hu => ?_, fun i hin => ?_⟩
  · rw [List.mem_append] at hu
    rcases hu with hu | hu
    · exact ho u hu
    · simp at hu; subst hu; rfl
  · by_cases h : i < n
    · obtain ⟨b', m', c1, e1, e2⟩ := hi i h
      exact ⟨b', m', c1, by rw [List.getElem?_append_left (by omega)]; exact e1, by rw [lth_append_left (by omega)]; exact e2⟩
    · obtain rfl : i = n := by omega
      exact ⟨b, m, c, by rw [List.getElem?_append_right (by omega)]; simp [hv], by subst hl; rw [lth_append_one]; exact hy⟩
end


/-- The append of one's own slice, as one operation of a region. -/
theorem op_app {P : Program} {o : Oper} {a : Act} {w : World} {K : Act → World → Prop} {Q : Exit → Act → World → Prop} (s x : Operand) (t : TypeId)
    (ho : o.op = .call { callee := .builtin .append, args := #[s, x], argTypes := #[t, t] }) {e : TypeId} {z : Value} {bs : Nat} (T : ET P t e z bs)
    (base : Nat) {a1 : Option Addr} {n1 cap1 : Nat} {cs : List Value} (hs : a.eval s = .slice a1 n1 cap1) (hown : w.ownsRow base e 1 (.slice a1 n1 cap1) n1 cs)
    {ad : Addr} {n2 cap2 : Nat} {ds : List Value} (hx : a.eval x = .slice (some ad) n2 cap2) (hn2 : ds.length = n2) (hsl : Sl w (some ad) cap2 ds)
    (hm : n1 + n2 ≤ maxLen) (hbytes : (n1 + n2) * bs ≤ 140737488355328) (hbase : base ≤ w.heap.size)
    (h : ∀ a' cap' w', w'.ownsRow base e 1 (.slice a' (n1 + n2) cap') (n1 + n2) (cs ++ ds) → w.grownBy w' (Value.ownBlock (.slice a1 n1 cap1)) → Below base w w' →
      K (a.put o.dst (.slice a' (n1 + n2) cap')) w') : o.wp P a w K Q := by
  obtain ⟨i, hi, hz, h1, hby⟩ := T.info
  have below : ∀ {w'}, w.grownBy w' (Value.ownBlock (.slice a1 n1 cap1)) → Below base w w' := fun hg =>
    (Below.refl base w).grown hg hbase (fun k hk => (hown.lt k hk).1)
  refine wp_append_own w s x t ho base e i z 1 bs T.ht hi hz h1 hby T.hz (by decide) _ n1 cs hs hown ad n2 cap2 ds hx (by omega) (hsl.adds rfl) hsl.one hm hbytes hbase ?_
  intro v' w' hown' hg _
  rcases hown'.2 with ⟨hv, hn⟩ | ⟨g, cap', cur, hv, _⟩
  · subst hv
    have : n1 + n2 = 0 := hn
    have h' := h none 0 w' (by rw [this] at hown' ⊢; exact hown') hg (below hg)
    rw [this] at h'
    exact h'
  · subst hv
    exact h _ _ w' hown' hg (below hg)



theorem strCells_nums (s : ByteArray) : Lib.strCells s = nums .u8 (byts s) := by simp [Lib.strCells, nums, byts]

theorem infoB : ∃ i, Try.prog.info? 5 = some i ∧ i.zero = some (.int .u8 0) ∧ i.size = 1 ∧ i.bytes = 1 := by
  obtain ⟨i, hi, hz, h1, hby⟩ := ET.info etB
  exact ⟨i, hi, hz, h1, hby⟩

/-- 'append(b, s...)': b the call's own, s a string. -/
theorem op_appS {o : Oper} {a : Act} {w : World} {K : Act → World → Prop} {Q : Exit → Act → World → Prop} (s x : Operand)
    (ho : o.op = .call { callee := .builtin .append, args := #[s, x], argTypes := #[34, 9] })
    (base : Nat) {a1 : Option Addr} {n1 cap1 : Nat} {xs : List Nat} (hs : a.eval s = .slice a1 n1 cap1) (hown : Ow .u8 5 base w a1 n1 cap1 xs) (hp : 0 < n1)
    (t : ByteArray) (hx : a.eval x = .string t) (hm : n1 + t.size ≤ 1099511627776) (hbase : base ≤ w.heap.size)
    (h : ∀ a' cap' w', Ow .u8 5 base w' a' (n1 + t.size) cap' (xs ++ byts t) → Below base w w' → K (a.put o.dst (.slice a' (n1 + t.size) cap')) w') : o.wp Try.prog a w K Q := by
  obtain ⟨i, hi, hz, h1, hby⟩ := infoB
  obtain ⟨v', w', hr, h2, h3, h4⟩ := Lib.run_append_own_string (P := Try.prog) w base 34 9 o.type 5 i Try.underlying34 Try.underlying9 hi hz h1 hby _ n1 (nums .u8 xs) hown.own t (by unfold maxLen; omega) (by omega) hbase
  unfold Oper.wp execOp
  simp only [ho, resolve, invoke, builtin, Sem.run_bind, Sem.run_pure, Result.andThen_ok, List.map_toArray, List.map_cons, List.map_nil, hs, hx, hr]
  have hbl : Below base w w' := (Below.refl base w).grown h3 hbase (fun k hk => (hown.own.lt k hk).1)
  rw [strCells_nums, show nums .u8 xs ++ nums .u8 (byts t) = nums .u8 (xs ++ byts t) by simp [nums]] at h2
  rcases h2.2 with ⟨hv, hn⟩ | ⟨g, cap', cur, hv, _⟩
  · omega
  · subst hv
    exact h _ _ w' ⟨by rw [List.length_append, hown.len, byts_length], h2, append_lt hown.bd (byts_lt t)⟩ hbl
theorem wpList_appS {ops : Array Oper} {rest : List Oper} {o : Oper} {a : Act} {w : World} {Q : Exit → Act → World → Prop} (hgd : o.guard = none) (s x : Operand)
    (ho : o.op = .call { callee := .builtin .append, args := #[s, x], argTypes := #[34, 9] })
    (base : Nat) {a1 : Option Addr} {n1 cap1 : Nat} {xs : List Nat} (hs : a.eval s = .slice a1 n1 cap1) (hown : Ow .u8 5 base w a1 n1 cap1 xs) (hp : 0 < n1)
    (t : ByteArray) (hx : a.eval x = .string t) (hm : n1 + t.size ≤ 1099511627776) (hbase : base ≤ w.heap.size)
    (h : ∀ a' cap' w', Ow .u8 5 base w' a' (n1 + t.size) cap' (xs ++ byts t) → Below base w w' → wpList Try.prog ops Q rest (a.put o.dst (.slice a' (n1 + t.size) cap')) w') : wpList Try.prog ops Q (o :: rest) a w :=
  wpList_plain hgd fun K hK => op_appS s x ho base hs hown hp t hx hm hbase fun a' c' w' h1 h2 => hK _ _ (h a' c' w' h1 h2)

theorem ow_pair (w : World) {p s : Nat} (hp : p < 256) (hs : s < 256) : Ow .u8 5 w.heap.size (w.alloc (.cells #[.int .u8 ((p : Nat) : Int), .int .u8 ((s : Nat) : Int)] 5)) (some ⟨w.heap.size, 0, none⟩) 2 2 [p, s] :=
  ⟨rfl, ⟨rfl, .inr ⟨w.heap.size, 2, #[.int .u8 ((p : Nat) : Int), .int .u8 ((s : Nat) : Int)], rfl, Nat.le_refl _, heap_alloc_new _ _, Nat.le_refl _, by decide, rfl, rfl⟩⟩, fun x hx => by
    simp at hx
    rcases hx with rfl | rfl <;> assumption⟩

theorem ow_rdT {base : Nat} {w : World} {a : Option Addr} {n cap : Nat} {xs : List Nat} (h : Ow .u8 5 base w a n cap xs) (hp : 0 < n) : RdT w a n cap xs := by
  rcases h.own.2 with ⟨hv, hn⟩ | ⟨g, c, cur, hv, _, hh, _⟩
  · omega
  · simp at hv
    obtain ⟨rfl, rfl⟩ := hv
    exact ⟨h.rd, g, 0, cur, (0, 0), rfl, hh⟩

/-- A voter's field, and the encoding. -/
def fldV (v : VQ) : List Nat := [v.pc.toNat, v.st] ++ byts v.nm
def bytesV (vs : List VQ) : List Nat × Int := if chkV vs = 0 then joinX [] (vs.map fldV) else ([], chkV vs)

theorem valid_of {v : VQ} (h : mayV v = true) : (((v.pc.toNat : Nat) : Int) = v.pc ∧ v.pc.toNat < 8) ∧ v.st < 256 ∧ v.nm.size ≤ 40 := by
  simp only [mayV, Bool.and_eq_true, decide_eq_true_eq, Bool.not_eq_true'] at h
  have h0 : v.nm.size ≤ 40 := by
    have := h.1.1.1.1
    simp [oddS] at this
    omega
  omega

theorem sum_fields : ∀ (l : List VQ), (∀ v ∈ l, mayV v = true) → sumF (l.map fldV) ≤ l.length * 44
  | [], _ => by simp [sumF]
  | v :: l, h => by
    have h1 := sum_fields l (fun u hu => h u (List.mem_cons_of_mem _ hu))
    have h2 := (valid_of (h v List.mem_cons_self)).2.2
    have : sumF ((v :: l).map fldV) = 2 + (fldV v).length + sumF (l.map fldV) := by simp [sumF]
    rw [this]
    have : (fldV v).length = 2 + v.nm.size := by simp [fldV]; omega
    rw [this, List.length_cons]
    omega

theorem bytesV_ok {vs : List VQ} (h : chkV vs = 0) : bytesV vs = ((vs.map fldV).flatMap field, 0) := by
  obtain ⟨_, hl, hm⟩ := rise_of h
  unfold bytesV
  rw [if_pos h, joinX_eq _ _ (Nat.zero_le _), if_pos]
  · rfl
  · have := sum_fields vs (fun v hv => by
      obtain ⟨k, hk, rfl⟩ := List.getElem_of_mem hv
      have := hm k hk
      rwa [vth_eq hk] at this)
    simp
    omega

set_option maxRecDepth 100000 in
set_option maxHeartbeats 8000000 in
theorem Bytes_any (w : World) {a : Option Addr} {n cap : Nat} {vs : List VQ} (h : RdV w a n cap vs) :
    Calls Try.prog 16 #[.slice a n cap] w (RetBE w (bytesV vs)) := by
  have HL := Lib.hid h.len
  obtain ⟨r, hr⟩ : ∃ r, r = bytesV vs := ⟨_, rfl⟩
  rw [← hr]
  obtain ⟨ck, hck⟩ : ∃ ck, chkV vs = ck := ⟨_, rfl⟩
  have HC := Lib.hid hck
  have c := Check_any w h
  rw [hck] at c
  clear hck
  go_enter Try.func16, Try.ntmps16
  go_wp2_with fail
  refine c.mono ?_
  rintro e w1 ⟨rfl, hb1⟩
  clear c
  by_cases hc : ck = 0
  case neg =>
    have HE : Hid (r = ([], ck)) := Lib.hid (by rw [hr, bytesV, HC.out, if_neg hc])
    clear hr
    go_wp2_with fail
    go_ret2
    rw [HE.out]
    exact ⟨none, 0, 0, rfl, Ow.nil _ _ _ _, hb1⟩
  subst hc
  have HJ : Hid (r = joinX [] (vs.map fldV)) := Lib.hid (by rw [hr, bytesV, HC.out, if_pos rfl])
  obtain ⟨-, hlen, hmay⟩ := rise_of HC.out
  have hn : n ≤ 64 := by have := HL.out; omega
  have HMAY := Lib.hid hmay
  clear hr hlen hmay
  have hd := h.below hb1
  have hov0 : OwT w1.heap.size w1 none 0 0 ((vs.take 0).map fldV) := ⟨rfl, [], World.ownsRow_nil _ _ _ _, fun u hu => by simp at hu, fun i hi => by omega⟩
  have HB1 := Lib.hid hb1
  go_wp2_with fail
  go_loopw [5, 15] (fun v j wr => ∃ i a' c', i ≤ n ∧ v = .slice a' i c' ∧ j = .int .i64 (i : Nat) ∧ OwT w1.heap.size wr a' i c' ((vs.take i).map fldV) ∧ Below w1.heap.size w1 wr) (fun _ j _ => n - (intOf j).toNat)
  case atStart => exact ⟨0, none, 0, Nat.zero_le _, rfl, rfl, hov0, Below.refl _ _⟩
  clear hov0
  case round =>
    rename_i wr _
    obtain ⟨i, a', c', hi, rfl, rfl, hov, hB⟩ := hrel
    by_cases hlt : i < n
    case neg =>
      obtain rfl : i = n := by omega
      have hall : (vs.take i).map fldV = vs.map fldV := by rw [← HL.out, List.take_length]
      rw [hall] at hov
      have c := Join_any wr hov.rd (fun xs hxs => by
        obtain ⟨v, hv, rfl⟩ := List.mem_map.1 hxs
        obtain ⟨k, hk, rfl⟩ := List.getElem_of_mem hv
        have hm := HMAY.out k hk
        rw [vth_eq hk] at hm
        have := (valid_of hm).2.2
        simp [fldV]
        omega)
      go_wp2_with fail
      refine c.mono ?_
      rintro e w2 ⟨a2, n2, c2, rfl, ho2, hb2⟩
      have HB := Lib.hid (HB1.out.trans ((hB.trans (hb2.mono hB.size)).mono HB1.out.size))
      have HO := Lib.hid (ho2.base_le (Nat.le_trans HB1.out.size hB.size))
      clear c hov hb2 ho2 hB
      go_wp2_with fail
      go_ret2
      rw [HJ.out]
      exact ⟨_, _, _, rfl, HO.out, HB.out⟩
    case pos =>
      obtain ⟨b, off, rfl, hcc⟩ := (hd.below hB).addr (by omega)
      obtain ⟨k0, k1, k2⟩ := hcc i hlt
      clear hcc
      have hmv := valid_of (HMAY.out i (by rw [HL.out]; exact hlt))
      obtain ⟨v, hv⟩ : ∃ v, vth vs i = v := ⟨_, rfl⟩
      rw [hv] at k0 k1 k2 hmv
      have HV := Lib.hid hv
      clear hv
      obtain ⟨⟨hp1, hp2⟩, hst, hnm⟩ := hmv
      obtain ⟨p, hp⟩ : ∃ p, v.pc.toNat = p := ⟨_, rfl⟩
      rw [hp] at hp1 hp2
      have HP := Lib.hid hp
      have hwp : IntKind.u8.wrap ((p : Nat) : Int) = ((p : Nat) : Int) := by rw [IntKind.wrap_u8]; omega
      rw [← hp1] at k1
      have HP1 := Lib.hid hp1
      have hld : ((i : Nat) : Int) < (n : Int) := by omega
      clear hp hp1
      have BA := below_al wr (.cells #[.string v.nm, .int .i64 ((p : Nat) : Int), .int .u8 ((v.st : Nat) : Int)] 32)
      obtain ⟨m0, m1, m2⟩ := vot_cells wr ⟨v.nm, ((p : Nat) : Int), v.st⟩
      simp only at m0 m1 m2
      have hB2 := hB.trans (BA.mono hB.size)
      have hov2 := hov.below BA
      have BP := below_al (wr.alloc (.cells #[.string v.nm, .int .i64 ((p : Nat) : Int), .int .u8 ((v.st : Nat) : Int)] 32)) (.cells #[.int .u8 ((p : Nat) : Int), .int .u8 ((v.st : Nat) : Int)] 5)
      have hpair := ow_pair (wr.alloc (.cells #[.string v.nm, .int .i64 ((p : Nat) : Int), .int .u8 ((v.st : Nat) : Int)] 32)) (p := p) (s := v.st) (by omega) hst
      have hzz : (wr.alloc (.cells #[.string v.nm, .int .i64 ((p : Nat) : Int), .int .u8 ((v.st : Nat) : Int)] 32)).heap.size = wr.heap.size + 1 := World.size_alloc _ _
      have hBase := BP.size
      have m0' := cell_below BP m0
      have m1' := cell_below BP m1
      have m2' := cell_below BP m2
      rw [hzz] at hpair hBase
      have HOV := Lib.hid hov2
      have HB2 := Lib.hid hB2
      have HBP := Lib.hid BP
      have HZZ := Lib.hid hzz
      clear hov hB hov2 hB2 BA BP hzz hd
      go_wp2_with first | refine wpList_store_new rfl 32 _ _ rfl atVot _ _ _ rfl rfl rfl rfl (vot_one ⟨v.nm, ((p : Nat) : Int), v.st⟩) ?_ | (at_builtin; refine wpList_appS rfl _ _ rfl (wr.heap.size + 1) rfl hpair (by omega) v.nm rfl (by omega) hBase ?_; intro a4 c4 w4 ho4 hb4; refine Hid.out ?_)
      have hb04 := HBP.out.trans (by rw [HZZ.out]; exact hb4)
      have hov4 := HOV.out.below hb04
      have hB4 := HB2.out.trans (hb04.mono HB2.out.size)
      have hrT := ow_rdT ho4 (by omega)
      obtain ⟨us, hv, h1, hr⟩ := hov4.row
      have HVL := Lib.hid hv.1
      have HO := Lib.hid hov4.len
      have HT4 := Lib.hid hrT
      have hz4 := hB4.size
      clear hpair hBase m0 m1 m2 m0' m1' m2' hb4 hb04 hov4 hrT ho4 k0 k1 k2
      refine Lib.hid ?_
      go_wp2_with (at_builtin; refine wpList_app rfl _ _ 63 rfl etL w1.heap.size rfl (hv.alloc _) rfl rfl (sl_new w4 _ 34 rfl) (by unfold maxLen; omega) (by omega) (by simp; omega) ?_; intro a5 c5 w5 hown5 hg5 hb5; refine Hid.out ?_)
      have hl1 : us.length = i := by have := HVL.out; simpa using this
      have hO5 : OwT w1.heap.size w5 a5 (i + 1) c5 ((vs.take (i + 1)).map fldV) := by
        have ht : (vs.take (i + 1)).map fldV = (vs.take i).map fldV ++ [[p, v.st] ++ byts v.nm] := by
          have hi' : i < vs.length := by rw [HL.out]; exact hlt
          rw [List.take_succ_eq_append_getElem hi', List.map_append, ← vth_eq hi', HV.out]
          simp [fldV, HP.out]
        rw [ht]
        exact OwT.snoc HO.out hown5 hl1 h1 (fun q hq => by
          obtain ⟨b, m, c, e1, e2⟩ := hr q hq
          exact ⟨b, m, c, e1, (e2.below (below_al _ _)).kept (hv.alloc _) hg5⟩) ((HT4.out.below (below_al _ _)).kept (hv.alloc _) hg5)
      have hB5 := (hB4.trans ((below_al w4 (.cells #[.slice a4 (2 + v.nm.size) c4] 34)).mono hz4)).trans hb5
      have HO5 := Lib.hid hO5
      have HB5 := Lib.hid hB5
      clear hO5 hB5 hown5 hg5 hb5 hB4 hv h1 hr
      refine Lib.hid ?_
      go_wp2_with fail
      go_roundw
      case rel => exact ⟨i + 1, a5, c5, by omega, rfl, by go_num, HO5.out, HB5.out⟩
      case measure => simp [intOf]; omega

end Go.Proofs.Ytnjkfjecnicccaa
