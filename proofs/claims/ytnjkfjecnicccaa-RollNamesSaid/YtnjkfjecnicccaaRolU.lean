/- Add of the document. Conditions: none. -/
import Derived.Test.YtnjkfjecnicccaaRolR
namespace Go.Proofs.Ytnjkfjecnicccaa
open Go.RowKit Go.Suf
set_option linter.unusedVariables false
set_option linter.unusedSimpArgs false

theorem pos_spec (vs : List VQ) (s : ByteArray) : posV vs s ≤ vs.length ∧ (∀ k, k < posV vs s → ltS (vth vs k).nm s = true) ∧ (posV vs s < vs.length → ltS (vth vs (posV vs s)).nm s = false) := by
  unfold posV
  cases h : (List.range vs.length).find? fun i => !ltS (vth vs i).nm s with
  | none =>
    have h1 := List.find?_eq_none.1 h
    refine ⟨by simp, fun k hk => ?_, fun hk => by simp at hk⟩
    have := h1 k (List.mem_range.2 (by simpa using hk))
    simpa using this
  | some i =>
    obtain ⟨h1, j, hj, rfl, h2⟩ := List.find?_eq_some_iff_getElem.1 h
    simp only [List.getElem_range] at *
    refine ⟨Nat.le_of_lt (by simpa using hj), fun k hk => ?_, fun _ => by simpa using h1⟩
    have := h2 k (by simpa using hk)
    simpa using this

def addV (vs : List VQ) (s : ByteArray) (p : Int) : List VQ × Int :=
  if chkV vs = 0 then
    (if mayV ⟨s, p, 1⟩ = true then
      (if isV vs s = true then ([], 240) else if 64 ≤ vs.length then ([], 9) else (vs.take (posV vs s) ++ [⟨s, p, 1⟩] ++ vs.drop (posV vs s), 0))
    else ([], 2))
  else ([], chkV vs)

def outF (vs : List VQ) (v : VQ) (P i : Nat) : List VQ := if P < i then vs.take P ++ [v] ++ (vs.take i).drop P else vs.take i
theorem outF_late {vs : List VQ} {v : VQ} {P i : Nat} (h : P < i) (hi : i < vs.length) : outF vs v P (i + 1) = outF vs v P i ++ [vth vs i] := by
  unfold outF
  rw [if_pos (by omega), if_pos h, List.take_succ_eq_append_getElem hi, List.drop_append_of_le_length (by simp; omega), vth_eq hi]
  simp
theorem outF_at {vs : List VQ} {v : VQ} {i : Nat} (hi : i < vs.length) : outF vs v i (i + 1) = outF vs v i i ++ [v] ++ [vth vs i] := by
  unfold outF
  rw [if_pos (by omega), if_neg (by omega), List.take_succ_eq_append_getElem hi, List.drop_append_of_le_length (by simp; omega), vth_eq hi]
  simp
theorem outF_early {vs : List VQ} {v : VQ} {P i : Nat} (h : i < P) (hi : i < vs.length) : outF vs v P (i + 1) = outF vs v P i ++ [vth vs i] := by
  unfold outF
  rw [if_neg (by omega), if_neg (by omega), List.take_succ_eq_append_getElem hi, vth_eq hi]

set_option maxRecDepth 100000 in
set_option maxHeartbeats 8000000 in
theorem refAdd_any (w : World) {a : Option Addr} {n cap : Nat} {vs : List VQ} (h : RdV w a n cap vs) (s : ByteArray) (p : Int) (hp1 : -9223372036854775808 ≤ p) (hp2 : p ≤ 9223372036854775807) :
    Calls Try.prog 25 #[.slice a n cap, .string s, .int .i64 p] w (RetVE w (addV vs s p)) := by
  have HL := Lib.hid h.len
  obtain ⟨r, hr⟩ : ∃ r, r = addV vs s p := ⟨_, rfl⟩
  rw [← hr]
  obtain ⟨ck, hck⟩ : ∃ ck, chkV vs = ck := ⟨_, rfl⟩
  have HC := Lib.hid hck
  have c := refCheck_any w h
  rw [hck] at c
  clear hck
  go_enter Try.func25, Try.ntmps25
  go_wp2_with fail
  refine c.mono ?_
  rintro e w1 ⟨rfl, hb1⟩
  clear c
  by_cases hc : ck = 0
  case neg =>
    have HE : Hid (r = ([], ck)) := Lib.hid (by rw [hr, addV, HC.out, if_neg hc])
    clear hr
    go_wp2_with fail
    go_ret2
    exact RetVE.nil HE.out hb1
  subst hc
  obtain ⟨hR, hlen, -⟩ := rise_of HC.out
  have hn : n ≤ 64 := by have := HL.out; omega
  have BA := below_al w1 (.cells #[.string s, .int .i64 p, .int .u8 1] 32)
  obtain ⟨k0, k1, k2⟩ := vot_cells w1 ⟨s, p, 1⟩
  replace k2 : World.cell? _ _ = some (.int .u8 1) := k2
  have hd := (h.below hb1).below BA
  have hB := hb1.trans (BA.mono hb1.size)
  obtain ⟨o, ho⟩ : ∃ o, mayV ⟨s, p, 1⟩ = o := ⟨_, rfl⟩
  have HO := Lib.hid ho
  have HK := Lib.hid (show w1.heap.size < (w1.alloc (.cells #[.string s, .int .i64 p, .int .u8 1] 32)).heap.size by rw [World.size_alloc]; omega)
  have c := refMay_any (w1.alloc (.cells #[.string s, .int .i64 p, .int .u8 1] 32)) ⟨s, p, 1⟩
  rw [ho] at c
  clear ho BA
  go_wp2_with first | refine wpList_store_new rfl 32 _ _ rfl atVot _ _ _ rfl rfl rfl rfl (vot_one ⟨s, p, 1⟩) ?_
  generalize w1.alloc (.cells #[.string s, .int .i64 p, .int .u8 1] 32) = wa at *
  refine c.mono ?_
  rintro e w2 ⟨rfl, hb2⟩
  clear c
  have k0 := cell_below hb2 k0
  have k1 := cell_below hb2 k1
  have k2 := cell_below hb2 k2
  have hd := hd.below hb2
  have hB := hB.trans (hb2.mono hB.size)
  have hk := Nat.lt_of_lt_of_le HK.out hb2.size
  cases o with
  | false =>
    have HE : Hid (r = ([], 2)) := Lib.hid (by rw [hr, addV, HC.out, if_pos rfl, HO.out]; rfl)
    clear hr
    go_wp2_with fail
    go_ret2
    exact RetVE.nil HE.out hB
  | true =>
    have hf := find_pos hR s
    go_wp2_with fail
    have c := at_any w2 hd s
    by_cases hi : isV vs s = true
    case pos =>
      have HE : Hid (r = ([], 240)) := Lib.hid (by rw [hr, addV, HC.out, if_pos rfl, HO.out, if_pos rfl, if_pos hi])
      rw [if_pos hi] at hf
      rw [atV, hf] at c
      refine c.mono ?_
      rintro e w3 ⟨rfl, hb3⟩
      have hB := hB.trans (hb3.mono hB.size)
      clear c hr hf
      go_wp2_with fail
      go_ret2
      exact RetVE.nil HE.out hB
    case neg =>
      rw [if_neg hi] at hf
      rw [atV, hf] at c
      refine c.mono ?_
      rintro e w3 ⟨rfl, hb3⟩
      have hB := hB.trans (hb3.mono hB.size)
      have k0 := cell_below hb3 k0
      have k1 := cell_below hb3 k1
      have k2 := cell_below hb3 k2
      have hd := hd.below hb3
      have hk := Nat.lt_of_lt_of_le hk hb3.size
      clear c
      by_cases h64 : 64 ≤ n
      case pos =>
        have HE : Hid (r = ([], 9)) := Lib.hid (by rw [hr, addV, HC.out, if_pos rfl, HO.out, if_pos rfl, if_neg hi, if_pos (by rw [HL.out]; exact h64)])
        clear hr hf
        go_wp2_with fail
        go_ret2
        exact RetVE.nil HE.out hB
      case neg =>
        obtain ⟨hp0, hpl, hpg⟩ := pos_spec vs s
        have hnn : ∀ k, k < vs.length → (vth vs k).nm ≠ s := fun k hk e => by
          have := List.find?_eq_none.1 hf k (List.mem_range.2 hk)
          exact this (eqS_iff.2 e)
        obtain ⟨P, hP⟩ : ∃ P, posV vs s = P := ⟨_, rfl⟩
        rw [hP] at hp0 hpl hpg
        have HE : Hid (r = (vs.take P ++ [⟨s, p, 1⟩] ++ vs.drop P, 0)) := Lib.hid (by rw [hr, addV, HC.out, if_pos rfl, HO.out, if_pos rfl, if_neg hi, if_neg (by rw [HL.out]; exact h64), hP])
        have hPn : P ≤ n := by rw [← HL.out]; exact hp0
        have HPL : Hid (∀ k, k < n → k < P → ltS s (vth vs k).nm = false) := Lib.hid fun k _ hk => ltS_asymm (hpl k hk)
        have HPG : Hid (P < n → ltS s (vth vs P).nm = true) := Lib.hid fun hk => by
          have h1 : P < vs.length := by rw [HL.out]; exact hk
          rcases ltS_total (vth vs P).nm s with h | h | h
          · rw [hpg h1] at h; cases h
          · exact absurd h (hnn P h1)
          · exact h
        have hvw : VW ⟨s, p, 1⟩ := ⟨hp1, hp2, by show 1 < 256; decide⟩
        have HB := Lib.hid hB
        have hov0 : OwV w3.heap.size w3 none 0 0 (outF vs ⟨s, p, 1⟩ P 0) := OwV.nil _ _
        have hb0 : decide (P < 0) = false := decide_eq_false (by omega)
        clear hr hf hi hp0 hpl hpg hnn hP hR hlen hB hb1 hb2 hb3
        go_wp2_with fail
        go_loopw [10, 11, 12] (fun v q j wr => ∃ i m a' c', i ≤ n ∧ m ≤ i + 1 ∧ v = .slice a' m c' ∧ q = .bool (decide (P < i)) ∧ j = .int .i64 (i : Nat) ∧ OwV w3.heap.size wr a' m c' (outF vs ⟨s, p, 1⟩ P i) ∧ Below w3.heap.size w3 wr) (fun _ _ j _ => n - (intOf j).toNat)
        case atStart => exact ⟨0, 0, none, 0, Nat.zero_le _, by omega, rfl, by rw [hb0], rfl, hov0, Below.refl _ _⟩
        clear hov0 hb0
        case round =>
          rename_i wr _
          obtain ⟨i, m, a', c', hi, hm, rfl, rfl, rfl, hov, hBr⟩ := hrel
          have hsz := hBr.size
          have k0 := cell_below hBr k0
          have k1 := cell_below hBr k1
          have k2 := cell_below hBr k2
          by_cases hlt : i < n
          case neg =>
            obtain rfl : i = n := by omega
            by_cases hPi : P < i
            case pos =>
              have hpb : decide (P < i) = true := decide_eq_true hPi
              have hx : outF vs ⟨s, p, 1⟩ P i = vs.take P ++ [⟨s, p, 1⟩] ++ vs.drop P := by
                rw [outF, if_pos hPi, ← HL.out, List.take_length]
              rw [hx] at hov
              have HO2 := Lib.hid (hov.base_le HB.out.size)
              have HB2 := Lib.hid (HB.out.trans (hBr.mono HB.out.size))
              clear hov hBr
              go_wp2_with fail
              go_ret2
              rw [HE.out]
              exact ⟨_, _, _, rfl, HO2.out, HB2.out⟩
            case neg =>
              obtain rfl : P = i := by omega
              have hpb : decide (P < P) = false := decide_eq_false (by omega)
              have hx : outF vs ⟨s, p, 1⟩ P P = vs := by rw [outF, if_neg (by omega), ← HL.out, List.take_length]
              have hy : vs.take P ++ [⟨s, p, 1⟩] ++ vs.drop P = vs ++ [⟨s, p, 1⟩] := by rw [← HL.out, List.take_length, List.drop_length, List.append_nil]
              rw [hx] at hov
              have HY := Lib.hid hy
              have ba := below_al wr (.cells #[.string s, .int .i64 p, .int .u8 1] 32)
              have hnew := rdV_new wr ⟨s, p, 1⟩ hvw
              have hov2 := hov.below ba
              have hz2 : w3.heap.size ≤ (wr.alloc (.cells #[.string s, .int .i64 p, .int .u8 1] 32)).heap.size := Nat.le_trans hsz ba.size
              go_wp2_with (at_builtin; refine wpList_appV rfl _ _ rfl w3.heap.size rfl hov2 rfl hnew (by omega) hz2 ?_; intro a5 c5 w5 hov5 hg5 hb5; refine Hid.out ?_)
              have HO2 := Lib.hid (hov5.base_le HB.out.size)
              have HB2 := Lib.hid (HB.out.trans (((hBr.trans (ba.mono hBr.size)).trans hb5).mono HB.out.size))
              clear hov hBr hov2 hnew ba hov5 hg5 hb5
              refine Lib.hid ?_
              go_wp2_with fail
              go_ret2
              rw [HE.out, HY.out]
              exact ⟨_, _, _, rfl, HO2.out, HB2.out⟩
          case pos =>
            obtain ⟨b, off, rfl, hcc⟩ := (hd.below hBr).addr (by omega)
            obtain ⟨e0, e1, e2⟩ := hcc i hlt
            clear hcc
            have hew := hd.w hlt
            have hi2 : i < vs.length := by rw [HL.out]; exact hlt
            by_cases hPi : P < i
            case pos =>
              have hnext : outF vs ⟨s, p, 1⟩ P (i + 1) = outF vs ⟨s, p, 1⟩ P i ++ [vth vs i] := outF_late hPi hi2
              have hpb : decide (P < i) = true := decide_eq_true hPi
              have hpb' : decide (P < i + 1) = true := decide_eq_true (by omega)
              clear hi2
              have ba := below_al wr (.cells #[.string (vth vs i).nm, .int .i64 (vth vs i).pc, .int .u8 (((vth vs i).st : Nat) : Int)] 32)
              have hnew := rdV_new wr (vth vs i) hew
              have hov2 := hov.below ba
              have hz2 : w3.heap.size ≤ (wr.alloc (.cells #[.string (vth vs i).nm, .int .i64 (vth vs i).pc, .int .u8 (((vth vs i).st : Nat) : Int)] 32)).heap.size := Nat.le_trans hsz ba.size
              go_wp2_with (at_builtin; refine wpList_appV rfl _ _ rfl w3.heap.size rfl hov2 rfl hnew (by omega) hz2 ?_; intro a5 c5 w5 hov5 hg5 hb5; refine Hid.out ?_)
              rw [← hnext] at hov5
              have HO2 := Lib.hid hov5
              have HB2 := Lib.hid ((hBr.trans (ba.mono hBr.size)).trans hb5)
              clear hov hBr hov2 hnew ba hov5 hg5 hb5 hnext
              refine Lib.hid ?_
              go_wp2_with fail
              go_roundw
              case rel => exact ⟨i + 1, _, a5, c5, by omega, by omega, rfl, by rw [hpb'], by go_num, HO2.out, HB2.out⟩
              case measure => simp [intOf]; omega
            case neg =>
              have hcmp := leq_ltS (vth vs i).nm s
              by_cases hPe : P = i
              case neg =>
                have hnext : outF vs ⟨s, p, 1⟩ P (i + 1) = outF vs ⟨s, p, 1⟩ P i ++ [vth vs i] := outF_early (by omega) hi2
                have hpb : decide (P < i) = false := decide_eq_false hPi
                have hpb' : decide (P < i + 1) = false := decide_eq_false (by omega)
                have hg1 := HPL.out i hlt (by omega)
                clear hi2
                have ba := below_al wr (.cells #[.string (vth vs i).nm, .int .i64 (vth vs i).pc, .int .u8 (((vth vs i).st : Nat) : Int)] 32)
                have hnew := rdV_new wr (vth vs i) hew
                have hov2 := hov.below ba
                have hz2 : w3.heap.size ≤ (wr.alloc (.cells #[.string (vth vs i).nm, .int .i64 (vth vs i).pc, .int .u8 (((vth vs i).st : Nat) : Int)] 32)).heap.size := Nat.le_trans hsz ba.size
                go_wp2_with (at_builtin; refine wpList_appV rfl _ _ rfl w3.heap.size rfl hov2 rfl hnew (by omega) hz2 ?_; intro a5 c5 w5 hov5 hg5 hb5; refine Hid.out ?_)
                rw [← hnext] at hov5
                have HO2 := Lib.hid hov5
                have HB2 := Lib.hid ((hBr.trans (ba.mono hBr.size)).trans hb5)
                clear hov hBr hov2 hnew ba hov5 hg5 hb5 hnext
                refine Lib.hid ?_
                go_wp2_with fail
                go_roundw
                case rel => exact ⟨i + 1, _, a5, c5, by omega, by omega, rfl, by rw [hpb'], by go_num, HO2.out, HB2.out⟩
                case measure => simp [intOf]; omega
              case pos =>
                have hcmp := leq_ltS (vth vs i).nm s
                have hnext : outF vs ⟨s, p, 1⟩ P (i + 1) = outF vs ⟨s, p, 1⟩ P i ++ [⟨s, p, 1⟩] ++ [vth vs i] := by rw [hPe]; exact outF_at hi2
                have hpb : decide (P < i) = false := decide_eq_false hPi
                have hpb' : decide (P < i + 1) = true := decide_eq_true (by omega)
                have hg1 : ltS s (vth vs i).nm = true := by have := HPG.out (by omega); rwa [hPe] at this
                have hm2 : m ≤ i := by rw [← hov.len, outF, if_neg hPi, List.length_take]; omega
                have HN := Lib.hid hnext
                have HPB := Lib.hid hpb'
                have HI := Lib.hid (show outF vs ⟨s, p, 1⟩ P i = outF vs ⟨s, p, 1⟩ P i from rfl)
                clear hi2 hPe hPi hnext hpb'
                have ba := below_al wr (.cells #[.string s, .int .i64 p, .int .u8 1] 32)
                have hnew := rdV_new wr ⟨s, p, 1⟩ hvw
                have hov2 := hov.below ba
                have hz2 : w3.heap.size ≤ (wr.alloc (.cells #[.string s, .int .i64 p, .int .u8 1] 32)).heap.size := Nat.le_trans hsz ba.size
                go_wp2_with (at_builtin; refine wpList_appV rfl _ _ rfl w3.heap.size rfl hov2 rfl hnew (by omega) hz2 ?_; intro a5 c5 w5 hov5 hg5 hb5; refine Hid.out ?_)
                have hBr := (hBr.trans (ba.mono hBr.size)).trans hb5
                have hsz := hBr.size
                have HV := Lib.hid (hd.below hBr)
                clear hov hov2 hnew ba hb5 hg5 hz2 e0 e1 e2 hcmp hg1 hpb
                obtain ⟨b', off', he', hcc⟩ := HV.out.addr (by omega)
                obtain ⟨rfl, rfl⟩ : b = b' ∧ off = off' := by simpa using he'
                obtain ⟨e0, e1, e2⟩ := hcc i hlt
                clear hcc he' HV
                have ba := below_al w5 (.cells #[.string (vth vs i).nm, .int .i64 (vth vs i).pc, .int .u8 (((vth vs i).st : Nat) : Int)] 32)
                have hnew := rdV_new w5 (vth vs i) hew
                have hov2 := hov5.below ba
                have hz2 : w3.heap.size ≤ (w5.alloc (.cells #[.string (vth vs i).nm, .int .i64 (vth vs i).pc, .int .u8 (((vth vs i).st : Nat) : Int)] 32)).heap.size := Nat.le_trans hsz ba.size
                clear hov5
                refine Lib.hid ?_
                go_wp2_with (at_builtin; refine wpList_appV rfl _ _ rfl w3.heap.size rfl hov2 rfl hnew (by omega) hz2 ?_; intro a6 c6 w6 hov6 hg6 hb6; refine Hid.out ?_)
                rw [← HN.out] at hov6
                have HO2 := Lib.hid hov6
                have HB2 := Lib.hid ((hBr.trans (ba.mono hBr.size)).trans hb6)
                clear hBr hov2 hnew ba hov6 hg6 hb6
                refine Lib.hid ?_
                go_wp2_with fail
                go_roundw
                case rel => exact ⟨i + 1, _, a6, c6, by omega, by omega, rfl, by rw [HPB.out], by go_num, HO2.out, HB2.out⟩
                case measure => simp [intOf]; omega

end Go.Proofs.Ytnjkfjecnicccaa
