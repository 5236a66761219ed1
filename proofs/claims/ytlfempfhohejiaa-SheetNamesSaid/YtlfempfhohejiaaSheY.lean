/- Plain laws for the statements about readings. No program in sight. -/
import Derived.Test.YtlfempfhohejiaaSheX
namespace Go.Proofs.Ytlfempfhohejiaa
open Go.RowKit Go.Suf
set_option linter.unusedVariables false
set_option linter.unusedSimpArgs false

theorem fillC_good {nm : ByteArray} {ss : List ByteArray} {seats : Int} {rule kd : Nat} {ms : List Int} {fx : List Nat} (h : fillC nm ss seats rule kd ms = (fx, 0)) : checkC nm ss seats rule = 0 ∧ fitsB ss rule kd ms = true ∧ fx = fillI kd ss.length (boxesN ss rule) ms ms.length := by
  unfold fillC at h
  by_cases h1 : checkC nm ss seats rule = 0
  · rw [if_pos h1] at h
    by_cases h2 : fitsB ss rule kd ms = true
    · rw [if_pos h2] at h
      exact ⟨h1, h2, (congrArg Prod.fst h).symm⟩
    · rw [if_neg h2] at h
      exact absurd (show (8 : Int) = 0 from congrArg Prod.snd h) (by decide)
  · rw [if_neg h1] at h
    exact absurd (congrArg Prod.snd h) h1
theorem fillC_bad {nm : ByteArray} {ss : List ByteArray} {seats : Int} {rule kd : Nat} {ms : List Int} {fx : List Nat} {e : Int} (h : fillC nm ss seats rule kd ms = (fx, e)) (he : ¬ e = 0) : fx = [] := by
  unfold fillC at h
  by_cases h1 : checkC nm ss seats rule = 0
  · rw [if_pos h1] at h
    by_cases h2 : fitsB ss rule kd ms = true
    · rw [if_pos h2] at h
      exact absurd (congrArg Prod.snd h).symm he
    · rw [if_neg h2] at h
      exact (congrArg Prod.fst h).symm
  · rw [if_neg h1] at h
    exact (congrArg Prod.fst h).symm
theorem read_back {nm : ByteArray} {ss : List ByteArray} {seats : Int} {rule kd : Nat} {ms : List Int} {fx : List Nat} {p : PQ} (h : fillC nm ss seats rule kd ms = (fx, 0)) : fx.length ≤ 110 ∧ readR nm ss seats rule p fx [] = if mayP p = true then (⟨kd, ms, 0, []⟩, 0) else (⟨0, [], 0, []⟩, 2) := by
  obtain ⟨h1, h2, rfl⟩ := fillC_good h
  obtain ⟨g1, g2, g3⟩ := chk_rule h1
  exact ⟨by rw [fillI_len]; exact boxes_le g1, readR_back h1 g2 g1 h2⟩
/-- What a reading that went well is. -/
theorem readR_may {nm : ByteArray} {ss : List ByteArray} {seats : Int} {rule : Nat} {p : PQ} {xs : List Nat} {l : List DQ} {kq : Nat} {mq : List Int} {oq : Int} {dq : List Int} (h : readR nm ss seats rule p xs l = (⟨kq, mq, oq, dq⟩, 0)) :
    (isR rule = true ∧ 1 ≤ ss.length ∧ ss.length ≤ 10) ∧ kq = kindN rule ∧ (kq = 1 ∨ kq = 2 ∨ kq = 3) ∧ fineQ kq mq (ss.length : Nat) = true ∧ 0 ≤ oq ∧ ((mq.length : Nat) : Int) ≤ (if kq = 3 then (ss.length : Int) else marksN rule (ss.length : Nat)) ∧ dq = dbtL p xs l xs.length := by
  have hg := readR_good (by rw [h])
  rw [readR_eq hg] at h
  obtain ⟨s1, s2⟩ := sheet_ok hg.1
  obtain ⟨g1, g2, g3⟩ := chk_rule s1
  have hb := body_may (rule := rule) (n := ss.length) (p := p) (mk := markL p xs l xs.length) g2 (kind_in g3) (fun e => by
    rw [markL_len, s2]
    unfold boxesN wideN
    rw [e, if_neg (by decide), if_neg (by decide), Nat.mul_one])
  have h1 := congrArg Prod.fst h
  simp only [RQ.mk.injEq] at h1
  obtain ⟨e1, e2, e3, e4⟩ := h1
  have hki := kind_in g3
  rw [e2] at hb
  rw [e3] at hb
  rw [e1] at hb hki
  exact ⟨⟨g3, g2, g1⟩, e1.symm, hki, hb.1, hb.2.1, hb.2.2, e4.symm⟩
theorem readR_zero {nm : ByteArray} {ss : List ByteArray} {seats : Int} {rule : Nat} {p : PQ} {xs : List Nat} {l : List DQ} {kq : Nat} {mq : List Int} {oq : Int} {dq : List Int} {er : Int} (h : readR nm ss seats rule p xs l = (⟨kq, mq, oq, dq⟩, er)) (he : ¬ er = 0) : kq = 0 ∧ mq = [] ∧ oq = 0 ∧ dq = [] := by
  have := readR_bad (nm := nm) (ss := ss) (seats := seats) (rule := rule) (p := p) (xs := xs) (l := l) (by rw [h]; exact he)
  rw [h] at this
  simp only [zeroR, RQ.mk.injEq] at this
  exact this
theorem readR_kd {nm : ByteArray} {ss : List ByteArray} {seats : Int} {rule : Nat} {p : PQ} {xs : List Nat} {l : List DQ} {kq : Nat} {mq : List Int} {oq : Int} {dq : List Int} {er : Int} (h : readR nm ss seats rule p xs l = (⟨kq, mq, oq, dq⟩, er)) : kq < 256 := by
  by_cases he : er = 0
  · subst he
    have := (readR_may h).2.2.1
    omega
  · have := (readR_zero h he).1
    omega
theorem same_true {k : Nat} {ms ds : List Int} {o : Int} : ((decide (k = k) && decide (ms = ms)) && decide (o = o) && decide (ds = ds)) = true := by simp
theorem rev_drop {l : List DQ} {m : Nat} (hm : m < l.length) : (l.drop (m + 1)).reverse ++ [dth l m] = (l.drop m).reverse := by
  rw [List.drop_eq_getElem_cons hm, List.reverse_cons, dth_eq hm]

end Go.Proofs.Ytlfempfhohejiaa
