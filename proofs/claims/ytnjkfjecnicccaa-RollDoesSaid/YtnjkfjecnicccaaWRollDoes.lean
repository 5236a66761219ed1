/- The walk of the law RollDoes: it returns true and turns nothing that was there. No condition. Printed by gen_rollaws.py. -/
import Derived.Test.YtnjkfjecnicccaaRolI
import Derived.BigQuiet
import Derived.Deep.CutRange
namespace Go.Proofs.Ytnjkfjecnicccaa
open Go.RowKit Go.Suf
set_option linter.unusedVariables false
set_option linter.unusedSimpArgs false

set_option maxRecDepth 100000 in
set_option maxHeartbeats 8000000 in
theorem rollDoes_walk (w : World) {a_l : Option Addr} {n_l c_l : Nat} {vs : List VQ} (h_l : RdV w a_l n_l c_l vs) (name : ByteArray) (nl : name.size ≤ maxLen) :
    Calls Try.prog 3 #[.slice a_l n_l c_l, .string name] w fun e w' => e = .returned (.bool true) ∧ Below w.heap.size w w' := by
  have HN := Lib.hid h_l.len
  have B0 : Below w.heap.size w w := Below.refl _ _
  have h_l_0 := h_l
  go_enter Try.func3, Try.ntmps3
  go_wp2_with fail
  obtain ⟨gr, hgr⟩ : ∃ gr, greatV vs = gr := ⟨_, rfl⟩
  have GR := Lib.hid hgr
  clear hgr
  have c := Great_any w h_l_0
  rw [GR.out] at c
  refine c.mono ?_
  rintro e w1 ⟨rfl, hb⟩
  clear c
  have B1 := B0.trans (hb.mono B0.size)
  have h_l_1 := h_l_0.below hb
  clear hb B0 h_l_0
  cases gr with
  | true =>
    go_wp2_with fail
    go_ret
    exact ⟨rfl, B1⟩
  | false =>
    by_cases hbig : 1000 < name.size
    case pos =>
      go_wp2_with fail
      go_ret
      exact ⟨rfl, B1⟩
    have hbi : decide ((name.size : Int) > 1000) = false := decide_eq_false (by omega)
    have hn : n_l ≤ 1099511627776 := by have := great_len GR.out; have := HN.out; omega
    go_wp2_with fail
    have c := twin_any w1 h_l_1 hn
    refine c.mono ?_
    rintro e w2 ⟨a_o, c_o, rfl, h_o_2, hb⟩
    clear c
    have B2 := B1.trans (hb.mono B1.size)
    have h_l_2 := h_l_1.below hb
    clear hb B1 h_l_1
    go_wp2_with fail
    have BT := Below.refl w2.heap.size w2
    go_loopw [6] (fun v wr => ∃ k : Nat, 1 ≤ k ∧ k ≤ 6 ∧ v = .int .i64 (k : Nat) ∧ Below w2.heap.size w2 wr) (fun v _ => 6 - (intOf v).toNat)
    case atStart => exact ⟨1, by decide, by decide, rfl, BT⟩
    clear BT
    case round =>
      rename_i wr _
      obtain ⟨k, hk1, hk2, rfl, BT⟩ := hrel
      by_cases hk : k ≤ 5
      case neg =>
        obtain rfl : k = 6 := by omega
        have hdk : decide (((6 : Nat) : Int) ≤ 5) = false := by decide
        go_wp2_with fail
        have c := Same_any wr (h_o_2.rd.below BT) (h_l_2.below BT)
        rw [show decide (vs = vs) = true from decide_eq_true rfl] at c
        refine c.mono ?_
        rintro e we ⟨rfl, hb⟩
        clear c
        have BE := B2.trans ((BT.trans (hb.mono BT.size)).mono B2.size)
        go_wp2_with fail
        go_ret
        exact ⟨rfl, BE⟩
      case pos =>
        have hdk : decide (((k : Nat) : Int) ≤ 5) = true := decide_eq_true (by omega)
        obtain ⟨r, hr⟩ : ∃ r, opV vs name (wasN ((k : Nat) : Int)) (isN ((k : Nat) : Int)) = r := ⟨_, rfl⟩
        have HR := Lib.hid hr
        clear hr
        have B100 := BT
        have h_l_100 := h_l_2.below BT
        have h_o_100 := h_o_2.below BT
        clear BT
        go_wp2_with fail
        have HZ := Lib.hid B100.size
        have c := does_any wr h_o_100.rd name ((k : Nat) : Int) (by omega) (by omega)
        rw [HR.out] at c
        refine c.mono ?_
        rintro e w101 ⟨a_x, n_x, c_x, rfl, h_x_101, hb⟩
        clear c
        have B101 := B100.trans (hb.mono B100.size)
        have h_l_101 := h_l_100.below hb
        have h_o_101 := h_o_100.below hb
        clear hb B100 h_l_100 h_o_100
        skip
        go_wp2_with fail
        have c := Done_any w101 h_l_101 name ((k : Nat) : Int) (by omega) (by omega)
        rw [HR.out] at c
        refine c.mono ?_
        rintro e w102 ⟨a_y, n_y, c_y, rfl, h_y_102, hb⟩
        clear c
        have B102 := B101.trans (hb.mono B101.size)
        have h_l_102 := h_l_101.below hb
        have h_o_102 := h_o_101.below hb
        have h_x_102 := h_x_101.below hb
        clear hb B101 h_l_101 h_o_101 h_x_101
        go_wp2_with fail
        have c := Same_any w102 h_x_102.rd h_y_102.rd
        rw [show decide (r.1 = r.1) = true from decide_eq_true rfl] at c
        refine c.mono ?_
        rintro e w103 ⟨rfl, hb⟩
        clear c
        have B103 := B102.trans (hb.mono B102.size)
        have h_l_103 := h_l_102.below hb
        have h_o_103 := h_o_102.below hb
        have h_x_103 := h_x_102.below hb
        have h_y_103 := h_y_102.below hb
        clear hb B102 h_l_102 h_o_102 h_x_102 h_y_102
        go_wp2_with fail
        have BT := B103
        clear B103 h_l_103 h_o_103 h_y_103
        have hn_x := h_x_103.rd.lt
        have hg0 : 0 < n_x → ∃ g cur, a_x = some ⟨g, 0, none⟩ ∧ w2.heap.size ≤ g ∧ w103.heap[g]? = some (.cells cur 32 (0, 0)) ∧ n_x * 3 ≤ cur.size := by
          intro hp
          obtain ⟨g, cur, e, hgl, hgh, hnc, -, hsz, -⟩ := h_x_103.row hp
          exact ⟨g, cur, e, Nat.le_trans HZ.out hgl, hgh, by rw [hsz]; omega⟩
        go_loopw [11] (fun j wr => ∃ i, i ≤ n_x ∧ j = .int .i64 (i : Nat) ∧ Below w2.heap.size w2 wr ∧ (0 < n_x → ∃ g cur, a_x = some ⟨g, 0, none⟩ ∧ w2.heap.size ≤ g ∧ wr.heap[g]? = some (.cells cur 32 (0, 0)) ∧ n_x * 3 ≤ cur.size)) (fun j _ => n_x - (intOf j).toNat)
        case atStart => exact ⟨0, Nat.zero_le _, rfl, BT, hg0⟩
        clear hg0 BT
        case round =>
          rename_i wr _
          obtain ⟨i, hi, rfl, BT, hg⟩ := hrel
          by_cases hlt : i < n_x
          case pos =>
            obtain ⟨g, cur, rfl, hgl, hgh, hgn⟩ := hg (by omega)
            have kx : wr.cell? ⟨g, i * 3 + 2, none⟩ = some (cur[i * 3 + 2]'(by omega)) := by
              simp only [World.cell?, hgh]
              exact Array.getElem?_eq_getElem (by omega)
            have fx : wr.frozen? ⟨g, i * 3 + 2, none⟩ = false := frozen_of_row wr g _ _ _ hgh
            go_wp2_with fail
            go_roundw
            case rel => exact ⟨i + 1, by omega, by go_num, BT.setCell hgl _, fun _ => ⟨g, _, rfl, hgl, heap_setCell_same wr g (i * 3 + 2) cur _ _ hgh, by simpa using hgn⟩⟩
            case measure => simp [intOf]; omega
          case neg =>
            obtain rfl : i = n_x := by omega
            go_wp2_with fail
            go_roundw
            case rel => exact ⟨k + 1, by omega, by omega, by go_num, BT⟩
            case measure => simp [intOf]; omega

end Go.Proofs.Ytnjkfjecnicccaa
