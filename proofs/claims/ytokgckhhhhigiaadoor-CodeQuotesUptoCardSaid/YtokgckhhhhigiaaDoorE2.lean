-- Printed by wip/tools/gprint.py (this session's program) out of the translation. Not trusted: Lean checks it.
import Derived.Test.YtokgckhhhhigiaaDoorE0
import Derived.Test.YtokgckhhhhigiaaDoorE1
namespace Go.Proofs.YtokgckhhhhigiaaDoor.E
open Go.RowKit Go.Proofs.YtokgckhhhhigiaaDoor.Glob Go.Proofs.YtokgckhhhhigiaaDoor.M Go.Proofs.YtokgckhhhhigiaaDoorW.PrintWords Go.Proofs.YtokgckhhhhigiaaDoorW.PrintLast Go.Proofs.YtokgckhhhhigiaaDoorW.PrintMore
attribute [local go_sem] max2_int min2_int max_two min_two max_three min_three max_four min_four   -- for this text's walks alone
set_option linter.unusedVariables false
set_option linter.unusedSimpArgs false

/-! ### posthornref04_line: function 27 -/
def posthornref04_line.l0 : Nat → ByteArray → ByteArray → ByteArray → Int → Option (ByteArray)
  | 0, _, _, _, _ => none
  | k + 1, x0, x3, x4, x5 => if x5 < (x0.size : Int) then (if 0 ≤ x5 then ((posthornref04_sign.f k (bt x0 x5) (x5 == (wrap64 ((x0.size : Int) - 1)))).bind fun t166 => (if (wrap64 ((x4.size : Int) + (t166.size : Int))) ≤ 75 then (if x4.size + t166.size ≤ 9223372036854775807 then (posthornref04_line.l0 k x0 x3 (x4 ++ t166) (wrap64 (x5 + 1))) else (none)) else (if x5 = (wrap64 ((x0.size : Int) - 1)) then (if (wrap64 ((x4.size : Int) + (t166.size : Int))) ≤ 76 then (if x4.size + t166.size ≤ 9223372036854775807 then (posthornref04_line.l0 k x0 x3 (x4 ++ t166) (wrap64 (x5 + 1))) else (none)) else (if x3.size + x4.size ≤ 9223372036854775807 then (if (x3 ++ x4).size + 3 ≤ 9223372036854775807 then (posthornref04_line.l0 k x0 ((x3 ++ x4) ++ (⟨#[61, 13, 10]⟩ : ByteArray)) t166 (wrap64 (x5 + 1))) else (none)) else (none))) else (if x3.size + x4.size ≤ 9223372036854775807 then (if (x3 ++ x4).size + 3 ≤ 9223372036854775807 then (posthornref04_line.l0 k x0 ((x3 ++ x4) ++ (⟨#[61, 13, 10]⟩ : ByteArray)) t166 (wrap64 (x5 + 1))) else (none)) else (none))))) else (none)) else (if x3.size + x4.size ≤ 9223372036854775807 then (some (x3 ++ x4)) else (none))
def posthornref04_line.f (k : Nat) (a0 : ByteArray) : Option (ByteArray) := posthornref04_line.l0 k a0 (⟨#[]⟩ : ByteArray) (⟨#[]⟩ : ByteArray) 0
theorem posthornref04_line.mono_l : ∀ k, (∀ y0 y1 y2 y3, LeO (posthornref04_line.l0 k y0 y1 y2 y3) (posthornref04_line.l0 (k + 1) y0 y1 y2 y3))
  | 0 => fun _ _ _ _ r h => by simp [posthornref04_line.l0] at h
  | k + 1 => by
    have ih0 := posthornref04_line.mono_l k
    · intro y0 y1 y2 y3
      unfold posthornref04_line.l0
      repeat' first
      | (with_reducible exact ih0 _ _ _ _)
      | (with_reducible exact posthornref04_sign.mono _ _ _)
      | (with_reducible exact LeO.refl _)
      | (with_reducible exact LeO.none _)
      | (with_reducible refine LeO.ite ?_ ?_)
      | (with_reducible refine LeO.bind ?_ (fun _ => ?_))
      | exact ih0 _ _ _ _
      | exact posthornref04_sign.mono _ _ _
      | exact LeO.none _
      | refine LeO.ite ?_ ?_
      | refine LeO.bind ?_ (fun _ => ?_)
theorem posthornref04_line.mono : ∀ a0 k, LeO (posthornref04_line.f k a0) (posthornref04_line.f (k + 1) a0) := by
  intro a0 k
  have ih0 := posthornref04_line.mono_l k
  unfold posthornref04_line.f
  repeat' first
      | (with_reducible exact ih0 _ _ _ _)
      | (with_reducible exact posthornref04_sign.mono _ _ _)
      | (with_reducible exact LeO.refl _)
      | (with_reducible exact LeO.none _)
      | (with_reducible refine LeO.ite ?_ ?_)
      | (with_reducible refine LeO.bind ?_ (fun _ => ?_))
      | exact ih0 _ _ _ _
      | exact posthornref04_sign.mono _ _ _
      | exact LeO.none _
      | refine LeO.ite ?_ ?_
      | refine LeO.bind ?_ (fun _ => ?_)
set_option maxHeartbeats 8000000 in
set_option maxRecDepth 100000 in
theorem posthornref04_line.calls (k : Nat) (a0 : ByteArray) (r : ByteArray) (w : World) (h : posthornref04_line.f k a0 = some r) :
    Calls Tryd.prog 27 #[.string a0] w fun e w' => e = .returned (.string r) ∧ Below w.heap.size w w' := by
  have HB := Aside0.mk (Below.refl w.heap.size w)
  have H : (posthornref04_line.l0 k a0 (⟨#[]⟩ : ByteArray) (⟨#[]⟩ : ByteArray) 0) = some r := h
  clear h
  have H' := Aside0.mk H
  clear H
  go_enter Tryd.func27, Tryd.ntmps27
  go_wp2
  go_loopg [3, 4, 5] k (fun kq v3 v4 v5 w' => ∃ (x3_1 : ByteArray) (x4_1 : ByteArray) (x5_1 : Int), v3 = .string x3_1 ∧ v4 = .string x4_1 ∧ v5 = .int .i64 x5_1 ∧ Aside0 (posthornref04_line.l0 kq a0 x3_1 x4_1 x5_1 = some r) ∧ Aside0 (kq ≤ k) ∧ Aside0 (Below w.heap.size w w'))
  case atStart => exact ⟨((⟨#[]⟩ : ByteArray)), ((⟨#[]⟩ : ByteArray)), (0), (by first | rfl | (simp; done) | (simp [*]; done)), (by first | rfl | (simp; done) | (simp [*]; done)), (by first | rfl | (simp; done) | (simp [*]; done)), H', ⟨Nat.le_refl _⟩, ⟨by repeat (first | (with_reducible first | exact HB.out | apply below_alloc | apply pw_below_drewN | apply below_drew1) | exact HB.out)⟩⟩
  case round =>
    clear H'
    obtain ⟨x3_1, x4_1, x5_1, rfl, rfl, rfl, HA, HK1, HB⟩ := hrel
    cases gk with
    | zero => exact absurd HA.out (by simp [posthornref04_line.l0])
    | succ k1 =>
      have H := HA.out
      clear HA
      simp only [posthornref04_line.l0] at H
      by_cases c2 : x5_1 < (a0.size : Int)
      · rw [if_pos c2] at H
        have c2b0 : decide (x5_1 < (a0.size : Int)) = true := decide_eq_true c2
        clear c2
        by_cases c3 : 0 ≤ x5_1
        · rw [if_pos c3] at H
          have c3b0 : decide (0 ≤ x5_1) = true := decide_eq_true c3
          clear c3
          replace H := Option.bind_eq_some_iff.mp H
          obtain ⟨t166, A50, H⟩ := H
          replace H : (if (wrap64 ((x4_1.size : Int) + (t166.size : Int))) ≤ 75 then (if x4_1.size + t166.size ≤ 9223372036854775807 then (posthornref04_line.l0 k1 a0 x3_1 (x4_1 ++ t166) (wrap64 (x5_1 + 1))) else (none)) else (if x5_1 = (wrap64 ((a0.size : Int) - 1)) then (if (wrap64 ((x4_1.size : Int) + (t166.size : Int))) ≤ 76 then (if x4_1.size + t166.size ≤ 9223372036854775807 then (posthornref04_line.l0 k1 a0 x3_1 (x4_1 ++ t166) (wrap64 (x5_1 + 1))) else (none)) else (if x3_1.size + x4_1.size ≤ 9223372036854775807 then (if (x3_1 ++ x4_1).size + 3 ≤ 9223372036854775807 then (posthornref04_line.l0 k1 a0 ((x3_1 ++ x4_1) ++ (⟨#[61, 13, 10]⟩ : ByteArray)) t166 (wrap64 (x5_1 + 1))) else (none)) else (none))) else (if x3_1.size + x4_1.size ≤ 9223372036854775807 then (if (x3_1 ++ x4_1).size + 3 ≤ 9223372036854775807 then (posthornref04_line.l0 k1 a0 ((x3_1 ++ x4_1) ++ (⟨#[61, 13, 10]⟩ : ByteArray)) t166 (wrap64 (x5_1 + 1))) else (none)) else (none)))) = some r := H
          have A5 := Aside0.mk A50
          clear A50
          by_cases c6 : (wrap64 ((x4_1.size : Int) + (t166.size : Int))) ≤ 75
          · rw [if_pos c6] at H
            have c6b0 : decide ((wrap64 ((x4_1.size : Int) + (t166.size : Int))) ≤ 75) = true := decide_eq_true c6
            clear c6
            by_cases c7 : x4_1.size + t166.size ≤ 9223372036854775807
            · rw [if_pos c7] at H
              have c7b0 := eq_true c7
              have c7b1 : decide (x4_1.size + t166.size ≤ 9223372036854775807) = true := decide_eq_true c7
              have cw_ : wrap64 ((x4_1.size : Int) + (t166.size : Int)) = (x4_1.size : Int) + (t166.size : Int) := IntWalk.wrap64_in _ ⟨by omega, by omega⟩
              try rw [cw_] at c6b0
              try have c7b2 : (9223372036854775807 < x4_1.size + t166.size) = False := eq_false (Nat.not_lt.2 c7)
              have H' := Aside0.mk H
              clear H
              have p4 : 0 ≤ (x5_1 : Int) := of_decide_eq_true (by first | (with_reducible assumption) | assumption)
              have q4 : x5_1 < (a0.size : Int) := of_decide_eq_true (by first | (with_reducible assumption) | assumption)
              have hx4 := bt_at a0 x5_1
              replace p4 := eq_true p4
              replace q4 := eq_true q4
              go_wp2_with (first | ((with_reducible refine gate_callee (f := 39) rfl ?_); refine goesL_ (some 23) rfl rfl Tryd.func39 (by kernel_rfl) rfl #[.int .u8 (bt a0 x5_1), .bool (x5_1 == (wrap64 ((a0.size : Int) - 1)))] rfl (by (try simp only [List.map_toArray, List.map_cons, List.map_nil]); first | done | rfl | (simp only [List.length_drop, List.length_take]; rfl)) ?_; (with_reducible refine (posthornref04_sign.calls k1 (bt a0 x5_1) (x5_1 == (wrap64 ((a0.size : Int) - 1))) t166 _ A5.out).mono ?_); rintro e w8 ⟨rfl, hb⟩; refine ⟨_, rfl, ?_⟩; have n0_ := Aside0.mk (below_step (by repeat (first | (with_reducible first | exact HB.out | apply below_alloc | apply pw_below_drewN | apply below_drew1) | exact HB.out)) hb); clear HB; have HB := n0_; clear n0_; (try clear hb); (try clear hb2); (try clear hk); (try clear hi)))
              go_roundg k1
              case measure => have := HK1.out; omega
              case rel => exact ⟨(x3_1), (x4_1 ++ t166), (wrap64 (x5_1 + 1)), (by first | rfl | (simp; done) | (simp [*]; done)), (by first | rfl | (simp; done) | (simp [*]; done)), (by first | rfl | (simp; done) | (simp [*]; done)), H', ⟨by have := HK1.out; omega⟩, ⟨by repeat (first | (with_reducible first | exact HB.out | apply below_alloc | apply pw_below_drewN | apply below_drew1) | exact HB.out)⟩⟩
            · rw [if_neg c7] at H
              exact absurd H (by simp)
          · rw [if_neg c6] at H
            have c6b0 : decide ((wrap64 ((x4_1.size : Int) + (t166.size : Int))) ≤ 75) = false := decide_eq_false c6
            clear c6
            by_cases c9 : x5_1 = (wrap64 ((a0.size : Int) - 1))
            · rw [if_pos c9] at H
              have c9b0 : (x5_1 == (wrap64 ((a0.size : Int) - 1))) = true := beq_iff_eq.mpr c9
              have a5_ := A5.out
              rw [c9b0] at a5_
              replace A5 := Aside0.mk a5_
              clear a5_
              have c9b1 : (x5_1 != (wrap64 ((a0.size : Int) - 1))) = false := bne_eq_false_iff_eq.mpr c9
              clear c9
              by_cases c10 : (wrap64 ((x4_1.size : Int) + (t166.size : Int))) ≤ 76
              · rw [if_pos c10] at H
                have c10b0 : decide ((wrap64 ((x4_1.size : Int) + (t166.size : Int))) ≤ 76) = true := decide_eq_true c10
                clear c10
                by_cases c11 : x4_1.size + t166.size ≤ 9223372036854775807
                · rw [if_pos c11] at H
                  have c11b0 := eq_true c11
                  have c11b1 : decide (x4_1.size + t166.size ≤ 9223372036854775807) = true := decide_eq_true c11
                  have cw_ : wrap64 ((x4_1.size : Int) + (t166.size : Int)) = (x4_1.size : Int) + (t166.size : Int) := IntWalk.wrap64_in _ ⟨by omega, by omega⟩
                  try rw [cw_] at c6b0
                  try rw [cw_] at c6b0
                  try rw [cw_] at c10b0
                  try have c11b2 : (9223372036854775807 < x4_1.size + t166.size) = False := eq_false (Nat.not_lt.2 c11)
                  have H' := Aside0.mk H
                  clear H
                  have p4 : 0 ≤ (x5_1 : Int) := of_decide_eq_true (by first | (with_reducible assumption) | assumption)
                  have q4 : x5_1 < (a0.size : Int) := of_decide_eq_true (by first | (with_reducible assumption) | assumption)
                  have hx4 := bt_at a0 x5_1
                  replace p4 := eq_true p4
                  replace q4 := eq_true q4
                  go_wp2_with (first | ((with_reducible refine gate_callee (f := 39) rfl ?_); refine goesL_ (some 23) rfl rfl Tryd.func39 (by kernel_rfl) rfl #[.int .u8 (bt a0 x5_1), .bool true] rfl (by (try simp only [List.map_toArray, List.map_cons, List.map_nil]); first | done | rfl | (simp only [List.length_drop, List.length_take]; rfl)) ?_; (with_reducible refine (posthornref04_sign.calls k1 (bt a0 x5_1) true t166 _ A5.out).mono ?_); rintro e w12 ⟨rfl, hb⟩; refine ⟨_, rfl, ?_⟩; have n0_ := Aside0.mk (below_step (by repeat (first | (with_reducible first | exact HB.out | apply below_alloc | apply pw_below_drewN | apply below_drew1) | exact HB.out)) hb); clear HB; have HB := n0_; clear n0_; (try clear hb); (try clear hb2); (try clear hk); (try clear hi)))
                  go_roundg k1
                  case measure => have := HK1.out; omega
                  case rel => exact ⟨(x3_1), (x4_1 ++ t166), (wrap64 (x5_1 + 1)), (by first | rfl | (simp; done) | (simp [*]; done)), (by first | rfl | (simp; done) | (simp [*]; done)), (by first | rfl | (simp; done) | (simp [*]; done)), H', ⟨by have := HK1.out; omega⟩, ⟨by repeat (first | (with_reducible first | exact HB.out | apply below_alloc | apply pw_below_drewN | apply below_drew1) | exact HB.out)⟩⟩
                · rw [if_neg c11] at H
                  exact absurd H (by simp)
              · rw [if_neg c10] at H
                have c10b0 : decide ((wrap64 ((x4_1.size : Int) + (t166.size : Int))) ≤ 76) = false := decide_eq_false c10
                clear c10
                by_cases c13 : x3_1.size + x4_1.size ≤ 9223372036854775807
                · rw [if_pos c13] at H
                  have c13b0 := eq_true c13
                  have c13b1 : decide (x3_1.size + x4_1.size ≤ 9223372036854775807) = true := decide_eq_true c13
                  try have c13b2 : (9223372036854775807 < x3_1.size + x4_1.size) = False := eq_false (Nat.not_lt.2 c13)
                  by_cases c14 : (x3_1 ++ x4_1).size + 3 ≤ 9223372036854775807
                  · rw [if_pos c14] at H
                    have c14b0 := eq_true c14
                    have c14b1 : decide ((x3_1 ++ x4_1).size + 3 ≤ 9223372036854775807) = true := decide_eq_true c14
                    try have c14b2 : (9223372036854775807 < (x3_1 ++ x4_1).size + 3) = False := eq_false (Nat.not_lt.2 c14)
                    have c14s := c14
                    simp only [ByteArray.size_append] at c14s
                    have c14q := eq_true c14s
                    have c14r := eq_false (Nat.not_lt.2 c14s)
                    have c14t := decide_eq_true c14s
                    have H' := Aside0.mk H
                    clear H
                    have p4 : 0 ≤ (x5_1 : Int) := of_decide_eq_true (by first | (with_reducible assumption) | assumption)
                    have q4 : x5_1 < (a0.size : Int) := of_decide_eq_true (by first | (with_reducible assumption) | assumption)
                    have hx4 := bt_at a0 x5_1
                    replace p4 := eq_true p4
                    replace q4 := eq_true q4
                    go_wp2_with (first | ((with_reducible refine gate_callee (f := 39) rfl ?_); refine goesL_ (some 23) rfl rfl Tryd.func39 (by kernel_rfl) rfl #[.int .u8 (bt a0 x5_1), .bool true] rfl (by (try simp only [List.map_toArray, List.map_cons, List.map_nil]); first | done | rfl | (simp only [List.length_drop, List.length_take]; rfl)) ?_; (with_reducible refine (posthornref04_sign.calls k1 (bt a0 x5_1) true t166 _ A5.out).mono ?_); rintro e w15 ⟨rfl, hb⟩; refine ⟨_, rfl, ?_⟩; have n0_ := Aside0.mk (below_step (by repeat (first | (with_reducible first | exact HB.out | apply below_alloc | apply pw_below_drewN | apply below_drew1) | exact HB.out)) hb); clear HB; have HB := n0_; clear n0_; (try clear hb); (try clear hb2); (try clear hk); (try clear hi)))
                    go_roundg k1
                    case measure => have := HK1.out; omega
                    case rel => exact ⟨((x3_1 ++ x4_1) ++ (⟨#[61, 13, 10]⟩ : ByteArray)), (t166), (wrap64 (x5_1 + 1)), (by first | rfl | (simp; done) | (simp [*]; done)), (by first | rfl | (simp; done) | (simp [*]; done)), (by first | rfl | (simp; done) | (simp [*]; done)), H', ⟨by have := HK1.out; omega⟩, ⟨by repeat (first | (with_reducible first | exact HB.out | apply below_alloc | apply pw_below_drewN | apply below_drew1) | exact HB.out)⟩⟩
                  · rw [if_neg c14] at H
                    exact absurd H (by simp)
                · rw [if_neg c13] at H
                  exact absurd H (by simp)
            · rw [if_neg c9] at H
              have c9b0 : (x5_1 == (wrap64 ((a0.size : Int) - 1))) = false := beq_eq_false_iff_ne.mpr c9
              have a5_ := A5.out
              rw [c9b0] at a5_
              replace A5 := Aside0.mk a5_
              clear a5_
              have c9b1 : (x5_1 != (wrap64 ((a0.size : Int) - 1))) = true := bne_iff_ne.mpr c9
              by_cases c16 : x3_1.size + x4_1.size ≤ 9223372036854775807
              · rw [if_pos c16] at H
                have c16b0 := eq_true c16
                have c16b1 : decide (x3_1.size + x4_1.size ≤ 9223372036854775807) = true := decide_eq_true c16
                try have c16b2 : (9223372036854775807 < x3_1.size + x4_1.size) = False := eq_false (Nat.not_lt.2 c16)
                by_cases c17 : (x3_1 ++ x4_1).size + 3 ≤ 9223372036854775807
                · rw [if_pos c17] at H
                  have c17b0 := eq_true c17
                  have c17b1 : decide ((x3_1 ++ x4_1).size + 3 ≤ 9223372036854775807) = true := decide_eq_true c17
                  try have c17b2 : (9223372036854775807 < (x3_1 ++ x4_1).size + 3) = False := eq_false (Nat.not_lt.2 c17)
                  have c17s := c17
                  simp only [ByteArray.size_append] at c17s
                  have c17q := eq_true c17s
                  have c17r := eq_false (Nat.not_lt.2 c17s)
                  have c17t := decide_eq_true c17s
                  have H' := Aside0.mk H
                  clear H
                  have p4 : 0 ≤ (x5_1 : Int) := of_decide_eq_true (by first | (with_reducible assumption) | assumption)
                  have q4 : x5_1 < (a0.size : Int) := of_decide_eq_true (by first | (with_reducible assumption) | assumption)
                  have hx4 := bt_at a0 x5_1
                  replace p4 := eq_true p4
                  replace q4 := eq_true q4
                  go_wp2_with (first | ((with_reducible refine gate_callee (f := 39) rfl ?_); refine goesL_ (some 23) rfl rfl Tryd.func39 (by kernel_rfl) rfl #[.int .u8 (bt a0 x5_1), .bool false] rfl (by (try simp only [List.map_toArray, List.map_cons, List.map_nil]); first | done | rfl | (simp only [List.length_drop, List.length_take]; rfl)) ?_; (with_reducible refine (posthornref04_sign.calls k1 (bt a0 x5_1) false t166 _ A5.out).mono ?_); rintro e w18 ⟨rfl, hb⟩; refine ⟨_, rfl, ?_⟩; have n0_ := Aside0.mk (below_step (by repeat (first | (with_reducible first | exact HB.out | apply below_alloc | apply pw_below_drewN | apply below_drew1) | exact HB.out)) hb); clear HB; have HB := n0_; clear n0_; (try clear hb); (try clear hb2); (try clear hk); (try clear hi)))
                  go_roundg k1
                  case measure => have := HK1.out; omega
                  case rel => exact ⟨((x3_1 ++ x4_1) ++ (⟨#[61, 13, 10]⟩ : ByteArray)), (t166), (wrap64 (x5_1 + 1)), (by first | rfl | (simp; done) | (simp [*]; done)), (by first | rfl | (simp; done) | (simp [*]; done)), (by first | rfl | (simp; done) | (simp [*]; done)), H', ⟨by have := HK1.out; omega⟩, ⟨by repeat (first | (with_reducible first | exact HB.out | apply below_alloc | apply pw_below_drewN | apply below_drew1) | exact HB.out)⟩⟩
                · rw [if_neg c17] at H
                  exact absurd H (by simp)
              · rw [if_neg c16] at H
                exact absurd H (by simp)
        · rw [if_neg c3] at H
          exact absurd H (by simp)
      · rw [if_neg c2] at H
        have c2b0 : decide (x5_1 < (a0.size : Int)) = false := decide_eq_false c2
        clear c2
        by_cases c19 : x3_1.size + x4_1.size ≤ 9223372036854775807
        · rw [if_pos c19] at H
          have c19b0 := eq_true c19
          have c19b1 : decide (x3_1.size + x4_1.size ≤ 9223372036854775807) = true := decide_eq_true c19
          try have c19b2 : (9223372036854775807 < x3_1.size + x4_1.size) = False := eq_false (Nat.not_lt.2 c19)
          obtain rfl := Option.some.inj H
          go_wp2
          go_ret
          exact ⟨by first | rfl | (simp [errW_none, errW_some] <;> rfl) | (simp [*, errW_none, errW_some] <;> rfl), by repeat (first | (with_reducible first | exact HB.out | apply below_alloc | apply pw_below_drewN | apply below_drew1) | exact HB.out)⟩
        · rw [if_neg c19] at H
          exact absurd H (by simp)

/-! ### posthornref04_Quote: function 13 -/
def posthornref04_Quote.l0 : Nat → ByteArray → ByteArray → Int → Int → Option (ByteArray)
  | 0, _, _, _, _ => none
  | k + 1, x3, x4, x5, x6 => if (wrap64 (x6 + 1)) < (x3.size : Int) then (if 0 ≤ x6 then (if x6 < (x3.size : Int) then (if (bt x3 x6) = 13 then (if 0 ≤ (wrap64 (x6 + 1)) then (if (bt x3 (wrap64 (x6 + 1))) = 10 then (if 0 ≤ x5 then (if x5 ≤ x6 then (if x6 ≤ (x3.size : Int) then ((posthornref04_line.f k (x3.extract (x5 : Int).toNat (x6 : Int).toNat)).bind fun t167 => (if x4.size + t167.size ≤ 9223372036854775807 then (if (x4 ++ t167).size + 2 ≤ 9223372036854775807 then (posthornref04_Quote.l0 k x3 ((x4 ++ t167) ++ (⟨#[13, 10]⟩ : ByteArray)) (wrap64 (x6 + 2)) (wrap64 (x6 + 1))) else (none)) else (none))) else (none)) else (none)) else (none)) else (posthornref04_Quote.l0 k x3 x4 x5 (wrap64 (x6 + 1)))) else (none)) else (posthornref04_Quote.l0 k x3 x4 x5 (wrap64 (x6 + 1)))) else (none)) else (none)) else (if 0 ≤ x5 then (if x5 ≤ (x3.size : Int) then ((posthornref04_line.f k (x3.extract (x5 : Int).toNat x3.size)).bind fun t168 => (if x4.size + t168.size ≤ 9223372036854775807 then (some (x4 ++ t168)) else (none))) else (none)) else (none))
def posthornref04_Quote.f (k : Nat) (l0 : List Int) : Option (ByteArray) := posthornref04_Quote.l0 k (strOfNums l0) (⟨#[]⟩ : ByteArray) 0 0
theorem posthornref04_Quote.mono_l : ∀ k, (∀ y0 y1 y2 y3, LeO (posthornref04_Quote.l0 k y0 y1 y2 y3) (posthornref04_Quote.l0 (k + 1) y0 y1 y2 y3))
  | 0 => fun _ _ _ _ r h => by simp [posthornref04_Quote.l0] at h
  | k + 1 => by
    have ih0 := posthornref04_Quote.mono_l k
    · intro y0 y1 y2 y3
      unfold posthornref04_Quote.l0
      repeat' first
      | (with_reducible exact ih0 _ _ _ _)
      | (with_reducible exact posthornref04_line.mono _ _)
      | (with_reducible exact LeO.refl _)
      | (with_reducible exact LeO.none _)
      | (with_reducible refine LeO.ite ?_ ?_)
      | (with_reducible refine LeO.bind ?_ (fun _ => ?_))
      | exact ih0 _ _ _ _
      | exact posthornref04_line.mono _ _
      | exact LeO.none _
      | refine LeO.ite ?_ ?_
      | refine LeO.bind ?_ (fun _ => ?_)
theorem posthornref04_Quote.mono : ∀ a0 k, LeO (posthornref04_Quote.f k a0) (posthornref04_Quote.f (k + 1) a0) := by
  intro a0 k
  have ih0 := posthornref04_Quote.mono_l k
  unfold posthornref04_Quote.f
  repeat' first
      | (with_reducible exact ih0 _ _ _ _)
      | (with_reducible exact posthornref04_line.mono _ _)
      | (with_reducible exact LeO.refl _)
      | (with_reducible exact LeO.none _)
      | (with_reducible refine LeO.ite ?_ ?_)
      | (with_reducible refine LeO.bind ?_ (fun _ => ?_))
      | exact ih0 _ _ _ _
      | exact posthornref04_line.mono _ _
      | exact LeO.none _
      | refine LeO.ite ?_ ?_
      | refine LeO.bind ?_ (fun _ => ?_)
set_option maxHeartbeats 8000000 in
set_option maxRecDepth 100000 in
theorem posthornref04_Quote.calls (k : Nat) (A0 : Option Addr) (c0 : Nat) (l0 : List Int) (r : ByteArray) (w : World) (hr0 : Kd.C (Kd.int .u8) w A0 l0.length l0) (hc0 : l0.length ≤ c0) (h : posthornref04_Quote.f k l0 = some r) :
    Calls Tryd.prog 13 #[.slice A0 l0.length c0] w fun e w' => e = .returned (.string r) ∧ Below w.heap.size w w' := by
  have HR0 := Aside0.mk hr0
  have HC0 := Aside0.mk hc0
  clear hr0 hc0
  have HB := Aside0.mk (Below.refl w.heap.size w)
  have H : (posthornref04_Quote.l0 k (strOfNums l0) (⟨#[]⟩ : ByteArray) 0 0) = some r := h
  clear h
  have H' := Aside0.mk H
  clear H
  have hcv2 := Kd.C_string (P := Tryd.prog) (A := A0) (c := c0) Tryd.underlying22 Tryd.underlying5 Tryd.underlying9 HR0.out
  go_enter Tryd.func13, Tryd.ntmps13
  go_wp2
  go_loopg [4, 5, 6] k (fun kq v4 v5 v6 w' => ∃ (x4_1 : ByteArray) (x5_1 : Int) (x6_1 : Int), v4 = .string x4_1 ∧ v5 = .int .i64 x5_1 ∧ v6 = .int .i64 x6_1 ∧ Aside0 (posthornref04_Quote.l0 kq (strOfNums l0) x4_1 x5_1 x6_1 = some r) ∧ Aside0 (kq ≤ k) ∧ Aside0 (Below w.heap.size w w'))
  case atStart => exact ⟨((⟨#[]⟩ : ByteArray)), (0), (0), (by first | rfl | (simp; done) | (simp [*]; done)), (by first | rfl | (simp; done) | (simp [*]; done)), (by first | rfl | (simp; done) | (simp [*]; done)), H', ⟨Nat.le_refl _⟩, ⟨by repeat (first | (with_reducible first | exact HB.out | apply below_alloc | apply pw_below_drewN | apply below_drew1) | exact HB.out)⟩⟩
  case round =>
    clear H'
    try clear c1
    try clear p2
    try clear hcv2
    obtain ⟨x4_1, x5_1, x6_1, rfl, rfl, rfl, HA, HK1, HB⟩ := hrel
    cases gk with
    | zero => exact absurd HA.out (by simp [posthornref04_Quote.l0])
    | succ k1 =>
      have H := HA.out
      clear HA
      simp only [posthornref04_Quote.l0] at H
      by_cases c3 : (wrap64 (x6_1 + 1)) < ((strOfNums l0).size : Int)
      · rw [if_pos c3] at H
        have c3b0 : decide ((wrap64 (x6_1 + 1)) < ((strOfNums l0).size : Int)) = true := decide_eq_true c3
        clear c3
        by_cases c4 : 0 ≤ x6_1
        · rw [if_pos c4] at H
          have c4b0 : decide (0 ≤ x6_1) = true := decide_eq_true c4
          clear c4
          by_cases c5 : x6_1 < ((strOfNums l0).size : Int)
          · rw [if_pos c5] at H
            have c5b0 : decide (x6_1 < ((strOfNums l0).size : Int)) = true := decide_eq_true c5
            clear c5
            by_cases c7 : (bt (strOfNums l0) x6_1) = 13
            · rw [if_pos c7] at H
              have c7b0 : ((bt (strOfNums l0) x6_1) == 13) = true := beq_iff_eq.mpr c7
              have c7b1 : ((bt (strOfNums l0) x6_1) != 13) = false := bne_eq_false_iff_eq.mpr c7
              clear c7
              obtain ⟨ji8, hji8⟩ : ∃ j_ : Int, (wrap64 (x6_1 + 1)) = j_ := ⟨_, rfl⟩
              replace H : (if 0 ≤ (ji8) then (if (bt (strOfNums l0) (ji8)) = 10 then (if 0 ≤ x5_1 then (if x5_1 ≤ x6_1 then (if x6_1 ≤ ((strOfNums l0).size : Int) then ((posthornref04_line.f k1 ((strOfNums l0).extract (x5_1 : Int).toNat (x6_1 : Int).toNat)).bind fun t167 => (if x4_1.size + t167.size ≤ 9223372036854775807 then (if (x4_1 ++ t167).size + 2 ≤ 9223372036854775807 then (posthornref04_Quote.l0 k1 (strOfNums l0) ((x4_1 ++ t167) ++ (⟨#[13, 10]⟩ : ByteArray)) (wrap64 (x6_1 + 2)) ji8) else (none)) else (none))) else (none)) else (none)) else (none)) else (posthornref04_Quote.l0 k1 (strOfNums l0) x4_1 x5_1 ji8)) else (none)) = some r := by first | (rw [hji8] at H; exact H) | (simp only [hji8] at H ⊢; exact H)
              (try rw [hji8] at c3b0)
              have hji8w : (IntKind.i64.wrap (x6_1 + 1)) = ji8 := (i64_w _).trans hji8
              by_cases c9 : 0 ≤ (ji8)
              · rw [if_pos c9] at H
                have c9b0 : decide (0 ≤ (ji8)) = true := decide_eq_true c9
                clear c9
                by_cases c11 : (bt (strOfNums l0) (ji8)) = 10
                · rw [if_pos c11] at H
                  have c11b0 : ((bt (strOfNums l0) (ji8)) == 10) = true := beq_iff_eq.mpr c11
                  have c11b1 : ((bt (strOfNums l0) (ji8)) != 10) = false := bne_eq_false_iff_eq.mpr c11
                  clear c11
                  by_cases c12 : 0 ≤ x5_1
                  · rw [if_pos c12] at H
                    have c12b0 := eq_true c12
                    have c12b1 : decide (0 ≤ x5_1) = true := decide_eq_true c12
                    clear c12
                    by_cases c13 : x5_1 ≤ x6_1
                    · rw [if_pos c13] at H
                      have c13b0 := eq_true c13
                      have c13b1 : decide (x5_1 ≤ x6_1) = true := decide_eq_true c13
                      clear c13
                      by_cases c14 : x6_1 ≤ ((strOfNums l0).size : Int)
                      · rw [if_pos c14] at H
                        have c14b0 := eq_true c14
                        have c14b1 : decide (x6_1 ≤ ((strOfNums l0).size : Int)) = true := decide_eq_true c14
                        clear c14
                        replace H := Option.bind_eq_some_iff.mp H
                        obtain ⟨t167, A150, H⟩ := H
                        replace H : (if x4_1.size + t167.size ≤ 9223372036854775807 then (if (x4_1 ++ t167).size + 2 ≤ 9223372036854775807 then (posthornref04_Quote.l0 k1 (strOfNums l0) ((x4_1 ++ t167) ++ (⟨#[13, 10]⟩ : ByteArray)) (wrap64 (x6_1 + 2)) ji8) else (none)) else (none)) = some r := H
                        have A15 := Aside0.mk A150
                        clear A150
                        by_cases c16 : x4_1.size + t167.size ≤ 9223372036854775807
                        · rw [if_pos c16] at H
                          have c16b0 := eq_true c16
                          have c16b1 : decide (x4_1.size + t167.size ≤ 9223372036854775807) = true := decide_eq_true c16
                          try have c16b2 : (9223372036854775807 < x4_1.size + t167.size) = False := eq_false (Nat.not_lt.2 c16)
                          by_cases c17 : (x4_1 ++ t167).size + 2 ≤ 9223372036854775807
                          · rw [if_pos c17] at H
                            have c17b0 := eq_true c17
                            have c17b1 : decide ((x4_1 ++ t167).size + 2 ≤ 9223372036854775807) = true := decide_eq_true c17
                            try have c17b2 : (9223372036854775807 < (x4_1 ++ t167).size + 2) = False := eq_false (Nat.not_lt.2 c17)
                            have c17s := c17
                            simp only [ByteArray.size_append] at c17s
                            have c17q := eq_true c17s
                            have c17r := eq_false (Nat.not_lt.2 c17s)
                            have c17t := decide_eq_true c17s
                            have H' := Aside0.mk H
                            clear H
                            have p6 : 0 ≤ (x6_1 : Int) := of_decide_eq_true (by first | (with_reducible assumption) | assumption)
                            have q6 : x6_1 < ((strOfNums l0).size : Int) := of_decide_eq_true (by first | (with_reducible assumption) | assumption)
                            have hx6 := bt_at (strOfNums l0) x6_1
                            replace p6 := eq_true p6
                            replace q6 := eq_true q6
                            have p10 : 0 ≤ ((ji8) : Int) := of_decide_eq_true (by first | (with_reducible assumption) | assumption)
                            have q10 : (ji8) < ((strOfNums l0).size : Int) := of_decide_eq_true (by first | (with_reducible assumption) | assumption)
                            have hx10 := bt_at (strOfNums l0) (ji8)
                            replace p10 := eq_true p10
                            replace q10 := eq_true q10
                            go_wp2_with (first | ((with_reducible refine gate_callee (f := 27) rfl ?_); refine goesL_ (some 32) rfl rfl Tryd.func27 (by kernel_rfl) rfl #[.string ((strOfNums l0).extract (x5_1 : Int).toNat (x6_1 : Int).toNat)] rfl (by (try simp only [List.map_toArray, List.map_cons, List.map_nil]); first | done | rfl | (simp only [List.length_drop, List.length_take]; rfl)) ?_; (with_reducible refine (posthornref04_line.calls k1 ((strOfNums l0).extract (x5_1 : Int).toNat (x6_1 : Int).toNat) t167 _ A15.out).mono ?_); rintro e w18 ⟨rfl, hb⟩; refine ⟨_, rfl, ?_⟩; have n0_ := Aside0.mk (below_step (by repeat (first | (with_reducible first | exact HB.out | apply below_alloc | apply pw_below_drewN | apply below_drew1) | exact HB.out)) hb); clear HB; have HB := n0_; clear n0_; (try clear hb); (try clear hb2); (try clear hk); (try clear hi)))
                            go_roundg k1
                            case measure => have := HK1.out; omega
                            case rel => exact ⟨((x4_1 ++ t167) ++ (⟨#[13, 10]⟩ : ByteArray)), (wrap64 (x6_1 + 2)), (ji8), (by first | rfl | (simp; done) | (simp [*]; done)), (by first | rfl | (simp; done) | (simp [*]; done)), (by first | rfl | (simp; done) | (simp only [← hji8] <;> (first | rfl | simp)) | (simp [*]; done)), H', ⟨by have := HK1.out; omega⟩, ⟨by repeat (first | (with_reducible first | exact HB.out | apply below_alloc | apply pw_below_drewN | apply below_drew1) | exact HB.out)⟩⟩
                          · rw [if_neg c17] at H
                            exact absurd H (by simp)
                        · rw [if_neg c16] at H
                          exact absurd H (by simp)
                      · rw [if_neg c14] at H
                        exact absurd H (by simp)
                    · rw [if_neg c13] at H
                      exact absurd H (by simp)
                  · rw [if_neg c12] at H
                    exact absurd H (by simp)
                · rw [if_neg c11] at H
                  have c11b0 : ((bt (strOfNums l0) (ji8)) == 10) = false := beq_eq_false_iff_ne.mpr c11
                  have c11b1 : ((bt (strOfNums l0) (ji8)) != 10) = true := bne_iff_ne.mpr c11
                  have H' := Aside0.mk H
                  clear H
                  have p6 : 0 ≤ (x6_1 : Int) := of_decide_eq_true (by first | (with_reducible assumption) | assumption)
                  have q6 : x6_1 < ((strOfNums l0).size : Int) := of_decide_eq_true (by first | (with_reducible assumption) | assumption)
                  have hx6 := bt_at (strOfNums l0) x6_1
                  replace p6 := eq_true p6
                  replace q6 := eq_true q6
                  have p10 : 0 ≤ ((ji8) : Int) := of_decide_eq_true (by first | (with_reducible assumption) | assumption)
                  have q10 : (ji8) < ((strOfNums l0).size : Int) := of_decide_eq_true (by first | (with_reducible assumption) | assumption)
                  have hx10 := bt_at (strOfNums l0) (ji8)
                  replace p10 := eq_true p10
                  replace q10 := eq_true q10
                  go_wp2
                  go_roundg k1
                  case measure => have := HK1.out; omega
                  case rel => exact ⟨(x4_1), (x5_1), (ji8), (by first | rfl | (simp; done) | (simp [*]; done)), (by first | rfl | (simp; done) | (simp [*]; done)), (by first | rfl | (simp; done) | (simp only [← hji8] <;> (first | rfl | simp)) | (simp [*]; done)), H', ⟨by have := HK1.out; omega⟩, ⟨by repeat (first | (with_reducible first | exact HB.out | apply below_alloc | apply pw_below_drewN | apply below_drew1) | exact HB.out)⟩⟩
              · rw [if_neg c9] at H
                exact absurd H (by simp)
            · rw [if_neg c7] at H
              have c7b0 : ((bt (strOfNums l0) x6_1) == 13) = false := beq_eq_false_iff_ne.mpr c7
              have c7b1 : ((bt (strOfNums l0) x6_1) != 13) = true := bne_iff_ne.mpr c7
              have H' := Aside0.mk H
              clear H
              have p6 : 0 ≤ (x6_1 : Int) := of_decide_eq_true (by first | (with_reducible assumption) | assumption)
              have q6 : x6_1 < ((strOfNums l0).size : Int) := of_decide_eq_true (by first | (with_reducible assumption) | assumption)
              have hx6 := bt_at (strOfNums l0) x6_1
              replace p6 := eq_true p6
              replace q6 := eq_true q6
              go_wp2
              go_roundg k1
              case measure => have := HK1.out; omega
              case rel => exact ⟨(x4_1), (x5_1), (wrap64 (x6_1 + 1)), (by first | rfl | (simp; done) | (simp [*]; done)), (by first | rfl | (simp; done) | (simp [*]; done)), (by first | rfl | (simp; done) | (simp [*]; done)), H', ⟨by have := HK1.out; omega⟩, ⟨by repeat (first | (with_reducible first | exact HB.out | apply below_alloc | apply pw_below_drewN | apply below_drew1) | exact HB.out)⟩⟩
          · rw [if_neg c5] at H
            exact absurd H (by simp)
        · rw [if_neg c4] at H
          exact absurd H (by simp)
      · rw [if_neg c3] at H
        have c3b0 : decide ((wrap64 (x6_1 + 1)) < ((strOfNums l0).size : Int)) = false := decide_eq_false c3
        clear c3
        by_cases c19 : 0 ≤ x5_1
        · rw [if_pos c19] at H
          have c19b0 := eq_true c19
          have c19b1 : decide (0 ≤ x5_1) = true := decide_eq_true c19
          clear c19
          by_cases c20 : x5_1 ≤ ((strOfNums l0).size : Int)
          · rw [if_pos c20] at H
            have c20b0 := eq_true c20
            have c20b1 : decide (x5_1 ≤ ((strOfNums l0).size : Int)) = true := decide_eq_true c20
            clear c20
            replace H := Option.bind_eq_some_iff.mp H
            obtain ⟨t168, A210, H⟩ := H
            replace H : (if x4_1.size + t168.size ≤ 9223372036854775807 then (some (x4_1 ++ t168)) else (none)) = some r := H
            have A21 := Aside0.mk A210
            clear A210
            by_cases c22 : x4_1.size + t168.size ≤ 9223372036854775807
            · rw [if_pos c22] at H
              have c22b0 := eq_true c22
              have c22b1 : decide (x4_1.size + t168.size ≤ 9223372036854775807) = true := decide_eq_true c22
              try have c22b2 : (9223372036854775807 < x4_1.size + t168.size) = False := eq_false (Nat.not_lt.2 c22)
              obtain rfl := Option.some.inj H
              go_wp2_with (first | ((with_reducible refine gate_callee (f := 27) rfl ?_); refine goesL_ (some 41) rfl rfl Tryd.func27 (by kernel_rfl) rfl #[.string ((strOfNums l0).extract (x5_1 : Int).toNat (strOfNums l0).size)] rfl (by (try simp only [List.map_toArray, List.map_cons, List.map_nil]); first | done | rfl | (simp only [List.length_drop, List.length_take]; rfl)) ?_; (with_reducible refine (posthornref04_line.calls k1 ((strOfNums l0).extract (x5_1 : Int).toNat (strOfNums l0).size) t168 _ A21.out).mono ?_); rintro e w23 ⟨rfl, hb⟩; refine ⟨_, rfl, ?_⟩; have n0_ := Aside0.mk (below_step (by repeat (first | (with_reducible first | exact HB.out | apply below_alloc | apply pw_below_drewN | apply below_drew1) | exact HB.out)) hb); clear HB; have HB := n0_; clear n0_; (try clear hb); (try clear hb2); (try clear hk); (try clear hi)))
              go_ret
              exact ⟨by first | rfl | (simp [errW_none, errW_some] <;> rfl) | (simp [*, errW_none, errW_some] <;> rfl), by repeat (first | (with_reducible first | exact HB.out | apply below_alloc | apply pw_below_drewN | apply below_drew1) | exact HB.out)⟩
            · rw [if_neg c22] at H
              exact absurd H (by simp)
          · rw [if_neg c20] at H
            exact absurd H (by simp)
        · rw [if_neg c19] at H
          exact absurd H (by simp)

-- NOT PRINTED: function 14 (posthornlaw04_kept)

-- NOT PRINTED: function 3 (posthornlaw04_CodeQuotes)

end Go.Proofs.YtokgckhhhhigiaaDoor.E
