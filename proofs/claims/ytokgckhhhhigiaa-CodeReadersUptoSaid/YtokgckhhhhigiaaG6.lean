-- Printed by wip/tools/gprint.py (this session's program) out of the translation. Not trusted: Lean checks it.
import Derived.Test.YtokgckhhhhigiaaG0
import Derived.Test.YtokgckhhhhigiaaG5
namespace Go.Proofs.Ytokgckhhhhigiaa.G
open Go.RowKit Go.Proofs.Ytokgckhhhhigiaa.M Go.Proofs.YtokgckhhhhigiaaW.PrintWords Go.Proofs.YtokgckhhhhigiaaW.PrintLast Go.Proofs.YtokgckhhhhigiaaW.PrintMore
attribute [local go_sem] max2_int min2_int max_two min_two max_three min_three max_four min_four   -- for this text's walks alone
set_option linter.unusedVariables false
set_option linter.unusedSimpArgs false

/-! ### posthornref04_begun: function 25 -/
mutual
def posthornref04_begun.l0 : Nat → ByteArray → Int → Option (Bool)
  | 0, _, _ => none
  | k + 1, x0, x3 => if x3 < (x0.size : Int) then (if 0 ≤ x3 then ((posthornref04_number.f k (bt x0 x3)).bind fun t214 => (if x3 = 0 then (posthornref04_begun.j1 k x0 x3 (decide (t214 ≥ 0)) x3 (x3 == 0)) else (posthornref04_begun.j1 k x0 x3 (decide (t214 ≥ 0)) x3 (x3 == 1)))) else (none)) else (some true)
def posthornref04_begun.j1 : Nat → ByteArray → Int → Bool → Int → Bool → Option (Bool)
  | 0, _, _, _, _, _ => none
  | k + 1, x0, x3, x4, x16, x45 => if x45 = true then (if x4 = true then (posthornref04_begun.l0 k x0 (wrap64 (x3 + 1))) else (some false)) else (if x16 = 2 then (if x4 = true then (posthornref04_begun.l0 k x0 (wrap64 (x3 + 1))) else (if 2 < (x0.size : Int) then (if (bt x0 2) = 61 then (if 1 < (x0.size : Int) then ((posthornref04_low.f k (bt x0 1) 4).bind fun t215 => (if t215 = true then (posthornref04_begun.l0 k x0 (wrap64 (x3 + 1))) else (some false))) else (none)) else (some false)) else (none))) else (if 2 < (x0.size : Int) then (if (bt x0 2) = 61 then (if 3 < (x0.size : Int) then (if (bt x0 3) = 61 then (posthornref04_begun.l0 k x0 (wrap64 (x3 + 1))) else (some false)) else (none)) else (if x4 = true then (posthornref04_begun.l0 k x0 (wrap64 (x3 + 1))) else (if 3 < (x0.size : Int) then (if (bt x0 3) = 61 then ((posthornref04_low.f k (bt x0 2) 2).bind fun t216 => (if t216 = true then (posthornref04_begun.l0 k x0 (wrap64 (x3 + 1))) else (some false))) else (some false)) else (none)))) else (none)))
end
def posthornref04_begun.f (k : Nat) (a0 : ByteArray) : Option (Bool) := posthornref04_begun.l0 k a0 0
theorem posthornref04_begun.mono_l : ∀ k, (∀ y0 y1, LeO (posthornref04_begun.l0 k y0 y1) (posthornref04_begun.l0 (k + 1) y0 y1)) ∧ (∀ y0 y1 y2 y3 y4, LeO (posthornref04_begun.j1 k y0 y1 y2 y3 y4) (posthornref04_begun.j1 (k + 1) y0 y1 y2 y3 y4))
  | 0 => ⟨fun _ _ r h => by simp [posthornref04_begun.l0] at h, fun _ _ _ _ _ r h => by simp [posthornref04_begun.j1] at h⟩
  | k + 1 => by
    obtain ⟨ih0, ih1⟩ := posthornref04_begun.mono_l k
    refine ⟨?_, ?_⟩
    · intro y0 y1
      unfold posthornref04_begun.l0
      repeat' first
      | (with_reducible exact ih0 _ _)
      | (with_reducible exact ih1 _ _ _ _ _)
      | (with_reducible exact posthornref04_low.mono _ _ _)
      | (with_reducible exact posthornref04_number.mono _ _)
      | (with_reducible exact LeO.refl _)
      | (with_reducible exact LeO.none _)
      | (with_reducible refine LeO.ite ?_ ?_)
      | (with_reducible refine LeO.bind ?_ (fun _ => ?_))
      | exact ih0 _ _
      | exact ih1 _ _ _ _ _
      | exact posthornref04_low.mono _ _ _
      | exact posthornref04_number.mono _ _
      | exact LeO.none _
      | refine LeO.ite ?_ ?_
      | refine LeO.bind ?_ (fun _ => ?_)
    · intro y0 y1 y2 y3 y4
      unfold posthornref04_begun.j1
      repeat' first
      | (with_reducible exact ih0 _ _)
      | (with_reducible exact ih1 _ _ _ _ _)
      | (with_reducible exact posthornref04_low.mono _ _ _)
      | (with_reducible exact posthornref04_number.mono _ _)
      | (with_reducible exact LeO.refl _)
      | (with_reducible exact LeO.none _)
      | (with_reducible refine LeO.ite ?_ ?_)
      | (with_reducible refine LeO.bind ?_ (fun _ => ?_))
      | exact ih0 _ _
      | exact ih1 _ _ _ _ _
      | exact posthornref04_low.mono _ _ _
      | exact posthornref04_number.mono _ _
      | exact LeO.none _
      | refine LeO.ite ?_ ?_
      | refine LeO.bind ?_ (fun _ => ?_)
theorem posthornref04_begun.mono : ∀ a0 k, LeO (posthornref04_begun.f k a0) (posthornref04_begun.f (k + 1) a0) := by
  intro a0 k
  obtain ⟨ih0, ih1⟩ := posthornref04_begun.mono_l k
  unfold posthornref04_begun.f
  repeat' first
      | (with_reducible exact ih0 _ _)
      | (with_reducible exact ih1 _ _ _ _ _)
      | (with_reducible exact posthornref04_low.mono _ _ _)
      | (with_reducible exact posthornref04_number.mono _ _)
      | (with_reducible exact LeO.refl _)
      | (with_reducible exact LeO.none _)
      | (with_reducible refine LeO.ite ?_ ?_)
      | (with_reducible refine LeO.bind ?_ (fun _ => ?_))
      | exact ih0 _ _
      | exact ih1 _ _ _ _ _
      | exact posthornref04_low.mono _ _ _
      | exact posthornref04_number.mono _ _
      | exact LeO.none _
      | refine LeO.ite ?_ ?_
      | refine LeO.bind ?_ (fun _ => ?_)
set_option maxHeartbeats 8000000 in
set_option maxRecDepth 100000 in
theorem posthornref04_begun.calls (k : Nat) (a0 : ByteArray) (r : Bool) (w : World) (h : posthornref04_begun.f k a0 = some r) :
    Calls Try.prog 25 #[.string a0] w fun e w' => e = .returned (.bool r) ∧ Drawn0 w w' := by
  have H : (posthornref04_begun.l0 k a0 0) = some r := h
  clear h
  have H' := Aside0.mk H
  clear H
  go_enter Try.func25, Try.ntmps25
  go_wp2
  go_loopg [3] k (fun kq v3 w' => ∃ (x3_1 : Int), v3 = .int .i64 x3_1 ∧ Aside0 (posthornref04_begun.l0 kq a0 x3_1 = some r) ∧ Aside0 (kq ≤ k) ∧ Drawn0 w w')
  case atStart => exact ⟨(0), (by first | rfl | (simp; done) | (simp [*]; done)), H', ⟨Nat.le_refl _⟩, by repeat (first | exact Drawn0.refl _ | apply Drawn0.step)⟩
  case round =>
    clear H'
    obtain ⟨x3_1, rfl, HA, HK1, ⟨m1, rfl⟩⟩ := hrel
    cases gk with
    | zero => exact absurd HA.out (by simp [posthornref04_begun.l0])
    | succ k1 =>
      have H := HA.out
      clear HA
      simp only [posthornref04_begun.l0] at H
      by_cases c2 : x3_1 < (a0.size : Int)
      · rw [if_pos c2] at H
        have c2b0 : decide (x3_1 < (a0.size : Int)) = true := decide_eq_true c2
        clear c2
        by_cases c3 : 0 ≤ x3_1
        · rw [if_pos c3] at H
          have c3b0 : decide (0 ≤ x3_1) = true := decide_eq_true c3
          clear c3
          replace H := Option.bind_eq_some_iff.mp H
          obtain ⟨t214, A50, H⟩ := H
          replace H : (if x3_1 = 0 then (posthornref04_begun.j1 k1 a0 x3_1 (decide (t214 ≥ 0)) x3_1 (x3_1 == 0)) else (posthornref04_begun.j1 k1 a0 x3_1 (decide (t214 ≥ 0)) x3_1 (x3_1 == 1))) = some r := H
          have A5 := Aside0.mk A50
          clear A50
          have HC6 := Aside0.mk H
          clear H
          have p4 : 0 ≤ (x3_1 : Int) := of_decide_eq_true (by first | (with_reducible assumption) | assumption)
          have q4 : x3_1 < (a0.size : Int) := of_decide_eq_true (by first | (with_reducible assumption) | assumption)
          have hx4 := bt_at a0 x3_1
          replace p4 := eq_true p4
          replace q4 := eq_true q4
          go_upto_if 45 with (first | ((with_reducible refine gate_callee (f := 26) rfl ?_); refine goesL_ (some 14) rfl rfl Try.func26 (by kernel_rfl) rfl #[.int .u8 (bt a0 x3_1)] rfl (by (try simp only [List.map_toArray, List.map_cons, List.map_nil]); first | done | rfl | (simp only [List.length_drop, List.length_take]; rfl)) ?_; (with_reducible refine (posthornref04_number.calls k1 (bt a0 x3_1) t214 _ A5.out).mono ?_); rintro e w' ⟨rfl, ⟨nd, rfl⟩⟩; refine ⟨_, rfl, ?_⟩))
          (try simp only [Act.put, List.setIfInBounds_toArray, List.set_cons_zero, List.set_cons_succ])
          go_cut [45] (fun v45 wc => ∃ (kq : Nat) (x45_5 : Bool), v45 = .bool x45_5 ∧ Aside0 (posthornref04_begun.j1 kq a0 x3_1 (decide (t214 ≥ 0)) x3_1 x45_5 = some r) ∧ Aside0 (kq ≤ k1) ∧ Drawn0 w wc)
          case first =>
            have H := HC6.out
            clear HC6
            by_cases c7 : x3_1 = 0
            · rw [if_pos c7] at H
              have c7b0 : (x3_1 == 0) = true := beq_iff_eq.mpr c7
              have c7b1 : (x3_1 != 0) = false := bne_eq_false_iff_eq.mpr c7
              clear c7
              (first | rw [c7b0] | (simp only [i64_w, i32_w]; rw [c7b0]) | skip)
              have H' := Aside0.mk H
              clear H
              go_wp2
              go_meet
              case rel => exact ⟨_, ((x3_1 == 0)), (by first | rfl | (simp; done) | (simp [*]; done)), H', ⟨by have := HK1.out; first | omega | exact Nat.le_refl _⟩, by repeat (first | exact Drawn0.refl _ | apply Drawn0.step)⟩
            · rw [if_neg c7] at H
              have c7b0 : (x3_1 == 0) = false := beq_eq_false_iff_ne.mpr c7
              have c7b1 : (x3_1 != 0) = true := bne_iff_ne.mpr c7
              (first | rw [c7b0] | (simp only [i64_w, i32_w]; rw [c7b0]) | skip)
              have H' := Aside0.mk H
              clear H
              go_wp2
              go_meet
              case rel => exact ⟨_, ((x3_1 == 1)), (by first | rfl | (simp; done) | (simp [*]; done)), H', ⟨by have := HK1.out; first | omega | exact Nat.le_refl _⟩, by repeat (first | exact Drawn0.refl _ | apply Drawn0.step)⟩
          case rest =>
            clear HC6
            try clear c2
            try clear c2b0
            try clear p2
            try clear c3
            try clear c3b0
            try clear p4
            try clear q4
            try clear hx4
            try clear c7
            try clear c7b0
            try clear c7b1
            try clear p4
            try clear q4
            obtain ⟨kq, x45_5, rfl, HA, HJ5, ⟨mc5, rfl⟩⟩ := hcut
            cases kq with
            | zero => exact absurd HA.out (by simp [posthornref04_begun.j1])
            | succ kj5 =>
              have H := HA.out
              clear HA
              simp only [posthornref04_begun.j1] at H
              by_cases c8 : x45_5 = true
              · subst c8
                have H1 : (if (decide (t214 ≥ 0)) = true then (posthornref04_begun.l0 kj5 a0 (wrap64 (x3_1 + 1))) else (some false)) = some r := by rw [if_pos rfl] at H; exact H
                clear H
                have H := H1
                clear H1
                by_cases c9 : (decide (t214 ≥ 0)) = true
                · rw [if_pos c9] at H
                  have c9b0 : (decide (t214 ≥ 0)) = true := c9
                  clear c9
                  have H' := Aside0.mk H
                  clear H
                  go_wp2
                  go_roundg kj5
                  case measure => have := HK1.out; have := HJ5.out; omega
                  case rel => exact ⟨(wrap64 (x3_1 + 1)), (by first | rfl | (simp; done) | (simp [*]; done)), H', ⟨by have := HK1.out; have := HJ5.out; omega⟩, by repeat (first | exact Drawn0.refl _ | apply Drawn0.step)⟩
                · rw [if_neg c9] at H
                  have c9b0 : (decide (t214 ≥ 0)) = false := by simpa using c9
                  clear c9
                  obtain rfl := Option.some.inj H
                  go_wp2
                  go_ret
                  exact ⟨by first | rfl | (simp; done) | (simp [*]; done), by repeat (first | exact Drawn0.refl _ | apply Drawn0.step)⟩
              · replace c8 := Bool.eq_false_iff.mpr c8
                subst c8
                have H1 : (if x3_1 = 2 then (if (decide (t214 ≥ 0)) = true then (posthornref04_begun.l0 kj5 a0 (wrap64 (x3_1 + 1))) else (if 2 < (a0.size : Int) then (if (bt a0 2) = 61 then (if 1 < (a0.size : Int) then ((posthornref04_low.f kj5 (bt a0 1) 4).bind fun t215 => (if t215 = true then (posthornref04_begun.l0 kj5 a0 (wrap64 (x3_1 + 1))) else (some false))) else (none)) else (some false)) else (none))) else (if 2 < (a0.size : Int) then (if (bt a0 2) = 61 then (if 3 < (a0.size : Int) then (if (bt a0 3) = 61 then (posthornref04_begun.l0 kj5 a0 (wrap64 (x3_1 + 1))) else (some false)) else (none)) else (if (decide (t214 ≥ 0)) = true then (posthornref04_begun.l0 kj5 a0 (wrap64 (x3_1 + 1))) else (if 3 < (a0.size : Int) then (if (bt a0 3) = 61 then ((posthornref04_low.f kj5 (bt a0 2) 2).bind fun t216 => (if t216 = true then (posthornref04_begun.l0 kj5 a0 (wrap64 (x3_1 + 1))) else (some false))) else (some false)) else (none)))) else (none))) = some r := by rw [if_neg (show ¬ (false = true) by decide)] at H; exact H
                clear H
                have H := H1
                clear H1
                by_cases c10 : x3_1 = 2
                · rw [if_pos c10] at H
                  have c10b0 : (x3_1 == 2) = true := beq_iff_eq.mpr c10
                  have c10b1 : (x3_1 != 2) = false := bne_eq_false_iff_eq.mpr c10
                  clear c10
                  by_cases c11 : (decide (t214 ≥ 0)) = true
                  · rw [if_pos c11] at H
                    have c11b0 : (decide (t214 ≥ 0)) = true := c11
                    clear c11
                    have H' := Aside0.mk H
                    clear H
                    go_wp2
                    go_roundg kj5
                    case measure => have := HK1.out; have := HJ5.out; omega
                    case rel => exact ⟨(wrap64 (x3_1 + 1)), (by first | rfl | (simp; done) | (simp [*]; done)), H', ⟨by have := HK1.out; have := HJ5.out; omega⟩, by repeat (first | exact Drawn0.refl _ | apply Drawn0.step)⟩
                  · rw [if_neg c11] at H
                    have c11b0 : (decide (t214 ≥ 0)) = false := by simpa using c11
                    clear c11
                    by_cases c12 : 2 < (a0.size : Int)
                    · rw [if_pos c12] at H
                      have c12b0 : decide (2 < (a0.size : Int)) = true := decide_eq_true c12
                      have c12b1 : decide (2 < a0.size) = true := decide_eq_true (by omega)
                      clear c12
                      by_cases c14 : (bt a0 2) = 61
                      · rw [if_pos c14] at H
                        have c14b0 : ((bt a0 2) == 61) = true := beq_iff_eq.mpr c14
                        have c14b1 : ((bt a0 2) != 61) = false := bne_eq_false_iff_eq.mpr c14
                        clear c14
                        by_cases c15 : 1 < (a0.size : Int)
                        · rw [if_pos c15] at H
                          have c15b0 : decide (1 < (a0.size : Int)) = true := decide_eq_true c15
                          have c15b1 : decide (1 < a0.size) = true := decide_eq_true (by omega)
                          clear c15
                          replace H := Option.bind_eq_some_iff.mp H
                          obtain ⟨t215, A170, H⟩ := H
                          replace H : (if t215 = true then (posthornref04_begun.l0 kj5 a0 (wrap64 (x3_1 + 1))) else (some false)) = some r := H
                          have A17 := Aside0.mk A170
                          clear A170
                          by_cases c18 : t215 = true
                          · subst c18
                            have H1 : (posthornref04_begun.l0 kj5 a0 (wrap64 (x3_1 + 1))) = some r := by rw [if_pos rfl] at H; exact H
                            clear H
                            have H := H1
                            clear H1
                            have H' := Aside0.mk H
                            clear H
                            have p13 : 0 ≤ (2 : Int) := (by omega)
                            have q13 : 2 < a0.size := (by have : (2 : Int) < (a0.size : Int) := of_decide_eq_true (by first | (with_reducible assumption) | assumption); omega)
                            have hx13 : ∀ h : 2 < a0.size, ((a0[2]'h).toNat : Int) = bt a0 2 := bt_at a0 2
                            clear p13
                            have qi13 : (2 < (a0.size : Int)) = True := eq_true (of_decide_eq_true (by first | (with_reducible assumption) | assumption))
                            replace q13 := eq_true q13
                            have p16 : 0 ≤ (1 : Int) := (by omega)
                            have q16 : 1 < a0.size := (by have : (1 : Int) < (a0.size : Int) := of_decide_eq_true (by first | (with_reducible assumption) | assumption); omega)
                            have hx16 : ∀ h : 1 < a0.size, ((a0[1]'h).toNat : Int) = bt a0 1 := bt_at a0 1
                            clear p16
                            have qi16 : (1 < (a0.size : Int)) = True := eq_true (of_decide_eq_true (by first | (with_reducible assumption) | assumption))
                            replace q16 := eq_true q16
                            go_wp2_with (first | (go_at_call 29; (with_reducible refine (posthornref04_low.calls kj5 (bt a0 1) 4 true _ A17.out).mono ?_); rintro e w' ⟨rfl, ⟨nd, rfl⟩⟩))
                            go_roundg kj5
                            case measure => have := HK1.out; have := HJ5.out; omega
                            case rel => exact ⟨(wrap64 (x3_1 + 1)), (by first | rfl | (simp; done) | (simp [*]; done)), H', ⟨by have := HK1.out; have := HJ5.out; omega⟩, by repeat (first | exact Drawn0.refl _ | apply Drawn0.step)⟩
                          · replace c18 := Bool.eq_false_iff.mpr c18
                            subst c18
                            have H1 : (some false) = some r := by rw [if_neg (show ¬ (false = true) by decide)] at H; exact H
                            clear H
                            have H := H1
                            clear H1
                            obtain rfl := Option.some.inj H
                            have p13 : 0 ≤ (2 : Int) := (by omega)
                            have q13 : 2 < a0.size := (by have : (2 : Int) < (a0.size : Int) := of_decide_eq_true (by first | (with_reducible assumption) | assumption); omega)
                            have hx13 : ∀ h : 2 < a0.size, ((a0[2]'h).toNat : Int) = bt a0 2 := bt_at a0 2
                            clear p13
                            have qi13 : (2 < (a0.size : Int)) = True := eq_true (of_decide_eq_true (by first | (with_reducible assumption) | assumption))
                            replace q13 := eq_true q13
                            have p16 : 0 ≤ (1 : Int) := (by omega)
                            have q16 : 1 < a0.size := (by have : (1 : Int) < (a0.size : Int) := of_decide_eq_true (by first | (with_reducible assumption) | assumption); omega)
                            have hx16 : ∀ h : 1 < a0.size, ((a0[1]'h).toNat : Int) = bt a0 1 := bt_at a0 1
                            clear p16
                            have qi16 : (1 < (a0.size : Int)) = True := eq_true (of_decide_eq_true (by first | (with_reducible assumption) | assumption))
                            replace q16 := eq_true q16
                            go_wp2_with (first | (go_at_call 29; (with_reducible refine (posthornref04_low.calls kj5 (bt a0 1) 4 false _ A17.out).mono ?_); rintro e w' ⟨rfl, ⟨nd, rfl⟩⟩))
                            go_ret
                            exact ⟨by first | rfl | (simp; done) | (simp [*]; done), by repeat (first | exact Drawn0.refl _ | apply Drawn0.step)⟩
                        · rw [if_neg c15] at H
                          exact absurd H (by simp)
                      · rw [if_neg c14] at H
                        have c14b0 : ((bt a0 2) == 61) = false := beq_eq_false_iff_ne.mpr c14
                        have c14b1 : ((bt a0 2) != 61) = true := bne_iff_ne.mpr c14
                        obtain rfl := Option.some.inj H
                        have p13 : 0 ≤ (2 : Int) := (by omega)
                        have q13 : 2 < a0.size := (by have : (2 : Int) < (a0.size : Int) := of_decide_eq_true (by first | (with_reducible assumption) | assumption); omega)
                        have hx13 : ∀ h : 2 < a0.size, ((a0[2]'h).toNat : Int) = bt a0 2 := bt_at a0 2
                        clear p13
                        have qi13 : (2 < (a0.size : Int)) = True := eq_true (of_decide_eq_true (by first | (with_reducible assumption) | assumption))
                        replace q13 := eq_true q13
                        go_wp2
                        go_ret
                        exact ⟨by first | rfl | (simp; done) | (simp [*]; done), by repeat (first | exact Drawn0.refl _ | apply Drawn0.step)⟩
                    · rw [if_neg c12] at H
                      exact absurd H (by simp)
                · rw [if_neg c10] at H
                  have c10b0 : (x3_1 == 2) = false := beq_eq_false_iff_ne.mpr c10
                  have c10b1 : (x3_1 != 2) = true := bne_iff_ne.mpr c10
                  by_cases c19 : 2 < (a0.size : Int)
                  · rw [if_pos c19] at H
                    have c19b0 : decide (2 < (a0.size : Int)) = true := decide_eq_true c19
                    have c19b1 : decide (2 < a0.size) = true := decide_eq_true (by omega)
                    clear c19
                    by_cases c21 : (bt a0 2) = 61
                    · rw [if_pos c21] at H
                      have c21b0 : ((bt a0 2) == 61) = true := beq_iff_eq.mpr c21
                      have c21b1 : ((bt a0 2) != 61) = false := bne_eq_false_iff_eq.mpr c21
                      clear c21
                      by_cases c22 : 3 < (a0.size : Int)
                      · rw [if_pos c22] at H
                        have c22b0 : decide (3 < (a0.size : Int)) = true := decide_eq_true c22
                        have c22b1 : decide (3 < a0.size) = true := decide_eq_true (by omega)
                        clear c22
                        by_cases c24 : (bt a0 3) = 61
                        · rw [if_pos c24] at H
                          have c24b0 : ((bt a0 3) == 61) = true := beq_iff_eq.mpr c24
                          have c24b1 : ((bt a0 3) != 61) = false := bne_eq_false_iff_eq.mpr c24
                          clear c24
                          have H' := Aside0.mk H
                          clear H
                          have p20 : 0 ≤ (2 : Int) := (by omega)
                          have q20 : 2 < a0.size := (by have : (2 : Int) < (a0.size : Int) := of_decide_eq_true (by first | (with_reducible assumption) | assumption); omega)
                          have hx20 : ∀ h : 2 < a0.size, ((a0[2]'h).toNat : Int) = bt a0 2 := bt_at a0 2
                          clear p20
                          have qi20 : (2 < (a0.size : Int)) = True := eq_true (of_decide_eq_true (by first | (with_reducible assumption) | assumption))
                          replace q20 := eq_true q20
                          have p23 : 0 ≤ (3 : Int) := (by omega)
                          have q23 : 3 < a0.size := (by have : (3 : Int) < (a0.size : Int) := of_decide_eq_true (by first | (with_reducible assumption) | assumption); omega)
                          have hx23 : ∀ h : 3 < a0.size, ((a0[3]'h).toNat : Int) = bt a0 3 := bt_at a0 3
                          clear p23
                          have qi23 : (3 < (a0.size : Int)) = True := eq_true (of_decide_eq_true (by first | (with_reducible assumption) | assumption))
                          replace q23 := eq_true q23
                          have p25 : 0 ≤ (2 : Int) := (by omega)
                          have q25 : 2 < a0.size := (by have : (2 : Int) < (a0.size : Int) := of_decide_eq_true (by first | (with_reducible assumption) | assumption); omega)
                          have hx25 : ∀ h : 2 < a0.size, ((a0[2]'h).toNat : Int) = bt a0 2 := bt_at a0 2
                          clear p25
                          have qi25 : (2 < (a0.size : Int)) = True := eq_true (of_decide_eq_true (by first | (with_reducible assumption) | assumption))
                          replace q25 := eq_true q25
                          go_wp2
                          go_roundg kj5
                          case measure => have := HK1.out; have := HJ5.out; omega
                          case rel => exact ⟨(wrap64 (x3_1 + 1)), (by first | rfl | (simp; done) | (simp [*]; done)), H', ⟨by have := HK1.out; have := HJ5.out; omega⟩, by repeat (first | exact Drawn0.refl _ | apply Drawn0.step)⟩
                        · rw [if_neg c24] at H
                          have c24b0 : ((bt a0 3) == 61) = false := beq_eq_false_iff_ne.mpr c24
                          have c24b1 : ((bt a0 3) != 61) = true := bne_iff_ne.mpr c24
                          obtain rfl := Option.some.inj H
                          have p20 : 0 ≤ (2 : Int) := (by omega)
                          have q20 : 2 < a0.size := (by have : (2 : Int) < (a0.size : Int) := of_decide_eq_true (by first | (with_reducible assumption) | assumption); omega)
                          have hx20 : ∀ h : 2 < a0.size, ((a0[2]'h).toNat : Int) = bt a0 2 := bt_at a0 2
                          clear p20
                          have qi20 : (2 < (a0.size : Int)) = True := eq_true (of_decide_eq_true (by first | (with_reducible assumption) | assumption))
                          replace q20 := eq_true q20
                          have p23 : 0 ≤ (3 : Int) := (by omega)
                          have q23 : 3 < a0.size := (by have : (3 : Int) < (a0.size : Int) := of_decide_eq_true (by first | (with_reducible assumption) | assumption); omega)
                          have hx23 : ∀ h : 3 < a0.size, ((a0[3]'h).toNat : Int) = bt a0 3 := bt_at a0 3
                          clear p23
                          have qi23 : (3 < (a0.size : Int)) = True := eq_true (of_decide_eq_true (by first | (with_reducible assumption) | assumption))
                          replace q23 := eq_true q23
                          go_wp2
                          go_ret
                          exact ⟨by first | rfl | (simp; done) | (simp [*]; done), by repeat (first | exact Drawn0.refl _ | apply Drawn0.step)⟩
                      · rw [if_neg c22] at H
                        exact absurd H (by simp)
                    · rw [if_neg c21] at H
                      have c21b0 : ((bt a0 2) == 61) = false := beq_eq_false_iff_ne.mpr c21
                      have c21b1 : ((bt a0 2) != 61) = true := bne_iff_ne.mpr c21
                      by_cases c27 : (decide (t214 ≥ 0)) = true
                      · rw [if_pos c27] at H
                        have c27b0 : (decide (t214 ≥ 0)) = true := c27
                        clear c27
                        have H' := Aside0.mk H
                        clear H
                        have p20 : 0 ≤ (2 : Int) := (by omega)
                        have q20 : 2 < a0.size := (by have : (2 : Int) < (a0.size : Int) := of_decide_eq_true (by first | (with_reducible assumption) | assumption); omega)
                        have hx20 : ∀ h : 2 < a0.size, ((a0[2]'h).toNat : Int) = bt a0 2 := bt_at a0 2
                        clear p20
                        have qi20 : (2 < (a0.size : Int)) = True := eq_true (of_decide_eq_true (by first | (with_reducible assumption) | assumption))
                        replace q20 := eq_true q20
                        have p26 : 0 ≤ (2 : Int) := (by omega)
                        have q26 : 2 < a0.size := (by have : (2 : Int) < (a0.size : Int) := of_decide_eq_true (by first | (with_reducible assumption) | assumption); omega)
                        have hx26 : ∀ h : 2 < a0.size, ((a0[2]'h).toNat : Int) = bt a0 2 := bt_at a0 2
                        clear p26
                        have qi26 : (2 < (a0.size : Int)) = True := eq_true (of_decide_eq_true (by first | (with_reducible assumption) | assumption))
                        replace q26 := eq_true q26
                        go_wp2
                        go_roundg kj5
                        case measure => have := HK1.out; have := HJ5.out; omega
                        case rel => exact ⟨(wrap64 (x3_1 + 1)), (by first | rfl | (simp; done) | (simp [*]; done)), H', ⟨by have := HK1.out; have := HJ5.out; omega⟩, by repeat (first | exact Drawn0.refl _ | apply Drawn0.step)⟩
                      · rw [if_neg c27] at H
                        have c27b0 : (decide (t214 ≥ 0)) = false := by simpa using c27
                        clear c27
                        by_cases c28 : 3 < (a0.size : Int)
                        · rw [if_pos c28] at H
                          have c28b0 : decide (3 < (a0.size : Int)) = true := decide_eq_true c28
                          have c28b1 : decide (3 < a0.size) = true := decide_eq_true (by omega)
                          clear c28
                          by_cases c30 : (bt a0 3) = 61
                          · rw [if_pos c30] at H
                            have c30b0 : ((bt a0 3) == 61) = true := beq_iff_eq.mpr c30
                            have c30b1 : ((bt a0 3) != 61) = false := bne_eq_false_iff_eq.mpr c30
                            clear c30
                            replace H := Option.bind_eq_some_iff.mp H
                            obtain ⟨t216, A320, H⟩ := H
                            replace H : (if t216 = true then (posthornref04_begun.l0 kj5 a0 (wrap64 (x3_1 + 1))) else (some false)) = some r := H
                            have A32 := Aside0.mk A320
                            clear A320
                            by_cases c33 : t216 = true
                            · subst c33
                              have H1 : (posthornref04_begun.l0 kj5 a0 (wrap64 (x3_1 + 1))) = some r := by rw [if_pos rfl] at H; exact H
                              clear H
                              have H := H1
                              clear H1
                              have H' := Aside0.mk H
                              clear H
                              have p20 : 0 ≤ (2 : Int) := (by omega)
                              have q20 : 2 < a0.size := (by have : (2 : Int) < (a0.size : Int) := of_decide_eq_true (by first | (with_reducible assumption) | assumption); omega)
                              have hx20 : ∀ h : 2 < a0.size, ((a0[2]'h).toNat : Int) = bt a0 2 := bt_at a0 2
                              clear p20
                              have qi20 : (2 < (a0.size : Int)) = True := eq_true (of_decide_eq_true (by first | (with_reducible assumption) | assumption))
                              replace q20 := eq_true q20
                              have p26 : 0 ≤ (2 : Int) := (by omega)
                              have q26 : 2 < a0.size := (by have : (2 : Int) < (a0.size : Int) := of_decide_eq_true (by first | (with_reducible assumption) | assumption); omega)
                              have hx26 : ∀ h : 2 < a0.size, ((a0[2]'h).toNat : Int) = bt a0 2 := bt_at a0 2
                              clear p26
                              have qi26 : (2 < (a0.size : Int)) = True := eq_true (of_decide_eq_true (by first | (with_reducible assumption) | assumption))
                              replace q26 := eq_true q26
                              have p29 : 0 ≤ (3 : Int) := (by omega)
                              have q29 : 3 < a0.size := (by have : (3 : Int) < (a0.size : Int) := of_decide_eq_true (by first | (with_reducible assumption) | assumption); omega)
                              have hx29 : ∀ h : 3 < a0.size, ((a0[3]'h).toNat : Int) = bt a0 3 := bt_at a0 3
                              clear p29
                              have qi29 : (3 < (a0.size : Int)) = True := eq_true (of_decide_eq_true (by first | (with_reducible assumption) | assumption))
                              replace q29 := eq_true q29
                              have p31 : 0 ≤ (2 : Int) := (by omega)
                              have q31 : 2 < a0.size := (by have : (2 : Int) < (a0.size : Int) := of_decide_eq_true (by first | (with_reducible assumption) | assumption); omega)
                              have hx31 : ∀ h : 2 < a0.size, ((a0[2]'h).toNat : Int) = bt a0 2 := bt_at a0 2
                              clear p31
                              have qi31 : (2 < (a0.size : Int)) = True := eq_true (of_decide_eq_true (by first | (with_reducible assumption) | assumption))
                              replace q31 := eq_true q31
                              go_wp2_with (first | (go_at_call 29; (with_reducible refine (posthornref04_low.calls kj5 (bt a0 2) 2 true _ A32.out).mono ?_); rintro e w' ⟨rfl, ⟨nd, rfl⟩⟩))
                              go_roundg kj5
                              case measure => have := HK1.out; have := HJ5.out; omega
                              case rel => exact ⟨(wrap64 (x3_1 + 1)), (by first | rfl | (simp; done) | (simp [*]; done)), H', ⟨by have := HK1.out; have := HJ5.out; omega⟩, by repeat (first | exact Drawn0.refl _ | apply Drawn0.step)⟩
                            · replace c33 := Bool.eq_false_iff.mpr c33
                              subst c33
                              have H1 : (some false) = some r := by rw [if_neg (show ¬ (false = true) by decide)] at H; exact H
                              clear H
                              have H := H1
                              clear H1
                              obtain rfl := Option.some.inj H
                              have p20 : 0 ≤ (2 : Int) := (by omega)
                              have q20 : 2 < a0.size := (by have : (2 : Int) < (a0.size : Int) := of_decide_eq_true (by first | (with_reducible assumption) | assumption); omega)
                              have hx20 : ∀ h : 2 < a0.size, ((a0[2]'h).toNat : Int) = bt a0 2 := bt_at a0 2
                              clear p20
                              have qi20 : (2 < (a0.size : Int)) = True := eq_true (of_decide_eq_true (by first | (with_reducible assumption) | assumption))
                              replace q20 := eq_true q20
                              have p26 : 0 ≤ (2 : Int) := (by omega)
                              have q26 : 2 < a0.size := (by have : (2 : Int) < (a0.size : Int) := of_decide_eq_true (by first | (with_reducible assumption) | assumption); omega)
                              have hx26 : ∀ h : 2 < a0.size, ((a0[2]'h).toNat : Int) = bt a0 2 := bt_at a0 2
                              clear p26
                              have qi26 : (2 < (a0.size : Int)) = True := eq_true (of_decide_eq_true (by first | (with_reducible assumption) | assumption))
                              replace q26 := eq_true q26
                              have p29 : 0 ≤ (3 : Int) := (by omega)
                              have q29 : 3 < a0.size := (by have : (3 : Int) < (a0.size : Int) := of_decide_eq_true (by first | (with_reducible assumption) | assumption); omega)
                              have hx29 : ∀ h : 3 < a0.size, ((a0[3]'h).toNat : Int) = bt a0 3 := bt_at a0 3
                              clear p29
                              have qi29 : (3 < (a0.size : Int)) = True := eq_true (of_decide_eq_true (by first | (with_reducible assumption) | assumption))
                              replace q29 := eq_true q29
                              have p31 : 0 ≤ (2 : Int) := (by omega)
                              have q31 : 2 < a0.size := (by have : (2 : Int) < (a0.size : Int) := of_decide_eq_true (by first | (with_reducible assumption) | assumption); omega)
                              have hx31 : ∀ h : 2 < a0.size, ((a0[2]'h).toNat : Int) = bt a0 2 := bt_at a0 2
                              clear p31
                              have qi31 : (2 < (a0.size : Int)) = True := eq_true (of_decide_eq_true (by first | (with_reducible assumption) | assumption))
                              replace q31 := eq_true q31
                              go_wp2_with (first | (go_at_call 29; (with_reducible refine (posthornref04_low.calls kj5 (bt a0 2) 2 false _ A32.out).mono ?_); rintro e w' ⟨rfl, ⟨nd, rfl⟩⟩))
                              go_ret
                              exact ⟨by first | rfl | (simp; done) | (simp [*]; done), by repeat (first | exact Drawn0.refl _ | apply Drawn0.step)⟩
                          · rw [if_neg c30] at H
                            have c30b0 : ((bt a0 3) == 61) = false := beq_eq_false_iff_ne.mpr c30
                            have c30b1 : ((bt a0 3) != 61) = true := bne_iff_ne.mpr c30
                            obtain rfl := Option.some.inj H
                            have p20 : 0 ≤ (2 : Int) := (by omega)
                            have q20 : 2 < a0.size := (by have : (2 : Int) < (a0.size : Int) := of_decide_eq_true (by first | (with_reducible assumption) | assumption); omega)
                            have hx20 : ∀ h : 2 < a0.size, ((a0[2]'h).toNat : Int) = bt a0 2 := bt_at a0 2
                            clear p20
                            have qi20 : (2 < (a0.size : Int)) = True := eq_true (of_decide_eq_true (by first | (with_reducible assumption) | assumption))
                            replace q20 := eq_true q20
                            have p26 : 0 ≤ (2 : Int) := (by omega)
                            have q26 : 2 < a0.size := (by have : (2 : Int) < (a0.size : Int) := of_decide_eq_true (by first | (with_reducible assumption) | assumption); omega)
                            have hx26 : ∀ h : 2 < a0.size, ((a0[2]'h).toNat : Int) = bt a0 2 := bt_at a0 2
                            clear p26
                            have qi26 : (2 < (a0.size : Int)) = True := eq_true (of_decide_eq_true (by first | (with_reducible assumption) | assumption))
                            replace q26 := eq_true q26
                            have p29 : 0 ≤ (3 : Int) := (by omega)
                            have q29 : 3 < a0.size := (by have : (3 : Int) < (a0.size : Int) := of_decide_eq_true (by first | (with_reducible assumption) | assumption); omega)
                            have hx29 : ∀ h : 3 < a0.size, ((a0[3]'h).toNat : Int) = bt a0 3 := bt_at a0 3
                            clear p29
                            have qi29 : (3 < (a0.size : Int)) = True := eq_true (of_decide_eq_true (by first | (with_reducible assumption) | assumption))
                            replace q29 := eq_true q29
                            go_wp2
                            go_ret
                            exact ⟨by first | rfl | (simp; done) | (simp [*]; done), by repeat (first | exact Drawn0.refl _ | apply Drawn0.step)⟩
                        · rw [if_neg c28] at H
                          exact absurd H (by simp)
                  · rw [if_neg c19] at H
                    exact absurd H (by simp)
        · rw [if_neg c3] at H
          exact absurd H (by simp)
      · rw [if_neg c2] at H
        have c2b0 : decide (x3_1 < (a0.size : Int)) = false := decide_eq_false c2
        clear c2
        obtain rfl := Option.some.inj H
        go_wp2
        go_ret
        exact ⟨by first | rfl | (simp; done) | (simp [*]; done), by repeat (first | exact Drawn0.refl _ | apply Drawn0.step)⟩

/-! ### posthornref04_On: function 21 -/
def posthornref04_On.f (k : Nat) (a0 : ByteArray) (a1 : Int) : Option (Bool) := if (wrap64 ((wrap64 (Int.tdiv a1 4)) * 4)) = 0 then (if 0 ≤ (wrap64 ((wrap64 (Int.tdiv a1 4)) * 4)) then (if (wrap64 ((wrap64 (Int.tdiv a1 4)) * 4)) ≤ (wrap64 (a1 + 1)) then (if (wrap64 (a1 + 1)) ≤ (a0.size : Int) then ((posthornref04_begun.f k (a0.extract ((wrap64 ((wrap64 (Int.tdiv a1 4)) * 4)) : Int).toNat ((wrap64 (a1 + 1)) : Int).toNat)).bind fun t217 => (some t217)) else (none)) else (none)) else (none)) else (if 0 ≤ (wrap64 ((wrap64 ((wrap64 (Int.tdiv a1 4)) * 4)) - 1)) then (if (wrap64 ((wrap64 ((wrap64 (Int.tdiv a1 4)) * 4)) - 1)) < (a0.size : Int) then (if (bt a0 (wrap64 ((wrap64 ((wrap64 (Int.tdiv a1 4)) * 4)) - 1))) = 61 then (some false) else (if 0 ≤ (wrap64 ((wrap64 (Int.tdiv a1 4)) * 4)) then (if (wrap64 ((wrap64 (Int.tdiv a1 4)) * 4)) ≤ (wrap64 (a1 + 1)) then (if (wrap64 (a1 + 1)) ≤ (a0.size : Int) then ((posthornref04_begun.f k (a0.extract ((wrap64 ((wrap64 (Int.tdiv a1 4)) * 4)) : Int).toNat ((wrap64 (a1 + 1)) : Int).toNat)).bind fun t218 => (some t218)) else (none)) else (none)) else (none))) else (none)) else (none))
theorem posthornref04_On.mono : ∀ a0 a1 k, LeO (posthornref04_On.f k a0 a1) (posthornref04_On.f (k + 1) a0 a1) := by
  intro a0 a1 k
  unfold posthornref04_On.f
  repeat' first
      | (with_reducible exact posthornref04_begun.mono _ _)
      | (with_reducible exact LeO.refl _)
      | (with_reducible exact LeO.none _)
      | (with_reducible refine LeO.ite ?_ ?_)
      | (with_reducible refine LeO.bind ?_ (fun _ => ?_))
      | exact posthornref04_begun.mono _ _
      | exact LeO.none _
      | refine LeO.ite ?_ ?_
      | refine LeO.bind ?_ (fun _ => ?_)
set_option maxHeartbeats 8000000 in
set_option maxRecDepth 100000 in
theorem posthornref04_On.calls (k : Nat) (a0 : ByteArray) (a1 : Int) (r : Bool) (w : World) (h : posthornref04_On.f k a0 a1 = some r) :
    Calls Try.prog 21 #[.string a0, .int .i64 a1] w fun e w' => e = .returned (.bool r) ∧ Drawn0 w w' := by
  have H : (if (wrap64 ((wrap64 (Int.tdiv a1 4)) * 4)) = 0 then (if 0 ≤ (wrap64 ((wrap64 (Int.tdiv a1 4)) * 4)) then (if (wrap64 ((wrap64 (Int.tdiv a1 4)) * 4)) ≤ (wrap64 (a1 + 1)) then (if (wrap64 (a1 + 1)) ≤ (a0.size : Int) then ((posthornref04_begun.f k (a0.extract ((wrap64 ((wrap64 (Int.tdiv a1 4)) * 4)) : Int).toNat ((wrap64 (a1 + 1)) : Int).toNat)).bind fun t217 => (some t217)) else (none)) else (none)) else (none)) else (if 0 ≤ (wrap64 ((wrap64 ((wrap64 (Int.tdiv a1 4)) * 4)) - 1)) then (if (wrap64 ((wrap64 ((wrap64 (Int.tdiv a1 4)) * 4)) - 1)) < (a0.size : Int) then (if (bt a0 (wrap64 ((wrap64 ((wrap64 (Int.tdiv a1 4)) * 4)) - 1))) = 61 then (some false) else (if 0 ≤ (wrap64 ((wrap64 (Int.tdiv a1 4)) * 4)) then (if (wrap64 ((wrap64 (Int.tdiv a1 4)) * 4)) ≤ (wrap64 (a1 + 1)) then (if (wrap64 (a1 + 1)) ≤ (a0.size : Int) then ((posthornref04_begun.f k (a0.extract ((wrap64 ((wrap64 (Int.tdiv a1 4)) * 4)) : Int).toNat ((wrap64 (a1 + 1)) : Int).toNat)).bind fun t218 => (some t218)) else (none)) else (none)) else (none))) else (none)) else (none))) = some r := h
  clear h
  by_cases c3 : (wrap64 ((wrap64 (Int.tdiv a1 4)) * 4)) = 0
  · rw [if_pos c3] at H
    have c3b0 : ((wrap64 ((wrap64 (Int.tdiv a1 4)) * 4)) == 0) = true := beq_iff_eq.mpr c3
    have c3b1 : ((wrap64 ((wrap64 (Int.tdiv a1 4)) * 4)) != 0) = false := bne_eq_false_iff_eq.mpr c3
    clear c3
    obtain ⟨ji4, hji4⟩ : ∃ j_ : Int, (wrap64 ((wrap64 (Int.tdiv a1 4)) * 4)) = j_ := ⟨_, rfl⟩
    replace H : (if 0 ≤ (ji4) then (if (ji4) ≤ (wrap64 (a1 + 1)) then (if (wrap64 (a1 + 1)) ≤ (a0.size : Int) then ((posthornref04_begun.f k (a0.extract ((ji4) : Int).toNat ((wrap64 (a1 + 1)) : Int).toNat)).bind fun t217 => (some t217)) else (none)) else (none)) else (none)) = some r := by first | (rw [hji4] at H; exact H) | (simp only [hji4] at H ⊢; exact H)
    (try rw [hji4] at c3b0)
    (try rw [hji4] at c3b1)
    have hji4w : (IntKind.i64.wrap ((wrap64 (Int.tdiv a1 4)) * 4)) = ji4 := (i64_w _).trans hji4
    by_cases c5 : 0 ≤ (ji4)
    · rw [if_pos c5] at H
      have c5b0 := eq_true c5
      have c5b1 : decide (0 ≤ (ji4)) = true := decide_eq_true c5
      clear c5
      by_cases c6 : (ji4) ≤ (wrap64 (a1 + 1))
      · rw [if_pos c6] at H
        have c6b0 := eq_true c6
        have c6b1 : decide ((ji4) ≤ (wrap64 (a1 + 1))) = true := decide_eq_true c6
        by_cases c7 : (wrap64 (a1 + 1)) ≤ (a0.size : Int)
        · rw [if_pos c7] at H
          have c7b0 := eq_true c7
          have c7b1 : decide ((wrap64 (a1 + 1)) ≤ (a0.size : Int)) = true := decide_eq_true c7
          replace H := Option.bind_eq_some_iff.mp H
          obtain ⟨t217, A80, H⟩ := H
          replace H : (some t217) = some r := H
          have A8 := Aside0.mk A80
          clear A80
          obtain rfl := Option.some.inj H
          go_enter Try.func21, Try.ntmps21
          go_wp2_with (first | (go_at_call 25; (with_reducible refine (posthornref04_begun.calls k (a0.extract ((ji4) : Int).toNat ((wrap64 (a1 + 1)) : Int).toNat) t217 _ A8.out).mono ?_); rintro e w' ⟨rfl, ⟨nd, rfl⟩⟩))
          go_ret
          exact ⟨by first | rfl | (simp; done) | (simp only [← hji4] <;> (first | rfl | simp)) | (simp [*]; done), by repeat (first | exact Drawn0.refl _ | apply Drawn0.step)⟩
        · rw [if_neg c7] at H
          exact absurd H (by simp)
      · rw [if_neg c6] at H
        exact absurd H (by simp)
    · rw [if_neg c5] at H
      exact absurd H (by simp)
  · rw [if_neg c3] at H
    have c3b0 : ((wrap64 ((wrap64 (Int.tdiv a1 4)) * 4)) == 0) = false := beq_eq_false_iff_ne.mpr c3
    have c3b1 : ((wrap64 ((wrap64 (Int.tdiv a1 4)) * 4)) != 0) = true := bne_iff_ne.mpr c3
    obtain ⟨ji9, hji9⟩ : ∃ j_ : Int, (wrap64 ((wrap64 ((wrap64 (Int.tdiv a1 4)) * 4)) - 1)) = j_ := ⟨_, rfl⟩
    replace H : (if 0 ≤ (ji9) then (if (ji9) < (a0.size : Int) then (if (bt a0 (ji9)) = 61 then (some false) else (if 0 ≤ (wrap64 ((wrap64 (Int.tdiv a1 4)) * 4)) then (if (wrap64 ((wrap64 (Int.tdiv a1 4)) * 4)) ≤ (wrap64 (a1 + 1)) then (if (wrap64 (a1 + 1)) ≤ (a0.size : Int) then ((posthornref04_begun.f k (a0.extract ((wrap64 ((wrap64 (Int.tdiv a1 4)) * 4)) : Int).toNat ((wrap64 (a1 + 1)) : Int).toNat)).bind fun t218 => (some t218)) else (none)) else (none)) else (none))) else (none)) else (none)) = some r := by first | (rw [hji9] at H; exact H) | (simp only [hji9] at H ⊢; exact H)
    have hji9w : (IntKind.i64.wrap ((wrap64 ((wrap64 (Int.tdiv a1 4)) * 4)) - 1)) = ji9 := (i64_w _).trans hji9
    try rw [hji9] at hji4 hji4w
    by_cases c10 : 0 ≤ (ji9)
    · rw [if_pos c10] at H
      have c10b0 : decide (0 ≤ (ji9)) = true := decide_eq_true c10
      clear c10
      by_cases c11 : (ji9) < (a0.size : Int)
      · rw [if_pos c11] at H
        have c11b0 : decide ((ji9) < (a0.size : Int)) = true := decide_eq_true c11
        clear c11
        by_cases c13 : (bt a0 (ji9)) = 61
        · rw [if_pos c13] at H
          have c13b0 : ((bt a0 (ji9)) == 61) = true := beq_iff_eq.mpr c13
          have c13b1 : ((bt a0 (ji9)) != 61) = false := bne_eq_false_iff_eq.mpr c13
          clear c13
          obtain rfl := Option.some.inj H
          have p12 : 0 ≤ ((ji9) : Int) := of_decide_eq_true (by first | (with_reducible assumption) | assumption)
          have q12 : (ji9) < (a0.size : Int) := of_decide_eq_true (by first | (with_reducible assumption) | assumption)
          have hx12 := bt_at a0 (ji9)
          replace p12 := eq_true p12
          replace q12 := eq_true q12
          go_enter Try.func21, Try.ntmps21
          go_wp2
          go_ret
          exact ⟨by first | rfl | (simp; done) | (simp only [← hji9] <;> (first | rfl | simp)) | (simp [*]; done), by repeat (first | exact Drawn0.refl _ | apply Drawn0.step)⟩
        · rw [if_neg c13] at H
          have c13b0 : ((bt a0 (ji9)) == 61) = false := beq_eq_false_iff_ne.mpr c13
          have c13b1 : ((bt a0 (ji9)) != 61) = true := bne_iff_ne.mpr c13
          obtain ⟨ji14, hji14⟩ : ∃ j_ : Int, (wrap64 ((wrap64 (Int.tdiv a1 4)) * 4)) = j_ := ⟨_, rfl⟩
          replace H : (if 0 ≤ (ji14) then (if (ji14) ≤ (wrap64 (a1 + 1)) then (if (wrap64 (a1 + 1)) ≤ (a0.size : Int) then ((posthornref04_begun.f k (a0.extract ((ji14) : Int).toNat ((wrap64 (a1 + 1)) : Int).toNat)).bind fun t218 => (some t218)) else (none)) else (none)) else (none)) = some r := by first | (rw [hji14] at H; exact H) | (simp only [hji14] at H ⊢; exact H)
          (try rw [hji14] at c3b0)
          (try rw [hji14] at c3b1)
          have hji14w : (IntKind.i64.wrap ((wrap64 (Int.tdiv a1 4)) * 4)) = ji14 := (i64_w _).trans hji14
          try rw [hji14] at hji4 hji4w
          try rw [hji14] at hji9 hji9w
          by_cases c15 : 0 ≤ (ji14)
          · rw [if_pos c15] at H
            have c15b0 := eq_true c15
            have c15b1 : decide (0 ≤ (ji14)) = true := decide_eq_true c15
            clear c15
            by_cases c16 : (ji14) ≤ (wrap64 (a1 + 1))
            · rw [if_pos c16] at H
              have c16b0 := eq_true c16
              have c16b1 : decide ((ji14) ≤ (wrap64 (a1 + 1))) = true := decide_eq_true c16
              by_cases c17 : (wrap64 (a1 + 1)) ≤ (a0.size : Int)
              · rw [if_pos c17] at H
                have c17b0 := eq_true c17
                have c17b1 : decide ((wrap64 (a1 + 1)) ≤ (a0.size : Int)) = true := decide_eq_true c17
                replace H := Option.bind_eq_some_iff.mp H
                obtain ⟨t218, A180, H⟩ := H
                replace H : (some t218) = some r := H
                have A18 := Aside0.mk A180
                clear A180
                obtain rfl := Option.some.inj H
                have p12 : 0 ≤ ((ji9) : Int) := of_decide_eq_true (by first | (with_reducible assumption) | assumption)
                have q12 : (ji9) < (a0.size : Int) := of_decide_eq_true (by first | (with_reducible assumption) | assumption)
                have hx12 := bt_at a0 (ji9)
                replace p12 := eq_true p12
                replace q12 := eq_true q12
                go_enter Try.func21, Try.ntmps21
                go_wp2_with (first | (go_at_call 25; (with_reducible refine (posthornref04_begun.calls k (a0.extract ((ji14) : Int).toNat ((wrap64 (a1 + 1)) : Int).toNat) t218 _ A18.out).mono ?_); rintro e w' ⟨rfl, ⟨nd, rfl⟩⟩))
                go_ret
                exact ⟨by first | rfl | (simp; done) | (simp only [← hji9, ← hji14] <;> (first | rfl | simp)) | (simp [*]; done), by repeat (first | exact Drawn0.refl _ | apply Drawn0.step)⟩
              · rw [if_neg c17] at H
                exact absurd H (by simp)
            · rw [if_neg c16] at H
              exact absurd H (by simp)
          · rw [if_neg c15] at H
            exact absurd H (by simp)
      · rw [if_neg c11] at H
        exact absurd H (by simp)
    · rw [if_neg c10] at H
      exact absurd H (by simp)

/-! ### posthornref04_why: function 22 -/
def posthornref04_why.f (k : Nat) (a0 : Int) : Option (Int) := (posthornref04_number.f k a0).bind fun t219 => (if t219 < 0 then (if a0 = 61 then (some 41) else (some 40)) else (some 41))
theorem posthornref04_why.mono : ∀ a0 k, LeO (posthornref04_why.f k a0) (posthornref04_why.f (k + 1) a0) := by
  intro a0 k
  unfold posthornref04_why.f
  repeat' first
      | (with_reducible exact posthornref04_number.mono _ _)
      | (with_reducible exact LeO.refl _)
      | (with_reducible exact LeO.none _)
      | (with_reducible refine LeO.ite ?_ ?_)
      | (with_reducible refine LeO.bind ?_ (fun _ => ?_))
      | exact posthornref04_number.mono _ _
      | exact LeO.none _
      | refine LeO.ite ?_ ?_
      | refine LeO.bind ?_ (fun _ => ?_)
set_option maxHeartbeats 8000000 in
set_option maxRecDepth 100000 in
theorem posthornref04_why.calls (k : Nat) (a0 : Int) (r : Int) (w : World) (h : posthornref04_why.f k a0 = some r) :
    Calls Try.prog 22 #[.int .u8 a0] w fun e w' => e = .returned (.int .i64 r) ∧ Drawn0 w w' := by
  have H : ((posthornref04_number.f k a0).bind fun t219 => (if t219 < 0 then (if a0 = 61 then (some 41) else (some 40)) else (some 41))) = some r := h
  clear h
  replace H := Option.bind_eq_some_iff.mp H
  obtain ⟨t219, A20, H⟩ := H
  replace H : (if t219 < 0 then (if a0 = 61 then (some 41) else (some 40)) else (some 41)) = some r := H
  have A2 := Aside0.mk A20
  clear A20
  by_cases c3 : t219 < 0
  · rw [if_pos c3] at H
    have c3b0 : decide (t219 < 0) = true := decide_eq_true c3
    clear c3
    by_cases c4 : a0 = 61
    · rw [if_pos c4] at H
      have c4b0 : (a0 == 61) = true := beq_iff_eq.mpr c4
      have c4b1 : (a0 != 61) = false := bne_eq_false_iff_eq.mpr c4
      clear c4
      obtain rfl := Option.some.inj H
      go_enter Try.func22, Try.ntmps22
      go_wp2_with (first | ((with_reducible refine gate_callee (f := 26) rfl ?_); refine goesL_ (some 4) rfl rfl Try.func26 (by kernel_rfl) rfl #[.int .u8 a0] rfl (by (try simp only [List.map_toArray, List.map_cons, List.map_nil]); first | done | rfl | (simp only [List.length_drop, List.length_take]; rfl)) ?_; (with_reducible refine (posthornref04_number.calls k a0 t219 _ A2.out).mono ?_); rintro e w' ⟨rfl, ⟨nd, rfl⟩⟩; refine ⟨_, rfl, ?_⟩))
      go_ret
      exact ⟨by first | rfl | (simp; done) | (simp [*]; done), by repeat (first | exact Drawn0.refl _ | apply Drawn0.step)⟩
    · rw [if_neg c4] at H
      have c4b0 : (a0 == 61) = false := beq_eq_false_iff_ne.mpr c4
      have c4b1 : (a0 != 61) = true := bne_iff_ne.mpr c4
      obtain rfl := Option.some.inj H
      go_enter Try.func22, Try.ntmps22
      go_wp2_with (first | ((with_reducible refine gate_callee (f := 26) rfl ?_); refine goesL_ (some 4) rfl rfl Try.func26 (by kernel_rfl) rfl #[.int .u8 a0] rfl (by (try simp only [List.map_toArray, List.map_cons, List.map_nil]); first | done | rfl | (simp only [List.length_drop, List.length_take]; rfl)) ?_; (with_reducible refine (posthornref04_number.calls k a0 t219 _ A2.out).mono ?_); rintro e w' ⟨rfl, ⟨nd, rfl⟩⟩; refine ⟨_, rfl, ?_⟩))
      go_ret
      exact ⟨by first | rfl | (simp; done) | (simp [*]; done), by repeat (first | exact Drawn0.refl _ | apply Drawn0.step)⟩
  · rw [if_neg c3] at H
    have c3b0 : decide (t219 < 0) = false := decide_eq_false c3
    clear c3
    obtain rfl := Option.some.inj H
    go_enter Try.func22, Try.ntmps22
    go_wp2_with (first | ((with_reducible refine gate_callee (f := 26) rfl ?_); refine goesL_ (some 4) rfl rfl Try.func26 (by kernel_rfl) rfl #[.int .u8 a0] rfl (by (try simp only [List.map_toArray, List.map_cons, List.map_nil]); first | done | rfl | (simp only [List.length_drop, List.length_take]; rfl)) ?_; (with_reducible refine (posthornref04_number.calls k a0 t219 _ A2.out).mono ?_); rintro e w' ⟨rfl, ⟨nd, rfl⟩⟩; refine ⟨_, rfl, ?_⟩))
    go_ret
    exact ⟨by first | rfl | (simp; done) | (simp [*]; done), by repeat (first | exact Drawn0.refl _ | apply Drawn0.step)⟩

end Go.Proofs.Ytokgckhhhhigiaa.G
