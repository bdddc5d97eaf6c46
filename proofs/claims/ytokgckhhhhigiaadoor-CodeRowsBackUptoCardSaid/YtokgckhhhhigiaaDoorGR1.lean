-- Printed by wip/tools/gprint.py (this session's program) out of the translation. Not trusted: Lean checks it.
import Derived.Test.YtokgckhhhhigiaaDoorGR0
import Derived.Test.YtokgckhhhhigiaaDoorCod
namespace Go.Proofs.YtokgckhhhhigiaaDoor.GR
open Go.RowKit Go.Proofs.YtokgckhhhhigiaaDoor.Glob Go.Proofs.YtokgckhhhhigiaaDoor.M Go.Proofs.YtokgckhhhhigiaaDoor.CM Go.Proofs.YtokgckhhhhigiaaDoorW.PrintWords Go.Proofs.YtokgckhhhhigiaaDoorW.PrintLast Go.Proofs.YtokgckhhhhigiaaDoorW.PrintMore
attribute [local go_sem] max2_int min2_int max_two min_two max_three min_three max_four min_four   -- for this text's walks alone
set_option linter.unusedVariables false
set_option linter.unusedSimpArgs false

-- NOT PRINTED: function 24 (code_ends)

-- NOT PRINTED: function 26 (octet_HexOf)

-- NOT PRINTED: function 50 (octet_Span_string)

-- NOT PRINTED: function 41 (octet_Bad_string)

-- NOT PRINTED: function 51 (octet_upper)

-- NOT PRINTED: function 42 (octet_value)

-- NOT PRINTED: function 31 (octet_Unhex)

-- NOT PRINTED: function 32 (code_New)

-- NOT PRINTED: function 43 (code_value)

-- NOT PRINTED: function 44 (code_Reader_next)

-- NOT PRINTED: function 34 (code_Reader_take)

-- NOT PRINTED: function 33 (code_Reader_Feed)

-- NOT PRINTED: function 38 (code_Reader_Close)

/-! ### posthornlaw04_CodeRowsBack: function 10 -/
mutual
def posthornlaw04_CodeRowsBack.j0 : Nat → List Int → Int → List Int → ByteArray → Int → Bool → Option (Bool)
  | 0, _, _, _, _, _, _ => none
  | k + 1, x0, x1, x2, x7, x8, x34 => if x34 = true then (if x8 = 2 then (some (x7.toList == ([] : List UInt8))) else (some false)) else (posthornlaw04_CodeRowsBack.l0 k x0 x1 x2 x7 x8 0 (⟨#[]⟩ : ByteArray))
def posthornlaw04_CodeRowsBack.l0 : Nat → List Int → Int → List Int → ByteArray → Int → Int → ByteArray → Option (Bool)
  | 0, _, _, _, _, _, _, _ => none
  | k + 1, x0, x1, x2, x7, x8, x9, x10 => if x9 < (x7.size : Int) then (posthornlaw04_CodeRowsBack.l1 k x0 x1 x2 x7 x8 x9 x10 0) else (if x7.size ≤ 9223372036854775807 then ((posthornlaw04_fed.f (bytesOf x7) x2).bind fun bt107 => (if x8 = 0 then ((code_Base64.f x0).bind fun t113 => (if x10.toList = t113.toList then (if bt107.2.2.2 = true then (if bt107.2.1 = 0 then (if bt107.2.2.1 = 0 then (some ((strOfNums bt107.1).toList == (strOfNums x0).toList)) else (some false)) else (some false)) else (some false)) else (some false))) else (some false))) else (none))
def posthornlaw04_CodeRowsBack.l1 : Nat → List Int → Int → List Int → ByteArray → Int → Int → ByteArray → Int → Option (Bool)
  | 0, _, _, _, _, _, _, _, _ => none
  | k + 1, x0, x1, x2, x7, x8, x9, x10, x11 => if (wrap64 (x9 + x11)) < (x7.size : Int) then (if 0 ≤ (wrap64 (x9 + x11)) then (if (bt x7 (wrap64 (x9 + x11))) = 13 then (if x11 < 1 then (some false) else (if x11 > x1 then (some false) else (if (wrap64 ((wrap64 (x9 + x11)) + 2)) > (x7.size : Int) then (some false) else (if 0 ≤ (wrap64 ((wrap64 (x9 + x11)) + 1)) then (if (wrap64 ((wrap64 (x9 + x11)) + 1)) < (x7.size : Int) then (if (bt x7 (wrap64 ((wrap64 (x9 + x11)) + 1))) = 10 then (if x11 < x1 then (if (wrap64 ((wrap64 (x9 + x11)) + 2)) = (x7.size : Int) then (if 0 ≤ x9 then (if x9 ≤ (wrap64 (x9 + x11)) then (if (wrap64 (x9 + x11)) ≤ (x7.size : Int) then (if x10.size + (x7.extract (x9 : Int).toNat ((wrap64 (x9 + x11)) : Int).toNat).size ≤ 9223372036854775807 then (posthornlaw04_CodeRowsBack.l0 k x0 x1 x2 x7 x8 (wrap64 ((wrap64 (x9 + x11)) + 2)) (x10 ++ (x7.extract (x9 : Int).toNat ((wrap64 (x9 + x11)) : Int).toNat))) else (none)) else (none)) else (none)) else (none)) else (some false)) else (if 0 ≤ x9 then (if x9 ≤ (wrap64 (x9 + x11)) then (if (wrap64 (x9 + x11)) ≤ (x7.size : Int) then (if x10.size + (x7.extract (x9 : Int).toNat ((wrap64 (x9 + x11)) : Int).toNat).size ≤ 9223372036854775807 then (posthornlaw04_CodeRowsBack.l0 k x0 x1 x2 x7 x8 (wrap64 ((wrap64 (x9 + x11)) + 2)) (x10 ++ (x7.extract (x9 : Int).toNat ((wrap64 (x9 + x11)) : Int).toNat))) else (none)) else (none)) else (none)) else (none))) else (some false)) else (none)) else (none))))) else (posthornlaw04_CodeRowsBack.l1 k x0 x1 x2 x7 x8 x9 x10 (wrap64 (x11 + 1)))) else (none)) else (if x11 < 1 then (some false) else (if x11 > x1 then (some false) else (if (wrap64 ((wrap64 (x9 + x11)) + 2)) > (x7.size : Int) then (some false) else (if 0 ≤ (wrap64 ((wrap64 (x9 + x11)) + 1)) then (if (wrap64 ((wrap64 (x9 + x11)) + 1)) < (x7.size : Int) then (if (bt x7 (wrap64 ((wrap64 (x9 + x11)) + 1))) = 10 then (if x11 < x1 then (if (wrap64 ((wrap64 (x9 + x11)) + 2)) = (x7.size : Int) then (if 0 ≤ x9 then (if x9 ≤ (wrap64 (x9 + x11)) then (if (wrap64 (x9 + x11)) ≤ (x7.size : Int) then (if x10.size + (x7.extract (x9 : Int).toNat ((wrap64 (x9 + x11)) : Int).toNat).size ≤ 9223372036854775807 then (posthornlaw04_CodeRowsBack.l0 k x0 x1 x2 x7 x8 (wrap64 ((wrap64 (x9 + x11)) + 2)) (x10 ++ (x7.extract (x9 : Int).toNat ((wrap64 (x9 + x11)) : Int).toNat))) else (none)) else (none)) else (none)) else (none)) else (some false)) else (if 0 ≤ x9 then (if x9 ≤ (wrap64 (x9 + x11)) then (if (wrap64 (x9 + x11)) ≤ (x7.size : Int) then (if x10.size + (x7.extract (x9 : Int).toNat ((wrap64 (x9 + x11)) : Int).toNat).size ≤ 9223372036854775807 then (posthornlaw04_CodeRowsBack.l0 k x0 x1 x2 x7 x8 (wrap64 ((wrap64 (x9 + x11)) + 2)) (x10 ++ (x7.extract (x9 : Int).toNat ((wrap64 (x9 + x11)) : Int).toNat))) else (none)) else (none)) else (none)) else (none))) else (some false)) else (none)) else (none)))))
end
def posthornlaw04_CodeRowsBack.f (k : Nat) (l0 : List Int) (a1 : Int) (l2 : List Int) : Option (Bool) := (posthornlaw04_wakes.f).bind fun t101 => (if t101 = true then ((code_Rows.f l0 a1).bind fun bt102 => (if a1 < 4 then (posthornlaw04_CodeRowsBack.j0 k l0 a1 l2 bt102.1 bt102.2 true) else (if a1 > 76 then (posthornlaw04_CodeRowsBack.j0 k l0 a1 l2 bt102.1 bt102.2 true) else (posthornlaw04_CodeRowsBack.j0 k l0 a1 l2 bt102.1 bt102.2 ((Int.tmod a1 4) != 0))))) else (some false))
theorem posthornlaw04_CodeRowsBack.mono_l : ∀ k, (∀ y0 y1 y2 y3 y4 y5, LeO (posthornlaw04_CodeRowsBack.j0 k y0 y1 y2 y3 y4 y5) (posthornlaw04_CodeRowsBack.j0 (k + 1) y0 y1 y2 y3 y4 y5)) ∧ (∀ y0 y1 y2 y3 y4 y5 y6, LeO (posthornlaw04_CodeRowsBack.l0 k y0 y1 y2 y3 y4 y5 y6) (posthornlaw04_CodeRowsBack.l0 (k + 1) y0 y1 y2 y3 y4 y5 y6)) ∧ (∀ y0 y1 y2 y3 y4 y5 y6 y7, LeO (posthornlaw04_CodeRowsBack.l1 k y0 y1 y2 y3 y4 y5 y6 y7) (posthornlaw04_CodeRowsBack.l1 (k + 1) y0 y1 y2 y3 y4 y5 y6 y7))
  | 0 => ⟨fun _ _ _ _ _ _ r h => by simp [posthornlaw04_CodeRowsBack.j0] at h, fun _ _ _ _ _ _ _ r h => by simp [posthornlaw04_CodeRowsBack.l0] at h, fun _ _ _ _ _ _ _ _ r h => by simp [posthornlaw04_CodeRowsBack.l1] at h⟩
  | k + 1 => by
    obtain ⟨ih0, ih1, ih2⟩ := posthornlaw04_CodeRowsBack.mono_l k
    refine ⟨?_, ?_, ?_⟩
    · intro y0 y1 y2 y3 y4 y5
      unfold posthornlaw04_CodeRowsBack.j0
      repeat' first
      | (with_reducible exact ih0 _ _ _ _ _ _)
      | (with_reducible exact ih1 _ _ _ _ _ _ _)
      | (with_reducible exact ih2 _ _ _ _ _ _ _ _)
      | (with_reducible exact LeO.refl _)
      | (with_reducible exact LeO.none _)
      | (with_reducible refine LeO.ite ?_ ?_)
      | (with_reducible refine LeO.bind ?_ (fun _ => ?_))
      | exact ih0 _ _ _ _ _ _
      | exact ih1 _ _ _ _ _ _ _
      | exact ih2 _ _ _ _ _ _ _ _
      | exact LeO.none _
      | refine LeO.ite ?_ ?_
      | refine LeO.bind ?_ (fun _ => ?_)
    · intro y0 y1 y2 y3 y4 y5 y6
      unfold posthornlaw04_CodeRowsBack.l0
      repeat' first
      | (with_reducible exact ih0 _ _ _ _ _ _)
      | (with_reducible exact ih1 _ _ _ _ _ _ _)
      | (with_reducible exact ih2 _ _ _ _ _ _ _ _)
      | (with_reducible exact LeO.refl _)
      | (with_reducible exact LeO.none _)
      | (with_reducible refine LeO.ite ?_ ?_)
      | (with_reducible refine LeO.bind ?_ (fun _ => ?_))
      | exact ih0 _ _ _ _ _ _
      | exact ih1 _ _ _ _ _ _ _
      | exact ih2 _ _ _ _ _ _ _ _
      | exact LeO.none _
      | refine LeO.ite ?_ ?_
      | refine LeO.bind ?_ (fun _ => ?_)
    · intro y0 y1 y2 y3 y4 y5 y6 y7
      unfold posthornlaw04_CodeRowsBack.l1
      repeat' first
      | (with_reducible exact ih0 _ _ _ _ _ _)
      | (with_reducible exact ih1 _ _ _ _ _ _ _)
      | (with_reducible exact ih2 _ _ _ _ _ _ _ _)
      | (with_reducible exact LeO.refl _)
      | (with_reducible exact LeO.none _)
      | (with_reducible refine LeO.ite ?_ ?_)
      | (with_reducible refine LeO.bind ?_ (fun _ => ?_))
      | exact ih0 _ _ _ _ _ _
      | exact ih1 _ _ _ _ _ _ _
      | exact ih2 _ _ _ _ _ _ _ _
      | exact LeO.none _
      | refine LeO.ite ?_ ?_
      | refine LeO.bind ?_ (fun _ => ?_)
theorem posthornlaw04_CodeRowsBack.mono : ∀ a0 a1 a2 k, LeO (posthornlaw04_CodeRowsBack.f k a0 a1 a2) (posthornlaw04_CodeRowsBack.f (k + 1) a0 a1 a2) := by
  intro a0 a1 a2 k
  obtain ⟨ih0, ih1, ih2⟩ := posthornlaw04_CodeRowsBack.mono_l k
  unfold posthornlaw04_CodeRowsBack.f
  repeat' first
      | (with_reducible exact ih0 _ _ _ _ _ _)
      | (with_reducible exact ih1 _ _ _ _ _ _ _)
      | (with_reducible exact ih2 _ _ _ _ _ _ _ _)
      | (with_reducible exact LeO.refl _)
      | (with_reducible exact LeO.none _)
      | (with_reducible refine LeO.ite ?_ ?_)
      | (with_reducible refine LeO.bind ?_ (fun _ => ?_))
      | exact ih0 _ _ _ _ _ _
      | exact ih1 _ _ _ _ _ _ _
      | exact ih2 _ _ _ _ _ _ _ _
      | exact LeO.none _
      | refine LeO.ite ?_ ?_
      | refine LeO.bind ?_ (fun _ => ?_)
set_option maxHeartbeats 8000000 in
set_option maxRecDepth 100000 in
theorem posthornlaw04_CodeRowsBack.calls (k : Nat) (A0 : Option Addr) (c0 : Nat) (l0 : List Int) (a1 : Int) (A2 : Option Addr) (c2 : Nat) (l2 : List Int) (r : Bool) (w : World) (hr0 : Kd.C (Kd.int .u8) w A0 l0.length l0) (hc0 : l0.length ≤ c0) (hr2 : Kd.C (Kd.int .i64) w A2 l2.length l2) (hc2 : l2.length ≤ c2) (HG : GOk w) (h : posthornlaw04_CodeRowsBack.f k l0 a1 l2 = some r) :
    Calls Tryd.prog 10 #[.slice A0 l0.length c0, .int .i64 a1, .slice A2 l2.length c2] w fun e w' => e = .returned (.bool r) ∧ Below w.heap.size w w' := by
  have HR0 := Aside0.mk hr0
  have HC0 := Aside0.mk hc0
  clear hr0 hc0
  have HR2 := Aside0.mk hr2
  have HC2 := Aside0.mk hc2
  clear hr2 hc2
  have HB := Aside0.mk (Below.refl w.heap.size w)
  have H : ((posthornlaw04_wakes.f).bind fun t101 => (if t101 = true then ((code_Rows.f l0 a1).bind fun bt102 => (if a1 < 4 then (posthornlaw04_CodeRowsBack.j0 k l0 a1 l2 bt102.1 bt102.2 true) else (if a1 > 76 then (posthornlaw04_CodeRowsBack.j0 k l0 a1 l2 bt102.1 bt102.2 true) else (posthornlaw04_CodeRowsBack.j0 k l0 a1 l2 bt102.1 bt102.2 ((Int.tmod a1 4) != 0))))) else (some false))) = some r := h
  clear h
  replace H := Option.bind_eq_some_iff.mp H
  obtain ⟨t101, A40, H⟩ := H
  replace H : (if t101 = true then ((code_Rows.f l0 a1).bind fun bt102 => (if a1 < 4 then (posthornlaw04_CodeRowsBack.j0 k l0 a1 l2 bt102.1 bt102.2 true) else (if a1 > 76 then (posthornlaw04_CodeRowsBack.j0 k l0 a1 l2 bt102.1 bt102.2 true) else (posthornlaw04_CodeRowsBack.j0 k l0 a1 l2 bt102.1 bt102.2 ((Int.tmod a1 4) != 0))))) else (some false)) = some r := H
  have A4 := Aside0.mk A40
  clear A40
  by_cases c5 : t101 = true
  · subst c5
    have H1 : ((code_Rows.f l0 a1).bind fun bt102 => (if a1 < 4 then (posthornlaw04_CodeRowsBack.j0 k l0 a1 l2 bt102.1 bt102.2 true) else (if a1 > 76 then (posthornlaw04_CodeRowsBack.j0 k l0 a1 l2 bt102.1 bt102.2 true) else (posthornlaw04_CodeRowsBack.j0 k l0 a1 l2 bt102.1 bt102.2 ((Int.tmod a1 4) != 0))))) = some r := by rw [if_pos rfl] at H; exact H
    clear H
    have H := H1
    clear H1
    replace H := Option.bind_eq_some_iff.mp H
    obtain ⟨⟨t102, t103⟩, A60, H⟩ := H
    replace H : (if a1 < 4 then (posthornlaw04_CodeRowsBack.j0 k l0 a1 l2 t102 t103 true) else (if a1 > 76 then (posthornlaw04_CodeRowsBack.j0 k l0 a1 l2 t102 t103 true) else (posthornlaw04_CodeRowsBack.j0 k l0 a1 l2 t102 t103 ((Int.tmod a1 4) != 0)))) = some r := H
    have A6 := Aside0.mk A60
    clear A60
    have HC7 := Aside0.mk H
    clear H
    go_enter Tryd.func10, Tryd.ntmps10
    go_upto_region 4 with (first | ((with_reducible refine gate_callee (f := 18) rfl ?_); refine goesL_ (some 16) rfl rfl Tryd.func18 (by kernel_rfl) rfl #[] rfl (by (try simp only [List.map_toArray, List.map_cons, List.map_nil]); first | done | rfl | (simp only [List.length_drop, List.length_take]; rfl)) ?_; (with_reducible refine (posthornlaw04_wakes.calls  true _ ?side1 A4.out).mono ?_); (case side1 => exact GOk.of_below HG (by repeat (first | (with_reducible first | exact HB.out | apply below_alloc | apply pw_below_drewN | apply below_drew1) | exact HB.out))); rintro e w8 ⟨rfl, hb⟩; refine ⟨_, rfl, ?_⟩; have n0_ := Aside0.mk (below_step (by repeat (first | (with_reducible first | exact HB.out | apply below_alloc | apply pw_below_drewN | apply below_drew1) | exact HB.out)) hb); clear HB; have HB := n0_; clear n0_; (try clear hb); (try clear hb2); (try clear hk); (try clear hi)) | ((with_reducible refine gate_callee (f := 23) rfl ?_); refine goesL_ (some 21) rfl rfl Tryd.func23 (by kernel_rfl) rfl #[.slice A0 l0.length c0, .int .i64 a1] rfl (by (try simp only [List.map_toArray, List.map_cons, List.map_nil]); first | done | rfl | (simp only [List.length_drop, List.length_take]; rfl)) ?_; (with_reducible refine (code_Rows.calls _ _ l0 a1 t102 t103 _ ?side1 ?side2 A6.out).mono ?_); (case side1 => repeat (first | exact (Kd.C_below HR0.out HB.out) | (with_reducible refine Kd.C_alloc ?_ _) | (with_reducible refine Kd.C_drewN ?_ _) | (with_reducible refine Kd.C_drew ?_))); (case side2 => exact HC0.out); rintro e w9 ⟨rfl, hb⟩; refine ⟨_, rfl, ?_⟩; have n0_ := Aside0.mk (below_step (by repeat (first | (with_reducible first | exact HB.out | apply below_alloc | apply pw_below_drewN | apply below_drew1) | exact HB.out)) hb); clear HB; have HB := n0_; clear n0_; (try clear hb); (try clear hb2); (try clear hk); (try clear hi)))
    (try simp only [Act.put, List.setIfInBounds_toArray, List.set_cons_zero, List.set_cons_succ])
    go_cut [34] (fun v34 wc => ∃ (kq : Nat) (x34_6 : Bool), v34 = .bool x34_6 ∧ Aside0 (posthornlaw04_CodeRowsBack.j0 kq l0 a1 l2 t102 t103 x34_6 = some r) ∧ Aside0 (kq ≤ k) ∧ Aside0 (Below w.heap.size w wc))
    case first =>
      have H := HC7.out
      clear HC7
      by_cases c10 : a1 < 4
      · rw [if_pos c10] at H
        have c10b0 : decide (a1 < 4) = true := decide_eq_true c10
        clear c10
        (first | rw [c10b0] | (simp only [i64_w, i32_w]; rw [c10b0]) | skip)
        have H' := Aside0.mk H
        clear H
        go_wp2
        go_meet
        case rel => exact ⟨_, (true), (by first | rfl | (simp; done) | (simp [*]; done)), H', ⟨by first | omega | exact Nat.le_refl _⟩, ⟨by repeat (first | (with_reducible first | exact HB.out | apply below_alloc | apply pw_below_drewN | apply below_drew1) | exact HB.out)⟩⟩
      · rw [if_neg c10] at H
        have c10b0 : decide (a1 < 4) = false := decide_eq_false c10
        clear c10
        (first | rw [c10b0] | (simp only [i64_w, i32_w]; rw [c10b0]) | skip)
        by_cases c11 : a1 > 76
        · rw [if_pos c11] at H
          have c11b0 : decide (76 < a1) = true := decide_eq_true c11
          clear c11
          have H' := Aside0.mk H
          clear H
          go_wp2
          go_meet
          case rel => exact ⟨_, (true), (by first | rfl | (simp; done) | (simp [*]; done)), H', ⟨by first | omega | exact Nat.le_refl _⟩, ⟨by repeat (first | (with_reducible first | exact HB.out | apply below_alloc | apply pw_below_drewN | apply below_drew1) | exact HB.out)⟩⟩
        · rw [if_neg c11] at H
          have c11b0 : decide (76 < a1) = false := decide_eq_false c11
          clear c11
          have H' := Aside0.mk H
          clear H
          go_wp2
          go_meet
          case rel => exact ⟨_, (((Int.tmod a1 4) != 0)), (by first | rfl | (simp; done) | (simp [*]; done)), H', ⟨by first | omega | exact Nat.le_refl _⟩, ⟨by repeat (first | (with_reducible first | exact HB.out | apply below_alloc | apply pw_below_drewN | apply below_drew1) | exact HB.out)⟩⟩
    case rest =>
      clear HC7
      try clear c1
      try clear c2
      try clear p2
      try clear c5
      try clear c10
      try clear c10b0
      try clear c11
      try clear c11b0
      obtain ⟨kq, x34_6, rfl, HA, HJ6, HB⟩ := hcut
      cases kq with
      | zero => exact absurd HA.out (by simp [posthornlaw04_CodeRowsBack.j0])
      | succ kj6 =>
        have H := HA.out
        clear HA
        simp only [posthornlaw04_CodeRowsBack.j0] at H
        by_cases c12 : x34_6 = true
        · subst c12
          have H1 : (if t103 = 2 then (some (t102.toList == ([] : List UInt8))) else (some false)) = some r := by rw [if_pos rfl] at H; exact H
          clear H
          have H := H1
          clear H1
          by_cases c13 : t103 = 2
          · rw [if_pos c13] at H
            have c13b0 : (t103 == 2) = true := beq_iff_eq.mpr c13
            have c13b1 : (t103 != 2) = false := bne_eq_false_iff_eq.mpr c13
            clear c13
            obtain rfl := Option.some.inj H
            go_wp2
            go_ret
            exact ⟨by first | rfl | (simp [errW_none, errW_some] <;> rfl) | (simp [*, errW_none, errW_some] <;> rfl), by repeat (first | (with_reducible first | exact HB.out | apply below_alloc | apply pw_below_drewN | apply below_drew1) | exact HB.out)⟩
          · rw [if_neg c13] at H
            have c13b0 : (t103 == 2) = false := beq_eq_false_iff_ne.mpr c13
            have c13b1 : (t103 != 2) = true := bne_iff_ne.mpr c13
            obtain rfl := Option.some.inj H
            go_wp2
            go_ret
            exact ⟨by first | rfl | (simp [errW_none, errW_some] <;> rfl) | (simp [*, errW_none, errW_some] <;> rfl), by repeat (first | (with_reducible first | exact HB.out | apply below_alloc | apply pw_below_drewN | apply below_drew1) | exact HB.out)⟩
        · replace c12 := Bool.eq_false_iff.mpr c12
          subst c12
          have H1 : (posthornlaw04_CodeRowsBack.l0 kj6 l0 a1 l2 t102 t103 0 (⟨#[]⟩ : ByteArray)) = some r := by rw [if_neg (show ¬ (false = true) by decide)] at H; exact H
          clear H
          have H := H1
          clear H1
          have H' := Aside0.mk H
          clear H
          go_wp2
          go_loopg [9, 10] kj6 (fun kq v9 v10 w' => ∃ (x9_2 : Int) (x10_2 : ByteArray), v9 = .int .i64 x9_2 ∧ v10 = .string x10_2 ∧ Aside0 (posthornlaw04_CodeRowsBack.l0 kq l0 a1 l2 t102 t103 x9_2 x10_2 = some r) ∧ Aside0 (kq ≤ kj6) ∧ Aside0 (Below w.heap.size w w'))
          case atStart => exact ⟨(0), ((⟨#[]⟩ : ByteArray)), (by first | rfl | (simp; done) | (simp [*]; done)), (by first | rfl | (simp; done) | (simp [*]; done)), H', ⟨Nat.le_refl _⟩, ⟨by repeat (first | (with_reducible first | exact HB.out | apply below_alloc | apply pw_below_drewN | apply below_drew1) | exact HB.out)⟩⟩
          case round =>
            clear H'
            try clear c1
            try clear c2
            try clear p2
            try clear c5
            try clear c10
            try clear c10b0
            try clear c11
            try clear c11b0
            try clear c12
            try clear c13
            try clear c13b0
            try clear c13b1
            try clear p2
            obtain ⟨x9_2, x10_2, rfl, rfl, HA, HK2, HB⟩ := hrel
            cases gk with
            | zero => exact absurd HA.out (by simp [posthornlaw04_CodeRowsBack.l0])
            | succ k2 =>
              have H := HA.out
              clear HA
              simp only [posthornlaw04_CodeRowsBack.l0] at H
              by_cases c14 : x9_2 < (t102.size : Int)
              · rw [if_pos c14] at H
                have c14b0 : decide (x9_2 < (t102.size : Int)) = true := decide_eq_true c14
                clear c14
                have H' := Aside0.mk H
                clear H
                go_wp2
                go_loopg [11] k2 (fun kq v11 w' => ∃ (x11_3 : Int), v11 = .int .i64 x11_3 ∧ Aside0 (posthornlaw04_CodeRowsBack.l1 kq l0 a1 l2 t102 t103 x9_2 x10_2 x11_3 = some r) ∧ Aside0 (kq ≤ k2) ∧ Aside0 (Below w.heap.size w w'))
                case atStart => exact ⟨(0), (by first | rfl | (simp; done) | (simp [*]; done)), H', ⟨Nat.le_refl _⟩, ⟨by repeat (first | (with_reducible first | exact HB.out | apply below_alloc | apply pw_below_drewN | apply below_drew1) | exact HB.out)⟩⟩
                case round =>
                  clear H'
                  try clear c1
                  try clear c2
                  try clear p2
                  try clear c5
                  try clear c10
                  try clear c10b0
                  try clear c11
                  try clear c11b0
                  try clear c12
                  try clear c13
                  try clear c13b0
                  try clear c13b1
                  try clear c14
                  try clear c14b0
                  try clear p2
                  obtain ⟨x11_3, rfl, HA, HK3, HB⟩ := hrel
                  cases gk with
                  | zero => exact absurd HA.out (by simp [posthornlaw04_CodeRowsBack.l1])
                  | succ k3 =>
                    have H := HA.out
                    clear HA
                    simp only [posthornlaw04_CodeRowsBack.l1] at H
                    by_cases c15 : (wrap64 (x9_2 + x11_3)) < (t102.size : Int)
                    · rw [if_pos c15] at H
                      have c15b0 : decide ((wrap64 (x9_2 + x11_3)) < (t102.size : Int)) = true := decide_eq_true c15
                      clear c15
                      obtain ⟨ji16, hji16⟩ : ∃ j_ : Int, (wrap64 (x9_2 + x11_3)) = j_ := ⟨_, rfl⟩
                      replace H : (if 0 ≤ (ji16) then (if (bt t102 (ji16)) = 13 then (if x11_3 < 1 then (some false) else (if x11_3 > a1 then (some false) else (if (wrap64 ((ji16) + 2)) > (t102.size : Int) then (some false) else (if 0 ≤ (wrap64 ((ji16) + 1)) then (if (wrap64 ((ji16) + 1)) < (t102.size : Int) then (if (bt t102 (wrap64 ((ji16) + 1))) = 10 then (if x11_3 < a1 then (if (wrap64 ((ji16) + 2)) = (t102.size : Int) then (if 0 ≤ x9_2 then (if x9_2 ≤ (ji16) then (if (ji16) ≤ (t102.size : Int) then (if x10_2.size + (t102.extract (x9_2 : Int).toNat ((ji16) : Int).toNat).size ≤ 9223372036854775807 then (posthornlaw04_CodeRowsBack.l0 k3 l0 a1 l2 t102 t103 (wrap64 ((ji16) + 2)) (x10_2 ++ (t102.extract (x9_2 : Int).toNat ((ji16) : Int).toNat))) else (none)) else (none)) else (none)) else (none)) else (some false)) else (if 0 ≤ x9_2 then (if x9_2 ≤ (ji16) then (if (ji16) ≤ (t102.size : Int) then (if x10_2.size + (t102.extract (x9_2 : Int).toNat ((ji16) : Int).toNat).size ≤ 9223372036854775807 then (posthornlaw04_CodeRowsBack.l0 k3 l0 a1 l2 t102 t103 (wrap64 ((ji16) + 2)) (x10_2 ++ (t102.extract (x9_2 : Int).toNat ((ji16) : Int).toNat))) else (none)) else (none)) else (none)) else (none))) else (some false)) else (none)) else (none))))) else (posthornlaw04_CodeRowsBack.l1 k3 l0 a1 l2 t102 t103 x9_2 x10_2 (wrap64 (x11_3 + 1)))) else (none)) = some r := by first | (rw [hji16] at H; exact H) | (simp only [hji16] at H ⊢; exact H)
                      (try rw [hji16] at c15b0)
                      have hji16w : (IntKind.i64.wrap (x9_2 + x11_3)) = ji16 := (i64_w _).trans hji16
                      by_cases c17 : 0 ≤ (ji16)
                      · rw [if_pos c17] at H
                        have c17b0 : decide (0 ≤ (ji16)) = true := decide_eq_true c17
                        clear c17
                        by_cases c19 : (bt t102 (ji16)) = 13
                        · rw [if_pos c19] at H
                          have c19b0 : ((bt t102 (ji16)) == 13) = true := beq_iff_eq.mpr c19
                          have c19b1 : ((bt t102 (ji16)) != 13) = false := bne_eq_false_iff_eq.mpr c19
                          clear c19
                          by_cases c20 : x11_3 < 1
                          · rw [if_pos c20] at H
                            have c20b0 : decide (x11_3 < 1) = true := decide_eq_true c20
                            clear c20
                            obtain rfl := Option.some.inj H
                            have p18 : 0 ≤ ((ji16) : Int) := of_decide_eq_true (by first | (with_reducible assumption) | assumption)
                            have q18 : (ji16) < (t102.size : Int) := of_decide_eq_true (by first | (with_reducible assumption) | assumption)
                            have hx18 := bt_at t102 (ji16)
                            replace p18 := eq_true p18
                            replace q18 := eq_true q18
                            go_wp2
                            go_ret
                            exact ⟨by first | rfl | (simp [errW_none, errW_some] <;> rfl) | (simp only [← hji16]; first | rfl | (simp [errW_none, errW_some] <;> rfl)) | (simp [*, errW_none, errW_some] <;> rfl), by repeat (first | (with_reducible first | exact HB.out | apply below_alloc | apply pw_below_drewN | apply below_drew1) | exact HB.out)⟩
                          · rw [if_neg c20] at H
                            have c20b0 : decide (x11_3 < 1) = false := decide_eq_false c20
                            clear c20
                            by_cases c21 : x11_3 > a1
                            · rw [if_pos c21] at H
                              have c21b0 : decide (a1 < x11_3) = true := decide_eq_true c21
                              clear c21
                              obtain rfl := Option.some.inj H
                              have p18 : 0 ≤ ((ji16) : Int) := of_decide_eq_true (by first | (with_reducible assumption) | assumption)
                              have q18 : (ji16) < (t102.size : Int) := of_decide_eq_true (by first | (with_reducible assumption) | assumption)
                              have hx18 := bt_at t102 (ji16)
                              replace p18 := eq_true p18
                              replace q18 := eq_true q18
                              go_wp2
                              go_ret
                              exact ⟨by first | rfl | (simp [errW_none, errW_some] <;> rfl) | (simp only [← hji16]; first | rfl | (simp [errW_none, errW_some] <;> rfl)) | (simp [*, errW_none, errW_some] <;> rfl), by repeat (first | (with_reducible first | exact HB.out | apply below_alloc | apply pw_below_drewN | apply below_drew1) | exact HB.out)⟩
                            · rw [if_neg c21] at H
                              have c21b0 : decide (a1 < x11_3) = false := decide_eq_false c21
                              clear c21
                              by_cases c22 : (wrap64 ((ji16) + 2)) > (t102.size : Int)
                              · rw [if_pos c22] at H
                                have c22b0 : decide ((t102.size : Int) < (wrap64 ((ji16) + 2))) = true := decide_eq_true c22
                                clear c22
                                obtain rfl := Option.some.inj H
                                have p18 : 0 ≤ ((ji16) : Int) := of_decide_eq_true (by first | (with_reducible assumption) | assumption)
                                have q18 : (ji16) < (t102.size : Int) := of_decide_eq_true (by first | (with_reducible assumption) | assumption)
                                have hx18 := bt_at t102 (ji16)
                                replace p18 := eq_true p18
                                replace q18 := eq_true q18
                                go_wp2
                                go_ret
                                exact ⟨by first | rfl | (simp [errW_none, errW_some] <;> rfl) | (simp only [← hji16]; first | rfl | (simp [errW_none, errW_some] <;> rfl)) | (simp [*, errW_none, errW_some] <;> rfl), by repeat (first | (with_reducible first | exact HB.out | apply below_alloc | apply pw_below_drewN | apply below_drew1) | exact HB.out)⟩
                              · rw [if_neg c22] at H
                                have c22b0 : decide ((t102.size : Int) < (wrap64 ((ji16) + 2))) = false := decide_eq_false c22
                                clear c22
                                obtain ⟨ji23, hji23⟩ : ∃ j_ : Int, (wrap64 ((ji16) + 1)) = j_ := ⟨_, rfl⟩
                                replace H : (if 0 ≤ (ji23) then (if (ji23) < (t102.size : Int) then (if (bt t102 (ji23)) = 10 then (if x11_3 < a1 then (if (wrap64 ((ji16) + 2)) = (t102.size : Int) then (if 0 ≤ x9_2 then (if x9_2 ≤ (ji16) then (if (ji16) ≤ (t102.size : Int) then (if x10_2.size + (t102.extract (x9_2 : Int).toNat ((ji16) : Int).toNat).size ≤ 9223372036854775807 then (posthornlaw04_CodeRowsBack.l0 k3 l0 a1 l2 t102 t103 (wrap64 ((ji16) + 2)) (x10_2 ++ (t102.extract (x9_2 : Int).toNat ((ji16) : Int).toNat))) else (none)) else (none)) else (none)) else (none)) else (some false)) else (if 0 ≤ x9_2 then (if x9_2 ≤ (ji16) then (if (ji16) ≤ (t102.size : Int) then (if x10_2.size + (t102.extract (x9_2 : Int).toNat ((ji16) : Int).toNat).size ≤ 9223372036854775807 then (posthornlaw04_CodeRowsBack.l0 k3 l0 a1 l2 t102 t103 (wrap64 ((ji16) + 2)) (x10_2 ++ (t102.extract (x9_2 : Int).toNat ((ji16) : Int).toNat))) else (none)) else (none)) else (none)) else (none))) else (some false)) else (none)) else (none)) = some r := by first | (rw [hji23] at H; exact H) | (simp only [hji23] at H ⊢; exact H)
                                have hji23w : (IntKind.i64.wrap ((ji16) + 1)) = ji23 := (i64_w _).trans hji23
                                by_cases c24 : 0 ≤ (ji23)
                                · rw [if_pos c24] at H
                                  have c24b0 : decide (0 ≤ (ji23)) = true := decide_eq_true c24
                                  clear c24
                                  by_cases c25 : (ji23) < (t102.size : Int)
                                  · rw [if_pos c25] at H
                                    have c25b0 : decide ((ji23) < (t102.size : Int)) = true := decide_eq_true c25
                                    clear c25
                                    by_cases c27 : (bt t102 (ji23)) = 10
                                    · rw [if_pos c27] at H
                                      have c27b0 : ((bt t102 (ji23)) == 10) = true := beq_iff_eq.mpr c27
                                      have c27b1 : ((bt t102 (ji23)) != 10) = false := bne_eq_false_iff_eq.mpr c27
                                      clear c27
                                      by_cases c28 : x11_3 < a1
                                      · rw [if_pos c28] at H
                                        have c28b0 : decide (x11_3 < a1) = true := decide_eq_true c28
                                        clear c28
                                        by_cases c29 : (wrap64 ((ji16) + 2)) = (t102.size : Int)
                                        · rw [if_pos c29] at H
                                          have c29b0 : ((wrap64 ((ji16) + 2)) == (t102.size : Int)) = true := beq_iff_eq.mpr c29
                                          have c29b1 : ((wrap64 ((ji16) + 2)) != (t102.size : Int)) = false := bne_eq_false_iff_eq.mpr c29
                                          clear c29
                                          by_cases c30 : 0 ≤ x9_2
                                          · rw [if_pos c30] at H
                                            have c30b0 := eq_true c30
                                            have c30b1 : decide (0 ≤ x9_2) = true := decide_eq_true c30
                                            clear c30
                                            by_cases c31 : x9_2 ≤ (ji16)
                                            · rw [if_pos c31] at H
                                              have c31b0 := eq_true c31
                                              have c31b1 : decide (x9_2 ≤ (ji16)) = true := decide_eq_true c31
                                              clear c31
                                              by_cases c32 : (ji16) ≤ (t102.size : Int)
                                              · rw [if_pos c32] at H
                                                have c32b0 := eq_true c32
                                                have c32b1 : decide ((ji16) ≤ (t102.size : Int)) = true := decide_eq_true c32
                                                clear c32
                                                by_cases c33 : x10_2.size + (t102.extract (x9_2 : Int).toNat ((ji16) : Int).toNat).size ≤ 9223372036854775807
                                                · rw [if_pos c33] at H
                                                  have c33b0 := eq_true c33
                                                  have c33b1 : decide (x10_2.size + (t102.extract (x9_2 : Int).toNat ((ji16) : Int).toNat).size ≤ 9223372036854775807) = true := decide_eq_true c33
                                                  try have c33b2 : (9223372036854775807 < x10_2.size + (t102.extract (x9_2 : Int).toNat ((ji16) : Int).toNat).size) = False := eq_false (Nat.not_lt.2 c33)
                                                  have H' := Aside0.mk H
                                                  clear H
                                                  have p18 : 0 ≤ ((ji16) : Int) := of_decide_eq_true (by first | (with_reducible assumption) | assumption)
                                                  have q18 : (ji16) < (t102.size : Int) := of_decide_eq_true (by first | (with_reducible assumption) | assumption)
                                                  have hx18 := bt_at t102 (ji16)
                                                  replace p18 := eq_true p18
                                                  replace q18 := eq_true q18
                                                  have p26 : 0 ≤ ((ji23) : Int) := of_decide_eq_true (by first | (with_reducible assumption) | assumption)
                                                  have q26 : (ji23) < (t102.size : Int) := of_decide_eq_true (by first | (with_reducible assumption) | assumption)
                                                  have hx26 := bt_at t102 (ji23)
                                                  replace p26 := eq_true p26
                                                  replace q26 := eq_true q26
                                                  go_wp2
                                                  go_roundg k3
                                                  case measure => have := HJ6.out; have := HK2.out; have := HK3.out; omega
                                                  case rel => exact ⟨(wrap64 ((ji16) + 2)), (x10_2 ++ (t102.extract (x9_2 : Int).toNat ((ji16) : Int).toNat)), (by first | rfl | (simp; done) | (simp only [← hji16] <;> (first | rfl | simp)) | (simp [*]; done)), (by first | rfl | (simp; done) | (simp only [← hji16] <;> (first | rfl | simp)) | (simp [*]; done)), H', ⟨by have := HJ6.out; have := HK2.out; have := HK3.out; omega⟩, ⟨by repeat (first | (with_reducible first | exact HB.out | apply below_alloc | apply pw_below_drewN | apply below_drew1) | exact HB.out)⟩⟩
                                                · rw [if_neg c33] at H
                                                  exact absurd H (by simp)
                                              · rw [if_neg c32] at H
                                                exact absurd H (by simp)
                                            · rw [if_neg c31] at H
                                              exact absurd H (by simp)
                                          · rw [if_neg c30] at H
                                            exact absurd H (by simp)
                                        · rw [if_neg c29] at H
                                          have c29b0 : ((wrap64 ((ji16) + 2)) == (t102.size : Int)) = false := beq_eq_false_iff_ne.mpr c29
                                          have c29b1 : ((wrap64 ((ji16) + 2)) != (t102.size : Int)) = true := bne_iff_ne.mpr c29
                                          obtain rfl := Option.some.inj H
                                          have p18 : 0 ≤ ((ji16) : Int) := of_decide_eq_true (by first | (with_reducible assumption) | assumption)
                                          have q18 : (ji16) < (t102.size : Int) := of_decide_eq_true (by first | (with_reducible assumption) | assumption)
                                          have hx18 := bt_at t102 (ji16)
                                          replace p18 := eq_true p18
                                          replace q18 := eq_true q18
                                          have p26 : 0 ≤ ((ji23) : Int) := of_decide_eq_true (by first | (with_reducible assumption) | assumption)
                                          have q26 : (ji23) < (t102.size : Int) := of_decide_eq_true (by first | (with_reducible assumption) | assumption)
                                          have hx26 := bt_at t102 (ji23)
                                          replace p26 := eq_true p26
                                          replace q26 := eq_true q26
                                          go_wp2
                                          go_ret
                                          exact ⟨by first | rfl | (simp [errW_none, errW_some] <;> rfl) | (simp only [← hji16, ← hji23]; first | rfl | (simp [errW_none, errW_some] <;> rfl)) | (simp [*, errW_none, errW_some] <;> rfl), by repeat (first | (with_reducible first | exact HB.out | apply below_alloc | apply pw_below_drewN | apply below_drew1) | exact HB.out)⟩
                                      · rw [if_neg c28] at H
                                        have c28b0 : decide (x11_3 < a1) = false := decide_eq_false c28
                                        clear c28
                                        by_cases c34 : 0 ≤ x9_2
                                        · rw [if_pos c34] at H
                                          have c34b0 := eq_true c34
                                          have c34b1 : decide (0 ≤ x9_2) = true := decide_eq_true c34
                                          clear c34
                                          by_cases c35 : x9_2 ≤ (ji16)
                                          · rw [if_pos c35] at H
                                            have c35b0 := eq_true c35
                                            have c35b1 : decide (x9_2 ≤ (ji16)) = true := decide_eq_true c35
                                            clear c35
                                            by_cases c36 : (ji16) ≤ (t102.size : Int)
                                            · rw [if_pos c36] at H
                                              have c36b0 := eq_true c36
                                              have c36b1 : decide ((ji16) ≤ (t102.size : Int)) = true := decide_eq_true c36
                                              clear c36
                                              by_cases c37 : x10_2.size + (t102.extract (x9_2 : Int).toNat ((ji16) : Int).toNat).size ≤ 9223372036854775807
                                              · rw [if_pos c37] at H
                                                have c37b0 := eq_true c37
                                                have c37b1 : decide (x10_2.size + (t102.extract (x9_2 : Int).toNat ((ji16) : Int).toNat).size ≤ 9223372036854775807) = true := decide_eq_true c37
                                                try have c37b2 : (9223372036854775807 < x10_2.size + (t102.extract (x9_2 : Int).toNat ((ji16) : Int).toNat).size) = False := eq_false (Nat.not_lt.2 c37)
                                                have H' := Aside0.mk H
                                                clear H
                                                have p18 : 0 ≤ ((ji16) : Int) := of_decide_eq_true (by first | (with_reducible assumption) | assumption)
                                                have q18 : (ji16) < (t102.size : Int) := of_decide_eq_true (by first | (with_reducible assumption) | assumption)
                                                have hx18 := bt_at t102 (ji16)
                                                replace p18 := eq_true p18
                                                replace q18 := eq_true q18
                                                have p26 : 0 ≤ ((ji23) : Int) := of_decide_eq_true (by first | (with_reducible assumption) | assumption)
                                                have q26 : (ji23) < (t102.size : Int) := of_decide_eq_true (by first | (with_reducible assumption) | assumption)
                                                have hx26 := bt_at t102 (ji23)
                                                replace p26 := eq_true p26
                                                replace q26 := eq_true q26
                                                go_wp2
                                                go_roundg k3
                                                case measure => have := HJ6.out; have := HK2.out; have := HK3.out; omega
                                                case rel => exact ⟨(wrap64 ((ji16) + 2)), (x10_2 ++ (t102.extract (x9_2 : Int).toNat ((ji16) : Int).toNat)), (by first | rfl | (simp; done) | (simp only [← hji16] <;> (first | rfl | simp)) | (simp [*]; done)), (by first | rfl | (simp; done) | (simp only [← hji16] <;> (first | rfl | simp)) | (simp [*]; done)), H', ⟨by have := HJ6.out; have := HK2.out; have := HK3.out; omega⟩, ⟨by repeat (first | (with_reducible first | exact HB.out | apply below_alloc | apply pw_below_drewN | apply below_drew1) | exact HB.out)⟩⟩
                                              · rw [if_neg c37] at H
                                                exact absurd H (by simp)
                                            · rw [if_neg c36] at H
                                              exact absurd H (by simp)
                                          · rw [if_neg c35] at H
                                            exact absurd H (by simp)
                                        · rw [if_neg c34] at H
                                          exact absurd H (by simp)
                                    · rw [if_neg c27] at H
                                      have c27b0 : ((bt t102 (ji23)) == 10) = false := beq_eq_false_iff_ne.mpr c27
                                      have c27b1 : ((bt t102 (ji23)) != 10) = true := bne_iff_ne.mpr c27
                                      obtain rfl := Option.some.inj H
                                      have p18 : 0 ≤ ((ji16) : Int) := of_decide_eq_true (by first | (with_reducible assumption) | assumption)
                                      have q18 : (ji16) < (t102.size : Int) := of_decide_eq_true (by first | (with_reducible assumption) | assumption)
                                      have hx18 := bt_at t102 (ji16)
                                      replace p18 := eq_true p18
                                      replace q18 := eq_true q18
                                      have p26 : 0 ≤ ((ji23) : Int) := of_decide_eq_true (by first | (with_reducible assumption) | assumption)
                                      have q26 : (ji23) < (t102.size : Int) := of_decide_eq_true (by first | (with_reducible assumption) | assumption)
                                      have hx26 := bt_at t102 (ji23)
                                      replace p26 := eq_true p26
                                      replace q26 := eq_true q26
                                      go_wp2
                                      go_ret
                                      exact ⟨by first | rfl | (simp [errW_none, errW_some] <;> rfl) | (simp only [← hji16, ← hji23]; first | rfl | (simp [errW_none, errW_some] <;> rfl)) | (simp [*, errW_none, errW_some] <;> rfl), by repeat (first | (with_reducible first | exact HB.out | apply below_alloc | apply pw_below_drewN | apply below_drew1) | exact HB.out)⟩
                                  · rw [if_neg c25] at H
                                    exact absurd H (by simp)
                                · rw [if_neg c24] at H
                                  exact absurd H (by simp)
                        · rw [if_neg c19] at H
                          have c19b0 : ((bt t102 (ji16)) == 13) = false := beq_eq_false_iff_ne.mpr c19
                          have c19b1 : ((bt t102 (ji16)) != 13) = true := bne_iff_ne.mpr c19
                          have H' := Aside0.mk H
                          clear H
                          have p18 : 0 ≤ ((ji16) : Int) := of_decide_eq_true (by first | (with_reducible assumption) | assumption)
                          have q18 : (ji16) < (t102.size : Int) := of_decide_eq_true (by first | (with_reducible assumption) | assumption)
                          have hx18 := bt_at t102 (ji16)
                          replace p18 := eq_true p18
                          replace q18 := eq_true q18
                          go_wp2
                          go_roundg k3
                          case measure => have := HJ6.out; have := HK2.out; have := HK3.out; omega
                          case rel => exact ⟨(wrap64 (x11_3 + 1)), (by first | rfl | (simp; done) | (simp [*]; done)), H', ⟨by have := HJ6.out; have := HK2.out; have := HK3.out; omega⟩, ⟨by repeat (first | (with_reducible first | exact HB.out | apply below_alloc | apply pw_below_drewN | apply below_drew1) | exact HB.out)⟩⟩
                      · rw [if_neg c17] at H
                        exact absurd H (by simp)
                    · rw [if_neg c15] at H
                      have c15b0 : decide ((wrap64 (x9_2 + x11_3)) < (t102.size : Int)) = false := decide_eq_false c15
                      clear c15
                      by_cases c38 : x11_3 < 1
                      · rw [if_pos c38] at H
                        have c38b0 : decide (x11_3 < 1) = true := decide_eq_true c38
                        clear c38
                        obtain rfl := Option.some.inj H
                        go_wp2
                        go_ret
                        exact ⟨by first | rfl | (simp [errW_none, errW_some] <;> rfl) | (simp [*, errW_none, errW_some] <;> rfl), by repeat (first | (with_reducible first | exact HB.out | apply below_alloc | apply pw_below_drewN | apply below_drew1) | exact HB.out)⟩
                      · rw [if_neg c38] at H
                        have c38b0 : decide (x11_3 < 1) = false := decide_eq_false c38
                        clear c38
                        by_cases c39 : x11_3 > a1
                        · rw [if_pos c39] at H
                          have c39b0 : decide (a1 < x11_3) = true := decide_eq_true c39
                          clear c39
                          obtain rfl := Option.some.inj H
                          go_wp2
                          go_ret
                          exact ⟨by first | rfl | (simp [errW_none, errW_some] <;> rfl) | (simp [*, errW_none, errW_some] <;> rfl), by repeat (first | (with_reducible first | exact HB.out | apply below_alloc | apply pw_below_drewN | apply below_drew1) | exact HB.out)⟩
                        · rw [if_neg c39] at H
                          have c39b0 : decide (a1 < x11_3) = false := decide_eq_false c39
                          clear c39
                          by_cases c40 : (wrap64 ((wrap64 (x9_2 + x11_3)) + 2)) > (t102.size : Int)
                          · rw [if_pos c40] at H
                            have c40b0 : decide ((t102.size : Int) < (wrap64 ((wrap64 (x9_2 + x11_3)) + 2))) = true := decide_eq_true c40
                            clear c40
                            obtain rfl := Option.some.inj H
                            go_wp2
                            go_ret
                            exact ⟨by first | rfl | (simp [errW_none, errW_some] <;> rfl) | (simp [*, errW_none, errW_some] <;> rfl), by repeat (first | (with_reducible first | exact HB.out | apply below_alloc | apply pw_below_drewN | apply below_drew1) | exact HB.out)⟩
                          · rw [if_neg c40] at H
                            have c40b0 : decide ((t102.size : Int) < (wrap64 ((wrap64 (x9_2 + x11_3)) + 2))) = false := decide_eq_false c40
                            clear c40
                            obtain ⟨ji41, hji41⟩ : ∃ j_ : Int, (wrap64 ((wrap64 (x9_2 + x11_3)) + 1)) = j_ := ⟨_, rfl⟩
                            replace H : (if 0 ≤ (ji41) then (if (ji41) < (t102.size : Int) then (if (bt t102 (ji41)) = 10 then (if x11_3 < a1 then (if (wrap64 ((wrap64 (x9_2 + x11_3)) + 2)) = (t102.size : Int) then (if 0 ≤ x9_2 then (if x9_2 ≤ (wrap64 (x9_2 + x11_3)) then (if (wrap64 (x9_2 + x11_3)) ≤ (t102.size : Int) then (if x10_2.size + (t102.extract (x9_2 : Int).toNat ((wrap64 (x9_2 + x11_3)) : Int).toNat).size ≤ 9223372036854775807 then (posthornlaw04_CodeRowsBack.l0 k3 l0 a1 l2 t102 t103 (wrap64 ((wrap64 (x9_2 + x11_3)) + 2)) (x10_2 ++ (t102.extract (x9_2 : Int).toNat ((wrap64 (x9_2 + x11_3)) : Int).toNat))) else (none)) else (none)) else (none)) else (none)) else (some false)) else (if 0 ≤ x9_2 then (if x9_2 ≤ (wrap64 (x9_2 + x11_3)) then (if (wrap64 (x9_2 + x11_3)) ≤ (t102.size : Int) then (if x10_2.size + (t102.extract (x9_2 : Int).toNat ((wrap64 (x9_2 + x11_3)) : Int).toNat).size ≤ 9223372036854775807 then (posthornlaw04_CodeRowsBack.l0 k3 l0 a1 l2 t102 t103 (wrap64 ((wrap64 (x9_2 + x11_3)) + 2)) (x10_2 ++ (t102.extract (x9_2 : Int).toNat ((wrap64 (x9_2 + x11_3)) : Int).toNat))) else (none)) else (none)) else (none)) else (none))) else (some false)) else (none)) else (none)) = some r := by first | (rw [hji41] at H; exact H) | (simp only [hji41] at H ⊢; exact H)
                            have hji41w : (IntKind.i64.wrap ((wrap64 (x9_2 + x11_3)) + 1)) = ji41 := (i64_w _).trans hji41
                            by_cases c42 : 0 ≤ (ji41)
                            · rw [if_pos c42] at H
                              have c42b0 : decide (0 ≤ (ji41)) = true := decide_eq_true c42
                              clear c42
                              by_cases c43 : (ji41) < (t102.size : Int)
                              · rw [if_pos c43] at H
                                have c43b0 : decide ((ji41) < (t102.size : Int)) = true := decide_eq_true c43
                                clear c43
                                by_cases c45 : (bt t102 (ji41)) = 10
                                · rw [if_pos c45] at H
                                  have c45b0 : ((bt t102 (ji41)) == 10) = true := beq_iff_eq.mpr c45
                                  have c45b1 : ((bt t102 (ji41)) != 10) = false := bne_eq_false_iff_eq.mpr c45
                                  clear c45
                                  by_cases c46 : x11_3 < a1
                                  · rw [if_pos c46] at H
                                    have c46b0 : decide (x11_3 < a1) = true := decide_eq_true c46
                                    clear c46
                                    by_cases c47 : (wrap64 ((wrap64 (x9_2 + x11_3)) + 2)) = (t102.size : Int)
                                    · rw [if_pos c47] at H
                                      have c47b0 : ((wrap64 ((wrap64 (x9_2 + x11_3)) + 2)) == (t102.size : Int)) = true := beq_iff_eq.mpr c47
                                      have c47b1 : ((wrap64 ((wrap64 (x9_2 + x11_3)) + 2)) != (t102.size : Int)) = false := bne_eq_false_iff_eq.mpr c47
                                      clear c47
                                      by_cases c48 : 0 ≤ x9_2
                                      · rw [if_pos c48] at H
                                        have c48b0 := eq_true c48
                                        have c48b1 : decide (0 ≤ x9_2) = true := decide_eq_true c48
                                        clear c48
                                        by_cases c49 : x9_2 ≤ (wrap64 (x9_2 + x11_3))
                                        · rw [if_pos c49] at H
                                          have c49b0 := eq_true c49
                                          have c49b1 : decide (x9_2 ≤ (wrap64 (x9_2 + x11_3))) = true := decide_eq_true c49
                                          by_cases c50 : (wrap64 (x9_2 + x11_3)) ≤ (t102.size : Int)
                                          · rw [if_pos c50] at H
                                            have c50b0 := eq_true c50
                                            have c50b1 : decide ((wrap64 (x9_2 + x11_3)) ≤ (t102.size : Int)) = true := decide_eq_true c50
                                            by_cases c51 : x10_2.size + (t102.extract (x9_2 : Int).toNat ((wrap64 (x9_2 + x11_3)) : Int).toNat).size ≤ 9223372036854775807
                                            · rw [if_pos c51] at H
                                              have c51b0 := eq_true c51
                                              have c51b1 : decide (x10_2.size + (t102.extract (x9_2 : Int).toNat ((wrap64 (x9_2 + x11_3)) : Int).toNat).size ≤ 9223372036854775807) = true := decide_eq_true c51
                                              try have c51b2 : (9223372036854775807 < x10_2.size + (t102.extract (x9_2 : Int).toNat ((wrap64 (x9_2 + x11_3)) : Int).toNat).size) = False := eq_false (Nat.not_lt.2 c51)
                                              have H' := Aside0.mk H
                                              clear H
                                              have p44 : 0 ≤ ((ji41) : Int) := of_decide_eq_true (by first | (with_reducible assumption) | assumption)
                                              have q44 : (ji41) < (t102.size : Int) := of_decide_eq_true (by first | (with_reducible assumption) | assumption)
                                              have hx44 := bt_at t102 (ji41)
                                              replace p44 := eq_true p44
                                              replace q44 := eq_true q44
                                              go_wp2
                                              go_roundg k3
                                              case measure => have := HJ6.out; have := HK2.out; have := HK3.out; omega
                                              case rel => exact ⟨(wrap64 ((wrap64 (x9_2 + x11_3)) + 2)), (x10_2 ++ (t102.extract (x9_2 : Int).toNat ((wrap64 (x9_2 + x11_3)) : Int).toNat)), (by first | rfl | (simp; done) | (simp [*]; done)), (by first | rfl | (simp; done) | (simp [*]; done)), H', ⟨by have := HJ6.out; have := HK2.out; have := HK3.out; omega⟩, ⟨by repeat (first | (with_reducible first | exact HB.out | apply below_alloc | apply pw_below_drewN | apply below_drew1) | exact HB.out)⟩⟩
                                            · rw [if_neg c51] at H
                                              exact absurd H (by simp)
                                          · rw [if_neg c50] at H
                                            exact absurd H (by simp)
                                        · rw [if_neg c49] at H
                                          exact absurd H (by simp)
                                      · rw [if_neg c48] at H
                                        exact absurd H (by simp)
                                    · rw [if_neg c47] at H
                                      have c47b0 : ((wrap64 ((wrap64 (x9_2 + x11_3)) + 2)) == (t102.size : Int)) = false := beq_eq_false_iff_ne.mpr c47
                                      have c47b1 : ((wrap64 ((wrap64 (x9_2 + x11_3)) + 2)) != (t102.size : Int)) = true := bne_iff_ne.mpr c47
                                      obtain rfl := Option.some.inj H
                                      have p44 : 0 ≤ ((ji41) : Int) := of_decide_eq_true (by first | (with_reducible assumption) | assumption)
                                      have q44 : (ji41) < (t102.size : Int) := of_decide_eq_true (by first | (with_reducible assumption) | assumption)
                                      have hx44 := bt_at t102 (ji41)
                                      replace p44 := eq_true p44
                                      replace q44 := eq_true q44
                                      go_wp2
                                      go_ret
                                      exact ⟨by first | rfl | (simp [errW_none, errW_some] <;> rfl) | (simp only [← hji41]; first | rfl | (simp [errW_none, errW_some] <;> rfl)) | (simp [*, errW_none, errW_some] <;> rfl), by repeat (first | (with_reducible first | exact HB.out | apply below_alloc | apply pw_below_drewN | apply below_drew1) | exact HB.out)⟩
                                  · rw [if_neg c46] at H
                                    have c46b0 : decide (x11_3 < a1) = false := decide_eq_false c46
                                    clear c46
                                    by_cases c52 : 0 ≤ x9_2
                                    · rw [if_pos c52] at H
                                      have c52b0 := eq_true c52
                                      have c52b1 : decide (0 ≤ x9_2) = true := decide_eq_true c52
                                      clear c52
                                      by_cases c53 : x9_2 ≤ (wrap64 (x9_2 + x11_3))
                                      · rw [if_pos c53] at H
                                        have c53b0 := eq_true c53
                                        have c53b1 : decide (x9_2 ≤ (wrap64 (x9_2 + x11_3))) = true := decide_eq_true c53
                                        by_cases c54 : (wrap64 (x9_2 + x11_3)) ≤ (t102.size : Int)
                                        · rw [if_pos c54] at H
                                          have c54b0 := eq_true c54
                                          have c54b1 : decide ((wrap64 (x9_2 + x11_3)) ≤ (t102.size : Int)) = true := decide_eq_true c54
                                          by_cases c55 : x10_2.size + (t102.extract (x9_2 : Int).toNat ((wrap64 (x9_2 + x11_3)) : Int).toNat).size ≤ 9223372036854775807
                                          · rw [if_pos c55] at H
                                            have c55b0 := eq_true c55
                                            have c55b1 : decide (x10_2.size + (t102.extract (x9_2 : Int).toNat ((wrap64 (x9_2 + x11_3)) : Int).toNat).size ≤ 9223372036854775807) = true := decide_eq_true c55
                                            try have c55b2 : (9223372036854775807 < x10_2.size + (t102.extract (x9_2 : Int).toNat ((wrap64 (x9_2 + x11_3)) : Int).toNat).size) = False := eq_false (Nat.not_lt.2 c55)
                                            have H' := Aside0.mk H
                                            clear H
                                            have p44 : 0 ≤ ((ji41) : Int) := of_decide_eq_true (by first | (with_reducible assumption) | assumption)
                                            have q44 : (ji41) < (t102.size : Int) := of_decide_eq_true (by first | (with_reducible assumption) | assumption)
                                            have hx44 := bt_at t102 (ji41)
                                            replace p44 := eq_true p44
                                            replace q44 := eq_true q44
                                            go_wp2
                                            go_roundg k3
                                            case measure => have := HJ6.out; have := HK2.out; have := HK3.out; omega
                                            case rel => exact ⟨(wrap64 ((wrap64 (x9_2 + x11_3)) + 2)), (x10_2 ++ (t102.extract (x9_2 : Int).toNat ((wrap64 (x9_2 + x11_3)) : Int).toNat)), (by first | rfl | (simp; done) | (simp [*]; done)), (by first | rfl | (simp; done) | (simp [*]; done)), H', ⟨by have := HJ6.out; have := HK2.out; have := HK3.out; omega⟩, ⟨by repeat (first | (with_reducible first | exact HB.out | apply below_alloc | apply pw_below_drewN | apply below_drew1) | exact HB.out)⟩⟩
                                          · rw [if_neg c55] at H
                                            exact absurd H (by simp)
                                        · rw [if_neg c54] at H
                                          exact absurd H (by simp)
                                      · rw [if_neg c53] at H
                                        exact absurd H (by simp)
                                    · rw [if_neg c52] at H
                                      exact absurd H (by simp)
                                · rw [if_neg c45] at H
                                  have c45b0 : ((bt t102 (ji41)) == 10) = false := beq_eq_false_iff_ne.mpr c45
                                  have c45b1 : ((bt t102 (ji41)) != 10) = true := bne_iff_ne.mpr c45
                                  obtain rfl := Option.some.inj H
                                  have p44 : 0 ≤ ((ji41) : Int) := of_decide_eq_true (by first | (with_reducible assumption) | assumption)
                                  have q44 : (ji41) < (t102.size : Int) := of_decide_eq_true (by first | (with_reducible assumption) | assumption)
                                  have hx44 := bt_at t102 (ji41)
                                  replace p44 := eq_true p44
                                  replace q44 := eq_true q44
                                  go_wp2
                                  go_ret
                                  exact ⟨by first | rfl | (simp [errW_none, errW_some] <;> rfl) | (simp only [← hji41]; first | rfl | (simp [errW_none, errW_some] <;> rfl)) | (simp [*, errW_none, errW_some] <;> rfl), by repeat (first | (with_reducible first | exact HB.out | apply below_alloc | apply pw_below_drewN | apply below_drew1) | exact HB.out)⟩
                              · rw [if_neg c43] at H
                                exact absurd H (by simp)
                            · rw [if_neg c42] at H
                              exact absurd H (by simp)
              · rw [if_neg c14] at H
                have c14b0 : decide (x9_2 < (t102.size : Int)) = false := decide_eq_false c14
                clear c14
                by_cases c56 : t102.size ≤ 9223372036854775807
                · rw [if_pos c56] at H
                  have c56b0 := eq_true c56
                  have c56b1 : decide (t102.size ≤ 9223372036854775807) = true := decide_eq_true c56
                  try have c56b2 : (9223372036854775807 < t102.size) = False := eq_false (Nat.not_lt.2 c56)
                  clear c56
                  obtain ⟨y104, hy104⟩ : ∃ y_ : List Int, y_ = (bytesOf t102) := ⟨_, rfl⟩
                  replace H : ((posthornlaw04_fed.f y104 l2).bind fun bt107 => (if t103 = 0 then ((code_Base64.f l0).bind fun t113 => (if x10_2.toList = t113.toList then (if bt107.2.2.2 = true then (if bt107.2.1 = 0 then (if bt107.2.2.1 = 0 then (some ((strOfNums bt107.1).toList == (strOfNums l0).toList)) else (some false)) else (some false)) else (some false)) else (some false))) else (some false))) = some r := by first | (rw [hy104]; with_reducible exact H) | (have H2_ := (Option.bind_some _ _).symm.trans H; rw [hy104]; with_reducible exact H2_) | (have H2_ := (Option.bind_some _ _).symm.trans H; with_reducible exact H2_) | with_reducible exact H | (rw [hy104]; exact H) | exact H
                  have Ny104 := Aside0.mk hy104
                  clear hy104
                  replace H := Option.bind_eq_some_iff.mp H
                  obtain ⟨⟨t107, t108, t109, t110⟩, A570, H⟩ := H
                  replace H : (if t103 = 0 then ((code_Base64.f l0).bind fun t113 => (if x10_2.toList = t113.toList then (if t110 = true then (if t108 = 0 then (if t109 = 0 then (some ((strOfNums t107).toList == (strOfNums l0).toList)) else (some false)) else (some false)) else (some false)) else (some false))) else (some false)) = some r := H
                  have A57 := Aside0.mk A570
                  clear A570
                  by_cases c58 : t103 = 0
                  · rw [if_pos c58] at H
                    have c58b0 : (t103 == 0) = true := beq_iff_eq.mpr c58
                    have c58b1 : (t103 != 0) = false := bne_eq_false_iff_eq.mpr c58
                    clear c58
                    replace H := Option.bind_eq_some_iff.mp H
                    obtain ⟨t113, A590, H⟩ := H
                    replace H : (if x10_2.toList = t113.toList then (if t110 = true then (if t108 = 0 then (if t109 = 0 then (some ((strOfNums t107).toList == (strOfNums l0).toList)) else (some false)) else (some false)) else (some false)) else (some false)) = some r := H
                    have A59 := Aside0.mk A590
                    clear A590
                    by_cases c60 : x10_2.toList = t113.toList
                    · rw [if_pos c60] at H
                      have c60b0 : (x10_2.toList == t113.toList) = true := beq_iff_eq.mpr c60
                      have c60b1 : (x10_2.toList != t113.toList) = false := bne_eq_false_iff_eq.mpr c60
                      clear c60
                      by_cases c61 : t110 = true
                      · subst c61
                        have H1 : (if t108 = 0 then (if t109 = 0 then (some ((strOfNums t107).toList == (strOfNums l0).toList)) else (some false)) else (some false)) = some r := by rw [if_pos rfl] at H; exact H
                        clear H
                        have H := H1
                        clear H1
                        by_cases c62 : t108 = 0
                        · rw [if_pos c62] at H
                          have c62b0 : (t108 == 0) = true := beq_iff_eq.mpr c62
                          have c62b1 : (t108 != 0) = false := bne_eq_false_iff_eq.mpr c62
                          clear c62
                          by_cases c63 : t109 = 0
                          · rw [if_pos c63] at H
                            have c63b0 : (t109 == 0) = true := beq_iff_eq.mpr c63
                            have c63b1 : (t109 != 0) = false := bne_eq_false_iff_eq.mpr c63
                            clear c63
                            obtain rfl := Option.some.inj H
                            go_wp2_with (first | ((with_reducible refine gate_dst (N := 114) rfl ?_); (try (refine gate_guard (by rfl) ?_; dsimp only)); refine Kd.V_conv _ 5 rfl (N := 114) rfl 9 22 _ rfl t102 rfl Tryd.underlying9 Tryd.underlying22 Tryd.underlying5 (of_decide_eq_true (by first | (with_reducible assumption) | assumption)) (Below.refl _ _) (Nat.le_refl _) ?_; intro v105 w64 ho65 hb hg_ hnew_; clear hg_ hnew_; (first | rw [← Ny104.out] at ho65 | (simp only [Int.reduceToNat] at ho65; rw [← Ny104.out] at ho65)); have n0_ := Aside0.mk (Kd.V_lower (Kd.V_mono (ok' := fun k_ => True) ho65 (fun k_ hk_ => trivial)) (below_size (by repeat (first | (with_reducible first | exact HB.out | apply below_alloc | apply pw_below_drewN | apply below_drew1) | exact HB.out)))); have n1_ := Aside0.mk (below_step (by repeat (first | (with_reducible first | exact HB.out | apply below_alloc | apply pw_below_drewN | apply below_drew1) | exact HB.out)) hb); clear HB; have HO106 := n0_; have HB := n1_; clear n0_ n1_; clear hb ho65; obtain ⟨Ao66, co66, eo66⟩ := Kd.V_slice HO106.out; subst eo66) | ((with_reducible refine gate_callee (f := 22) rfl ?_); refine goesL_ (some 116) rfl rfl Tryd.func22 (by kernel_rfl) rfl #[.slice Ao66 y104.length co66, .slice A2 l2.length c2] rfl (by (try simp only [List.map_toArray, List.map_cons, List.map_nil]); first | done | rfl | (simp only [List.length_drop, List.length_take]; rfl)) ?_; (with_reducible refine (posthornlaw04_fed.calls _ _ y104 _ _ l2 t107 t108 t109 true _ ?side1 ?side2 ?side3 ?side4 A57.out).mono ?_); (case side1 => repeat (first | exact (Kd.V_reads' HO106.out).2.2 | (with_reducible refine Kd.C_alloc ?_ _) | (with_reducible refine Kd.C_drewN ?_ _) | (with_reducible refine Kd.C_drew ?_))); (case side2 => exact (Kd.V_reads' HO106.out).2.1); (case side3 => repeat (first | exact (Kd.C_below HR2.out HB.out) | (with_reducible refine Kd.C_alloc ?_ _) | (with_reducible refine Kd.C_drewN ?_ _) | (with_reducible refine Kd.C_drew ?_))); (case side4 => exact HC2.out); rintro e w67 ⟨v111, rfl, ho0, hb⟩; refine ⟨_, rfl, ?_⟩; have n0_ := Aside0.mk (Kd.V_elder' (by (with_reducible repeat (first | apply Kd.V_alloc | apply Kd.V_drewN | apply Kd.V_drew)); exact HO106.out) (Kd.R_base ho0) hb); have n1_ := Aside0.mk (Kd.R_lower ho0 (below_size (by repeat (first | (with_reducible first | exact HB.out | apply below_alloc | apply pw_below_drewN | apply below_drew1) | exact HB.out)))); have n2_ := Aside0.mk (below_step (by repeat (first | (with_reducible first | exact HB.out | apply below_alloc | apply pw_below_drewN | apply below_drew1) | exact HB.out)) hb); clear HO106; clear HB; have HO106 := n0_; have HO112 := n1_; have HB := n2_; clear n0_ n1_ n2_; (try clear hb); (try clear hb2); (try clear hk); (try clear hi); (try clear ho0)) | (go_at_call 19; (with_reducible refine (code_Base64.calls _ _ l0 t113 _ ?side1 ?side2 A59.out).mono ?_); (case side1 => repeat (first | exact (Kd.C_below HR0.out HB.out) | (with_reducible refine Kd.C_alloc ?_ _) | (with_reducible refine Kd.C_drewN ?_ _) | (with_reducible refine Kd.C_drew ?_))); (case side2 => exact HC0.out); rintro e w68 ⟨rfl, hb⟩; have n0_ := Aside0.mk (Kd.V_below (by (with_reducible repeat (first | apply Kd.V_alloc | apply Kd.V_drewN | apply Kd.V_drew)); exact HO106.out) hb); have n1_ := Aside0.mk (Kd.R_below (by (with_reducible repeat (first | apply Kd.R_alloc | apply Kd.R_drewN | apply Kd.R_drew)); exact HO112.out) hb); have n2_ := Aside0.mk (below_step (by repeat (first | (with_reducible first | exact HB.out | apply below_alloc | apply pw_below_drewN | apply below_drew1) | exact HB.out)) hb); clear HO106; clear HO112; clear HB; have HO106 := n0_; have HO112 := n1_; have HB := n2_; clear n0_ n1_ n2_; (try clear hb); (try clear hb2); (try clear hk); (try clear hi); have hcv69 := own_string (P := Tryd.prog) Tryd.underlying22 Tryd.underlying5 Tryd.underlying9 (Kd.own_of_R HO112.out); have hcv70 := Kd.C_string (P := Tryd.prog) (A := A0) (c := c0) Tryd.underlying22 Tryd.underlying5 Tryd.underlying9 (Kd.C_below HR0.out HB.out)))
                            go_ret
                            exact ⟨by first | rfl | (simp [errW_none, errW_some] <;> rfl) | (simp [*, errW_none, errW_some] <;> rfl), by repeat (first | (with_reducible first | exact HB.out | apply below_alloc | apply pw_below_drewN | apply below_drew1) | exact HB.out)⟩
                          · rw [if_neg c63] at H
                            have c63b0 : (t109 == 0) = false := beq_eq_false_iff_ne.mpr c63
                            have c63b1 : (t109 != 0) = true := bne_iff_ne.mpr c63
                            obtain rfl := Option.some.inj H
                            go_wp2_with (first | ((with_reducible refine gate_dst (N := 114) rfl ?_); (try (refine gate_guard (by rfl) ?_; dsimp only)); refine Kd.V_conv _ 5 rfl (N := 114) rfl 9 22 _ rfl t102 rfl Tryd.underlying9 Tryd.underlying22 Tryd.underlying5 (of_decide_eq_true (by first | (with_reducible assumption) | assumption)) (Below.refl _ _) (Nat.le_refl _) ?_; intro v105 w71 ho72 hb hg_ hnew_; clear hg_ hnew_; (first | rw [← Ny104.out] at ho72 | (simp only [Int.reduceToNat] at ho72; rw [← Ny104.out] at ho72)); have n0_ := Aside0.mk (Kd.V_lower (Kd.V_mono (ok' := fun k_ => True) ho72 (fun k_ hk_ => trivial)) (below_size (by repeat (first | (with_reducible first | exact HB.out | apply below_alloc | apply pw_below_drewN | apply below_drew1) | exact HB.out)))); have n1_ := Aside0.mk (below_step (by repeat (first | (with_reducible first | exact HB.out | apply below_alloc | apply pw_below_drewN | apply below_drew1) | exact HB.out)) hb); clear HB; have HO106 := n0_; have HB := n1_; clear n0_ n1_; clear hb ho72; obtain ⟨Ao73, co73, eo73⟩ := Kd.V_slice HO106.out; subst eo73) | ((with_reducible refine gate_callee (f := 22) rfl ?_); refine goesL_ (some 116) rfl rfl Tryd.func22 (by kernel_rfl) rfl #[.slice Ao73 y104.length co73, .slice A2 l2.length c2] rfl (by (try simp only [List.map_toArray, List.map_cons, List.map_nil]); first | done | rfl | (simp only [List.length_drop, List.length_take]; rfl)) ?_; (with_reducible refine (posthornlaw04_fed.calls _ _ y104 _ _ l2 t107 t108 t109 true _ ?side1 ?side2 ?side3 ?side4 A57.out).mono ?_); (case side1 => repeat (first | exact (Kd.V_reads' HO106.out).2.2 | (with_reducible refine Kd.C_alloc ?_ _) | (with_reducible refine Kd.C_drewN ?_ _) | (with_reducible refine Kd.C_drew ?_))); (case side2 => exact (Kd.V_reads' HO106.out).2.1); (case side3 => repeat (first | exact (Kd.C_below HR2.out HB.out) | (with_reducible refine Kd.C_alloc ?_ _) | (with_reducible refine Kd.C_drewN ?_ _) | (with_reducible refine Kd.C_drew ?_))); (case side4 => exact HC2.out); rintro e w74 ⟨v111, rfl, ho0, hb⟩; refine ⟨_, rfl, ?_⟩; have n0_ := Aside0.mk (Kd.V_elder' (by (with_reducible repeat (first | apply Kd.V_alloc | apply Kd.V_drewN | apply Kd.V_drew)); exact HO106.out) (Kd.R_base ho0) hb); have n1_ := Aside0.mk (Kd.R_lower ho0 (below_size (by repeat (first | (with_reducible first | exact HB.out | apply below_alloc | apply pw_below_drewN | apply below_drew1) | exact HB.out)))); have n2_ := Aside0.mk (below_step (by repeat (first | (with_reducible first | exact HB.out | apply below_alloc | apply pw_below_drewN | apply below_drew1) | exact HB.out)) hb); clear HO106; clear HB; have HO106 := n0_; have HO112 := n1_; have HB := n2_; clear n0_ n1_ n2_; (try clear hb); (try clear hb2); (try clear hk); (try clear hi); (try clear ho0)) | (go_at_call 19; (with_reducible refine (code_Base64.calls _ _ l0 t113 _ ?side1 ?side2 A59.out).mono ?_); (case side1 => repeat (first | exact (Kd.C_below HR0.out HB.out) | (with_reducible refine Kd.C_alloc ?_ _) | (with_reducible refine Kd.C_drewN ?_ _) | (with_reducible refine Kd.C_drew ?_))); (case side2 => exact HC0.out); rintro e w75 ⟨rfl, hb⟩; have n0_ := Aside0.mk (Kd.V_below (by (with_reducible repeat (first | apply Kd.V_alloc | apply Kd.V_drewN | apply Kd.V_drew)); exact HO106.out) hb); have n1_ := Aside0.mk (Kd.R_below (by (with_reducible repeat (first | apply Kd.R_alloc | apply Kd.R_drewN | apply Kd.R_drew)); exact HO112.out) hb); have n2_ := Aside0.mk (below_step (by repeat (first | (with_reducible first | exact HB.out | apply below_alloc | apply pw_below_drewN | apply below_drew1) | exact HB.out)) hb); clear HO106; clear HO112; clear HB; have HO106 := n0_; have HO112 := n1_; have HB := n2_; clear n0_ n1_ n2_; (try clear hb); (try clear hb2); (try clear hk); (try clear hi)))
                            go_ret
                            exact ⟨by first | rfl | (simp [errW_none, errW_some] <;> rfl) | (simp [*, errW_none, errW_some] <;> rfl), by repeat (first | (with_reducible first | exact HB.out | apply below_alloc | apply pw_below_drewN | apply below_drew1) | exact HB.out)⟩
                        · rw [if_neg c62] at H
                          have c62b0 : (t108 == 0) = false := beq_eq_false_iff_ne.mpr c62
                          have c62b1 : (t108 != 0) = true := bne_iff_ne.mpr c62
                          obtain rfl := Option.some.inj H
                          go_wp2_with (first | ((with_reducible refine gate_dst (N := 114) rfl ?_); (try (refine gate_guard (by rfl) ?_; dsimp only)); refine Kd.V_conv _ 5 rfl (N := 114) rfl 9 22 _ rfl t102 rfl Tryd.underlying9 Tryd.underlying22 Tryd.underlying5 (of_decide_eq_true (by first | (with_reducible assumption) | assumption)) (Below.refl _ _) (Nat.le_refl _) ?_; intro v105 w76 ho77 hb hg_ hnew_; clear hg_ hnew_; (first | rw [← Ny104.out] at ho77 | (simp only [Int.reduceToNat] at ho77; rw [← Ny104.out] at ho77)); have n0_ := Aside0.mk (Kd.V_lower (Kd.V_mono (ok' := fun k_ => True) ho77 (fun k_ hk_ => trivial)) (below_size (by repeat (first | (with_reducible first | exact HB.out | apply below_alloc | apply pw_below_drewN | apply below_drew1) | exact HB.out)))); have n1_ := Aside0.mk (below_step (by repeat (first | (with_reducible first | exact HB.out | apply below_alloc | apply pw_below_drewN | apply below_drew1) | exact HB.out)) hb); clear HB; have HO106 := n0_; have HB := n1_; clear n0_ n1_; clear hb ho77; obtain ⟨Ao78, co78, eo78⟩ := Kd.V_slice HO106.out; subst eo78) | ((with_reducible refine gate_callee (f := 22) rfl ?_); refine goesL_ (some 116) rfl rfl Tryd.func22 (by kernel_rfl) rfl #[.slice Ao78 y104.length co78, .slice A2 l2.length c2] rfl (by (try simp only [List.map_toArray, List.map_cons, List.map_nil]); first | done | rfl | (simp only [List.length_drop, List.length_take]; rfl)) ?_; (with_reducible refine (posthornlaw04_fed.calls _ _ y104 _ _ l2 t107 t108 t109 true _ ?side1 ?side2 ?side3 ?side4 A57.out).mono ?_); (case side1 => repeat (first | exact (Kd.V_reads' HO106.out).2.2 | (with_reducible refine Kd.C_alloc ?_ _) | (with_reducible refine Kd.C_drewN ?_ _) | (with_reducible refine Kd.C_drew ?_))); (case side2 => exact (Kd.V_reads' HO106.out).2.1); (case side3 => repeat (first | exact (Kd.C_below HR2.out HB.out) | (with_reducible refine Kd.C_alloc ?_ _) | (with_reducible refine Kd.C_drewN ?_ _) | (with_reducible refine Kd.C_drew ?_))); (case side4 => exact HC2.out); rintro e w79 ⟨v111, rfl, ho0, hb⟩; refine ⟨_, rfl, ?_⟩; have n0_ := Aside0.mk (Kd.V_elder' (by (with_reducible repeat (first | apply Kd.V_alloc | apply Kd.V_drewN | apply Kd.V_drew)); exact HO106.out) (Kd.R_base ho0) hb); have n1_ := Aside0.mk (Kd.R_lower ho0 (below_size (by repeat (first | (with_reducible first | exact HB.out | apply below_alloc | apply pw_below_drewN | apply below_drew1) | exact HB.out)))); have n2_ := Aside0.mk (below_step (by repeat (first | (with_reducible first | exact HB.out | apply below_alloc | apply pw_below_drewN | apply below_drew1) | exact HB.out)) hb); clear HO106; clear HB; have HO106 := n0_; have HO112 := n1_; have HB := n2_; clear n0_ n1_ n2_; (try clear hb); (try clear hb2); (try clear hk); (try clear hi); (try clear ho0)) | (go_at_call 19; (with_reducible refine (code_Base64.calls _ _ l0 t113 _ ?side1 ?side2 A59.out).mono ?_); (case side1 => repeat (first | exact (Kd.C_below HR0.out HB.out) | (with_reducible refine Kd.C_alloc ?_ _) | (with_reducible refine Kd.C_drewN ?_ _) | (with_reducible refine Kd.C_drew ?_))); (case side2 => exact HC0.out); rintro e w80 ⟨rfl, hb⟩; have n0_ := Aside0.mk (Kd.V_below (by (with_reducible repeat (first | apply Kd.V_alloc | apply Kd.V_drewN | apply Kd.V_drew)); exact HO106.out) hb); have n1_ := Aside0.mk (Kd.R_below (by (with_reducible repeat (first | apply Kd.R_alloc | apply Kd.R_drewN | apply Kd.R_drew)); exact HO112.out) hb); have n2_ := Aside0.mk (below_step (by repeat (first | (with_reducible first | exact HB.out | apply below_alloc | apply pw_below_drewN | apply below_drew1) | exact HB.out)) hb); clear HO106; clear HO112; clear HB; have HO106 := n0_; have HO112 := n1_; have HB := n2_; clear n0_ n1_ n2_; (try clear hb); (try clear hb2); (try clear hk); (try clear hi)))
                          go_ret
                          exact ⟨by first | rfl | (simp [errW_none, errW_some] <;> rfl) | (simp [*, errW_none, errW_some] <;> rfl), by repeat (first | (with_reducible first | exact HB.out | apply below_alloc | apply pw_below_drewN | apply below_drew1) | exact HB.out)⟩
                      · replace c61 := Bool.eq_false_iff.mpr c61
                        subst c61
                        have H1 : (some false) = some r := by rw [if_neg (show ¬ (false = true) by decide)] at H; exact H
                        clear H
                        have H := H1
                        clear H1
                        obtain rfl := Option.some.inj H
                        go_wp2_with (first | ((with_reducible refine gate_dst (N := 114) rfl ?_); (try (refine gate_guard (by rfl) ?_; dsimp only)); refine Kd.V_conv _ 5 rfl (N := 114) rfl 9 22 _ rfl t102 rfl Tryd.underlying9 Tryd.underlying22 Tryd.underlying5 (of_decide_eq_true (by first | (with_reducible assumption) | assumption)) (Below.refl _ _) (Nat.le_refl _) ?_; intro v105 w81 ho82 hb hg_ hnew_; clear hg_ hnew_; (first | rw [← Ny104.out] at ho82 | (simp only [Int.reduceToNat] at ho82; rw [← Ny104.out] at ho82)); have n0_ := Aside0.mk (Kd.V_lower (Kd.V_mono (ok' := fun k_ => True) ho82 (fun k_ hk_ => trivial)) (below_size (by repeat (first | (with_reducible first | exact HB.out | apply below_alloc | apply pw_below_drewN | apply below_drew1) | exact HB.out)))); have n1_ := Aside0.mk (below_step (by repeat (first | (with_reducible first | exact HB.out | apply below_alloc | apply pw_below_drewN | apply below_drew1) | exact HB.out)) hb); clear HB; have HO106 := n0_; have HB := n1_; clear n0_ n1_; clear hb ho82; obtain ⟨Ao83, co83, eo83⟩ := Kd.V_slice HO106.out; subst eo83) | ((with_reducible refine gate_callee (f := 22) rfl ?_); refine goesL_ (some 116) rfl rfl Tryd.func22 (by kernel_rfl) rfl #[.slice Ao83 y104.length co83, .slice A2 l2.length c2] rfl (by (try simp only [List.map_toArray, List.map_cons, List.map_nil]); first | done | rfl | (simp only [List.length_drop, List.length_take]; rfl)) ?_; (with_reducible refine (posthornlaw04_fed.calls _ _ y104 _ _ l2 t107 t108 t109 false _ ?side1 ?side2 ?side3 ?side4 A57.out).mono ?_); (case side1 => repeat (first | exact (Kd.V_reads' HO106.out).2.2 | (with_reducible refine Kd.C_alloc ?_ _) | (with_reducible refine Kd.C_drewN ?_ _) | (with_reducible refine Kd.C_drew ?_))); (case side2 => exact (Kd.V_reads' HO106.out).2.1); (case side3 => repeat (first | exact (Kd.C_below HR2.out HB.out) | (with_reducible refine Kd.C_alloc ?_ _) | (with_reducible refine Kd.C_drewN ?_ _) | (with_reducible refine Kd.C_drew ?_))); (case side4 => exact HC2.out); rintro e w84 ⟨v111, rfl, ho0, hb⟩; refine ⟨_, rfl, ?_⟩; have n0_ := Aside0.mk (Kd.V_elder' (by (with_reducible repeat (first | apply Kd.V_alloc | apply Kd.V_drewN | apply Kd.V_drew)); exact HO106.out) (Kd.R_base ho0) hb); have n1_ := Aside0.mk (Kd.R_lower ho0 (below_size (by repeat (first | (with_reducible first | exact HB.out | apply below_alloc | apply pw_below_drewN | apply below_drew1) | exact HB.out)))); have n2_ := Aside0.mk (below_step (by repeat (first | (with_reducible first | exact HB.out | apply below_alloc | apply pw_below_drewN | apply below_drew1) | exact HB.out)) hb); clear HO106; clear HB; have HO106 := n0_; have HO112 := n1_; have HB := n2_; clear n0_ n1_ n2_; (try clear hb); (try clear hb2); (try clear hk); (try clear hi); (try clear ho0)) | (go_at_call 19; (with_reducible refine (code_Base64.calls _ _ l0 t113 _ ?side1 ?side2 A59.out).mono ?_); (case side1 => repeat (first | exact (Kd.C_below HR0.out HB.out) | (with_reducible refine Kd.C_alloc ?_ _) | (with_reducible refine Kd.C_drewN ?_ _) | (with_reducible refine Kd.C_drew ?_))); (case side2 => exact HC0.out); rintro e w85 ⟨rfl, hb⟩; have n0_ := Aside0.mk (Kd.V_below (by (with_reducible repeat (first | apply Kd.V_alloc | apply Kd.V_drewN | apply Kd.V_drew)); exact HO106.out) hb); have n1_ := Aside0.mk (Kd.R_below (by (with_reducible repeat (first | apply Kd.R_alloc | apply Kd.R_drewN | apply Kd.R_drew)); exact HO112.out) hb); have n2_ := Aside0.mk (below_step (by repeat (first | (with_reducible first | exact HB.out | apply below_alloc | apply pw_below_drewN | apply below_drew1) | exact HB.out)) hb); clear HO106; clear HO112; clear HB; have HO106 := n0_; have HO112 := n1_; have HB := n2_; clear n0_ n1_ n2_; (try clear hb); (try clear hb2); (try clear hk); (try clear hi)))
                        go_ret
                        exact ⟨by first | rfl | (simp [errW_none, errW_some] <;> rfl) | (simp [*, errW_none, errW_some] <;> rfl), by repeat (first | (with_reducible first | exact HB.out | apply below_alloc | apply pw_below_drewN | apply below_drew1) | exact HB.out)⟩
                    · rw [if_neg c60] at H
                      have c60b0 : (x10_2.toList == t113.toList) = false := beq_eq_false_iff_ne.mpr c60
                      have c60b1 : (x10_2.toList != t113.toList) = true := bne_iff_ne.mpr c60
                      obtain rfl := Option.some.inj H
                      go_wp2_with (first | ((with_reducible refine gate_dst (N := 114) rfl ?_); (try (refine gate_guard (by rfl) ?_; dsimp only)); refine Kd.V_conv _ 5 rfl (N := 114) rfl 9 22 _ rfl t102 rfl Tryd.underlying9 Tryd.underlying22 Tryd.underlying5 (of_decide_eq_true (by first | (with_reducible assumption) | assumption)) (Below.refl _ _) (Nat.le_refl _) ?_; intro v105 w86 ho87 hb hg_ hnew_; clear hg_ hnew_; (first | rw [← Ny104.out] at ho87 | (simp only [Int.reduceToNat] at ho87; rw [← Ny104.out] at ho87)); have n0_ := Aside0.mk (Kd.V_lower (Kd.V_mono (ok' := fun k_ => True) ho87 (fun k_ hk_ => trivial)) (below_size (by repeat (first | (with_reducible first | exact HB.out | apply below_alloc | apply pw_below_drewN | apply below_drew1) | exact HB.out)))); have n1_ := Aside0.mk (below_step (by repeat (first | (with_reducible first | exact HB.out | apply below_alloc | apply pw_below_drewN | apply below_drew1) | exact HB.out)) hb); clear HB; have HO106 := n0_; have HB := n1_; clear n0_ n1_; clear hb ho87; obtain ⟨Ao88, co88, eo88⟩ := Kd.V_slice HO106.out; subst eo88) | ((with_reducible refine gate_callee (f := 22) rfl ?_); refine goesL_ (some 116) rfl rfl Tryd.func22 (by kernel_rfl) rfl #[.slice Ao88 y104.length co88, .slice A2 l2.length c2] rfl (by (try simp only [List.map_toArray, List.map_cons, List.map_nil]); first | done | rfl | (simp only [List.length_drop, List.length_take]; rfl)) ?_; (with_reducible refine (posthornlaw04_fed.calls _ _ y104 _ _ l2 t107 t108 t109 t110 _ ?side1 ?side2 ?side3 ?side4 A57.out).mono ?_); (case side1 => repeat (first | exact (Kd.V_reads' HO106.out).2.2 | (with_reducible refine Kd.C_alloc ?_ _) | (with_reducible refine Kd.C_drewN ?_ _) | (with_reducible refine Kd.C_drew ?_))); (case side2 => exact (Kd.V_reads' HO106.out).2.1); (case side3 => repeat (first | exact (Kd.C_below HR2.out HB.out) | (with_reducible refine Kd.C_alloc ?_ _) | (with_reducible refine Kd.C_drewN ?_ _) | (with_reducible refine Kd.C_drew ?_))); (case side4 => exact HC2.out); rintro e w89 ⟨v111, rfl, ho0, hb⟩; refine ⟨_, rfl, ?_⟩; have n0_ := Aside0.mk (Kd.V_elder' (by (with_reducible repeat (first | apply Kd.V_alloc | apply Kd.V_drewN | apply Kd.V_drew)); exact HO106.out) (Kd.R_base ho0) hb); have n1_ := Aside0.mk (Kd.R_lower ho0 (below_size (by repeat (first | (with_reducible first | exact HB.out | apply below_alloc | apply pw_below_drewN | apply below_drew1) | exact HB.out)))); have n2_ := Aside0.mk (below_step (by repeat (first | (with_reducible first | exact HB.out | apply below_alloc | apply pw_below_drewN | apply below_drew1) | exact HB.out)) hb); clear HO106; clear HB; have HO106 := n0_; have HO112 := n1_; have HB := n2_; clear n0_ n1_ n2_; (try clear hb); (try clear hb2); (try clear hk); (try clear hi); (try clear ho0)) | (go_at_call 19; (with_reducible refine (code_Base64.calls _ _ l0 t113 _ ?side1 ?side2 A59.out).mono ?_); (case side1 => repeat (first | exact (Kd.C_below HR0.out HB.out) | (with_reducible refine Kd.C_alloc ?_ _) | (with_reducible refine Kd.C_drewN ?_ _) | (with_reducible refine Kd.C_drew ?_))); (case side2 => exact HC0.out); rintro e w90 ⟨rfl, hb⟩; have n0_ := Aside0.mk (Kd.V_below (by (with_reducible repeat (first | apply Kd.V_alloc | apply Kd.V_drewN | apply Kd.V_drew)); exact HO106.out) hb); have n1_ := Aside0.mk (Kd.R_below (by (with_reducible repeat (first | apply Kd.R_alloc | apply Kd.R_drewN | apply Kd.R_drew)); exact HO112.out) hb); have n2_ := Aside0.mk (below_step (by repeat (first | (with_reducible first | exact HB.out | apply below_alloc | apply pw_below_drewN | apply below_drew1) | exact HB.out)) hb); clear HO106; clear HO112; clear HB; have HO106 := n0_; have HO112 := n1_; have HB := n2_; clear n0_ n1_ n2_; (try clear hb); (try clear hb2); (try clear hk); (try clear hi)))
                      go_ret
                      exact ⟨by first | rfl | (simp [errW_none, errW_some] <;> rfl) | (simp [*, errW_none, errW_some] <;> rfl), by repeat (first | (with_reducible first | exact HB.out | apply below_alloc | apply pw_below_drewN | apply below_drew1) | exact HB.out)⟩
                  · rw [if_neg c58] at H
                    have c58b0 : (t103 == 0) = false := beq_eq_false_iff_ne.mpr c58
                    have c58b1 : (t103 != 0) = true := bne_iff_ne.mpr c58
                    obtain rfl := Option.some.inj H
                    go_wp2_with (first | ((with_reducible refine gate_dst (N := 114) rfl ?_); (try (refine gate_guard (by rfl) ?_; dsimp only)); refine Kd.V_conv _ 5 rfl (N := 114) rfl 9 22 _ rfl t102 rfl Tryd.underlying9 Tryd.underlying22 Tryd.underlying5 (of_decide_eq_true (by first | (with_reducible assumption) | assumption)) (Below.refl _ _) (Nat.le_refl _) ?_; intro v105 w91 ho92 hb hg_ hnew_; clear hg_ hnew_; (first | rw [← Ny104.out] at ho92 | (simp only [Int.reduceToNat] at ho92; rw [← Ny104.out] at ho92)); have n0_ := Aside0.mk (Kd.V_lower (Kd.V_mono (ok' := fun k_ => True) ho92 (fun k_ hk_ => trivial)) (below_size (by repeat (first | (with_reducible first | exact HB.out | apply below_alloc | apply pw_below_drewN | apply below_drew1) | exact HB.out)))); have n1_ := Aside0.mk (below_step (by repeat (first | (with_reducible first | exact HB.out | apply below_alloc | apply pw_below_drewN | apply below_drew1) | exact HB.out)) hb); clear HB; have HO106 := n0_; have HB := n1_; clear n0_ n1_; clear hb ho92; obtain ⟨Ao93, co93, eo93⟩ := Kd.V_slice HO106.out; subst eo93) | ((with_reducible refine gate_callee (f := 22) rfl ?_); refine goesL_ (some 116) rfl rfl Tryd.func22 (by kernel_rfl) rfl #[.slice Ao93 y104.length co93, .slice A2 l2.length c2] rfl (by (try simp only [List.map_toArray, List.map_cons, List.map_nil]); first | done | rfl | (simp only [List.length_drop, List.length_take]; rfl)) ?_; (with_reducible refine (posthornlaw04_fed.calls _ _ y104 _ _ l2 t107 t108 t109 t110 _ ?side1 ?side2 ?side3 ?side4 A57.out).mono ?_); (case side1 => repeat (first | exact (Kd.V_reads' HO106.out).2.2 | (with_reducible refine Kd.C_alloc ?_ _) | (with_reducible refine Kd.C_drewN ?_ _) | (with_reducible refine Kd.C_drew ?_))); (case side2 => exact (Kd.V_reads' HO106.out).2.1); (case side3 => repeat (first | exact (Kd.C_below HR2.out HB.out) | (with_reducible refine Kd.C_alloc ?_ _) | (with_reducible refine Kd.C_drewN ?_ _) | (with_reducible refine Kd.C_drew ?_))); (case side4 => exact HC2.out); rintro e w94 ⟨v111, rfl, ho0, hb⟩; refine ⟨_, rfl, ?_⟩; have n0_ := Aside0.mk (Kd.V_elder' (by (with_reducible repeat (first | apply Kd.V_alloc | apply Kd.V_drewN | apply Kd.V_drew)); exact HO106.out) (Kd.R_base ho0) hb); have n1_ := Aside0.mk (Kd.R_lower ho0 (below_size (by repeat (first | (with_reducible first | exact HB.out | apply below_alloc | apply pw_below_drewN | apply below_drew1) | exact HB.out)))); have n2_ := Aside0.mk (below_step (by repeat (first | (with_reducible first | exact HB.out | apply below_alloc | apply pw_below_drewN | apply below_drew1) | exact HB.out)) hb); clear HO106; clear HB; have HO106 := n0_; have HO112 := n1_; have HB := n2_; clear n0_ n1_ n2_; (try clear hb); (try clear hb2); (try clear hk); (try clear hi); (try clear ho0)))
                    go_ret
                    exact ⟨by first | rfl | (simp [errW_none, errW_some] <;> rfl) | (simp [*, errW_none, errW_some] <;> rfl), by repeat (first | (with_reducible first | exact HB.out | apply below_alloc | apply pw_below_drewN | apply below_drew1) | exact HB.out)⟩
                · rw [if_neg c56] at H
                  exact absurd H (by simp)
  · replace c5 := Bool.eq_false_iff.mpr c5
    subst c5
    have H1 : (some false) = some r := by rw [if_neg (show ¬ (false = true) by decide)] at H; exact H
    clear H
    have H := H1
    clear H1
    obtain rfl := Option.some.inj H
    go_enter Tryd.func10, Tryd.ntmps10
    go_wp2_with (first | ((with_reducible refine gate_callee (f := 18) rfl ?_); refine goesL_ (some 16) rfl rfl Tryd.func18 (by kernel_rfl) rfl #[] rfl (by (try simp only [List.map_toArray, List.map_cons, List.map_nil]); first | done | rfl | (simp only [List.length_drop, List.length_take]; rfl)) ?_; (with_reducible refine (posthornlaw04_wakes.calls  false _ ?side1 A4.out).mono ?_); (case side1 => exact GOk.of_below HG (by repeat (first | (with_reducible first | exact HB.out | apply below_alloc | apply pw_below_drewN | apply below_drew1) | exact HB.out))); rintro e w95 ⟨rfl, hb⟩; refine ⟨_, rfl, ?_⟩; have n0_ := Aside0.mk (below_step (by repeat (first | (with_reducible first | exact HB.out | apply below_alloc | apply pw_below_drewN | apply below_drew1) | exact HB.out)) hb); clear HB; have HB := n0_; clear n0_; (try clear hb); (try clear hb2); (try clear hk); (try clear hi)))
    go_ret
    exact ⟨by first | rfl | (simp [errW_none, errW_some] <;> rfl) | (simp [*, errW_none, errW_some] <;> rfl), by repeat (first | (with_reducible first | exact HB.out | apply below_alloc | apply pw_below_drewN | apply below_drew1) | exact HB.out)⟩

/-- THE ONE PURE STATEMENT of posthornlaw04_CodeRowsBack: yours. -/
def posthornlaw04_CodeRowsBack.Pure : Prop := ∀ (l0 : List Int) (a1 : Int) (l2 : List Int), l0.length ≤ maxLen → l0.length * 1 ≤ 140737488351232 → (∀ x ∈ l0, (Lit.int .u8 x).wf = true) → (Lit.int .i64 a1).wf = true → l2.length ≤ maxLen → l2.length * 8 ≤ 140737488351232 → (∀ x ∈ l2, (Lit.int .i64 x).wf = true) → ∃ k, posthornlaw04_CodeRowsBack.f k l0 a1 l2 = some true
theorem posthornlaw04_CodeRowsBack.walk (P : posthornlaw04_CodeRowsBack.Pure) (a0 : Option Addr) (len0 cap0 : Nat) (z0 : List Int) (a1 : Int) (a2 : Option Addr) (len2 cap2 : Nat) (z2 : List Int) (w : World) (w0 : (a0 = none ∧ len0 = 0 ∧ cap0 = 0 ∧ z0 = []) ∨ ∃ x, a0 = some x ∧ len0 ≤ cap0 ∧ cap0 ≤ maxLen ∧ z0.length = cap0 ∧ (∀ i, i < z0.length → w.cell? (x.add i) = some (.int .u8 (z0.getD i 0))) ∧ ∀ n ∈ z0, (Lit.int .u8 n).wf = true) (y0 : len0 * 1 ≤ 140737488351232) (w1 : (Lit.int .i64 a1).wf = true) (w2 : (a2 = none ∧ len2 = 0 ∧ cap2 = 0 ∧ z2 = []) ∨ ∃ x, a2 = some x ∧ len2 ≤ cap2 ∧ cap2 ≤ maxLen ∧ z2.length = cap2 ∧ (∀ i, i < z2.length → w.cell? (x.add i) = some (.int .i64 (z2.getD i 0))) ∧ ∀ n ∈ z2, (Lit.int .i64 n).wf = true) (y2 : len2 * 8 ≤ 140737488351232) (HG : GOk w) :
    Calls Tryd.prog 10 #[.slice a0 len0 cap0, .int .i64 a1, .slice a2 len2 cap2] w fun e w' => e = .returned (.bool true) ∧ Below w.heap.size w w' := by
  obtain ⟨l0, rfl, hr0, hm0, hw0, hc0⟩ := ReadsInt.ofRowC w0
  obtain ⟨l2, rfl, hr2, hm2, hw2, hc2⟩ := ReadsInt.ofRowC w2
  obtain ⟨k, h⟩ := P l0 a1 l2 hm0 y0 hw0 w1 hm2 y2 hw2
  refine (posthornlaw04_CodeRowsBack.calls k _ _ l0 a1 _ _ l2 true w (Kd.C_of_reads (d := (0 : Int)) (h1 := fun _ => rfl) hr0) hc0 (Kd.C_of_reads (d := (0 : Int)) (h1 := fun _ => rfl) hr2) hc2 HG h).mono ?_
  rintro e w' ⟨rfl, hd⟩
  exact ⟨rfl, hd⟩

end Go.Proofs.YtokgckhhhhigiaaDoor.GR
