-- Printed by wip/tools/gprint.py (this session's program) out of the translation. Not trusted: Lean checks it.
import Derived.Test.YtnmhkmkaklhapaaDoorH0
import Derived.Test.YtnmhkmkaklhapaaDoorH1
import Derived.Test.YtnmhkmkaklhapaaDoorH3
import Derived.Test.YtnmhkmkaklhapaaDoorMan
namespace Go.Proofs.YtnmhkmkaklhapaaDoor.H
open Go.RowKit Go.Proofs.YtnmhkmkaklhapaaDoor.Glob Go.Proofs.YtnmhkmkaklhapaaDoor.M Go.Proofs.YtnmhkmkaklhapaaDoor.MN Go.Proofs.YtnmhkmkaklhapaaDoor.T Go.Proofs.YtnmhkmkaklhapaaDoorW.PrintWords Go.Proofs.YtnmhkmkaklhapaaDoorW.PrintLast Go.Proofs.YtnmhkmkaklhapaaDoorW.PrintMore
attribute [local go_sem] max2_int min2_int max_two min_two max_three min_three max_four min_four   -- for this text's walks alone
set_option linter.unusedVariables false
set_option linter.unusedSimpArgs false

attribute [local go_sem high] eqA30
/-! ### posthornlaw06_DateMoments: function 10 -/
def posthornlaw06_DateMoments.j0 : Nat → Int → Int → Int → Int → Int → Bool → Int → Int → Int → Int → Int → Int → Int → Int → Int → Int → Int → Int → Int → Int → Option (Bool)
  | 0, _, _, _, _, _, _, _, _, _, _, _, _, _, _, _, _, _, _, _, _ => none
  | k + 1, x0, x1, x2, x8, x10, x36, x158000, x158001, x158002, x158003, x158004, x158005, x158006, x167000, x167001, x167002, x167003, x167004, x167005, x167006 => if x36 = true then (if x8 = 0 then (if x10 = 0 then (if x0 < (-62135510000) then (some true) else (some (decide (x0 > 253402200000)))) else (if x10 = 5 then (if (x167000 == 0 && (x167001 == 0 && (x167002 == 0 && (x167003 == 0 && (x167004 == 0 && (x167005 == 0 && (x167006 == 0))))))) = true then (if x0 < (-62135510000) then (some true) else (some (decide (x0 > 253402200000)))) else (some false)) else (some false))) else (if x8 = 5 then (if (x158000 == 0 && (x158001 == 0 && (x158002 == 0 && (x158003 == 0 && (x158004 == 0 && (x158005 == 0 && (x158006 == 0))))))) = true then (if x10 = 0 then (if x0 < (-62135510000) then (some true) else (some (decide (x0 > 253402200000)))) else (if x10 = 5 then (if (x167000 == 0 && (x167001 == 0 && (x167002 == 0 && (x167003 == 0 && (x167004 == 0 && (x167005 == 0 && (x167006 == 0))))))) = true then (if x0 < (-62135510000) then (some true) else (some (decide (x0 > 253402200000)))) else (some false)) else (some false))) else (some false)) else (some false))) else ((date_Seconds.f x158000 x158001 x158002 x158003 x158004 x158005 x158006).bind fun bt167 => ((date_Seconds.f x167000 x167001 x167002 x167003 x167004 x167005 x167006).bind fun bt169 => (if bt167.2 = 0 then (if bt169.2 = 0 then (if bt167.1 = x0 then (if bt169.1 = x0 then (if x158006 = (Int.tmod x1 1440) then (some (x167006 == (Int.tmod x2 1440))) else (some false)) else (some false)) else (some false)) else (some false)) else (some false))))
def posthornlaw06_DateMoments.f (k : Nat) (a0 : Int) (a1 : Int) (a2 : Int) : Option (Bool) := (posthornlaw06_head.f).bind fun t148 => (if t148 = true then ((date_Of.f k a0 (Int.tmod a1 1440)).bind fun bt149 => ((date_Of.f k a0 (Int.tmod a2 1440)).bind fun bt158 => (if bt149.2.2.2.2.2.2.2 = 0 then (posthornlaw06_DateMoments.j0 k a0 a1 a2 bt149.2.2.2.2.2.2.2 bt158.2.2.2.2.2.2.2 (bt158.2.2.2.2.2.2.2 != 0) bt149.1 bt149.2.1 bt149.2.2.1 bt149.2.2.2.1 bt149.2.2.2.2.1 bt149.2.2.2.2.2.1 bt149.2.2.2.2.2.2.1 bt158.1 bt158.2.1 bt158.2.2.1 bt158.2.2.2.1 bt158.2.2.2.2.1 bt158.2.2.2.2.2.1 bt158.2.2.2.2.2.2.1) else (posthornlaw06_DateMoments.j0 k a0 a1 a2 bt149.2.2.2.2.2.2.2 bt158.2.2.2.2.2.2.2 true bt149.1 bt149.2.1 bt149.2.2.1 bt149.2.2.2.1 bt149.2.2.2.2.1 bt149.2.2.2.2.2.1 bt149.2.2.2.2.2.2.1 bt158.1 bt158.2.1 bt158.2.2.1 bt158.2.2.2.1 bt158.2.2.2.2.1 bt158.2.2.2.2.2.1 bt158.2.2.2.2.2.2.1)))) else (some false))
theorem posthornlaw06_DateMoments.mono_l : ∀ k, (∀ y0 y1 y2 y3 y4 y5 y6 y7 y8 y9 y10 y11 y12 y13 y14 y15 y16 y17 y18 y19, LeO (posthornlaw06_DateMoments.j0 k y0 y1 y2 y3 y4 y5 y6 y7 y8 y9 y10 y11 y12 y13 y14 y15 y16 y17 y18 y19) (posthornlaw06_DateMoments.j0 (k + 1) y0 y1 y2 y3 y4 y5 y6 y7 y8 y9 y10 y11 y12 y13 y14 y15 y16 y17 y18 y19))
  | 0 => fun _ _ _ _ _ _ _ _ _ _ _ _ _ _ _ _ _ _ _ _ r h => by simp [posthornlaw06_DateMoments.j0] at h
  | k + 1 => by
    have ih0 := posthornlaw06_DateMoments.mono_l k
    · intro y0 y1 y2 y3 y4 y5 y6 y7 y8 y9 y10 y11 y12 y13 y14 y15 y16 y17 y18 y19
      unfold posthornlaw06_DateMoments.j0
      repeat' first
      | (with_reducible exact ih0 _ _ _ _ _ _ _ _ _ _ _ _ _ _ _ _ _ _ _ _)
      | (with_reducible exact date_Of.mono _ _ _)
      | (with_reducible exact LeO.refl _)
      | (with_reducible exact LeO.none _)
      | (with_reducible refine LeO.ite ?_ ?_)
      | (with_reducible refine LeO.bind ?_ (fun _ => ?_))
      | exact ih0 _ _ _ _ _ _ _ _ _ _ _ _ _ _ _ _ _ _ _ _
      | exact date_Of.mono _ _ _
      | exact LeO.none _
      | refine LeO.ite ?_ ?_
      | refine LeO.bind ?_ (fun _ => ?_)
theorem posthornlaw06_DateMoments.mono : ∀ a0 a1 a2 k, LeO (posthornlaw06_DateMoments.f k a0 a1 a2) (posthornlaw06_DateMoments.f (k + 1) a0 a1 a2) := by
  intro a0 a1 a2 k
  have ih0 := posthornlaw06_DateMoments.mono_l k
  unfold posthornlaw06_DateMoments.f
  repeat' first
      | (with_reducible exact ih0 _ _ _ _ _ _ _ _ _ _ _ _ _ _ _ _ _ _ _ _)
      | (with_reducible exact date_Of.mono _ _ _)
      | (with_reducible exact LeO.refl _)
      | (with_reducible exact LeO.none _)
      | (with_reducible refine LeO.ite ?_ ?_)
      | (with_reducible refine LeO.bind ?_ (fun _ => ?_))
      | exact ih0 _ _ _ _ _ _ _ _ _ _ _ _ _ _ _ _ _ _ _ _
      | exact date_Of.mono _ _ _
      | exact LeO.none _
      | refine LeO.ite ?_ ?_
      | refine LeO.bind ?_ (fun _ => ?_)
set_option maxHeartbeats 8000000 in
set_option maxRecDepth 100000 in
theorem posthornlaw06_DateMoments.calls (k : Nat) (a0 : Int) (a1 : Int) (a2 : Int) (r : Bool) (w : World) (HG : GOk w) (h : posthornlaw06_DateMoments.f k a0 a1 a2 = some r) :
    Calls Tryd.prog 10 #[.int .i64 a0, .int .i16 a1, .int .i16 a2] w fun e w' => e = .returned (.bool r) ∧ Below w.heap.size w w' := by
  have hu30 := Tryd.underlying30
  have HB := Aside0.mk (Below.refl w.heap.size w)
  have H : ((posthornlaw06_head.f).bind fun t148 => (if t148 = true then ((date_Of.f k a0 (Int.tmod a1 1440)).bind fun bt149 => ((date_Of.f k a0 (Int.tmod a2 1440)).bind fun bt158 => (if bt149.2.2.2.2.2.2.2 = 0 then (posthornlaw06_DateMoments.j0 k a0 a1 a2 bt149.2.2.2.2.2.2.2 bt158.2.2.2.2.2.2.2 (bt158.2.2.2.2.2.2.2 != 0) bt149.1 bt149.2.1 bt149.2.2.1 bt149.2.2.2.1 bt149.2.2.2.2.1 bt149.2.2.2.2.2.1 bt149.2.2.2.2.2.2.1 bt158.1 bt158.2.1 bt158.2.2.1 bt158.2.2.2.1 bt158.2.2.2.2.1 bt158.2.2.2.2.2.1 bt158.2.2.2.2.2.2.1) else (posthornlaw06_DateMoments.j0 k a0 a1 a2 bt149.2.2.2.2.2.2.2 bt158.2.2.2.2.2.2.2 true bt149.1 bt149.2.1 bt149.2.2.1 bt149.2.2.2.1 bt149.2.2.2.2.1 bt149.2.2.2.2.2.1 bt149.2.2.2.2.2.2.1 bt158.1 bt158.2.1 bt158.2.2.1 bt158.2.2.2.1 bt158.2.2.2.2.1 bt158.2.2.2.2.2.1 bt158.2.2.2.2.2.2.1)))) else (some false))) = some r := h
  clear h
  replace H := Option.bind_eq_some_iff.mp H
  obtain ⟨t148, A40, H⟩ := H
  replace H : (if t148 = true then ((date_Of.f k a0 (Int.tmod a1 1440)).bind fun bt149 => ((date_Of.f k a0 (Int.tmod a2 1440)).bind fun bt158 => (if bt149.2.2.2.2.2.2.2 = 0 then (posthornlaw06_DateMoments.j0 k a0 a1 a2 bt149.2.2.2.2.2.2.2 bt158.2.2.2.2.2.2.2 (bt158.2.2.2.2.2.2.2 != 0) bt149.1 bt149.2.1 bt149.2.2.1 bt149.2.2.2.1 bt149.2.2.2.2.1 bt149.2.2.2.2.2.1 bt149.2.2.2.2.2.2.1 bt158.1 bt158.2.1 bt158.2.2.1 bt158.2.2.2.1 bt158.2.2.2.2.1 bt158.2.2.2.2.2.1 bt158.2.2.2.2.2.2.1) else (posthornlaw06_DateMoments.j0 k a0 a1 a2 bt149.2.2.2.2.2.2.2 bt158.2.2.2.2.2.2.2 true bt149.1 bt149.2.1 bt149.2.2.1 bt149.2.2.2.1 bt149.2.2.2.2.1 bt149.2.2.2.2.2.1 bt149.2.2.2.2.2.2.1 bt158.1 bt158.2.1 bt158.2.2.1 bt158.2.2.2.1 bt158.2.2.2.2.1 bt158.2.2.2.2.2.1 bt158.2.2.2.2.2.2.1)))) else (some false)) = some r := H
  have A4 := Aside0.mk A40
  clear A40
  by_cases c5 : t148 = true
  · subst c5
    have H1 : ((date_Of.f k a0 (Int.tmod a1 1440)).bind fun bt149 => ((date_Of.f k a0 (Int.tmod a2 1440)).bind fun bt158 => (if bt149.2.2.2.2.2.2.2 = 0 then (posthornlaw06_DateMoments.j0 k a0 a1 a2 bt149.2.2.2.2.2.2.2 bt158.2.2.2.2.2.2.2 (bt158.2.2.2.2.2.2.2 != 0) bt149.1 bt149.2.1 bt149.2.2.1 bt149.2.2.2.1 bt149.2.2.2.2.1 bt149.2.2.2.2.2.1 bt149.2.2.2.2.2.2.1 bt158.1 bt158.2.1 bt158.2.2.1 bt158.2.2.2.1 bt158.2.2.2.2.1 bt158.2.2.2.2.2.1 bt158.2.2.2.2.2.2.1) else (posthornlaw06_DateMoments.j0 k a0 a1 a2 bt149.2.2.2.2.2.2.2 bt158.2.2.2.2.2.2.2 true bt149.1 bt149.2.1 bt149.2.2.1 bt149.2.2.2.1 bt149.2.2.2.2.1 bt149.2.2.2.2.2.1 bt149.2.2.2.2.2.2.1 bt158.1 bt158.2.1 bt158.2.2.1 bt158.2.2.2.1 bt158.2.2.2.2.1 bt158.2.2.2.2.2.1 bt158.2.2.2.2.2.2.1)))) = some r := by rw [if_pos rfl] at H; exact H
    clear H
    have H := H1
    clear H1
    replace H := Option.bind_eq_some_iff.mp H
    obtain ⟨⟨t149, t150, t151, t152, t153, t154, t155, t156⟩, A60, H⟩ := H
    replace H : ((date_Of.f k a0 (Int.tmod a2 1440)).bind fun bt158 => (if t156 = 0 then (posthornlaw06_DateMoments.j0 k a0 a1 a2 t156 bt158.2.2.2.2.2.2.2 (bt158.2.2.2.2.2.2.2 != 0) t149 t150 t151 t152 t153 t154 t155 bt158.1 bt158.2.1 bt158.2.2.1 bt158.2.2.2.1 bt158.2.2.2.2.1 bt158.2.2.2.2.2.1 bt158.2.2.2.2.2.2.1) else (posthornlaw06_DateMoments.j0 k a0 a1 a2 t156 bt158.2.2.2.2.2.2.2 true t149 t150 t151 t152 t153 t154 t155 bt158.1 bt158.2.1 bt158.2.2.1 bt158.2.2.2.1 bt158.2.2.2.2.1 bt158.2.2.2.2.2.1 bt158.2.2.2.2.2.2.1))) = some r := H
    have A6 := Aside0.mk A60
    clear A60
    replace H := Option.bind_eq_some_iff.mp H
    obtain ⟨⟨t158, t159, t160, t161, t162, t163, t164, t165⟩, A70, H⟩ := H
    replace H : (if t156 = 0 then (posthornlaw06_DateMoments.j0 k a0 a1 a2 t156 t165 (t165 != 0) t149 t150 t151 t152 t153 t154 t155 t158 t159 t160 t161 t162 t163 t164) else (posthornlaw06_DateMoments.j0 k a0 a1 a2 t156 t165 true t149 t150 t151 t152 t153 t154 t155 t158 t159 t160 t161 t162 t163 t164)) = some r := H
    have A7 := Aside0.mk A70
    clear A70
    have HC8 := Aside0.mk H
    clear H
    go_enter Tryd.func10, Tryd.ntmps10
    go_upto_region 5 with (first | ((with_reducible refine gate_callee (f := 15) rfl ?_); refine goesL_ (some 15) rfl rfl Tryd.func15 (by kernel_rfl) rfl #[] rfl (by (try simp only [List.map_toArray, List.map_cons, List.map_nil]); first | done | rfl | (simp only [List.length_drop, List.length_take]; rfl)) ?_; (with_reducible refine (posthornlaw06_head.calls  true _ ?side1 A4.out).mono ?_); (case side1 => exact GOk.of_below HG (by repeat (first | (with_reducible first | exact HB.out | apply below_alloc | apply pw_below_drewN | apply below_drew1) | exact HB.out))); rintro e w9 ⟨rfl, hb⟩; refine ⟨_, rfl, ?_⟩; have n0_ := Aside0.mk (below_step (by repeat (first | (with_reducible first | exact HB.out | apply below_alloc | apply pw_below_drewN | apply below_drew1) | exact HB.out)) hb); clear HB; have HB := n0_; clear n0_; (try clear hb); (try clear hb2); (try clear hk); (try clear hi)) | ((with_reducible refine gate_callee (f := 32) rfl ?_); refine goesL_ (some 21) rfl rfl Tryd.func32 (by kernel_rfl) rfl #[.int .i64 a0, .int .i16 (Int.tmod a1 1440)] rfl (by (try simp only [List.map_toArray, List.map_cons, List.map_nil]); first | done | rfl | (simp only [List.length_drop, List.length_take]; rfl)) ?_; (with_reducible refine (date_Of.calls k a0 (Int.tmod a1 1440) t149 t150 t151 t152 t153 t154 t155 t156 _ A6.out).mono ?_); rintro e w10 ⟨rfl, hb⟩; refine ⟨_, rfl, ?_⟩; have n0_ := Aside0.mk (below_step (by repeat (first | (with_reducible first | exact HB.out | apply below_alloc | apply pw_below_drewN | apply below_drew1) | exact HB.out)) hb); clear HB; have HB := n0_; clear n0_; (try clear hb); (try clear hb2); (try clear hk); (try clear hi)) | ((with_reducible refine gate_dst (N := 7) rfl ?_); refine box_event ?hg (N := 7) ?hd (cs := #[.int .i16 0, .int .i8 0, .int .i8 0, .int .i8 0, .int .i8 0, .int .i8 0, .int .i16 0]) (t := 30) ?hr ?_; (case hd => rfl); (case hg => rfl); (case hr => first | (go_simp; done) | (go_simp; rfl)); intro gb157 hg w11 hbox hb; have n0_ := Aside0.mk (below_step (by repeat (first | (with_reducible first | exact HB.out | apply below_alloc | apply pw_below_drewN | apply below_drew1) | exact HB.out)) hb); have n1_ := Aside0.mk (hbox); have n2_ := Aside0.mk ((by rw [hg]; exact (below_size (by repeat (first | (with_reducible first | exact HB.out | apply below_alloc | apply pw_below_drewN | apply below_drew1) | exact HB.out))) : w.heap.size ≤ gb157)); have n3_ := Aside0.mk ((by rw [hg]; exact (below_size (by repeat (first | (with_reducible first | exact HB.out | apply below_alloc | apply pw_below_drewN | apply below_drew1) | exact HB.out))) : w.heap.size ≤ gb157)); clear HB; have HB := n0_; have BK157 := n1_; have GW157 := n2_; have GE157 := n3_; clear n0_ n1_ n2_ n3_; clear hb hbox hg; have hcz12_0 : w11.cell? ⟨gb157, 0, none⟩ = some (.int .i16 0) := (blk_cell BK157.out 0).trans rfl; have hcz12_1 : w11.cell? ⟨gb157, 1, none⟩ = some (.int .i8 0) := (blk_cell BK157.out 1).trans rfl; have hcz12_2 : w11.cell? ⟨gb157, 2, none⟩ = some (.int .i8 0) := (blk_cell BK157.out 2).trans rfl; have hcz12_3 : w11.cell? ⟨gb157, 3, none⟩ = some (.int .i8 0) := (blk_cell BK157.out 3).trans rfl; have hcz12_4 : w11.cell? ⟨gb157, 4, none⟩ = some (.int .i8 0) := (blk_cell BK157.out 4).trans rfl; have hcz12_5 : w11.cell? ⟨gb157, 5, none⟩ = some (.int .i8 0) := (blk_cell BK157.out 5).trans rfl; have hcz12_6 : w11.cell? ⟨gb157, 6, none⟩ = some (.int .i16 0) := (blk_cell BK157.out 6).trans rfl; have hfz12_0 := blk_frozen BK157.out 0; have hfz12_1 := blk_frozen BK157.out 1; have hfz12_2 := blk_frozen BK157.out 2; have hfz12_3 := blk_frozen BK157.out 3; have hfz12_4 := blk_frozen BK157.out 4; have hfz12_5 := blk_frozen BK157.out 5; have hfz12_6 := blk_frozen BK157.out 6) | ((with_reducible refine gate_callee (f := 32) rfl ?_); refine goesL_ (some 28) rfl rfl Tryd.func32 (by kernel_rfl) rfl #[.int .i64 a0, .int .i16 (Int.tmod a2 1440)] rfl (by (try simp only [List.map_toArray, List.map_cons, List.map_nil]); first | done | rfl | (simp only [List.length_drop, List.length_take]; rfl)) ?_; (with_reducible refine (date_Of.calls k a0 (Int.tmod a2 1440) t158 t159 t160 t161 t162 t163 t164 t165 _ A7.out).mono ?_); rintro e w13 ⟨rfl, hb⟩; refine ⟨_, rfl, ?_⟩; have n0_ := Aside0.mk (blk_below (g := gb157) (o := .cells #[.int .i16 t149, .int .i8 t150, .int .i8 t151, .int .i8 t152, .int .i8 t153, .int .i8 t154, .int .i16 t155] 30 (0, 0)) (by (with_reducible repeat (first | refine blk_drewN ?_ _ | refine blk_drew ?_ | refine blk_alloc ?_ _)); refine blk_put (cs := #[.int .i16 t149, .int .i8 t150, .int .i8 t151, .int .i8 t152, .int .i8 t153, .int .i8 t154, .int .i16 0]) ?_ 6 _ rfl; (with_reducible repeat (first | refine blk_drewN ?_ _ | refine blk_drew ?_ | refine blk_alloc ?_ _)); refine blk_put (cs := #[.int .i16 t149, .int .i8 t150, .int .i8 t151, .int .i8 t152, .int .i8 t153, .int .i8 0, .int .i16 0]) ?_ 5 _ rfl; (with_reducible repeat (first | refine blk_drewN ?_ _ | refine blk_drew ?_ | refine blk_alloc ?_ _)); refine blk_put (cs := #[.int .i16 t149, .int .i8 t150, .int .i8 t151, .int .i8 t152, .int .i8 0, .int .i8 0, .int .i16 0]) ?_ 4 _ rfl; (with_reducible repeat (first | refine blk_drewN ?_ _ | refine blk_drew ?_ | refine blk_alloc ?_ _)); refine blk_put (cs := #[.int .i16 t149, .int .i8 t150, .int .i8 t151, .int .i8 0, .int .i8 0, .int .i8 0, .int .i16 0]) ?_ 3 _ rfl; (with_reducible repeat (first | refine blk_drewN ?_ _ | refine blk_drew ?_ | refine blk_alloc ?_ _)); refine blk_put (cs := #[.int .i16 t149, .int .i8 t150, .int .i8 0, .int .i8 0, .int .i8 0, .int .i8 0, .int .i16 0]) ?_ 2 _ rfl; (with_reducible repeat (first | refine blk_drewN ?_ _ | refine blk_drew ?_ | refine blk_alloc ?_ _)); refine blk_put (cs := #[.int .i16 t149, .int .i8 0, .int .i8 0, .int .i8 0, .int .i8 0, .int .i8 0, .int .i16 0]) ?_ 1 _ rfl; (with_reducible repeat (first | refine blk_drewN ?_ _ | refine blk_drew ?_ | refine blk_alloc ?_ _)); refine blk_put (cs := #[.int .i16 0, .int .i8 0, .int .i8 0, .int .i8 0, .int .i8 0, .int .i8 0, .int .i16 0]) ?_ 0 _ rfl; (with_reducible repeat (first | refine blk_drewN ?_ _ | refine blk_drew ?_ | refine blk_alloc ?_ _)); exact BK157.out) hb); have n1_ := Aside0.mk (below_step (by repeat (first | (with_reducible first | exact HB.out | apply below_alloc | apply pw_below_drewN | apply below_drew1 | refine below_set ?_ GE157.out) | exact HB.out)) hb); clear BK157; clear HB; have BK157 := n0_; have HB := n1_; clear n0_ n1_; (try clear hb); (try clear hb2); (try clear hk); (try clear hi)) | ((with_reducible refine gate_dst (N := 9) rfl ?_); refine box_event ?hg (N := 9) ?hd (cs := #[.int .i16 0, .int .i8 0, .int .i8 0, .int .i8 0, .int .i8 0, .int .i8 0, .int .i16 0]) (t := 30) ?hr ?_; (case hd => rfl); (case hg => rfl); (case hr => first | (go_simp; done) | (go_simp; rfl)); intro gb166 hg w14 hbox hb; have n0_ := Aside0.mk (blk_below (g := gb157) (o := .cells #[.int .i16 t149, .int .i8 t150, .int .i8 t151, .int .i8 t152, .int .i8 t153, .int .i8 t154, .int .i16 t155] 30 (0, 0)) (by (with_reducible repeat (first | refine blk_drewN ?_ _ | refine blk_drew ?_ | refine blk_alloc ?_ _)); exact BK157.out) hb); have n1_ := Aside0.mk (below_step (by repeat (first | (with_reducible first | exact HB.out | apply below_alloc | apply pw_below_drewN | apply below_drew1 | refine below_set ?_ GE157.out) | exact HB.out)) hb); have n2_ := Aside0.mk (hbox); have n3_ := Aside0.mk ((by rw [hg]; exact (below_size (by repeat (first | (with_reducible first | exact HB.out | apply below_alloc | apply pw_below_drewN | apply below_drew1 | refine below_set ?_ GE157.out) | exact HB.out))) : w.heap.size ≤ gb166)); have n4_ := Aside0.mk ((by rw [hg]; exact (below_size (by repeat (first | (with_reducible first | exact HB.out | apply below_alloc | apply pw_below_drewN | apply below_drew1 | refine below_set ?_ GE157.out) | exact HB.out))) : w.heap.size ≤ gb166)); have n5_ := Aside0.mk ((by rw [hg]; exact Nat.ne_of_lt (blk_lt (g := gb157) (o := .cells #[.int .i16 t149, .int .i8 t150, .int .i8 t151, .int .i8 t152, .int .i8 t153, .int .i8 t154, .int .i16 t155] 30 (0, 0)) (by (with_reducible repeat (first | refine blk_drewN ?_ _ | refine blk_drew ?_ | refine blk_alloc ?_ _)); exact BK157.out)) : gb157 ≠ gb166)); have n6_ := Aside0.mk ((by rw [hg]; exact Nat.ne_of_gt (blk_lt (g := gb157) (o := .cells #[.int .i16 t149, .int .i8 t150, .int .i8 t151, .int .i8 t152, .int .i8 t153, .int .i8 t154, .int .i16 t155] 30 (0, 0)) (by (with_reducible repeat (first | refine blk_drewN ?_ _ | refine blk_drew ?_ | refine blk_alloc ?_ _)); exact BK157.out)) : gb166 ≠ gb157)); clear BK157; clear HB; have BK157 := n0_; have HB := n1_; have BK166 := n2_; have GW166 := n3_; have GE166 := n4_; have NB157_166 := n5_; have NB166_157 := n6_; clear n0_ n1_ n2_ n3_ n4_ n5_ n6_; clear hb hbox hg; have hnb15 := NB166_157.out; have hnc15 := NB157_166.out; have hcz16_0 : w14.cell? ⟨gb166, 0, none⟩ = some (.int .i16 0) := (blk_cell BK166.out 0).trans rfl; have hcz16_1 : w14.cell? ⟨gb166, 1, none⟩ = some (.int .i8 0) := (blk_cell BK166.out 1).trans rfl; have hcz16_2 : w14.cell? ⟨gb166, 2, none⟩ = some (.int .i8 0) := (blk_cell BK166.out 2).trans rfl; have hcz16_3 : w14.cell? ⟨gb166, 3, none⟩ = some (.int .i8 0) := (blk_cell BK166.out 3).trans rfl; have hcz16_4 : w14.cell? ⟨gb166, 4, none⟩ = some (.int .i8 0) := (blk_cell BK166.out 4).trans rfl; have hcz16_5 : w14.cell? ⟨gb166, 5, none⟩ = some (.int .i8 0) := (blk_cell BK166.out 5).trans rfl; have hcz16_6 : w14.cell? ⟨gb166, 6, none⟩ = some (.int .i16 0) := (blk_cell BK166.out 6).trans rfl; have hfz16_0 := blk_frozen BK166.out 0; have hfz16_1 := blk_frozen BK166.out 1; have hfz16_2 := blk_frozen BK166.out 2; have hfz16_3 := blk_frozen BK166.out 3; have hfz16_4 := blk_frozen BK166.out 4; have hfz16_5 := blk_frozen BK166.out 5; have hfz16_6 := blk_frozen BK166.out 6))
    (try simp only [Act.put, List.setIfInBounds_toArray, List.set_cons_zero, List.set_cons_succ])
    go_cut [36] (fun v36 wc => ∃ (kq : Nat) (x36_7 : Bool), v36 = .bool x36_7 ∧ Aside0 (posthornlaw06_DateMoments.j0 kq a0 a1 a2 t156 t165 x36_7 t149 t150 t151 t152 t153 t154 t155 t158 t159 t160 t161 t162 t163 t164 = some r) ∧ Aside0 (kq ≤ k) ∧ Aside0 (wc.heap[gb157]? = some (.cells #[.int .i16 t149, .int .i8 t150, .int .i8 t151, .int .i8 t152, .int .i8 t153, .int .i8 t154, .int .i16 t155] 30 (0, 0))) ∧ Aside0 (wc.heap[gb166]? = some (.cells #[.int .i16 t158, .int .i8 t159, .int .i8 t160, .int .i8 t161, .int .i8 t162, .int .i8 t163, .int .i16 t164] 30 (0, 0))) ∧ Aside0 (Below w.heap.size w wc))
    case first =>
      have H := HC8.out
      clear HC8
      by_cases c17 : t156 = 0
      · rw [if_pos c17] at H
        have c17b0 : (t156 == 0) = true := beq_iff_eq.mpr c17
        have c17b1 : (t156 != 0) = false := bne_eq_false_iff_eq.mpr c17
        clear c17
        (first | rw [c17b0] | (simp only [i64_w, i32_w]; rw [c17b0]) | skip)
        have H' := Aside0.mk H
        clear H
        go_wp2
        go_meet
        case rel => exact ⟨_, ((t165 != 0)), (by first | rfl | (simp; done) | (simp [*]; done)), H', ⟨by first | omega | exact Nat.le_refl _⟩, ⟨by (with_reducible repeat (first | refine blk_drewN ?_ _ | refine blk_drew ?_ | refine blk_alloc ?_ _)); refine blk_far ?_ NB157_166.out _; (with_reducible repeat (first | refine blk_drewN ?_ _ | refine blk_drew ?_ | refine blk_alloc ?_ _)); refine blk_far ?_ NB157_166.out _; (with_reducible repeat (first | refine blk_drewN ?_ _ | refine blk_drew ?_ | refine blk_alloc ?_ _)); refine blk_far ?_ NB157_166.out _; (with_reducible repeat (first | refine blk_drewN ?_ _ | refine blk_drew ?_ | refine blk_alloc ?_ _)); refine blk_far ?_ NB157_166.out _; (with_reducible repeat (first | refine blk_drewN ?_ _ | refine blk_drew ?_ | refine blk_alloc ?_ _)); refine blk_far ?_ NB157_166.out _; (with_reducible repeat (first | refine blk_drewN ?_ _ | refine blk_drew ?_ | refine blk_alloc ?_ _)); refine blk_far ?_ NB157_166.out _; (with_reducible repeat (first | refine blk_drewN ?_ _ | refine blk_drew ?_ | refine blk_alloc ?_ _)); refine blk_far ?_ NB157_166.out _; (with_reducible repeat (first | refine blk_drewN ?_ _ | refine blk_drew ?_ | refine blk_alloc ?_ _)); exact BK157.out⟩, ⟨by (with_reducible repeat (first | refine blk_drewN ?_ _ | refine blk_drew ?_ | refine blk_alloc ?_ _)); refine blk_put (cs := #[.int .i16 t158, .int .i8 t159, .int .i8 t160, .int .i8 t161, .int .i8 t162, .int .i8 t163, .int .i16 0]) ?_ 6 _ rfl; (with_reducible repeat (first | refine blk_drewN ?_ _ | refine blk_drew ?_ | refine blk_alloc ?_ _)); refine blk_put (cs := #[.int .i16 t158, .int .i8 t159, .int .i8 t160, .int .i8 t161, .int .i8 t162, .int .i8 0, .int .i16 0]) ?_ 5 _ rfl; (with_reducible repeat (first | refine blk_drewN ?_ _ | refine blk_drew ?_ | refine blk_alloc ?_ _)); refine blk_put (cs := #[.int .i16 t158, .int .i8 t159, .int .i8 t160, .int .i8 t161, .int .i8 0, .int .i8 0, .int .i16 0]) ?_ 4 _ rfl; (with_reducible repeat (first | refine blk_drewN ?_ _ | refine blk_drew ?_ | refine blk_alloc ?_ _)); refine blk_put (cs := #[.int .i16 t158, .int .i8 t159, .int .i8 t160, .int .i8 0, .int .i8 0, .int .i8 0, .int .i16 0]) ?_ 3 _ rfl; (with_reducible repeat (first | refine blk_drewN ?_ _ | refine blk_drew ?_ | refine blk_alloc ?_ _)); refine blk_put (cs := #[.int .i16 t158, .int .i8 t159, .int .i8 0, .int .i8 0, .int .i8 0, .int .i8 0, .int .i16 0]) ?_ 2 _ rfl; (with_reducible repeat (first | refine blk_drewN ?_ _ | refine blk_drew ?_ | refine blk_alloc ?_ _)); refine blk_put (cs := #[.int .i16 t158, .int .i8 0, .int .i8 0, .int .i8 0, .int .i8 0, .int .i8 0, .int .i16 0]) ?_ 1 _ rfl; (with_reducible repeat (first | refine blk_drewN ?_ _ | refine blk_drew ?_ | refine blk_alloc ?_ _)); refine blk_put (cs := #[.int .i16 0, .int .i8 0, .int .i8 0, .int .i8 0, .int .i8 0, .int .i8 0, .int .i16 0]) ?_ 0 _ rfl; (with_reducible repeat (first | refine blk_drewN ?_ _ | refine blk_drew ?_ | refine blk_alloc ?_ _)); exact BK166.out⟩, ⟨by repeat (first | (with_reducible first | exact HB.out | apply below_alloc | apply pw_below_drewN | apply below_drew1 | refine below_set ?_ GE157.out | refine below_set ?_ GE166.out) | exact HB.out)⟩⟩
      · rw [if_neg c17] at H
        have c17b0 : (t156 == 0) = false := beq_eq_false_iff_ne.mpr c17
        have c17b1 : (t156 != 0) = true := bne_iff_ne.mpr c17
        (first | rw [c17b0] | (simp only [i64_w, i32_w]; rw [c17b0]) | skip)
        have H' := Aside0.mk H
        clear H
        go_wp2
        go_meet
        case rel => exact ⟨_, (true), (by first | rfl | (simp; done) | (simp [*]; done)), H', ⟨by first | omega | exact Nat.le_refl _⟩, ⟨by (with_reducible repeat (first | refine blk_drewN ?_ _ | refine blk_drew ?_ | refine blk_alloc ?_ _)); refine blk_far ?_ NB157_166.out _; (with_reducible repeat (first | refine blk_drewN ?_ _ | refine blk_drew ?_ | refine blk_alloc ?_ _)); refine blk_far ?_ NB157_166.out _; (with_reducible repeat (first | refine blk_drewN ?_ _ | refine blk_drew ?_ | refine blk_alloc ?_ _)); refine blk_far ?_ NB157_166.out _; (with_reducible repeat (first | refine blk_drewN ?_ _ | refine blk_drew ?_ | refine blk_alloc ?_ _)); refine blk_far ?_ NB157_166.out _; (with_reducible repeat (first | refine blk_drewN ?_ _ | refine blk_drew ?_ | refine blk_alloc ?_ _)); refine blk_far ?_ NB157_166.out _; (with_reducible repeat (first | refine blk_drewN ?_ _ | refine blk_drew ?_ | refine blk_alloc ?_ _)); refine blk_far ?_ NB157_166.out _; (with_reducible repeat (first | refine blk_drewN ?_ _ | refine blk_drew ?_ | refine blk_alloc ?_ _)); refine blk_far ?_ NB157_166.out _; (with_reducible repeat (first | refine blk_drewN ?_ _ | refine blk_drew ?_ | refine blk_alloc ?_ _)); exact BK157.out⟩, ⟨by (with_reducible repeat (first | refine blk_drewN ?_ _ | refine blk_drew ?_ | refine blk_alloc ?_ _)); refine blk_put (cs := #[.int .i16 t158, .int .i8 t159, .int .i8 t160, .int .i8 t161, .int .i8 t162, .int .i8 t163, .int .i16 0]) ?_ 6 _ rfl; (with_reducible repeat (first | refine blk_drewN ?_ _ | refine blk_drew ?_ | refine blk_alloc ?_ _)); refine blk_put (cs := #[.int .i16 t158, .int .i8 t159, .int .i8 t160, .int .i8 t161, .int .i8 t162, .int .i8 0, .int .i16 0]) ?_ 5 _ rfl; (with_reducible repeat (first | refine blk_drewN ?_ _ | refine blk_drew ?_ | refine blk_alloc ?_ _)); refine blk_put (cs := #[.int .i16 t158, .int .i8 t159, .int .i8 t160, .int .i8 t161, .int .i8 0, .int .i8 0, .int .i16 0]) ?_ 4 _ rfl; (with_reducible repeat (first | refine blk_drewN ?_ _ | refine blk_drew ?_ | refine blk_alloc ?_ _)); refine blk_put (cs := #[.int .i16 t158, .int .i8 t159, .int .i8 t160, .int .i8 0, .int .i8 0, .int .i8 0, .int .i16 0]) ?_ 3 _ rfl; (with_reducible repeat (first | refine blk_drewN ?_ _ | refine blk_drew ?_ | refine blk_alloc ?_ _)); refine blk_put (cs := #[.int .i16 t158, .int .i8 t159, .int .i8 0, .int .i8 0, .int .i8 0, .int .i8 0, .int .i16 0]) ?_ 2 _ rfl; (with_reducible repeat (first | refine blk_drewN ?_ _ | refine blk_drew ?_ | refine blk_alloc ?_ _)); refine blk_put (cs := #[.int .i16 t158, .int .i8 0, .int .i8 0, .int .i8 0, .int .i8 0, .int .i8 0, .int .i16 0]) ?_ 1 _ rfl; (with_reducible repeat (first | refine blk_drewN ?_ _ | refine blk_drew ?_ | refine blk_alloc ?_ _)); refine blk_put (cs := #[.int .i16 0, .int .i8 0, .int .i8 0, .int .i8 0, .int .i8 0, .int .i8 0, .int .i16 0]) ?_ 0 _ rfl; (with_reducible repeat (first | refine blk_drewN ?_ _ | refine blk_drew ?_ | refine blk_alloc ?_ _)); exact BK166.out⟩, ⟨by repeat (first | (with_reducible first | exact HB.out | apply below_alloc | apply pw_below_drewN | apply below_drew1 | refine below_set ?_ GE157.out | refine below_set ?_ GE166.out) | exact HB.out)⟩⟩
    case rest =>
      clear HC8
      try clear c1
      try clear p2
      try clear c3
      try clear c5
      try clear c10
      try clear c15
      try clear c17
      try clear c17b0
      try clear c17b1
      try clear hcz12_0
      try clear hcz12_1
      try clear hcz12_2
      try clear hcz12_3
      try clear hcz12_4
      try clear hcz12_5
      try clear hcz12_6
      try clear hcz16_0
      try clear hcz16_1
      try clear hcz16_2
      try clear hcz16_3
      try clear hcz16_4
      try clear hcz16_5
      try clear hcz16_6
      try clear hfz12_0
      try clear hfz12_1
      try clear hfz12_2
      try clear hfz12_3
      try clear hfz12_4
      try clear hfz12_5
      try clear hfz12_6
      try clear hfz16_0
      try clear hfz16_1
      try clear hfz16_2
      try clear hfz16_3
      try clear hfz16_4
      try clear hfz16_5
      try clear hfz16_6
      obtain ⟨kq, x36_7, rfl, HA, HJ7, BK157, BK166, HB⟩ := hcut
      cases kq with
      | zero => exact absurd HA.out (by simp [posthornlaw06_DateMoments.j0])
      | succ kj7 =>
        have H := HA.out
        clear HA
        simp only [posthornlaw06_DateMoments.j0] at H
        by_cases c18 : x36_7 = true
        · subst c18
          have H1 : (if t156 = 0 then (if t165 = 0 then (if a0 < (-62135510000) then (some true) else (some (decide (a0 > 253402200000)))) else (if t165 = 5 then (if (t158 == 0 && (t159 == 0 && (t160 == 0 && (t161 == 0 && (t162 == 0 && (t163 == 0 && (t164 == 0))))))) = true then (if a0 < (-62135510000) then (some true) else (some (decide (a0 > 253402200000)))) else (some false)) else (some false))) else (if t156 = 5 then (if (t149 == 0 && (t150 == 0 && (t151 == 0 && (t152 == 0 && (t153 == 0 && (t154 == 0 && (t155 == 0))))))) = true then (if t165 = 0 then (if a0 < (-62135510000) then (some true) else (some (decide (a0 > 253402200000)))) else (if t165 = 5 then (if (t158 == 0 && (t159 == 0 && (t160 == 0 && (t161 == 0 && (t162 == 0 && (t163 == 0 && (t164 == 0))))))) = true then (if a0 < (-62135510000) then (some true) else (some (decide (a0 > 253402200000)))) else (some false)) else (some false))) else (some false)) else (some false))) = some r := by rw [if_pos rfl] at H; exact H
          clear H
          have H := H1
          clear H1
          by_cases c19 : t156 = 0
          · rw [if_pos c19] at H
            have c19b0 : (t156 == 0) = true := beq_iff_eq.mpr c19
            have c19b1 : (t156 != 0) = false := bne_eq_false_iff_eq.mpr c19
            clear c19
            by_cases c20 : t165 = 0
            · rw [if_pos c20] at H
              have c20b0 : (t165 == 0) = true := beq_iff_eq.mpr c20
              have c20b1 : (t165 != 0) = false := bne_eq_false_iff_eq.mpr c20
              clear c20
              by_cases c21 : a0 < (-62135510000)
              · rw [if_pos c21] at H
                have c21b0 : decide (a0 < (-62135510000)) = true := decide_eq_true c21
                clear c21
                obtain rfl := Option.some.inj H
                go_wp2
                go_ret
                exact ⟨by first | rfl | (simp [errW_none, errW_some] <;> rfl) | (simp [*, errW_none, errW_some] <;> rfl), by repeat (first | (with_reducible first | exact HB.out | apply below_alloc | apply pw_below_drewN | apply below_drew1 | refine below_set ?_ GE157.out | refine below_set ?_ GE166.out) | exact HB.out)⟩
              · rw [if_neg c21] at H
                have c21b0 : decide (a0 < (-62135510000)) = false := decide_eq_false c21
                clear c21
                obtain rfl := Option.some.inj H
                go_wp2
                go_ret
                exact ⟨by first | rfl | (simp [errW_none, errW_some] <;> rfl) | (simp [*, errW_none, errW_some] <;> rfl), by repeat (first | (with_reducible first | exact HB.out | apply below_alloc | apply pw_below_drewN | apply below_drew1 | refine below_set ?_ GE157.out | refine below_set ?_ GE166.out) | exact HB.out)⟩
            · rw [if_neg c20] at H
              have c20b0 : (t165 == 0) = false := beq_eq_false_iff_ne.mpr c20
              have c20b1 : (t165 != 0) = true := bne_iff_ne.mpr c20
              by_cases c22 : t165 = 5
              · rw [if_pos c22] at H
                have c22b0 : (t165 == 5) = true := beq_iff_eq.mpr c22
                have c22b1 : (t165 != 5) = false := bne_eq_false_iff_eq.mpr c22
                clear c22
                by_cases c23 : (t158 == 0 && (t159 == 0 && (t160 == 0 && (t161 == 0 && (t162 == 0 && (t163 == 0 && (t164 == 0))))))) = true
                · rw [if_pos c23] at H
                  have c23b0 : (t158 == 0 && (t159 == 0 && (t160 == 0 && (t161 == 0 && (t162 == 0 && (t163 == 0 && (t164 == 0))))))) = true := c23
                  (try (have c23b1 : decide (t158 = 0 && (t159 == 0 && (t160 == 0 && (t161 == 0 && (t162 == 0 && (t163 == 0 && (t164 == 0))))))) = true := by simpa using c23))
                  (try (have c23b2 : (t158 == 0 && (t159 == 0 && (t160 == 0 && (t161 == 0 && (t162 == 0 && (t163 == 0 && (t164 == 0))))))) = true := by simpa using c23))
                  clear c23
                  by_cases c24 : a0 < (-62135510000)
                  · rw [if_pos c24] at H
                    have c24b0 : decide (a0 < (-62135510000)) = true := decide_eq_true c24
                    clear c24
                    obtain rfl := Option.some.inj H
                    have hnb25 := NB166_157.out
                    have hnc25 := NB157_166.out
                    have hcz26_0 : wc.cell? ⟨gb166, 0, none⟩ = some (.int .i16 t158) := (blk_cell BK166.out 0).trans rfl
                    have hcz26_1 : wc.cell? ⟨gb166, 1, none⟩ = some (.int .i8 t159) := (blk_cell BK166.out 1).trans rfl
                    have hcz26_2 : wc.cell? ⟨gb166, 2, none⟩ = some (.int .i8 t160) := (blk_cell BK166.out 2).trans rfl
                    have hcz26_3 : wc.cell? ⟨gb166, 3, none⟩ = some (.int .i8 t161) := (blk_cell BK166.out 3).trans rfl
                    have hcz26_4 : wc.cell? ⟨gb166, 4, none⟩ = some (.int .i8 t162) := (blk_cell BK166.out 4).trans rfl
                    have hcz26_5 : wc.cell? ⟨gb166, 5, none⟩ = some (.int .i8 t163) := (blk_cell BK166.out 5).trans rfl
                    have hcz26_6 : wc.cell? ⟨gb166, 6, none⟩ = some (.int .i16 t164) := (blk_cell BK166.out 6).trans rfl
                    have hfz26_0 := blk_frozen BK166.out 0
                    have hfz26_1 := blk_frozen BK166.out 1
                    have hfz26_2 := blk_frozen BK166.out 2
                    have hfz26_3 := blk_frozen BK166.out 3
                    have hfz26_4 := blk_frozen BK166.out 4
                    have hfz26_5 := blk_frozen BK166.out 5
                    have hfz26_6 := blk_frozen BK166.out 6
                    go_wp2
                    go_ret
                    exact ⟨by first | rfl | (simp [errW_none, errW_some] <;> rfl) | (simp [*, errW_none, errW_some] <;> rfl), by repeat (first | (with_reducible first | exact HB.out | apply below_alloc | apply pw_below_drewN | apply below_drew1 | refine below_set ?_ GE157.out | refine below_set ?_ GE166.out) | exact HB.out)⟩
                  · rw [if_neg c24] at H
                    have c24b0 : decide (a0 < (-62135510000)) = false := decide_eq_false c24
                    clear c24
                    obtain rfl := Option.some.inj H
                    have hnb27 := NB166_157.out
                    have hnc27 := NB157_166.out
                    have hcz28_0 : wc.cell? ⟨gb166, 0, none⟩ = some (.int .i16 t158) := (blk_cell BK166.out 0).trans rfl
                    have hcz28_1 : wc.cell? ⟨gb166, 1, none⟩ = some (.int .i8 t159) := (blk_cell BK166.out 1).trans rfl
                    have hcz28_2 : wc.cell? ⟨gb166, 2, none⟩ = some (.int .i8 t160) := (blk_cell BK166.out 2).trans rfl
                    have hcz28_3 : wc.cell? ⟨gb166, 3, none⟩ = some (.int .i8 t161) := (blk_cell BK166.out 3).trans rfl
                    have hcz28_4 : wc.cell? ⟨gb166, 4, none⟩ = some (.int .i8 t162) := (blk_cell BK166.out 4).trans rfl
                    have hcz28_5 : wc.cell? ⟨gb166, 5, none⟩ = some (.int .i8 t163) := (blk_cell BK166.out 5).trans rfl
                    have hcz28_6 : wc.cell? ⟨gb166, 6, none⟩ = some (.int .i16 t164) := (blk_cell BK166.out 6).trans rfl
                    have hfz28_0 := blk_frozen BK166.out 0
                    have hfz28_1 := blk_frozen BK166.out 1
                    have hfz28_2 := blk_frozen BK166.out 2
                    have hfz28_3 := blk_frozen BK166.out 3
                    have hfz28_4 := blk_frozen BK166.out 4
                    have hfz28_5 := blk_frozen BK166.out 5
                    have hfz28_6 := blk_frozen BK166.out 6
                    go_wp2
                    go_ret
                    exact ⟨by first | rfl | (simp [errW_none, errW_some] <;> rfl) | (simp [*, errW_none, errW_some] <;> rfl), by repeat (first | (with_reducible first | exact HB.out | apply below_alloc | apply pw_below_drewN | apply below_drew1 | refine below_set ?_ GE157.out | refine below_set ?_ GE166.out) | exact HB.out)⟩
                · rw [if_neg c23] at H
                  have c23b0 : (t158 == 0 && (t159 == 0 && (t160 == 0 && (t161 == 0 && (t162 == 0 && (t163 == 0 && (t164 == 0))))))) = false := by simpa using c23
                  (try (have c23b1 : decide (t158 = 0 && (t159 == 0 && (t160 == 0 && (t161 == 0 && (t162 == 0 && (t163 == 0 && (t164 == 0))))))) = false := by simpa using c23))
                  (try (have c23b2 : (t158 == 0 && (t159 == 0 && (t160 == 0 && (t161 == 0 && (t162 == 0 && (t163 == 0 && (t164 == 0))))))) = false := by simpa using c23))
                  (try (have c23b3 : ¬ (t158 = 0 && (t159 == 0 && (t160 == 0 && (t161 == 0 && (t162 == 0 && (t163 == 0 && (t164 == 0))))))) := by simpa using c23))
                  clear c23
                  obtain rfl := Option.some.inj H
                  have hnb29 := NB166_157.out
                  have hnc29 := NB157_166.out
                  have hcz30_0 : wc.cell? ⟨gb166, 0, none⟩ = some (.int .i16 t158) := (blk_cell BK166.out 0).trans rfl
                  have hcz30_1 : wc.cell? ⟨gb166, 1, none⟩ = some (.int .i8 t159) := (blk_cell BK166.out 1).trans rfl
                  have hcz30_2 : wc.cell? ⟨gb166, 2, none⟩ = some (.int .i8 t160) := (blk_cell BK166.out 2).trans rfl
                  have hcz30_3 : wc.cell? ⟨gb166, 3, none⟩ = some (.int .i8 t161) := (blk_cell BK166.out 3).trans rfl
                  have hcz30_4 : wc.cell? ⟨gb166, 4, none⟩ = some (.int .i8 t162) := (blk_cell BK166.out 4).trans rfl
                  have hcz30_5 : wc.cell? ⟨gb166, 5, none⟩ = some (.int .i8 t163) := (blk_cell BK166.out 5).trans rfl
                  have hcz30_6 : wc.cell? ⟨gb166, 6, none⟩ = some (.int .i16 t164) := (blk_cell BK166.out 6).trans rfl
                  have hfz30_0 := blk_frozen BK166.out 0
                  have hfz30_1 := blk_frozen BK166.out 1
                  have hfz30_2 := blk_frozen BK166.out 2
                  have hfz30_3 := blk_frozen BK166.out 3
                  have hfz30_4 := blk_frozen BK166.out 4
                  have hfz30_5 := blk_frozen BK166.out 5
                  have hfz30_6 := blk_frozen BK166.out 6
                  go_wp2
                  go_ret
                  exact ⟨by first | rfl | (simp [errW_none, errW_some] <;> rfl) | (simp [*, errW_none, errW_some] <;> rfl), by repeat (first | (with_reducible first | exact HB.out | apply below_alloc | apply pw_below_drewN | apply below_drew1 | refine below_set ?_ GE157.out | refine below_set ?_ GE166.out) | exact HB.out)⟩
              · rw [if_neg c22] at H
                have c22b0 : (t165 == 5) = false := beq_eq_false_iff_ne.mpr c22
                have c22b1 : (t165 != 5) = true := bne_iff_ne.mpr c22
                obtain rfl := Option.some.inj H
                go_wp2
                go_ret
                exact ⟨by first | rfl | (simp [errW_none, errW_some] <;> rfl) | (simp [*, errW_none, errW_some] <;> rfl), by repeat (first | (with_reducible first | exact HB.out | apply below_alloc | apply pw_below_drewN | apply below_drew1 | refine below_set ?_ GE157.out | refine below_set ?_ GE166.out) | exact HB.out)⟩
          · rw [if_neg c19] at H
            have c19b0 : (t156 == 0) = false := beq_eq_false_iff_ne.mpr c19
            have c19b1 : (t156 != 0) = true := bne_iff_ne.mpr c19
            by_cases c31 : t156 = 5
            · rw [if_pos c31] at H
              have c31b0 : (t156 == 5) = true := beq_iff_eq.mpr c31
              have c31b1 : (t156 != 5) = false := bne_eq_false_iff_eq.mpr c31
              clear c31
              by_cases c32 : (t149 == 0 && (t150 == 0 && (t151 == 0 && (t152 == 0 && (t153 == 0 && (t154 == 0 && (t155 == 0))))))) = true
              · rw [if_pos c32] at H
                have c32b0 : (t149 == 0 && (t150 == 0 && (t151 == 0 && (t152 == 0 && (t153 == 0 && (t154 == 0 && (t155 == 0))))))) = true := c32
                (try (have c32b1 : decide (t149 = 0 && (t150 == 0 && (t151 == 0 && (t152 == 0 && (t153 == 0 && (t154 == 0 && (t155 == 0))))))) = true := by simpa using c32))
                (try (have c32b2 : (t149 == 0 && (t150 == 0 && (t151 == 0 && (t152 == 0 && (t153 == 0 && (t154 == 0 && (t155 == 0))))))) = true := by simpa using c32))
                clear c32
                by_cases c33 : t165 = 0
                · rw [if_pos c33] at H
                  have c33b0 : (t165 == 0) = true := beq_iff_eq.mpr c33
                  have c33b1 : (t165 != 0) = false := bne_eq_false_iff_eq.mpr c33
                  clear c33
                  by_cases c34 : a0 < (-62135510000)
                  · rw [if_pos c34] at H
                    have c34b0 : decide (a0 < (-62135510000)) = true := decide_eq_true c34
                    clear c34
                    obtain rfl := Option.some.inj H
                    have hnb35 := NB157_166.out
                    have hnc35 := NB166_157.out
                    have hcz36_0 : wc.cell? ⟨gb157, 0, none⟩ = some (.int .i16 t149) := (blk_cell BK157.out 0).trans rfl
                    have hcz36_1 : wc.cell? ⟨gb157, 1, none⟩ = some (.int .i8 t150) := (blk_cell BK157.out 1).trans rfl
                    have hcz36_2 : wc.cell? ⟨gb157, 2, none⟩ = some (.int .i8 t151) := (blk_cell BK157.out 2).trans rfl
                    have hcz36_3 : wc.cell? ⟨gb157, 3, none⟩ = some (.int .i8 t152) := (blk_cell BK157.out 3).trans rfl
                    have hcz36_4 : wc.cell? ⟨gb157, 4, none⟩ = some (.int .i8 t153) := (blk_cell BK157.out 4).trans rfl
                    have hcz36_5 : wc.cell? ⟨gb157, 5, none⟩ = some (.int .i8 t154) := (blk_cell BK157.out 5).trans rfl
                    have hcz36_6 : wc.cell? ⟨gb157, 6, none⟩ = some (.int .i16 t155) := (blk_cell BK157.out 6).trans rfl
                    have hfz36_0 := blk_frozen BK157.out 0
                    have hfz36_1 := blk_frozen BK157.out 1
                    have hfz36_2 := blk_frozen BK157.out 2
                    have hfz36_3 := blk_frozen BK157.out 3
                    have hfz36_4 := blk_frozen BK157.out 4
                    have hfz36_5 := blk_frozen BK157.out 5
                    have hfz36_6 := blk_frozen BK157.out 6
                    go_wp2
                    go_ret
                    exact ⟨by first | rfl | (simp [errW_none, errW_some] <;> rfl) | (simp [*, errW_none, errW_some] <;> rfl), by repeat (first | (with_reducible first | exact HB.out | apply below_alloc | apply pw_below_drewN | apply below_drew1 | refine below_set ?_ GE157.out | refine below_set ?_ GE166.out) | exact HB.out)⟩
                  · rw [if_neg c34] at H
                    have c34b0 : decide (a0 < (-62135510000)) = false := decide_eq_false c34
                    clear c34
                    obtain rfl := Option.some.inj H
                    have hnb37 := NB157_166.out
                    have hnc37 := NB166_157.out
                    have hcz38_0 : wc.cell? ⟨gb157, 0, none⟩ = some (.int .i16 t149) := (blk_cell BK157.out 0).trans rfl
                    have hcz38_1 : wc.cell? ⟨gb157, 1, none⟩ = some (.int .i8 t150) := (blk_cell BK157.out 1).trans rfl
                    have hcz38_2 : wc.cell? ⟨gb157, 2, none⟩ = some (.int .i8 t151) := (blk_cell BK157.out 2).trans rfl
                    have hcz38_3 : wc.cell? ⟨gb157, 3, none⟩ = some (.int .i8 t152) := (blk_cell BK157.out 3).trans rfl
                    have hcz38_4 : wc.cell? ⟨gb157, 4, none⟩ = some (.int .i8 t153) := (blk_cell BK157.out 4).trans rfl
                    have hcz38_5 : wc.cell? ⟨gb157, 5, none⟩ = some (.int .i8 t154) := (blk_cell BK157.out 5).trans rfl
                    have hcz38_6 : wc.cell? ⟨gb157, 6, none⟩ = some (.int .i16 t155) := (blk_cell BK157.out 6).trans rfl
                    have hfz38_0 := blk_frozen BK157.out 0
                    have hfz38_1 := blk_frozen BK157.out 1
                    have hfz38_2 := blk_frozen BK157.out 2
                    have hfz38_3 := blk_frozen BK157.out 3
                    have hfz38_4 := blk_frozen BK157.out 4
                    have hfz38_5 := blk_frozen BK157.out 5
                    have hfz38_6 := blk_frozen BK157.out 6
                    go_wp2
                    go_ret
                    exact ⟨by first | rfl | (simp [errW_none, errW_some] <;> rfl) | (simp [*, errW_none, errW_some] <;> rfl), by repeat (first | (with_reducible first | exact HB.out | apply below_alloc | apply pw_below_drewN | apply below_drew1 | refine below_set ?_ GE157.out | refine below_set ?_ GE166.out) | exact HB.out)⟩
                · rw [if_neg c33] at H
                  have c33b0 : (t165 == 0) = false := beq_eq_false_iff_ne.mpr c33
                  have c33b1 : (t165 != 0) = true := bne_iff_ne.mpr c33
                  by_cases c39 : t165 = 5
                  · rw [if_pos c39] at H
                    have c39b0 : (t165 == 5) = true := beq_iff_eq.mpr c39
                    have c39b1 : (t165 != 5) = false := bne_eq_false_iff_eq.mpr c39
                    clear c39
                    by_cases c40 : (t158 == 0 && (t159 == 0 && (t160 == 0 && (t161 == 0 && (t162 == 0 && (t163 == 0 && (t164 == 0))))))) = true
                    · rw [if_pos c40] at H
                      have c40b0 : (t158 == 0 && (t159 == 0 && (t160 == 0 && (t161 == 0 && (t162 == 0 && (t163 == 0 && (t164 == 0))))))) = true := c40
                      (try (have c40b1 : decide (t158 = 0 && (t159 == 0 && (t160 == 0 && (t161 == 0 && (t162 == 0 && (t163 == 0 && (t164 == 0))))))) = true := by simpa using c40))
                      (try (have c40b2 : (t158 == 0 && (t159 == 0 && (t160 == 0 && (t161 == 0 && (t162 == 0 && (t163 == 0 && (t164 == 0))))))) = true := by simpa using c40))
                      clear c40
                      by_cases c41 : a0 < (-62135510000)
                      · rw [if_pos c41] at H
                        have c41b0 : decide (a0 < (-62135510000)) = true := decide_eq_true c41
                        clear c41
                        obtain rfl := Option.some.inj H
                        have hnb42 := NB157_166.out
                        have hnc42 := NB166_157.out
                        have hcz43_0 : wc.cell? ⟨gb157, 0, none⟩ = some (.int .i16 t149) := (blk_cell BK157.out 0).trans rfl
                        have hcz43_1 : wc.cell? ⟨gb157, 1, none⟩ = some (.int .i8 t150) := (blk_cell BK157.out 1).trans rfl
                        have hcz43_2 : wc.cell? ⟨gb157, 2, none⟩ = some (.int .i8 t151) := (blk_cell BK157.out 2).trans rfl
                        have hcz43_3 : wc.cell? ⟨gb157, 3, none⟩ = some (.int .i8 t152) := (blk_cell BK157.out 3).trans rfl
                        have hcz43_4 : wc.cell? ⟨gb157, 4, none⟩ = some (.int .i8 t153) := (blk_cell BK157.out 4).trans rfl
                        have hcz43_5 : wc.cell? ⟨gb157, 5, none⟩ = some (.int .i8 t154) := (blk_cell BK157.out 5).trans rfl
                        have hcz43_6 : wc.cell? ⟨gb157, 6, none⟩ = some (.int .i16 t155) := (blk_cell BK157.out 6).trans rfl
                        have hfz43_0 := blk_frozen BK157.out 0
                        have hfz43_1 := blk_frozen BK157.out 1
                        have hfz43_2 := blk_frozen BK157.out 2
                        have hfz43_3 := blk_frozen BK157.out 3
                        have hfz43_4 := blk_frozen BK157.out 4
                        have hfz43_5 := blk_frozen BK157.out 5
                        have hfz43_6 := blk_frozen BK157.out 6
                        have hcz44_0 : wc.cell? ⟨gb166, 0, none⟩ = some (.int .i16 t158) := (blk_cell BK166.out 0).trans rfl
                        have hcz44_1 : wc.cell? ⟨gb166, 1, none⟩ = some (.int .i8 t159) := (blk_cell BK166.out 1).trans rfl
                        have hcz44_2 : wc.cell? ⟨gb166, 2, none⟩ = some (.int .i8 t160) := (blk_cell BK166.out 2).trans rfl
                        have hcz44_3 : wc.cell? ⟨gb166, 3, none⟩ = some (.int .i8 t161) := (blk_cell BK166.out 3).trans rfl
                        have hcz44_4 : wc.cell? ⟨gb166, 4, none⟩ = some (.int .i8 t162) := (blk_cell BK166.out 4).trans rfl
                        have hcz44_5 : wc.cell? ⟨gb166, 5, none⟩ = some (.int .i8 t163) := (blk_cell BK166.out 5).trans rfl
                        have hcz44_6 : wc.cell? ⟨gb166, 6, none⟩ = some (.int .i16 t164) := (blk_cell BK166.out 6).trans rfl
                        have hfz44_0 := blk_frozen BK166.out 0
                        have hfz44_1 := blk_frozen BK166.out 1
                        have hfz44_2 := blk_frozen BK166.out 2
                        have hfz44_3 := blk_frozen BK166.out 3
                        have hfz44_4 := blk_frozen BK166.out 4
                        have hfz44_5 := blk_frozen BK166.out 5
                        have hfz44_6 := blk_frozen BK166.out 6
                        go_wp2
                        go_ret
                        exact ⟨by first | rfl | (simp [errW_none, errW_some] <;> rfl) | (simp [*, errW_none, errW_some] <;> rfl), by repeat (first | (with_reducible first | exact HB.out | apply below_alloc | apply pw_below_drewN | apply below_drew1 | refine below_set ?_ GE157.out | refine below_set ?_ GE166.out) | exact HB.out)⟩
                      · rw [if_neg c41] at H
                        have c41b0 : decide (a0 < (-62135510000)) = false := decide_eq_false c41
                        clear c41
                        obtain rfl := Option.some.inj H
                        have hnb45 := NB157_166.out
                        have hnc45 := NB166_157.out
                        have hcz46_0 : wc.cell? ⟨gb157, 0, none⟩ = some (.int .i16 t149) := (blk_cell BK157.out 0).trans rfl
                        have hcz46_1 : wc.cell? ⟨gb157, 1, none⟩ = some (.int .i8 t150) := (blk_cell BK157.out 1).trans rfl
                        have hcz46_2 : wc.cell? ⟨gb157, 2, none⟩ = some (.int .i8 t151) := (blk_cell BK157.out 2).trans rfl
                        have hcz46_3 : wc.cell? ⟨gb157, 3, none⟩ = some (.int .i8 t152) := (blk_cell BK157.out 3).trans rfl
                        have hcz46_4 : wc.cell? ⟨gb157, 4, none⟩ = some (.int .i8 t153) := (blk_cell BK157.out 4).trans rfl
                        have hcz46_5 : wc.cell? ⟨gb157, 5, none⟩ = some (.int .i8 t154) := (blk_cell BK157.out 5).trans rfl
                        have hcz46_6 : wc.cell? ⟨gb157, 6, none⟩ = some (.int .i16 t155) := (blk_cell BK157.out 6).trans rfl
                        have hfz46_0 := blk_frozen BK157.out 0
                        have hfz46_1 := blk_frozen BK157.out 1
                        have hfz46_2 := blk_frozen BK157.out 2
                        have hfz46_3 := blk_frozen BK157.out 3
                        have hfz46_4 := blk_frozen BK157.out 4
                        have hfz46_5 := blk_frozen BK157.out 5
                        have hfz46_6 := blk_frozen BK157.out 6
                        have hcz47_0 : wc.cell? ⟨gb166, 0, none⟩ = some (.int .i16 t158) := (blk_cell BK166.out 0).trans rfl
                        have hcz47_1 : wc.cell? ⟨gb166, 1, none⟩ = some (.int .i8 t159) := (blk_cell BK166.out 1).trans rfl
                        have hcz47_2 : wc.cell? ⟨gb166, 2, none⟩ = some (.int .i8 t160) := (blk_cell BK166.out 2).trans rfl
                        have hcz47_3 : wc.cell? ⟨gb166, 3, none⟩ = some (.int .i8 t161) := (blk_cell BK166.out 3).trans rfl
                        have hcz47_4 : wc.cell? ⟨gb166, 4, none⟩ = some (.int .i8 t162) := (blk_cell BK166.out 4).trans rfl
                        have hcz47_5 : wc.cell? ⟨gb166, 5, none⟩ = some (.int .i8 t163) := (blk_cell BK166.out 5).trans rfl
                        have hcz47_6 : wc.cell? ⟨gb166, 6, none⟩ = some (.int .i16 t164) := (blk_cell BK166.out 6).trans rfl
                        have hfz47_0 := blk_frozen BK166.out 0
                        have hfz47_1 := blk_frozen BK166.out 1
                        have hfz47_2 := blk_frozen BK166.out 2
                        have hfz47_3 := blk_frozen BK166.out 3
                        have hfz47_4 := blk_frozen BK166.out 4
                        have hfz47_5 := blk_frozen BK166.out 5
                        have hfz47_6 := blk_frozen BK166.out 6
                        go_wp2
                        go_ret
                        exact ⟨by first | rfl | (simp [errW_none, errW_some] <;> rfl) | (simp [*, errW_none, errW_some] <;> rfl), by repeat (first | (with_reducible first | exact HB.out | apply below_alloc | apply pw_below_drewN | apply below_drew1 | refine below_set ?_ GE157.out | refine below_set ?_ GE166.out) | exact HB.out)⟩
                    · rw [if_neg c40] at H
                      have c40b0 : (t158 == 0 && (t159 == 0 && (t160 == 0 && (t161 == 0 && (t162 == 0 && (t163 == 0 && (t164 == 0))))))) = false := by simpa using c40
                      (try (have c40b1 : decide (t158 = 0 && (t159 == 0 && (t160 == 0 && (t161 == 0 && (t162 == 0 && (t163 == 0 && (t164 == 0))))))) = false := by simpa using c40))
                      (try (have c40b2 : (t158 == 0 && (t159 == 0 && (t160 == 0 && (t161 == 0 && (t162 == 0 && (t163 == 0 && (t164 == 0))))))) = false := by simpa using c40))
                      (try (have c40b3 : ¬ (t158 = 0 && (t159 == 0 && (t160 == 0 && (t161 == 0 && (t162 == 0 && (t163 == 0 && (t164 == 0))))))) := by simpa using c40))
                      clear c40
                      obtain rfl := Option.some.inj H
                      have hnb48 := NB157_166.out
                      have hnc48 := NB166_157.out
                      have hcz49_0 : wc.cell? ⟨gb157, 0, none⟩ = some (.int .i16 t149) := (blk_cell BK157.out 0).trans rfl
                      have hcz49_1 : wc.cell? ⟨gb157, 1, none⟩ = some (.int .i8 t150) := (blk_cell BK157.out 1).trans rfl
                      have hcz49_2 : wc.cell? ⟨gb157, 2, none⟩ = some (.int .i8 t151) := (blk_cell BK157.out 2).trans rfl
                      have hcz49_3 : wc.cell? ⟨gb157, 3, none⟩ = some (.int .i8 t152) := (blk_cell BK157.out 3).trans rfl
                      have hcz49_4 : wc.cell? ⟨gb157, 4, none⟩ = some (.int .i8 t153) := (blk_cell BK157.out 4).trans rfl
                      have hcz49_5 : wc.cell? ⟨gb157, 5, none⟩ = some (.int .i8 t154) := (blk_cell BK157.out 5).trans rfl
                      have hcz49_6 : wc.cell? ⟨gb157, 6, none⟩ = some (.int .i16 t155) := (blk_cell BK157.out 6).trans rfl
                      have hfz49_0 := blk_frozen BK157.out 0
                      have hfz49_1 := blk_frozen BK157.out 1
                      have hfz49_2 := blk_frozen BK157.out 2
                      have hfz49_3 := blk_frozen BK157.out 3
                      have hfz49_4 := blk_frozen BK157.out 4
                      have hfz49_5 := blk_frozen BK157.out 5
                      have hfz49_6 := blk_frozen BK157.out 6
                      have hcz50_0 : wc.cell? ⟨gb166, 0, none⟩ = some (.int .i16 t158) := (blk_cell BK166.out 0).trans rfl
                      have hcz50_1 : wc.cell? ⟨gb166, 1, none⟩ = some (.int .i8 t159) := (blk_cell BK166.out 1).trans rfl
                      have hcz50_2 : wc.cell? ⟨gb166, 2, none⟩ = some (.int .i8 t160) := (blk_cell BK166.out 2).trans rfl
                      have hcz50_3 : wc.cell? ⟨gb166, 3, none⟩ = some (.int .i8 t161) := (blk_cell BK166.out 3).trans rfl
                      have hcz50_4 : wc.cell? ⟨gb166, 4, none⟩ = some (.int .i8 t162) := (blk_cell BK166.out 4).trans rfl
                      have hcz50_5 : wc.cell? ⟨gb166, 5, none⟩ = some (.int .i8 t163) := (blk_cell BK166.out 5).trans rfl
                      have hcz50_6 : wc.cell? ⟨gb166, 6, none⟩ = some (.int .i16 t164) := (blk_cell BK166.out 6).trans rfl
                      have hfz50_0 := blk_frozen BK166.out 0
                      have hfz50_1 := blk_frozen BK166.out 1
                      have hfz50_2 := blk_frozen BK166.out 2
                      have hfz50_3 := blk_frozen BK166.out 3
                      have hfz50_4 := blk_frozen BK166.out 4
                      have hfz50_5 := blk_frozen BK166.out 5
                      have hfz50_6 := blk_frozen BK166.out 6
                      go_wp2
                      go_ret
                      exact ⟨by first | rfl | (simp [errW_none, errW_some] <;> rfl) | (simp [*, errW_none, errW_some] <;> rfl), by repeat (first | (with_reducible first | exact HB.out | apply below_alloc | apply pw_below_drewN | apply below_drew1 | refine below_set ?_ GE157.out | refine below_set ?_ GE166.out) | exact HB.out)⟩
                  · rw [if_neg c39] at H
                    have c39b0 : (t165 == 5) = false := beq_eq_false_iff_ne.mpr c39
                    have c39b1 : (t165 != 5) = true := bne_iff_ne.mpr c39
                    obtain rfl := Option.some.inj H
                    have hnb51 := NB157_166.out
                    have hnc51 := NB166_157.out
                    have hcz52_0 : wc.cell? ⟨gb157, 0, none⟩ = some (.int .i16 t149) := (blk_cell BK157.out 0).trans rfl
                    have hcz52_1 : wc.cell? ⟨gb157, 1, none⟩ = some (.int .i8 t150) := (blk_cell BK157.out 1).trans rfl
                    have hcz52_2 : wc.cell? ⟨gb157, 2, none⟩ = some (.int .i8 t151) := (blk_cell BK157.out 2).trans rfl
                    have hcz52_3 : wc.cell? ⟨gb157, 3, none⟩ = some (.int .i8 t152) := (blk_cell BK157.out 3).trans rfl
                    have hcz52_4 : wc.cell? ⟨gb157, 4, none⟩ = some (.int .i8 t153) := (blk_cell BK157.out 4).trans rfl
                    have hcz52_5 : wc.cell? ⟨gb157, 5, none⟩ = some (.int .i8 t154) := (blk_cell BK157.out 5).trans rfl
                    have hcz52_6 : wc.cell? ⟨gb157, 6, none⟩ = some (.int .i16 t155) := (blk_cell BK157.out 6).trans rfl
                    have hfz52_0 := blk_frozen BK157.out 0
                    have hfz52_1 := blk_frozen BK157.out 1
                    have hfz52_2 := blk_frozen BK157.out 2
                    have hfz52_3 := blk_frozen BK157.out 3
                    have hfz52_4 := blk_frozen BK157.out 4
                    have hfz52_5 := blk_frozen BK157.out 5
                    have hfz52_6 := blk_frozen BK157.out 6
                    go_wp2
                    go_ret
                    exact ⟨by first | rfl | (simp [errW_none, errW_some] <;> rfl) | (simp [*, errW_none, errW_some] <;> rfl), by repeat (first | (with_reducible first | exact HB.out | apply below_alloc | apply pw_below_drewN | apply below_drew1 | refine below_set ?_ GE157.out | refine below_set ?_ GE166.out) | exact HB.out)⟩
              · rw [if_neg c32] at H
                have c32b0 : (t149 == 0 && (t150 == 0 && (t151 == 0 && (t152 == 0 && (t153 == 0 && (t154 == 0 && (t155 == 0))))))) = false := by simpa using c32
                (try (have c32b1 : decide (t149 = 0 && (t150 == 0 && (t151 == 0 && (t152 == 0 && (t153 == 0 && (t154 == 0 && (t155 == 0))))))) = false := by simpa using c32))
                (try (have c32b2 : (t149 == 0 && (t150 == 0 && (t151 == 0 && (t152 == 0 && (t153 == 0 && (t154 == 0 && (t155 == 0))))))) = false := by simpa using c32))
                (try (have c32b3 : ¬ (t149 = 0 && (t150 == 0 && (t151 == 0 && (t152 == 0 && (t153 == 0 && (t154 == 0 && (t155 == 0))))))) := by simpa using c32))
                clear c32
                obtain rfl := Option.some.inj H
                have hnb53 := NB157_166.out
                have hnc53 := NB166_157.out
                have hcz54_0 : wc.cell? ⟨gb157, 0, none⟩ = some (.int .i16 t149) := (blk_cell BK157.out 0).trans rfl
                have hcz54_1 : wc.cell? ⟨gb157, 1, none⟩ = some (.int .i8 t150) := (blk_cell BK157.out 1).trans rfl
                have hcz54_2 : wc.cell? ⟨gb157, 2, none⟩ = some (.int .i8 t151) := (blk_cell BK157.out 2).trans rfl
                have hcz54_3 : wc.cell? ⟨gb157, 3, none⟩ = some (.int .i8 t152) := (blk_cell BK157.out 3).trans rfl
                have hcz54_4 : wc.cell? ⟨gb157, 4, none⟩ = some (.int .i8 t153) := (blk_cell BK157.out 4).trans rfl
                have hcz54_5 : wc.cell? ⟨gb157, 5, none⟩ = some (.int .i8 t154) := (blk_cell BK157.out 5).trans rfl
                have hcz54_6 : wc.cell? ⟨gb157, 6, none⟩ = some (.int .i16 t155) := (blk_cell BK157.out 6).trans rfl
                have hfz54_0 := blk_frozen BK157.out 0
                have hfz54_1 := blk_frozen BK157.out 1
                have hfz54_2 := blk_frozen BK157.out 2
                have hfz54_3 := blk_frozen BK157.out 3
                have hfz54_4 := blk_frozen BK157.out 4
                have hfz54_5 := blk_frozen BK157.out 5
                have hfz54_6 := blk_frozen BK157.out 6
                go_wp2
                go_ret
                exact ⟨by first | rfl | (simp [errW_none, errW_some] <;> rfl) | (simp [*, errW_none, errW_some] <;> rfl), by repeat (first | (with_reducible first | exact HB.out | apply below_alloc | apply pw_below_drewN | apply below_drew1 | refine below_set ?_ GE157.out | refine below_set ?_ GE166.out) | exact HB.out)⟩
            · rw [if_neg c31] at H
              have c31b0 : (t156 == 5) = false := beq_eq_false_iff_ne.mpr c31
              have c31b1 : (t156 != 5) = true := bne_iff_ne.mpr c31
              obtain rfl := Option.some.inj H
              go_wp2
              go_ret
              exact ⟨by first | rfl | (simp [errW_none, errW_some] <;> rfl) | (simp [*, errW_none, errW_some] <;> rfl), by repeat (first | (with_reducible first | exact HB.out | apply below_alloc | apply pw_below_drewN | apply below_drew1 | refine below_set ?_ GE157.out | refine below_set ?_ GE166.out) | exact HB.out)⟩
        · replace c18 := Bool.eq_false_iff.mpr c18
          subst c18
          have H1 : ((date_Seconds.f t149 t150 t151 t152 t153 t154 t155).bind fun bt167 => ((date_Seconds.f t158 t159 t160 t161 t162 t163 t164).bind fun bt169 => (if bt167.2 = 0 then (if bt169.2 = 0 then (if bt167.1 = a0 then (if bt169.1 = a0 then (if t155 = (Int.tmod a1 1440) then (some (t164 == (Int.tmod a2 1440))) else (some false)) else (some false)) else (some false)) else (some false)) else (some false)))) = some r := by rw [if_neg (show ¬ (false = true) by decide)] at H; exact H
          clear H
          have H := H1
          clear H1
          replace H := Option.bind_eq_some_iff.mp H
          obtain ⟨⟨t167, t168⟩, A550, H⟩ := H
          replace H : ((date_Seconds.f t158 t159 t160 t161 t162 t163 t164).bind fun bt169 => (if t168 = 0 then (if bt169.2 = 0 then (if t167 = a0 then (if bt169.1 = a0 then (if t155 = (Int.tmod a1 1440) then (some (t164 == (Int.tmod a2 1440))) else (some false)) else (some false)) else (some false)) else (some false)) else (some false))) = some r := H
          have A55 := Aside0.mk A550
          clear A550
          replace H := Option.bind_eq_some_iff.mp H
          obtain ⟨⟨t169, t170⟩, A560, H⟩ := H
          replace H : (if t168 = 0 then (if t170 = 0 then (if t167 = a0 then (if t169 = a0 then (if t155 = (Int.tmod a1 1440) then (some (t164 == (Int.tmod a2 1440))) else (some false)) else (some false)) else (some false)) else (some false)) else (some false)) = some r := H
          have A56 := Aside0.mk A560
          clear A560
          by_cases c57 : t168 = 0
          · rw [if_pos c57] at H
            have c57b0 : (t168 == 0) = true := beq_iff_eq.mpr c57
            have c57b1 : (t168 != 0) = false := bne_eq_false_iff_eq.mpr c57
            clear c57
            by_cases c58 : t170 = 0
            · rw [if_pos c58] at H
              have c58b0 : (t170 == 0) = true := beq_iff_eq.mpr c58
              have c58b1 : (t170 != 0) = false := bne_eq_false_iff_eq.mpr c58
              clear c58
              by_cases c59 : t167 = a0
              · rw [if_pos c59] at H
                have c59b0 : (t167 == a0) = true := beq_iff_eq.mpr c59
                have c59b1 : (t167 != a0) = false := bne_eq_false_iff_eq.mpr c59
                clear c59
                by_cases c60 : t169 = a0
                · rw [if_pos c60] at H
                  have c60b0 : (t169 == a0) = true := beq_iff_eq.mpr c60
                  have c60b1 : (t169 != a0) = false := bne_eq_false_iff_eq.mpr c60
                  clear c60
                  by_cases c61 : t155 = (Int.tmod a1 1440)
                  · rw [if_pos c61] at H
                    have c61b0 : (t155 == (Int.tmod a1 1440)) = true := beq_iff_eq.mpr c61
                    have c61b1 : (t155 != (Int.tmod a1 1440)) = false := bne_eq_false_iff_eq.mpr c61
                    clear c61
                    obtain rfl := Option.some.inj H
                    have hnb62 := NB157_166.out
                    have hnc62 := NB166_157.out
                    have hcz63_0 : wc.cell? ⟨gb157, 0, none⟩ = some (.int .i16 t149) := (blk_cell BK157.out 0).trans rfl
                    have hcz63_1 : wc.cell? ⟨gb157, 1, none⟩ = some (.int .i8 t150) := (blk_cell BK157.out 1).trans rfl
                    have hcz63_2 : wc.cell? ⟨gb157, 2, none⟩ = some (.int .i8 t151) := (blk_cell BK157.out 2).trans rfl
                    have hcz63_3 : wc.cell? ⟨gb157, 3, none⟩ = some (.int .i8 t152) := (blk_cell BK157.out 3).trans rfl
                    have hcz63_4 : wc.cell? ⟨gb157, 4, none⟩ = some (.int .i8 t153) := (blk_cell BK157.out 4).trans rfl
                    have hcz63_5 : wc.cell? ⟨gb157, 5, none⟩ = some (.int .i8 t154) := (blk_cell BK157.out 5).trans rfl
                    have hcz63_6 : wc.cell? ⟨gb157, 6, none⟩ = some (.int .i16 t155) := (blk_cell BK157.out 6).trans rfl
                    have hfz63_0 := blk_frozen BK157.out 0
                    have hfz63_1 := blk_frozen BK157.out 1
                    have hfz63_2 := blk_frozen BK157.out 2
                    have hfz63_3 := blk_frozen BK157.out 3
                    have hfz63_4 := blk_frozen BK157.out 4
                    have hfz63_5 := blk_frozen BK157.out 5
                    have hfz63_6 := blk_frozen BK157.out 6
                    go_wp2_with (first | ((with_reducible refine gate_callee (f := 24) rfl ?_); refine goesL_ (some 71) rfl rfl Tryd.func24 (by kernel_rfl) rfl #[.agg #[.int .i16 t149, .int .i8 t150, .int .i8 t151, .int .i8 t152, .int .i8 t153, .int .i8 t154, .int .i16 t155]] rfl (by (try simp only [List.map_toArray, List.map_cons, List.map_nil]); first | done | rfl | (simp only [List.length_drop, List.length_take]; rfl)) ?_; (with_reducible refine (date_Seconds.calls t149 t150 t151 t152 t153 t154 t155 t167 t168 _ A55.out).mono ?_); rintro e w64 ⟨rfl, hb⟩; refine ⟨_, rfl, ?_⟩; have n0_ := Aside0.mk (blk_below (g := gb157) (o := .cells #[.int .i16 t149, .int .i8 t150, .int .i8 t151, .int .i8 t152, .int .i8 t153, .int .i8 t154, .int .i16 t155] 30 (0, 0)) (by (with_reducible repeat (first | refine blk_drewN ?_ _ | refine blk_drew ?_ | refine blk_alloc ?_ _)); exact BK157.out) hb); have n1_ := Aside0.mk (blk_below (g := gb166) (o := .cells #[.int .i16 t158, .int .i8 t159, .int .i8 t160, .int .i8 t161, .int .i8 t162, .int .i8 t163, .int .i16 t164] 30 (0, 0)) (by (with_reducible repeat (first | refine blk_drewN ?_ _ | refine blk_drew ?_ | refine blk_alloc ?_ _)); exact BK166.out) hb); have n2_ := Aside0.mk (below_step (by repeat (first | (with_reducible first | exact HB.out | apply below_alloc | apply pw_below_drewN | apply below_drew1 | refine below_set ?_ GE157.out | refine below_set ?_ GE166.out) | exact HB.out)) hb); clear BK157; clear BK166; clear HB; have BK157 := n0_; have BK166 := n1_; have HB := n2_; clear n0_ n1_ n2_; (try clear hb); (try clear hb2); (try clear hk); (try clear hi); have hcz65_0 : w64.cell? ⟨gb166, 0, none⟩ = some (.int .i16 t158) := (blk_cell BK166.out 0).trans rfl; have hcz65_1 : w64.cell? ⟨gb166, 1, none⟩ = some (.int .i8 t159) := (blk_cell BK166.out 1).trans rfl; have hcz65_2 : w64.cell? ⟨gb166, 2, none⟩ = some (.int .i8 t160) := (blk_cell BK166.out 2).trans rfl; have hcz65_3 : w64.cell? ⟨gb166, 3, none⟩ = some (.int .i8 t161) := (blk_cell BK166.out 3).trans rfl; have hcz65_4 : w64.cell? ⟨gb166, 4, none⟩ = some (.int .i8 t162) := (blk_cell BK166.out 4).trans rfl; have hcz65_5 : w64.cell? ⟨gb166, 5, none⟩ = some (.int .i8 t163) := (blk_cell BK166.out 5).trans rfl; have hcz65_6 : w64.cell? ⟨gb166, 6, none⟩ = some (.int .i16 t164) := (blk_cell BK166.out 6).trans rfl; have hfz65_0 := blk_frozen BK166.out 0; have hfz65_1 := blk_frozen BK166.out 1; have hfz65_2 := blk_frozen BK166.out 2; have hfz65_3 := blk_frozen BK166.out 3; have hfz65_4 := blk_frozen BK166.out 4; have hfz65_5 := blk_frozen BK166.out 5; have hfz65_6 := blk_frozen BK166.out 6) | ((with_reducible refine gate_callee (f := 24) rfl ?_); refine goesL_ (some 76) rfl rfl Tryd.func24 (by kernel_rfl) rfl #[.agg #[.int .i16 t158, .int .i8 t159, .int .i8 t160, .int .i8 t161, .int .i8 t162, .int .i8 t163, .int .i16 t164]] rfl (by (try simp only [List.map_toArray, List.map_cons, List.map_nil]); first | done | rfl | (simp only [List.length_drop, List.length_take]; rfl)) ?_; (with_reducible refine (date_Seconds.calls t158 t159 t160 t161 t162 t163 t164 t169 t170 _ A56.out).mono ?_); rintro e w66 ⟨rfl, hb⟩; refine ⟨_, rfl, ?_⟩; have n0_ := Aside0.mk (blk_below (g := gb157) (o := .cells #[.int .i16 t149, .int .i8 t150, .int .i8 t151, .int .i8 t152, .int .i8 t153, .int .i8 t154, .int .i16 t155] 30 (0, 0)) (by (with_reducible repeat (first | refine blk_drewN ?_ _ | refine blk_drew ?_ | refine blk_alloc ?_ _)); exact BK157.out) hb); have n1_ := Aside0.mk (blk_below (g := gb166) (o := .cells #[.int .i16 t158, .int .i8 t159, .int .i8 t160, .int .i8 t161, .int .i8 t162, .int .i8 t163, .int .i16 t164] 30 (0, 0)) (by (with_reducible repeat (first | refine blk_drewN ?_ _ | refine blk_drew ?_ | refine blk_alloc ?_ _)); exact BK166.out) hb); have n2_ := Aside0.mk (below_step (by repeat (first | (with_reducible first | exact HB.out | apply below_alloc | apply pw_below_drewN | apply below_drew1 | refine below_set ?_ GE157.out | refine below_set ?_ GE166.out) | exact HB.out)) hb); clear BK157; clear BK166; clear HB; have BK157 := n0_; have BK166 := n1_; have HB := n2_; clear n0_ n1_ n2_; (try clear hb); (try clear hb2); (try clear hk); (try clear hi); have hcz67_0 : w66.cell? ⟨gb157, 0, none⟩ = some (.int .i16 t149) := (blk_cell BK157.out 0).trans rfl; have hcz67_1 : w66.cell? ⟨gb157, 1, none⟩ = some (.int .i8 t150) := (blk_cell BK157.out 1).trans rfl; have hcz67_2 : w66.cell? ⟨gb157, 2, none⟩ = some (.int .i8 t151) := (blk_cell BK157.out 2).trans rfl; have hcz67_3 : w66.cell? ⟨gb157, 3, none⟩ = some (.int .i8 t152) := (blk_cell BK157.out 3).trans rfl; have hcz67_4 : w66.cell? ⟨gb157, 4, none⟩ = some (.int .i8 t153) := (blk_cell BK157.out 4).trans rfl; have hcz67_5 : w66.cell? ⟨gb157, 5, none⟩ = some (.int .i8 t154) := (blk_cell BK157.out 5).trans rfl; have hcz67_6 : w66.cell? ⟨gb157, 6, none⟩ = some (.int .i16 t155) := (blk_cell BK157.out 6).trans rfl; have hfz67_0 := blk_frozen BK157.out 0; have hfz67_1 := blk_frozen BK157.out 1; have hfz67_2 := blk_frozen BK157.out 2; have hfz67_3 := blk_frozen BK157.out 3; have hfz67_4 := blk_frozen BK157.out 4; have hfz67_5 := blk_frozen BK157.out 5; have hfz67_6 := blk_frozen BK157.out 6; have hcz68_0 : w66.cell? ⟨gb166, 0, none⟩ = some (.int .i16 t158) := (blk_cell BK166.out 0).trans rfl; have hcz68_1 : w66.cell? ⟨gb166, 1, none⟩ = some (.int .i8 t159) := (blk_cell BK166.out 1).trans rfl; have hcz68_2 : w66.cell? ⟨gb166, 2, none⟩ = some (.int .i8 t160) := (blk_cell BK166.out 2).trans rfl; have hcz68_3 : w66.cell? ⟨gb166, 3, none⟩ = some (.int .i8 t161) := (blk_cell BK166.out 3).trans rfl; have hcz68_4 : w66.cell? ⟨gb166, 4, none⟩ = some (.int .i8 t162) := (blk_cell BK166.out 4).trans rfl; have hcz68_5 : w66.cell? ⟨gb166, 5, none⟩ = some (.int .i8 t163) := (blk_cell BK166.out 5).trans rfl; have hcz68_6 : w66.cell? ⟨gb166, 6, none⟩ = some (.int .i16 t164) := (blk_cell BK166.out 6).trans rfl; have hfz68_0 := blk_frozen BK166.out 0; have hfz68_1 := blk_frozen BK166.out 1; have hfz68_2 := blk_frozen BK166.out 2; have hfz68_3 := blk_frozen BK166.out 3; have hfz68_4 := blk_frozen BK166.out 4; have hfz68_5 := blk_frozen BK166.out 5; have hfz68_6 := blk_frozen BK166.out 6))
                    go_ret
                    exact ⟨by first | rfl | (simp [errW_none, errW_some] <;> rfl) | (simp [*, errW_none, errW_some] <;> rfl), by repeat (first | (with_reducible first | exact HB.out | apply below_alloc | apply pw_below_drewN | apply below_drew1 | refine below_set ?_ GE157.out | refine below_set ?_ GE166.out) | exact HB.out)⟩
                  · rw [if_neg c61] at H
                    have c61b0 : (t155 == (Int.tmod a1 1440)) = false := beq_eq_false_iff_ne.mpr c61
                    have c61b1 : (t155 != (Int.tmod a1 1440)) = true := bne_iff_ne.mpr c61
                    obtain rfl := Option.some.inj H
                    have hnb69 := NB157_166.out
                    have hnc69 := NB166_157.out
                    have hcz70_0 : wc.cell? ⟨gb157, 0, none⟩ = some (.int .i16 t149) := (blk_cell BK157.out 0).trans rfl
                    have hcz70_1 : wc.cell? ⟨gb157, 1, none⟩ = some (.int .i8 t150) := (blk_cell BK157.out 1).trans rfl
                    have hcz70_2 : wc.cell? ⟨gb157, 2, none⟩ = some (.int .i8 t151) := (blk_cell BK157.out 2).trans rfl
                    have hcz70_3 : wc.cell? ⟨gb157, 3, none⟩ = some (.int .i8 t152) := (blk_cell BK157.out 3).trans rfl
                    have hcz70_4 : wc.cell? ⟨gb157, 4, none⟩ = some (.int .i8 t153) := (blk_cell BK157.out 4).trans rfl
                    have hcz70_5 : wc.cell? ⟨gb157, 5, none⟩ = some (.int .i8 t154) := (blk_cell BK157.out 5).trans rfl
                    have hcz70_6 : wc.cell? ⟨gb157, 6, none⟩ = some (.int .i16 t155) := (blk_cell BK157.out 6).trans rfl
                    have hfz70_0 := blk_frozen BK157.out 0
                    have hfz70_1 := blk_frozen BK157.out 1
                    have hfz70_2 := blk_frozen BK157.out 2
                    have hfz70_3 := blk_frozen BK157.out 3
                    have hfz70_4 := blk_frozen BK157.out 4
                    have hfz70_5 := blk_frozen BK157.out 5
                    have hfz70_6 := blk_frozen BK157.out 6
                    go_wp2_with (first | ((with_reducible refine gate_callee (f := 24) rfl ?_); refine goesL_ (some 71) rfl rfl Tryd.func24 (by kernel_rfl) rfl #[.agg #[.int .i16 t149, .int .i8 t150, .int .i8 t151, .int .i8 t152, .int .i8 t153, .int .i8 t154, .int .i16 t155]] rfl (by (try simp only [List.map_toArray, List.map_cons, List.map_nil]); first | done | rfl | (simp only [List.length_drop, List.length_take]; rfl)) ?_; (with_reducible refine (date_Seconds.calls t149 t150 t151 t152 t153 t154 t155 t167 t168 _ A55.out).mono ?_); rintro e w71 ⟨rfl, hb⟩; refine ⟨_, rfl, ?_⟩; have n0_ := Aside0.mk (blk_below (g := gb157) (o := .cells #[.int .i16 t149, .int .i8 t150, .int .i8 t151, .int .i8 t152, .int .i8 t153, .int .i8 t154, .int .i16 t155] 30 (0, 0)) (by (with_reducible repeat (first | refine blk_drewN ?_ _ | refine blk_drew ?_ | refine blk_alloc ?_ _)); exact BK157.out) hb); have n1_ := Aside0.mk (blk_below (g := gb166) (o := .cells #[.int .i16 t158, .int .i8 t159, .int .i8 t160, .int .i8 t161, .int .i8 t162, .int .i8 t163, .int .i16 t164] 30 (0, 0)) (by (with_reducible repeat (first | refine blk_drewN ?_ _ | refine blk_drew ?_ | refine blk_alloc ?_ _)); exact BK166.out) hb); have n2_ := Aside0.mk (below_step (by repeat (first | (with_reducible first | exact HB.out | apply below_alloc | apply pw_below_drewN | apply below_drew1 | refine below_set ?_ GE157.out | refine below_set ?_ GE166.out) | exact HB.out)) hb); clear BK157; clear BK166; clear HB; have BK157 := n0_; have BK166 := n1_; have HB := n2_; clear n0_ n1_ n2_; (try clear hb); (try clear hb2); (try clear hk); (try clear hi); have hcz72_0 : w71.cell? ⟨gb166, 0, none⟩ = some (.int .i16 t158) := (blk_cell BK166.out 0).trans rfl; have hcz72_1 : w71.cell? ⟨gb166, 1, none⟩ = some (.int .i8 t159) := (blk_cell BK166.out 1).trans rfl; have hcz72_2 : w71.cell? ⟨gb166, 2, none⟩ = some (.int .i8 t160) := (blk_cell BK166.out 2).trans rfl; have hcz72_3 : w71.cell? ⟨gb166, 3, none⟩ = some (.int .i8 t161) := (blk_cell BK166.out 3).trans rfl; have hcz72_4 : w71.cell? ⟨gb166, 4, none⟩ = some (.int .i8 t162) := (blk_cell BK166.out 4).trans rfl; have hcz72_5 : w71.cell? ⟨gb166, 5, none⟩ = some (.int .i8 t163) := (blk_cell BK166.out 5).trans rfl; have hcz72_6 : w71.cell? ⟨gb166, 6, none⟩ = some (.int .i16 t164) := (blk_cell BK166.out 6).trans rfl; have hfz72_0 := blk_frozen BK166.out 0; have hfz72_1 := blk_frozen BK166.out 1; have hfz72_2 := blk_frozen BK166.out 2; have hfz72_3 := blk_frozen BK166.out 3; have hfz72_4 := blk_frozen BK166.out 4; have hfz72_5 := blk_frozen BK166.out 5; have hfz72_6 := blk_frozen BK166.out 6) | ((with_reducible refine gate_callee (f := 24) rfl ?_); refine goesL_ (some 76) rfl rfl Tryd.func24 (by kernel_rfl) rfl #[.agg #[.int .i16 t158, .int .i8 t159, .int .i8 t160, .int .i8 t161, .int .i8 t162, .int .i8 t163, .int .i16 t164]] rfl (by (try simp only [List.map_toArray, List.map_cons, List.map_nil]); first | done | rfl | (simp only [List.length_drop, List.length_take]; rfl)) ?_; (with_reducible refine (date_Seconds.calls t158 t159 t160 t161 t162 t163 t164 t169 t170 _ A56.out).mono ?_); rintro e w73 ⟨rfl, hb⟩; refine ⟨_, rfl, ?_⟩; have n0_ := Aside0.mk (blk_below (g := gb157) (o := .cells #[.int .i16 t149, .int .i8 t150, .int .i8 t151, .int .i8 t152, .int .i8 t153, .int .i8 t154, .int .i16 t155] 30 (0, 0)) (by (with_reducible repeat (first | refine blk_drewN ?_ _ | refine blk_drew ?_ | refine blk_alloc ?_ _)); exact BK157.out) hb); have n1_ := Aside0.mk (blk_below (g := gb166) (o := .cells #[.int .i16 t158, .int .i8 t159, .int .i8 t160, .int .i8 t161, .int .i8 t162, .int .i8 t163, .int .i16 t164] 30 (0, 0)) (by (with_reducible repeat (first | refine blk_drewN ?_ _ | refine blk_drew ?_ | refine blk_alloc ?_ _)); exact BK166.out) hb); have n2_ := Aside0.mk (below_step (by repeat (first | (with_reducible first | exact HB.out | apply below_alloc | apply pw_below_drewN | apply below_drew1 | refine below_set ?_ GE157.out | refine below_set ?_ GE166.out) | exact HB.out)) hb); clear BK157; clear BK166; clear HB; have BK157 := n0_; have BK166 := n1_; have HB := n2_; clear n0_ n1_ n2_; (try clear hb); (try clear hb2); (try clear hk); (try clear hi); have hcz74_0 : w73.cell? ⟨gb157, 0, none⟩ = some (.int .i16 t149) := (blk_cell BK157.out 0).trans rfl; have hcz74_1 : w73.cell? ⟨gb157, 1, none⟩ = some (.int .i8 t150) := (blk_cell BK157.out 1).trans rfl; have hcz74_2 : w73.cell? ⟨gb157, 2, none⟩ = some (.int .i8 t151) := (blk_cell BK157.out 2).trans rfl; have hcz74_3 : w73.cell? ⟨gb157, 3, none⟩ = some (.int .i8 t152) := (blk_cell BK157.out 3).trans rfl; have hcz74_4 : w73.cell? ⟨gb157, 4, none⟩ = some (.int .i8 t153) := (blk_cell BK157.out 4).trans rfl; have hcz74_5 : w73.cell? ⟨gb157, 5, none⟩ = some (.int .i8 t154) := (blk_cell BK157.out 5).trans rfl; have hcz74_6 : w73.cell? ⟨gb157, 6, none⟩ = some (.int .i16 t155) := (blk_cell BK157.out 6).trans rfl; have hfz74_0 := blk_frozen BK157.out 0; have hfz74_1 := blk_frozen BK157.out 1; have hfz74_2 := blk_frozen BK157.out 2; have hfz74_3 := blk_frozen BK157.out 3; have hfz74_4 := blk_frozen BK157.out 4; have hfz74_5 := blk_frozen BK157.out 5; have hfz74_6 := blk_frozen BK157.out 6))
                    go_ret
                    exact ⟨by first | rfl | (simp [errW_none, errW_some] <;> rfl) | (simp [*, errW_none, errW_some] <;> rfl), by repeat (first | (with_reducible first | exact HB.out | apply below_alloc | apply pw_below_drewN | apply below_drew1 | refine below_set ?_ GE157.out | refine below_set ?_ GE166.out) | exact HB.out)⟩
                · rw [if_neg c60] at H
                  have c60b0 : (t169 == a0) = false := beq_eq_false_iff_ne.mpr c60
                  have c60b1 : (t169 != a0) = true := bne_iff_ne.mpr c60
                  obtain rfl := Option.some.inj H
                  have hnb75 := NB157_166.out
                  have hnc75 := NB166_157.out
                  have hcz76_0 : wc.cell? ⟨gb157, 0, none⟩ = some (.int .i16 t149) := (blk_cell BK157.out 0).trans rfl
                  have hcz76_1 : wc.cell? ⟨gb157, 1, none⟩ = some (.int .i8 t150) := (blk_cell BK157.out 1).trans rfl
                  have hcz76_2 : wc.cell? ⟨gb157, 2, none⟩ = some (.int .i8 t151) := (blk_cell BK157.out 2).trans rfl
                  have hcz76_3 : wc.cell? ⟨gb157, 3, none⟩ = some (.int .i8 t152) := (blk_cell BK157.out 3).trans rfl
                  have hcz76_4 : wc.cell? ⟨gb157, 4, none⟩ = some (.int .i8 t153) := (blk_cell BK157.out 4).trans rfl
                  have hcz76_5 : wc.cell? ⟨gb157, 5, none⟩ = some (.int .i8 t154) := (blk_cell BK157.out 5).trans rfl
                  have hcz76_6 : wc.cell? ⟨gb157, 6, none⟩ = some (.int .i16 t155) := (blk_cell BK157.out 6).trans rfl
                  have hfz76_0 := blk_frozen BK157.out 0
                  have hfz76_1 := blk_frozen BK157.out 1
                  have hfz76_2 := blk_frozen BK157.out 2
                  have hfz76_3 := blk_frozen BK157.out 3
                  have hfz76_4 := blk_frozen BK157.out 4
                  have hfz76_5 := blk_frozen BK157.out 5
                  have hfz76_6 := blk_frozen BK157.out 6
                  go_wp2_with (first | ((with_reducible refine gate_callee (f := 24) rfl ?_); refine goesL_ (some 71) rfl rfl Tryd.func24 (by kernel_rfl) rfl #[.agg #[.int .i16 t149, .int .i8 t150, .int .i8 t151, .int .i8 t152, .int .i8 t153, .int .i8 t154, .int .i16 t155]] rfl (by (try simp only [List.map_toArray, List.map_cons, List.map_nil]); first | done | rfl | (simp only [List.length_drop, List.length_take]; rfl)) ?_; (with_reducible refine (date_Seconds.calls t149 t150 t151 t152 t153 t154 t155 t167 t168 _ A55.out).mono ?_); rintro e w77 ⟨rfl, hb⟩; refine ⟨_, rfl, ?_⟩; have n0_ := Aside0.mk (blk_below (g := gb157) (o := .cells #[.int .i16 t149, .int .i8 t150, .int .i8 t151, .int .i8 t152, .int .i8 t153, .int .i8 t154, .int .i16 t155] 30 (0, 0)) (by (with_reducible repeat (first | refine blk_drewN ?_ _ | refine blk_drew ?_ | refine blk_alloc ?_ _)); exact BK157.out) hb); have n1_ := Aside0.mk (blk_below (g := gb166) (o := .cells #[.int .i16 t158, .int .i8 t159, .int .i8 t160, .int .i8 t161, .int .i8 t162, .int .i8 t163, .int .i16 t164] 30 (0, 0)) (by (with_reducible repeat (first | refine blk_drewN ?_ _ | refine blk_drew ?_ | refine blk_alloc ?_ _)); exact BK166.out) hb); have n2_ := Aside0.mk (below_step (by repeat (first | (with_reducible first | exact HB.out | apply below_alloc | apply pw_below_drewN | apply below_drew1 | refine below_set ?_ GE157.out | refine below_set ?_ GE166.out) | exact HB.out)) hb); clear BK157; clear BK166; clear HB; have BK157 := n0_; have BK166 := n1_; have HB := n2_; clear n0_ n1_ n2_; (try clear hb); (try clear hb2); (try clear hk); (try clear hi); have hcz78_0 : w77.cell? ⟨gb166, 0, none⟩ = some (.int .i16 t158) := (blk_cell BK166.out 0).trans rfl; have hcz78_1 : w77.cell? ⟨gb166, 1, none⟩ = some (.int .i8 t159) := (blk_cell BK166.out 1).trans rfl; have hcz78_2 : w77.cell? ⟨gb166, 2, none⟩ = some (.int .i8 t160) := (blk_cell BK166.out 2).trans rfl; have hcz78_3 : w77.cell? ⟨gb166, 3, none⟩ = some (.int .i8 t161) := (blk_cell BK166.out 3).trans rfl; have hcz78_4 : w77.cell? ⟨gb166, 4, none⟩ = some (.int .i8 t162) := (blk_cell BK166.out 4).trans rfl; have hcz78_5 : w77.cell? ⟨gb166, 5, none⟩ = some (.int .i8 t163) := (blk_cell BK166.out 5).trans rfl; have hcz78_6 : w77.cell? ⟨gb166, 6, none⟩ = some (.int .i16 t164) := (blk_cell BK166.out 6).trans rfl; have hfz78_0 := blk_frozen BK166.out 0; have hfz78_1 := blk_frozen BK166.out 1; have hfz78_2 := blk_frozen BK166.out 2; have hfz78_3 := blk_frozen BK166.out 3; have hfz78_4 := blk_frozen BK166.out 4; have hfz78_5 := blk_frozen BK166.out 5; have hfz78_6 := blk_frozen BK166.out 6) | ((with_reducible refine gate_callee (f := 24) rfl ?_); refine goesL_ (some 76) rfl rfl Tryd.func24 (by kernel_rfl) rfl #[.agg #[.int .i16 t158, .int .i8 t159, .int .i8 t160, .int .i8 t161, .int .i8 t162, .int .i8 t163, .int .i16 t164]] rfl (by (try simp only [List.map_toArray, List.map_cons, List.map_nil]); first | done | rfl | (simp only [List.length_drop, List.length_take]; rfl)) ?_; (with_reducible refine (date_Seconds.calls t158 t159 t160 t161 t162 t163 t164 t169 t170 _ A56.out).mono ?_); rintro e w79 ⟨rfl, hb⟩; refine ⟨_, rfl, ?_⟩; have n0_ := Aside0.mk (blk_below (g := gb157) (o := .cells #[.int .i16 t149, .int .i8 t150, .int .i8 t151, .int .i8 t152, .int .i8 t153, .int .i8 t154, .int .i16 t155] 30 (0, 0)) (by (with_reducible repeat (first | refine blk_drewN ?_ _ | refine blk_drew ?_ | refine blk_alloc ?_ _)); exact BK157.out) hb); have n1_ := Aside0.mk (blk_below (g := gb166) (o := .cells #[.int .i16 t158, .int .i8 t159, .int .i8 t160, .int .i8 t161, .int .i8 t162, .int .i8 t163, .int .i16 t164] 30 (0, 0)) (by (with_reducible repeat (first | refine blk_drewN ?_ _ | refine blk_drew ?_ | refine blk_alloc ?_ _)); exact BK166.out) hb); have n2_ := Aside0.mk (below_step (by repeat (first | (with_reducible first | exact HB.out | apply below_alloc | apply pw_below_drewN | apply below_drew1 | refine below_set ?_ GE157.out | refine below_set ?_ GE166.out) | exact HB.out)) hb); clear BK157; clear BK166; clear HB; have BK157 := n0_; have BK166 := n1_; have HB := n2_; clear n0_ n1_ n2_; (try clear hb); (try clear hb2); (try clear hk); (try clear hi)))
                  go_ret
                  exact ⟨by first | rfl | (simp [errW_none, errW_some] <;> rfl) | (simp [*, errW_none, errW_some] <;> rfl), by repeat (first | (with_reducible first | exact HB.out | apply below_alloc | apply pw_below_drewN | apply below_drew1 | refine below_set ?_ GE157.out | refine below_set ?_ GE166.out) | exact HB.out)⟩
              · rw [if_neg c59] at H
                have c59b0 : (t167 == a0) = false := beq_eq_false_iff_ne.mpr c59
                have c59b1 : (t167 != a0) = true := bne_iff_ne.mpr c59
                obtain rfl := Option.some.inj H
                have hnb80 := NB157_166.out
                have hnc80 := NB166_157.out
                have hcz81_0 : wc.cell? ⟨gb157, 0, none⟩ = some (.int .i16 t149) := (blk_cell BK157.out 0).trans rfl
                have hcz81_1 : wc.cell? ⟨gb157, 1, none⟩ = some (.int .i8 t150) := (blk_cell BK157.out 1).trans rfl
                have hcz81_2 : wc.cell? ⟨gb157, 2, none⟩ = some (.int .i8 t151) := (blk_cell BK157.out 2).trans rfl
                have hcz81_3 : wc.cell? ⟨gb157, 3, none⟩ = some (.int .i8 t152) := (blk_cell BK157.out 3).trans rfl
                have hcz81_4 : wc.cell? ⟨gb157, 4, none⟩ = some (.int .i8 t153) := (blk_cell BK157.out 4).trans rfl
                have hcz81_5 : wc.cell? ⟨gb157, 5, none⟩ = some (.int .i8 t154) := (blk_cell BK157.out 5).trans rfl
                have hcz81_6 : wc.cell? ⟨gb157, 6, none⟩ = some (.int .i16 t155) := (blk_cell BK157.out 6).trans rfl
                have hfz81_0 := blk_frozen BK157.out 0
                have hfz81_1 := blk_frozen BK157.out 1
                have hfz81_2 := blk_frozen BK157.out 2
                have hfz81_3 := blk_frozen BK157.out 3
                have hfz81_4 := blk_frozen BK157.out 4
                have hfz81_5 := blk_frozen BK157.out 5
                have hfz81_6 := blk_frozen BK157.out 6
                go_wp2_with (first | ((with_reducible refine gate_callee (f := 24) rfl ?_); refine goesL_ (some 71) rfl rfl Tryd.func24 (by kernel_rfl) rfl #[.agg #[.int .i16 t149, .int .i8 t150, .int .i8 t151, .int .i8 t152, .int .i8 t153, .int .i8 t154, .int .i16 t155]] rfl (by (try simp only [List.map_toArray, List.map_cons, List.map_nil]); first | done | rfl | (simp only [List.length_drop, List.length_take]; rfl)) ?_; (with_reducible refine (date_Seconds.calls t149 t150 t151 t152 t153 t154 t155 t167 t168 _ A55.out).mono ?_); rintro e w82 ⟨rfl, hb⟩; refine ⟨_, rfl, ?_⟩; have n0_ := Aside0.mk (blk_below (g := gb157) (o := .cells #[.int .i16 t149, .int .i8 t150, .int .i8 t151, .int .i8 t152, .int .i8 t153, .int .i8 t154, .int .i16 t155] 30 (0, 0)) (by (with_reducible repeat (first | refine blk_drewN ?_ _ | refine blk_drew ?_ | refine blk_alloc ?_ _)); exact BK157.out) hb); have n1_ := Aside0.mk (blk_below (g := gb166) (o := .cells #[.int .i16 t158, .int .i8 t159, .int .i8 t160, .int .i8 t161, .int .i8 t162, .int .i8 t163, .int .i16 t164] 30 (0, 0)) (by (with_reducible repeat (first | refine blk_drewN ?_ _ | refine blk_drew ?_ | refine blk_alloc ?_ _)); exact BK166.out) hb); have n2_ := Aside0.mk (below_step (by repeat (first | (with_reducible first | exact HB.out | apply below_alloc | apply pw_below_drewN | apply below_drew1 | refine below_set ?_ GE157.out | refine below_set ?_ GE166.out) | exact HB.out)) hb); clear BK157; clear BK166; clear HB; have BK157 := n0_; have BK166 := n1_; have HB := n2_; clear n0_ n1_ n2_; (try clear hb); (try clear hb2); (try clear hk); (try clear hi); have hcz83_0 : w82.cell? ⟨gb166, 0, none⟩ = some (.int .i16 t158) := (blk_cell BK166.out 0).trans rfl; have hcz83_1 : w82.cell? ⟨gb166, 1, none⟩ = some (.int .i8 t159) := (blk_cell BK166.out 1).trans rfl; have hcz83_2 : w82.cell? ⟨gb166, 2, none⟩ = some (.int .i8 t160) := (blk_cell BK166.out 2).trans rfl; have hcz83_3 : w82.cell? ⟨gb166, 3, none⟩ = some (.int .i8 t161) := (blk_cell BK166.out 3).trans rfl; have hcz83_4 : w82.cell? ⟨gb166, 4, none⟩ = some (.int .i8 t162) := (blk_cell BK166.out 4).trans rfl; have hcz83_5 : w82.cell? ⟨gb166, 5, none⟩ = some (.int .i8 t163) := (blk_cell BK166.out 5).trans rfl; have hcz83_6 : w82.cell? ⟨gb166, 6, none⟩ = some (.int .i16 t164) := (blk_cell BK166.out 6).trans rfl; have hfz83_0 := blk_frozen BK166.out 0; have hfz83_1 := blk_frozen BK166.out 1; have hfz83_2 := blk_frozen BK166.out 2; have hfz83_3 := blk_frozen BK166.out 3; have hfz83_4 := blk_frozen BK166.out 4; have hfz83_5 := blk_frozen BK166.out 5; have hfz83_6 := blk_frozen BK166.out 6) | ((with_reducible refine gate_callee (f := 24) rfl ?_); refine goesL_ (some 76) rfl rfl Tryd.func24 (by kernel_rfl) rfl #[.agg #[.int .i16 t158, .int .i8 t159, .int .i8 t160, .int .i8 t161, .int .i8 t162, .int .i8 t163, .int .i16 t164]] rfl (by (try simp only [List.map_toArray, List.map_cons, List.map_nil]); first | done | rfl | (simp only [List.length_drop, List.length_take]; rfl)) ?_; (with_reducible refine (date_Seconds.calls t158 t159 t160 t161 t162 t163 t164 t169 t170 _ A56.out).mono ?_); rintro e w84 ⟨rfl, hb⟩; refine ⟨_, rfl, ?_⟩; have n0_ := Aside0.mk (blk_below (g := gb157) (o := .cells #[.int .i16 t149, .int .i8 t150, .int .i8 t151, .int .i8 t152, .int .i8 t153, .int .i8 t154, .int .i16 t155] 30 (0, 0)) (by (with_reducible repeat (first | refine blk_drewN ?_ _ | refine blk_drew ?_ | refine blk_alloc ?_ _)); exact BK157.out) hb); have n1_ := Aside0.mk (blk_below (g := gb166) (o := .cells #[.int .i16 t158, .int .i8 t159, .int .i8 t160, .int .i8 t161, .int .i8 t162, .int .i8 t163, .int .i16 t164] 30 (0, 0)) (by (with_reducible repeat (first | refine blk_drewN ?_ _ | refine blk_drew ?_ | refine blk_alloc ?_ _)); exact BK166.out) hb); have n2_ := Aside0.mk (below_step (by repeat (first | (with_reducible first | exact HB.out | apply below_alloc | apply pw_below_drewN | apply below_drew1 | refine below_set ?_ GE157.out | refine below_set ?_ GE166.out) | exact HB.out)) hb); clear BK157; clear BK166; clear HB; have BK157 := n0_; have BK166 := n1_; have HB := n2_; clear n0_ n1_ n2_; (try clear hb); (try clear hb2); (try clear hk); (try clear hi)))
                go_ret
                exact ⟨by first | rfl | (simp [errW_none, errW_some] <;> rfl) | (simp [*, errW_none, errW_some] <;> rfl), by repeat (first | (with_reducible first | exact HB.out | apply below_alloc | apply pw_below_drewN | apply below_drew1 | refine below_set ?_ GE157.out | refine below_set ?_ GE166.out) | exact HB.out)⟩
            · rw [if_neg c58] at H
              have c58b0 : (t170 == 0) = false := beq_eq_false_iff_ne.mpr c58
              have c58b1 : (t170 != 0) = true := bne_iff_ne.mpr c58
              obtain rfl := Option.some.inj H
              have hnb85 := NB157_166.out
              have hnc85 := NB166_157.out
              have hcz86_0 : wc.cell? ⟨gb157, 0, none⟩ = some (.int .i16 t149) := (blk_cell BK157.out 0).trans rfl
              have hcz86_1 : wc.cell? ⟨gb157, 1, none⟩ = some (.int .i8 t150) := (blk_cell BK157.out 1).trans rfl
              have hcz86_2 : wc.cell? ⟨gb157, 2, none⟩ = some (.int .i8 t151) := (blk_cell BK157.out 2).trans rfl
              have hcz86_3 : wc.cell? ⟨gb157, 3, none⟩ = some (.int .i8 t152) := (blk_cell BK157.out 3).trans rfl
              have hcz86_4 : wc.cell? ⟨gb157, 4, none⟩ = some (.int .i8 t153) := (blk_cell BK157.out 4).trans rfl
              have hcz86_5 : wc.cell? ⟨gb157, 5, none⟩ = some (.int .i8 t154) := (blk_cell BK157.out 5).trans rfl
              have hcz86_6 : wc.cell? ⟨gb157, 6, none⟩ = some (.int .i16 t155) := (blk_cell BK157.out 6).trans rfl
              have hfz86_0 := blk_frozen BK157.out 0
              have hfz86_1 := blk_frozen BK157.out 1
              have hfz86_2 := blk_frozen BK157.out 2
              have hfz86_3 := blk_frozen BK157.out 3
              have hfz86_4 := blk_frozen BK157.out 4
              have hfz86_5 := blk_frozen BK157.out 5
              have hfz86_6 := blk_frozen BK157.out 6
              go_wp2_with (first | ((with_reducible refine gate_callee (f := 24) rfl ?_); refine goesL_ (some 71) rfl rfl Tryd.func24 (by kernel_rfl) rfl #[.agg #[.int .i16 t149, .int .i8 t150, .int .i8 t151, .int .i8 t152, .int .i8 t153, .int .i8 t154, .int .i16 t155]] rfl (by (try simp only [List.map_toArray, List.map_cons, List.map_nil]); first | done | rfl | (simp only [List.length_drop, List.length_take]; rfl)) ?_; (with_reducible refine (date_Seconds.calls t149 t150 t151 t152 t153 t154 t155 t167 t168 _ A55.out).mono ?_); rintro e w87 ⟨rfl, hb⟩; refine ⟨_, rfl, ?_⟩; have n0_ := Aside0.mk (blk_below (g := gb157) (o := .cells #[.int .i16 t149, .int .i8 t150, .int .i8 t151, .int .i8 t152, .int .i8 t153, .int .i8 t154, .int .i16 t155] 30 (0, 0)) (by (with_reducible repeat (first | refine blk_drewN ?_ _ | refine blk_drew ?_ | refine blk_alloc ?_ _)); exact BK157.out) hb); have n1_ := Aside0.mk (blk_below (g := gb166) (o := .cells #[.int .i16 t158, .int .i8 t159, .int .i8 t160, .int .i8 t161, .int .i8 t162, .int .i8 t163, .int .i16 t164] 30 (0, 0)) (by (with_reducible repeat (first | refine blk_drewN ?_ _ | refine blk_drew ?_ | refine blk_alloc ?_ _)); exact BK166.out) hb); have n2_ := Aside0.mk (below_step (by repeat (first | (with_reducible first | exact HB.out | apply below_alloc | apply pw_below_drewN | apply below_drew1 | refine below_set ?_ GE157.out | refine below_set ?_ GE166.out) | exact HB.out)) hb); clear BK157; clear BK166; clear HB; have BK157 := n0_; have BK166 := n1_; have HB := n2_; clear n0_ n1_ n2_; (try clear hb); (try clear hb2); (try clear hk); (try clear hi); have hcz88_0 : w87.cell? ⟨gb166, 0, none⟩ = some (.int .i16 t158) := (blk_cell BK166.out 0).trans rfl; have hcz88_1 : w87.cell? ⟨gb166, 1, none⟩ = some (.int .i8 t159) := (blk_cell BK166.out 1).trans rfl; have hcz88_2 : w87.cell? ⟨gb166, 2, none⟩ = some (.int .i8 t160) := (blk_cell BK166.out 2).trans rfl; have hcz88_3 : w87.cell? ⟨gb166, 3, none⟩ = some (.int .i8 t161) := (blk_cell BK166.out 3).trans rfl; have hcz88_4 : w87.cell? ⟨gb166, 4, none⟩ = some (.int .i8 t162) := (blk_cell BK166.out 4).trans rfl; have hcz88_5 : w87.cell? ⟨gb166, 5, none⟩ = some (.int .i8 t163) := (blk_cell BK166.out 5).trans rfl; have hcz88_6 : w87.cell? ⟨gb166, 6, none⟩ = some (.int .i16 t164) := (blk_cell BK166.out 6).trans rfl; have hfz88_0 := blk_frozen BK166.out 0; have hfz88_1 := blk_frozen BK166.out 1; have hfz88_2 := blk_frozen BK166.out 2; have hfz88_3 := blk_frozen BK166.out 3; have hfz88_4 := blk_frozen BK166.out 4; have hfz88_5 := blk_frozen BK166.out 5; have hfz88_6 := blk_frozen BK166.out 6) | ((with_reducible refine gate_callee (f := 24) rfl ?_); refine goesL_ (some 76) rfl rfl Tryd.func24 (by kernel_rfl) rfl #[.agg #[.int .i16 t158, .int .i8 t159, .int .i8 t160, .int .i8 t161, .int .i8 t162, .int .i8 t163, .int .i16 t164]] rfl (by (try simp only [List.map_toArray, List.map_cons, List.map_nil]); first | done | rfl | (simp only [List.length_drop, List.length_take]; rfl)) ?_; (with_reducible refine (date_Seconds.calls t158 t159 t160 t161 t162 t163 t164 t169 t170 _ A56.out).mono ?_); rintro e w89 ⟨rfl, hb⟩; refine ⟨_, rfl, ?_⟩; have n0_ := Aside0.mk (blk_below (g := gb157) (o := .cells #[.int .i16 t149, .int .i8 t150, .int .i8 t151, .int .i8 t152, .int .i8 t153, .int .i8 t154, .int .i16 t155] 30 (0, 0)) (by (with_reducible repeat (first | refine blk_drewN ?_ _ | refine blk_drew ?_ | refine blk_alloc ?_ _)); exact BK157.out) hb); have n1_ := Aside0.mk (blk_below (g := gb166) (o := .cells #[.int .i16 t158, .int .i8 t159, .int .i8 t160, .int .i8 t161, .int .i8 t162, .int .i8 t163, .int .i16 t164] 30 (0, 0)) (by (with_reducible repeat (first | refine blk_drewN ?_ _ | refine blk_drew ?_ | refine blk_alloc ?_ _)); exact BK166.out) hb); have n2_ := Aside0.mk (below_step (by repeat (first | (with_reducible first | exact HB.out | apply below_alloc | apply pw_below_drewN | apply below_drew1 | refine below_set ?_ GE157.out | refine below_set ?_ GE166.out) | exact HB.out)) hb); clear BK157; clear BK166; clear HB; have BK157 := n0_; have BK166 := n1_; have HB := n2_; clear n0_ n1_ n2_; (try clear hb); (try clear hb2); (try clear hk); (try clear hi)))
              go_ret
              exact ⟨by first | rfl | (simp [errW_none, errW_some] <;> rfl) | (simp [*, errW_none, errW_some] <;> rfl), by repeat (first | (with_reducible first | exact HB.out | apply below_alloc | apply pw_below_drewN | apply below_drew1 | refine below_set ?_ GE157.out | refine below_set ?_ GE166.out) | exact HB.out)⟩
          · rw [if_neg c57] at H
            have c57b0 : (t168 == 0) = false := beq_eq_false_iff_ne.mpr c57
            have c57b1 : (t168 != 0) = true := bne_iff_ne.mpr c57
            obtain rfl := Option.some.inj H
            have hnb90 := NB157_166.out
            have hnc90 := NB166_157.out
            have hcz91_0 : wc.cell? ⟨gb157, 0, none⟩ = some (.int .i16 t149) := (blk_cell BK157.out 0).trans rfl
            have hcz91_1 : wc.cell? ⟨gb157, 1, none⟩ = some (.int .i8 t150) := (blk_cell BK157.out 1).trans rfl
            have hcz91_2 : wc.cell? ⟨gb157, 2, none⟩ = some (.int .i8 t151) := (blk_cell BK157.out 2).trans rfl
            have hcz91_3 : wc.cell? ⟨gb157, 3, none⟩ = some (.int .i8 t152) := (blk_cell BK157.out 3).trans rfl
            have hcz91_4 : wc.cell? ⟨gb157, 4, none⟩ = some (.int .i8 t153) := (blk_cell BK157.out 4).trans rfl
            have hcz91_5 : wc.cell? ⟨gb157, 5, none⟩ = some (.int .i8 t154) := (blk_cell BK157.out 5).trans rfl
            have hcz91_6 : wc.cell? ⟨gb157, 6, none⟩ = some (.int .i16 t155) := (blk_cell BK157.out 6).trans rfl
            have hfz91_0 := blk_frozen BK157.out 0
            have hfz91_1 := blk_frozen BK157.out 1
            have hfz91_2 := blk_frozen BK157.out 2
            have hfz91_3 := blk_frozen BK157.out 3
            have hfz91_4 := blk_frozen BK157.out 4
            have hfz91_5 := blk_frozen BK157.out 5
            have hfz91_6 := blk_frozen BK157.out 6
            go_wp2_with (first | ((with_reducible refine gate_callee (f := 24) rfl ?_); refine goesL_ (some 71) rfl rfl Tryd.func24 (by kernel_rfl) rfl #[.agg #[.int .i16 t149, .int .i8 t150, .int .i8 t151, .int .i8 t152, .int .i8 t153, .int .i8 t154, .int .i16 t155]] rfl (by (try simp only [List.map_toArray, List.map_cons, List.map_nil]); first | done | rfl | (simp only [List.length_drop, List.length_take]; rfl)) ?_; (with_reducible refine (date_Seconds.calls t149 t150 t151 t152 t153 t154 t155 t167 t168 _ A55.out).mono ?_); rintro e w92 ⟨rfl, hb⟩; refine ⟨_, rfl, ?_⟩; have n0_ := Aside0.mk (blk_below (g := gb157) (o := .cells #[.int .i16 t149, .int .i8 t150, .int .i8 t151, .int .i8 t152, .int .i8 t153, .int .i8 t154, .int .i16 t155] 30 (0, 0)) (by (with_reducible repeat (first | refine blk_drewN ?_ _ | refine blk_drew ?_ | refine blk_alloc ?_ _)); exact BK157.out) hb); have n1_ := Aside0.mk (blk_below (g := gb166) (o := .cells #[.int .i16 t158, .int .i8 t159, .int .i8 t160, .int .i8 t161, .int .i8 t162, .int .i8 t163, .int .i16 t164] 30 (0, 0)) (by (with_reducible repeat (first | refine blk_drewN ?_ _ | refine blk_drew ?_ | refine blk_alloc ?_ _)); exact BK166.out) hb); have n2_ := Aside0.mk (below_step (by repeat (first | (with_reducible first | exact HB.out | apply below_alloc | apply pw_below_drewN | apply below_drew1 | refine below_set ?_ GE157.out | refine below_set ?_ GE166.out) | exact HB.out)) hb); clear BK157; clear BK166; clear HB; have BK157 := n0_; have BK166 := n1_; have HB := n2_; clear n0_ n1_ n2_; (try clear hb); (try clear hb2); (try clear hk); (try clear hi); have hcz93_0 : w92.cell? ⟨gb166, 0, none⟩ = some (.int .i16 t158) := (blk_cell BK166.out 0).trans rfl; have hcz93_1 : w92.cell? ⟨gb166, 1, none⟩ = some (.int .i8 t159) := (blk_cell BK166.out 1).trans rfl; have hcz93_2 : w92.cell? ⟨gb166, 2, none⟩ = some (.int .i8 t160) := (blk_cell BK166.out 2).trans rfl; have hcz93_3 : w92.cell? ⟨gb166, 3, none⟩ = some (.int .i8 t161) := (blk_cell BK166.out 3).trans rfl; have hcz93_4 : w92.cell? ⟨gb166, 4, none⟩ = some (.int .i8 t162) := (blk_cell BK166.out 4).trans rfl; have hcz93_5 : w92.cell? ⟨gb166, 5, none⟩ = some (.int .i8 t163) := (blk_cell BK166.out 5).trans rfl; have hcz93_6 : w92.cell? ⟨gb166, 6, none⟩ = some (.int .i16 t164) := (blk_cell BK166.out 6).trans rfl; have hfz93_0 := blk_frozen BK166.out 0; have hfz93_1 := blk_frozen BK166.out 1; have hfz93_2 := blk_frozen BK166.out 2; have hfz93_3 := blk_frozen BK166.out 3; have hfz93_4 := blk_frozen BK166.out 4; have hfz93_5 := blk_frozen BK166.out 5; have hfz93_6 := blk_frozen BK166.out 6) | ((with_reducible refine gate_callee (f := 24) rfl ?_); refine goesL_ (some 76) rfl rfl Tryd.func24 (by kernel_rfl) rfl #[.agg #[.int .i16 t158, .int .i8 t159, .int .i8 t160, .int .i8 t161, .int .i8 t162, .int .i8 t163, .int .i16 t164]] rfl (by (try simp only [List.map_toArray, List.map_cons, List.map_nil]); first | done | rfl | (simp only [List.length_drop, List.length_take]; rfl)) ?_; (with_reducible refine (date_Seconds.calls t158 t159 t160 t161 t162 t163 t164 t169 t170 _ A56.out).mono ?_); rintro e w94 ⟨rfl, hb⟩; refine ⟨_, rfl, ?_⟩; have n0_ := Aside0.mk (blk_below (g := gb157) (o := .cells #[.int .i16 t149, .int .i8 t150, .int .i8 t151, .int .i8 t152, .int .i8 t153, .int .i8 t154, .int .i16 t155] 30 (0, 0)) (by (with_reducible repeat (first | refine blk_drewN ?_ _ | refine blk_drew ?_ | refine blk_alloc ?_ _)); exact BK157.out) hb); have n1_ := Aside0.mk (blk_below (g := gb166) (o := .cells #[.int .i16 t158, .int .i8 t159, .int .i8 t160, .int .i8 t161, .int .i8 t162, .int .i8 t163, .int .i16 t164] 30 (0, 0)) (by (with_reducible repeat (first | refine blk_drewN ?_ _ | refine blk_drew ?_ | refine blk_alloc ?_ _)); exact BK166.out) hb); have n2_ := Aside0.mk (below_step (by repeat (first | (with_reducible first | exact HB.out | apply below_alloc | apply pw_below_drewN | apply below_drew1 | refine below_set ?_ GE157.out | refine below_set ?_ GE166.out) | exact HB.out)) hb); clear BK157; clear BK166; clear HB; have BK157 := n0_; have BK166 := n1_; have HB := n2_; clear n0_ n1_ n2_; (try clear hb); (try clear hb2); (try clear hk); (try clear hi)))
            go_ret
            exact ⟨by first | rfl | (simp [errW_none, errW_some] <;> rfl) | (simp [*, errW_none, errW_some] <;> rfl), by repeat (first | (with_reducible first | exact HB.out | apply below_alloc | apply pw_below_drewN | apply below_drew1 | refine below_set ?_ GE157.out | refine below_set ?_ GE166.out) | exact HB.out)⟩
  · replace c5 := Bool.eq_false_iff.mpr c5
    subst c5
    have H1 : (some false) = some r := by rw [if_neg (show ¬ (false = true) by decide)] at H; exact H
    clear H
    have H := H1
    clear H1
    obtain rfl := Option.some.inj H
    go_enter Tryd.func10, Tryd.ntmps10
    go_wp2_with (first | ((with_reducible refine gate_callee (f := 15) rfl ?_); refine goesL_ (some 15) rfl rfl Tryd.func15 (by kernel_rfl) rfl #[] rfl (by (try simp only [List.map_toArray, List.map_cons, List.map_nil]); first | done | rfl | (simp only [List.length_drop, List.length_take]; rfl)) ?_; (with_reducible refine (posthornlaw06_head.calls  false _ ?side1 A4.out).mono ?_); (case side1 => exact GOk.of_below HG (by repeat (first | (with_reducible first | exact HB.out | apply below_alloc | apply pw_below_drewN | apply below_drew1) | exact HB.out))); rintro e w95 ⟨rfl, hb⟩; refine ⟨_, rfl, ?_⟩; have n0_ := Aside0.mk (below_step (by repeat (first | (with_reducible first | exact HB.out | apply below_alloc | apply pw_below_drewN | apply below_drew1) | exact HB.out)) hb); clear HB; have HB := n0_; clear n0_; (try clear hb); (try clear hb2); (try clear hk); (try clear hi)))
    go_ret
    exact ⟨by first | rfl | (simp [errW_none, errW_some] <;> rfl) | (simp [*, errW_none, errW_some] <;> rfl), by repeat (first | (with_reducible first | exact HB.out | apply below_alloc | apply pw_below_drewN | apply below_drew1) | exact HB.out)⟩

/-- THE ONE PURE STATEMENT of posthornlaw06_DateMoments: yours. -/
def posthornlaw06_DateMoments.Pure : Prop := ∀ (a0 : Int) (a1 : Int) (a2 : Int), (Lit.int .i64 a0).wf = true → (Lit.int .i16 a1).wf = true → (Lit.int .i16 a2).wf = true → ∃ k, posthornlaw06_DateMoments.f k a0 a1 a2 = some true
theorem posthornlaw06_DateMoments.walk (P : posthornlaw06_DateMoments.Pure) (a0 : Int) (a1 : Int) (a2 : Int) (w : World) (w0 : (Lit.int .i64 a0).wf = true) (w1 : (Lit.int .i16 a1).wf = true) (w2 : (Lit.int .i16 a2).wf = true) (HG : GOk w) :
    Calls Tryd.prog 10 #[.int .i64 a0, .int .i16 a1, .int .i16 a2] w fun e w' => e = .returned (.bool true) ∧ Below w.heap.size w w' := by
  obtain ⟨k, h⟩ := P a0 a1 a2 w0 w1 w2
  refine (posthornlaw06_DateMoments.calls k a0 a1 a2 true w HG h).mono ?_
  rintro e w' ⟨rfl, hd⟩
  exact ⟨rfl, hd⟩

end Go.Proofs.YtnmhkmkaklhapaaDoor.H
