-- Printed by wip/tools/gprint.py (this session's program) out of the translation. Not trusted: Lean checks it.
import Derived.Test.YtabjfpjmiiiecaaX0
import Derived.Test.YtabjfpjmiiiecaaD4
import Derived.Test.YtabjfpjmiiiecaaD5
import Derived.Test.YtabjfpjmiiiecaaRunC
import Derived.Test.YtabjfpjmiiiecaaRunF
import Derived.Test.YtabjfpjmiiiecaaRunW
namespace Go.Proofs.Ytabjfpjmiiiecaa.X
open Go.RowKit Go.Proofs.Ytabjfpjmiiiecaa.M Go.Proofs.Ytabjfpjmiiiecaa.MN Go.Proofs.Ytabjfpjmiiiecaa.WK Go.Proofs.Ytabjfpjmiiiecaa.D Go.Proofs.Ytabjfpjmiiiecaa.CF Go.Proofs.Ytabjfpjmiiiecaa.CL Go.Proofs.YtabjfpjmiiiecaaW.PrintWords Go.Proofs.YtabjfpjmiiiecaaW.PrintLast Go.Proofs.YtabjfpjmiiiecaaW.PrintMore
attribute [local go_sem] max2_int min2_int max_two min_two max_three min_three max_four min_four   -- for this text's walks alone
set_option linter.unusedVariables false
set_option linter.unusedSimpArgs false

-- NOT PRINTED: function 56 (bytealg_LastIndexByteString)

-- NOT PRINTED: function 37 (strings_LastIndexByte)

-- NOT PRINTED: function 38 (runes_value)

-- NOT PRINTED: function 39 (runes_bound)

-- NOT PRINTED: function 40 (runes_is)

-- NOT PRINTED: function 41 (runes_adapt)

-- NOT PRINTED: function 42 (runes_digit)

-- NOT PRINTED: function 36 (runes_state_take)

-- NOT PRINTED: function 48 (utf8_ValidRune)

-- NOT PRINTED: function 61 (utf8_appendRuneNonASCII)

-- NOT PRINTED: function 49 (utf8_AppendRune)

/-! ### posthornlaw05_RunesCut: function 10 -/
mutual
def posthornlaw05_RunesCut.l0 : Nat → List Int → Int → Bool → List Int → Int → Int → Bool → Bool → Int → Int → Int → Option (Bool)
  | 0, _, _, _, _, _, _, _, _, _, _, _ => none
  | k + 1, x0, x6, x7, x29, x30, x31, x107000, x107001, x107002, x107003, x107004 => if x31 < x30 then (if 0 ≤ x31 then (if x31 < (x29.length : Int) then (if 0 ≤ x6 then (if x6 ≤ (mn (mx (rd x29 x31) x6) (x0.length : Int)) then (if (mn (mx (rd x29 x31) x6) (x0.length : Int)) ≤ (x0.length : Int) then ((runes_Checker_Feed.f x107000 x107001 x107002 x107003 x107004 ((x0.take ((mn (mx (rd x29 x31) x6) (x0.length : Int)) : Int).toNat).drop (x6 : Int).toNat)).bind fun bt121 => (if bt121.1 = true then (if x7 = true then (posthornlaw05_RunesCut.l0 k x0 (mn (mx (rd x29 x31) x6) (x0.length : Int)) bt121.1 x29 x30 (wrap64 (x31 + 1)) bt121.2.1 bt121.2.2.1 bt121.2.2.2.1 bt121.2.2.2.2.1 bt121.2.2.2.2.2) else (some false)) else (posthornlaw05_RunesCut.l0 k x0 (mn (mx (rd x29 x31) x6) (x0.length : Int)) bt121.1 x29 x30 (wrap64 (x31 + 1)) bt121.2.1 bt121.2.2.1 bt121.2.2.2.1 bt121.2.2.2.2.1 bt121.2.2.2.2.2))) else (none)) else (none)) else (none)) else (none)) else (none)) else ((runes_Checker_Whole.f x107000 x107001 x107002 x107003 x107004).bind fun bt127 => ((runes_Bad_byte.f k x0).bind fun t133 => (if (bt127.1 != (t133 == (x0.length : Int))) = true then (some false) else ((runes_Checker_Whole.f bt127.2.1 bt127.2.2.1 bt127.2.2.2.1 bt127.2.2.2.2.1 bt127.2.2.2.2.2).bind fun bt134 => (posthornlaw05_RunesCut.l1 k x0 x7 bt134.1 (([(([] : List Int))] : List (List Int))) 0)))))
def posthornlaw05_RunesCut.l1 : Nat → List Int → Bool → Bool → List (List Int) → Int → Option (Bool)
  | 0, _, _, _, _, _ => none
  | k + 1, x0, x7, x12, x13, x67 => if x67 < 3 then (posthornlaw05_RunesCut.l2 k x0 x7 x12 ([] : List (List Int)) x67 x13 (x13.length : Int) 0) else (if (x12 == x7) = true then ((posthornlaw05_wakes.f).bind fun t146 => (some t146)) else (some false))
def posthornlaw05_RunesCut.l2 : Nat → List Int → Bool → Bool → List (List Int) → Int → List (List Int) → Int → Int → Option (Bool)
  | 0, _, _, _, _, _, _, _, _ => none
  | k + 1, x0, x7, x12, x14, x67, x69, x70, x71 => if x71 < x70 then (if 0 ≤ x71 then (if x71 < (x69.length : Int) then ((some (([128, 144, 160, 191] : List Int) : List Int)).bind fun y148 => (posthornlaw05_RunesCut.l3 k x0 x7 x12 x14 (rd_L1 x69 x71) x67 x69 x70 x71 y148 (y148.length : Int) 0)) else (none)) else (none)) else (posthornlaw05_RunesCut.l1 k x0 x7 x12 x14 (wrap64 (x67 + 1)))
def posthornlaw05_RunesCut.l3 : Nat → List Int → Bool → Bool → List (List Int) → List Int → Int → List (List Int) → Int → Int → List Int → Int → Int → Option (Bool)
  | 0, _, _, _, _, _, _, _, _, _, _, _, _ => none
  | k + 1, x0, x7, x12, x14, x16, x67, x69, x70, x71, x75, x76, x77 => if x77 < x76 then (if 0 ≤ x77 then (if x77 < (x75.length : Int) then ((slices_Clone_byte_byte.f x16).bind fun t152 => (if t152.length < 140737488355328 then ((some (t152 ++ [rd x75 x77] : List Int)).bind fun y155 => ((slices_Clone_byte_byte.f x0).bind fun t158 => (if t158.length + y155.length < 140737488355328 then ((some (t158 ++ y155 : List Int)).bind fun y161 => (if x12 = true then (if x14.length < 5864062014805 then (posthornlaw05_RunesCut.l3 k x0 x7 true (x14 ++ [y155]) x16 x67 x69 x70 x71 x75 x76 (wrap64 (x77 + 1))) else (none)) else ((runes_Bad_byte.f k y161).bind fun t167 => (if x14.length < 5864062014805 then (posthornlaw05_RunesCut.l3 k x0 x7 (t167 == (y161.length : Int)) (x14 ++ [y155]) x16 x67 x69 x70 x71 x75 x76 (wrap64 (x77 + 1))) else (none))))) else (none)))) else (none))) else (none)) else (none)) else (posthornlaw05_RunesCut.l2 k x0 x7 x12 x14 x67 x69 x70 (wrap64 (x71 + 1)))
end
def posthornlaw05_RunesCut.f (k : Nat) (l0 : List Int) (l1 : List Int) : Option (Bool) := (runes_New.f).bind fun bt101 => ((runes_Checker_Feed.f bt101.1 bt101.2.1 bt101.2.2.1 bt101.2.2.2.1 bt101.2.2.2.2 ([] : List Int)).bind fun bt107 => ((slices_Clone_int_int.f l1).bind fun t113 => (if t113.length < 17592186044416 then ((some (t113 ++ [(l0.length : Int)] : List Int)).bind fun y116 => (posthornlaw05_RunesCut.l0 k l0 0 bt107.1 y116 (y116.length : Int) 0 bt107.2.1 bt107.2.2.1 bt107.2.2.2.1 bt107.2.2.2.2.1 bt107.2.2.2.2.2)) else (none))))
theorem posthornlaw05_RunesCut.mono_l : ∀ k, (∀ y0 y1 y2 y3 y4 y5 y6 y7 y8 y9 y10, LeO (posthornlaw05_RunesCut.l0 k y0 y1 y2 y3 y4 y5 y6 y7 y8 y9 y10) (posthornlaw05_RunesCut.l0 (k + 1) y0 y1 y2 y3 y4 y5 y6 y7 y8 y9 y10)) ∧ (∀ y0 y1 y2 y3 y4, LeO (posthornlaw05_RunesCut.l1 k y0 y1 y2 y3 y4) (posthornlaw05_RunesCut.l1 (k + 1) y0 y1 y2 y3 y4)) ∧ (∀ y0 y1 y2 y3 y4 y5 y6 y7, LeO (posthornlaw05_RunesCut.l2 k y0 y1 y2 y3 y4 y5 y6 y7) (posthornlaw05_RunesCut.l2 (k + 1) y0 y1 y2 y3 y4 y5 y6 y7)) ∧ (∀ y0 y1 y2 y3 y4 y5 y6 y7 y8 y9 y10 y11, LeO (posthornlaw05_RunesCut.l3 k y0 y1 y2 y3 y4 y5 y6 y7 y8 y9 y10 y11) (posthornlaw05_RunesCut.l3 (k + 1) y0 y1 y2 y3 y4 y5 y6 y7 y8 y9 y10 y11))
  | 0 => ⟨fun _ _ _ _ _ _ _ _ _ _ _ r h => by simp [posthornlaw05_RunesCut.l0] at h, fun _ _ _ _ _ r h => by simp [posthornlaw05_RunesCut.l1] at h, fun _ _ _ _ _ _ _ _ r h => by simp [posthornlaw05_RunesCut.l2] at h, fun _ _ _ _ _ _ _ _ _ _ _ _ r h => by simp [posthornlaw05_RunesCut.l3] at h⟩
  | k + 1 => by
    obtain ⟨ih0, ih1, ih2, ih3⟩ := posthornlaw05_RunesCut.mono_l k
    refine ⟨?_, ?_, ?_, ?_⟩
    · intro y0 y1 y2 y3 y4 y5 y6 y7 y8 y9 y10
      unfold posthornlaw05_RunesCut.l0
      repeat' first
      | (with_reducible exact ih0 _ _ _ _ _ _ _ _ _ _ _)
      | (with_reducible exact ih1 _ _ _ _ _)
      | (with_reducible exact ih2 _ _ _ _ _ _ _ _)
      | (with_reducible exact ih3 _ _ _ _ _ _ _ _ _ _ _ _)
      | (with_reducible exact runes_Bad_byte.mono _ _)
      | (with_reducible exact LeO.refl _)
      | (with_reducible exact LeO.none _)
      | (with_reducible refine LeO.ite ?_ ?_)
      | (with_reducible refine LeO.bind ?_ (fun _ => ?_))
      | exact ih0 _ _ _ _ _ _ _ _ _ _ _
      | exact ih1 _ _ _ _ _
      | exact ih2 _ _ _ _ _ _ _ _
      | exact ih3 _ _ _ _ _ _ _ _ _ _ _ _
      | exact runes_Bad_byte.mono _ _
      | exact LeO.none _
      | refine LeO.ite ?_ ?_
      | refine LeO.bind ?_ (fun _ => ?_)
    · intro y0 y1 y2 y3 y4
      unfold posthornlaw05_RunesCut.l1
      repeat' first
      | (with_reducible exact ih0 _ _ _ _ _ _ _ _ _ _ _)
      | (with_reducible exact ih1 _ _ _ _ _)
      | (with_reducible exact ih2 _ _ _ _ _ _ _ _)
      | (with_reducible exact ih3 _ _ _ _ _ _ _ _ _ _ _ _)
      | (with_reducible exact runes_Bad_byte.mono _ _)
      | (with_reducible exact LeO.refl _)
      | (with_reducible exact LeO.none _)
      | (with_reducible refine LeO.ite ?_ ?_)
      | (with_reducible refine LeO.bind ?_ (fun _ => ?_))
      | exact ih0 _ _ _ _ _ _ _ _ _ _ _
      | exact ih1 _ _ _ _ _
      | exact ih2 _ _ _ _ _ _ _ _
      | exact ih3 _ _ _ _ _ _ _ _ _ _ _ _
      | exact runes_Bad_byte.mono _ _
      | exact LeO.none _
      | refine LeO.ite ?_ ?_
      | refine LeO.bind ?_ (fun _ => ?_)
    · intro y0 y1 y2 y3 y4 y5 y6 y7
      unfold posthornlaw05_RunesCut.l2
      repeat' first
      | (with_reducible exact ih0 _ _ _ _ _ _ _ _ _ _ _)
      | (with_reducible exact ih1 _ _ _ _ _)
      | (with_reducible exact ih2 _ _ _ _ _ _ _ _)
      | (with_reducible exact ih3 _ _ _ _ _ _ _ _ _ _ _ _)
      | (with_reducible exact runes_Bad_byte.mono _ _)
      | (with_reducible exact LeO.refl _)
      | (with_reducible exact LeO.none _)
      | (with_reducible refine LeO.ite ?_ ?_)
      | (with_reducible refine LeO.bind ?_ (fun _ => ?_))
      | exact ih0 _ _ _ _ _ _ _ _ _ _ _
      | exact ih1 _ _ _ _ _
      | exact ih2 _ _ _ _ _ _ _ _
      | exact ih3 _ _ _ _ _ _ _ _ _ _ _ _
      | exact runes_Bad_byte.mono _ _
      | exact LeO.none _
      | refine LeO.ite ?_ ?_
      | refine LeO.bind ?_ (fun _ => ?_)
    · intro y0 y1 y2 y3 y4 y5 y6 y7 y8 y9 y10 y11
      unfold posthornlaw05_RunesCut.l3
      repeat' first
      | (with_reducible exact ih0 _ _ _ _ _ _ _ _ _ _ _)
      | (with_reducible exact ih1 _ _ _ _ _)
      | (with_reducible exact ih2 _ _ _ _ _ _ _ _)
      | (with_reducible exact ih3 _ _ _ _ _ _ _ _ _ _ _ _)
      | (with_reducible exact runes_Bad_byte.mono _ _)
      | (with_reducible exact LeO.refl _)
      | (with_reducible exact LeO.none _)
      | (with_reducible refine LeO.ite ?_ ?_)
      | (with_reducible refine LeO.bind ?_ (fun _ => ?_))
      | exact ih0 _ _ _ _ _ _ _ _ _ _ _
      | exact ih1 _ _ _ _ _
      | exact ih2 _ _ _ _ _ _ _ _
      | exact ih3 _ _ _ _ _ _ _ _ _ _ _ _
      | exact runes_Bad_byte.mono _ _
      | exact LeO.none _
      | refine LeO.ite ?_ ?_
      | refine LeO.bind ?_ (fun _ => ?_)
theorem posthornlaw05_RunesCut.mono : ∀ a0 a1 k, LeO (posthornlaw05_RunesCut.f k a0 a1) (posthornlaw05_RunesCut.f (k + 1) a0 a1) := by
  intro a0 a1 k
  obtain ⟨ih0, ih1, ih2, ih3⟩ := posthornlaw05_RunesCut.mono_l k
  unfold posthornlaw05_RunesCut.f
  repeat' first
      | (with_reducible exact ih0 _ _ _ _ _ _ _ _ _ _ _)
      | (with_reducible exact ih1 _ _ _ _ _)
      | (with_reducible exact ih2 _ _ _ _ _ _ _ _)
      | (with_reducible exact ih3 _ _ _ _ _ _ _ _ _ _ _ _)
      | (with_reducible exact runes_Bad_byte.mono _ _)
      | (with_reducible exact LeO.refl _)
      | (with_reducible exact LeO.none _)
      | (with_reducible refine LeO.ite ?_ ?_)
      | (with_reducible refine LeO.bind ?_ (fun _ => ?_))
      | exact ih0 _ _ _ _ _ _ _ _ _ _ _
      | exact ih1 _ _ _ _ _
      | exact ih2 _ _ _ _ _ _ _ _
      | exact ih3 _ _ _ _ _ _ _ _ _ _ _ _
      | exact runes_Bad_byte.mono _ _
      | exact LeO.none _
      | refine LeO.ite ?_ ?_
      | refine LeO.bind ?_ (fun _ => ?_)
set_option maxHeartbeats 8000000 in
set_option maxRecDepth 100000 in
theorem posthornlaw05_RunesCut.calls (k : Nat) (A0 : Option Addr) (c0 : Nat) (l0 : List Int) (A1 : Option Addr) (c1 : Nat) (l1 : List Int) (r : Bool) (w : World) (hr0 : Kd.C (Kd.int .u8) w A0 l0.length l0) (hc0 : l0.length ≤ c0) (hr1 : Kd.C (Kd.int .i64) w A1 l1.length l1) (hc1 : l1.length ≤ c1) (h : posthornlaw05_RunesCut.f k l0 l1 = some r) :
    Calls Try.prog 10 #[.slice A0 l0.length c0, .slice A1 l1.length c1] w fun e w' => e = .returned (.bool r) ∧ Below w.heap.size w w' := by
  have HR0 := Aside0.mk hr0
  have HC0 := Aside0.mk hc0
  clear hr0 hc0
  have HR1 := Aside0.mk hr1
  have HC1 := Aside0.mk hc1
  clear hr1 hc1
  have HB := Aside0.mk (Below.refl w.heap.size w)
  have H : ((runes_New.f).bind fun bt101 => ((runes_Checker_Feed.f bt101.1 bt101.2.1 bt101.2.2.1 bt101.2.2.2.1 bt101.2.2.2.2 ([] : List Int)).bind fun bt107 => ((slices_Clone_int_int.f l1).bind fun t113 => (if t113.length < 17592186044416 then ((some (t113 ++ [(l0.length : Int)] : List Int)).bind fun y116 => (posthornlaw05_RunesCut.l0 k l0 0 bt107.1 y116 (y116.length : Int) 0 bt107.2.1 bt107.2.2.1 bt107.2.2.2.1 bt107.2.2.2.2.1 bt107.2.2.2.2.2)) else (none))))) = some r := h
  clear h
  replace H := Option.bind_eq_some_iff.mp H
  obtain ⟨⟨t101, t102, t103, t104, t105⟩, A30, H⟩ := H
  replace H : ((runes_Checker_Feed.f t101 t102 t103 t104 t105 ([] : List Int)).bind fun bt107 => ((slices_Clone_int_int.f l1).bind fun t113 => (if t113.length < 17592186044416 then ((some (t113 ++ [(l0.length : Int)] : List Int)).bind fun y116 => (posthornlaw05_RunesCut.l0 k l0 0 bt107.1 y116 (y116.length : Int) 0 bt107.2.1 bt107.2.2.1 bt107.2.2.2.1 bt107.2.2.2.2.1 bt107.2.2.2.2.2)) else (none)))) = some r := H
  have A3 := Aside0.mk A30
  clear A30
  replace H := Option.bind_eq_some_iff.mp H
  obtain ⟨⟨t107, t108, t109, t110, t111, t112⟩, A40, H⟩ := H
  replace H : ((slices_Clone_int_int.f l1).bind fun t113 => (if t113.length < 17592186044416 then ((some (t113 ++ [(l0.length : Int)] : List Int)).bind fun y116 => (posthornlaw05_RunesCut.l0 k l0 0 t107 y116 (y116.length : Int) 0 t108 t109 t110 t111 t112)) else (none))) = some r := H
  have A4 := Aside0.mk A40
  clear A40
  replace H := Option.bind_eq_some_iff.mp H
  obtain ⟨t113, A50, H⟩ := H
  replace H : (if t113.length < 17592186044416 then ((some (t113 ++ [(l0.length : Int)] : List Int)).bind fun y116 => (posthornlaw05_RunesCut.l0 k l0 0 t107 y116 (y116.length : Int) 0 t108 t109 t110 t111 t112)) else (none)) = some r := H
  have A5 := Aside0.mk A50
  clear A50
  by_cases c6 : t113.length < 17592186044416
  · rw [if_pos c6] at H
    have LMc6 := Aside0.mk c6
    clear c6
    obtain ⟨y116, hy116⟩ : ∃ y_ : List Int, y_ = (t113 ++ [(l0.length : Int)]) := ⟨_, rfl⟩
    replace H : (posthornlaw05_RunesCut.l0 k l0 0 t107 y116 (y116.length : Int) 0 t108 t109 t110 t111 t112) = some r := by first | (rw [hy116]; with_reducible exact H) | (have H2_ := (Option.bind_some _ _).symm.trans H; rw [hy116]; with_reducible exact H2_) | (have H2_ := (Option.bind_some _ _).symm.trans H; with_reducible exact H2_) | with_reducible exact H | (rw [hy116]; exact H) | exact H
    have Ny116 := Aside0.mk hy116
    clear hy116
    have H' := Aside0.mk H
    clear H
    go_enter Try.func10, Try.ntmps10
    go_wp2_with (first | ((with_reducible refine gate_callee (f := 21) rfl ?_); refine goesL_ (some 21) rfl rfl Try.func21 (by kernel_rfl) rfl #[] rfl (by (try simp only [List.map_toArray, List.map_cons, List.map_nil]); first | done | rfl | (simp only [List.length_drop, List.length_take]; rfl)) ?_; (with_reducible refine (runes_New.calls  t101 t102 t103 t104 t105 w _ ?side1 A3.out).mono ?_); (case side1 => repeat (first | (with_reducible first | exact HB.out | apply below_alloc | apply pw_below_drewN | apply below_drew1) | exact HB.out)); rintro e w7 ⟨g106, rfl, hi, hb, hb2⟩; refine ⟨_, rfl, ?_⟩; have n0_ := Aside0.mk (hb); have n1_ := Aside0.mk (hi); clear HB; have HB := n0_; have HI106 := n1_; clear n0_ n1_; (try clear hb); (try clear hb2); (try clear hk); (try clear hi)) | ((with_reducible refine gate_callee (f := 23) rfl ?_); refine goesL_ (some 23) rfl rfl Try.func23 (by kernel_rfl) rfl #[.pointer (some ⟨g106, 0, none⟩), .slice none 0 0] rfl (by (try simp only [List.map_toArray, List.map_cons, List.map_nil]); first | done | rfl | (simp only [List.length_drop, List.length_take]; rfl)) ?_; (refine (runes_Checker_Feed.calls g106 t101 t102 t103 t104 t105 _ _ ([] : List Int) t107 t108 t109 t110 t111 t112 w _ ?side1 ?side2 ?side3 ?side4 ?side5 A4.out).mono ?_); (case side1 => repeat (first | (with_reducible first | exact HI106.out | apply IsS48.alloc | apply IsS48.drewN | apply IsS48.drew | apply IsS48.set_0 | apply IsS48.set_1 | apply IsS48.set_2 | apply IsS48.set_3 | apply IsS48.set_4) | exact HI106.out)); (case side2 => repeat (first | (with_reducible first | exact HB.out | apply below_alloc | apply pw_below_drewN | apply below_drew1 | refine below_set ?_ (IsS48.ge HI106.out)) | exact HB.out)); (case side3 => exact Kd.C_nil _ _); (case side4 => exact Nat.le_refl _); (case side5 => intro ad he; cases he); rintro e w8 ⟨rfl, hi, hb, hk⟩; refine ⟨_, rfl, ?_⟩; have n0_ := Aside0.mk (hb); have n1_ := Aside0.mk (hi); clear HB; clear HI106; have HB := n0_; have HI106 := n1_; clear n0_ n1_; (try clear hb); (try clear hb2); (try clear hk); (try clear hi)) | ((with_reducible refine gate_callee (f := 32) rfl ?_); refine goesL_ (some 25) rfl rfl Try.func32 (by kernel_rfl) rfl #[.slice A1 l1.length c1] rfl (by (try simp only [List.map_toArray, List.map_cons, List.map_nil]); first | done | rfl | (simp only [List.length_drop, List.length_take]; rfl)) ?_; (with_reducible refine (slices_Clone_int_int.calls _ _ l1 t113 _ ?side1 ?side2 A5.out).mono ?_); (case side1 => repeat (first | exact (Kd.C_below HR1.out HB.out) | (with_reducible refine Kd.C_alloc ?_ _) | (with_reducible refine Kd.C_drewN ?_ _) | (with_reducible refine Kd.C_drew ?_))); (case side2 => exact HC1.out); rintro e w9 ⟨v114, rfl, ho0, hb⟩; refine ⟨_, rfl, ?_⟩; have n0_ := Aside0.mk (Kd.R_lower ho0 (below_size (by repeat (first | (with_reducible first | exact HB.out | apply below_alloc | apply pw_below_drewN | apply below_drew1 | refine below_set ?_ (IsS48.ge HI106.out)) | exact HB.out)))); have n1_ := Aside0.mk (IsS48.below (by repeat (first | (with_reducible first | exact HI106.out | apply IsS48.alloc | apply IsS48.drewN | apply IsS48.drew | apply IsS48.set_0 | apply IsS48.set_1 | apply IsS48.set_2 | apply IsS48.set_3 | apply IsS48.set_4) | exact HI106.out)) hb); have n2_ := Aside0.mk (below_step (by repeat (first | (with_reducible first | exact HB.out | apply below_alloc | apply pw_below_drewN | apply below_drew1 | refine below_set ?_ (IsS48.ge HI106.out)) | exact HB.out)) hb); clear HI106; clear HB; have HO115 := n0_; have HI106 := n1_; have HB := n2_; clear n0_ n1_ n2_; (try clear hb); (try clear hb2); (try clear hk); (try clear hi); (try clear ho0)) | ((with_reducible refine gate_builtin (b := .append) (xs := #[.tmp 25, .tmp 28]) rfl ?_); (try (refine gate_guard (by rfl) ?_; dsimp only)); at_builtin; refine Kd.R_append (Kd.int .i64) (w0 := w) w.heap.size rfl (.tmp 25) (.tmp 28) 66 3 (.int .i64 0) 8 rfl Try.underlying66 info3 rfl (by decide) (by omega) v114 t113 (l0.length : Int) [.int .i64 (l0.length : Int)] (fun _ => True) (fun _ => False) rfl rfl ?aP (fun _ hk => hk.elim) ?aF ?aO ?aB ?aS ?aL ?_; (case aP => exact rfl); (case aB => exact (by repeat (first | (with_reducible first | exact HB.out | apply below_alloc | apply pw_below_drewN | apply below_drew1 | refine below_set ?_ (IsS48.ge HI106.out)) | exact HB.out))); (case aF => exact (fun _ _ => trivial)); (case aO => exact (by (with_reducible repeat (first | apply Kd.R_alloc | apply Kd.R_drewN | apply Kd.R_drew)); exact HO115.out)); (case aS => exact (below_size (by repeat (first | (with_reducible first | exact HB.out | apply below_alloc | apply pw_below_drewN | apply below_drew1 | refine below_set ?_ (IsS48.ge HI106.out)) | exact HB.out)))); (case aL => have := LMc6.out; omega); intro v117 w10 ho hb hg hat; rw [← Ny116.out] at ho; have n0_ := Aside0.mk (IsS48.grown (by repeat (first | (with_reducible first | exact HI106.out | apply IsS48.alloc | apply IsS48.drewN | apply IsS48.drew | apply IsS48.set_0 | apply IsS48.set_1 | apply IsS48.set_2 | apply IsS48.set_3 | apply IsS48.set_4) | exact HI106.out)) hg (IsS48.own_ne HI106.out HO115.out (by decide))); have n1_ := Aside0.mk (hb); have n2_ := Aside0.mk (ho); clear HI106; clear HB; clear HO115; have HI106 := n0_; have HB := n1_; have HO118 := n2_; clear n0_ n1_ n2_; clear ho hb hg hat; obtain ⟨Ao11, co11, eo11⟩ := Kd.R_slice HO118.out; subst eo11))
    go_loopg [6, 7, 31] k (fun kq v6 v7 v31 w' => ∃ (x6_1 : Int) (x7_1 : Bool) (x31_1 : Int) (x107000_1 : Bool) (x107001_1 : Bool) (x107002_1 : Int) (x107003_1 : Int) (x107004_1 : Int), v6 = .int .i64 x6_1 ∧ v7 = .bool x7_1 ∧ v31 = .int .i64 x31_1 ∧ Aside0 (posthornlaw05_RunesCut.l0 kq l0 x6_1 x7_1 y116 (y116.length : Int) x31_1 x107000_1 x107001_1 x107002_1 x107003_1 x107004_1 = some r) ∧ Aside0 (kq ≤ k) ∧ Aside0 (Kd.R (Kd.int .i64) 3 w' w.heap.size (fun _ => True) (.slice Ao11 y116.length co11) y116) ∧ Aside0 (IsS48 w w' g106 x107000_1 x107001_1 x107002_1 x107003_1 x107004_1) ∧ Aside0 (Below w.heap.size w w'))
    case atStart => exact ⟨(0), (t107), (0), (t108), (t109), (t110), (t111), (t112), (by first | rfl | (simp; done) | (simp [*]; done)), (by first | rfl | (simp; done) | (simp [*]; done)), (by first | rfl | (simp; done) | (simp [*]; done)), H', ⟨Nat.le_refl _⟩, ⟨by (with_reducible repeat (first | apply Kd.R_alloc | apply Kd.R_drewN | apply Kd.R_drew)); exact HO118.out⟩, ⟨by repeat (first | (with_reducible first | exact HI106.out | apply IsS48.alloc | apply IsS48.drewN | apply IsS48.drew | apply IsS48.set_0 | apply IsS48.set_1 | apply IsS48.set_2 | apply IsS48.set_3 | apply IsS48.set_4) | exact HI106.out)⟩, ⟨by repeat (first | (with_reducible first | exact HB.out | apply below_alloc | apply pw_below_drewN | apply below_drew1 | refine below_set ?_ (IsS48.ge HI106.out)) | exact HB.out)⟩⟩
    case round =>
      clear H'
      try clear c1
      try clear c2
      try clear p2
      try clear c3
      try clear c6
      try clear c10
      obtain ⟨x6_1, x7_1, x31_1, x107000_1, x107001_1, x107002_1, x107003_1, x107004_1, rfl, rfl, rfl, HA, HK1, HO_29, HI106, HB⟩ := hrel
      cases gk with
      | zero => exact absurd HA.out (by simp [posthornlaw05_RunesCut.l0])
      | succ k1 =>
        have H := HA.out
        clear HA
        simp only [posthornlaw05_RunesCut.l0] at H
        by_cases c12 : x31_1 < (y116.length : Int)
        · rw [if_pos c12] at H
          have c12b0 : decide (x31_1 < (y116.length : Int)) = true := decide_eq_true c12
          clear c12
          by_cases c13 : 0 ≤ x31_1
          · rw [if_pos c13] at H
            have c13b0 : decide (0 ≤ x31_1) = true := decide_eq_true c13
            clear c13
            by_cases c14 : x31_1 < (y116.length : Int)
            · rw [if_pos c14] at H
              have c14b0 : decide (x31_1 < (y116.length : Int)) = true := decide_eq_true c14
              clear c14
              obtain ⟨ji15, hji15⟩ : ∃ j_ : Int, (mx (rd y116 x31_1) x6_1) = j_ := ⟨_, rfl⟩
              replace H : (if 0 ≤ x6_1 then (if x6_1 ≤ (mn (ji15) (l0.length : Int)) then (if (mn (ji15) (l0.length : Int)) ≤ (l0.length : Int) then ((runes_Checker_Feed.f x107000_1 x107001_1 x107002_1 x107003_1 x107004_1 ((l0.take ((mn (ji15) (l0.length : Int)) : Int).toNat).drop (x6_1 : Int).toNat)).bind fun bt121 => (if bt121.1 = true then (if x7_1 = true then (posthornlaw05_RunesCut.l0 k1 l0 (mn (ji15) (l0.length : Int)) bt121.1 y116 (y116.length : Int) (wrap64 (x31_1 + 1)) bt121.2.1 bt121.2.2.1 bt121.2.2.2.1 bt121.2.2.2.2.1 bt121.2.2.2.2.2) else (some false)) else (posthornlaw05_RunesCut.l0 k1 l0 (mn (ji15) (l0.length : Int)) bt121.1 y116 (y116.length : Int) (wrap64 (x31_1 + 1)) bt121.2.1 bt121.2.2.1 bt121.2.2.2.1 bt121.2.2.2.2.1 bt121.2.2.2.2.2))) else (none)) else (none)) else (none)) = some r := by first | (rw [hji15] at H; exact H) | (simp only [hji15] at H ⊢; exact H)
              have hji15_ : (if (rd y116 x31_1) < x6_1 then x6_1 else (rd y116 x31_1)) = ji15 := hji15
              obtain ⟨ji16, hji16⟩ : ∃ j_ : Int, (mn (ji15) (l0.length : Int)) = j_ := ⟨_, rfl⟩
              replace H : (if 0 ≤ x6_1 then (if x6_1 ≤ (ji16) then (if (ji16) ≤ (l0.length : Int) then ((runes_Checker_Feed.f x107000_1 x107001_1 x107002_1 x107003_1 x107004_1 ((l0.take ((ji16) : Int).toNat).drop (x6_1 : Int).toNat)).bind fun bt121 => (if bt121.1 = true then (if x7_1 = true then (posthornlaw05_RunesCut.l0 k1 l0 ji16 bt121.1 y116 (y116.length : Int) (wrap64 (x31_1 + 1)) bt121.2.1 bt121.2.2.1 bt121.2.2.2.1 bt121.2.2.2.2.1 bt121.2.2.2.2.2) else (some false)) else (posthornlaw05_RunesCut.l0 k1 l0 ji16 bt121.1 y116 (y116.length : Int) (wrap64 (x31_1 + 1)) bt121.2.1 bt121.2.2.1 bt121.2.2.2.1 bt121.2.2.2.2.1 bt121.2.2.2.2.2))) else (none)) else (none)) else (none)) = some r := by first | (rw [hji16] at H; exact H) | (simp only [hji16] at H ⊢; exact H)
              have hji16_ : (if (l0.length : Int) < (ji15) then (l0.length : Int) else (ji15)) = ji16 := hji16
              by_cases c17 : 0 ≤ x6_1
              · rw [if_pos c17] at H
                have c17b0 := eq_true c17
                have c17b1 : decide (0 ≤ x6_1) = true := decide_eq_true c17
                clear c17
                by_cases c18 : x6_1 ≤ (ji16)
                · rw [if_pos c18] at H
                  have c18b0 := eq_true c18
                  have c18b1 : decide (x6_1 ≤ (ji16)) = true := decide_eq_true c18
                  clear c18
                  by_cases c19 : (ji16) ≤ (l0.length : Int)
                  · rw [if_pos c19] at H
                    have c19b0 := eq_true c19
                    have c19b1 : decide ((ji16) ≤ (l0.length : Int)) = true := decide_eq_true c19
                    clear c19
                    replace H := Option.bind_eq_some_iff.mp H
                    obtain ⟨⟨t121, t122, t123, t124, t125, t126⟩, A200, H⟩ := H
                    replace H : (if t121 = true then (if x7_1 = true then (posthornlaw05_RunesCut.l0 k1 l0 ji16 t121 y116 (y116.length : Int) (wrap64 (x31_1 + 1)) t122 t123 t124 t125 t126) else (some false)) else (posthornlaw05_RunesCut.l0 k1 l0 ji16 t121 y116 (y116.length : Int) (wrap64 (x31_1 + 1)) t122 t123 t124 t125 t126)) = some r := H
                    have A20 := Aside0.mk A200
                    clear A200
                    by_cases c21 : t121 = true
                    · subst c21
                      have H1 : (if x7_1 = true then (posthornlaw05_RunesCut.l0 k1 l0 ji16 true y116 (y116.length : Int) (wrap64 (x31_1 + 1)) t122 t123 t124 t125 t126) else (some false)) = some r := by rw [if_pos rfl] at H; exact H
                      clear H
                      have H := H1
                      clear H1
                      by_cases c22 : x7_1 = true
                      · subst c22
                        have H1 : (posthornlaw05_RunesCut.l0 k1 l0 ji16 true y116 (y116.length : Int) (wrap64 (x31_1 + 1)) t122 t123 t124 t125 t126) = some r := by rw [if_pos rfl] at H; exact H
                        clear H
                        have H := H1
                        clear H1
                        have H' := Aside0.mk H
                        clear H
                        have p119 : 0 ≤ (x31_1 : Int) := of_decide_eq_true (by first | (with_reducible assumption) | assumption)
                        have q119 : x31_1 < (y116.length : Int) := of_decide_eq_true (by first | (with_reducible assumption) | assumption)
                        obtain ⟨ad119, e119, hx119_0⟩ := Kd.at_int (Kd.R_reads' HO_29.out).2.2 x31_1 p119 q119
                        cases e119
                        replace p119 := eq_true p119
                        replace q119 := eq_true q119
                        obtain ⟨i023, hi023, _, hsz23, _⟩ := info_parts info5
                        obtain ⟨A23, hcut23, hA23, hC23⟩ := print_mid_of (P := Try.prog) (Value.int .u8) 0 27 5 .i64 .i64 Try.underlying27 hi023 hsz23 A0 c0 l0 x6_1 (ji16) (of_decide_eq_true (by first | (with_reducible assumption) | assumption)) (by first | omega | exact of_decide_eq_true (by first | (with_reducible assumption) | assumption)) (of_decide_eq_true (by first | (with_reducible assumption) | assumption)) HC0.out
                        have HR120 := Aside0.mk (Kd.C_of_reads (h1 := fun _ => rfl) (hA23 _ (Kd.reads_of_C HR0.out)))
                        have HC120 := Aside0.mk hC23
                        clear hA23 hC23 hi023 hsz23
                        go_wp2_with (first | ((with_reducible refine gate_callee (f := 23) rfl ?_); refine goesL_ (some 46) rfl rfl Try.func23 (by kernel_rfl) rfl #[.pointer (some ⟨g106, 0, none⟩), .slice A23 ((l0.take ((ji16) : Int).toNat).drop (x6_1 : Int).toNat).length (c0 - x6_1.toNat)] rfl (by (try simp only [List.map_toArray, List.map_cons, List.map_nil]); first | done | (rw [show ((l0.take ((ji16) : Int).toNat).drop (x6_1 : Int).toNat).length = ((ji16).toNat - x6_1.toNat) from (by rw [List.length_drop, List.length_take]; have h_ : ((ji16) : Int) ≤ (l0.length : Int) := of_decide_eq_true (by first | (with_reducible assumption) | assumption); omega)] <;> rfl) | (simp only [hji16]; rfl) | rfl | (simp only [List.length_drop, List.length_take]; rfl)) ?_; (with_reducible refine (runes_Checker_Feed.calls g106 x107000_1 x107001_1 x107002_1 x107003_1 x107004_1 _ _ ((l0.take ((ji16) : Int).toNat).drop (x6_1 : Int).toNat) true t122 t123 t124 t125 t126 w _ ?side1 ?side2 ?side3 ?side4 ?side5 A20.out).mono ?_); (case side1 => repeat (first | (with_reducible first | exact HI106.out | apply IsS48.alloc | apply IsS48.drewN | apply IsS48.drew | apply IsS48.set_0 | apply IsS48.set_1 | apply IsS48.set_2 | apply IsS48.set_3 | apply IsS48.set_4) | exact HI106.out)); (case side2 => repeat (first | (with_reducible first | exact HB.out | apply below_alloc | apply pw_below_drewN | apply below_drew1 | refine below_set ?_ (IsS48.ge HI106.out)) | exact HB.out)); (case side3 => repeat (first | exact (Kd.C_below HR120.out HB.out) | (with_reducible refine Kd.C_alloc ?_ _) | (with_reducible refine Kd.C_drewN ?_ _) | (with_reducible refine Kd.C_drew ?_))); (case side4 => exact HC120.out); (case side5 => exact Kd.far_C 0 HR120.out (IsS48.ge HI106.out)); rintro e w24 ⟨rfl, hi, hb, hk⟩; refine ⟨_, rfl, ?_⟩; have n0_ := Aside0.mk (Kd.R_mono (Kd.R_keep (IsS48.apart (show IsS48 w _ g106 x107000_1 x107001_1 x107002_1 x107003_1 x107004_1 from by repeat (first | (with_reducible first | exact HI106.out | apply IsS48.alloc | apply IsS48.drewN | apply IsS48.drew | apply IsS48.set_0 | apply IsS48.set_1 | apply IsS48.set_2 | apply IsS48.set_3 | apply IsS48.set_4) | exact HI106.out)) (by (with_reducible repeat (first | apply Kd.R_alloc | apply Kd.R_drewN | apply Kd.R_drew)); exact HO_29.out) (by decide)) hk (fun _ h => h.2)) (fun _ h => h.1)); have n1_ := Aside0.mk (hb); have n2_ := Aside0.mk (hi); clear HO_29; clear HB; clear HI106; have HO_29 := n0_; have HB := n1_; have HI106 := n2_; clear n0_ n1_ n2_; (try clear hb); (try clear hb2); (try clear hk); (try clear hi)))
                        go_roundg k1
                        case measure => have := HK1.out; omega
                        case rel => exact ⟨(ji16), (true), (wrap64 (x31_1 + 1)), (t122), (t123), (t124), (t125), (t126), (by first | rfl | (simp; done) | (simp only [← hji16] <;> (first | rfl | simp)) | (simp [*]; done)), (by first | rfl | (simp; done) | (simp [*]; done)), (by first | rfl | (simp; done) | (simp [*]; done)), H', ⟨by have := HK1.out; omega⟩, ⟨by (with_reducible repeat (first | apply Kd.R_alloc | apply Kd.R_drewN | apply Kd.R_drew)); exact HO_29.out⟩, ⟨by repeat (first | (with_reducible first | exact HI106.out | apply IsS48.alloc | apply IsS48.drewN | apply IsS48.drew | apply IsS48.set_0 | apply IsS48.set_1 | apply IsS48.set_2 | apply IsS48.set_3 | apply IsS48.set_4) | exact HI106.out)⟩, ⟨by repeat (first | (with_reducible first | exact HB.out | apply below_alloc | apply pw_below_drewN | apply below_drew1 | refine below_set ?_ (IsS48.ge HI106.out)) | exact HB.out)⟩⟩
                      · replace c22 := Bool.eq_false_iff.mpr c22
                        subst c22
                        have H1 : (some false) = some r := by rw [if_neg (show ¬ (false = true) by decide)] at H; exact H
                        clear H
                        have H := H1
                        clear H1
                        obtain rfl := Option.some.inj H
                        have p119 : 0 ≤ (x31_1 : Int) := of_decide_eq_true (by first | (with_reducible assumption) | assumption)
                        have q119 : x31_1 < (y116.length : Int) := of_decide_eq_true (by first | (with_reducible assumption) | assumption)
                        obtain ⟨ad119, e119, hx119_0⟩ := Kd.at_int (Kd.R_reads' HO_29.out).2.2 x31_1 p119 q119
                        cases e119
                        replace p119 := eq_true p119
                        replace q119 := eq_true q119
                        obtain ⟨i025, hi025, _, hsz25, _⟩ := info_parts info5
                        obtain ⟨A25, hcut25, hA25, hC25⟩ := print_mid_of (P := Try.prog) (Value.int .u8) 0 27 5 .i64 .i64 Try.underlying27 hi025 hsz25 A0 c0 l0 x6_1 (ji16) (of_decide_eq_true (by first | (with_reducible assumption) | assumption)) (by first | omega | exact of_decide_eq_true (by first | (with_reducible assumption) | assumption)) (of_decide_eq_true (by first | (with_reducible assumption) | assumption)) HC0.out
                        have HR120 := Aside0.mk (Kd.C_of_reads (h1 := fun _ => rfl) (hA25 _ (Kd.reads_of_C HR0.out)))
                        have HC120 := Aside0.mk hC25
                        clear hA25 hC25 hi025 hsz25
                        go_wp2_with (first | ((with_reducible refine gate_callee (f := 23) rfl ?_); refine goesL_ (some 46) rfl rfl Try.func23 (by kernel_rfl) rfl #[.pointer (some ⟨g106, 0, none⟩), .slice A25 ((l0.take ((ji16) : Int).toNat).drop (x6_1 : Int).toNat).length (c0 - x6_1.toNat)] rfl (by (try simp only [List.map_toArray, List.map_cons, List.map_nil]); first | done | (rw [show ((l0.take ((ji16) : Int).toNat).drop (x6_1 : Int).toNat).length = ((ji16).toNat - x6_1.toNat) from (by rw [List.length_drop, List.length_take]; have h_ : ((ji16) : Int) ≤ (l0.length : Int) := of_decide_eq_true (by first | (with_reducible assumption) | assumption); omega)] <;> rfl) | (simp only [hji16]; rfl) | rfl | (simp only [List.length_drop, List.length_take]; rfl)) ?_; (with_reducible refine (runes_Checker_Feed.calls g106 x107000_1 x107001_1 x107002_1 x107003_1 x107004_1 _ _ ((l0.take ((ji16) : Int).toNat).drop (x6_1 : Int).toNat) true t122 t123 t124 t125 t126 w _ ?side1 ?side2 ?side3 ?side4 ?side5 A20.out).mono ?_); (case side1 => repeat (first | (with_reducible first | exact HI106.out | apply IsS48.alloc | apply IsS48.drewN | apply IsS48.drew | apply IsS48.set_0 | apply IsS48.set_1 | apply IsS48.set_2 | apply IsS48.set_3 | apply IsS48.set_4) | exact HI106.out)); (case side2 => repeat (first | (with_reducible first | exact HB.out | apply below_alloc | apply pw_below_drewN | apply below_drew1 | refine below_set ?_ (IsS48.ge HI106.out)) | exact HB.out)); (case side3 => repeat (first | exact (Kd.C_below HR120.out HB.out) | (with_reducible refine Kd.C_alloc ?_ _) | (with_reducible refine Kd.C_drewN ?_ _) | (with_reducible refine Kd.C_drew ?_))); (case side4 => exact HC120.out); (case side5 => exact Kd.far_C 0 HR120.out (IsS48.ge HI106.out)); rintro e w26 ⟨rfl, hi, hb, hk⟩; refine ⟨_, rfl, ?_⟩; have n0_ := Aside0.mk (Kd.R_mono (Kd.R_keep (IsS48.apart (show IsS48 w _ g106 x107000_1 x107001_1 x107002_1 x107003_1 x107004_1 from by repeat (first | (with_reducible first | exact HI106.out | apply IsS48.alloc | apply IsS48.drewN | apply IsS48.drew | apply IsS48.set_0 | apply IsS48.set_1 | apply IsS48.set_2 | apply IsS48.set_3 | apply IsS48.set_4) | exact HI106.out)) (by (with_reducible repeat (first | apply Kd.R_alloc | apply Kd.R_drewN | apply Kd.R_drew)); exact HO_29.out) (by decide)) hk (fun _ h => h.2)) (fun _ h => h.1)); have n1_ := Aside0.mk (hb); have n2_ := Aside0.mk (hi); clear HO_29; clear HB; clear HI106; have HO_29 := n0_; have HB := n1_; have HI106 := n2_; clear n0_ n1_ n2_; (try clear hb); (try clear hb2); (try clear hk); (try clear hi)))
                        go_ret
                        exact ⟨by first | rfl | (simp [errW_none, errW_some] <;> rfl) | (simp only [← hji15, ← hji16]; first | rfl | (simp [errW_none, errW_some] <;> rfl)) | (simp [*, errW_none, errW_some] <;> rfl), by repeat (first | (with_reducible first | exact HB.out | apply below_alloc | apply pw_below_drewN | apply below_drew1 | refine below_set ?_ (IsS48.ge HI106.out)) | exact HB.out)⟩
                    · replace c21 := Bool.eq_false_iff.mpr c21
                      subst c21
                      have H1 : (posthornlaw05_RunesCut.l0 k1 l0 ji16 false y116 (y116.length : Int) (wrap64 (x31_1 + 1)) t122 t123 t124 t125 t126) = some r := by rw [if_neg (show ¬ (false = true) by decide)] at H; exact H
                      clear H
                      have H := H1
                      clear H1
                      have H' := Aside0.mk H
                      clear H
                      have p119 : 0 ≤ (x31_1 : Int) := of_decide_eq_true (by first | (with_reducible assumption) | assumption)
                      have q119 : x31_1 < (y116.length : Int) := of_decide_eq_true (by first | (with_reducible assumption) | assumption)
                      obtain ⟨ad119, e119, hx119_0⟩ := Kd.at_int (Kd.R_reads' HO_29.out).2.2 x31_1 p119 q119
                      cases e119
                      replace p119 := eq_true p119
                      replace q119 := eq_true q119
                      obtain ⟨i027, hi027, _, hsz27, _⟩ := info_parts info5
                      obtain ⟨A27, hcut27, hA27, hC27⟩ := print_mid_of (P := Try.prog) (Value.int .u8) 0 27 5 .i64 .i64 Try.underlying27 hi027 hsz27 A0 c0 l0 x6_1 (ji16) (of_decide_eq_true (by first | (with_reducible assumption) | assumption)) (by first | omega | exact of_decide_eq_true (by first | (with_reducible assumption) | assumption)) (of_decide_eq_true (by first | (with_reducible assumption) | assumption)) HC0.out
                      have HR120 := Aside0.mk (Kd.C_of_reads (h1 := fun _ => rfl) (hA27 _ (Kd.reads_of_C HR0.out)))
                      have HC120 := Aside0.mk hC27
                      clear hA27 hC27 hi027 hsz27
                      go_wp2_with (first | ((with_reducible refine gate_callee (f := 23) rfl ?_); refine goesL_ (some 46) rfl rfl Try.func23 (by kernel_rfl) rfl #[.pointer (some ⟨g106, 0, none⟩), .slice A27 ((l0.take ((ji16) : Int).toNat).drop (x6_1 : Int).toNat).length (c0 - x6_1.toNat)] rfl (by (try simp only [List.map_toArray, List.map_cons, List.map_nil]); first | done | (rw [show ((l0.take ((ji16) : Int).toNat).drop (x6_1 : Int).toNat).length = ((ji16).toNat - x6_1.toNat) from (by rw [List.length_drop, List.length_take]; have h_ : ((ji16) : Int) ≤ (l0.length : Int) := of_decide_eq_true (by first | (with_reducible assumption) | assumption); omega)] <;> rfl) | (simp only [hji16]; rfl) | rfl | (simp only [List.length_drop, List.length_take]; rfl)) ?_; (with_reducible refine (runes_Checker_Feed.calls g106 x107000_1 x107001_1 x107002_1 x107003_1 x107004_1 _ _ ((l0.take ((ji16) : Int).toNat).drop (x6_1 : Int).toNat) false t122 t123 t124 t125 t126 w _ ?side1 ?side2 ?side3 ?side4 ?side5 A20.out).mono ?_); (case side1 => repeat (first | (with_reducible first | exact HI106.out | apply IsS48.alloc | apply IsS48.drewN | apply IsS48.drew | apply IsS48.set_0 | apply IsS48.set_1 | apply IsS48.set_2 | apply IsS48.set_3 | apply IsS48.set_4) | exact HI106.out)); (case side2 => repeat (first | (with_reducible first | exact HB.out | apply below_alloc | apply pw_below_drewN | apply below_drew1 | refine below_set ?_ (IsS48.ge HI106.out)) | exact HB.out)); (case side3 => repeat (first | exact (Kd.C_below HR120.out HB.out) | (with_reducible refine Kd.C_alloc ?_ _) | (with_reducible refine Kd.C_drewN ?_ _) | (with_reducible refine Kd.C_drew ?_))); (case side4 => exact HC120.out); (case side5 => exact Kd.far_C 0 HR120.out (IsS48.ge HI106.out)); rintro e w28 ⟨rfl, hi, hb, hk⟩; refine ⟨_, rfl, ?_⟩; have n0_ := Aside0.mk (Kd.R_mono (Kd.R_keep (IsS48.apart (show IsS48 w _ g106 x107000_1 x107001_1 x107002_1 x107003_1 x107004_1 from by repeat (first | (with_reducible first | exact HI106.out | apply IsS48.alloc | apply IsS48.drewN | apply IsS48.drew | apply IsS48.set_0 | apply IsS48.set_1 | apply IsS48.set_2 | apply IsS48.set_3 | apply IsS48.set_4) | exact HI106.out)) (by (with_reducible repeat (first | apply Kd.R_alloc | apply Kd.R_drewN | apply Kd.R_drew)); exact HO_29.out) (by decide)) hk (fun _ h => h.2)) (fun _ h => h.1)); have n1_ := Aside0.mk (hb); have n2_ := Aside0.mk (hi); clear HO_29; clear HB; clear HI106; have HO_29 := n0_; have HB := n1_; have HI106 := n2_; clear n0_ n1_ n2_; (try clear hb); (try clear hb2); (try clear hk); (try clear hi)))
                      go_roundg k1
                      case measure => have := HK1.out; omega
                      case rel => exact ⟨(ji16), (false), (wrap64 (x31_1 + 1)), (t122), (t123), (t124), (t125), (t126), (by first | rfl | (simp; done) | (simp only [← hji16] <;> (first | rfl | simp)) | (simp [*]; done)), (by first | rfl | (simp; done) | (simp [*]; done)), (by first | rfl | (simp; done) | (simp [*]; done)), H', ⟨by have := HK1.out; omega⟩, ⟨by (with_reducible repeat (first | apply Kd.R_alloc | apply Kd.R_drewN | apply Kd.R_drew)); exact HO_29.out⟩, ⟨by repeat (first | (with_reducible first | exact HI106.out | apply IsS48.alloc | apply IsS48.drewN | apply IsS48.drew | apply IsS48.set_0 | apply IsS48.set_1 | apply IsS48.set_2 | apply IsS48.set_3 | apply IsS48.set_4) | exact HI106.out)⟩, ⟨by repeat (first | (with_reducible first | exact HB.out | apply below_alloc | apply pw_below_drewN | apply below_drew1 | refine below_set ?_ (IsS48.ge HI106.out)) | exact HB.out)⟩⟩
                  · rw [if_neg c19] at H
                    exact absurd H (by simp)
                · rw [if_neg c18] at H
                  exact absurd H (by simp)
              · rw [if_neg c17] at H
                exact absurd H (by simp)
            · rw [if_neg c14] at H
              exact absurd H (by simp)
          · rw [if_neg c13] at H
            exact absurd H (by simp)
        · rw [if_neg c12] at H
          have c12b0 : decide (x31_1 < (y116.length : Int)) = false := decide_eq_false c12
          clear c12
          replace H := Option.bind_eq_some_iff.mp H
          obtain ⟨⟨t127, t128, t129, t130, t131, t132⟩, A290, H⟩ := H
          replace H : ((runes_Bad_byte.f k1 l0).bind fun t133 => (if (t127 != (t133 == (l0.length : Int))) = true then (some false) else ((runes_Checker_Whole.f t128 t129 t130 t131 t132).bind fun bt134 => (posthornlaw05_RunesCut.l1 k1 l0 x7_1 bt134.1 (([(([] : List Int))] : List (List Int))) 0)))) = some r := H
          have A29 := Aside0.mk A290
          clear A290
          replace H := Option.bind_eq_some_iff.mp H
          obtain ⟨t133, A300, H⟩ := H
          replace H : (if (t127 != (t133 == (l0.length : Int))) = true then (some false) else ((runes_Checker_Whole.f t128 t129 t130 t131 t132).bind fun bt134 => (posthornlaw05_RunesCut.l1 k1 l0 x7_1 bt134.1 (([(([] : List Int))] : List (List Int))) 0))) = some r := H
          have A30 := Aside0.mk A300
          clear A300
          by_cases c31 : (t127 != (t133 == (l0.length : Int))) = true
          · rw [if_pos c31] at H
            have c31b0 : (t127 != (t133 == (l0.length : Int))) = true := c31
            (try (have c31b1 : decide (t127 = (t133 == (l0.length : Int))) = false := by simpa using c31))
            (try (have c31b2 : (t127 == (t133 == (l0.length : Int))) = false := by simpa using c31))
            (try (have c31b3 : ¬ (t127 = (t133 == (l0.length : Int))) := by simpa using c31))
            clear c31
            obtain rfl := Option.some.inj H
            go_wp2_with (first | ((with_reducible refine gate_callee (f := 25) rfl ?_); refine goesL_ (some 56) rfl rfl Try.func25 (by kernel_rfl) rfl #[.pointer (some ⟨g106, 0, none⟩)] rfl (by (try simp only [List.map_toArray, List.map_cons, List.map_nil]); first | done | rfl | (simp only [List.length_drop, List.length_take]; rfl)) ?_; (with_reducible refine (runes_Checker_Whole.calls g106 x107000_1 x107001_1 x107002_1 x107003_1 x107004_1 t127 t128 t129 t130 t131 t132 w _ ?side1 ?side2 A29.out).mono ?_); (case side1 => repeat (first | (with_reducible first | exact HI106.out | apply IsS48.alloc | apply IsS48.drewN | apply IsS48.drew | apply IsS48.set_0 | apply IsS48.set_1 | apply IsS48.set_2 | apply IsS48.set_3 | apply IsS48.set_4) | exact HI106.out)); (case side2 => repeat (first | (with_reducible first | exact HB.out | apply below_alloc | apply pw_below_drewN | apply below_drew1 | refine below_set ?_ (IsS48.ge HI106.out)) | exact HB.out)); rintro e w32 ⟨rfl, hi, hb, hk⟩; refine ⟨_, rfl, ?_⟩; have n0_ := Aside0.mk (Kd.R_mono (Kd.R_keep (IsS48.apart (show IsS48 w _ g106 x107000_1 x107001_1 x107002_1 x107003_1 x107004_1 from by repeat (first | (with_reducible first | exact HI106.out | apply IsS48.alloc | apply IsS48.drewN | apply IsS48.drew | apply IsS48.set_0 | apply IsS48.set_1 | apply IsS48.set_2 | apply IsS48.set_3 | apply IsS48.set_4) | exact HI106.out)) (by (with_reducible repeat (first | apply Kd.R_alloc | apply Kd.R_drewN | apply Kd.R_drew)); exact HO_29.out) (by decide)) hk (fun _ h => h.2)) (fun _ h => h.1)); have n1_ := Aside0.mk (hb); have n2_ := Aside0.mk (hi); clear HO_29; clear HB; clear HI106; have HO_29 := n0_; have HB := n1_; have HI106 := n2_; clear n0_ n1_ n2_; (try clear hb); (try clear hb2); (try clear hk); (try clear hi)) | ((with_reducible refine gate_callee (f := 14) rfl ?_); refine goesL_ (some 58) rfl rfl Try.func14 (by kernel_rfl) rfl #[.slice A0 l0.length c0] rfl (by (try simp only [List.map_toArray, List.map_cons, List.map_nil]); first | done | rfl | (simp only [List.length_drop, List.length_take]; rfl)) ?_; (with_reducible refine (runes_Bad_byte.calls k1 _ _ l0 t133 _ ?side1 ?side2 A30.out).mono ?_); (case side1 => repeat (first | exact (Kd.C_below HR0.out HB.out) | (with_reducible refine Kd.C_alloc ?_ _) | (with_reducible refine Kd.C_drewN ?_ _) | (with_reducible refine Kd.C_drew ?_))); (case side2 => exact HC0.out); rintro e w33 ⟨rfl, hb⟩; refine ⟨_, rfl, ?_⟩; have n0_ := Aside0.mk (Kd.R_below (by (with_reducible repeat (first | apply Kd.R_alloc | apply Kd.R_drewN | apply Kd.R_drew)); exact HO_29.out) hb); have n1_ := Aside0.mk (IsS48.below (by repeat (first | (with_reducible first | exact HI106.out | apply IsS48.alloc | apply IsS48.drewN | apply IsS48.drew | apply IsS48.set_0 | apply IsS48.set_1 | apply IsS48.set_2 | apply IsS48.set_3 | apply IsS48.set_4) | exact HI106.out)) hb); have n2_ := Aside0.mk (below_step (by repeat (first | (with_reducible first | exact HB.out | apply below_alloc | apply pw_below_drewN | apply below_drew1 | refine below_set ?_ (IsS48.ge HI106.out)) | exact HB.out)) hb); clear HO_29; clear HI106; clear HB; have HO_29 := n0_; have HI106 := n1_; have HB := n2_; clear n0_ n1_ n2_; (try clear hb); (try clear hb2); (try clear hk); (try clear hi)))
            go_ret
            exact ⟨by first | rfl | (simp [errW_none, errW_some] <;> rfl) | (simp [*, errW_none, errW_some] <;> rfl), by repeat (first | (with_reducible first | exact HB.out | apply below_alloc | apply pw_below_drewN | apply below_drew1 | refine below_set ?_ (IsS48.ge HI106.out)) | exact HB.out)⟩
          · rw [if_neg c31] at H
            have c31b0 : (t127 != (t133 == (l0.length : Int))) = false := by simpa using c31
            (try (have c31b1 : decide (t127 = (t133 == (l0.length : Int))) = true := by simpa using c31))
            (try (have c31b2 : (t127 == (t133 == (l0.length : Int))) = true := by simpa using c31))
            clear c31
            replace H := Option.bind_eq_some_iff.mp H
            obtain ⟨⟨t134, t135, t136, t137, t138, t139⟩, A340, H⟩ := H
            replace H : (posthornlaw05_RunesCut.l1 k1 l0 x7_1 t134 (([(([] : List Int))] : List (List Int))) 0) = some r := H
            have A34 := Aside0.mk A340
            clear A340
            obtain ⟨y140, hy140⟩ : ∃ y_ : List Int, y_ = (([] : List Int)) := ⟨_, rfl⟩
            replace H : (posthornlaw05_RunesCut.l1 k1 l0 x7_1 t134 (([y140] : List (List Int))) 0) = some r := by first | (rw [hy140]; with_reducible exact H) | (have H2_ := (Option.bind_some _ _).symm.trans H; rw [hy140]; with_reducible exact H2_) | (have H2_ := (Option.bind_some _ _).symm.trans H; with_reducible exact H2_) | with_reducible exact H | (rw [hy140]; exact H) | exact H
            have Ny140 := Aside0.mk hy140
            clear hy140
            obtain ⟨y143, hy143⟩ : ∃ y_ : List (List Int), y_ = (([y140] : List (List Int))) := ⟨_, rfl⟩
            replace H : (posthornlaw05_RunesCut.l1 k1 l0 x7_1 t134 y143 0) = some r := by first | (rw [hy143]; with_reducible exact H) | (have H2_ := (Option.bind_some _ _).symm.trans H; rw [hy143]; with_reducible exact H2_) | (have H2_ := (Option.bind_some _ _).symm.trans H; with_reducible exact H2_) | with_reducible exact H | (rw [hy143]; exact H) | exact H
            have Ny143 := Aside0.mk hy143
            clear hy143
            have H' := Aside0.mk H
            clear H
            go_wp2_with (first | ((with_reducible refine gate_callee (f := 25) rfl ?_); refine goesL_ (some 56) rfl rfl Try.func25 (by kernel_rfl) rfl #[.pointer (some ⟨g106, 0, none⟩)] rfl (by (try simp only [List.map_toArray, List.map_cons, List.map_nil]); first | done | rfl | (simp only [List.length_drop, List.length_take]; rfl)) ?_; (with_reducible refine (runes_Checker_Whole.calls g106 x107000_1 x107001_1 x107002_1 x107003_1 x107004_1 t127 t128 t129 t130 t131 t132 w _ ?side1 ?side2 A29.out).mono ?_); (case side1 => repeat (first | (with_reducible first | exact HI106.out | apply IsS48.alloc | apply IsS48.drewN | apply IsS48.drew | apply IsS48.set_0 | apply IsS48.set_1 | apply IsS48.set_2 | apply IsS48.set_3 | apply IsS48.set_4) | exact HI106.out)); (case side2 => repeat (first | (with_reducible first | exact HB.out | apply below_alloc | apply pw_below_drewN | apply below_drew1 | refine below_set ?_ (IsS48.ge HI106.out)) | exact HB.out)); rintro e w35 ⟨rfl, hi, hb, hk⟩; refine ⟨_, rfl, ?_⟩; have n0_ := Aside0.mk (Kd.R_mono (Kd.R_keep (IsS48.apart (show IsS48 w _ g106 x107000_1 x107001_1 x107002_1 x107003_1 x107004_1 from by repeat (first | (with_reducible first | exact HI106.out | apply IsS48.alloc | apply IsS48.drewN | apply IsS48.drew | apply IsS48.set_0 | apply IsS48.set_1 | apply IsS48.set_2 | apply IsS48.set_3 | apply IsS48.set_4) | exact HI106.out)) (by (with_reducible repeat (first | apply Kd.R_alloc | apply Kd.R_drewN | apply Kd.R_drew)); exact HO_29.out) (by decide)) hk (fun _ h => h.2)) (fun _ h => h.1)); have n1_ := Aside0.mk (hb); have n2_ := Aside0.mk (hi); clear HO_29; clear HB; clear HI106; have HO_29 := n0_; have HB := n1_; have HI106 := n2_; clear n0_ n1_ n2_; (try clear hb); (try clear hb2); (try clear hk); (try clear hi)) | ((with_reducible refine gate_callee (f := 14) rfl ?_); refine goesL_ (some 58) rfl rfl Try.func14 (by kernel_rfl) rfl #[.slice A0 l0.length c0] rfl (by (try simp only [List.map_toArray, List.map_cons, List.map_nil]); first | done | rfl | (simp only [List.length_drop, List.length_take]; rfl)) ?_; (with_reducible refine (runes_Bad_byte.calls k1 _ _ l0 t133 _ ?side1 ?side2 A30.out).mono ?_); (case side1 => repeat (first | exact (Kd.C_below HR0.out HB.out) | (with_reducible refine Kd.C_alloc ?_ _) | (with_reducible refine Kd.C_drewN ?_ _) | (with_reducible refine Kd.C_drew ?_))); (case side2 => exact HC0.out); rintro e w36 ⟨rfl, hb⟩; refine ⟨_, rfl, ?_⟩; have n0_ := Aside0.mk (Kd.R_below (by (with_reducible repeat (first | apply Kd.R_alloc | apply Kd.R_drewN | apply Kd.R_drew)); exact HO_29.out) hb); have n1_ := Aside0.mk (IsS48.below (by repeat (first | (with_reducible first | exact HI106.out | apply IsS48.alloc | apply IsS48.drewN | apply IsS48.drew | apply IsS48.set_0 | apply IsS48.set_1 | apply IsS48.set_2 | apply IsS48.set_3 | apply IsS48.set_4) | exact HI106.out)) hb); have n2_ := Aside0.mk (below_step (by repeat (first | (with_reducible first | exact HB.out | apply below_alloc | apply pw_below_drewN | apply below_drew1 | refine below_set ?_ (IsS48.ge HI106.out)) | exact HB.out)) hb); clear HO_29; clear HI106; clear HB; have HO_29 := n0_; have HI106 := n1_; have HB := n2_; clear n0_ n1_ n2_; (try clear hb); (try clear hb2); (try clear hk); (try clear hi)) | ((with_reducible refine gate_callee (f := 25) rfl ?_); refine goesL_ (some 64) rfl rfl Try.func25 (by kernel_rfl) rfl #[.pointer (some ⟨g106, 0, none⟩)] rfl (by (try simp only [List.map_toArray, List.map_cons, List.map_nil]); first | done | rfl | (simp only [List.length_drop, List.length_take]; rfl)) ?_; (with_reducible refine (runes_Checker_Whole.calls g106 t128 t129 t130 t131 t132 t134 t135 t136 t137 t138 t139 w _ ?side1 ?side2 A34.out).mono ?_); (case side1 => repeat (first | (with_reducible first | exact HI106.out | apply IsS48.alloc | apply IsS48.drewN | apply IsS48.drew | apply IsS48.set_0 | apply IsS48.set_1 | apply IsS48.set_2 | apply IsS48.set_3 | apply IsS48.set_4) | exact HI106.out)); (case side2 => repeat (first | (with_reducible first | exact HB.out | apply below_alloc | apply pw_below_drewN | apply below_drew1 | refine below_set ?_ (IsS48.ge HI106.out)) | exact HB.out)); rintro e w37 ⟨rfl, hi, hb, hk⟩; refine ⟨_, rfl, ?_⟩; have n0_ := Aside0.mk (Kd.R_mono (Kd.R_keep (IsS48.apart (show IsS48 w _ g106 t128 t129 t130 t131 t132 from by repeat (first | (with_reducible first | exact HI106.out | apply IsS48.alloc | apply IsS48.drewN | apply IsS48.drew | apply IsS48.set_0 | apply IsS48.set_1 | apply IsS48.set_2 | apply IsS48.set_3 | apply IsS48.set_4) | exact HI106.out)) (by (with_reducible repeat (first | apply Kd.R_alloc | apply Kd.R_drewN | apply Kd.R_drew)); exact HO_29.out) (by decide)) hk (fun _ h => h.2)) (fun _ h => h.1)); have n1_ := Aside0.mk (hb); have n2_ := Aside0.mk (hi); clear HO_29; clear HB; clear HI106; have HO_29 := n0_; have HB := n1_; have HI106 := n2_; clear n0_ n1_ n2_; (try clear hb); (try clear hb2); (try clear hk); (try clear hi)) | ((with_reducible refine gate_dst (N := 65) rfl ?_); (try (refine gate_guard (by rfl) ?_; dsimp only)); refine Kd.R_lit (Kd.int .u8) _ 5 ?hg (N := 65) ?hd (xs := ([] : List Int)) (inner := []) (ok := fun _ => True) (okp := fun _ => True) ?hr ?hp (fun _ hk => hk) trivial (Below.refl _ _) (Nat.le_refl _) (by simp) ?_; (case hd => rfl); (case hg => rfl); (case hr => first | (go_simp; done) | (go_simp; rfl)); (case hp => exact (Reps.none _ _)); intro v141 w38 ho39 hb hg_ hnew_; clear hg_ hnew_; (first | rw [← Ny140.out] at ho39 | (simp only [Int.reduceToNat] at ho39; rw [← Ny140.out] at ho39)); have n0_ := Aside0.mk (Kd.R_below (by (with_reducible repeat (first | apply Kd.R_alloc | apply Kd.R_drewN | apply Kd.R_drew)); exact HO_29.out) hb); have n1_ := Aside0.mk (Kd.R_lower ho39 (below_size (by repeat (first | (with_reducible first | exact HB.out | apply below_alloc | apply pw_below_drewN | apply below_drew1 | refine below_set ?_ (IsS48.ge HI106.out)) | exact HB.out)))); have n2_ := Aside0.mk (IsS48.below (by repeat (first | (with_reducible first | exact HI106.out | apply IsS48.alloc | apply IsS48.drewN | apply IsS48.drew | apply IsS48.set_0 | apply IsS48.set_1 | apply IsS48.set_2 | apply IsS48.set_3 | apply IsS48.set_4) | exact HI106.out)) hb); have n3_ := Aside0.mk (below_step (by repeat (first | (with_reducible first | exact HB.out | apply below_alloc | apply pw_below_drewN | apply below_drew1 | refine below_set ?_ (IsS48.ge HI106.out)) | exact HB.out)) hb); clear HO_29; clear HI106; clear HB; have HO_29 := n0_; have HO142 := n1_; have HI106 := n2_; have HB := n3_; clear n0_ n1_ n2_ n3_; clear hb ho39; obtain ⟨Ao40, co40, eo40⟩ := Kd.R_slice HO142.out; subst eo40) | ((with_reducible refine gate_dst (N := 66) rfl ?_); (try (refine gate_guard (by rfl) ?_; dsimp only)); refine Kd.N_lit (Kd.slice 5 (Kd.int .u8)) _ 27 ?hg (N' := 66) ?hd (xs := ([y140] : List (List Int))) (inner := [.slice Ao40 y140.length co40]) (ok := (fun k_ => some k_ ≠ (.slice Ao11 y116.length co11 : Value).ownBlock ∧ k_ ≠ g106)) (okp := (fun k_ => some k_ ≠ (.slice Ao11 y116.length co11 : Value).ownBlock ∧ k_ ≠ g106)) ?hr ?hp (fun _ hk => hk) ((show ∀ k_, w38.heap.size ≤ k_ → (fun k_ => some k_ ≠ (.slice Ao11 y116.length co11 : Value).ownBlock ∧ k_ ≠ g106) k_ from fun k_ hk => ⟨Kd.fresh' (Kd.R_lt (by (with_reducible repeat (first | apply Kd.R_alloc | apply Kd.R_drewN | apply Kd.R_drew)); exact HO_29.out)) k_ hk, IsS48.fresh (by repeat (first | (with_reducible first | exact HI106.out | apply IsS48.alloc | apply IsS48.drewN | apply IsS48.drew | apply IsS48.set_0 | apply IsS48.set_1 | apply IsS48.set_2 | apply IsS48.set_3 | apply IsS48.set_4) | exact HI106.out)) k_ hk⟩) _ (Nat.le_refl _)) (Below.refl _ _) (Nat.le_refl _) (by simp) ?_; (case hd => rfl); (case hg => rfl); (case hr => first | (go_simp; done) | (go_simp; rfl)); (case hp => exact (Reps.one (show Kd.FK (Kd.slice 5 (Kd.int .u8)) _ _ y140 [.slice Ao40 y140.length co40] from (Kd.FK_slice_mk (Kd.R_reads' (Kd.R_mono (ok' := (fun k_ => some k_ ≠ (.slice Ao11 y116.length co11 : Value).ownBlock ∧ k_ ≠ g106)) (IsS48.apart HI106.out (Kd.R_apart' (HO142.out) (Kd.R_typed HO_29.out) (by decide)) (by decide)) (fun k_ hk => ⟨hk.1.2, hk.2⟩))).2.1 (Kd.R_F (Kd.R_mono (ok' := (fun k_ => some k_ ≠ (.slice Ao11 y116.length co11 : Value).ownBlock ∧ k_ ≠ g106)) (IsS48.apart HI106.out (Kd.R_apart' (HO142.out) (Kd.R_typed HO_29.out) (by decide)) (by decide)) (fun k_ hk => ⟨hk.1.2, hk.2⟩))))) (Reps.none _ _))); intro v144 w41 ho42 hb hg_ hnew_; clear hg_ hnew_; (first | rw [← Ny143.out] at ho42 | (simp only [Int.reduceToNat] at ho42; rw [← Ny143.out] at ho42)); have n0_ := Aside0.mk (Kd.R_below (by (with_reducible repeat (first | apply Kd.R_alloc | apply Kd.R_drewN | apply Kd.R_drew)); exact HO_29.out) hb); have n1_ := Aside0.mk (Kd.N_lower ho42 (below_size (by repeat (first | (with_reducible first | exact HB.out | apply below_alloc | apply pw_below_drewN | apply below_drew1 | refine below_set ?_ (IsS48.ge HI106.out)) | exact HB.out)))); have n2_ := Aside0.mk (IsS48.below (by repeat (first | (with_reducible first | exact HI106.out | apply IsS48.alloc | apply IsS48.drewN | apply IsS48.drew | apply IsS48.set_0 | apply IsS48.set_1 | apply IsS48.set_2 | apply IsS48.set_3 | apply IsS48.set_4) | exact HI106.out)) hb); have n3_ := Aside0.mk (below_step (by repeat (first | (with_reducible first | exact HB.out | apply below_alloc | apply pw_below_drewN | apply below_drew1 | refine below_set ?_ (IsS48.ge HI106.out)) | exact HB.out)) hb); clear HO_29; clear HI106; clear HB; clear HO142; have HO_29 := n0_; have HO145 := n1_; have HI106 := n2_; have HB := n3_; clear n0_ n1_ n2_ n3_; clear hb ho42))
            go_loopg [12, 13, 67] k1 (fun kq v12 v13 v67 w' => ∃ (x12_2 : Bool) (x13_2 : List (List Int)) (x67_2 : Int), v12 = .bool x12_2 ∧ v67 = .int .i64 x67_2 ∧ Aside0 (posthornlaw05_RunesCut.l1 kq l0 x7_1 x12_2 x13_2 x67_2 = some r) ∧ Aside0 (kq ≤ k1) ∧ Aside0 (Kd.N (Kd.slice 5 (Kd.int .u8)) 27 w' w.heap.size (fun _ => True) v13 x13_2) ∧ Aside0 (Below w.heap.size w w'))
            case atStart => exact ⟨(t134), (y143), (0), (by first | rfl | (simp; done) | (simp [*]; done)), (by first | rfl | (simp; done) | (simp [*]; done)), H', ⟨Nat.le_refl _⟩, ⟨by (with_reducible repeat (first | apply Kd.N_alloc | apply Kd.N_drewN | apply Kd.N_drew)); exact Kd.N_mono HO145.out (fun _ hk => trivial)⟩, ⟨by repeat (first | (with_reducible first | exact HB.out | apply below_alloc | apply pw_below_drewN | apply below_drew1 | refine below_set ?_ (IsS48.ge HI106.out)) | exact HB.out)⟩⟩
            case round =>
              clear H'
              try clear c1
              try clear p1
              try clear q1
              try clear hx1
              try clear c2
              try clear p2
              try clear c3
              try clear c6
              try clear p6
              try clear c10
              try clear p11
              try clear q11
              try clear hx11
              try clear c12
              try clear c12b0
              try clear c13
              try clear c13b0
              try clear c14
              try clear c14b0
              try clear c17
              try clear c17b0
              try clear c17b1
              try clear c18
              try clear c18b0
              try clear c18b1
              try clear c19
              try clear c19b0
              try clear c19b1
              try clear c21
              try clear c22
              try clear c23
              try clear c25
              try clear c31
              try clear c31b0
              try clear c31b1
              try clear c31b2
              try clear c32
              try clear hx119_0
              try clear p119
              try clear p2
              try clear q119
              obtain ⟨x12_2, x13_2, x67_2, rfl, rfl, HA, HK2, HO_13, HB⟩ := hrel
              cases gk with
              | zero => exact absurd HA.out (by simp [posthornlaw05_RunesCut.l1])
              | succ k2 =>
                have H := HA.out
                clear HA
                simp only [posthornlaw05_RunesCut.l1] at H
                by_cases c43 : x67_2 < 3
                · rw [if_pos c43] at H
                  have c43b0 : decide (x67_2 < 3) = true := decide_eq_true c43
                  clear c43
                  have H' := Aside0.mk H
                  clear H
                  obtain ⟨Ao44, co44, eo44⟩ := Kd.N_slice HO_13.out
                  subst eo44
                  go_wp2
                  go_loopg [12, 14, 71] k2 (fun kq v12 v14 v71 w' => ∃ (x12_3 : Bool) (x14_3 : List (List Int)) (x71_3 : Int), v12 = .bool x12_3 ∧ v71 = .int .i64 x71_3 ∧ Aside0 (posthornlaw05_RunesCut.l2 kq l0 x7_1 x12_3 x14_3 x67_2 x13_2 (x13_2.length : Int) x71_3 = some r) ∧ Aside0 (kq ≤ k2) ∧ Aside0 (Kd.N (Kd.slice 5 (Kd.int .u8)) 27 w' w.heap.size (fun k_ => some k_ ≠ ((.slice Ao44 x13_2.length co44) : Value).ownBlock) v14 x14_3) ∧ Aside0 (Kd.N (Kd.slice 5 (Kd.int .u8)) 27 w' w.heap.size (fun k_ => some k_ ≠ (v14 : Value).ownBlock) (.slice Ao44 x13_2.length co44) x13_2) ∧ Aside0 (Below w.heap.size w w'))
                  case atStart => exact ⟨(x12_2), (([] : List (List Int))), (0), (by first | rfl | (simp; done) | (simp [*]; done)), (by first | rfl | (simp; done) | (simp [*]; done)), H', ⟨Nat.le_refl _⟩, ⟨by first | exact Kd.S_nil _ _ _ _ _ | exact Kd.N_nil _ _ _ _ _ | exact Kd.V_nil _ _ _ _ _ | exact Kd.Q_nil _ _ _ _ _ | exact Kd.R_nil _ _ _ _ _⟩, ⟨by (with_reducible repeat (first | apply Kd.N_alloc | apply Kd.N_drewN | apply Kd.N_drew)); exact Kd.N_mono HO_13.out (fun _ hk => (by simp [Value.ownBlock]))⟩, ⟨by repeat (first | (with_reducible first | exact HB.out | apply below_alloc | apply pw_below_drewN | apply below_drew1) | exact HB.out)⟩⟩
                  case round =>
                    clear H'
                    try clear c1
                    try clear p1
                    try clear q1
                    try clear hx1
                    try clear c2
                    try clear p2
                    try clear c3
                    try clear c4
                    try clear c6
                    try clear p6
                    try clear c10
                    try clear p11
                    try clear q11
                    try clear hx11
                    try clear c12
                    try clear c12b0
                    try clear c13
                    try clear c13b0
                    try clear c14
                    try clear c14b0
                    try clear c17
                    try clear c17b0
                    try clear c17b1
                    try clear c18
                    try clear c18b0
                    try clear c18b1
                    try clear c19
                    try clear c19b0
                    try clear c19b1
                    try clear c21
                    try clear c22
                    try clear c23
                    try clear c25
                    try clear c31
                    try clear c31b0
                    try clear c31b1
                    try clear c31b2
                    try clear c32
                    try clear c43
                    try clear c43b0
                    try clear hx119_0
                    try clear p1
                    try clear p11
                    try clear p119
                    try clear p2
                    try clear p6
                    try clear q1
                    try clear q11
                    try clear q119
                    obtain ⟨x12_3, x14_3, x71_3, rfl, rfl, HA, HK3, HO_14, HO_69, HB⟩ := hrel
                    cases gk with
                    | zero => exact absurd HA.out (by simp [posthornlaw05_RunesCut.l2])
                    | succ k3 =>
                      have H := HA.out
                      clear HA
                      simp only [posthornlaw05_RunesCut.l2] at H
                      by_cases c45 : x71_3 < (x13_2.length : Int)
                      · rw [if_pos c45] at H
                        have c45b0 : decide (x71_3 < (x13_2.length : Int)) = true := decide_eq_true c45
                        clear c45
                        by_cases c46 : 0 ≤ x71_3
                        · rw [if_pos c46] at H
                          have c46b0 : decide (0 ≤ x71_3) = true := decide_eq_true c46
                          clear c46
                          by_cases c47 : x71_3 < (x13_2.length : Int)
                          · rw [if_pos c47] at H
                            have c47b0 : decide (x71_3 < (x13_2.length : Int)) = true := decide_eq_true c47
                            clear c47
                            obtain ⟨y148, hy148⟩ : ∃ y_ : List Int, y_ = (([128, 144, 160, 191] : List Int)) := ⟨_, rfl⟩
                            replace H : (posthornlaw05_RunesCut.l3 k3 l0 x7_1 x12_3 x14_3 (rd_L1 x13_2 x71_3) x67_2 x13_2 (x13_2.length : Int) x71_3 y148 (y148.length : Int) 0) = some r := by first | (rw [hy148]; with_reducible exact H) | (have H2_ := (Option.bind_some _ _).symm.trans H; rw [hy148]; with_reducible exact H2_) | (have H2_ := (Option.bind_some _ _).symm.trans H; with_reducible exact H2_) | with_reducible exact H | (rw [hy148]; exact H) | exact H
                            have Ny148 := Aside0.mk hy148
                            clear hy148
                            have H' := Aside0.mk H
                            clear H
                            have p147 : 0 ≤ (x71_3 : Int) := of_decide_eq_true (by first | (with_reducible assumption) | assumption)
                            have q147 : x71_3 < (x13_2.length : Int) := of_decide_eq_true (by first | (with_reducible assumption) | assumption)
                            obtain ⟨ad147, A147_0, c147_0, e147, hx147_0, hl147_0, hi147_0⟩ := at_L1 (Kd.N_reads' HO_69.out).2.2 x71_3 p147 q147
                            cases e147
                            obtain ⟨ce147, hce147, hMe147, hcc147⟩ := Kd.N_get HO_69.out [] x71_3 p147 (by first | exact q147 | exact of_decide_eq_true (by first | (with_reducible assumption) | assumption) | (have e_ := (Kd.N_reads' HO_69.out).1; omega))
                            obtain ⟨ua147_0, uc147_0, rfl, ul147_0, ge147_0⟩ := Kd.FK_slice_open hMe147
                            have hv147_0 := hcc147 0 _ rfl
                            rw [Nat.add_zero, show ((Kd.slice 5 (Kd.int .u8))).sz = 1 from rfl, Nat.mul_one] at hv147_0
                            replace hv147_0 := Option.some.inj (hv147_0.symm.trans hx147_0)
                            injection hv147_0 with hva_ hvn_ hvc_
                            rw [hva_] at ge147_0
                            rw [hvc_] at ul147_0
                            have HL147_0 := Aside0.mk (show Kd.V (Kd.int .u8) 5 _ w.heap.size _ _ (rd_L1 x13_2 x71_3) from Kd.V_mk ul147_0 ge147_0)
                            clear hva_ hvn_ hvc_ ge147_0 ul147_0
                            clear hcc147 hce147
                            have HR147_0 := Aside0.mk hi147_0
                            have HC147_0 := Aside0.mk hl147_0
                            clear hi147_0 hl147_0
                            replace p147 := eq_true p147
                            replace q147 := eq_true q147
                            go_wp2_with (first | ((with_reducible refine gate_dst (N := 75) rfl ?_); (try (refine gate_guard (by rfl) ?_; dsimp only)); refine Kd.R_lit (Kd.int .u8) _ 5 ?hg (N := 75) ?hd (xs := ([128, 144, 160, 191] : List Int)) (inner := [.int .u8 128, .int .u8 144, .int .u8 160, .int .u8 191]) (ok := fun _ => True) (okp := fun _ => True) ?hr ?hp (fun _ hk => hk) trivial (Below.refl _ _) (Nat.le_refl _) (by simp) ?_; (case hd => rfl); (case hg => rfl); (case hr => first | (go_simp; done) | (go_simp; rfl)); (case hp => exact (Reps.one (show Kd.M (Kd.int .u8) _ _ _ 128 [.int .u8 128] from rfl) (Reps.one (show Kd.M (Kd.int .u8) _ _ _ 144 [.int .u8 144] from rfl) (Reps.one (show Kd.M (Kd.int .u8) _ _ _ 160 [.int .u8 160] from rfl) (Reps.one (show Kd.M (Kd.int .u8) _ _ _ 191 [.int .u8 191] from rfl) (Reps.none _ _)))))); intro v149 w48 ho49 hb hg_ hnew_; clear hg_ hnew_; (first | rw [← Ny148.out] at ho49 | (simp only [Int.reduceToNat] at ho49; rw [← Ny148.out] at ho49)); have n0_ := Aside0.mk (Kd.N_elder' (by (with_reducible repeat (first | apply Kd.N_alloc | apply Kd.N_drewN | apply Kd.N_drew)); exact HO_14.out) (Kd.R_base ho49) hb); have n1_ := Aside0.mk (Kd.N_elder' (by (with_reducible repeat (first | apply Kd.N_alloc | apply Kd.N_drewN | apply Kd.N_drew)); exact HO_69.out) (Kd.R_base ho49) hb); have n2_ := Aside0.mk (Kd.V_elder' (by (with_reducible repeat (first | apply Kd.V_alloc | apply Kd.V_drewN | apply Kd.V_drew)); exact HL147_0.out) (Kd.R_base ho49) hb); have n3_ := Aside0.mk (Kd.R_lower ho49 (below_size (by repeat (first | (with_reducible first | exact HB.out | apply below_alloc | apply pw_below_drewN | apply below_drew1) | exact HB.out)))); have n4_ := Aside0.mk (Kd.C_below (by repeat (first | (with_reducible exact HR147_0.out) | (with_reducible refine Kd.C_alloc ?_ _) | (with_reducible refine Kd.C_drewN ?_ _) | (with_reducible refine Kd.C_drew ?_) | exact HR147_0.out)) hb); have n5_ := Aside0.mk (below_step (by repeat (first | (with_reducible first | exact HB.out | apply below_alloc | apply pw_below_drewN | apply below_drew1) | exact HB.out)) hb); clear HO_14; clear HO_69; clear HL147_0; clear HR147_0; clear HB; have HO_14 := n0_; have HO_69 := n1_; have HL147_0 := n2_; have HO150 := n3_; have HR147_0 := n4_; have HB := n5_; clear n0_ n1_ n2_ n3_ n4_ n5_; clear hb ho49; obtain ⟨Ao50, co50, eo50⟩ := Kd.R_slice HO150.out; subst eo50))
                            go_loopg [12, 14, 77] k3 (fun kq v12 v14 v77 w' => ∃ (x12_4 : Bool) (x14_4 : List (List Int)) (x77_4 : Int), v12 = .bool x12_4 ∧ v77 = .int .i64 x77_4 ∧ Aside0 (posthornlaw05_RunesCut.l3 kq l0 x7_1 x12_4 x14_4 (rd_L1 x13_2 x71_3) x67_2 x13_2 (x13_2.length : Int) x71_3 y148 (y148.length : Int) x77_4 = some r) ∧ Aside0 (kq ≤ k3) ∧ Aside0 (Kd.N (Kd.slice 5 (Kd.int .u8)) 27 w' w.heap.size (fun k_ => some k_ ≠ ((.slice (some ad147) x13_2.length co44) : Value).ownBlock ∧ some k_ ≠ ((.slice Ao50 y148.length co50) : Value).ownBlock) v14 x14_4) ∧ Aside0 (Kd.N (Kd.slice 5 (Kd.int .u8)) 27 w' w.heap.size (fun k_ => some k_ ≠ (v14 : Value).ownBlock ∧ some k_ ≠ ((.slice Ao50 y148.length co50) : Value).ownBlock) (.slice (some ad147) x13_2.length co44) x13_2) ∧ Aside0 (Kd.V (Kd.int .u8) 5 w' w.heap.size (fun k_ => some k_ ≠ (v14 : Value).ownBlock ∧ some k_ ≠ ((.slice Ao50 y148.length co50) : Value).ownBlock) (.slice A147_0 (rd_L1 x13_2 x71_3).length c147_0) (rd_L1 x13_2 x71_3)) ∧ Aside0 (Kd.R (Kd.int .u8) 5 w' w.heap.size (fun _ => True) (.slice Ao50 y148.length co50) y148) ∧ Aside0 (Below w.heap.size w w'))
                            case atStart => exact ⟨(x12_3), (x14_3), (0), (by first | rfl | (simp; done) | (simp [*]; done)), (by first | rfl | (simp; done) | (simp [*]; done)), H', ⟨Nat.le_refl _⟩, ⟨by (with_reducible repeat (first | apply Kd.N_alloc | apply Kd.N_drewN | apply Kd.N_drew)); exact HO_14.out⟩, ⟨by (with_reducible repeat (first | apply Kd.N_alloc | apply Kd.N_drewN | apply Kd.N_drew)); exact HO_69.out⟩, ⟨by (with_reducible repeat (first | apply Kd.V_alloc | apply Kd.V_drewN | apply Kd.V_drew)); exact Kd.V_mono HL147_0.out (fun _ hk => ⟨hk.1.1, hk.2⟩)⟩, ⟨by (with_reducible repeat (first | apply Kd.R_alloc | apply Kd.R_drewN | apply Kd.R_drew)); exact HO150.out⟩, ⟨by repeat (first | (with_reducible first | exact HB.out | apply below_alloc | apply pw_below_drewN | apply below_drew1) | exact HB.out)⟩⟩
                            case round =>
                              clear H'
                              try clear c1
                              try clear p1
                              try clear q1
                              try clear hx1
                              try clear c2
                              try clear p2
                              try clear c3
                              try clear c4
                              try clear c6
                              try clear p6
                              try clear c10
                              try clear p11
                              try clear q11
                              try clear hx11
                              try clear c12
                              try clear c12b0
                              try clear c13
                              try clear c13b0
                              try clear c14
                              try clear c14b0
                              try clear p14
                              try clear q14
                              try clear hx14
                              try clear c17
                              try clear c17b0
                              try clear c17b1
                              try clear c18
                              try clear c18b0
                              try clear c18b1
                              try clear c19
                              try clear c19b0
                              try clear c19b1
                              try clear c21
                              try clear c22
                              try clear c23
                              try clear c25
                              try clear c31
                              try clear c31b0
                              try clear c31b1
                              try clear c31b2
                              try clear c32
                              try clear c43
                              try clear c43b0
                              try clear c45
                              try clear c45b0
                              try clear c46
                              try clear c46b0
                              try clear c47
                              try clear c47b0
                              try clear hx119_0
                              try clear hx147_0
                              try clear p1
                              try clear p11
                              try clear p119
                              try clear p147
                              try clear p2
                              try clear p6
                              try clear q1
                              try clear q11
                              try clear q119
                              try clear q147
                              obtain ⟨x12_4, x14_4, x77_4, rfl, rfl, HA, HK4, HO_14, HO_69, HL147_0, HO_75, HB⟩ := hrel
                              cases gk with
                              | zero => exact absurd HA.out (by simp [posthornlaw05_RunesCut.l3])
                              | succ k4 =>
                                have H := HA.out
                                clear HA
                                simp only [posthornlaw05_RunesCut.l3] at H
                                by_cases c51 : x77_4 < (y148.length : Int)
                                · rw [if_pos c51] at H
                                  have c51b0 : decide (x77_4 < (y148.length : Int)) = true := decide_eq_true c51
                                  clear c51
                                  by_cases c52 : 0 ≤ x77_4
                                  · rw [if_pos c52] at H
                                    have c52b0 : decide (0 ≤ x77_4) = true := decide_eq_true c52
                                    clear c52
                                    by_cases c53 : x77_4 < (y148.length : Int)
                                    · rw [if_pos c53] at H
                                      have c53b0 : decide (x77_4 < (y148.length : Int)) = true := decide_eq_true c53
                                      clear c53
                                      replace H := Option.bind_eq_some_iff.mp H
                                      obtain ⟨t152, A540, H⟩ := H
                                      replace H : (if t152.length < 140737488355328 then ((some (t152 ++ [rd y148 x77_4] : List Int)).bind fun y155 => ((slices_Clone_byte_byte.f l0).bind fun t158 => (if t158.length + y155.length < 140737488355328 then ((some (t158 ++ y155 : List Int)).bind fun y161 => (if x12_4 = true then (if x14_4.length < 5864062014805 then (posthornlaw05_RunesCut.l3 k4 l0 x7_1 true (x14_4 ++ [y155]) (rd_L1 x13_2 x71_3) x67_2 x13_2 (x13_2.length : Int) x71_3 y148 (y148.length : Int) (wrap64 (x77_4 + 1))) else (none)) else ((runes_Bad_byte.f k4 y161).bind fun t167 => (if x14_4.length < 5864062014805 then (posthornlaw05_RunesCut.l3 k4 l0 x7_1 (t167 == (y161.length : Int)) (x14_4 ++ [y155]) (rd_L1 x13_2 x71_3) x67_2 x13_2 (x13_2.length : Int) x71_3 y148 (y148.length : Int) (wrap64 (x77_4 + 1))) else (none))))) else (none)))) else (none)) = some r := H
                                      have A54 := Aside0.mk A540
                                      clear A540
                                      by_cases c55 : t152.length < 140737488355328
                                      · rw [if_pos c55] at H
                                        have LMc55 := Aside0.mk c55
                                        clear c55
                                        obtain ⟨y155, hy155⟩ : ∃ y_ : List Int, y_ = (t152 ++ [rd y148 x77_4]) := ⟨_, rfl⟩
                                        replace H : ((slices_Clone_byte_byte.f l0).bind fun t158 => (if t158.length + y155.length < 140737488355328 then ((some (t158 ++ y155 : List Int)).bind fun y161 => (if x12_4 = true then (if x14_4.length < 5864062014805 then (posthornlaw05_RunesCut.l3 k4 l0 x7_1 true (x14_4 ++ [y155]) (rd_L1 x13_2 x71_3) x67_2 x13_2 (x13_2.length : Int) x71_3 y148 (y148.length : Int) (wrap64 (x77_4 + 1))) else (none)) else ((runes_Bad_byte.f k4 y161).bind fun t167 => (if x14_4.length < 5864062014805 then (posthornlaw05_RunesCut.l3 k4 l0 x7_1 (t167 == (y161.length : Int)) (x14_4 ++ [y155]) (rd_L1 x13_2 x71_3) x67_2 x13_2 (x13_2.length : Int) x71_3 y148 (y148.length : Int) (wrap64 (x77_4 + 1))) else (none))))) else (none))) = some r := by first | (rw [hy155]; with_reducible exact H) | (have H2_ := (Option.bind_some _ _).symm.trans H; rw [hy155]; with_reducible exact H2_) | (have H2_ := (Option.bind_some _ _).symm.trans H; with_reducible exact H2_) | with_reducible exact H | (rw [hy155]; exact H) | exact H
                                        have Ny155 := Aside0.mk hy155
                                        clear hy155
                                        replace H := Option.bind_eq_some_iff.mp H
                                        obtain ⟨t158, A560, H⟩ := H
                                        replace H : (if t158.length + y155.length < 140737488355328 then ((some (t158 ++ y155 : List Int)).bind fun y161 => (if x12_4 = true then (if x14_4.length < 5864062014805 then (posthornlaw05_RunesCut.l3 k4 l0 x7_1 true (x14_4 ++ [y155]) (rd_L1 x13_2 x71_3) x67_2 x13_2 (x13_2.length : Int) x71_3 y148 (y148.length : Int) (wrap64 (x77_4 + 1))) else (none)) else ((runes_Bad_byte.f k4 y161).bind fun t167 => (if x14_4.length < 5864062014805 then (posthornlaw05_RunesCut.l3 k4 l0 x7_1 (t167 == (y161.length : Int)) (x14_4 ++ [y155]) (rd_L1 x13_2 x71_3) x67_2 x13_2 (x13_2.length : Int) x71_3 y148 (y148.length : Int) (wrap64 (x77_4 + 1))) else (none))))) else (none)) = some r := H
                                        have A56 := Aside0.mk A560
                                        clear A560
                                        by_cases c57 : t158.length + y155.length < 140737488355328
                                        · rw [if_pos c57] at H
                                          have LMc57 := Aside0.mk c57
                                          clear c57
                                          obtain ⟨y161, hy161⟩ : ∃ y_ : List Int, y_ = (t158 ++ y155) := ⟨_, rfl⟩
                                          replace H : (if x12_4 = true then (if x14_4.length < 5864062014805 then (posthornlaw05_RunesCut.l3 k4 l0 x7_1 true (x14_4 ++ [y155]) (rd_L1 x13_2 x71_3) x67_2 x13_2 (x13_2.length : Int) x71_3 y148 (y148.length : Int) (wrap64 (x77_4 + 1))) else (none)) else ((runes_Bad_byte.f k4 y161).bind fun t167 => (if x14_4.length < 5864062014805 then (posthornlaw05_RunesCut.l3 k4 l0 x7_1 (t167 == (y161.length : Int)) (x14_4 ++ [y155]) (rd_L1 x13_2 x71_3) x67_2 x13_2 (x13_2.length : Int) x71_3 y148 (y148.length : Int) (wrap64 (x77_4 + 1))) else (none)))) = some r := by first | (rw [hy161]; with_reducible exact H) | (have H2_ := (Option.bind_some _ _).symm.trans H; rw [hy161]; with_reducible exact H2_) | (have H2_ := (Option.bind_some _ _).symm.trans H; with_reducible exact H2_) | with_reducible exact H | (rw [hy161]; exact H) | exact H
                                          have Ny161 := Aside0.mk hy161
                                          clear hy161
                                          by_cases c58 : x12_4 = true
                                          · subst c58
                                            have H1 : (if x14_4.length < 5864062014805 then (posthornlaw05_RunesCut.l3 k4 l0 x7_1 true (x14_4 ++ [y155]) (rd_L1 x13_2 x71_3) x67_2 x13_2 (x13_2.length : Int) x71_3 y148 (y148.length : Int) (wrap64 (x77_4 + 1))) else (none)) = some r := by rw [if_pos rfl] at H; exact H
                                            clear H
                                            have H := H1
                                            clear H1
                                            by_cases c59 : x14_4.length < 5864062014805
                                            · rw [if_pos c59] at H
                                              have LMc59 := Aside0.mk c59
                                              clear c59
                                              obtain ⟨y164, hy164⟩ : ∃ y_ : List (List Int), y_ = (x14_4 ++ [y155]) := ⟨_, rfl⟩
                                              replace H : (posthornlaw05_RunesCut.l3 k4 l0 x7_1 true y164 (rd_L1 x13_2 x71_3) x67_2 x13_2 (x13_2.length : Int) x71_3 y148 (y148.length : Int) (wrap64 (x77_4 + 1))) = some r := by first | (rw [hy164]; with_reducible exact H) | (have H2_ := (Option.bind_some _ _).symm.trans H; rw [hy164]; with_reducible exact H2_) | (have H2_ := (Option.bind_some _ _).symm.trans H; with_reducible exact H2_) | with_reducible exact H | (rw [hy164]; exact H) | exact H
                                              have Ny164 := Aside0.mk hy164
                                              clear hy164
                                              have H' := Aside0.mk H
                                              clear H
                                              have p151 : 0 ≤ (x77_4 : Int) := of_decide_eq_true (by first | (with_reducible assumption) | assumption)
                                              have q151 : x77_4 < (y148.length : Int) := of_decide_eq_true (by first | (with_reducible assumption) | assumption)
                                              obtain ⟨ad151, e151, hx151_0⟩ := Kd.at_int (Kd.R_reads' HO_75.out).2.2 x77_4 p151 q151
                                              cases e151
                                              replace p151 := eq_true p151
                                              replace q151 := eq_true q151
                                              go_wp2_with (first | ((with_reducible refine gate_callee (f := 33) rfl ?_); refine goesL_ (some 82) rfl rfl Try.func33 (by kernel_rfl) rfl #[.slice A147_0 (rd_L1 x13_2 x71_3).length c147_0] rfl (by (try simp only [List.map_toArray, List.map_cons, List.map_nil]); first | done | rfl | (simp only [List.length_drop, List.length_take]; rfl)) ?_; (with_reducible refine (slices_Clone_byte_byte.calls _ _ (rd_L1 x13_2 x71_3) t152 _ ?side1 ?side2 A54.out).mono ?_); (case side1 => repeat (first | exact (Kd.V_reads' HL147_0.out).2.2 | (with_reducible refine Kd.C_alloc ?_ _) | (with_reducible refine Kd.C_drewN ?_ _) | (with_reducible refine Kd.C_drew ?_))); (case side2 => exact HC147_0.out); rintro e w60 ⟨v153, rfl, ho0, hb⟩; refine ⟨_, rfl, ?_⟩; have n0_ := Aside0.mk (Kd.N_elder' (by (with_reducible repeat (first | apply Kd.N_alloc | apply Kd.N_drewN | apply Kd.N_drew)); exact HO_14.out) (Kd.R_base ho0) hb); have n1_ := Aside0.mk (Kd.N_elder' (by (with_reducible repeat (first | apply Kd.N_alloc | apply Kd.N_drewN | apply Kd.N_drew)); exact HO_69.out) (Kd.R_base ho0) hb); have vn1_ := Aside0.mk (Kd.V_elder' (by (with_reducible repeat (first | apply Kd.V_alloc | apply Kd.V_drewN | apply Kd.V_drew)); exact HL147_0.out) (Kd.R_base ho0) hb); have n2_ := Aside0.mk (Kd.R_elder' (by (with_reducible repeat (first | apply Kd.R_alloc | apply Kd.R_drewN | apply Kd.R_drew)); exact HO_75.out) (Kd.R_base ho0) hb); have n3_ := Aside0.mk (Kd.R_lower (Kd.R_new' ho0 (Kd.R_lt (by (with_reducible repeat (first | apply Kd.R_alloc | apply Kd.R_drewN | apply Kd.R_drew)); exact HO_75.out))) (below_size (by repeat (first | (with_reducible first | exact HB.out | apply below_alloc | apply pw_below_drewN | apply below_drew1) | exact HB.out)))); have n4_ := Aside0.mk (below_step (by repeat (first | (with_reducible first | exact HB.out | apply below_alloc | apply pw_below_drewN | apply below_drew1) | exact HB.out)) hb); clear HO_14; clear HO_69; clear HL147_0; clear HO_75; clear HB; have HO_14 := n0_; have HO_69 := n1_; have HL147_0 := vn1_; have HO_75 := n2_; have HO154 := n3_; have HB := n4_; clear vn1_ n0_ n1_ n2_ n3_ n4_; (try clear hb); (try clear hb2); (try clear hk); (try clear hi); (try clear ho0)) | ((with_reducible refine gate_builtin (b := .append) (xs := #[.tmp 82, .tmp 84]) rfl ?_); (try (refine gate_guard (by rfl) ?_; dsimp only)); at_builtin; refine Kd.R_append (Kd.int .u8) (w0 := w) w.heap.size rfl (.tmp 82) (.tmp 84) 27 5 (.int .u8 0) 1 rfl Try.underlying27 info5 rfl (by decide) (by omega) v153 t152 (rd y148 x77_4) [.int .u8 (rd y148 x77_4)] (fun k_ => some k_ ≠ (.slice (some ad151) y148.length co50 : Value).ownBlock) (fun _ => False) rfl rfl ?aP (fun _ hk => hk.elim) ?aF ?aO ?aB ?aS ?aL ?_; (case aP => exact rfl); (case aB => exact (by repeat (first | (with_reducible first | exact HB.out | apply below_alloc | apply pw_below_drewN | apply below_drew1) | exact HB.out))); (case aF => exact (fun k_ hk => Kd.fresh' (Kd.R_lt (by (with_reducible repeat (first | apply Kd.R_alloc | apply Kd.R_drewN | apply Kd.R_drew)); exact HO_75.out)) k_ hk)); (case aO => exact (by (with_reducible repeat (first | apply Kd.R_alloc | apply Kd.R_drewN | apply Kd.R_drew)); exact Kd.R_mono HO154.out (fun _ hk => hk.2))); (case aS => exact (below_size (by repeat (first | (with_reducible first | exact HB.out | apply below_alloc | apply pw_below_drewN | apply below_drew1) | exact HB.out)))); (case aL => have := LMc55.out; omega); intro v156 w61 ho hb hg hat; rw [← Ny155.out] at ho; have n0_ := Aside0.mk (Kd.N_afterv (ok := (fun k_ => some k_ ≠ (.slice (some ad147) x13_2.length co44 : Value).ownBlock ∧ some k_ ≠ (.slice (some ad151) y148.length co50 : Value).ownBlock)) (by (with_reducible repeat (first | apply Kd.N_alloc | apply Kd.N_drewN | apply Kd.N_drew)); exact HO_14.out) hg hat); have n1_ := Aside0.mk (Kd.N_afterv (ok := (fun k_ => some k_ ≠ (u14 : Value).ownBlock ∧ some k_ ≠ (.slice (some ad151) y148.length co50 : Value).ownBlock)) (by (with_reducible repeat (first | apply Kd.N_alloc | apply Kd.N_drewN | apply Kd.N_drew)); exact HO_69.out) hg hat); have vn1_ := Aside0.mk (Kd.V_afterv (ok := (fun k_ => some k_ ≠ (u14 : Value).ownBlock ∧ some k_ ≠ (.slice (some ad151) y148.length co50 : Value).ownBlock)) (by (with_reducible repeat (first | apply Kd.V_alloc | apply Kd.V_drewN | apply Kd.V_drew)); exact HL147_0.out) hg hat); have n2_ := Aside0.mk (Kd.R_after (ok := (fun _ => True)) (by (with_reducible repeat (first | apply Kd.R_alloc | apply Kd.R_drewN | apply Kd.R_drew)); exact HO_75.out) hg hat); have n3_ := Aside0.mk (hb); have n4_ := Aside0.mk (ho); clear HO_14; clear HO_69; clear HL147_0; clear HO_75; clear HB; clear HO154; have HO_14 := n0_; have HO_69 := n1_; have HL147_0 := vn1_; have HO_75 := n2_; have HB := n3_; have HO157 := n4_; clear vn1_ n0_ n1_ n2_ n3_ n4_; clear ho hb hg hat) | ((with_reducible refine gate_callee (f := 33) rfl ?_); refine goesL_ (some 87) rfl rfl Try.func33 (by kernel_rfl) rfl #[.slice A0 l0.length c0] rfl (by (try simp only [List.map_toArray, List.map_cons, List.map_nil]); first | done | rfl | (simp only [List.length_drop, List.length_take]; rfl)) ?_; (with_reducible refine (slices_Clone_byte_byte.calls _ _ l0 t158 _ ?side1 ?side2 A56.out).mono ?_); (case side1 => repeat (first | exact (Kd.C_below HR0.out HB.out) | (with_reducible refine Kd.C_alloc ?_ _) | (with_reducible refine Kd.C_drewN ?_ _) | (with_reducible refine Kd.C_drew ?_))); (case side2 => exact HC0.out); rintro e w62 ⟨v159, rfl, ho0, hb⟩; refine ⟨_, rfl, ?_⟩; have n0_ := Aside0.mk (Kd.N_elder' (by (with_reducible repeat (first | apply Kd.N_alloc | apply Kd.N_drewN | apply Kd.N_drew)); exact HO_14.out) (Kd.R_base ho0) hb); have n1_ := Aside0.mk (Kd.N_elder' (by (with_reducible repeat (first | apply Kd.N_alloc | apply Kd.N_drewN | apply Kd.N_drew)); exact HO_69.out) (Kd.R_base ho0) hb); have vn1_ := Aside0.mk (Kd.V_elder' (by (with_reducible repeat (first | apply Kd.V_alloc | apply Kd.V_drewN | apply Kd.V_drew)); exact HL147_0.out) (Kd.R_base ho0) hb); have n2_ := Aside0.mk (Kd.R_elder' (by (with_reducible repeat (first | apply Kd.R_alloc | apply Kd.R_drewN | apply Kd.R_drew)); exact HO_75.out) (Kd.R_base ho0) hb); have n3_ := Aside0.mk (Kd.R_elder' (by (with_reducible repeat (first | apply Kd.R_alloc | apply Kd.R_drewN | apply Kd.R_drew)); exact HO157.out) (Kd.R_base ho0) hb); have n4_ := Aside0.mk (Kd.R_lower (Kd.R_new' (Kd.R_new' ho0 (Kd.R_lt (by (with_reducible repeat (first | apply Kd.R_alloc | apply Kd.R_drewN | apply Kd.R_drew)); exact HO_75.out))) (Kd.R_lt (by (with_reducible repeat (first | apply Kd.R_alloc | apply Kd.R_drewN | apply Kd.R_drew)); exact HO157.out))) (below_size (by repeat (first | (with_reducible first | exact HB.out | apply below_alloc | apply pw_below_drewN | apply below_drew1) | exact HB.out)))); have n5_ := Aside0.mk (below_step (by repeat (first | (with_reducible first | exact HB.out | apply below_alloc | apply pw_below_drewN | apply below_drew1) | exact HB.out)) hb); clear HO_14; clear HO_69; clear HL147_0; clear HO_75; clear HO157; clear HB; have HO_14 := n0_; have HO_69 := n1_; have HL147_0 := vn1_; have HO_75 := n2_; have HO157 := n3_; have HO160 := n4_; have HB := n5_; clear vn1_ n0_ n1_ n2_ n3_ n4_ n5_; (try clear hb); (try clear hb2); (try clear hk); (try clear hi); (try clear ho0); obtain ⟨Ao64, co64, eo64⟩ := Kd.R_slice HO157.out; subst eo64) | ((with_reducible refine gate_builtin (b := .append) (xs := #[.tmp 87, .tmp 88]) rfl ?_); (try (refine gate_guard (by rfl) ?_; dsimp only)); at_builtin; refine Kd.R_append_rows (Kd.int .u8) (w0 := w) w.heap.size rfl (.tmp 87) (.tmp 88) 27 5 (.int .u8 0) 1 rfl Try.underlying27 info5 rfl (by decide) (by omega) v159 t158 y155 _ _ _ (fun k_ => some k_ ≠ (.slice (some ad151) y148.length co50 : Value).ownBlock ∧ some k_ ≠ (.slice Ao64 y155.length co64 : Value).ownBlock) (fun _ => False) rfl rfl ?aO ?aR (fun _ _ h => h) (fun _ h => h.elim) ?aF ?aB ?aS ?aL ?_; (case aR => repeat (first | exact (Kd.R_reads' HO157.out).2.2 | (with_reducible refine Kd.C_alloc ?_ _) | (with_reducible refine Kd.C_drewN ?_ _) | (with_reducible refine Kd.C_drew ?_))); (case aB => exact (by repeat (first | (with_reducible first | exact HB.out | apply below_alloc | apply pw_below_drewN | apply below_drew1) | exact HB.out))); (case aF => exact (fun k_ hk => ⟨Kd.fresh' (Kd.R_lt (by (with_reducible repeat (first | apply Kd.R_alloc | apply Kd.R_drewN | apply Kd.R_drew)); exact HO_75.out)) k_ hk, Kd.fresh' (Kd.R_lt (by (with_reducible repeat (first | apply Kd.R_alloc | apply Kd.R_drewN | apply Kd.R_drew)); exact HO157.out)) k_ hk⟩)); (case aO => exact (by (with_reducible repeat (first | apply Kd.R_alloc | apply Kd.R_drewN | apply Kd.R_drew)); exact Kd.R_mono HO160.out (fun _ hk => ⟨hk.1.2, hk.2⟩))); (case aS => exact (below_size (by repeat (first | (with_reducible first | exact HB.out | apply below_alloc | apply pw_below_drewN | apply below_drew1) | exact HB.out)))); (case aL => have := LMc57.out; omega); intro v162 w63 ho hb hg hat; rw [← Ny161.out] at ho; have n0_ := Aside0.mk (Kd.N_afterv (ok := (fun k_ => some k_ ≠ (.slice (some ad147) x13_2.length co44 : Value).ownBlock ∧ some k_ ≠ (.slice (some ad151) y148.length co50 : Value).ownBlock ∧ some k_ ≠ (.slice Ao64 y155.length co64 : Value).ownBlock)) (by (with_reducible repeat (first | apply Kd.N_alloc | apply Kd.N_drewN | apply Kd.N_drew)); exact Kd.N_mono HO_14.out (fun _ hk => ⟨⟨hk.1.1.1, ⟨hk.1.1.2, hk.1.2⟩⟩, hk.2⟩)) hg hat); have n1_ := Aside0.mk (Kd.N_afterv (ok := (fun k_ => some k_ ≠ (u14 : Value).ownBlock ∧ some k_ ≠ (.slice (some ad151) y148.length co50 : Value).ownBlock ∧ some k_ ≠ (.slice Ao64 y155.length co64 : Value).ownBlock)) (by (with_reducible repeat (first | apply Kd.N_alloc | apply Kd.N_drewN | apply Kd.N_drew)); exact Kd.N_mono HO_69.out (fun _ hk => ⟨⟨hk.1.1.1, ⟨hk.1.1.2, hk.1.2⟩⟩, hk.2⟩)) hg hat); have vn1_ := Aside0.mk (Kd.V_afterv (ok := (fun k_ => some k_ ≠ (u14 : Value).ownBlock ∧ some k_ ≠ (.slice (some ad151) y148.length co50 : Value).ownBlock ∧ some k_ ≠ (.slice Ao64 y155.length co64 : Value).ownBlock)) (by (with_reducible repeat (first | apply Kd.V_alloc | apply Kd.V_drewN | apply Kd.V_drew)); exact Kd.V_mono HL147_0.out (fun _ hk => ⟨⟨hk.1.1.1, ⟨hk.1.1.2, hk.1.2⟩⟩, hk.2⟩)) hg hat); have n2_ := Aside0.mk (Kd.R_after (ok := (fun k_ => some k_ ≠ (.slice Ao64 y155.length co64 : Value).ownBlock)) (by (with_reducible repeat (first | apply Kd.R_alloc | apply Kd.R_drewN | apply Kd.R_drew)); exact Kd.R_mono HO_75.out (fun _ hk => ⟨hk.1.2, hk.2⟩)) hg hat); have n3_ := Aside0.mk (Kd.R_after (ok := (fun k_ => some k_ ≠ (.slice (some ad151) y148.length co50 : Value).ownBlock)) (by (with_reducible repeat (first | apply Kd.R_alloc | apply Kd.R_drewN | apply Kd.R_drew)); exact HO157.out) hg hat); have n4_ := Aside0.mk (hb); have n5_ := Aside0.mk (ho); clear HO_14; clear HO_69; clear HL147_0; clear HO_75; clear HO157; clear HB; clear HO160; have HO_14 := n0_; have HO_69 := n1_; have HL147_0 := vn1_; have HO_75 := n2_; have HO157 := n3_; have HB := n4_; have HO163 := n5_; clear vn1_ n0_ n1_ n2_ n3_ n4_ n5_; clear ho hb hg hat) | ((with_reducible refine gate_builtin (b := .append) (xs := #[.tmp 98, .tmp 100]) rfl ?_); (try (refine gate_guard (by rfl) ?_; dsimp only)); at_builtin; refine Kd.N_append (Kd.slice 5 (Kd.int .u8)) (w0 := w) w.heap.size rfl (.tmp 98) (.tmp 100) 68 27 (.slice none 0 0) 24 rfl Try.underlying68 info27 rfl (by decide) (by omega) u14 x14_4 y155 [.slice Ao64 y155.length co64] (fun k_ => some k_ ≠ (.slice (some ad147) x13_2.length co44 : Value).ownBlock ∧ some k_ ≠ (.slice (some ad151) y148.length co50 : Value).ownBlock ∧ some k_ ≠ (v162 : Value).ownBlock) (fun k_ => ((fun k_ => some k_ ≠ (.slice (some ad147) x13_2.length co44 : Value).ownBlock ∧ some k_ ≠ (.slice (some ad151) y148.length co50 : Value).ownBlock ∧ some k_ ≠ (v162 : Value).ownBlock)) k_ ∧ some k_ ≠ (u14 : Value).ownBlock) rfl rfl ?aP (fun _ hk => hk) ?aF ?aO ?aB ?aS ?aL ?_; (case aP => exact (Kd.FK_slice_mk (Kd.R_reads' (Kd.R_mono (ok' := (fun k_ => ((fun k_ => some k_ ≠ (.slice (some ad147) x13_2.length co44 : Value).ownBlock ∧ some k_ ≠ (.slice (some ad151) y148.length co50 : Value).ownBlock ∧ some k_ ≠ (v162 : Value).ownBlock)) k_ ∧ some k_ ≠ (u14 : Value).ownBlock)) (Kd.R_apart' (Kd.R_apart' (HO157.out) (Kd.N_typed HO_69.out) (by decide)) (Kd.N_typed HO_14.out) (by decide)) (fun k_ hk => ⟨⟨hk.1.2, ⟨hk.1.1.1, hk.1.1.2⟩⟩, hk.2⟩))).2.1 (Kd.R_F (Kd.R_mono (ok' := (fun k_ => ((fun k_ => some k_ ≠ (.slice (some ad147) x13_2.length co44 : Value).ownBlock ∧ some k_ ≠ (.slice (some ad151) y148.length co50 : Value).ownBlock ∧ some k_ ≠ (v162 : Value).ownBlock)) k_ ∧ some k_ ≠ (u14 : Value).ownBlock)) (Kd.R_apart' (Kd.R_apart' (HO157.out) (Kd.N_typed HO_69.out) (by decide)) (Kd.N_typed HO_14.out) (by decide)) (fun k_ hk => ⟨⟨hk.1.2, ⟨hk.1.1.1, hk.1.1.2⟩⟩, hk.2⟩))))); (case aB => exact (by repeat (first | (with_reducible first | exact HB.out | apply below_alloc | apply pw_below_drewN | apply below_drew1) | exact HB.out))); (case aF => exact (fun k_ hk => ⟨Kd.fresh' (Kd.N_lt (by (with_reducible repeat (first | apply Kd.N_alloc | apply Kd.N_drewN | apply Kd.N_drew)); exact HO_69.out)) k_ hk, Kd.fresh' (Kd.R_lt (by (with_reducible repeat (first | apply Kd.R_alloc | apply Kd.R_drewN | apply Kd.R_drew)); exact HO_75.out)) k_ hk, Kd.fresh' (Kd.R_lt (by (with_reducible repeat (first | apply Kd.R_alloc | apply Kd.R_drewN | apply Kd.R_drew)); exact HO163.out)) k_ hk⟩)); (case aO => exact (by (with_reducible repeat (first | apply Kd.N_alloc | apply Kd.N_drewN | apply Kd.N_drew)); exact Kd.N_mono HO_14.out (fun _ hk => ⟨hk.1.1, ⟨hk.1.2.1, hk.2⟩⟩))); (case aS => exact (below_size (by repeat (first | (with_reducible first | exact HB.out | apply below_alloc | apply pw_below_drewN | apply below_drew1) | exact HB.out)))); (case aL => have := LMc59.out; omega); intro v165 w65 ho hb hg hat; rw [← Ny164.out] at ho; have n0_ := Aside0.mk (Kd.N_afterv (ok := (fun k_ => some k_ ≠ (.slice (some ad151) y148.length co50 : Value).ownBlock ∧ some k_ ≠ (.slice Ao64 y155.length co64 : Value).ownBlock ∧ some k_ ≠ (v162 : Value).ownBlock)) (by (with_reducible repeat (first | apply Kd.N_alloc | apply Kd.N_drewN | apply Kd.N_drew)); exact Kd.N_mono HO_69.out (fun _ hk => ⟨⟨hk.1.2.1, ⟨hk.1.2.2, hk.2⟩⟩, hk.1.1⟩)) hg hat); have vn0_ := Aside0.mk (Kd.V_afterv (ok := (fun k_ => some k_ ≠ (.slice (some ad151) y148.length co50 : Value).ownBlock ∧ some k_ ≠ (.slice Ao64 y155.length co64 : Value).ownBlock ∧ some k_ ≠ (v162 : Value).ownBlock)) (by (with_reducible repeat (first | apply Kd.V_alloc | apply Kd.V_drewN | apply Kd.V_drew)); exact Kd.V_mono HL147_0.out (fun _ hk => ⟨⟨hk.1.2.1, ⟨hk.1.2.2, hk.2⟩⟩, hk.1.1⟩)) hg hat); have n1_ := Aside0.mk (Kd.R_over' (by (with_reducible repeat (first | apply Kd.R_alloc | apply Kd.R_drewN | apply Kd.R_drew)); exact HO_75.out) (Kd.N_typed (by (with_reducible repeat (first | apply Kd.N_alloc | apply Kd.N_drewN | apply Kd.N_drew)); exact HO_14.out)) (by decide) hg); have n2_ := Aside0.mk (Kd.R_over' (by (with_reducible repeat (first | apply Kd.R_alloc | apply Kd.R_drewN | apply Kd.R_drew)); exact HO163.out) (Kd.N_typed (by (with_reducible repeat (first | apply Kd.N_alloc | apply Kd.N_drewN | apply Kd.N_drew)); exact HO_14.out)) (by decide) hg); have n3_ := Aside0.mk (hb); have n4_ := Aside0.mk (ho); clear HO_69; clear HL147_0; clear HO_75; clear HO163; clear HB; clear HO_14; clear HO157; have HO_69 := n0_; have HL147_0 := vn0_; have HO_75 := n1_; have HO163 := n2_; have HB := n3_; have HO166 := n4_; clear vn0_ n0_ n1_ n2_ n3_ n4_; clear ho hb hg hat))
                                              go_roundg k4
                                              case measure => have := HK1.out; have := HK2.out; have := HK3.out; have := HK4.out; omega
                                              case rel => exact ⟨(true), (y164), (wrap64 (x77_4 + 1)), (by first | rfl | (simp; done) | (simp [*]; done)), (by first | rfl | (simp; done) | (simp [*]; done)), H', ⟨by have := HK1.out; have := HK2.out; have := HK3.out; have := HK4.out; omega⟩, ⟨by (with_reducible repeat (first | apply Kd.N_alloc | apply Kd.N_drewN | apply Kd.N_drew)); exact Kd.N_mono HO166.out (fun _ hk => ⟨hk.1, hk.2.1⟩)⟩, ⟨by (with_reducible repeat (first | apply Kd.N_alloc | apply Kd.N_drewN | apply Kd.N_drew)); exact Kd.N_mono HO_69.out (fun _ hk => ⟨hk.2, hk.1.1⟩)⟩, ⟨by (with_reducible repeat (first | apply Kd.V_alloc | apply Kd.V_drewN | apply Kd.V_drew)); exact Kd.V_mono HL147_0.out (fun _ hk => ⟨hk.2, hk.1.1⟩)⟩, ⟨by (with_reducible repeat (first | apply Kd.R_alloc | apply Kd.R_drewN | apply Kd.R_drew)); exact Kd.R_mono HO_75.out (fun _ hk => trivial)⟩, ⟨by repeat (first | (with_reducible first | exact HB.out | apply below_alloc | apply pw_below_drewN | apply below_drew1) | exact HB.out)⟩⟩
                                            · rw [if_neg c59] at H
                                              exact absurd H (by simp)
                                          · replace c58 := Bool.eq_false_iff.mpr c58
                                            subst c58
                                            have H1 : ((runes_Bad_byte.f k4 y161).bind fun t167 => (if x14_4.length < 5864062014805 then (posthornlaw05_RunesCut.l3 k4 l0 x7_1 (t167 == (y161.length : Int)) (x14_4 ++ [y155]) (rd_L1 x13_2 x71_3) x67_2 x13_2 (x13_2.length : Int) x71_3 y148 (y148.length : Int) (wrap64 (x77_4 + 1))) else (none))) = some r := by rw [if_neg (show ¬ (false = true) by decide)] at H; exact H
                                            clear H
                                            have H := H1
                                            clear H1
                                            replace H := Option.bind_eq_some_iff.mp H
                                            obtain ⟨t167, A660, H⟩ := H
                                            replace H : (if x14_4.length < 5864062014805 then (posthornlaw05_RunesCut.l3 k4 l0 x7_1 (t167 == (y161.length : Int)) (x14_4 ++ [y155]) (rd_L1 x13_2 x71_3) x67_2 x13_2 (x13_2.length : Int) x71_3 y148 (y148.length : Int) (wrap64 (x77_4 + 1))) else (none)) = some r := H
                                            have A66 := Aside0.mk A660
                                            clear A660
                                            by_cases c67 : x14_4.length < 5864062014805
                                            · rw [if_pos c67] at H
                                              have LMc67 := Aside0.mk c67
                                              clear c67
                                              obtain ⟨y168, hy168⟩ : ∃ y_ : List (List Int), y_ = (x14_4 ++ [y155]) := ⟨_, rfl⟩
                                              replace H : (posthornlaw05_RunesCut.l3 k4 l0 x7_1 (t167 == (y161.length : Int)) y168 (rd_L1 x13_2 x71_3) x67_2 x13_2 (x13_2.length : Int) x71_3 y148 (y148.length : Int) (wrap64 (x77_4 + 1))) = some r := by first | (rw [hy168]; with_reducible exact H) | (have H2_ := (Option.bind_some _ _).symm.trans H; rw [hy168]; with_reducible exact H2_) | (have H2_ := (Option.bind_some _ _).symm.trans H; with_reducible exact H2_) | with_reducible exact H | (rw [hy168]; exact H) | exact H
                                              have Ny168 := Aside0.mk hy168
                                              clear hy168
                                              have H' := Aside0.mk H
                                              clear H
                                              have p151 : 0 ≤ (x77_4 : Int) := of_decide_eq_true (by first | (with_reducible assumption) | assumption)
                                              have q151 : x77_4 < (y148.length : Int) := of_decide_eq_true (by first | (with_reducible assumption) | assumption)
                                              obtain ⟨ad151, e151, hx151_0⟩ := Kd.at_int (Kd.R_reads' HO_75.out).2.2 x77_4 p151 q151
                                              cases e151
                                              replace p151 := eq_true p151
                                              replace q151 := eq_true q151
                                              go_wp2_with (first | ((with_reducible refine gate_callee (f := 33) rfl ?_); refine goesL_ (some 82) rfl rfl Try.func33 (by kernel_rfl) rfl #[.slice A147_0 (rd_L1 x13_2 x71_3).length c147_0] rfl (by (try simp only [List.map_toArray, List.map_cons, List.map_nil]); first | done | rfl | (simp only [List.length_drop, List.length_take]; rfl)) ?_; (with_reducible refine (slices_Clone_byte_byte.calls _ _ (rd_L1 x13_2 x71_3) t152 _ ?side1 ?side2 A54.out).mono ?_); (case side1 => repeat (first | exact (Kd.V_reads' HL147_0.out).2.2 | (with_reducible refine Kd.C_alloc ?_ _) | (with_reducible refine Kd.C_drewN ?_ _) | (with_reducible refine Kd.C_drew ?_))); (case side2 => exact HC147_0.out); rintro e w68 ⟨v153, rfl, ho0, hb⟩; refine ⟨_, rfl, ?_⟩; have n0_ := Aside0.mk (Kd.N_elder' (by (with_reducible repeat (first | apply Kd.N_alloc | apply Kd.N_drewN | apply Kd.N_drew)); exact HO_14.out) (Kd.R_base ho0) hb); have n1_ := Aside0.mk (Kd.N_elder' (by (with_reducible repeat (first | apply Kd.N_alloc | apply Kd.N_drewN | apply Kd.N_drew)); exact HO_69.out) (Kd.R_base ho0) hb); have vn1_ := Aside0.mk (Kd.V_elder' (by (with_reducible repeat (first | apply Kd.V_alloc | apply Kd.V_drewN | apply Kd.V_drew)); exact HL147_0.out) (Kd.R_base ho0) hb); have n2_ := Aside0.mk (Kd.R_elder' (by (with_reducible repeat (first | apply Kd.R_alloc | apply Kd.R_drewN | apply Kd.R_drew)); exact HO_75.out) (Kd.R_base ho0) hb); have n3_ := Aside0.mk (Kd.R_lower (Kd.R_new' ho0 (Kd.R_lt (by (with_reducible repeat (first | apply Kd.R_alloc | apply Kd.R_drewN | apply Kd.R_drew)); exact HO_75.out))) (below_size (by repeat (first | (with_reducible first | exact HB.out | apply below_alloc | apply pw_below_drewN | apply below_drew1) | exact HB.out)))); have n4_ := Aside0.mk (below_step (by repeat (first | (with_reducible first | exact HB.out | apply below_alloc | apply pw_below_drewN | apply below_drew1) | exact HB.out)) hb); clear HO_14; clear HO_69; clear HL147_0; clear HO_75; clear HB; have HO_14 := n0_; have HO_69 := n1_; have HL147_0 := vn1_; have HO_75 := n2_; have HO154 := n3_; have HB := n4_; clear vn1_ n0_ n1_ n2_ n3_ n4_; (try clear hb); (try clear hb2); (try clear hk); (try clear hi); (try clear ho0)) | ((with_reducible refine gate_builtin (b := .append) (xs := #[.tmp 82, .tmp 84]) rfl ?_); (try (refine gate_guard (by rfl) ?_; dsimp only)); at_builtin; refine Kd.R_append (Kd.int .u8) (w0 := w) w.heap.size rfl (.tmp 82) (.tmp 84) 27 5 (.int .u8 0) 1 rfl Try.underlying27 info5 rfl (by decide) (by omega) v153 t152 (rd y148 x77_4) [.int .u8 (rd y148 x77_4)] (fun k_ => some k_ ≠ (.slice (some ad151) y148.length co50 : Value).ownBlock) (fun _ => False) rfl rfl ?aP (fun _ hk => hk.elim) ?aF ?aO ?aB ?aS ?aL ?_; (case aP => exact rfl); (case aB => exact (by repeat (first | (with_reducible first | exact HB.out | apply below_alloc | apply pw_below_drewN | apply below_drew1) | exact HB.out))); (case aF => exact (fun k_ hk => Kd.fresh' (Kd.R_lt (by (with_reducible repeat (first | apply Kd.R_alloc | apply Kd.R_drewN | apply Kd.R_drew)); exact HO_75.out)) k_ hk)); (case aO => exact (by (with_reducible repeat (first | apply Kd.R_alloc | apply Kd.R_drewN | apply Kd.R_drew)); exact Kd.R_mono HO154.out (fun _ hk => hk.2))); (case aS => exact (below_size (by repeat (first | (with_reducible first | exact HB.out | apply below_alloc | apply pw_below_drewN | apply below_drew1) | exact HB.out)))); (case aL => have := LMc55.out; omega); intro v156 w69 ho hb hg hat; rw [← Ny155.out] at ho; have n0_ := Aside0.mk (Kd.N_afterv (ok := (fun k_ => some k_ ≠ (.slice (some ad147) x13_2.length co44 : Value).ownBlock ∧ some k_ ≠ (.slice (some ad151) y148.length co50 : Value).ownBlock)) (by (with_reducible repeat (first | apply Kd.N_alloc | apply Kd.N_drewN | apply Kd.N_drew)); exact HO_14.out) hg hat); have n1_ := Aside0.mk (Kd.N_afterv (ok := (fun k_ => some k_ ≠ (u14 : Value).ownBlock ∧ some k_ ≠ (.slice (some ad151) y148.length co50 : Value).ownBlock)) (by (with_reducible repeat (first | apply Kd.N_alloc | apply Kd.N_drewN | apply Kd.N_drew)); exact HO_69.out) hg hat); have vn1_ := Aside0.mk (Kd.V_afterv (ok := (fun k_ => some k_ ≠ (u14 : Value).ownBlock ∧ some k_ ≠ (.slice (some ad151) y148.length co50 : Value).ownBlock)) (by (with_reducible repeat (first | apply Kd.V_alloc | apply Kd.V_drewN | apply Kd.V_drew)); exact HL147_0.out) hg hat); have n2_ := Aside0.mk (Kd.R_after (ok := (fun _ => True)) (by (with_reducible repeat (first | apply Kd.R_alloc | apply Kd.R_drewN | apply Kd.R_drew)); exact HO_75.out) hg hat); have n3_ := Aside0.mk (hb); have n4_ := Aside0.mk (ho); clear HO_14; clear HO_69; clear HL147_0; clear HO_75; clear HB; clear HO154; have HO_14 := n0_; have HO_69 := n1_; have HL147_0 := vn1_; have HO_75 := n2_; have HB := n3_; have HO157 := n4_; clear vn1_ n0_ n1_ n2_ n3_ n4_; clear ho hb hg hat) | ((with_reducible refine gate_callee (f := 33) rfl ?_); refine goesL_ (some 87) rfl rfl Try.func33 (by kernel_rfl) rfl #[.slice A0 l0.length c0] rfl (by (try simp only [List.map_toArray, List.map_cons, List.map_nil]); first | done | rfl | (simp only [List.length_drop, List.length_take]; rfl)) ?_; (with_reducible refine (slices_Clone_byte_byte.calls _ _ l0 t158 _ ?side1 ?side2 A56.out).mono ?_); (case side1 => repeat (first | exact (Kd.C_below HR0.out HB.out) | (with_reducible refine Kd.C_alloc ?_ _) | (with_reducible refine Kd.C_drewN ?_ _) | (with_reducible refine Kd.C_drew ?_))); (case side2 => exact HC0.out); rintro e w70 ⟨v159, rfl, ho0, hb⟩; refine ⟨_, rfl, ?_⟩; have n0_ := Aside0.mk (Kd.N_elder' (by (with_reducible repeat (first | apply Kd.N_alloc | apply Kd.N_drewN | apply Kd.N_drew)); exact HO_14.out) (Kd.R_base ho0) hb); have n1_ := Aside0.mk (Kd.N_elder' (by (with_reducible repeat (first | apply Kd.N_alloc | apply Kd.N_drewN | apply Kd.N_drew)); exact HO_69.out) (Kd.R_base ho0) hb); have vn1_ := Aside0.mk (Kd.V_elder' (by (with_reducible repeat (first | apply Kd.V_alloc | apply Kd.V_drewN | apply Kd.V_drew)); exact HL147_0.out) (Kd.R_base ho0) hb); have n2_ := Aside0.mk (Kd.R_elder' (by (with_reducible repeat (first | apply Kd.R_alloc | apply Kd.R_drewN | apply Kd.R_drew)); exact HO_75.out) (Kd.R_base ho0) hb); have n3_ := Aside0.mk (Kd.R_elder' (by (with_reducible repeat (first | apply Kd.R_alloc | apply Kd.R_drewN | apply Kd.R_drew)); exact HO157.out) (Kd.R_base ho0) hb); have n4_ := Aside0.mk (Kd.R_lower (Kd.R_new' (Kd.R_new' ho0 (Kd.R_lt (by (with_reducible repeat (first | apply Kd.R_alloc | apply Kd.R_drewN | apply Kd.R_drew)); exact HO_75.out))) (Kd.R_lt (by (with_reducible repeat (first | apply Kd.R_alloc | apply Kd.R_drewN | apply Kd.R_drew)); exact HO157.out))) (below_size (by repeat (first | (with_reducible first | exact HB.out | apply below_alloc | apply pw_below_drewN | apply below_drew1) | exact HB.out)))); have n5_ := Aside0.mk (below_step (by repeat (first | (with_reducible first | exact HB.out | apply below_alloc | apply pw_below_drewN | apply below_drew1) | exact HB.out)) hb); clear HO_14; clear HO_69; clear HL147_0; clear HO_75; clear HO157; clear HB; have HO_14 := n0_; have HO_69 := n1_; have HL147_0 := vn1_; have HO_75 := n2_; have HO157 := n3_; have HO160 := n4_; have HB := n5_; clear vn1_ n0_ n1_ n2_ n3_ n4_ n5_; (try clear hb); (try clear hb2); (try clear hk); (try clear hi); (try clear ho0); obtain ⟨Ao72, co72, eo72⟩ := Kd.R_slice HO157.out; subst eo72) | ((with_reducible refine gate_builtin (b := .append) (xs := #[.tmp 87, .tmp 88]) rfl ?_); (try (refine gate_guard (by rfl) ?_; dsimp only)); at_builtin; refine Kd.R_append_rows (Kd.int .u8) (w0 := w) w.heap.size rfl (.tmp 87) (.tmp 88) 27 5 (.int .u8 0) 1 rfl Try.underlying27 info5 rfl (by decide) (by omega) v159 t158 y155 _ _ _ (fun k_ => some k_ ≠ (.slice (some ad151) y148.length co50 : Value).ownBlock ∧ some k_ ≠ (.slice Ao72 y155.length co72 : Value).ownBlock) (fun _ => False) rfl rfl ?aO ?aR (fun _ _ h => h) (fun _ h => h.elim) ?aF ?aB ?aS ?aL ?_; (case aR => repeat (first | exact (Kd.R_reads' HO157.out).2.2 | (with_reducible refine Kd.C_alloc ?_ _) | (with_reducible refine Kd.C_drewN ?_ _) | (with_reducible refine Kd.C_drew ?_))); (case aB => exact (by repeat (first | (with_reducible first | exact HB.out | apply below_alloc | apply pw_below_drewN | apply below_drew1) | exact HB.out))); (case aF => exact (fun k_ hk => ⟨Kd.fresh' (Kd.R_lt (by (with_reducible repeat (first | apply Kd.R_alloc | apply Kd.R_drewN | apply Kd.R_drew)); exact HO_75.out)) k_ hk, Kd.fresh' (Kd.R_lt (by (with_reducible repeat (first | apply Kd.R_alloc | apply Kd.R_drewN | apply Kd.R_drew)); exact HO157.out)) k_ hk⟩)); (case aO => exact (by (with_reducible repeat (first | apply Kd.R_alloc | apply Kd.R_drewN | apply Kd.R_drew)); exact Kd.R_mono HO160.out (fun _ hk => ⟨hk.1.2, hk.2⟩))); (case aS => exact (below_size (by repeat (first | (with_reducible first | exact HB.out | apply below_alloc | apply pw_below_drewN | apply below_drew1) | exact HB.out)))); (case aL => have := LMc57.out; omega); intro v162 w71 ho hb hg hat; rw [← Ny161.out] at ho; have n0_ := Aside0.mk (Kd.N_afterv (ok := (fun k_ => some k_ ≠ (.slice (some ad147) x13_2.length co44 : Value).ownBlock ∧ some k_ ≠ (.slice (some ad151) y148.length co50 : Value).ownBlock ∧ some k_ ≠ (.slice Ao72 y155.length co72 : Value).ownBlock)) (by (with_reducible repeat (first | apply Kd.N_alloc | apply Kd.N_drewN | apply Kd.N_drew)); exact Kd.N_mono HO_14.out (fun _ hk => ⟨⟨hk.1.1.1, ⟨hk.1.1.2, hk.1.2⟩⟩, hk.2⟩)) hg hat); have n1_ := Aside0.mk (Kd.N_afterv (ok := (fun k_ => some k_ ≠ (u14 : Value).ownBlock ∧ some k_ ≠ (.slice (some ad151) y148.length co50 : Value).ownBlock ∧ some k_ ≠ (.slice Ao72 y155.length co72 : Value).ownBlock)) (by (with_reducible repeat (first | apply Kd.N_alloc | apply Kd.N_drewN | apply Kd.N_drew)); exact Kd.N_mono HO_69.out (fun _ hk => ⟨⟨hk.1.1.1, ⟨hk.1.1.2, hk.1.2⟩⟩, hk.2⟩)) hg hat); have vn1_ := Aside0.mk (Kd.V_afterv (ok := (fun k_ => some k_ ≠ (u14 : Value).ownBlock ∧ some k_ ≠ (.slice (some ad151) y148.length co50 : Value).ownBlock ∧ some k_ ≠ (.slice Ao72 y155.length co72 : Value).ownBlock)) (by (with_reducible repeat (first | apply Kd.V_alloc | apply Kd.V_drewN | apply Kd.V_drew)); exact Kd.V_mono HL147_0.out (fun _ hk => ⟨⟨hk.1.1.1, ⟨hk.1.1.2, hk.1.2⟩⟩, hk.2⟩)) hg hat); have n2_ := Aside0.mk (Kd.R_after (ok := (fun k_ => some k_ ≠ (.slice Ao72 y155.length co72 : Value).ownBlock)) (by (with_reducible repeat (first | apply Kd.R_alloc | apply Kd.R_drewN | apply Kd.R_drew)); exact Kd.R_mono HO_75.out (fun _ hk => ⟨hk.1.2, hk.2⟩)) hg hat); have n3_ := Aside0.mk (Kd.R_after (ok := (fun k_ => some k_ ≠ (.slice (some ad151) y148.length co50 : Value).ownBlock)) (by (with_reducible repeat (first | apply Kd.R_alloc | apply Kd.R_drewN | apply Kd.R_drew)); exact HO157.out) hg hat); have n4_ := Aside0.mk (hb); have n5_ := Aside0.mk (ho); clear HO_14; clear HO_69; clear HL147_0; clear HO_75; clear HO157; clear HB; clear HO160; have HO_14 := n0_; have HO_69 := n1_; have HL147_0 := vn1_; have HO_75 := n2_; have HO157 := n3_; have HB := n4_; have HO163 := n5_; clear vn1_ n0_ n1_ n2_ n3_ n4_ n5_; clear ho hb hg hat; obtain ⟨Ao73, co73, eo73⟩ := Kd.R_slice HO163.out; subst eo73) | (go_at_call 14; (with_reducible refine (runes_Bad_byte.calls k4 _ _ y161 t167 _ ?side1 ?side2 A66.out).mono ?_); (case side1 => repeat (first | exact (Kd.R_reads' HO163.out).2.2 | (with_reducible refine Kd.C_alloc ?_ _) | (with_reducible refine Kd.C_drewN ?_ _) | (with_reducible refine Kd.C_drew ?_))); (case side2 => exact (Kd.R_reads' HO163.out).2.1); rintro e w74 ⟨rfl, hb⟩; have n0_ := Aside0.mk (Kd.N_below (by (with_reducible repeat (first | apply Kd.N_alloc | apply Kd.N_drewN | apply Kd.N_drew)); exact HO_14.out) hb); have n1_ := Aside0.mk (Kd.N_below (by (with_reducible repeat (first | apply Kd.N_alloc | apply Kd.N_drewN | apply Kd.N_drew)); exact HO_69.out) hb); have vn1_ := Aside0.mk (Kd.V_below (by (with_reducible repeat (first | apply Kd.V_alloc | apply Kd.V_drewN | apply Kd.V_drew)); exact HL147_0.out) hb); have n2_ := Aside0.mk (Kd.R_below (by (with_reducible repeat (first | apply Kd.R_alloc | apply Kd.R_drewN | apply Kd.R_drew)); exact HO_75.out) hb); have n3_ := Aside0.mk (Kd.R_below (by (with_reducible repeat (first | apply Kd.R_alloc | apply Kd.R_drewN | apply Kd.R_drew)); exact HO157.out) hb); have n4_ := Aside0.mk (Kd.R_below (by (with_reducible repeat (first | apply Kd.R_alloc | apply Kd.R_drewN | apply Kd.R_drew)); exact HO163.out) hb); have n5_ := Aside0.mk (below_step (by repeat (first | (with_reducible first | exact HB.out | apply below_alloc | apply pw_below_drewN | apply below_drew1) | exact HB.out)) hb); clear HO_14; clear HO_69; clear HL147_0; clear HO_75; clear HO157; clear HO163; clear HB; have HO_14 := n0_; have HO_69 := n1_; have HL147_0 := vn1_; have HO_75 := n2_; have HO157 := n3_; have HO163 := n4_; have HB := n5_; clear vn1_ n0_ n1_ n2_ n3_ n4_ n5_; (try clear hb); (try clear hb2); (try clear hk); (try clear hi)) | ((with_reducible refine gate_builtin (b := .append) (xs := #[.tmp 98, .tmp 100]) rfl ?_); (try (refine gate_guard (by rfl) ?_; dsimp only)); at_builtin; refine Kd.N_append (Kd.slice 5 (Kd.int .u8)) (w0 := w) w.heap.size rfl (.tmp 98) (.tmp 100) 68 27 (.slice none 0 0) 24 rfl Try.underlying68 info27 rfl (by decide) (by omega) u14 x14_4 y155 [.slice Ao72 y155.length co72] (fun k_ => some k_ ≠ (.slice (some ad147) x13_2.length co44 : Value).ownBlock ∧ some k_ ≠ (.slice (some ad151) y148.length co50 : Value).ownBlock ∧ some k_ ≠ (.slice Ao73 y161.length co73 : Value).ownBlock) (fun k_ => ((fun k_ => some k_ ≠ (.slice (some ad147) x13_2.length co44 : Value).ownBlock ∧ some k_ ≠ (.slice (some ad151) y148.length co50 : Value).ownBlock ∧ some k_ ≠ (.slice Ao73 y161.length co73 : Value).ownBlock)) k_ ∧ some k_ ≠ (u14 : Value).ownBlock) rfl rfl ?aP (fun _ hk => hk) ?aF ?aO ?aB ?aS ?aL ?_; (case aP => exact (Kd.FK_slice_mk (Kd.R_reads' (Kd.R_mono (ok' := (fun k_ => ((fun k_ => some k_ ≠ (.slice (some ad147) x13_2.length co44 : Value).ownBlock ∧ some k_ ≠ (.slice (some ad151) y148.length co50 : Value).ownBlock ∧ some k_ ≠ (.slice Ao73 y161.length co73 : Value).ownBlock)) k_ ∧ some k_ ≠ (u14 : Value).ownBlock)) (Kd.R_apart' (Kd.R_apart' (HO157.out) (Kd.N_typed HO_69.out) (by decide)) (Kd.N_typed HO_14.out) (by decide)) (fun k_ hk => ⟨⟨hk.1.2, ⟨hk.1.1.1, hk.1.1.2⟩⟩, hk.2⟩))).2.1 (Kd.R_F (Kd.R_mono (ok' := (fun k_ => ((fun k_ => some k_ ≠ (.slice (some ad147) x13_2.length co44 : Value).ownBlock ∧ some k_ ≠ (.slice (some ad151) y148.length co50 : Value).ownBlock ∧ some k_ ≠ (.slice Ao73 y161.length co73 : Value).ownBlock)) k_ ∧ some k_ ≠ (u14 : Value).ownBlock)) (Kd.R_apart' (Kd.R_apart' (HO157.out) (Kd.N_typed HO_69.out) (by decide)) (Kd.N_typed HO_14.out) (by decide)) (fun k_ hk => ⟨⟨hk.1.2, ⟨hk.1.1.1, hk.1.1.2⟩⟩, hk.2⟩))))); (case aB => exact (by repeat (first | (with_reducible first | exact HB.out | apply below_alloc | apply pw_below_drewN | apply below_drew1) | exact HB.out))); (case aF => exact (fun k_ hk => ⟨Kd.fresh' (Kd.N_lt (by (with_reducible repeat (first | apply Kd.N_alloc | apply Kd.N_drewN | apply Kd.N_drew)); exact HO_69.out)) k_ hk, Kd.fresh' (Kd.R_lt (by (with_reducible repeat (first | apply Kd.R_alloc | apply Kd.R_drewN | apply Kd.R_drew)); exact HO_75.out)) k_ hk, Kd.fresh' (Kd.R_lt (by (with_reducible repeat (first | apply Kd.R_alloc | apply Kd.R_drewN | apply Kd.R_drew)); exact HO163.out)) k_ hk⟩)); (case aO => exact (by (with_reducible repeat (first | apply Kd.N_alloc | apply Kd.N_drewN | apply Kd.N_drew)); exact Kd.N_mono HO_14.out (fun _ hk => ⟨hk.1.1, ⟨hk.1.2.1, hk.2⟩⟩))); (case aS => exact (below_size (by repeat (first | (with_reducible first | exact HB.out | apply below_alloc | apply pw_below_drewN | apply below_drew1) | exact HB.out)))); (case aL => have := LMc67.out; omega); intro v169 w75 ho hb hg hat; rw [← Ny168.out] at ho; have n0_ := Aside0.mk (Kd.N_afterv (ok := (fun k_ => some k_ ≠ (.slice (some ad151) y148.length co50 : Value).ownBlock ∧ some k_ ≠ (.slice Ao72 y155.length co72 : Value).ownBlock ∧ some k_ ≠ (.slice Ao73 y161.length co73 : Value).ownBlock)) (by (with_reducible repeat (first | apply Kd.N_alloc | apply Kd.N_drewN | apply Kd.N_drew)); exact Kd.N_mono HO_69.out (fun _ hk => ⟨⟨hk.1.2.1, ⟨hk.1.2.2, hk.2⟩⟩, hk.1.1⟩)) hg hat); have vn0_ := Aside0.mk (Kd.V_afterv (ok := (fun k_ => some k_ ≠ (.slice (some ad151) y148.length co50 : Value).ownBlock ∧ some k_ ≠ (.slice Ao72 y155.length co72 : Value).ownBlock ∧ some k_ ≠ (.slice Ao73 y161.length co73 : Value).ownBlock)) (by (with_reducible repeat (first | apply Kd.V_alloc | apply Kd.V_drewN | apply Kd.V_drew)); exact Kd.V_mono HL147_0.out (fun _ hk => ⟨⟨hk.1.2.1, ⟨hk.1.2.2, hk.2⟩⟩, hk.1.1⟩)) hg hat); have n1_ := Aside0.mk (Kd.R_over' (by (with_reducible repeat (first | apply Kd.R_alloc | apply Kd.R_drewN | apply Kd.R_drew)); exact HO_75.out) (Kd.N_typed (by (with_reducible repeat (first | apply Kd.N_alloc | apply Kd.N_drewN | apply Kd.N_drew)); exact HO_14.out)) (by decide) hg); have n2_ := Aside0.mk (Kd.R_over' (by (with_reducible repeat (first | apply Kd.R_alloc | apply Kd.R_drewN | apply Kd.R_drew)); exact HO163.out) (Kd.N_typed (by (with_reducible repeat (first | apply Kd.N_alloc | apply Kd.N_drewN | apply Kd.N_drew)); exact HO_14.out)) (by decide) hg); have n3_ := Aside0.mk (hb); have n4_ := Aside0.mk (ho); clear HO_69; clear HL147_0; clear HO_75; clear HO163; clear HB; clear HO_14; clear HO157; have HO_69 := n0_; have HL147_0 := vn0_; have HO_75 := n1_; have HO163 := n2_; have HB := n3_; have HO170 := n4_; clear vn0_ n0_ n1_ n2_ n3_ n4_; clear ho hb hg hat))
                                              go_roundg k4
                                              case measure => have := HK1.out; have := HK2.out; have := HK3.out; have := HK4.out; omega
                                              case rel => exact ⟨((t167 == (y161.length : Int))), (y168), (wrap64 (x77_4 + 1)), (by first | rfl | (simp; done) | (simp [*]; done)), (by first | rfl | (simp; done) | (simp [*]; done)), H', ⟨by have := HK1.out; have := HK2.out; have := HK3.out; have := HK4.out; omega⟩, ⟨by (with_reducible repeat (first | apply Kd.N_alloc | apply Kd.N_drewN | apply Kd.N_drew)); exact Kd.N_mono HO170.out (fun _ hk => ⟨hk.1, hk.2.1⟩)⟩, ⟨by (with_reducible repeat (first | apply Kd.N_alloc | apply Kd.N_drewN | apply Kd.N_drew)); exact Kd.N_mono HO_69.out (fun _ hk => ⟨hk.2, hk.1.1⟩)⟩, ⟨by (with_reducible repeat (first | apply Kd.V_alloc | apply Kd.V_drewN | apply Kd.V_drew)); exact Kd.V_mono HL147_0.out (fun _ hk => ⟨hk.2, hk.1.1⟩)⟩, ⟨by (with_reducible repeat (first | apply Kd.R_alloc | apply Kd.R_drewN | apply Kd.R_drew)); exact Kd.R_mono HO_75.out (fun _ hk => trivial)⟩, ⟨by repeat (first | (with_reducible first | exact HB.out | apply below_alloc | apply pw_below_drewN | apply below_drew1) | exact HB.out)⟩⟩
                                            · rw [if_neg c67] at H
                                              exact absurd H (by simp)
                                        · rw [if_neg c57] at H
                                          exact absurd H (by simp)
                                      · rw [if_neg c55] at H
                                        exact absurd H (by simp)
                                    · rw [if_neg c53] at H
                                      exact absurd H (by simp)
                                  · rw [if_neg c52] at H
                                    exact absurd H (by simp)
                                · rw [if_neg c51] at H
                                  have c51b0 : decide (x77_4 < (y148.length : Int)) = false := decide_eq_false c51
                                  clear c51
                                  have H' := Aside0.mk H
                                  clear H
                                  go_wp2
                                  go_roundg k4
                                  case measure => have := HK1.out; have := HK2.out; have := HK3.out; have := HK4.out; omega
                                  case rel => exact ⟨(x12_4), (x14_4), (wrap64 (x71_3 + 1)), (by first | rfl | (simp; done) | (simp [*]; done)), (by first | rfl | (simp; done) | (simp [*]; done)), H', ⟨by have := HK1.out; have := HK2.out; have := HK3.out; have := HK4.out; omega⟩, ⟨by (with_reducible repeat (first | apply Kd.N_alloc | apply Kd.N_drewN | apply Kd.N_drew)); exact Kd.N_mono HO_14.out (fun _ hk => hk.1)⟩, ⟨by (with_reducible repeat (first | apply Kd.N_alloc | apply Kd.N_drewN | apply Kd.N_drew)); exact Kd.N_mono HO_69.out (fun _ hk => hk.1)⟩, ⟨by repeat (first | (with_reducible first | exact HB.out | apply below_alloc | apply pw_below_drewN | apply below_drew1) | exact HB.out)⟩⟩
                          · rw [if_neg c47] at H
                            exact absurd H (by simp)
                        · rw [if_neg c46] at H
                          exact absurd H (by simp)
                      · rw [if_neg c45] at H
                        have c45b0 : decide (x71_3 < (x13_2.length : Int)) = false := decide_eq_false c45
                        clear c45
                        have H' := Aside0.mk H
                        clear H
                        go_wp2
                        go_roundg k3
                        case measure => have := HK1.out; have := HK2.out; have := HK3.out; omega
                        case rel => exact ⟨(x12_3), (x14_3), (wrap64 (x67_2 + 1)), (by first | rfl | (simp; done) | (simp [*]; done)), (by first | rfl | (simp; done) | (simp [*]; done)), H', ⟨by have := HK1.out; have := HK2.out; have := HK3.out; omega⟩, ⟨by (with_reducible repeat (first | apply Kd.N_alloc | apply Kd.N_drewN | apply Kd.N_drew)); exact Kd.N_mono HO_14.out (fun _ hk => trivial)⟩, ⟨by repeat (first | (with_reducible first | exact HB.out | apply below_alloc | apply pw_below_drewN | apply below_drew1) | exact HB.out)⟩⟩
                · rw [if_neg c43] at H
                  have c43b0 : decide (x67_2 < 3) = false := decide_eq_false c43
                  clear c43
                  by_cases c76 : (x12_2 == x7_1) = true
                  · rw [if_pos c76] at H
                    have c76b0 : (x12_2 == x7_1) = true := c76
                    (try (have c76b1 : decide (x12_2 = x7_1) = true := by simpa using c76))
                    (try (have c76b2 : (x12_2 == x7_1) = true := by simpa using c76))
                    clear c76
                    replace H := Option.bind_eq_some_iff.mp H
                    obtain ⟨t146, A770, H⟩ := H
                    replace H : (some t146) = some r := H
                    have A77 := Aside0.mk A770
                    clear A770
                    obtain rfl := Option.some.inj H
                    go_wp2_with (first | (go_at_call 12; (with_reducible refine (posthornlaw05_wakes.calls  t146 _ A77.out).mono ?_); rintro e w78 ⟨rfl, hb⟩; have n0_ := Aside0.mk (Kd.N_below (by (with_reducible repeat (first | apply Kd.N_alloc | apply Kd.N_drewN | apply Kd.N_drew)); exact HO_13.out) hb); have n1_ := Aside0.mk (below_step (by repeat (first | (with_reducible first | exact HB.out | apply below_alloc | apply pw_below_drewN | apply below_drew1) | exact HB.out)) hb); clear HO_13; clear HB; have HO_13 := n0_; have HB := n1_; clear n0_ n1_; (try clear hb); (try clear hb2); (try clear hk); (try clear hi)))
                    go_ret
                    exact ⟨by first | rfl | (simp [errW_none, errW_some] <;> rfl) | (simp [*, errW_none, errW_some] <;> rfl), by repeat (first | (with_reducible first | exact HB.out | apply below_alloc | apply pw_below_drewN | apply below_drew1) | exact HB.out)⟩
                  · rw [if_neg c76] at H
                    have c76b0 : (x12_2 == x7_1) = false := by simpa using c76
                    (try (have c76b1 : decide (x12_2 = x7_1) = false := by simpa using c76))
                    (try (have c76b2 : (x12_2 == x7_1) = false := by simpa using c76))
                    (try (have c76b3 : ¬ (x12_2 = x7_1) := by simpa using c76))
                    clear c76
                    obtain rfl := Option.some.inj H
                    go_wp2
                    go_ret
                    exact ⟨by first | rfl | (simp [errW_none, errW_some] <;> rfl) | (simp [*, errW_none, errW_some] <;> rfl), by repeat (first | (with_reducible first | exact HB.out | apply below_alloc | apply pw_below_drewN | apply below_drew1) | exact HB.out)⟩
  · rw [if_neg c6] at H
    exact absurd H (by simp)

/-- THE ONE PURE STATEMENT of posthornlaw05_RunesCut: yours. -/
def posthornlaw05_RunesCut.Pure : Prop := ∀ (l0 : List Int) (l1 : List Int), l0.length ≤ maxLen → l0.length * 1 ≤ 140737488351232 → (∀ x ∈ l0, (Lit.int .u8 x).wf = true) → l1.length ≤ maxLen → l1.length * 8 ≤ 140737488351232 → (∀ x ∈ l1, (Lit.int .i64 x).wf = true) → ∃ k, posthornlaw05_RunesCut.f k l0 l1 = some true
theorem posthornlaw05_RunesCut.walk (P : posthornlaw05_RunesCut.Pure) (a0 : Option Addr) (len0 cap0 : Nat) (z0 : List Int) (a1 : Option Addr) (len1 cap1 : Nat) (z1 : List Int) (w : World) (w0 : (a0 = none ∧ len0 = 0 ∧ cap0 = 0 ∧ z0 = []) ∨ ∃ x, a0 = some x ∧ len0 ≤ cap0 ∧ cap0 ≤ maxLen ∧ z0.length = cap0 ∧ (∀ i, i < z0.length → w.cell? (x.add i) = some (.int .u8 (z0.getD i 0))) ∧ ∀ n ∈ z0, (Lit.int .u8 n).wf = true) (y0 : len0 * 1 ≤ 140737488351232) (w1 : (a1 = none ∧ len1 = 0 ∧ cap1 = 0 ∧ z1 = []) ∨ ∃ x, a1 = some x ∧ len1 ≤ cap1 ∧ cap1 ≤ maxLen ∧ z1.length = cap1 ∧ (∀ i, i < z1.length → w.cell? (x.add i) = some (.int .i64 (z1.getD i 0))) ∧ ∀ n ∈ z1, (Lit.int .i64 n).wf = true) (y1 : len1 * 8 ≤ 140737488351232) :
    Calls Try.prog 10 #[.slice a0 len0 cap0, .slice a1 len1 cap1] w fun e w' => e = .returned (.bool true) ∧ Below w.heap.size w w' := by
  obtain ⟨l0, rfl, hr0, hm0, hw0, hc0⟩ := ReadsInt.ofRowC w0
  obtain ⟨l1, rfl, hr1, hm1, hw1, hc1⟩ := ReadsInt.ofRowC w1
  obtain ⟨k, h⟩ := P l0 l1 hm0 y0 hw0 hm1 y1 hw1
  refine (posthornlaw05_RunesCut.calls k _ _ l0 _ _ l1 true w (Kd.C_of_reads (d := (0 : Int)) (h1 := fun _ => rfl) hr0) hc0 (Kd.C_of_reads (d := (0 : Int)) (h1 := fun _ => rfl) hr1) hc1 h).mono ?_
  rintro e w' ⟨rfl, hd⟩
  exact ⟨rfl, hd⟩

end Go.Proofs.Ytabjfpjmiiiecaa.X
