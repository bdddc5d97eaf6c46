-- Printed by wip/tools/gprint.py (this session's program) out of the translation. Not trusted: Lean checks it.
import Derived.Test.YtnmhkmkaklhapaaDoorS0
import Derived.Test.YtnmhkmkaklhapaaDoorRA
namespace Go.Proofs.YtnmhkmkaklhapaaDoor.S
open Go.RowKit Go.Proofs.YtnmhkmkaklhapaaDoor.Glob Go.Proofs.YtnmhkmkaklhapaaDoor.M Go.Proofs.YtnmhkmkaklhapaaDoor.MN Go.Proofs.YtnmhkmkaklhapaaDoor.T Go.Proofs.YtnmhkmkaklhapaaDoor.MR Go.Proofs.YtnmhkmkaklhapaaDoorW.PrintWords Go.Proofs.YtnmhkmkaklhapaaDoorW.PrintLast Go.Proofs.YtnmhkmkaklhapaaDoorW.PrintMore
attribute [local go_sem] max2_int min2_int max_two min_two max_three min_three max_four min_four   -- for this text's walks alone
set_option linter.unusedVariables false
set_option linter.unusedSimpArgs false

/-! ### posthornref06_Parse: function 16 -/
mutual
def posthornref06_Parse.j0 : Nat → ByteArray → Int → ByteArray → Int → Int → Int → Option (Int × Int × Int × Int × Int × Int × Int × Int × Int)
  | 0, _, _, _, _, _, _ => none
  | k + 1, x0, x5, x104000, x104001, x104002, x104003 => (posthornref06_reader_number.f x104000 x104001 x104002 x104003 1 2).bind fun bt126 => ((posthornref06_reader_gap.f bt126.2.2.1 bt126.2.2.2.1 bt126.2.2.2.2.1 bt126.2.2.2.2.2 false).bind fun bt132 => ((posthornref06_reader_name.f bt132.1 bt132.2.1 bt132.2.2.1 bt132.2.2.2 (⟨#[74, 65, 78, 70, 69, 66, 77, 65, 82, 65, 80, 82, 77, 65, 89, 74, 85, 78, 74, 85, 76, 65, 85, 71, 83, 69, 80, 79, 67, 84, 78, 79, 86, 68, 69, 67]⟩ : ByteArray)).bind fun bt136 => ((posthornref06_reader_gap.f bt136.2.1 bt136.2.2.1 bt136.2.2.2.1 bt136.2.2.2.2 false).bind fun bt141 => ((posthornref06_reader_number.f bt141.1 bt141.2.1 bt141.2.2.1 bt141.2.2.2 2 4).bind fun bt145 => (if bt145.2.1 = 2 then (posthornref06_Parse.j1 k x0 x5 x104001 bt126.1 bt136.1 bt145.1 bt145.2.1 (decide (bt145.1 < 50)) bt145.2.2.1 bt145.2.2.2.1 bt145.2.2.2.2.1 bt145.2.2.2.2.2) else (posthornref06_Parse.j1 k x0 x5 x104001 bt126.1 bt136.1 bt145.1 bt145.2.1 false bt145.2.2.1 bt145.2.2.2.1 bt145.2.2.2.2.1 bt145.2.2.2.2.2))))))
def posthornref06_Parse.j1 : Nat → ByteArray → Int → Int → Int → Int → Int → Int → Bool → ByteArray → Int → Int → Int → Option (Int × Int × Int × Int × Int × Int × Int × Int × Int)
  | 0, _, _, _, _, _, _, _, _, _, _, _, _ => none
  | k + 1, x0, x5, x6, x7, x9, x10, x11, x61, x104000, x104001, x104002, x104003 => if x61 = true then (posthornref06_Parse.j2 k x0 x5 x6 x7 x9 (wrap64 (x10 + 2000)) x104000 x104001 x104002 x104003) else (if x11 < 4 then (posthornref06_Parse.j2 k x0 x5 x6 x7 x9 (wrap64 (x10 + 1900)) x104000 x104001 x104002 x104003) else (posthornref06_Parse.j2 k x0 x5 x6 x7 x9 x10 x104000 x104001 x104002 x104003))
def posthornref06_Parse.j2 : Nat → ByteArray → Int → Int → Int → Int → Int → ByteArray → Int → Int → Int → Option (Int × Int × Int × Int × Int × Int × Int × Int × Int)
  | 0, _, _, _, _, _, _, _, _, _, _ => none
  | k + 1, x0, x5, x6, x7, x9, x10, x104000, x104001, x104002, x104003 => (posthornref06_reader_gap.f x104000 x104001 x104002 x104003 false).bind fun bt151 => ((posthornref06_reader_number.f bt151.1 bt151.2.1 bt151.2.2.1 bt151.2.2.2 2 2).bind fun bt155 => ((posthornref06_reader_mark.f bt155.2.2.1 bt155.2.2.2.1 bt155.2.2.2.2.1 bt155.2.2.2.2.2 (⟨#[58]⟩ : ByteArray)).bind fun bt161 => ((posthornref06_reader_number.f bt161.1 bt161.2.1 bt161.2.2.1 bt161.2.2.2 2 2).bind fun bt165 => ((posthornref06_reader_is.f bt165.2.2.1 bt165.2.2.2.1 bt165.2.2.2.2.1 bt165.2.2.2.2.2 (⟨#[58]⟩ : ByteArray)).bind fun bt171 => (if bt171.1 = true then ((posthornref06_reader_number.f bt171.2.1 (wrap64 (bt171.2.2.1 + 1)) bt171.2.2.2.1 bt171.2.2.2.2 2 2).bind fun bt176 => (posthornref06_Parse.j3 k x0 x5 x6 x7 x9 x10 bt155.1 bt165.1 bt176.1 bt176.2.2.1 bt176.2.2.2.1 bt176.2.2.2.2.1 bt176.2.2.2.2.2)) else (posthornref06_Parse.j3 k x0 x5 x6 x7 x9 x10 bt155.1 bt165.1 0 bt171.2.1 bt171.2.2.1 bt171.2.2.2.1 bt171.2.2.2.2))))))
def posthornref06_Parse.j3 : Nat → ByteArray → Int → Int → Int → Int → Int → Int → Int → Int → ByteArray → Int → Int → Int → Option (Int × Int × Int × Int × Int × Int × Int × Int × Int)
  | 0, _, _, _, _, _, _, _, _, _, _, _, _, _ => none
  | k + 1, x0, x5, x6, x7, x9, x10, x12, x14, x16, x104000, x104001, x104002, x104003 => (posthornref06_reader_gap.f x104000 x104001 x104002 x104003 false).bind fun bt182 => ((posthornref06_reader_zone.f bt182.1 bt182.2.1 bt182.2.2.1 bt182.2.2.2).bind fun bt186 => ((posthornref06_reader_gap.f bt186.2.1 bt186.2.2.1 bt186.2.2.2.1 bt186.2.2.2.2 true).bind fun bt191 => ((posthornref06_reader_remark.f bt191.1 bt191.2.1 bt191.2.2.1 bt191.2.2.2).bind fun bt195 => ((posthornref06_reader_gap.f bt195.1 bt195.2.1 bt195.2.2.1 bt195.2.2.2 true).bind fun bt199 => (if bt199.2.1 < (x0.size : Int) then ((posthornref06_reader_fail.f bt199.1 bt199.2.1 bt199.2.2.1 bt199.2.2.2 60 bt199.2.1).bind fun bt203 => (posthornref06_Parse.j4 k x5 x6 x7 x9 x10 x12 x14 x16 bt182.2.1 bt186.1 bt203.1 bt203.2.1 bt203.2.2.1 bt203.2.2.2)) else (posthornref06_Parse.j4 k x5 x6 x7 x9 x10 x12 x14 x16 bt182.2.1 bt186.1 bt199.1 bt199.2.1 bt199.2.2.1 bt199.2.2.2))))))
def posthornref06_Parse.j4 : Nat → Int → Int → Int → Int → Int → Int → Int → Int → Int → Int → ByteArray → Int → Int → Int → Option (Int × Int × Int × Int × Int × Int × Int × Int × Int)
  | 0, _, _, _, _, _, _, _, _, _, _, _, _, _, _ => none
  | k + 1, x5, x6, x7, x9, x10, x12, x14, x16, x17, x18, x104000, x104001, x104002, x104003 => if x104002 = 0 then ((posthornref06_Check.f (IntKind.i16.wrap (x10)) (IntKind.i8.wrap (wrap64 (x9 + 1))) (IntKind.i8.wrap (x7)) (IntKind.i8.wrap (x12)) (IntKind.i8.wrap (x14)) (IntKind.i8.wrap (x16)) (IntKind.i16.wrap (x18))).bind fun t208 => (if t208 = 60 then (some (0, 0, 0, 0, 0, 0, 0, t208, x6)) else ((posthornref06_Days.f (IntKind.i16.wrap (x10)) (IntKind.i8.wrap (wrap64 (x9 + 1))) (IntKind.i8.wrap (x7))).bind fun bt209 => (if x5 ≥ 0 then ((posthornref06_Weekday.f bt209.1).bind fun t211 => (posthornref06_Parse.j5 k x6 x17 t208 (x5 != (wrap64 (t211))) (IntKind.i16.wrap (x10)) (IntKind.i8.wrap (wrap64 (x9 + 1))) (IntKind.i8.wrap (x7)) (IntKind.i8.wrap (x12)) (IntKind.i8.wrap (x14)) (IntKind.i8.wrap (x16)) (IntKind.i16.wrap (x18)))) else (posthornref06_Parse.j5 k x6 x17 t208 false (IntKind.i16.wrap (x10)) (IntKind.i8.wrap (wrap64 (x9 + 1))) (IntKind.i8.wrap (x7)) (IntKind.i8.wrap (x12)) (IntKind.i8.wrap (x14)) (IntKind.i8.wrap (x16)) (IntKind.i16.wrap (x18))))))) else (some (0, 0, 0, 0, 0, 0, 0, x104002, x104003))
def posthornref06_Parse.j5 : Nat → Int → Int → Int → Bool → Int → Int → Int → Int → Int → Int → Int → Option (Int × Int × Int × Int × Int × Int × Int × Int × Int)
  | 0, _, _, _, _, _, _, _, _, _, _, _ => none
  | k + 1, x6, x17, x20, x176, x208000, x208001, x208002, x208003, x208004, x208005, x208006 => if x176 = true then (some (0, 0, 0, 0, 0, 0, 0, 60, x6)) else (if x20 = 0 then (some (x208000, x208001, x208002, x208003, x208004, x208005, x208006, 0, 0)) else (some (0, 0, 0, 0, 0, 0, 0, x20, x17)))
end
def posthornref06_Parse.f (k : Nat) (a0 : ByteArray) : Option (Int × Int × Int × Int × Int × Int × Int × Int × Int) := (posthornref06_reader_gap.f a0 0 0 0 true).bind fun bt104 => ((posthornref06_reader_is.f bt104.1 bt104.2.1 bt104.2.2.1 bt104.2.2.2 (⟨#[65, 66, 67, 68, 69, 70, 71, 72, 73, 74, 75, 76, 77, 78, 79, 80, 81, 82, 83, 84, 85, 86, 87, 88, 89, 90, 97, 98, 99, 100, 101, 102, 103, 104, 105, 106, 107, 108, 109, 110, 111, 112, 113, 114, 115, 116, 117, 118, 119, 120, 121, 122]⟩ : ByteArray)).bind fun bt108 => (if bt108.1 = true then ((posthornref06_reader_name.f bt108.2.1 bt108.2.2.1 bt108.2.2.2.1 bt108.2.2.2.2 (⟨#[83, 85, 78, 77, 79, 78, 84, 85, 69, 87, 69, 68, 84, 72, 85, 70, 82, 73, 83, 65, 84]⟩ : ByteArray)).bind fun bt113 => ((posthornref06_reader_mark.f bt113.2.1 bt113.2.2.1 bt113.2.2.2.1 bt113.2.2.2.2 (⟨#[44]⟩ : ByteArray)).bind fun bt118 => ((posthornref06_reader_gap.f bt118.1 bt118.2.1 bt118.2.2.1 bt118.2.2.2 true).bind fun bt122 => (posthornref06_Parse.j0 k a0 bt113.1 bt122.1 bt122.2.1 bt122.2.2.1 bt122.2.2.2)))) else (posthornref06_Parse.j0 k a0 (-1) bt108.2.1 bt108.2.2.1 bt108.2.2.2.1 bt108.2.2.2.2)))
theorem posthornref06_Parse.mono_l : ∀ k, (∀ y0 y1 y2 y3 y4 y5, LeO (posthornref06_Parse.j0 k y0 y1 y2 y3 y4 y5) (posthornref06_Parse.j0 (k + 1) y0 y1 y2 y3 y4 y5)) ∧ (∀ y0 y1 y2 y3 y4 y5 y6 y7 y8 y9 y10 y11, LeO (posthornref06_Parse.j1 k y0 y1 y2 y3 y4 y5 y6 y7 y8 y9 y10 y11) (posthornref06_Parse.j1 (k + 1) y0 y1 y2 y3 y4 y5 y6 y7 y8 y9 y10 y11)) ∧ (∀ y0 y1 y2 y3 y4 y5 y6 y7 y8 y9, LeO (posthornref06_Parse.j2 k y0 y1 y2 y3 y4 y5 y6 y7 y8 y9) (posthornref06_Parse.j2 (k + 1) y0 y1 y2 y3 y4 y5 y6 y7 y8 y9)) ∧ (∀ y0 y1 y2 y3 y4 y5 y6 y7 y8 y9 y10 y11 y12, LeO (posthornref06_Parse.j3 k y0 y1 y2 y3 y4 y5 y6 y7 y8 y9 y10 y11 y12) (posthornref06_Parse.j3 (k + 1) y0 y1 y2 y3 y4 y5 y6 y7 y8 y9 y10 y11 y12)) ∧ (∀ y0 y1 y2 y3 y4 y5 y6 y7 y8 y9 y10 y11 y12 y13, LeO (posthornref06_Parse.j4 k y0 y1 y2 y3 y4 y5 y6 y7 y8 y9 y10 y11 y12 y13) (posthornref06_Parse.j4 (k + 1) y0 y1 y2 y3 y4 y5 y6 y7 y8 y9 y10 y11 y12 y13)) ∧ (∀ y0 y1 y2 y3 y4 y5 y6 y7 y8 y9 y10, LeO (posthornref06_Parse.j5 k y0 y1 y2 y3 y4 y5 y6 y7 y8 y9 y10) (posthornref06_Parse.j5 (k + 1) y0 y1 y2 y3 y4 y5 y6 y7 y8 y9 y10))
  | 0 => ⟨fun _ _ _ _ _ _ r h => by simp [posthornref06_Parse.j0] at h, fun _ _ _ _ _ _ _ _ _ _ _ _ r h => by simp [posthornref06_Parse.j1] at h, fun _ _ _ _ _ _ _ _ _ _ r h => by simp [posthornref06_Parse.j2] at h, fun _ _ _ _ _ _ _ _ _ _ _ _ _ r h => by simp [posthornref06_Parse.j3] at h, fun _ _ _ _ _ _ _ _ _ _ _ _ _ _ r h => by simp [posthornref06_Parse.j4] at h, fun _ _ _ _ _ _ _ _ _ _ _ r h => by simp [posthornref06_Parse.j5] at h⟩
  | k + 1 => by
    obtain ⟨ih0, ih1, ih2, ih3, ih4, ih5⟩ := posthornref06_Parse.mono_l k
    refine ⟨?_, ?_, ?_, ?_, ?_, ?_⟩
    · intro y0 y1 y2 y3 y4 y5
      unfold posthornref06_Parse.j0
      repeat' first
      | (with_reducible exact ih0 _ _ _ _ _ _)
      | (with_reducible exact ih1 _ _ _ _ _ _ _ _ _ _ _ _)
      | (with_reducible exact ih2 _ _ _ _ _ _ _ _ _ _)
      | (with_reducible exact ih3 _ _ _ _ _ _ _ _ _ _ _ _ _)
      | (with_reducible exact ih4 _ _ _ _ _ _ _ _ _ _ _ _ _ _)
      | (with_reducible exact ih5 _ _ _ _ _ _ _ _ _ _ _)
      | (with_reducible exact LeO.refl _)
      | (with_reducible exact LeO.none _)
      | (with_reducible refine LeO.ite ?_ ?_)
      | (with_reducible refine LeO.bind ?_ (fun _ => ?_))
      | exact ih0 _ _ _ _ _ _
      | exact ih1 _ _ _ _ _ _ _ _ _ _ _ _
      | exact ih2 _ _ _ _ _ _ _ _ _ _
      | exact ih3 _ _ _ _ _ _ _ _ _ _ _ _ _
      | exact ih4 _ _ _ _ _ _ _ _ _ _ _ _ _ _
      | exact ih5 _ _ _ _ _ _ _ _ _ _ _
      | exact LeO.none _
      | refine LeO.ite ?_ ?_
      | refine LeO.bind ?_ (fun _ => ?_)
    · intro y0 y1 y2 y3 y4 y5 y6 y7 y8 y9 y10 y11
      unfold posthornref06_Parse.j1
      repeat' first
      | (with_reducible exact ih0 _ _ _ _ _ _)
      | (with_reducible exact ih1 _ _ _ _ _ _ _ _ _ _ _ _)
      | (with_reducible exact ih2 _ _ _ _ _ _ _ _ _ _)
      | (with_reducible exact ih3 _ _ _ _ _ _ _ _ _ _ _ _ _)
      | (with_reducible exact ih4 _ _ _ _ _ _ _ _ _ _ _ _ _ _)
      | (with_reducible exact ih5 _ _ _ _ _ _ _ _ _ _ _)
      | (with_reducible exact LeO.refl _)
      | (with_reducible exact LeO.none _)
      | (with_reducible refine LeO.ite ?_ ?_)
      | (with_reducible refine LeO.bind ?_ (fun _ => ?_))
      | exact ih0 _ _ _ _ _ _
      | exact ih1 _ _ _ _ _ _ _ _ _ _ _ _
      | exact ih2 _ _ _ _ _ _ _ _ _ _
      | exact ih3 _ _ _ _ _ _ _ _ _ _ _ _ _
      | exact ih4 _ _ _ _ _ _ _ _ _ _ _ _ _ _
      | exact ih5 _ _ _ _ _ _ _ _ _ _ _
      | exact LeO.none _
      | refine LeO.ite ?_ ?_
      | refine LeO.bind ?_ (fun _ => ?_)
    · intro y0 y1 y2 y3 y4 y5 y6 y7 y8 y9
      unfold posthornref06_Parse.j2
      repeat' first
      | (with_reducible exact ih0 _ _ _ _ _ _)
      | (with_reducible exact ih1 _ _ _ _ _ _ _ _ _ _ _ _)
      | (with_reducible exact ih2 _ _ _ _ _ _ _ _ _ _)
      | (with_reducible exact ih3 _ _ _ _ _ _ _ _ _ _ _ _ _)
      | (with_reducible exact ih4 _ _ _ _ _ _ _ _ _ _ _ _ _ _)
      | (with_reducible exact ih5 _ _ _ _ _ _ _ _ _ _ _)
      | (with_reducible exact LeO.refl _)
      | (with_reducible exact LeO.none _)
      | (with_reducible refine LeO.ite ?_ ?_)
      | (with_reducible refine LeO.bind ?_ (fun _ => ?_))
      | exact ih0 _ _ _ _ _ _
      | exact ih1 _ _ _ _ _ _ _ _ _ _ _ _
      | exact ih2 _ _ _ _ _ _ _ _ _ _
      | exact ih3 _ _ _ _ _ _ _ _ _ _ _ _ _
      | exact ih4 _ _ _ _ _ _ _ _ _ _ _ _ _ _
      | exact ih5 _ _ _ _ _ _ _ _ _ _ _
      | exact LeO.none _
      | refine LeO.ite ?_ ?_
      | refine LeO.bind ?_ (fun _ => ?_)
    · intro y0 y1 y2 y3 y4 y5 y6 y7 y8 y9 y10 y11 y12
      unfold posthornref06_Parse.j3
      repeat' first
      | (with_reducible exact ih0 _ _ _ _ _ _)
      | (with_reducible exact ih1 _ _ _ _ _ _ _ _ _ _ _ _)
      | (with_reducible exact ih2 _ _ _ _ _ _ _ _ _ _)
      | (with_reducible exact ih3 _ _ _ _ _ _ _ _ _ _ _ _ _)
      | (with_reducible exact ih4 _ _ _ _ _ _ _ _ _ _ _ _ _ _)
      | (with_reducible exact ih5 _ _ _ _ _ _ _ _ _ _ _)
      | (with_reducible exact LeO.refl _)
      | (with_reducible exact LeO.none _)
      | (with_reducible refine LeO.ite ?_ ?_)
      | (with_reducible refine LeO.bind ?_ (fun _ => ?_))
      | exact ih0 _ _ _ _ _ _
      | exact ih1 _ _ _ _ _ _ _ _ _ _ _ _
      | exact ih2 _ _ _ _ _ _ _ _ _ _
      | exact ih3 _ _ _ _ _ _ _ _ _ _ _ _ _
      | exact ih4 _ _ _ _ _ _ _ _ _ _ _ _ _ _
      | exact ih5 _ _ _ _ _ _ _ _ _ _ _
      | exact LeO.none _
      | refine LeO.ite ?_ ?_
      | refine LeO.bind ?_ (fun _ => ?_)
    · intro y0 y1 y2 y3 y4 y5 y6 y7 y8 y9 y10 y11 y12 y13
      unfold posthornref06_Parse.j4
      repeat' first
      | (with_reducible exact ih0 _ _ _ _ _ _)
      | (with_reducible exact ih1 _ _ _ _ _ _ _ _ _ _ _ _)
      | (with_reducible exact ih2 _ _ _ _ _ _ _ _ _ _)
      | (with_reducible exact ih3 _ _ _ _ _ _ _ _ _ _ _ _ _)
      | (with_reducible exact ih4 _ _ _ _ _ _ _ _ _ _ _ _ _ _)
      | (with_reducible exact ih5 _ _ _ _ _ _ _ _ _ _ _)
      | (with_reducible exact LeO.refl _)
      | (with_reducible exact LeO.none _)
      | (with_reducible refine LeO.ite ?_ ?_)
      | (with_reducible refine LeO.bind ?_ (fun _ => ?_))
      | exact ih0 _ _ _ _ _ _
      | exact ih1 _ _ _ _ _ _ _ _ _ _ _ _
      | exact ih2 _ _ _ _ _ _ _ _ _ _
      | exact ih3 _ _ _ _ _ _ _ _ _ _ _ _ _
      | exact ih4 _ _ _ _ _ _ _ _ _ _ _ _ _ _
      | exact ih5 _ _ _ _ _ _ _ _ _ _ _
      | exact LeO.none _
      | refine LeO.ite ?_ ?_
      | refine LeO.bind ?_ (fun _ => ?_)
    · intro y0 y1 y2 y3 y4 y5 y6 y7 y8 y9 y10
      unfold posthornref06_Parse.j5
      repeat' first
      | (with_reducible exact ih0 _ _ _ _ _ _)
      | (with_reducible exact ih1 _ _ _ _ _ _ _ _ _ _ _ _)
      | (with_reducible exact ih2 _ _ _ _ _ _ _ _ _ _)
      | (with_reducible exact ih3 _ _ _ _ _ _ _ _ _ _ _ _ _)
      | (with_reducible exact ih4 _ _ _ _ _ _ _ _ _ _ _ _ _ _)
      | (with_reducible exact ih5 _ _ _ _ _ _ _ _ _ _ _)
      | (with_reducible exact LeO.refl _)
      | (with_reducible exact LeO.none _)
      | (with_reducible refine LeO.ite ?_ ?_)
      | (with_reducible refine LeO.bind ?_ (fun _ => ?_))
      | exact ih0 _ _ _ _ _ _
      | exact ih1 _ _ _ _ _ _ _ _ _ _ _ _
      | exact ih2 _ _ _ _ _ _ _ _ _ _
      | exact ih3 _ _ _ _ _ _ _ _ _ _ _ _ _
      | exact ih4 _ _ _ _ _ _ _ _ _ _ _ _ _ _
      | exact ih5 _ _ _ _ _ _ _ _ _ _ _
      | exact LeO.none _
      | refine LeO.ite ?_ ?_
      | refine LeO.bind ?_ (fun _ => ?_)
theorem posthornref06_Parse.mono : ∀ a0 k, LeO (posthornref06_Parse.f k a0) (posthornref06_Parse.f (k + 1) a0) := by
  intro a0 k
  obtain ⟨ih0, ih1, ih2, ih3, ih4, ih5⟩ := posthornref06_Parse.mono_l k
  unfold posthornref06_Parse.f
  repeat' first
      | (with_reducible exact ih0 _ _ _ _ _ _)
      | (with_reducible exact ih1 _ _ _ _ _ _ _ _ _ _ _ _)
      | (with_reducible exact ih2 _ _ _ _ _ _ _ _ _ _)
      | (with_reducible exact ih3 _ _ _ _ _ _ _ _ _ _ _ _ _)
      | (with_reducible exact ih4 _ _ _ _ _ _ _ _ _ _ _ _ _ _)
      | (with_reducible exact ih5 _ _ _ _ _ _ _ _ _ _ _)
      | (with_reducible exact LeO.refl _)
      | (with_reducible exact LeO.none _)
      | (with_reducible refine LeO.ite ?_ ?_)
      | (with_reducible refine LeO.bind ?_ (fun _ => ?_))
      | exact ih0 _ _ _ _ _ _
      | exact ih1 _ _ _ _ _ _ _ _ _ _ _ _
      | exact ih2 _ _ _ _ _ _ _ _ _ _
      | exact ih3 _ _ _ _ _ _ _ _ _ _ _ _ _
      | exact ih4 _ _ _ _ _ _ _ _ _ _ _ _ _ _
      | exact ih5 _ _ _ _ _ _ _ _ _ _ _
      | exact LeO.none _
      | refine LeO.ite ?_ ?_
      | refine LeO.bind ?_ (fun _ => ?_)
end Go.Proofs.YtnmhkmkaklhapaaDoor.S
