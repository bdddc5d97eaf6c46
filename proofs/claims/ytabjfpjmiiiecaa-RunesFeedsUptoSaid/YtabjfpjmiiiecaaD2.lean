-- Printed by wip/tools/gprint.py (this session's program) out of the translation. Not trusted: Lean checks it.
import Derived.Test.YtabjfpjmiiiecaaD0
import Derived.Test.YtabjfpjmiiiecaaD1
namespace Go.Proofs.Ytabjfpjmiiiecaa.D
open Go.RowKit Go.Proofs.Ytabjfpjmiiiecaa.M Go.Proofs.Ytabjfpjmiiiecaa.MN Go.Proofs.YtabjfpjmiiiecaaW.PrintWords Go.Proofs.YtabjfpjmiiiecaaW.PrintLast Go.Proofs.YtabjfpjmiiiecaaW.PrintMore
attribute [local go_sem] max2_int min2_int max_two min_two max_three min_three max_four min_four   -- for this text's walks alone
set_option linter.unusedVariables false
set_option linter.unusedSimpArgs false

/-! ### runes_Puny: function 16 -/
mutual
def runes_Puny.l0 : Nat → List Int → List Int → List Int → Int → Int → Option (ByteArray × Int)
  | 0, _, _, _, _, _ => none
  | k + 1, x0, x4, x20, x21, x22 => if x22 < x21 then (if 0 ≤ x22 then (if x22 < (x20.length : Int) then ((runes_is.f (wrap64 (rd x20 x22))).bind fun t123 => (if t123 = true then (if (rd x20 x22) < 128 then (if x4.length < 140737488355328 then (runes_Puny.l0 k x0 (x4 ++ [(rd x20 x22) % 256]) x20 x21 (wrap64 (x22 + 1))) else (none)) else (runes_Puny.l0 k x0 x4 x20 x21 (wrap64 (x22 + 1)))) else (some ((⟨#[]⟩ : ByteArray), 50)))) else (none)) else (none)) else (if (x4.length : Int) > 0 then (if x4.length < 140737488355328 then (runes_Puny.j1 k x0 (x4 ++ [45]) (x4.length : Int)) else (none)) else (runes_Puny.j1 k x0 x4 (x4.length : Int)))
def runes_Puny.j1 : Nat → List Int → List Int → Int → Option (ByteArray × Int)
  | 0, _, _, _ => none
  | k + 1, x0, x4, x7 => runes_Puny.l1 k x0 x4 x7 128 0 72 x7
def runes_Puny.l1 : Nat → List Int → List Int → Int → Int → Int → Int → Int → Option (ByteArray × Int)
  | 0, _, _, _, _, _, _, _ => none
  | k + 1, x0, x4, x7, x8, x9, x10, x11 => if x11 < (x0.length : Int) then (runes_Puny.l2 k x0 x4 x7 x8 x9 x10 x11 1114112 x0 (x0.length : Int) 0) else (some (strOfNums x4, 0))
def runes_Puny.l2 : Nat → List Int → List Int → Int → Int → Int → Int → Int → Int → List Int → Int → Int → Option (ByteArray × Int)
  | 0, _, _, _, _, _, _, _, _, _, _, _ => none
  | k + 1, x0, x4, x7, x8, x9, x10, x11, x12, x50, x51, x52 => if x52 < x51 then (if 0 ≤ x52 then (if x52 < (x50.length : Int) then (if (wrap64 (rd x50 x52)) ≥ x8 then (if (wrap64 (rd x50 x52)) < x12 then (runes_Puny.l2 k x0 x4 x7 x8 x9 x10 x11 (wrap64 (rd x50 x52)) x50 x51 (wrap64 (x52 + 1))) else (runes_Puny.l2 k x0 x4 x7 x8 x9 x10 x11 x12 x50 x51 (wrap64 (x52 + 1)))) else (runes_Puny.l2 k x0 x4 x7 x8 x9 x10 x11 x12 x50 x51 (wrap64 (x52 + 1)))) else (none)) else (none)) else (runes_Puny.l3 k x0 x4 x7 x12 (wrap64 (x9 + (wrap64 ((wrap64 (x12 - x8)) * (wrap64 (x11 + 1)))))) x10 x11 x0 (x0.length : Int) 0)
def runes_Puny.l3 : Nat → List Int → List Int → Int → Int → Int → Int → Int → List Int → Int → Int → Option (ByteArray × Int)
  | 0, _, _, _, _, _, _, _, _, _, _ => none
  | k + 1, x0, x4, x7, x8, x9, x10, x11, x78, x79, x80 => if x80 < x79 then (if 0 ≤ x80 then (if x80 < (x78.length : Int) then (if (wrap64 (rd x78 x80)) < x8 then (runes_Puny.j5 k x0 x4 x7 x8 (wrap64 (x9 + 1)) x10 x11 (rd x78 x80) x78 x79 x80) else (runes_Puny.j5 k x0 x4 x7 x8 x9 x10 x11 (rd x78 x80) x78 x79 x80)) else (none)) else (none)) else (runes_Puny.l1 k x0 x4 x7 (wrap64 (x8 + 1)) (wrap64 (x9 + 1)) x10 x11)
def runes_Puny.j5 : Nat → List Int → List Int → Int → Int → Int → Int → Int → Int → List Int → Int → Int → Option (ByteArray × Int)
  | 0, _, _, _, _, _, _, _, _, _, _, _ => none
  | k + 1, x0, x4, x7, x8, x9, x10, x11, x16, x78, x79, x80 => if (wrap64 (x16)) = x8 then (if x9 > 2147483647 then (some ((⟨#[]⟩ : ByteArray), 52)) else (runes_Puny.l4 k x0 x4 x7 x8 x9 x10 x11 x9 36 x78 x79 x80)) else (runes_Puny.l3 k x0 x4 x7 x8 x9 x10 x11 x78 x79 (wrap64 (x80 + 1)))
def runes_Puny.l4 : Nat → List Int → List Int → Int → Int → Int → Int → Int → Int → Int → List Int → Int → Int → Option (ByteArray × Int)
  | 0, _, _, _, _, _, _, _, _, _, _, _, _ => none
  | k + 1, x0, x4, x7, x8, x9, x10, x11, x17, x18, x78, x79, x80 => (runes_bound.f x18 x10).bind fun t132 => (if x17 < t132 then ((runes_digit.f x17).bind fun t133 => (if x4.length < 140737488355328 then ((runes_adapt.f k x9 (wrap64 (x11 + 1)) (x11 == x7)).bind fun t137 => (runes_Puny.l3 k x0 (x4 ++ [t133]) x7 x8 0 t137 (wrap64 (x11 + 1)) x78 x79 (wrap64 (x80 + 1)))) else (none))) else (if (wrap64 (36 - t132)) = 0 then (none) else ((runes_digit.f (wrap64 (t132 + (Int.tmod (wrap64 (x17 - t132)) (wrap64 (36 - t132)))))).bind fun t138 => (if x4.length < 140737488355328 then (runes_Puny.l4 k x0 (x4 ++ [t138]) x7 x8 x9 x10 x11 (wrap64 (Int.tdiv (wrap64 (x17 - t132)) (wrap64 (36 - t132)))) (wrap64 (x18 + 36)) x78 x79 x80) else (none)))))
end
def runes_Puny.f (k : Nat) (l0 : List Int) : Option (ByteArray × Int) := runes_Puny.l0 k l0 ([] : List Int) l0 (l0.length : Int) 0
theorem runes_Puny.mono_l : ∀ k, (∀ y0 y1 y2 y3 y4, LeO (runes_Puny.l0 k y0 y1 y2 y3 y4) (runes_Puny.l0 (k + 1) y0 y1 y2 y3 y4)) ∧ (∀ y0 y1 y2, LeO (runes_Puny.j1 k y0 y1 y2) (runes_Puny.j1 (k + 1) y0 y1 y2)) ∧ (∀ y0 y1 y2 y3 y4 y5 y6, LeO (runes_Puny.l1 k y0 y1 y2 y3 y4 y5 y6) (runes_Puny.l1 (k + 1) y0 y1 y2 y3 y4 y5 y6)) ∧ (∀ y0 y1 y2 y3 y4 y5 y6 y7 y8 y9 y10, LeO (runes_Puny.l2 k y0 y1 y2 y3 y4 y5 y6 y7 y8 y9 y10) (runes_Puny.l2 (k + 1) y0 y1 y2 y3 y4 y5 y6 y7 y8 y9 y10)) ∧ (∀ y0 y1 y2 y3 y4 y5 y6 y7 y8 y9, LeO (runes_Puny.l3 k y0 y1 y2 y3 y4 y5 y6 y7 y8 y9) (runes_Puny.l3 (k + 1) y0 y1 y2 y3 y4 y5 y6 y7 y8 y9)) ∧ (∀ y0 y1 y2 y3 y4 y5 y6 y7 y8 y9 y10, LeO (runes_Puny.j5 k y0 y1 y2 y3 y4 y5 y6 y7 y8 y9 y10) (runes_Puny.j5 (k + 1) y0 y1 y2 y3 y4 y5 y6 y7 y8 y9 y10)) ∧ (∀ y0 y1 y2 y3 y4 y5 y6 y7 y8 y9 y10 y11, LeO (runes_Puny.l4 k y0 y1 y2 y3 y4 y5 y6 y7 y8 y9 y10 y11) (runes_Puny.l4 (k + 1) y0 y1 y2 y3 y4 y5 y6 y7 y8 y9 y10 y11))
  | 0 => ⟨fun _ _ _ _ _ r h => by simp [runes_Puny.l0] at h, fun _ _ _ r h => by simp [runes_Puny.j1] at h, fun _ _ _ _ _ _ _ r h => by simp [runes_Puny.l1] at h, fun _ _ _ _ _ _ _ _ _ _ _ r h => by simp [runes_Puny.l2] at h, fun _ _ _ _ _ _ _ _ _ _ r h => by simp [runes_Puny.l3] at h, fun _ _ _ _ _ _ _ _ _ _ _ r h => by simp [runes_Puny.j5] at h, fun _ _ _ _ _ _ _ _ _ _ _ _ r h => by simp [runes_Puny.l4] at h⟩
  | k + 1 => by
    obtain ⟨ih0, ih1, ih2, ih3, ih4, ih5, ih6⟩ := runes_Puny.mono_l k
    refine ⟨?_, ?_, ?_, ?_, ?_, ?_, ?_⟩
    · intro y0 y1 y2 y3 y4
      unfold runes_Puny.l0
      repeat' first
      | (with_reducible exact ih0 _ _ _ _ _)
      | (with_reducible exact ih1 _ _ _)
      | (with_reducible exact ih2 _ _ _ _ _ _ _)
      | (with_reducible exact ih3 _ _ _ _ _ _ _ _ _ _ _)
      | (with_reducible exact ih4 _ _ _ _ _ _ _ _ _ _)
      | (with_reducible exact ih5 _ _ _ _ _ _ _ _ _ _ _)
      | (with_reducible exact ih6 _ _ _ _ _ _ _ _ _ _ _ _)
      | (with_reducible exact runes_adapt.mono _ _ _ _)
      | (with_reducible exact LeO.refl _)
      | (with_reducible exact LeO.none _)
      | (with_reducible refine LeO.ite ?_ ?_)
      | (with_reducible refine LeO.bind ?_ (fun _ => ?_))
      | exact ih0 _ _ _ _ _
      | exact ih1 _ _ _
      | exact ih2 _ _ _ _ _ _ _
      | exact ih3 _ _ _ _ _ _ _ _ _ _ _
      | exact ih4 _ _ _ _ _ _ _ _ _ _
      | exact ih5 _ _ _ _ _ _ _ _ _ _ _
      | exact ih6 _ _ _ _ _ _ _ _ _ _ _ _
      | exact runes_adapt.mono _ _ _ _
      | exact LeO.none _
      | refine LeO.ite ?_ ?_
      | refine LeO.bind ?_ (fun _ => ?_)
    · intro y0 y1 y2
      unfold runes_Puny.j1
      repeat' first
      | (with_reducible exact ih0 _ _ _ _ _)
      | (with_reducible exact ih1 _ _ _)
      | (with_reducible exact ih2 _ _ _ _ _ _ _)
      | (with_reducible exact ih3 _ _ _ _ _ _ _ _ _ _ _)
      | (with_reducible exact ih4 _ _ _ _ _ _ _ _ _ _)
      | (with_reducible exact ih5 _ _ _ _ _ _ _ _ _ _ _)
      | (with_reducible exact ih6 _ _ _ _ _ _ _ _ _ _ _ _)
      | (with_reducible exact runes_adapt.mono _ _ _ _)
      | (with_reducible exact LeO.refl _)
      | (with_reducible exact LeO.none _)
      | (with_reducible refine LeO.ite ?_ ?_)
      | (with_reducible refine LeO.bind ?_ (fun _ => ?_))
      | exact ih0 _ _ _ _ _
      | exact ih1 _ _ _
      | exact ih2 _ _ _ _ _ _ _
      | exact ih3 _ _ _ _ _ _ _ _ _ _ _
      | exact ih4 _ _ _ _ _ _ _ _ _ _
      | exact ih5 _ _ _ _ _ _ _ _ _ _ _
      | exact ih6 _ _ _ _ _ _ _ _ _ _ _ _
      | exact runes_adapt.mono _ _ _ _
      | exact LeO.none _
      | refine LeO.ite ?_ ?_
      | refine LeO.bind ?_ (fun _ => ?_)
    · intro y0 y1 y2 y3 y4 y5 y6
      unfold runes_Puny.l1
      repeat' first
      | (with_reducible exact ih0 _ _ _ _ _)
      | (with_reducible exact ih1 _ _ _)
      | (with_reducible exact ih2 _ _ _ _ _ _ _)
      | (with_reducible exact ih3 _ _ _ _ _ _ _ _ _ _ _)
      | (with_reducible exact ih4 _ _ _ _ _ _ _ _ _ _)
      | (with_reducible exact ih5 _ _ _ _ _ _ _ _ _ _ _)
      | (with_reducible exact ih6 _ _ _ _ _ _ _ _ _ _ _ _)
      | (with_reducible exact runes_adapt.mono _ _ _ _)
      | (with_reducible exact LeO.refl _)
      | (with_reducible exact LeO.none _)
      | (with_reducible refine LeO.ite ?_ ?_)
      | (with_reducible refine LeO.bind ?_ (fun _ => ?_))
      | exact ih0 _ _ _ _ _
      | exact ih1 _ _ _
      | exact ih2 _ _ _ _ _ _ _
      | exact ih3 _ _ _ _ _ _ _ _ _ _ _
      | exact ih4 _ _ _ _ _ _ _ _ _ _
      | exact ih5 _ _ _ _ _ _ _ _ _ _ _
      | exact ih6 _ _ _ _ _ _ _ _ _ _ _ _
      | exact runes_adapt.mono _ _ _ _
      | exact LeO.none _
      | refine LeO.ite ?_ ?_
      | refine LeO.bind ?_ (fun _ => ?_)
    · intro y0 y1 y2 y3 y4 y5 y6 y7 y8 y9 y10
      unfold runes_Puny.l2
      repeat' first
      | (with_reducible exact ih0 _ _ _ _ _)
      | (with_reducible exact ih1 _ _ _)
      | (with_reducible exact ih2 _ _ _ _ _ _ _)
      | (with_reducible exact ih3 _ _ _ _ _ _ _ _ _ _ _)
      | (with_reducible exact ih4 _ _ _ _ _ _ _ _ _ _)
      | (with_reducible exact ih5 _ _ _ _ _ _ _ _ _ _ _)
      | (with_reducible exact ih6 _ _ _ _ _ _ _ _ _ _ _ _)
      | (with_reducible exact runes_adapt.mono _ _ _ _)
      | (with_reducible exact LeO.refl _)
      | (with_reducible exact LeO.none _)
      | (with_reducible refine LeO.ite ?_ ?_)
      | (with_reducible refine LeO.bind ?_ (fun _ => ?_))
      | exact ih0 _ _ _ _ _
      | exact ih1 _ _ _
      | exact ih2 _ _ _ _ _ _ _
      | exact ih3 _ _ _ _ _ _ _ _ _ _ _
      | exact ih4 _ _ _ _ _ _ _ _ _ _
      | exact ih5 _ _ _ _ _ _ _ _ _ _ _
      | exact ih6 _ _ _ _ _ _ _ _ _ _ _ _
      | exact runes_adapt.mono _ _ _ _
      | exact LeO.none _
      | refine LeO.ite ?_ ?_
      | refine LeO.bind ?_ (fun _ => ?_)
    · intro y0 y1 y2 y3 y4 y5 y6 y7 y8 y9
      unfold runes_Puny.l3
      repeat' first
      | (with_reducible exact ih0 _ _ _ _ _)
      | (with_reducible exact ih1 _ _ _)
      | (with_reducible exact ih2 _ _ _ _ _ _ _)
      | (with_reducible exact ih3 _ _ _ _ _ _ _ _ _ _ _)
      | (with_reducible exact ih4 _ _ _ _ _ _ _ _ _ _)
      | (with_reducible exact ih5 _ _ _ _ _ _ _ _ _ _ _)
      | (with_reducible exact ih6 _ _ _ _ _ _ _ _ _ _ _ _)
      | (with_reducible exact runes_adapt.mono _ _ _ _)
      | (with_reducible exact LeO.refl _)
      | (with_reducible exact LeO.none _)
      | (with_reducible refine LeO.ite ?_ ?_)
      | (with_reducible refine LeO.bind ?_ (fun _ => ?_))
      | exact ih0 _ _ _ _ _
      | exact ih1 _ _ _
      | exact ih2 _ _ _ _ _ _ _
      | exact ih3 _ _ _ _ _ _ _ _ _ _ _
      | exact ih4 _ _ _ _ _ _ _ _ _ _
      | exact ih5 _ _ _ _ _ _ _ _ _ _ _
      | exact ih6 _ _ _ _ _ _ _ _ _ _ _ _
      | exact runes_adapt.mono _ _ _ _
      | exact LeO.none _
      | refine LeO.ite ?_ ?_
      | refine LeO.bind ?_ (fun _ => ?_)
    · intro y0 y1 y2 y3 y4 y5 y6 y7 y8 y9 y10
      unfold runes_Puny.j5
      repeat' first
      | (with_reducible exact ih0 _ _ _ _ _)
      | (with_reducible exact ih1 _ _ _)
      | (with_reducible exact ih2 _ _ _ _ _ _ _)
      | (with_reducible exact ih3 _ _ _ _ _ _ _ _ _ _ _)
      | (with_reducible exact ih4 _ _ _ _ _ _ _ _ _ _)
      | (with_reducible exact ih5 _ _ _ _ _ _ _ _ _ _ _)
      | (with_reducible exact ih6 _ _ _ _ _ _ _ _ _ _ _ _)
      | (with_reducible exact runes_adapt.mono _ _ _ _)
      | (with_reducible exact LeO.refl _)
      | (with_reducible exact LeO.none _)
      | (with_reducible refine LeO.ite ?_ ?_)
      | (with_reducible refine LeO.bind ?_ (fun _ => ?_))
      | exact ih0 _ _ _ _ _
      | exact ih1 _ _ _
      | exact ih2 _ _ _ _ _ _ _
      | exact ih3 _ _ _ _ _ _ _ _ _ _ _
      | exact ih4 _ _ _ _ _ _ _ _ _ _
      | exact ih5 _ _ _ _ _ _ _ _ _ _ _
      | exact ih6 _ _ _ _ _ _ _ _ _ _ _ _
      | exact runes_adapt.mono _ _ _ _
      | exact LeO.none _
      | refine LeO.ite ?_ ?_
      | refine LeO.bind ?_ (fun _ => ?_)
    · intro y0 y1 y2 y3 y4 y5 y6 y7 y8 y9 y10 y11
      unfold runes_Puny.l4
      repeat' first
      | (with_reducible exact ih0 _ _ _ _ _)
      | (with_reducible exact ih1 _ _ _)
      | (with_reducible exact ih2 _ _ _ _ _ _ _)
      | (with_reducible exact ih3 _ _ _ _ _ _ _ _ _ _ _)
      | (with_reducible exact ih4 _ _ _ _ _ _ _ _ _ _)
      | (with_reducible exact ih5 _ _ _ _ _ _ _ _ _ _ _)
      | (with_reducible exact ih6 _ _ _ _ _ _ _ _ _ _ _ _)
      | (with_reducible exact runes_adapt.mono _ _ _ _)
      | (with_reducible exact LeO.refl _)
      | (with_reducible exact LeO.none _)
      | (with_reducible refine LeO.ite ?_ ?_)
      | (with_reducible refine LeO.bind ?_ (fun _ => ?_))
      | exact ih0 _ _ _ _ _
      | exact ih1 _ _ _
      | exact ih2 _ _ _ _ _ _ _
      | exact ih3 _ _ _ _ _ _ _ _ _ _ _
      | exact ih4 _ _ _ _ _ _ _ _ _ _
      | exact ih5 _ _ _ _ _ _ _ _ _ _ _
      | exact ih6 _ _ _ _ _ _ _ _ _ _ _ _
      | exact runes_adapt.mono _ _ _ _
      | exact LeO.none _
      | refine LeO.ite ?_ ?_
      | refine LeO.bind ?_ (fun _ => ?_)
theorem runes_Puny.mono : ∀ a0 k, LeO (runes_Puny.f k a0) (runes_Puny.f (k + 1) a0) := by
  intro a0 k
  obtain ⟨ih0, ih1, ih2, ih3, ih4, ih5, ih6⟩ := runes_Puny.mono_l k
  unfold runes_Puny.f
  repeat' first
      | (with_reducible exact ih0 _ _ _ _ _)
      | (with_reducible exact ih1 _ _ _)
      | (with_reducible exact ih2 _ _ _ _ _ _ _)
      | (with_reducible exact ih3 _ _ _ _ _ _ _ _ _ _ _)
      | (with_reducible exact ih4 _ _ _ _ _ _ _ _ _ _)
      | (with_reducible exact ih5 _ _ _ _ _ _ _ _ _ _ _)
      | (with_reducible exact ih6 _ _ _ _ _ _ _ _ _ _ _ _)
      | (with_reducible exact runes_adapt.mono _ _ _ _)
      | (with_reducible exact LeO.refl _)
      | (with_reducible exact LeO.none _)
      | (with_reducible refine LeO.ite ?_ ?_)
      | (with_reducible refine LeO.bind ?_ (fun _ => ?_))
      | exact ih0 _ _ _ _ _
      | exact ih1 _ _ _
      | exact ih2 _ _ _ _ _ _ _
      | exact ih3 _ _ _ _ _ _ _ _ _ _ _
      | exact ih4 _ _ _ _ _ _ _ _ _ _
      | exact ih5 _ _ _ _ _ _ _ _ _ _ _
      | exact ih6 _ _ _ _ _ _ _ _ _ _ _ _
      | exact runes_adapt.mono _ _ _ _
      | exact LeO.none _
      | refine LeO.ite ?_ ?_
      | refine LeO.bind ?_ (fun _ => ?_)
set_option maxHeartbeats 8000000 in
set_option maxRecDepth 100000 in
theorem runes_Puny.calls (k : Nat) (A0 : Option Addr) (c0 : Nat) (l0 : List Int) (r1 : ByteArray) (r2 : Int) (w : World) (hr0 : Kd.C (Kd.int .i32) w A0 l0.length l0) (hc0 : l0.length ≤ c0) (h : runes_Puny.f k l0 = some (r1, r2)) :
    Calls Try.prog 16 #[.slice A0 l0.length c0] w fun e w' => e = .returned (.tuple #[.string r1, .int .i64 r2]) ∧ Below w.heap.size w w' := by
  have HR0 := Aside0.mk hr0
  have HC0 := Aside0.mk hc0
  clear hr0 hc0
  have HB := Aside0.mk (Below.refl w.heap.size w)
  have H : (runes_Puny.l0 k l0 ([] : List Int) l0 (l0.length : Int) 0) = some (r1, r2) := h
  clear h
  have H' := Aside0.mk H
  clear H
  go_enter Try.func16, Try.ntmps16
  go_wp2
  go_loopg [4, 22] k (fun kq v4 v22 w' => ∃ (x4_1 : List Int) (x22_1 : Int), v22 = .int .i64 x22_1 ∧ Aside0 (runes_Puny.l0 kq l0 x4_1 l0 (l0.length : Int) x22_1 = some (r1, r2)) ∧ Aside0 (kq ≤ k) ∧ Aside0 (Kd.R (Kd.int .u8) 5 w' w.heap.size (fun _ => True) v4 x4_1) ∧ Aside0 (Below w.heap.size w w'))
  case atStart => exact ⟨(([] : List Int)), (0), (by first | rfl | (simp; done) | (simp [*]; done)), H', ⟨Nat.le_refl _⟩, ⟨by first | exact Kd.R_nil _ _ _ _ _ | exact Kd.N_nil _ _ _ _ _ | exact Kd.V_nil _ _ _ _ _ | exact Kd.Q_nil _ _ _ _ _ | exact Kd.S_nil _ _ _ _ _⟩, ⟨by repeat (first | (with_reducible first | exact HB.out | apply below_alloc | apply pw_below_drewN | apply below_drew1) | exact HB.out)⟩⟩
  case round =>
    clear H'
    try clear c1
    obtain ⟨x4_1, x22_1, rfl, HA, HK1, HO_4, HB⟩ := hrel
    cases gk with
    | zero => exact absurd HA.out (by simp [runes_Puny.l0])
    | succ k1 =>
      have H := HA.out
      clear HA
      simp only [runes_Puny.l0] at H
      by_cases c2 : x22_1 < (l0.length : Int)
      · rw [if_pos c2] at H
        have c2b0 : decide (x22_1 < (l0.length : Int)) = true := decide_eq_true c2
        clear c2
        by_cases c3 : 0 ≤ x22_1
        · rw [if_pos c3] at H
          have c3b0 : decide (0 ≤ x22_1) = true := decide_eq_true c3
          clear c3
          by_cases c4 : x22_1 < (l0.length : Int)
          · rw [if_pos c4] at H
            have c4b0 : decide (x22_1 < (l0.length : Int)) = true := decide_eq_true c4
            clear c4
            replace H := Option.bind_eq_some_iff.mp H
            obtain ⟨t123, A50, H⟩ := H
            replace H : (if t123 = true then (if (rd l0 x22_1) < 128 then (if x4_1.length < 140737488355328 then (runes_Puny.l0 k1 l0 (x4_1 ++ [(rd l0 x22_1) % 256]) l0 (l0.length : Int) (wrap64 (x22_1 + 1))) else (none)) else (runes_Puny.l0 k1 l0 x4_1 l0 (l0.length : Int) (wrap64 (x22_1 + 1)))) else (some ((⟨#[]⟩ : ByteArray), 50))) = some (r1, r2) := H
            have A5 := Aside0.mk A50
            clear A50
            by_cases c6 : t123 = true
            · subst c6
              have H1 : (if (rd l0 x22_1) < 128 then (if x4_1.length < 140737488355328 then (runes_Puny.l0 k1 l0 (x4_1 ++ [(rd l0 x22_1) % 256]) l0 (l0.length : Int) (wrap64 (x22_1 + 1))) else (none)) else (runes_Puny.l0 k1 l0 x4_1 l0 (l0.length : Int) (wrap64 (x22_1 + 1)))) = some (r1, r2) := by rw [if_pos rfl] at H; exact H
              clear H
              have H := H1
              clear H1
              by_cases c7 : (rd l0 x22_1) < 128
              · rw [if_pos c7] at H
                have c7b0 : decide ((rd l0 x22_1) < 128) = true := decide_eq_true c7
                clear c7
                by_cases c8 : x4_1.length < 140737488355328
                · rw [if_pos c8] at H
                  have LMc8 := Aside0.mk c8
                  clear c8
                  obtain ⟨y124, hy124⟩ : ∃ y_ : List Int, y_ = (x4_1 ++ [(rd l0 x22_1) % 256]) := ⟨_, rfl⟩
                  replace H : (runes_Puny.l0 k1 l0 y124 l0 (l0.length : Int) (wrap64 (x22_1 + 1))) = some (r1, r2) := by first | (rw [hy124]; with_reducible exact H) | (have H2_ := (Option.bind_some _ _).symm.trans H; rw [hy124]; with_reducible exact H2_) | (have H2_ := (Option.bind_some _ _).symm.trans H; with_reducible exact H2_) | with_reducible exact H | (rw [hy124]; exact H) | exact H
                  have Ny124 := Aside0.mk hy124
                  clear hy124
                  have H' := Aside0.mk H
                  clear H
                  have p122 : 0 ≤ (x22_1 : Int) := of_decide_eq_true (by first | (with_reducible assumption) | assumption)
                  have q122 : x22_1 < (l0.length : Int) := of_decide_eq_true (by first | (with_reducible assumption) | assumption)
                  obtain ⟨ad122, e122, hx122_0⟩ := Kd.at_int HR0.out x22_1 p122 q122
                  cases e122
                  replace hx122_0 := (HB.out.cell (World.block_lt_of_cell? w _ hx122_0)).trans hx122_0
                  replace p122 := eq_true p122
                  replace q122 := eq_true q122
                  go_wp2_with (first | ((with_reducible refine gate_callee (f := 40) rfl ?_); refine goesL_ (some 28) rfl rfl Try.func40 (by kernel_rfl) rfl #[.int .i64 (wrap64 (rd l0 x22_1))] rfl (by (try simp only [List.map_toArray, List.map_cons, List.map_nil]); first | done | rfl | (simp only [List.length_drop, List.length_take]; rfl)) ?_; (with_reducible refine (runes_is.calls (wrap64 (rd l0 x22_1)) true _ A5.out).mono ?_); rintro e w' ⟨rfl, ⟨nd, rfl⟩⟩; refine ⟨_, rfl, ?_⟩) | ((with_reducible refine gate_builtin (b := .append) (xs := #[.tmp 32, .tmp 35]) rfl ?_); at_builtin; refine Kd.R_append (Kd.int .u8) (w0 := w) w.heap.size rfl (.tmp 32) (.tmp 35) 27 5 (.int .u8 0) 1 rfl Try.underlying27 info5 rfl (by decide) (by omega) u4 x4_1 ((rd l0 x22_1) % 256) [.int .u8 ((rd l0 x22_1) % 256)] (fun _ => True) (fun _ => False) rfl rfl ?aP (fun _ hk => hk.elim) ?aF ?aO ?aB ?aS ?aL ?_; (case aP => exact rfl); (case aB => exact (by repeat (first | (with_reducible first | exact HB.out | apply below_alloc | apply pw_below_drewN | apply below_drew1) | exact HB.out))); (case aF => exact (fun _ _ => trivial)); (case aO => exact (by (with_reducible repeat (first | apply Kd.R_alloc | apply Kd.R_drewN | apply Kd.R_drew)); exact HO_4.out)); (case aS => exact (below_size (by repeat (first | (with_reducible first | exact HB.out | apply below_alloc | apply pw_below_drewN | apply below_drew1) | exact HB.out)))); (case aL => have := LMc8.out; omega); intro v125 w9 ho hb hg hat; rw [← Ny124.out] at ho; have n0_ := Aside0.mk (hb); have n1_ := Aside0.mk (ho); clear HB; clear HO_4; have HB := n0_; have HO126 := n1_; clear n0_ n1_; clear ho hb hg hat))
                  go_roundg k1
                  case measure => have := HK1.out; omega
                  case rel => exact ⟨(y124), (wrap64 (x22_1 + 1)), (by first | rfl | (simp; done) | (simp [*]; done)), H', ⟨by have := HK1.out; omega⟩, ⟨by (with_reducible repeat (first | apply Kd.R_alloc | apply Kd.R_drewN | apply Kd.R_drew)); exact HO126.out⟩, ⟨by repeat (first | (with_reducible first | exact HB.out | apply below_alloc | apply pw_below_drewN | apply below_drew1) | exact HB.out)⟩⟩
                · rw [if_neg c8] at H
                  exact absurd H (by simp)
              · rw [if_neg c7] at H
                have c7b0 : decide ((rd l0 x22_1) < 128) = false := decide_eq_false c7
                clear c7
                have H' := Aside0.mk H
                clear H
                have p122 : 0 ≤ (x22_1 : Int) := of_decide_eq_true (by first | (with_reducible assumption) | assumption)
                have q122 : x22_1 < (l0.length : Int) := of_decide_eq_true (by first | (with_reducible assumption) | assumption)
                obtain ⟨ad122, e122, hx122_0⟩ := Kd.at_int HR0.out x22_1 p122 q122
                cases e122
                replace hx122_0 := (HB.out.cell (World.block_lt_of_cell? w _ hx122_0)).trans hx122_0
                replace p122 := eq_true p122
                replace q122 := eq_true q122
                go_wp2_with (first | ((with_reducible refine gate_callee (f := 40) rfl ?_); refine goesL_ (some 28) rfl rfl Try.func40 (by kernel_rfl) rfl #[.int .i64 (wrap64 (rd l0 x22_1))] rfl (by (try simp only [List.map_toArray, List.map_cons, List.map_nil]); first | done | rfl | (simp only [List.length_drop, List.length_take]; rfl)) ?_; (with_reducible refine (runes_is.calls (wrap64 (rd l0 x22_1)) true _ A5.out).mono ?_); rintro e w' ⟨rfl, ⟨nd, rfl⟩⟩; refine ⟨_, rfl, ?_⟩))
                go_roundg k1
                case measure => have := HK1.out; omega
                case rel => exact ⟨(x4_1), (wrap64 (x22_1 + 1)), (by first | rfl | (simp; done) | (simp [*]; done)), H', ⟨by have := HK1.out; omega⟩, ⟨by (with_reducible repeat (first | apply Kd.R_alloc | apply Kd.R_drewN | apply Kd.R_drew)); exact HO_4.out⟩, ⟨by repeat (first | (with_reducible first | exact HB.out | apply below_alloc | apply pw_below_drewN | apply below_drew1) | exact HB.out)⟩⟩
            · replace c6 := Bool.eq_false_iff.mpr c6
              subst c6
              have H1 : (some ((⟨#[]⟩ : ByteArray), 50)) = some (r1, r2) := by rw [if_neg (show ¬ (false = true) by decide)] at H; exact H
              clear H
              have H := H1
              clear H1
              simp only [Option.some.injEq, Prod.mk.injEq] at H
              obtain ⟨rfl, rfl⟩ := H
              have p122 : 0 ≤ (x22_1 : Int) := of_decide_eq_true (by first | (with_reducible assumption) | assumption)
              have q122 : x22_1 < (l0.length : Int) := of_decide_eq_true (by first | (with_reducible assumption) | assumption)
              obtain ⟨ad122, e122, hx122_0⟩ := Kd.at_int HR0.out x22_1 p122 q122
              cases e122
              replace hx122_0 := (HB.out.cell (World.block_lt_of_cell? w _ hx122_0)).trans hx122_0
              replace p122 := eq_true p122
              replace q122 := eq_true q122
              go_wp2_with (first | ((with_reducible refine gate_callee (f := 40) rfl ?_); refine goesL_ (some 28) rfl rfl Try.func40 (by kernel_rfl) rfl #[.int .i64 (wrap64 (rd l0 x22_1))] rfl (by (try simp only [List.map_toArray, List.map_cons, List.map_nil]); first | done | rfl | (simp only [List.length_drop, List.length_take]; rfl)) ?_; (with_reducible refine (runes_is.calls (wrap64 (rd l0 x22_1)) false _ A5.out).mono ?_); rintro e w' ⟨rfl, ⟨nd, rfl⟩⟩; refine ⟨_, rfl, ?_⟩))
              go_ret2
              exact ⟨by first | rfl | (simp [errW_none, errW_some] <;> rfl) | (simp [*, errW_none, errW_some] <;> rfl), by repeat (first | (with_reducible first | exact HB.out | apply below_alloc | apply pw_below_drewN | apply below_drew1) | exact HB.out)⟩
          · rw [if_neg c4] at H
            exact absurd H (by simp)
        · rw [if_neg c3] at H
          exact absurd H (by simp)
      · rw [if_neg c2] at H
        have c2b0 : decide (x22_1 < (l0.length : Int)) = false := decide_eq_false c2
        clear c2
        have HC10 := Aside0.mk H
        clear H
        obtain ⟨Ao11, co11, eo11⟩ := Kd.R_slice HO_4.out
        subst eo11
        go_upto_if 41 with (fail)
        go_cut [4] (fun v4 wc => ∃ (kq : Nat) (x4_9 : List Int), Aside0 (runes_Puny.j1 kq l0 x4_9 (x4_1.length : Int) = some (r1, r2)) ∧ Aside0 (kq ≤ k1) ∧ Aside0 (Kd.R (Kd.int .u8) 5 wc w.heap.size (fun _ => True) v4 x4_9) ∧ Aside0 (Below w.heap.size w wc))
        case first =>
          have H := HC10.out
          clear HC10
          by_cases c12 : (x4_1.length : Int) > 0
          · rw [if_pos c12] at H
            have c12b0 : decide (0 < (x4_1.length : Int)) = true := decide_eq_true c12
            have c12b1 : decide (0 < x4_1.length) = true := decide_eq_true (by omega)
            clear c12
            (first | rw [c12b0] | rw [c12b1] | (simp only [i64_w, i32_w]; rw [c12b0]) | skip)
            by_cases c13 : x4_1.length < 140737488355328
            · rw [if_pos c13] at H
              have LMc13 := Aside0.mk c13
              clear c13
              obtain ⟨y127, hy127⟩ : ∃ y_ : List Int, y_ = (x4_1 ++ [45]) := ⟨_, rfl⟩
              replace H : (runes_Puny.j1 k1 l0 y127 (x4_1.length : Int)) = some (r1, r2) := by first | (rw [hy127]; with_reducible exact H) | (have H2_ := (Option.bind_some _ _).symm.trans H; rw [hy127]; with_reducible exact H2_) | (have H2_ := (Option.bind_some _ _).symm.trans H; with_reducible exact H2_) | with_reducible exact H | (rw [hy127]; exact H) | exact H
              have Ny127 := Aside0.mk hy127
              clear hy127
              have H' := Aside0.mk H
              clear H
              go_wp2_with (first | ((with_reducible refine gate_builtin (b := .append) (xs := #[.tmp 42, .tmp 43]) rfl ?_); at_builtin; refine Kd.R_append (Kd.int .u8) (w0 := w) w.heap.size rfl (.tmp 42) (.tmp 43) 27 5 (.int .u8 0) 1 rfl Try.underlying27 info5 rfl (by decide) (by omega) (.slice Ao11 x4_1.length co11) x4_1 45 [.int .u8 45] (fun _ => True) (fun _ => False) rfl rfl ?aP (fun _ hk => hk.elim) ?aF ?aO ?aB ?aS ?aL ?_; (case aP => exact rfl); (case aB => exact (by repeat (first | (with_reducible first | exact HB.out | apply below_alloc | apply pw_below_drewN | apply below_drew1) | exact HB.out))); (case aF => exact (fun _ _ => trivial)); (case aO => exact (by (with_reducible repeat (first | apply Kd.R_alloc | apply Kd.R_drewN | apply Kd.R_drew)); exact HO_4.out)); (case aS => exact (below_size (by repeat (first | (with_reducible first | exact HB.out | apply below_alloc | apply pw_below_drewN | apply below_drew1) | exact HB.out)))); (case aL => have := LMc13.out; omega); intro v128 w14 ho hb hg hat; rw [← Ny127.out] at ho; have n0_ := Aside0.mk (hb); have n1_ := Aside0.mk (ho); clear HB; clear HO_4; have HB := n0_; have HO129 := n1_; clear n0_ n1_; clear ho hb hg hat))
              go_meet
              case rel => exact ⟨_, (y127), H', ⟨by have := HK1.out; first | omega | exact Nat.le_refl _⟩, ⟨by (with_reducible repeat (first | apply Kd.R_alloc | apply Kd.R_drewN | apply Kd.R_drew)); exact HO129.out⟩, ⟨by repeat (first | (with_reducible first | exact HB.out | apply below_alloc | apply pw_below_drewN | apply below_drew1) | exact HB.out)⟩⟩
            · rw [if_neg c13] at H
              exact absurd H (by simp)
          · rw [if_neg c12] at H
            have c12b0 : decide (0 < (x4_1.length : Int)) = false := decide_eq_false c12
            have c12b1 : decide (0 < x4_1.length) = false := decide_eq_false (by omega)
            clear c12
            (first | rw [c12b0] | rw [c12b1] | (simp only [i64_w, i32_w]; rw [c12b0]) | skip)
            have H' := Aside0.mk H
            clear H
            go_wp2
            go_meet
            case rel => exact ⟨_, (x4_1), H', ⟨by have := HK1.out; first | omega | exact Nat.le_refl _⟩, ⟨by (with_reducible repeat (first | apply Kd.R_alloc | apply Kd.R_drewN | apply Kd.R_drew)); exact HO_4.out⟩, ⟨by repeat (first | (with_reducible first | exact HB.out | apply below_alloc | apply pw_below_drewN | apply below_drew1) | exact HB.out)⟩⟩
        case rest =>
          clear HC10
          try clear c1
          try clear p1
          try clear q1
          try clear hx1
          try clear c2
          try clear c2b0
          try clear p2
          try clear c3
          try clear c3b0
          try clear c4
          try clear c4b0
          try clear c6
          try clear p6
          try clear c7
          try clear c7b0
          try clear c8
          try clear c12
          try clear c12b0
          try clear c12b1
          try clear p12
          try clear q12
          try clear hx12
          try clear c13
          try clear hx122_0
          try clear p122
          try clear q122
          obtain ⟨kq, x4_9, HA, HJ9, HO_4, HB⟩ := hcut
          cases kq with
          | zero => exact absurd HA.out (by simp [runes_Puny.j1])
          | succ kj9 =>
            have H := HA.out
            clear HA
            simp only [runes_Puny.j1] at H
            have H' := Aside0.mk H
            clear H
            go_wp2
            go_loopg [4, 8, 9, 10, 11] kj9 (fun kq v4 v8 v9 v10 v11 w' => ∃ (x4_3 : List Int) (x8_3 : Int) (x9_3 : Int) (x10_3 : Int) (x11_3 : Int), v8 = .int .i64 x8_3 ∧ v9 = .int .i64 x9_3 ∧ v10 = .int .i64 x10_3 ∧ v11 = .int .i64 x11_3 ∧ Aside0 (runes_Puny.l1 kq l0 x4_3 (x4_1.length : Int) x8_3 x9_3 x10_3 x11_3 = some (r1, r2)) ∧ Aside0 (kq ≤ kj9) ∧ Aside0 (Kd.R (Kd.int .u8) 5 w' w.heap.size (fun _ => True) v4 x4_3) ∧ Aside0 (Below w.heap.size w w'))
            case atStart => exact ⟨(x4_9), (128), (0), (72), ((x4_1.length : Int)), (by first | rfl | (simp; done) | (simp [*]; done)), (by first | rfl | (simp; done) | (simp [*]; done)), (by first | rfl | (simp; done) | (simp [*]; done)), (by first | rfl | (simp; done) | (simp [*]; done)), H', ⟨Nat.le_refl _⟩, ⟨by (with_reducible repeat (first | apply Kd.R_alloc | apply Kd.R_drewN | apply Kd.R_drew)); exact HO_4.out⟩, ⟨by repeat (first | (with_reducible first | exact HB.out | apply below_alloc | apply pw_below_drewN | apply below_drew1) | exact HB.out)⟩⟩
            case round =>
              clear H'
              try clear c1
              try clear p1
              try clear q1
              try clear hx1
              try clear c2
              try clear c2b0
              try clear p2
              try clear c3
              try clear c3b0
              try clear c4
              try clear c4b0
              try clear c6
              try clear p6
              try clear c7
              try clear c7b0
              try clear c8
              try clear c12
              try clear c12b0
              try clear c12b1
              try clear p12
              try clear q12
              try clear hx12
              try clear c13
              try clear hx122_0
              try clear p1
              try clear p12
              try clear p122
              try clear p2
              try clear p6
              try clear q1
              try clear q12
              try clear q122
              obtain ⟨x4_3, x8_3, x9_3, x10_3, x11_3, rfl, rfl, rfl, rfl, HA, HK3, HO_4, HB⟩ := hrel
              cases gk with
              | zero => exact absurd HA.out (by simp [runes_Puny.l1])
              | succ k3 =>
                have H := HA.out
                clear HA
                simp only [runes_Puny.l1] at H
                by_cases c15 : x11_3 < (l0.length : Int)
                · rw [if_pos c15] at H
                  have c15b0 : decide (x11_3 < (l0.length : Int)) = true := decide_eq_true c15
                  clear c15
                  have H' := Aside0.mk H
                  clear H
                  go_wp2
                  go_loopg [12, 52] k3 (fun kq v12 v52 w' => ∃ (x12_4 : Int) (x52_4 : Int), v12 = .int .i64 x12_4 ∧ v52 = .int .i64 x52_4 ∧ Aside0 (runes_Puny.l2 kq l0 x4_3 (x4_1.length : Int) x8_3 x9_3 x10_3 x11_3 x12_4 l0 (l0.length : Int) x52_4 = some (r1, r2)) ∧ Aside0 (kq ≤ k3) ∧ Aside0 (Kd.R (Kd.int .u8) 5 w' w.heap.size (fun _ => True) u4 x4_3) ∧ Aside0 (Below w.heap.size w w'))
                  case atStart => exact ⟨(1114112), (0), (by first | rfl | (simp; done) | (simp [*]; done)), (by first | rfl | (simp; done) | (simp [*]; done)), H', ⟨Nat.le_refl _⟩, ⟨by (with_reducible repeat (first | apply Kd.R_alloc | apply Kd.R_drewN | apply Kd.R_drew)); exact HO_4.out⟩, ⟨by repeat (first | (with_reducible first | exact HB.out | apply below_alloc | apply pw_below_drewN | apply below_drew1) | exact HB.out)⟩⟩
                  case round =>
                    clear H'
                    try clear c1
                    try clear p1
                    try clear q1
                    try clear hx1
                    try clear c2
                    try clear c2b0
                    try clear p2
                    try clear c3
                    try clear c3b0
                    try clear c4
                    try clear c4b0
                    try clear c6
                    try clear p6
                    try clear c7
                    try clear c7b0
                    try clear c8
                    try clear c12
                    try clear c12b0
                    try clear c12b1
                    try clear p12
                    try clear q12
                    try clear hx12
                    try clear c13
                    try clear c15
                    try clear c15b0
                    try clear hx122_0
                    try clear p1
                    try clear p12
                    try clear p122
                    try clear p2
                    try clear p6
                    try clear q1
                    try clear q12
                    try clear q122
                    obtain ⟨x12_4, x52_4, rfl, rfl, HA, HK4, HO_4, HB⟩ := hrel
                    cases gk with
                    | zero => exact absurd HA.out (by simp [runes_Puny.l2])
                    | succ k4 =>
                      have H := HA.out
                      clear HA
                      simp only [runes_Puny.l2] at H
                      by_cases c16 : x52_4 < (l0.length : Int)
                      · rw [if_pos c16] at H
                        have c16b0 : decide (x52_4 < (l0.length : Int)) = true := decide_eq_true c16
                        clear c16
                        by_cases c17 : 0 ≤ x52_4
                        · rw [if_pos c17] at H
                          have c17b0 : decide (0 ≤ x52_4) = true := decide_eq_true c17
                          clear c17
                          by_cases c18 : x52_4 < (l0.length : Int)
                          · rw [if_pos c18] at H
                            have c18b0 : decide (x52_4 < (l0.length : Int)) = true := decide_eq_true c18
                            clear c18
                            by_cases c19 : (wrap64 (rd l0 x52_4)) ≥ x8_3
                            · rw [if_pos c19] at H
                              have c19b0 : decide (x8_3 ≤ (wrap64 (rd l0 x52_4))) = true := decide_eq_true c19
                              clear c19
                              by_cases c20 : (wrap64 (rd l0 x52_4)) < x12_4
                              · rw [if_pos c20] at H
                                have c20b0 : decide ((wrap64 (rd l0 x52_4)) < x12_4) = true := decide_eq_true c20
                                clear c20
                                have H' := Aside0.mk H
                                clear H
                                have p130 : 0 ≤ (x52_4 : Int) := of_decide_eq_true (by first | (with_reducible assumption) | assumption)
                                have q130 : x52_4 < (l0.length : Int) := of_decide_eq_true (by first | (with_reducible assumption) | assumption)
                                obtain ⟨ad130, e130, hx130_0⟩ := Kd.at_int HR0.out x52_4 p130 q130
                                cases e130
                                replace hx130_0 := (HB.out.cell (World.block_lt_of_cell? w _ hx130_0)).trans hx130_0
                                replace p130 := eq_true p130
                                replace q130 := eq_true q130
                                go_wp2
                                go_roundg k4
                                case measure => have := HK1.out; have := HJ9.out; have := HK3.out; have := HK4.out; omega
                                case rel => exact ⟨(wrap64 (rd l0 x52_4)), (wrap64 (x52_4 + 1)), (by first | rfl | (simp; done) | (simp [*]; done)), (by first | rfl | (simp; done) | (simp [*]; done)), H', ⟨by have := HK1.out; have := HJ9.out; have := HK3.out; have := HK4.out; omega⟩, ⟨by (with_reducible repeat (first | apply Kd.R_alloc | apply Kd.R_drewN | apply Kd.R_drew)); exact HO_4.out⟩, ⟨by repeat (first | (with_reducible first | exact HB.out | apply below_alloc | apply pw_below_drewN | apply below_drew1) | exact HB.out)⟩⟩
                              · rw [if_neg c20] at H
                                have c20b0 : decide ((wrap64 (rd l0 x52_4)) < x12_4) = false := decide_eq_false c20
                                clear c20
                                have H' := Aside0.mk H
                                clear H
                                have p130 : 0 ≤ (x52_4 : Int) := of_decide_eq_true (by first | (with_reducible assumption) | assumption)
                                have q130 : x52_4 < (l0.length : Int) := of_decide_eq_true (by first | (with_reducible assumption) | assumption)
                                obtain ⟨ad130, e130, hx130_0⟩ := Kd.at_int HR0.out x52_4 p130 q130
                                cases e130
                                replace hx130_0 := (HB.out.cell (World.block_lt_of_cell? w _ hx130_0)).trans hx130_0
                                replace p130 := eq_true p130
                                replace q130 := eq_true q130
                                go_wp2
                                go_roundg k4
                                case measure => have := HK1.out; have := HJ9.out; have := HK3.out; have := HK4.out; omega
                                case rel => exact ⟨(x12_4), (wrap64 (x52_4 + 1)), (by first | rfl | (simp; done) | (simp [*]; done)), (by first | rfl | (simp; done) | (simp [*]; done)), H', ⟨by have := HK1.out; have := HJ9.out; have := HK3.out; have := HK4.out; omega⟩, ⟨by (with_reducible repeat (first | apply Kd.R_alloc | apply Kd.R_drewN | apply Kd.R_drew)); exact HO_4.out⟩, ⟨by repeat (first | (with_reducible first | exact HB.out | apply below_alloc | apply pw_below_drewN | apply below_drew1) | exact HB.out)⟩⟩
                            · rw [if_neg c19] at H
                              have c19b0 : decide (x8_3 ≤ (wrap64 (rd l0 x52_4))) = false := decide_eq_false c19
                              clear c19
                              have H' := Aside0.mk H
                              clear H
                              have p130 : 0 ≤ (x52_4 : Int) := of_decide_eq_true (by first | (with_reducible assumption) | assumption)
                              have q130 : x52_4 < (l0.length : Int) := of_decide_eq_true (by first | (with_reducible assumption) | assumption)
                              obtain ⟨ad130, e130, hx130_0⟩ := Kd.at_int HR0.out x52_4 p130 q130
                              cases e130
                              replace hx130_0 := (HB.out.cell (World.block_lt_of_cell? w _ hx130_0)).trans hx130_0
                              replace p130 := eq_true p130
                              replace q130 := eq_true q130
                              go_wp2
                              go_roundg k4
                              case measure => have := HK1.out; have := HJ9.out; have := HK3.out; have := HK4.out; omega
                              case rel => exact ⟨(x12_4), (wrap64 (x52_4 + 1)), (by first | rfl | (simp; done) | (simp [*]; done)), (by first | rfl | (simp; done) | (simp [*]; done)), H', ⟨by have := HK1.out; have := HJ9.out; have := HK3.out; have := HK4.out; omega⟩, ⟨by (with_reducible repeat (first | apply Kd.R_alloc | apply Kd.R_drewN | apply Kd.R_drew)); exact HO_4.out⟩, ⟨by repeat (first | (with_reducible first | exact HB.out | apply below_alloc | apply pw_below_drewN | apply below_drew1) | exact HB.out)⟩⟩
                          · rw [if_neg c18] at H
                            exact absurd H (by simp)
                        · rw [if_neg c17] at H
                          exact absurd H (by simp)
                      · rw [if_neg c16] at H
                        have c16b0 : decide (x52_4 < (l0.length : Int)) = false := decide_eq_false c16
                        clear c16
                        have H' := Aside0.mk H
                        clear H
                        go_wp2
                        go_loopg [4, 9, 10, 11, 80] k4 (fun kq v4 v9 v10 v11 v80 w' => ∃ (x4_5 : List Int) (x9_5 : Int) (x10_5 : Int) (x11_5 : Int) (x80_5 : Int), v9 = .int .i64 x9_5 ∧ v10 = .int .i64 x10_5 ∧ v11 = .int .i64 x11_5 ∧ v80 = .int .i64 x80_5 ∧ Aside0 (runes_Puny.l3 kq l0 x4_5 (x4_1.length : Int) x12_4 x9_5 x10_5 x11_5 l0 (l0.length : Int) x80_5 = some (r1, r2)) ∧ Aside0 (kq ≤ k4) ∧ Aside0 (Kd.R (Kd.int .u8) 5 w' w.heap.size (fun _ => True) v4 x4_5) ∧ Aside0 (Below w.heap.size w w'))
                        case atStart => exact ⟨(x4_3), (wrap64 (x9_3 + (wrap64 ((wrap64 (x12_4 - x8_3)) * (wrap64 (x11_3 + 1)))))), (x10_3), (x11_3), (0), (by first | rfl | (simp; done) | (simp [*]; done)), (by first | rfl | (simp; done) | (simp [*]; done)), (by first | rfl | (simp; done) | (simp [*]; done)), (by first | rfl | (simp; done) | (simp [*]; done)), H', ⟨Nat.le_refl _⟩, ⟨by (with_reducible repeat (first | apply Kd.R_alloc | apply Kd.R_drewN | apply Kd.R_drew)); exact HO_4.out⟩, ⟨by repeat (first | (with_reducible first | exact HB.out | apply below_alloc | apply pw_below_drewN | apply below_drew1) | exact HB.out)⟩⟩
                        case round =>
                          clear H'
                          try clear c1
                          try clear p1
                          try clear q1
                          try clear hx1
                          try clear c2
                          try clear c2b0
                          try clear p2
                          try clear c3
                          try clear c3b0
                          try clear c4
                          try clear c4b0
                          try clear c6
                          try clear p6
                          try clear c7
                          try clear c7b0
                          try clear c8
                          try clear c12
                          try clear c12b0
                          try clear c12b1
                          try clear p12
                          try clear q12
                          try clear hx12
                          try clear c13
                          try clear p13
                          try clear q13
                          try clear hx13
                          try clear c15
                          try clear c15b0
                          try clear c16
                          try clear c16b0
                          try clear c17
                          try clear c17b0
                          try clear c18
                          try clear c18b0
                          try clear c19
                          try clear c19b0
                          try clear c20
                          try clear c20b0
                          try clear hx122_0
                          try clear hx130_0
                          try clear p1
                          try clear p12
                          try clear p122
                          try clear p130
                          try clear p2
                          try clear p6
                          try clear q1
                          try clear q12
                          try clear q122
                          try clear q130
                          obtain ⟨x4_5, x9_5, x10_5, x11_5, x80_5, rfl, rfl, rfl, rfl, HA, HK5, HO_4, HB⟩ := hrel
                          cases gk with
                          | zero => exact absurd HA.out (by simp [runes_Puny.l3])
                          | succ k5 =>
                            have H := HA.out
                            clear HA
                            simp only [runes_Puny.l3] at H
                            by_cases c21 : x80_5 < (l0.length : Int)
                            · rw [if_pos c21] at H
                              have c21b0 : decide (x80_5 < (l0.length : Int)) = true := decide_eq_true c21
                              clear c21
                              by_cases c22 : 0 ≤ x80_5
                              · rw [if_pos c22] at H
                                have c22b0 : decide (0 ≤ x80_5) = true := decide_eq_true c22
                                clear c22
                                by_cases c23 : x80_5 < (l0.length : Int)
                                · rw [if_pos c23] at H
                                  have c23b0 : decide (x80_5 < (l0.length : Int)) = true := decide_eq_true c23
                                  clear c23
                                  have HC24 := Aside0.mk H
                                  clear H
                                  have p131 : 0 ≤ (x80_5 : Int) := of_decide_eq_true (by first | (with_reducible assumption) | assumption)
                                  have q131 : x80_5 < (l0.length : Int) := of_decide_eq_true (by first | (with_reducible assumption) | assumption)
                                  obtain ⟨ad131, e131, hx131_0⟩ := Kd.at_int HR0.out x80_5 p131 q131
                                  cases e131
                                  replace hx131_0 := (HB.out.cell (World.block_lt_of_cell? w _ hx131_0)).trans hx131_0
                                  replace p131 := eq_true p131
                                  replace q131 := eq_true q131
                                  go_upto_if 87 with (fail)
                                  go_cut [9] (fun v9 wc => ∃ (kq : Nat) (x9_23 : Int), v9 = .int .i64 x9_23 ∧ Aside0 (runes_Puny.j5 kq l0 x4_5 (x4_1.length : Int) x12_4 x9_23 x10_5 x11_5 (rd l0 x80_5) l0 (l0.length : Int) x80_5 = some (r1, r2)) ∧ Aside0 (kq ≤ k5) ∧ Aside0 (Kd.R (Kd.int .u8) 5 wc w.heap.size (fun _ => True) u4 x4_5) ∧ Aside0 (Below w.heap.size w wc))
                                  case first =>
                                    have H := HC24.out
                                    clear HC24
                                    by_cases c25 : (wrap64 (rd l0 x80_5)) < x12_4
                                    · rw [if_pos c25] at H
                                      have c25b0 : decide ((wrap64 (rd l0 x80_5)) < x12_4) = true := decide_eq_true c25
                                      clear c25
                                      (first | rw [c25b0] | (simp only [i64_w, i32_w]; rw [c25b0]) | skip)
                                      have H' := Aside0.mk H
                                      clear H
                                      go_wp2
                                      go_meet
                                      case rel => exact ⟨_, (wrap64 (x9_5 + 1)), (by first | rfl | (simp; done) | (simp [*]; done)), H', ⟨by have := HK1.out; have := HJ9.out; have := HK3.out; have := HK4.out; have := HK5.out; first | omega | exact Nat.le_refl _⟩, ⟨by (with_reducible repeat (first | apply Kd.R_alloc | apply Kd.R_drewN | apply Kd.R_drew)); exact HO_4.out⟩, ⟨by repeat (first | (with_reducible first | exact HB.out | apply below_alloc | apply pw_below_drewN | apply below_drew1) | exact HB.out)⟩⟩
                                    · rw [if_neg c25] at H
                                      have c25b0 : decide ((wrap64 (rd l0 x80_5)) < x12_4) = false := decide_eq_false c25
                                      clear c25
                                      (first | rw [c25b0] | (simp only [i64_w, i32_w]; rw [c25b0]) | skip)
                                      have H' := Aside0.mk H
                                      clear H
                                      go_wp2
                                      go_meet
                                      case rel => exact ⟨_, (x9_5), (by first | rfl | (simp; done) | (simp [*]; done)), H', ⟨by have := HK1.out; have := HJ9.out; have := HK3.out; have := HK4.out; have := HK5.out; first | omega | exact Nat.le_refl _⟩, ⟨by (with_reducible repeat (first | apply Kd.R_alloc | apply Kd.R_drewN | apply Kd.R_drew)); exact HO_4.out⟩, ⟨by repeat (first | (with_reducible first | exact HB.out | apply below_alloc | apply pw_below_drewN | apply below_drew1) | exact HB.out)⟩⟩
                                  case rest =>
                                    clear HC24
                                    try clear c1
                                    try clear p1
                                    try clear q1
                                    try clear hx1
                                    try clear c2
                                    try clear c2b0
                                    try clear p2
                                    try clear c3
                                    try clear c3b0
                                    try clear c4
                                    try clear c4b0
                                    try clear c6
                                    try clear p6
                                    try clear c7
                                    try clear c7b0
                                    try clear c8
                                    try clear c12
                                    try clear c12b0
                                    try clear c12b1
                                    try clear p12
                                    try clear q12
                                    try clear hx12
                                    try clear c13
                                    try clear p13
                                    try clear q13
                                    try clear hx13
                                    try clear c15
                                    try clear c15b0
                                    try clear c16
                                    try clear c16b0
                                    try clear c17
                                    try clear c17b0
                                    try clear c18
                                    try clear c18b0
                                    try clear c19
                                    try clear c19b0
                                    try clear c20
                                    try clear c20b0
                                    try clear c21
                                    try clear c21b0
                                    try clear c22
                                    try clear c22b0
                                    try clear c23
                                    try clear c23b0
                                    try clear c25
                                    try clear c25b0
                                    try clear hx122_0
                                    try clear hx130_0
                                    try clear hx131_0
                                    try clear p1
                                    try clear p12
                                    try clear p122
                                    try clear p13
                                    try clear p130
                                    try clear p131
                                    try clear p2
                                    try clear p6
                                    try clear q1
                                    try clear q12
                                    try clear q122
                                    try clear q13
                                    try clear q130
                                    try clear q131
                                    obtain ⟨kq, x9_23, rfl, HA, HJ23, HO_4, HB⟩ := hcut
                                    cases kq with
                                    | zero => exact absurd HA.out (by simp [runes_Puny.j5])
                                    | succ kj23 =>
                                      have H := HA.out
                                      clear HA
                                      simp only [runes_Puny.j5] at H
                                      by_cases c26 : (wrap64 ((rd l0 x80_5))) = x12_4
                                      · rw [if_pos c26] at H
                                        have c26b0 : ((wrap64 ((rd l0 x80_5))) == x12_4) = true := beq_iff_eq.mpr c26
                                        have c26b1 : ((wrap64 ((rd l0 x80_5))) != x12_4) = false := bne_eq_false_iff_eq.mpr c26
                                        clear c26
                                        by_cases c27 : x9_23 > 2147483647
                                        · rw [if_pos c27] at H
                                          have c27b0 : decide (2147483647 < x9_23) = true := decide_eq_true c27
                                          clear c27
                                          simp only [Option.some.injEq, Prod.mk.injEq] at H
                                          obtain ⟨rfl, rfl⟩ := H
                                          go_wp2
                                          go_ret2
                                          exact ⟨by first | rfl | (simp [errW_none, errW_some] <;> rfl) | (simp [*, errW_none, errW_some] <;> rfl), by repeat (first | (with_reducible first | exact HB.out | apply below_alloc | apply pw_below_drewN | apply below_drew1) | exact HB.out)⟩
                                        · rw [if_neg c27] at H
                                          have c27b0 : decide (2147483647 < x9_23) = false := decide_eq_false c27
                                          clear c27
                                          have H' := Aside0.mk H
                                          clear H
                                          go_wp2
                                          go_loopg [4, 17, 18] kj23 (fun kq v4 v17 v18 w' => ∃ (x4_7 : List Int) (x17_7 : Int) (x18_7 : Int), v17 = .int .i64 x17_7 ∧ v18 = .int .i64 x18_7 ∧ Aside0 (runes_Puny.l4 kq l0 x4_7 (x4_1.length : Int) x12_4 x9_23 x10_5 x11_5 x17_7 x18_7 l0 (l0.length : Int) x80_5 = some (r1, r2)) ∧ Aside0 (kq ≤ kj23) ∧ Aside0 (Kd.R (Kd.int .u8) 5 w' w.heap.size (fun _ => True) v4 x4_7) ∧ Aside0 (Below w.heap.size w w'))
                                          case atStart => exact ⟨(x4_5), (x9_23), (36), (by first | rfl | (simp; done) | (simp [*]; done)), (by first | rfl | (simp; done) | (simp [*]; done)), H', ⟨Nat.le_refl _⟩, ⟨by (with_reducible repeat (first | apply Kd.R_alloc | apply Kd.R_drewN | apply Kd.R_drew)); exact HO_4.out⟩, ⟨by repeat (first | (with_reducible first | exact HB.out | apply below_alloc | apply pw_below_drewN | apply below_drew1) | exact HB.out)⟩⟩
                                          case round =>
                                            clear H'
                                            try clear c1
                                            try clear p1
                                            try clear q1
                                            try clear hx1
                                            try clear c2
                                            try clear c2b0
                                            try clear p2
                                            try clear c3
                                            try clear c3b0
                                            try clear c4
                                            try clear c4b0
                                            try clear c6
                                            try clear p6
                                            try clear c7
                                            try clear c7b0
                                            try clear c8
                                            try clear c12
                                            try clear c12b0
                                            try clear c12b1
                                            try clear p12
                                            try clear q12
                                            try clear hx12
                                            try clear c13
                                            try clear p13
                                            try clear q13
                                            try clear hx13
                                            try clear c15
                                            try clear c15b0
                                            try clear c16
                                            try clear c16b0
                                            try clear c17
                                            try clear c17b0
                                            try clear c18
                                            try clear c18b0
                                            try clear c19
                                            try clear c19b0
                                            try clear c20
                                            try clear c20b0
                                            try clear c21
                                            try clear c21b0
                                            try clear c22
                                            try clear c22b0
                                            try clear c23
                                            try clear c23b0
                                            try clear c25
                                            try clear c25b0
                                            try clear c26
                                            try clear c26b0
                                            try clear c26b1
                                            try clear c27
                                            try clear c27b0
                                            try clear hx122_0
                                            try clear hx130_0
                                            try clear hx131_0
                                            try clear p1
                                            try clear p12
                                            try clear p122
                                            try clear p13
                                            try clear p130
                                            try clear p131
                                            try clear p2
                                            try clear p6
                                            try clear q1
                                            try clear q12
                                            try clear q122
                                            try clear q13
                                            try clear q130
                                            try clear q131
                                            obtain ⟨x4_7, x17_7, x18_7, rfl, rfl, HA, HK7, HO_4, HB⟩ := hrel
                                            cases gk with
                                            | zero => exact absurd HA.out (by simp [runes_Puny.l4])
                                            | succ k7 =>
                                              have H := HA.out
                                              clear HA
                                              simp only [runes_Puny.l4] at H
                                              replace H := Option.bind_eq_some_iff.mp H
                                              obtain ⟨t132, A280, H⟩ := H
                                              replace H : (if x17_7 < t132 then ((runes_digit.f x17_7).bind fun t133 => (if x4_7.length < 140737488355328 then ((runes_adapt.f k7 x9_23 (wrap64 (x11_5 + 1)) (x11_5 == (x4_1.length : Int))).bind fun t137 => (runes_Puny.l3 k7 l0 (x4_7 ++ [t133]) (x4_1.length : Int) x12_4 0 t137 (wrap64 (x11_5 + 1)) l0 (l0.length : Int) (wrap64 (x80_5 + 1)))) else (none))) else (if (wrap64 (36 - t132)) = 0 then (none) else ((runes_digit.f (wrap64 (t132 + (Int.tmod (wrap64 (x17_7 - t132)) (wrap64 (36 - t132)))))).bind fun t138 => (if x4_7.length < 140737488355328 then (runes_Puny.l4 k7 l0 (x4_7 ++ [t138]) (x4_1.length : Int) x12_4 x9_23 x10_5 x11_5 (wrap64 (Int.tdiv (wrap64 (x17_7 - t132)) (wrap64 (36 - t132)))) (wrap64 (x18_7 + 36)) l0 (l0.length : Int) x80_5) else (none))))) = some (r1, r2) := H
                                              have A28 := Aside0.mk A280
                                              clear A280
                                              by_cases c29 : x17_7 < t132
                                              · rw [if_pos c29] at H
                                                have c29b0 : decide (x17_7 < t132) = true := decide_eq_true c29
                                                clear c29
                                                replace H := Option.bind_eq_some_iff.mp H
                                                obtain ⟨t133, A300, H⟩ := H
                                                replace H : (if x4_7.length < 140737488355328 then ((runes_adapt.f k7 x9_23 (wrap64 (x11_5 + 1)) (x11_5 == (x4_1.length : Int))).bind fun t137 => (runes_Puny.l3 k7 l0 (x4_7 ++ [t133]) (x4_1.length : Int) x12_4 0 t137 (wrap64 (x11_5 + 1)) l0 (l0.length : Int) (wrap64 (x80_5 + 1)))) else (none)) = some (r1, r2) := H
                                                have A30 := Aside0.mk A300
                                                clear A300
                                                by_cases c31 : x4_7.length < 140737488355328
                                                · rw [if_pos c31] at H
                                                  have LMc31 := Aside0.mk c31
                                                  clear c31
                                                  obtain ⟨y134, hy134⟩ : ∃ y_ : List Int, y_ = (x4_7 ++ [t133]) := ⟨_, rfl⟩
                                                  replace H : ((runes_adapt.f k7 x9_23 (wrap64 (x11_5 + 1)) (x11_5 == (x4_1.length : Int))).bind fun t137 => (runes_Puny.l3 k7 l0 y134 (x4_1.length : Int) x12_4 0 t137 (wrap64 (x11_5 + 1)) l0 (l0.length : Int) (wrap64 (x80_5 + 1)))) = some (r1, r2) := by first | (rw [hy134]; with_reducible exact H) | (have H2_ := (Option.bind_some _ _).symm.trans H; rw [hy134]; with_reducible exact H2_) | (have H2_ := (Option.bind_some _ _).symm.trans H; with_reducible exact H2_) | with_reducible exact H | (rw [hy134]; exact H) | exact H
                                                  have Ny134 := Aside0.mk hy134
                                                  clear hy134
                                                  replace H := Option.bind_eq_some_iff.mp H
                                                  obtain ⟨t137, A320, H⟩ := H
                                                  replace H : (runes_Puny.l3 k7 l0 y134 (x4_1.length : Int) x12_4 0 t137 (wrap64 (x11_5 + 1)) l0 (l0.length : Int) (wrap64 (x80_5 + 1))) = some (r1, r2) := H
                                                  have A32 := Aside0.mk A320
                                                  clear A320
                                                  have H' := Aside0.mk H
                                                  clear H
                                                  go_wp2_with (first | ((with_reducible refine gate_callee (f := 39) rfl ?_); refine goesL_ (some 101) rfl rfl Try.func39 (by kernel_rfl) rfl #[.int .i64 x18_7, .int .i64 x10_5] rfl (by (try simp only [List.map_toArray, List.map_cons, List.map_nil]); first | done | rfl | (simp only [List.length_drop, List.length_take]; rfl)) ?_; (with_reducible refine (runes_bound.calls x18_7 x10_5 t132 _ A28.out).mono ?_); rintro e w33 ⟨rfl, hb⟩; refine ⟨_, rfl, ?_⟩; have n0_ := Aside0.mk (Kd.R_below (by (with_reducible repeat (first | apply Kd.R_alloc | apply Kd.R_drewN | apply Kd.R_drew)); exact HO_4.out) hb); have n1_ := Aside0.mk (below_step (by repeat (first | (with_reducible first | exact HB.out | apply below_alloc | apply pw_below_drewN | apply below_drew1) | exact HB.out)) hb); clear HO_4; clear HB; have HO_4 := n0_; have HB := n1_; clear n0_ n1_; (try clear hb); (try clear hb2); (try clear hk); (try clear hi)) | ((with_reducible refine gate_callee (f := 42) rfl ?_); refine goesL_ (some 125) rfl rfl Try.func42 (by kernel_rfl) rfl #[.int .i64 x17_7] rfl (by (try simp only [List.map_toArray, List.map_cons, List.map_nil]); first | done | rfl | (simp only [List.length_drop, List.length_take]; rfl)) ?_; (with_reducible refine (runes_digit.calls x17_7 t133 _ A30.out).mono ?_); rintro e w' ⟨rfl, ⟨nd, rfl⟩⟩; refine ⟨_, rfl, ?_⟩) | ((with_reducible refine gate_builtin (b := .append) (xs := #[.tmp 123, .tmp 126]) rfl ?_); at_builtin; refine Kd.R_append (Kd.int .u8) (w0 := w) w.heap.size rfl (.tmp 123) (.tmp 126) 27 5 (.int .u8 0) 1 rfl Try.underlying27 info5 rfl (by decide) (by omega) u4 x4_7 t133 [.int .u8 t133] (fun _ => True) (fun _ => False) rfl rfl ?aP (fun _ hk => hk.elim) ?aF ?aO ?aB ?aS ?aL ?_; (case aP => exact rfl); (case aB => exact (by repeat (first | (with_reducible first | exact HB.out | apply below_alloc | apply pw_below_drewN | apply below_drew1) | exact HB.out))); (case aF => exact (fun _ _ => trivial)); (case aO => exact (by (with_reducible repeat (first | apply Kd.R_alloc | apply Kd.R_drewN | apply Kd.R_drew)); exact HO_4.out)); (case aS => exact (below_size (by repeat (first | (with_reducible first | exact HB.out | apply below_alloc | apply pw_below_drewN | apply below_drew1) | exact HB.out)))); (case aL => have := LMc31.out; omega); intro v135 w34 ho hb hg hat; rw [← Ny134.out] at ho; have n0_ := Aside0.mk (hb); have n1_ := Aside0.mk (ho); clear HB; clear HO_4; have HB := n0_; have HO136 := n1_; clear n0_ n1_; clear ho hb hg hat) | ((with_reducible refine gate_callee (f := 41) rfl ?_); refine goesL_ (some 134) rfl rfl Try.func41 (by kernel_rfl) rfl #[.int .i64 x9_23, .int .i64 (wrap64 (x11_5 + 1)), .bool (x11_5 == (x4_1.length : Int))] rfl (by (try simp only [List.map_toArray, List.map_cons, List.map_nil]); first | done | rfl | (simp only [List.length_drop, List.length_take]; rfl)) ?_; (with_reducible refine (runes_adapt.calls k7 x9_23 (wrap64 (x11_5 + 1)) (x11_5 == (x4_1.length : Int)) t137 _ A32.out).mono ?_); rintro e w' ⟨rfl, ⟨nd, rfl⟩⟩; refine ⟨_, rfl, ?_⟩))
                                                  go_roundg k7
                                                  case measure => have := HK1.out; have := HJ9.out; have := HK3.out; have := HK4.out; have := HK5.out; have := HJ23.out; have := HK7.out; omega
                                                  case rel => exact ⟨(y134), (0), (t137), (wrap64 (x11_5 + 1)), (wrap64 (x80_5 + 1)), (by first | rfl | (simp; done) | (simp [*]; done)), (by first | rfl | (simp; done) | (simp [*]; done)), (by first | rfl | (simp; done) | (simp [*]; done)), (by first | rfl | (simp; done) | (simp [*]; done)), H', ⟨by have := HK1.out; have := HJ9.out; have := HK3.out; have := HK4.out; have := HK5.out; have := HJ23.out; have := HK7.out; omega⟩, ⟨by (with_reducible repeat (first | apply Kd.R_alloc | apply Kd.R_drewN | apply Kd.R_drew)); exact HO136.out⟩, ⟨by repeat (first | (with_reducible first | exact HB.out | apply below_alloc | apply pw_below_drewN | apply below_drew1) | exact HB.out)⟩⟩
                                                · rw [if_neg c31] at H
                                                  exact absurd H (by simp)
                                              · rw [if_neg c29] at H
                                                have c29b0 : decide (x17_7 < t132) = false := decide_eq_false c29
                                                clear c29
                                                by_cases c35 : (wrap64 (36 - t132)) = 0
                                                · rw [if_pos c35] at H
                                                  exact absurd H (by simp)
                                                · rw [if_neg c35] at H
                                                  have c35b0 : ((wrap64 (36 - t132)) == 0) = false := beq_eq_false_iff_ne.mpr c35
                                                  have c35b1 : ((wrap64 (36 - t132)) != 0) = true := bne_iff_ne.mpr c35
                                                  replace H := Option.bind_eq_some_iff.mp H
                                                  obtain ⟨t138, A360, H⟩ := H
                                                  replace H : (if x4_7.length < 140737488355328 then (runes_Puny.l4 k7 l0 (x4_7 ++ [t138]) (x4_1.length : Int) x12_4 x9_23 x10_5 x11_5 (wrap64 (Int.tdiv (wrap64 (x17_7 - t132)) (wrap64 (36 - t132)))) (wrap64 (x18_7 + 36)) l0 (l0.length : Int) x80_5) else (none)) = some (r1, r2) := H
                                                  have A36 := Aside0.mk A360
                                                  clear A360
                                                  by_cases c37 : x4_7.length < 140737488355328
                                                  · rw [if_pos c37] at H
                                                    have LMc37 := Aside0.mk c37
                                                    clear c37
                                                    obtain ⟨y139, hy139⟩ : ∃ y_ : List Int, y_ = (x4_7 ++ [t138]) := ⟨_, rfl⟩
                                                    replace H : (runes_Puny.l4 k7 l0 y139 (x4_1.length : Int) x12_4 x9_23 x10_5 x11_5 (wrap64 (Int.tdiv (wrap64 (x17_7 - t132)) (wrap64 (36 - t132)))) (wrap64 (x18_7 + 36)) l0 (l0.length : Int) x80_5) = some (r1, r2) := by first | (rw [hy139]; with_reducible exact H) | (have H2_ := (Option.bind_some _ _).symm.trans H; rw [hy139]; with_reducible exact H2_) | (have H2_ := (Option.bind_some _ _).symm.trans H; with_reducible exact H2_) | with_reducible exact H | (rw [hy139]; exact H) | exact H
                                                    have Ny139 := Aside0.mk hy139
                                                    clear hy139
                                                    have H' := Aside0.mk H
                                                    clear H
                                                    go_wp2_with (first | ((with_reducible refine gate_callee (f := 39) rfl ?_); refine goesL_ (some 101) rfl rfl Try.func39 (by kernel_rfl) rfl #[.int .i64 x18_7, .int .i64 x10_5] rfl (by (try simp only [List.map_toArray, List.map_cons, List.map_nil]); first | done | rfl | (simp only [List.length_drop, List.length_take]; rfl)) ?_; (with_reducible refine (runes_bound.calls x18_7 x10_5 t132 _ A28.out).mono ?_); rintro e w38 ⟨rfl, hb⟩; refine ⟨_, rfl, ?_⟩; have n0_ := Aside0.mk (Kd.R_below (by (with_reducible repeat (first | apply Kd.R_alloc | apply Kd.R_drewN | apply Kd.R_drew)); exact HO_4.out) hb); have n1_ := Aside0.mk (below_step (by repeat (first | (with_reducible first | exact HB.out | apply below_alloc | apply pw_below_drewN | apply below_drew1) | exact HB.out)) hb); clear HO_4; clear HB; have HO_4 := n0_; have HB := n1_; clear n0_ n1_; (try clear hb); (try clear hb2); (try clear hk); (try clear hi)) | ((with_reducible refine gate_callee (f := 42) rfl ?_); refine goesL_ (some 114) rfl rfl Try.func42 (by kernel_rfl) rfl #[.int .i64 (wrap64 (t132 + (Int.tmod (wrap64 (x17_7 - t132)) (wrap64 (36 - t132)))))] rfl (by (try simp only [List.map_toArray, List.map_cons, List.map_nil]); first | done | rfl | (simp only [List.length_drop, List.length_take]; rfl)) ?_; (with_reducible refine (runes_digit.calls (wrap64 (t132 + (Int.tmod (wrap64 (x17_7 - t132)) (wrap64 (36 - t132))))) t138 _ A36.out).mono ?_); rintro e w' ⟨rfl, ⟨nd, rfl⟩⟩; refine ⟨_, rfl, ?_⟩) | ((with_reducible refine gate_builtin (b := .append) (xs := #[.tmp 105, .tmp 115]) rfl ?_); at_builtin; refine Kd.R_append (Kd.int .u8) (w0 := w) w.heap.size rfl (.tmp 105) (.tmp 115) 27 5 (.int .u8 0) 1 rfl Try.underlying27 info5 rfl (by decide) (by omega) u4 x4_7 t138 [.int .u8 t138] (fun _ => True) (fun _ => False) rfl rfl ?aP (fun _ hk => hk.elim) ?aF ?aO ?aB ?aS ?aL ?_; (case aP => exact rfl); (case aB => exact (by repeat (first | (with_reducible first | exact HB.out | apply below_alloc | apply pw_below_drewN | apply below_drew1) | exact HB.out))); (case aF => exact (fun _ _ => trivial)); (case aO => exact (by (with_reducible repeat (first | apply Kd.R_alloc | apply Kd.R_drewN | apply Kd.R_drew)); exact HO_4.out)); (case aS => exact (below_size (by repeat (first | (with_reducible first | exact HB.out | apply below_alloc | apply pw_below_drewN | apply below_drew1) | exact HB.out)))); (case aL => have := LMc37.out; omega); intro v140 w39 ho hb hg hat; rw [← Ny139.out] at ho; have n0_ := Aside0.mk (hb); have n1_ := Aside0.mk (ho); clear HB; clear HO_4; have HB := n0_; have HO141 := n1_; clear n0_ n1_; clear ho hb hg hat))
                                                    go_roundg k7
                                                    case measure => have := HK1.out; have := HJ9.out; have := HK3.out; have := HK4.out; have := HK5.out; have := HJ23.out; have := HK7.out; omega
                                                    case rel => exact ⟨(y139), (wrap64 (Int.tdiv (wrap64 (x17_7 - t132)) (wrap64 (36 - t132)))), (wrap64 (x18_7 + 36)), (by first | rfl | (simp; done) | (simp [*]; done)), (by first | rfl | (simp; done) | (simp [*]; done)), H', ⟨by have := HK1.out; have := HJ9.out; have := HK3.out; have := HK4.out; have := HK5.out; have := HJ23.out; have := HK7.out; omega⟩, ⟨by (with_reducible repeat (first | apply Kd.R_alloc | apply Kd.R_drewN | apply Kd.R_drew)); exact HO141.out⟩, ⟨by repeat (first | (with_reducible first | exact HB.out | apply below_alloc | apply pw_below_drewN | apply below_drew1) | exact HB.out)⟩⟩
                                                  · rw [if_neg c37] at H
                                                    exact absurd H (by simp)
                                      · rw [if_neg c26] at H
                                        have c26b0 : ((wrap64 ((rd l0 x80_5))) == x12_4) = false := beq_eq_false_iff_ne.mpr c26
                                        have c26b1 : ((wrap64 ((rd l0 x80_5))) != x12_4) = true := bne_iff_ne.mpr c26
                                        have H' := Aside0.mk H
                                        clear H
                                        go_wp2
                                        go_roundg kj23
                                        case measure => have := HK1.out; have := HJ9.out; have := HK3.out; have := HK4.out; have := HK5.out; have := HJ23.out; omega
                                        case rel => exact ⟨(x4_5), (x9_23), (x10_5), (x11_5), (wrap64 (x80_5 + 1)), (by first | rfl | (simp; done) | (simp [*]; done)), (by first | rfl | (simp; done) | (simp [*]; done)), (by first | rfl | (simp; done) | (simp [*]; done)), (by first | rfl | (simp; done) | (simp [*]; done)), H', ⟨by have := HK1.out; have := HJ9.out; have := HK3.out; have := HK4.out; have := HK5.out; have := HJ23.out; omega⟩, ⟨by (with_reducible repeat (first | apply Kd.R_alloc | apply Kd.R_drewN | apply Kd.R_drew)); exact HO_4.out⟩, ⟨by repeat (first | (with_reducible first | exact HB.out | apply below_alloc | apply pw_below_drewN | apply below_drew1) | exact HB.out)⟩⟩
                                · rw [if_neg c23] at H
                                  exact absurd H (by simp)
                              · rw [if_neg c22] at H
                                exact absurd H (by simp)
                            · rw [if_neg c21] at H
                              have c21b0 : decide (x80_5 < (l0.length : Int)) = false := decide_eq_false c21
                              clear c21
                              have H' := Aside0.mk H
                              clear H
                              go_wp2
                              go_roundg k5
                              case measure => have := HK1.out; have := HJ9.out; have := HK3.out; have := HK4.out; have := HK5.out; omega
                              case rel => exact ⟨(x4_5), (wrap64 (x12_4 + 1)), (wrap64 (x9_5 + 1)), (x10_5), (x11_5), (by first | rfl | (simp; done) | (simp [*]; done)), (by first | rfl | (simp; done) | (simp [*]; done)), (by first | rfl | (simp; done) | (simp [*]; done)), (by first | rfl | (simp; done) | (simp [*]; done)), H', ⟨by have := HK1.out; have := HJ9.out; have := HK3.out; have := HK4.out; have := HK5.out; omega⟩, ⟨by (with_reducible repeat (first | apply Kd.R_alloc | apply Kd.R_drewN | apply Kd.R_drew)); exact HO_4.out⟩, ⟨by repeat (first | (with_reducible first | exact HB.out | apply below_alloc | apply pw_below_drewN | apply below_drew1) | exact HB.out)⟩⟩
                · rw [if_neg c15] at H
                  have c15b0 : decide (x11_3 < (l0.length : Int)) = false := decide_eq_false c15
                  clear c15
                  simp only [Option.some.injEq, Prod.mk.injEq] at H
                  obtain ⟨rfl, rfl⟩ := H
                  have hcv40 := own_string (P := Try.prog) Try.underlying27 Try.underlying5 Try.underlying9 (Kd.own_of_R HO_4.out)
                  go_wp2
                  go_ret2
                  exact ⟨by first | rfl | (simp [errW_none, errW_some] <;> rfl) | (simp [*, errW_none, errW_some] <;> rfl), by repeat (first | (with_reducible first | exact HB.out | apply below_alloc | apply pw_below_drewN | apply below_drew1) | exact HB.out)⟩

end Go.Proofs.Ytabjfpjmiiiecaa.D
