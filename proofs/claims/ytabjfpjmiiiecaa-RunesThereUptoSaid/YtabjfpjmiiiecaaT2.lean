-- Printed by wip/tools/gprint.py (this session's program) out of the translation. Not trusted: Lean checks it.
import Derived.Test.YtabjfpjmiiiecaaT0
import Derived.Test.YtabjfpjmiiiecaaD5
import Derived.Test.YtabjfpjmiiiecaaD7
import Derived.Test.YtabjfpjmiiiecaaD9
import Derived.Test.YtabjfpjmiiiecaaOrd
namespace Go.Proofs.Ytabjfpjmiiiecaa.T
open Go.RowKit Go.Proofs.Ytabjfpjmiiiecaa.M Go.Proofs.Ytabjfpjmiiiecaa.MN Go.Proofs.Ytabjfpjmiiiecaa.WK Go.Proofs.Ytabjfpjmiiiecaa.D Go.Proofs.Ytabjfpjmiiiecaa.CL Go.Proofs.Ytabjfpjmiiiecaa.OR Go.Proofs.Ytabjfpjmiiiecaa.SM Go.Proofs.YtabjfpjmiiiecaaW.PrintWords Go.Proofs.YtabjfpjmiiiecaaW.PrintLast Go.Proofs.YtabjfpjmiiiecaaW.PrintMore
attribute [local go_sem] max2_int min2_int max_two min_two max_three min_three max_four min_four   -- for this text's walks alone
set_option linter.unusedVariables false
set_option linter.unusedSimpArgs false

-- NOT PRINTED: function 56 (bytealg_LastIndexByteString)

-- NOT PRINTED: function 37 (strings_LastIndexByte)

-- NOT PRINTED: function 38 (runes_value)

-- NOT PRINTED: function 39 (runes_bound)

-- NOT PRINTED: function 40 (runes_is)

-- NOT PRINTED: function 41 (runes_adapt)

-- NOT PRINTED: function 42 (runes_digit)

-- NOT PRINTED: function 36 (runes_state_take)

-- NOT PRINTED: function 48 (utf8_ValidRune)

-- NOT PRINTED: function 61 (utf8_appendRuneNonASCII)

-- NOT PRINTED: function 49 (utf8_AppendRune)

-- NOT PRINTED: function 60 (posthornref05_bound)

-- NOT PRINTED: function 45 (posthornref05_step)

/-! ### posthornref05_Puny: function 29 -/
mutual
def posthornref05_Puny.l0 : Nat → List Int → ByteArray → List Bool → Int → List Int → Int → Int → Option (ByteArray × Int)
  | 0, _, _, _, _, _, _, _ => none
  | k + 1, x0, x4, x5, x6, x21, x22, x23 => if x23 < x22 then (if 0 ≤ x23 then (if x23 < (x21.length : Int) then ((posthornref05_Is.f (wrap64 (rd x21 x23))).bind fun t105 => (if t105 = true then (if (rd x21 x23) < 128 then ((some (([(rd x21 x23) % 256] : List Int) : List Int)).bind fun y106 => (if x4.size + (strOfNums y106).size ≤ 9223372036854775807 then (if x23 < (x5.length : Int) then (posthornref05_Puny.l0 k x0 (x4 ++ (strOfNums y106)) (x5.set (x23 : Int).toNat true) (wrap64 (x6 + 1)) x21 x22 (wrap64 (x23 + 1))) else (none)) else (none))) else (posthornref05_Puny.l0 k x0 x4 x5 x6 x21 x22 (wrap64 (x23 + 1)))) else (some ((⟨#[]⟩ : ByteArray), 50)))) else (none)) else (none)) else (if x6 > 0 then (if x4.size + 1 ≤ 9223372036854775807 then (posthornref05_Puny.j1 k x0 (x4 ++ (⟨#[45]⟩ : ByteArray)) x5 x6) else (none)) else (posthornref05_Puny.j1 k x0 x4 x5 x6))
def posthornref05_Puny.j1 : Nat → List Int → ByteArray → List Bool → Int → Option (ByteArray × Int)
  | 0, _, _, _, _ => none
  | k + 1, x0, x4, x5, x6 => (posthornref05_order.f x0).bind fun t110 => (posthornref05_Puny.l1 k x0 x4 x5 x6 128 0 72 true t110 (t110.length : Int) 0)
def posthornref05_Puny.l1 : Nat → List Int → ByteArray → List Bool → Int → Int → Int → Int → Bool → List Int → Int → Int → Option (ByteArray × Int)
  | 0, _, _, _, _, _, _, _, _, _, _, _ => none
  | k + 1, x0, x4, x5, x6, x9, x10, x11, x12, x51, x52, x53 => if x53 < x52 then (if 0 ≤ x53 then (if x53 < (x51.length : Int) then (posthornref05_Puny.l2 k x0 x4 x5 x6 x9 x10 x11 x12 (rd x51 x53) 0 x51 x52 x53 (rd x51 x53) 0) else (none)) else (none)) else (some (x4, 0))
def posthornref05_Puny.l2 : Nat → List Int → ByteArray → List Bool → Int → Int → Int → Int → Bool → Int → Int → List Int → Int → Int → Int → Int → Option (ByteArray × Int)
  | 0, _, _, _, _, _, _, _, _, _, _, _, _, _, _, _ => none
  | k + 1, x0, x4, x5, x6, x9, x10, x11, x12, x14, x15, x51, x52, x53, x57, x58 => if x58 < x57 then (if 0 ≤ x58 then (if x58 < (x5.length : Int) then (if rdOf false x5 x58 = true then (posthornref05_Puny.l2 k x0 x4 x5 x6 x9 x10 x11 x12 x14 (wrap64 (x15 + 1)) x51 x52 x53 x57 (wrap64 (x58 + 1))) else (posthornref05_Puny.l2 k x0 x4 x5 x6 x9 x10 x11 x12 x14 x15 x51 x52 x53 x57 (wrap64 (x58 + 1)))) else (none)) else (none)) else (if 0 ≤ x14 then (if x14 < (x0.length : Int) then (if (wrap64 ((wrap64 ((wrap64 ((wrap64 ((wrap64 (rd x0 x14)) - x9)) * (wrap64 (x6 + 1)))) + x15)) - x10)) > 2147483647 then (some ((⟨#[]⟩ : ByteArray), 52)) else ((posthornref05_letters.f k (wrap64 ((wrap64 ((wrap64 ((wrap64 ((wrap64 (rd x0 x14)) - x9)) * (wrap64 (x6 + 1)))) + x15)) - x10)) 0 x11).bind fun t116 => (if x4.size + t116.size ≤ 9223372036854775807 then (if x14 < (x5.length : Int) then ((posthornref05_Bias.f k (wrap64 ((wrap64 ((wrap64 ((wrap64 ((wrap64 (rd x0 x14)) - x9)) * (wrap64 (x6 + 1)))) + x15)) - x10)) (wrap64 (x6 + 1)) x12).bind fun t119 => (posthornref05_Puny.l1 k x0 (x4 ++ t116) (x5.set (x14 : Int).toNat true) (wrap64 (x6 + 1)) (wrap64 (rd x0 x14)) (wrap64 (x15 + 1)) t119 false x51 x52 (wrap64 (x53 + 1)))) else (none)) else (none)))) else (none)) else (none))
end
def posthornref05_Puny.f (k : Nat) (l0 : List Int) : Option (ByteArray × Int) := if 0 ≤ (l0.length : Int) then (if ((l0.length : Int) : Int).toNat ≤ 281474976710656 then (posthornref05_Puny.l0 k l0 (⟨#[]⟩ : ByteArray) (List.replicate ((l0.length : Int) : Int).toNat false) 0 l0 (l0.length : Int) 0) else (none)) else (none)
theorem posthornref05_Puny.mono_l : ∀ k, (∀ y0 y1 y2 y3 y4 y5 y6, LeO (posthornref05_Puny.l0 k y0 y1 y2 y3 y4 y5 y6) (posthornref05_Puny.l0 (k + 1) y0 y1 y2 y3 y4 y5 y6)) ∧ (∀ y0 y1 y2 y3, LeO (posthornref05_Puny.j1 k y0 y1 y2 y3) (posthornref05_Puny.j1 (k + 1) y0 y1 y2 y3)) ∧ (∀ y0 y1 y2 y3 y4 y5 y6 y7 y8 y9 y10, LeO (posthornref05_Puny.l1 k y0 y1 y2 y3 y4 y5 y6 y7 y8 y9 y10) (posthornref05_Puny.l1 (k + 1) y0 y1 y2 y3 y4 y5 y6 y7 y8 y9 y10)) ∧ (∀ y0 y1 y2 y3 y4 y5 y6 y7 y8 y9 y10 y11 y12 y13 y14, LeO (posthornref05_Puny.l2 k y0 y1 y2 y3 y4 y5 y6 y7 y8 y9 y10 y11 y12 y13 y14) (posthornref05_Puny.l2 (k + 1) y0 y1 y2 y3 y4 y5 y6 y7 y8 y9 y10 y11 y12 y13 y14))
  | 0 => ⟨fun _ _ _ _ _ _ _ r h => by simp [posthornref05_Puny.l0] at h, fun _ _ _ _ r h => by simp [posthornref05_Puny.j1] at h, fun _ _ _ _ _ _ _ _ _ _ _ r h => by simp [posthornref05_Puny.l1] at h, fun _ _ _ _ _ _ _ _ _ _ _ _ _ _ _ r h => by simp [posthornref05_Puny.l2] at h⟩
  | k + 1 => by
    obtain ⟨ih0, ih1, ih2, ih3⟩ := posthornref05_Puny.mono_l k
    refine ⟨?_, ?_, ?_, ?_⟩
    · intro y0 y1 y2 y3 y4 y5 y6
      unfold posthornref05_Puny.l0
      repeat' first
      | (with_reducible exact ih0 _ _ _ _ _ _ _)
      | (with_reducible exact ih1 _ _ _ _)
      | (with_reducible exact ih2 _ _ _ _ _ _ _ _ _ _ _)
      | (with_reducible exact ih3 _ _ _ _ _ _ _ _ _ _ _ _ _ _ _)
      | (with_reducible exact posthornref05_Bias.mono _ _ _ _)
      | (with_reducible exact posthornref05_letters.mono _ _ _ _)
      | (with_reducible exact LeO.refl _)
      | (with_reducible exact LeO.none _)
      | (with_reducible refine LeO.ite ?_ ?_)
      | (with_reducible refine LeO.bind ?_ (fun _ => ?_))
      | exact ih0 _ _ _ _ _ _ _
      | exact ih1 _ _ _ _
      | exact ih2 _ _ _ _ _ _ _ _ _ _ _
      | exact ih3 _ _ _ _ _ _ _ _ _ _ _ _ _ _ _
      | exact posthornref05_Bias.mono _ _ _ _
      | exact posthornref05_letters.mono _ _ _ _
      | exact LeO.none _
      | refine LeO.ite ?_ ?_
      | refine LeO.bind ?_ (fun _ => ?_)
    · intro y0 y1 y2 y3
      unfold posthornref05_Puny.j1
      repeat' first
      | (with_reducible exact ih0 _ _ _ _ _ _ _)
      | (with_reducible exact ih1 _ _ _ _)
      | (with_reducible exact ih2 _ _ _ _ _ _ _ _ _ _ _)
      | (with_reducible exact ih3 _ _ _ _ _ _ _ _ _ _ _ _ _ _ _)
      | (with_reducible exact posthornref05_Bias.mono _ _ _ _)
      | (with_reducible exact posthornref05_letters.mono _ _ _ _)
      | (with_reducible exact LeO.refl _)
      | (with_reducible exact LeO.none _)
      | (with_reducible refine LeO.ite ?_ ?_)
      | (with_reducible refine LeO.bind ?_ (fun _ => ?_))
      | exact ih0 _ _ _ _ _ _ _
      | exact ih1 _ _ _ _
      | exact ih2 _ _ _ _ _ _ _ _ _ _ _
      | exact ih3 _ _ _ _ _ _ _ _ _ _ _ _ _ _ _
      | exact posthornref05_Bias.mono _ _ _ _
      | exact posthornref05_letters.mono _ _ _ _
      | exact LeO.none _
      | refine LeO.ite ?_ ?_
      | refine LeO.bind ?_ (fun _ => ?_)
    · intro y0 y1 y2 y3 y4 y5 y6 y7 y8 y9 y10
      unfold posthornref05_Puny.l1
      repeat' first
      | (with_reducible exact ih0 _ _ _ _ _ _ _)
      | (with_reducible exact ih1 _ _ _ _)
      | (with_reducible exact ih2 _ _ _ _ _ _ _ _ _ _ _)
      | (with_reducible exact ih3 _ _ _ _ _ _ _ _ _ _ _ _ _ _ _)
      | (with_reducible exact posthornref05_Bias.mono _ _ _ _)
      | (with_reducible exact posthornref05_letters.mono _ _ _ _)
      | (with_reducible exact LeO.refl _)
      | (with_reducible exact LeO.none _)
      | (with_reducible refine LeO.ite ?_ ?_)
      | (with_reducible refine LeO.bind ?_ (fun _ => ?_))
      | exact ih0 _ _ _ _ _ _ _
      | exact ih1 _ _ _ _
      | exact ih2 _ _ _ _ _ _ _ _ _ _ _
      | exact ih3 _ _ _ _ _ _ _ _ _ _ _ _ _ _ _
      | exact posthornref05_Bias.mono _ _ _ _
      | exact posthornref05_letters.mono _ _ _ _
      | exact LeO.none _
      | refine LeO.ite ?_ ?_
      | refine LeO.bind ?_ (fun _ => ?_)
    · intro y0 y1 y2 y3 y4 y5 y6 y7 y8 y9 y10 y11 y12 y13 y14
      unfold posthornref05_Puny.l2
      repeat' first
      | (with_reducible exact ih0 _ _ _ _ _ _ _)
      | (with_reducible exact ih1 _ _ _ _)
      | (with_reducible exact ih2 _ _ _ _ _ _ _ _ _ _ _)
      | (with_reducible exact ih3 _ _ _ _ _ _ _ _ _ _ _ _ _ _ _)
      | (with_reducible exact posthornref05_Bias.mono _ _ _ _)
      | (with_reducible exact posthornref05_letters.mono _ _ _ _)
      | (with_reducible exact LeO.refl _)
      | (with_reducible exact LeO.none _)
      | (with_reducible refine LeO.ite ?_ ?_)
      | (with_reducible refine LeO.bind ?_ (fun _ => ?_))
      | exact ih0 _ _ _ _ _ _ _
      | exact ih1 _ _ _ _
      | exact ih2 _ _ _ _ _ _ _ _ _ _ _
      | exact ih3 _ _ _ _ _ _ _ _ _ _ _ _ _ _ _
      | exact posthornref05_Bias.mono _ _ _ _
      | exact posthornref05_letters.mono _ _ _ _
      | exact LeO.none _
      | refine LeO.ite ?_ ?_
      | refine LeO.bind ?_ (fun _ => ?_)
theorem posthornref05_Puny.mono : ∀ a0 k, LeO (posthornref05_Puny.f k a0) (posthornref05_Puny.f (k + 1) a0) := by
  intro a0 k
  obtain ⟨ih0, ih1, ih2, ih3⟩ := posthornref05_Puny.mono_l k
  unfold posthornref05_Puny.f
  repeat' first
      | (with_reducible exact ih0 _ _ _ _ _ _ _)
      | (with_reducible exact ih1 _ _ _ _)
      | (with_reducible exact ih2 _ _ _ _ _ _ _ _ _ _ _)
      | (with_reducible exact ih3 _ _ _ _ _ _ _ _ _ _ _ _ _ _ _)
      | (with_reducible exact posthornref05_Bias.mono _ _ _ _)
      | (with_reducible exact posthornref05_letters.mono _ _ _ _)
      | (with_reducible exact LeO.refl _)
      | (with_reducible exact LeO.none _)
      | (with_reducible refine LeO.ite ?_ ?_)
      | (with_reducible refine LeO.bind ?_ (fun _ => ?_))
      | exact ih0 _ _ _ _ _ _ _
      | exact ih1 _ _ _ _
      | exact ih2 _ _ _ _ _ _ _ _ _ _ _
      | exact ih3 _ _ _ _ _ _ _ _ _ _ _ _ _ _ _
      | exact posthornref05_Bias.mono _ _ _ _
      | exact posthornref05_letters.mono _ _ _ _
      | exact LeO.none _
      | refine LeO.ite ?_ ?_
      | refine LeO.bind ?_ (fun _ => ?_)
set_option maxHeartbeats 8000000 in
set_option maxRecDepth 100000 in
theorem posthornref05_Puny.calls (k : Nat) (A0 : Option Addr) (c0 : Nat) (l0 : List Int) (r1 : ByteArray) (r2 : Int) (w : World) (hr0 : Kd.C (Kd.int .i32) w A0 l0.length l0) (hc0 : l0.length ≤ c0) (h : posthornref05_Puny.f k l0 = some (r1, r2)) :
    Calls Try.prog 29 #[.slice A0 l0.length c0] w fun e w' => e = .returned (.tuple #[.string r1, .int .i64 r2]) ∧ Below w.heap.size w w' := by
  have HR0 := Aside0.mk hr0
  have HC0 := Aside0.mk hc0
  clear hr0 hc0
  have HB := Aside0.mk (Below.refl w.heap.size w)
  have H : (if 0 ≤ (l0.length : Int) then (if ((l0.length : Int) : Int).toNat ≤ 281474976710656 then (posthornref05_Puny.l0 k l0 (⟨#[]⟩ : ByteArray) (List.replicate ((l0.length : Int) : Int).toNat false) 0 l0 (l0.length : Int) 0) else (none)) else (none)) = some (r1, r2) := h
  clear h
  by_cases c2 : 0 ≤ (l0.length : Int)
  · rw [if_pos c2] at H
    have c2b0 := eq_true c2
    have c2b1 : decide (0 ≤ (l0.length : Int)) = true := decide_eq_true c2
    clear c2
    by_cases c3 : ((l0.length : Int) : Int).toNat ≤ 281474976710656
    · rw [if_pos c3] at H
      have c3b0 := eq_true c3
      have c3b1 : decide (((l0.length : Int) : Int).toNat ≤ 281474976710656) = true := decide_eq_true c3
      clear c3
      obtain ⟨y101, hy101⟩ : ∃ y_ : List Bool, y_ = (List.replicate ((l0.length : Int) : Int).toNat false) := ⟨_, rfl⟩
      replace H : (posthornref05_Puny.l0 k l0 (⟨#[]⟩ : ByteArray) y101 0 l0 (l0.length : Int) 0) = some (r1, r2) := by first | (rw [hy101]; with_reducible exact H) | (have H2_ := (Option.bind_some _ _).symm.trans H; rw [hy101]; with_reducible exact H2_) | (have H2_ := (Option.bind_some _ _).symm.trans H; with_reducible exact H2_) | with_reducible exact H | (rw [hy101]; exact H) | exact H
      have Ny101 := Aside0.mk hy101
      clear hy101
      have H' := Aside0.mk H
      clear H
      go_enter Try.func29, Try.ntmps29
      go_wp2_with (first | ((with_reducible refine gate_dst (N := 20) rfl ?_); refine Kd.R_make Kd.bool _ 4 rfl (N := 20) rfl 90 _ _ rfl (l0.length : Int) rfl rfl Try.underlying90 (.bool false) 1 info4 rfl (by decide) (by omega) false (ok := fun _ => True) (okp := fun _ => True) rfl (fun _ hk => hk) trivial (of_decide_eq_true (by first | (with_reducible assumption) | assumption)) (Nat.le_trans (Nat.mul_le_mul_right _ (of_decide_eq_true (by first | (with_reducible assumption) | assumption) : (l0.length : Int).toNat ≤ 281474976710656)) (by omega)) (Below.refl _ _) (Nat.le_refl _) ?_; intro v102 w4 ho5 hb hg_ hnew_; clear hg_ hnew_; (first | rw [← Ny101.out] at ho5 | (simp only [Int.reduceToNat] at ho5; rw [← Ny101.out] at ho5)); have n0_ := Aside0.mk (Kd.R_lower ho5 (below_size (by repeat (first | (with_reducible first | exact HB.out | apply below_alloc | apply pw_below_drewN | apply below_drew1) | exact HB.out)))); have n1_ := Aside0.mk (below_step (by repeat (first | (with_reducible first | exact HB.out | apply below_alloc | apply pw_below_drewN | apply below_drew1) | exact HB.out)) hb); clear HB; have HO103 := n0_; have HB := n1_; clear n0_ n1_; clear hb ho5))
      go_loopg [4, 6, 23] k (fun kq v4 v6 v23 w' => ∃ (x4_1 : ByteArray) (x5_1 : List Bool) (x6_1 : Int) (x23_1 : Int), v4 = .string x4_1 ∧ v6 = .int .i64 x6_1 ∧ v23 = .int .i64 x23_1 ∧ Aside0 (posthornref05_Puny.l0 kq l0 x4_1 x5_1 x6_1 l0 (l0.length : Int) x23_1 = some (r1, r2)) ∧ Aside0 (kq ≤ k) ∧ Aside0 (Kd.R Kd.bool 4 w' w.heap.size (fun _ => True) v102 x5_1) ∧ Aside0 (Below w.heap.size w w'))
      case atStart => exact ⟨((⟨#[]⟩ : ByteArray)), (y101), (0), (0), (by first | rfl | (simp; done) | (simp [*]; done)), (by first | rfl | (simp; done) | (simp [*]; done)), (by first | rfl | (simp; done) | (simp [*]; done)), H', ⟨Nat.le_refl _⟩, ⟨by (with_reducible repeat (first | apply Kd.R_alloc | apply Kd.R_drewN | apply Kd.R_drew)); exact HO103.out⟩, ⟨by repeat (first | (with_reducible first | exact HB.out | apply below_alloc | apply pw_below_drewN | apply below_drew1) | exact HB.out)⟩⟩
      case round =>
        clear H'
        try clear c2
        try clear c2b0
        try clear c2b1
        try clear p2
        try clear c3
        try clear c3b0
        try clear c3b1
        obtain ⟨x4_1, x5_1, x6_1, x23_1, rfl, rfl, rfl, HA, HK1, HO_5, HB⟩ := hrel
        cases gk with
        | zero => exact absurd HA.out (by simp [posthornref05_Puny.l0])
        | succ k1 =>
          have H := HA.out
          clear HA
          simp only [posthornref05_Puny.l0] at H
          by_cases c6 : x23_1 < (l0.length : Int)
          · rw [if_pos c6] at H
            have c6b0 : decide (x23_1 < (l0.length : Int)) = true := decide_eq_true c6
            clear c6
            by_cases c7 : 0 ≤ x23_1
            · rw [if_pos c7] at H
              have c7b0 : decide (0 ≤ x23_1) = true := decide_eq_true c7
              clear c7
              by_cases c8 : x23_1 < (l0.length : Int)
              · rw [if_pos c8] at H
                have c8b0 : decide (x23_1 < (l0.length : Int)) = true := decide_eq_true c8
                clear c8
                replace H := Option.bind_eq_some_iff.mp H
                obtain ⟨t105, A90, H⟩ := H
                replace H : (if t105 = true then (if (rd l0 x23_1) < 128 then ((some (([(rd l0 x23_1) % 256] : List Int) : List Int)).bind fun y106 => (if x4_1.size + (strOfNums y106).size ≤ 9223372036854775807 then (if x23_1 < (x5_1.length : Int) then (posthornref05_Puny.l0 k1 l0 (x4_1 ++ (strOfNums y106)) (x5_1.set (x23_1 : Int).toNat true) (wrap64 (x6_1 + 1)) l0 (l0.length : Int) (wrap64 (x23_1 + 1))) else (none)) else (none))) else (posthornref05_Puny.l0 k1 l0 x4_1 x5_1 x6_1 l0 (l0.length : Int) (wrap64 (x23_1 + 1)))) else (some ((⟨#[]⟩ : ByteArray), 50))) = some (r1, r2) := H
                have A9 := Aside0.mk A90
                clear A90
                by_cases c10 : t105 = true
                · subst c10
                  have H1 : (if (rd l0 x23_1) < 128 then ((some (([(rd l0 x23_1) % 256] : List Int) : List Int)).bind fun y106 => (if x4_1.size + (strOfNums y106).size ≤ 9223372036854775807 then (if x23_1 < (x5_1.length : Int) then (posthornref05_Puny.l0 k1 l0 (x4_1 ++ (strOfNums y106)) (x5_1.set (x23_1 : Int).toNat true) (wrap64 (x6_1 + 1)) l0 (l0.length : Int) (wrap64 (x23_1 + 1))) else (none)) else (none))) else (posthornref05_Puny.l0 k1 l0 x4_1 x5_1 x6_1 l0 (l0.length : Int) (wrap64 (x23_1 + 1)))) = some (r1, r2) := by rw [if_pos rfl] at H; exact H
                  clear H
                  have H := H1
                  clear H1
                  by_cases c11 : (rd l0 x23_1) < 128
                  · rw [if_pos c11] at H
                    have c11b0 : decide ((rd l0 x23_1) < 128) = true := decide_eq_true c11
                    clear c11
                    obtain ⟨y106, hy106⟩ : ∃ y_ : List Int, y_ = (([(rd l0 x23_1) % 256] : List Int)) := ⟨_, rfl⟩
                    replace H : (if x4_1.size + (strOfNums y106).size ≤ 9223372036854775807 then (if x23_1 < (x5_1.length : Int) then (posthornref05_Puny.l0 k1 l0 (x4_1 ++ (strOfNums y106)) (x5_1.set (x23_1 : Int).toNat true) (wrap64 (x6_1 + 1)) l0 (l0.length : Int) (wrap64 (x23_1 + 1))) else (none)) else (none)) = some (r1, r2) := by first | (rw [hy106]; with_reducible exact H) | (have H2_ := (Option.bind_some _ _).symm.trans H; rw [hy106]; with_reducible exact H2_) | (have H2_ := (Option.bind_some _ _).symm.trans H; with_reducible exact H2_) | with_reducible exact H | (rw [hy106]; exact H) | exact H
                    have Ny106 := Aside0.mk hy106
                    clear hy106
                    by_cases c12 : x4_1.size + (strOfNums y106).size ≤ 9223372036854775807
                    · rw [if_pos c12] at H
                      have c12b0 := eq_true c12
                      have c12b1 : decide (x4_1.size + (strOfNums y106).size ≤ 9223372036854775807) = true := decide_eq_true c12
                      try have c12b2 : (9223372036854775807 < x4_1.size + (strOfNums y106).size) = False := eq_false (Nat.not_lt.2 c12)
                      by_cases c13 : x23_1 < (x5_1.length : Int)
                      · rw [if_pos c13] at H
                        have c13b0 : decide (x23_1 < (x5_1.length : Int)) = true := decide_eq_true c13
                        clear c13
                        obtain ⟨y109, hy109⟩ : ∃ y_ : List Bool, y_ = (x5_1.set (x23_1 : Int).toNat true) := ⟨_, rfl⟩
                        replace H : (posthornref05_Puny.l0 k1 l0 (x4_1 ++ (strOfNums y106)) y109 (wrap64 (x6_1 + 1)) l0 (l0.length : Int) (wrap64 (x23_1 + 1))) = some (r1, r2) := by first | (rw [hy109]; with_reducible exact H) | (have H2_ := (Option.bind_some _ _).symm.trans H; rw [hy109]; with_reducible exact H2_) | (have H2_ := (Option.bind_some _ _).symm.trans H; with_reducible exact H2_) | with_reducible exact H | (rw [hy109]; exact H) | exact H
                        have Ny109 := Aside0.mk hy109
                        clear hy109
                        have H' := Aside0.mk H
                        clear H
                        have p104 : 0 ≤ (x23_1 : Int) := of_decide_eq_true (by first | (with_reducible assumption) | assumption)
                        have q104 : x23_1 < (l0.length : Int) := of_decide_eq_true (by first | (with_reducible assumption) | assumption)
                        obtain ⟨ad104, e104, hx104_0⟩ := Kd.at_int HR0.out x23_1 p104 q104
                        cases e104
                        replace hx104_0 := (HB.out.cell (World.block_lt_of_cell? w _ hx104_0)).trans hx104_0
                        replace p104 := eq_true p104
                        replace q104 := eq_true q104
                        go_wp2_with (first | ((with_reducible refine gate_callee (f := 46) rfl ?_); refine goesL_ (some 30) rfl rfl Try.func46 (by kernel_rfl) rfl #[.int .i64 (wrap64 (rd l0 x23_1))] rfl (by (try simp only [List.map_toArray, List.map_cons, List.map_nil]); first | done | rfl | (simp only [List.length_drop, List.length_take]; rfl)) ?_; (with_reducible refine (posthornref05_Is.calls (wrap64 (rd l0 x23_1)) true _ A9.out).mono ?_); rintro e w' ⟨rfl, ⟨nd, rfl⟩⟩; refine ⟨_, rfl, ?_⟩; (try (rw [drewN_self wr]; generalize hq_ : World.drewN wr _ = wr; have n0_ : Aside0 (Kd.R Kd.bool 4 wr w.heap.size (fun _ => True) v102 x5_1) := ⟨by rw [← hq_]; exact (by (with_reducible repeat (first | apply Kd.R_alloc | apply Kd.R_drewN | apply Kd.R_drew)); exact HO_5.out)⟩; have n1_ : Aside0 (Below w.heap.size w wr) := ⟨by rw [← hq_]; exact (by repeat (first | (with_reducible first | exact HB.out | apply below_alloc | apply pw_below_drewN | apply below_drew1) | exact HB.out))⟩; clear HO_5 HB hq_; have HO_5 := n0_; have HB := n1_; clear n0_ n1_))) | ((with_reducible refine gate_dst (N := 37) rfl ?_); refine Kd.R_lit (Kd.int .u8) _ 5 ?hg (N := 37) ?hd (xs := ([(rd l0 x23_1) % 256] : List Int)) (inner := [.int .u8 ((rd l0 x23_1) % 256)]) (ok := fun _ => True) (okp := fun _ => True) ?hr ?hp (fun _ hk => hk) trivial (Below.refl _ _) (Nat.le_refl _) (by simp) ?_; (case hd => rfl); (case hg => rfl); (case hr => first | (go_simp; done) | (go_simp; rfl)); (case hp => exact (Reps.one (show Kd.M (Kd.int .u8) _ _ _ ((rd l0 x23_1) % 256) [.int .u8 ((rd l0 x23_1) % 256)] from rfl) (Reps.none _ _))); intro v107 w15 ho16 hb hg_ hnew_; clear hg_ hnew_; (first | rw [← Ny106.out] at ho16 | (simp only [Int.reduceToNat] at ho16; rw [← Ny106.out] at ho16)); have n0_ := Aside0.mk (Kd.R_below (by (with_reducible repeat (first | apply Kd.R_alloc | apply Kd.R_drewN | apply Kd.R_drew)); exact HO_5.out) hb); have n1_ := Aside0.mk (Kd.R_lower ho16 (below_size (by repeat (first | (with_reducible first | exact HB.out | apply below_alloc | apply pw_below_drewN | apply below_drew1) | exact HB.out)))); have n2_ := Aside0.mk (below_step (by repeat (first | (with_reducible first | exact HB.out | apply below_alloc | apply pw_below_drewN | apply below_drew1) | exact HB.out)) hb); clear HO_5; clear HB; have HO_5 := n0_; have HO108 := n1_; have HB := n2_; clear n0_ n1_ n2_; clear hb ho16; have hcv17 := own_string (P := Try.prog) Try.underlying27 Try.underlying5 Try.underlying9 (Kd.own_of_R HO108.out); have p14 : 0 ≤ (x23_1 : Int) := of_decide_eq_true (by first | (with_reducible assumption) | assumption); have q14 : (x23_1 : Int) < ((x5_1.length : Int) : Int) := of_decide_eq_true (by first | (with_reducible assumption) | assumption); obtain ⟨go14, co14, eo14, gb14, gl14, cl14, HG14⟩ := Kd.R_form HO_5.out (by omega); (first | cases eo14 | (injection eo14 with ea_ en_ ec_; (first | subst ea_ | (injection ea_ with ea_; subst ea_)); subst ec_; clear en_)); have GB14 := Aside0.mk gb14; have GG14 := Aside0.mk HG14; clear gb14 gl14 HG14; obtain ⟨hx14_0, hf14_0⟩ := Kd.R_celln false HO_5.out (x23_1 : Int) p14 q14; replace p14 := eq_true p14; replace q14 := eq_true q14; obtain ⟨hy18_, hz18_⟩ := Kd.R_celln false HO_5.out (x23_1 : Int) (of_decide_eq_true (by first | (with_reducible assumption) | assumption)) (of_decide_eq_true (by first | (with_reducible assumption) | assumption)); have HP18 := Kd.R_putg HO_5.out (x23_1 : Int) true) | ((with_reducible refine gate_store (t := 4) (p := 42) rfl ?_); refine store_event (t := 4) (p := 42) (v := ?vo_w19) (w1 := (w15.setCell ⟨go14, (x23_1 : Int).toNat, none⟩ (.bool true))) ?hg ?ho ?hn ?hr ?_; (case ho => rfl); (case hg => rfl); (case hn => rfl); (case hr => first | (go_simp; done) | (go_simp; rfl)); intro w19 hw; have hg : w15.grownBy w19 (some go14) := (by rw [hw]; exact HP18.2); have hp_ : Kd.R Kd.bool 4 w19 w.heap.size (fun _ => True) (.slice (some ⟨go14, 0, none⟩) x5_1.length co14) y109 := (by rw [hw, Ny109.out]; exact HP18.1); clear HP18; have n0_ := Aside0.mk (hp_); have n1_ := Aside0.mk (Kd.R_over' (v := (.slice (some ⟨go14, 0, none⟩) x5_1.length co14)) (by (with_reducible repeat (first | apply Kd.R_alloc | apply Kd.R_drewN | apply Kd.R_drew)); exact HO108.out) (Kd.R_typed HO_5.out) (by decide) hg); have n2_ := Aside0.mk ((by rw [hw]; exact below_set (HB.out) GB14.out : Below w.heap.size w w19)); clear HO_5; clear HO108; clear HB; have HO_5 := n0_; have HO108 := n1_; have HB := n2_; clear n0_ n1_ n2_; clear hg hw hp_))
                        go_roundg k1
                        case measure => have := HK1.out; omega
                        case rel => exact ⟨(x4_1 ++ (strOfNums y106)), (y109), (wrap64 (x6_1 + 1)), (wrap64 (x23_1 + 1)), (by first | rfl | (simp; done) | (simp [*]; done)), (by first | rfl | (simp; done) | (simp [*]; done)), (by first | rfl | (simp; done) | (simp [*]; done)), H', ⟨by have := HK1.out; omega⟩, ⟨by (with_reducible repeat (first | apply Kd.R_alloc | apply Kd.R_drewN | apply Kd.R_drew)); exact HO_5.out⟩, ⟨by repeat (first | (with_reducible first | exact HB.out | apply below_alloc | apply pw_below_drewN | apply below_drew1) | exact HB.out)⟩⟩
                      · rw [if_neg c13] at H
                        exact absurd H (by simp)
                    · rw [if_neg c12] at H
                      exact absurd H (by simp)
                  · rw [if_neg c11] at H
                    have c11b0 : decide ((rd l0 x23_1) < 128) = false := decide_eq_false c11
                    clear c11
                    have H' := Aside0.mk H
                    clear H
                    have p104 : 0 ≤ (x23_1 : Int) := of_decide_eq_true (by first | (with_reducible assumption) | assumption)
                    have q104 : x23_1 < (l0.length : Int) := of_decide_eq_true (by first | (with_reducible assumption) | assumption)
                    obtain ⟨ad104, e104, hx104_0⟩ := Kd.at_int HR0.out x23_1 p104 q104
                    cases e104
                    replace hx104_0 := (HB.out.cell (World.block_lt_of_cell? w _ hx104_0)).trans hx104_0
                    replace p104 := eq_true p104
                    replace q104 := eq_true q104
                    go_wp2_with (first | ((with_reducible refine gate_callee (f := 46) rfl ?_); refine goesL_ (some 30) rfl rfl Try.func46 (by kernel_rfl) rfl #[.int .i64 (wrap64 (rd l0 x23_1))] rfl (by (try simp only [List.map_toArray, List.map_cons, List.map_nil]); first | done | rfl | (simp only [List.length_drop, List.length_take]; rfl)) ?_; (with_reducible refine (posthornref05_Is.calls (wrap64 (rd l0 x23_1)) true _ A9.out).mono ?_); rintro e w' ⟨rfl, ⟨nd, rfl⟩⟩; refine ⟨_, rfl, ?_⟩))
                    go_roundg k1
                    case measure => have := HK1.out; omega
                    case rel => exact ⟨(x4_1), (x5_1), (x6_1), (wrap64 (x23_1 + 1)), (by first | rfl | (simp; done) | (simp [*]; done)), (by first | rfl | (simp; done) | (simp [*]; done)), (by first | rfl | (simp; done) | (simp [*]; done)), H', ⟨by have := HK1.out; omega⟩, ⟨by (with_reducible repeat (first | apply Kd.R_alloc | apply Kd.R_drewN | apply Kd.R_drew)); exact HO_5.out⟩, ⟨by repeat (first | (with_reducible first | exact HB.out | apply below_alloc | apply pw_below_drewN | apply below_drew1) | exact HB.out)⟩⟩
                · replace c10 := Bool.eq_false_iff.mpr c10
                  subst c10
                  have H1 : (some ((⟨#[]⟩ : ByteArray), 50)) = some (r1, r2) := by rw [if_neg (show ¬ (false = true) by decide)] at H; exact H
                  clear H
                  have H := H1
                  clear H1
                  simp only [Option.some.injEq, Prod.mk.injEq] at H
                  obtain ⟨rfl, rfl⟩ := H
                  have p104 : 0 ≤ (x23_1 : Int) := of_decide_eq_true (by first | (with_reducible assumption) | assumption)
                  have q104 : x23_1 < (l0.length : Int) := of_decide_eq_true (by first | (with_reducible assumption) | assumption)
                  obtain ⟨ad104, e104, hx104_0⟩ := Kd.at_int HR0.out x23_1 p104 q104
                  cases e104
                  replace hx104_0 := (HB.out.cell (World.block_lt_of_cell? w _ hx104_0)).trans hx104_0
                  replace p104 := eq_true p104
                  replace q104 := eq_true q104
                  go_wp2_with (first | ((with_reducible refine gate_callee (f := 46) rfl ?_); refine goesL_ (some 30) rfl rfl Try.func46 (by kernel_rfl) rfl #[.int .i64 (wrap64 (rd l0 x23_1))] rfl (by (try simp only [List.map_toArray, List.map_cons, List.map_nil]); first | done | rfl | (simp only [List.length_drop, List.length_take]; rfl)) ?_; (with_reducible refine (posthornref05_Is.calls (wrap64 (rd l0 x23_1)) false _ A9.out).mono ?_); rintro e w' ⟨rfl, ⟨nd, rfl⟩⟩; refine ⟨_, rfl, ?_⟩))
                  go_ret2
                  exact ⟨by first | rfl | (simp [errW_none, errW_some] <;> rfl) | (simp [*, errW_none, errW_some] <;> rfl), by repeat (first | (with_reducible first | exact HB.out | apply below_alloc | apply pw_below_drewN | apply below_drew1) | exact HB.out)⟩
              · rw [if_neg c8] at H
                exact absurd H (by simp)
            · rw [if_neg c7] at H
              exact absurd H (by simp)
          · rw [if_neg c6] at H
            have c6b0 : decide (x23_1 < (l0.length : Int)) = false := decide_eq_false c6
            clear c6
            have HC20 := Aside0.mk H
            clear H
            go_upto_if 47 with (fail)
            go_cut [4] (fun v4 wc => ∃ (kq : Nat) (x4_19 : ByteArray), v4 = .string x4_19 ∧ Aside0 (posthornref05_Puny.j1 kq l0 x4_19 x5_1 x6_1 = some (r1, r2)) ∧ Aside0 (kq ≤ k1) ∧ Aside0 (Kd.R Kd.bool 4 wc w.heap.size (fun _ => True) v102 x5_1) ∧ Aside0 (Below w.heap.size w wc))
            case first =>
              have H := HC20.out
              clear HC20
              by_cases c21 : x6_1 > 0
              · rw [if_pos c21] at H
                have c21b0 : decide (0 < x6_1) = true := decide_eq_true c21
                clear c21
                (first | rw [c21b0] | (simp only [i64_w, i32_w]; rw [c21b0]) | skip)
                by_cases c22 : x4_1.size + 1 ≤ 9223372036854775807
                · rw [if_pos c22] at H
                  have c22b0 := eq_true c22
                  have c22b1 : decide (x4_1.size + 1 ≤ 9223372036854775807) = true := decide_eq_true c22
                  try have c22b2 : (9223372036854775807 < x4_1.size + 1) = False := eq_false (Nat.not_lt.2 c22)
                  have H' := Aside0.mk H
                  clear H
                  go_wp2
                  go_meet
                  case rel => exact ⟨_, (x4_1 ++ (⟨#[45]⟩ : ByteArray)), (by first | rfl | (simp; done) | (simp [*]; done)), H', ⟨by have := HK1.out; first | omega | exact Nat.le_refl _⟩, ⟨by (with_reducible repeat (first | apply Kd.R_alloc | apply Kd.R_drewN | apply Kd.R_drew)); exact HO_5.out⟩, ⟨by repeat (first | (with_reducible first | exact HB.out | apply below_alloc | apply pw_below_drewN | apply below_drew1) | exact HB.out)⟩⟩
                · rw [if_neg c22] at H
                  exact absurd H (by simp)
              · rw [if_neg c21] at H
                have c21b0 : decide (0 < x6_1) = false := decide_eq_false c21
                clear c21
                (first | rw [c21b0] | (simp only [i64_w, i32_w]; rw [c21b0]) | skip)
                have H' := Aside0.mk H
                clear H
                go_wp2
                go_meet
                case rel => exact ⟨_, (x4_1), (by first | rfl | (simp; done) | (simp [*]; done)), H', ⟨by have := HK1.out; first | omega | exact Nat.le_refl _⟩, ⟨by (with_reducible repeat (first | apply Kd.R_alloc | apply Kd.R_drewN | apply Kd.R_drew)); exact HO_5.out⟩, ⟨by repeat (first | (with_reducible first | exact HB.out | apply below_alloc | apply pw_below_drewN | apply below_drew1) | exact HB.out)⟩⟩
            case rest =>
              clear HC20
              try clear c1
              try clear p1
              try clear q1
              try clear hx1
              try clear hcv1
              try clear hf1
              try clear c2
              try clear c2b0
              try clear c2b1
              try clear p2
              try clear c3
              try clear c3b0
              try clear c3b1
              try clear c4
              try clear c6
              try clear c6b0
              try clear p6
              try clear c7
              try clear c7b0
              try clear c8
              try clear c8b0
              try clear c10
              try clear p10
              try clear q10
              try clear hx10
              try clear c11
              try clear c11b0
              try clear c12
              try clear c12b0
              try clear c12b1
              try clear c12b2
              try clear c13
              try clear c13b0
              try clear p14
              try clear q14
              try clear hx14
              try clear hf14
              try clear hcv17
              try clear c21
              try clear c21b0
              try clear c22
              try clear c22b0
              try clear c22b1
              try clear c22b2
              try clear hx104_0
              try clear hx14_0
              try clear p104
              try clear p14
              try clear p2
              try clear q104
              try clear q14
              obtain ⟨kq, x4_19, rfl, HA, HJ19, HO_5, HB⟩ := hcut
              cases kq with
              | zero => exact absurd HA.out (by simp [posthornref05_Puny.j1])
              | succ kj19 =>
                have H := HA.out
                clear HA
                simp only [posthornref05_Puny.j1] at H
                replace H := Option.bind_eq_some_iff.mp H
                obtain ⟨t110, A230, H⟩ := H
                replace H : (posthornref05_Puny.l1 kj19 l0 x4_19 x5_1 x6_1 128 0 72 true t110 (t110.length : Int) 0) = some (r1, r2) := H
                have A23 := Aside0.mk A230
                clear A230
                have H' := Aside0.mk H
                clear H
                go_wp2_with (first | ((with_reducible refine gate_callee (f := 51) rfl ?_); refine goesL_ (some 51) rfl rfl Try.func51 (by kernel_rfl) rfl #[.slice A0 l0.length c0] rfl (by (try simp only [List.map_toArray, List.map_cons, List.map_nil]); first | done | rfl | (simp only [List.length_drop, List.length_take]; rfl)) ?_; (with_reducible refine (posthornref05_order.calls _ _ l0 t110 _ ?side1 ?side2 A23.out).mono ?_); (case side1 => repeat (first | exact (Kd.C_below HR0.out HB.out) | (with_reducible refine Kd.C_alloc ?_ _) | (with_reducible refine Kd.C_drewN ?_ _) | (with_reducible refine Kd.C_drew ?_))); (case side2 => exact HC0.out); rintro e w24 ⟨v111, rfl, ho0, hb⟩; refine ⟨_, rfl, ?_⟩; have n0_ := Aside0.mk (Kd.R_below (by (with_reducible repeat (first | apply Kd.R_alloc | apply Kd.R_drewN | apply Kd.R_drew)); exact HO_5.out) hb); have n1_ := Aside0.mk (Kd.R_lower ho0 (below_size (by repeat (first | (with_reducible first | exact HB.out | apply below_alloc | apply pw_below_drewN | apply below_drew1) | exact HB.out)))); have n2_ := Aside0.mk (below_step (by repeat (first | (with_reducible first | exact HB.out | apply below_alloc | apply pw_below_drewN | apply below_drew1) | exact HB.out)) hb); clear HO_5; clear HB; have HO_5 := n0_; have HO112 := n1_; have HB := n2_; clear n0_ n1_ n2_; (try clear hb); (try clear hb2); (try clear hk); (try clear hi); (try clear ho0); obtain ⟨Ao25, co25, eo25⟩ := Kd.R_slice HO112.out; subst eo25))
                go_loopg [4, 6, 9, 10, 11, 12, 53] kj19 (fun kq v4 v6 v9 v10 v11 v12 v53 w' => ∃ (x4_3 : ByteArray) (x5_3 : List Bool) (x6_3 : Int) (x9_3 : Int) (x10_3 : Int) (x11_3 : Int) (x12_3 : Bool) (x53_3 : Int), v4 = .string x4_3 ∧ v6 = .int .i64 x6_3 ∧ v9 = .int .i64 x9_3 ∧ v10 = .int .i64 x10_3 ∧ v11 = .int .i64 x11_3 ∧ v12 = .bool x12_3 ∧ v53 = .int .i64 x53_3 ∧ Aside0 (posthornref05_Puny.l1 kq l0 x4_3 x5_3 x6_3 x9_3 x10_3 x11_3 x12_3 t110 (t110.length : Int) x53_3 = some (r1, r2)) ∧ Aside0 (kq ≤ kj19) ∧ Aside0 (Kd.R Kd.bool 4 w' w.heap.size (fun _ => True) v102 x5_3) ∧ Aside0 (Kd.R (Kd.int .i64) 3 w' w.heap.size (fun _ => True) (.slice Ao25 t110.length co25) t110) ∧ Aside0 (Below w.heap.size w w'))
                case atStart => exact ⟨(x4_19), (x5_1), (x6_1), (128), (0), (72), (true), (0), (by first | rfl | (simp; done) | (simp [*]; done)), (by first | rfl | (simp; done) | (simp [*]; done)), (by first | rfl | (simp; done) | (simp [*]; done)), (by first | rfl | (simp; done) | (simp [*]; done)), (by first | rfl | (simp; done) | (simp [*]; done)), (by first | rfl | (simp; done) | (simp [*]; done)), (by first | rfl | (simp; done) | (simp [*]; done)), H', ⟨Nat.le_refl _⟩, ⟨by (with_reducible repeat (first | apply Kd.R_alloc | apply Kd.R_drewN | apply Kd.R_drew)); exact HO_5.out⟩, ⟨by (with_reducible repeat (first | apply Kd.R_alloc | apply Kd.R_drewN | apply Kd.R_drew)); exact HO112.out⟩, ⟨by repeat (first | (with_reducible first | exact HB.out | apply below_alloc | apply pw_below_drewN | apply below_drew1) | exact HB.out)⟩⟩
                case round =>
                  clear H'
                  try clear c1
                  try clear p1
                  try clear q1
                  try clear hx1
                  try clear hcv1
                  try clear hf1
                  try clear c2
                  try clear c2b0
                  try clear c2b1
                  try clear p2
                  try clear c3
                  try clear c3b0
                  try clear c3b1
                  try clear c4
                  try clear c5
                  try clear c6
                  try clear c6b0
                  try clear p6
                  try clear c7
                  try clear c7b0
                  try clear c8
                  try clear c8b0
                  try clear c10
                  try clear p10
                  try clear q10
                  try clear hx10
                  try clear c11
                  try clear c11b0
                  try clear c12
                  try clear c12b0
                  try clear c12b1
                  try clear c12b2
                  try clear c13
                  try clear c13b0
                  try clear p14
                  try clear q14
                  try clear hx14
                  try clear hf14
                  try clear hcv17
                  try clear c21
                  try clear c21b0
                  try clear c22
                  try clear c22b0
                  try clear c22b1
                  try clear c22b2
                  try clear hx104_0
                  try clear hx14_0
                  try clear p1
                  try clear p10
                  try clear p104
                  try clear p14
                  try clear p2
                  try clear p6
                  try clear q1
                  try clear q10
                  try clear q104
                  try clear q14
                  obtain ⟨x4_3, x5_3, x6_3, x9_3, x10_3, x11_3, x12_3, x53_3, rfl, rfl, rfl, rfl, rfl, rfl, rfl, HA, HK3, HO_5, HO_51, HB⟩ := hrel
                  cases gk with
                  | zero => exact absurd HA.out (by simp [posthornref05_Puny.l1])
                  | succ k3 =>
                    have H := HA.out
                    clear HA
                    simp only [posthornref05_Puny.l1] at H
                    by_cases c26 : x53_3 < (t110.length : Int)
                    · rw [if_pos c26] at H
                      have c26b0 : decide (x53_3 < (t110.length : Int)) = true := decide_eq_true c26
                      clear c26
                      by_cases c27 : 0 ≤ x53_3
                      · rw [if_pos c27] at H
                        have c27b0 : decide (0 ≤ x53_3) = true := decide_eq_true c27
                        clear c27
                        by_cases c28 : x53_3 < (t110.length : Int)
                        · rw [if_pos c28] at H
                          have c28b0 : decide (x53_3 < (t110.length : Int)) = true := decide_eq_true c28
                          clear c28
                          have H' := Aside0.mk H
                          clear H
                          have p113 : 0 ≤ (x53_3 : Int) := of_decide_eq_true (by first | (with_reducible assumption) | assumption)
                          have q113 : x53_3 < (t110.length : Int) := of_decide_eq_true (by first | (with_reducible assumption) | assumption)
                          obtain ⟨ad113, e113, hx113_0⟩ := Kd.at_int (Kd.R_reads' HO_51.out).2.2 x53_3 p113 q113
                          cases e113
                          replace p113 := eq_true p113
                          replace q113 := eq_true q113
                          go_wp2
                          go_loopg [15, 58] k3 (fun kq v15 v58 w' => ∃ (x15_4 : Int) (x58_4 : Int), v15 = .int .i64 x15_4 ∧ v58 = .int .i64 x58_4 ∧ Aside0 (posthornref05_Puny.l2 kq l0 x4_3 x5_3 x6_3 x9_3 x10_3 x11_3 x12_3 (rd t110 x53_3) x15_4 t110 (t110.length : Int) x53_3 (rd t110 x53_3) x58_4 = some (r1, r2)) ∧ Aside0 (kq ≤ k3) ∧ Aside0 (Kd.R Kd.bool 4 w' w.heap.size (fun _ => True) v102 x5_3) ∧ Aside0 (Kd.R (Kd.int .i64) 3 w' w.heap.size (fun _ => True) (.slice (some ad113) t110.length co25) t110) ∧ Aside0 (Below w.heap.size w w'))
                          case atStart => exact ⟨(0), (0), (by first | rfl | (simp; done) | (simp [*]; done)), (by first | rfl | (simp; done) | (simp [*]; done)), H', ⟨Nat.le_refl _⟩, ⟨by (with_reducible repeat (first | apply Kd.R_alloc | apply Kd.R_drewN | apply Kd.R_drew)); exact HO_5.out⟩, ⟨by (with_reducible repeat (first | apply Kd.R_alloc | apply Kd.R_drewN | apply Kd.R_drew)); exact HO_51.out⟩, ⟨by repeat (first | (with_reducible first | exact HB.out | apply below_alloc | apply pw_below_drewN | apply below_drew1) | exact HB.out)⟩⟩
                          case round =>
                            clear H'
                            try clear c1
                            try clear p1
                            try clear q1
                            try clear hx1
                            try clear hcv1
                            try clear hf1
                            try clear c2
                            try clear c2b0
                            try clear c2b1
                            try clear p2
                            try clear c3
                            try clear c3b0
                            try clear c3b1
                            try clear c4
                            try clear c5
                            try clear c6
                            try clear c6b0
                            try clear p6
                            try clear c7
                            try clear c7b0
                            try clear c8
                            try clear c8b0
                            try clear c10
                            try clear p10
                            try clear q10
                            try clear hx10
                            try clear c11
                            try clear c11b0
                            try clear p11
                            try clear q11
                            try clear hx11
                            try clear c12
                            try clear c12b0
                            try clear c12b1
                            try clear c12b2
                            try clear c13
                            try clear c13b0
                            try clear p14
                            try clear q14
                            try clear hx14
                            try clear hf14
                            try clear hcv17
                            try clear c21
                            try clear c21b0
                            try clear c22
                            try clear c22b0
                            try clear c22b1
                            try clear c22b2
                            try clear c26
                            try clear c26b0
                            try clear c27
                            try clear c27b0
                            try clear c28
                            try clear c28b0
                            try clear hx104_0
                            try clear hx113_0
                            try clear hx14_0
                            try clear p1
                            try clear p10
                            try clear p104
                            try clear p113
                            try clear p14
                            try clear p2
                            try clear p6
                            try clear q1
                            try clear q10
                            try clear q104
                            try clear q113
                            try clear q14
                            obtain ⟨x15_4, x58_4, rfl, rfl, HA, HK4, HO_5, HO_51, HB⟩ := hrel
                            cases gk with
                            | zero => exact absurd HA.out (by simp [posthornref05_Puny.l2])
                            | succ k4 =>
                              have H := HA.out
                              clear HA
                              simp only [posthornref05_Puny.l2] at H
                              by_cases c29 : x58_4 < (rd t110 x53_3)
                              · rw [if_pos c29] at H
                                have c29b0 : decide (x58_4 < (rd t110 x53_3)) = true := decide_eq_true c29
                                clear c29
                                by_cases c30 : 0 ≤ x58_4
                                · rw [if_pos c30] at H
                                  have c30b0 : decide (0 ≤ x58_4) = true := decide_eq_true c30
                                  clear c30
                                  by_cases c31 : x58_4 < (x5_3.length : Int)
                                  · rw [if_pos c31] at H
                                    have c31b0 : decide (x58_4 < (x5_3.length : Int)) = true := decide_eq_true c31
                                    clear c31
                                    obtain ⟨bq32, hbq32⟩ : ∃ b_ : Bool, b_ = (rdOf false x5_3 x58_4) := ⟨_, rfl⟩
                                    replace H : (if bq32 = true then (posthornref05_Puny.l2 k4 l0 x4_3 x5_3 x6_3 x9_3 x10_3 x11_3 x12_3 (rd t110 x53_3) (wrap64 (x15_4 + 1)) t110 (t110.length : Int) x53_3 (rd t110 x53_3) (wrap64 (x58_4 + 1))) else (posthornref05_Puny.l2 k4 l0 x4_3 x5_3 x6_3 x9_3 x10_3 x11_3 x12_3 (rd t110 x53_3) x15_4 t110 (t110.length : Int) x53_3 (rd t110 x53_3) (wrap64 (x58_4 + 1)))) = some (r1, r2) := by rw [← hbq32] at H; exact H
                                    have Nbq32 := Aside0.mk hbq32
                                    clear hbq32
                                    by_cases c33 : bq32 = true
                                    · subst c33
                                      have H1 : (posthornref05_Puny.l2 k4 l0 x4_3 x5_3 x6_3 x9_3 x10_3 x11_3 x12_3 (rd t110 x53_3) (wrap64 (x15_4 + 1)) t110 (t110.length : Int) x53_3 (rd t110 x53_3) (wrap64 (x58_4 + 1))) = some (r1, r2) := by rw [if_pos rfl] at H; exact H
                                      clear H
                                      have H := H1
                                      clear H1
                                      have H' := Aside0.mk H
                                      clear H
                                      obtain ⟨Ao34, co34, eo34⟩ := Kd.R_slice HO_5.out
                                      subst eo34
                                      have p114 : 0 ≤ (x58_4 : Int) := of_decide_eq_true (by first | (with_reducible assumption) | assumption)
                                      have q114 : x58_4 < (x5_3.length : Int) := of_decide_eq_true (by first | (with_reducible assumption) | assumption)
                                      obtain ⟨ad114, e114, hx114_0⟩ := Kd.at_bool (Kd.R_reads' HO_5.out).2.2 x58_4 p114 q114
                                      (try rw [← Nbq32.out] at hx114_0)
                                      cases e114
                                      replace p114 := eq_true p114
                                      replace q114 := eq_true q114
                                      go_wp2
                                      go_roundg k4
                                      case measure => have := HK1.out; have := HJ19.out; have := HK3.out; have := HK4.out; omega
                                      case rel => exact ⟨(wrap64 (x15_4 + 1)), (wrap64 (x58_4 + 1)), (by first | rfl | (simp; done) | (simp [*]; done)), (by first | rfl | (simp; done) | (simp [*]; done)), H', ⟨by have := HK1.out; have := HJ19.out; have := HK3.out; have := HK4.out; omega⟩, ⟨by (with_reducible repeat (first | apply Kd.R_alloc | apply Kd.R_drewN | apply Kd.R_drew)); exact HO_5.out⟩, ⟨by (with_reducible repeat (first | apply Kd.R_alloc | apply Kd.R_drewN | apply Kd.R_drew)); exact HO_51.out⟩, ⟨by repeat (first | (with_reducible first | exact HB.out | apply below_alloc | apply pw_below_drewN | apply below_drew1) | exact HB.out)⟩⟩
                                    · replace c33 := Bool.eq_false_iff.mpr c33
                                      subst c33
                                      have H1 : (posthornref05_Puny.l2 k4 l0 x4_3 x5_3 x6_3 x9_3 x10_3 x11_3 x12_3 (rd t110 x53_3) x15_4 t110 (t110.length : Int) x53_3 (rd t110 x53_3) (wrap64 (x58_4 + 1))) = some (r1, r2) := by rw [if_neg (show ¬ (false = true) by decide)] at H; exact H
                                      clear H
                                      have H := H1
                                      clear H1
                                      have H' := Aside0.mk H
                                      clear H
                                      obtain ⟨Ao35, co35, eo35⟩ := Kd.R_slice HO_5.out
                                      subst eo35
                                      have p114 : 0 ≤ (x58_4 : Int) := of_decide_eq_true (by first | (with_reducible assumption) | assumption)
                                      have q114 : x58_4 < (x5_3.length : Int) := of_decide_eq_true (by first | (with_reducible assumption) | assumption)
                                      obtain ⟨ad114, e114, hx114_0⟩ := Kd.at_bool (Kd.R_reads' HO_5.out).2.2 x58_4 p114 q114
                                      (try rw [← Nbq32.out] at hx114_0)
                                      cases e114
                                      replace p114 := eq_true p114
                                      replace q114 := eq_true q114
                                      go_wp2
                                      go_roundg k4
                                      case measure => have := HK1.out; have := HJ19.out; have := HK3.out; have := HK4.out; omega
                                      case rel => exact ⟨(x15_4), (wrap64 (x58_4 + 1)), (by first | rfl | (simp; done) | (simp [*]; done)), (by first | rfl | (simp; done) | (simp [*]; done)), H', ⟨by have := HK1.out; have := HJ19.out; have := HK3.out; have := HK4.out; omega⟩, ⟨by (with_reducible repeat (first | apply Kd.R_alloc | apply Kd.R_drewN | apply Kd.R_drew)); exact HO_5.out⟩, ⟨by (with_reducible repeat (first | apply Kd.R_alloc | apply Kd.R_drewN | apply Kd.R_drew)); exact HO_51.out⟩, ⟨by repeat (first | (with_reducible first | exact HB.out | apply below_alloc | apply pw_below_drewN | apply below_drew1) | exact HB.out)⟩⟩
                                  · rw [if_neg c31] at H
                                    exact absurd H (by simp)
                                · rw [if_neg c30] at H
                                  exact absurd H (by simp)
                              · rw [if_neg c29] at H
                                have c29b0 : decide (x58_4 < (rd t110 x53_3)) = false := decide_eq_false c29
                                clear c29
                                by_cases c36 : 0 ≤ (rd t110 x53_3)
                                · rw [if_pos c36] at H
                                  have c36b0 : decide (0 ≤ (rd t110 x53_3)) = true := decide_eq_true c36
                                  clear c36
                                  by_cases c37 : (rd t110 x53_3) < (l0.length : Int)
                                  · rw [if_pos c37] at H
                                    have c37b0 : decide ((rd t110 x53_3) < (l0.length : Int)) = true := decide_eq_true c37
                                    clear c37
                                    by_cases c38 : (wrap64 ((wrap64 ((wrap64 ((wrap64 ((wrap64 (rd l0 (rd t110 x53_3))) - x9_3)) * (wrap64 (x6_3 + 1)))) + x15_4)) - x10_3)) > 2147483647
                                    · rw [if_pos c38] at H
                                      have c38b0 : decide (2147483647 < (wrap64 ((wrap64 ((wrap64 ((wrap64 ((wrap64 (rd l0 (rd t110 x53_3))) - x9_3)) * (wrap64 (x6_3 + 1)))) + x15_4)) - x10_3))) = true := decide_eq_true c38
                                      clear c38
                                      simp only [Option.some.injEq, Prod.mk.injEq] at H
                                      obtain ⟨rfl, rfl⟩ := H
                                      have p115 : 0 ≤ ((rd t110 x53_3) : Int) := of_decide_eq_true (by first | (with_reducible assumption) | assumption)
                                      have q115 : (rd t110 x53_3) < (l0.length : Int) := of_decide_eq_true (by first | (with_reducible assumption) | assumption)
                                      obtain ⟨ad115, e115, hx115_0⟩ := Kd.at_int HR0.out (rd t110 x53_3) p115 q115
                                      cases e115
                                      replace hx115_0 := (HB.out.cell (World.block_lt_of_cell? w _ hx115_0)).trans hx115_0
                                      replace p115 := eq_true p115
                                      replace q115 := eq_true q115
                                      go_wp2
                                      go_ret2
                                      exact ⟨by first | rfl | (simp [errW_none, errW_some] <;> rfl) | (simp [*, errW_none, errW_some] <;> rfl), by repeat (first | (with_reducible first | exact HB.out | apply below_alloc | apply pw_below_drewN | apply below_drew1) | exact HB.out)⟩
                                    · rw [if_neg c38] at H
                                      have c38b0 : decide (2147483647 < (wrap64 ((wrap64 ((wrap64 ((wrap64 ((wrap64 (rd l0 (rd t110 x53_3))) - x9_3)) * (wrap64 (x6_3 + 1)))) + x15_4)) - x10_3))) = false := decide_eq_false c38
                                      clear c38
                                      replace H := Option.bind_eq_some_iff.mp H
                                      obtain ⟨t116, A390, H⟩ := H
                                      replace H : (if x4_3.size + t116.size ≤ 9223372036854775807 then (if (rd t110 x53_3) < (x5_3.length : Int) then ((posthornref05_Bias.f k4 (wrap64 ((wrap64 ((wrap64 ((wrap64 ((wrap64 (rd l0 (rd t110 x53_3))) - x9_3)) * (wrap64 (x6_3 + 1)))) + x15_4)) - x10_3)) (wrap64 (x6_3 + 1)) x12_3).bind fun t119 => (posthornref05_Puny.l1 k4 l0 (x4_3 ++ t116) (x5_3.set ((rd t110 x53_3) : Int).toNat true) (wrap64 (x6_3 + 1)) (wrap64 (rd l0 (rd t110 x53_3))) (wrap64 (x15_4 + 1)) t119 false t110 (t110.length : Int) (wrap64 (x53_3 + 1)))) else (none)) else (none)) = some (r1, r2) := H
                                      have A39 := Aside0.mk A390
                                      clear A390
                                      by_cases c40 : x4_3.size + t116.size ≤ 9223372036854775807
                                      · rw [if_pos c40] at H
                                        have c40b0 := eq_true c40
                                        have c40b1 : decide (x4_3.size + t116.size ≤ 9223372036854775807) = true := decide_eq_true c40
                                        try have c40b2 : (9223372036854775807 < x4_3.size + t116.size) = False := eq_false (Nat.not_lt.2 c40)
                                        by_cases c41 : (rd t110 x53_3) < (x5_3.length : Int)
                                        · rw [if_pos c41] at H
                                          have c41b0 : decide ((rd t110 x53_3) < (x5_3.length : Int)) = true := decide_eq_true c41
                                          clear c41
                                          obtain ⟨y118, hy118⟩ : ∃ y_ : List Bool, y_ = (x5_3.set ((rd t110 x53_3) : Int).toNat true) := ⟨_, rfl⟩
                                          replace H : ((posthornref05_Bias.f k4 (wrap64 ((wrap64 ((wrap64 ((wrap64 ((wrap64 (rd l0 (rd t110 x53_3))) - x9_3)) * (wrap64 (x6_3 + 1)))) + x15_4)) - x10_3)) (wrap64 (x6_3 + 1)) x12_3).bind fun t119 => (posthornref05_Puny.l1 k4 l0 (x4_3 ++ t116) y118 (wrap64 (x6_3 + 1)) (wrap64 (rd l0 (rd t110 x53_3))) (wrap64 (x15_4 + 1)) t119 false t110 (t110.length : Int) (wrap64 (x53_3 + 1)))) = some (r1, r2) := by first | (rw [hy118]; with_reducible exact H) | (have H2_ := (Option.bind_some _ _).symm.trans H; rw [hy118]; with_reducible exact H2_) | (have H2_ := (Option.bind_some _ _).symm.trans H; with_reducible exact H2_) | with_reducible exact H | (rw [hy118]; exact H) | exact H
                                          have Ny118 := Aside0.mk hy118
                                          clear hy118
                                          replace H := Option.bind_eq_some_iff.mp H
                                          obtain ⟨t119, A430, H⟩ := H
                                          replace H : (posthornref05_Puny.l1 k4 l0 (x4_3 ++ t116) y118 (wrap64 (x6_3 + 1)) (wrap64 (rd l0 (rd t110 x53_3))) (wrap64 (x15_4 + 1)) t119 false t110 (t110.length : Int) (wrap64 (x53_3 + 1))) = some (r1, r2) := H
                                          have A43 := Aside0.mk A430
                                          clear A430
                                          have H' := Aside0.mk H
                                          clear H
                                          have p115 : 0 ≤ ((rd t110 x53_3) : Int) := of_decide_eq_true (by first | (with_reducible assumption) | assumption)
                                          have q115 : (rd t110 x53_3) < (l0.length : Int) := of_decide_eq_true (by first | (with_reducible assumption) | assumption)
                                          obtain ⟨ad115, e115, hx115_0⟩ := Kd.at_int HR0.out (rd t110 x53_3) p115 q115
                                          cases e115
                                          replace hx115_0 := (HB.out.cell (World.block_lt_of_cell? w _ hx115_0)).trans hx115_0
                                          replace p115 := eq_true p115
                                          replace q115 := eq_true q115
                                          go_wp2_with (first | ((with_reducible refine gate_callee (f := 52) rfl ?_); refine goesL_ (some 87) rfl rfl Try.func52 (by kernel_rfl) rfl #[.int .i64 (wrap64 ((wrap64 ((wrap64 ((wrap64 ((wrap64 (rd l0 (rd t110 x53_3))) - x9_3)) * (wrap64 (x6_3 + 1)))) + x15_4)) - x10_3)), .int .i64 0, .int .i64 x11_3] rfl (by (try simp only [List.map_toArray, List.map_cons, List.map_nil]); first | done | rfl | (simp only [List.length_drop, List.length_take]; rfl)) ?_; (with_reducible refine (posthornref05_letters.calls k4 (wrap64 ((wrap64 ((wrap64 ((wrap64 ((wrap64 (rd l0 (rd t110 x53_3))) - x9_3)) * (wrap64 (x6_3 + 1)))) + x15_4)) - x10_3)) 0 x11_3 t116 _ A39.out).mono ?_); rintro e w44 ⟨rfl, hb⟩; refine ⟨_, rfl, ?_⟩; have n0_ := Aside0.mk (Kd.R_below (by (with_reducible repeat (first | apply Kd.R_alloc | apply Kd.R_drewN | apply Kd.R_drew)); exact HO_5.out) hb); have n1_ := Aside0.mk (Kd.R_below (by (with_reducible repeat (first | apply Kd.R_alloc | apply Kd.R_drewN | apply Kd.R_drew)); exact HO_51.out) hb); have n2_ := Aside0.mk (below_step (by repeat (first | (with_reducible first | exact HB.out | apply below_alloc | apply pw_below_drewN | apply below_drew1) | exact HB.out)) hb); clear HO_5; clear HO_51; clear HB; have HO_5 := n0_; have HO_51 := n1_; have HB := n2_; clear n0_ n1_ n2_; (try clear hb); (try clear hb2); (try clear hk); (try clear hi); have p117 : 0 ≤ ((rd t110 x53_3) : Int) := of_decide_eq_true (by first | (with_reducible assumption) | assumption); have q117 : (rd t110 x53_3) < (l0.length : Int) := of_decide_eq_true (by first | (with_reducible assumption) | assumption); obtain ⟨ad117, e117, hx117_0⟩ := Kd.at_int HR0.out (rd t110 x53_3) p117 q117; obtain rfl : ad115 = ad117 := (by injection e117); replace hx117_0 := (HB.out.cell (World.block_lt_of_cell? w _ hx117_0)).trans hx117_0; replace p117 := eq_true p117; replace q117 := eq_true q117; have p42 : 0 ≤ ((rd t110 x53_3) : Int) := of_decide_eq_true (by first | (with_reducible assumption) | assumption); have q42 : ((rd t110 x53_3) : Int) < ((x5_3.length : Int) : Int) := of_decide_eq_true (by first | (with_reducible assumption) | assumption); obtain ⟨go42, co42, eo42, gb42, gl42, cl42, HG42⟩ := Kd.R_form HO_5.out (by omega); (first | cases eo42 | (injection eo42 with ea_ en_ ec_; (first | subst ea_ | (injection ea_ with ea_; subst ea_)); subst ec_; clear en_)); have GB42 := Aside0.mk gb42; have GG42 := Aside0.mk HG42; clear gb42 gl42 HG42; obtain ⟨hx42_0, hf42_0⟩ := Kd.R_celln false HO_5.out ((rd t110 x53_3) : Int) p42 q42; replace p42 := eq_true p42; replace q42 := eq_true q42; obtain ⟨hy45_, hz45_⟩ := Kd.R_celln false HO_5.out ((rd t110 x53_3) : Int) (of_decide_eq_true (by first | (with_reducible assumption) | assumption)) (of_decide_eq_true (by first | (with_reducible assumption) | assumption)); have HP45 := Kd.R_putg HO_5.out ((rd t110 x53_3) : Int) true) | ((with_reducible refine gate_store (t := 4) (p := 98) rfl ?_); refine store_event (t := 4) (p := 98) (v := ?vo_w46) (w1 := (w44.setCell ⟨go42, ((rd t110 x53_3) : Int).toNat, none⟩ (.bool true))) ?hg ?ho ?hn ?hr ?_; (case ho => rfl); (case hg => rfl); (case hn => rfl); (case hr => first | (go_simp; done) | (go_simp; rfl)); intro w46 hw; have hg : w44.grownBy w46 (some go42) := (by rw [hw]; exact HP45.2); have hp_ : Kd.R Kd.bool 4 w46 w.heap.size (fun _ => True) (.slice (some ⟨go42, 0, none⟩) x5_3.length co42) y118 := (by rw [hw, Ny118.out]; exact HP45.1); clear HP45; have n0_ := Aside0.mk (hp_); have n1_ := Aside0.mk (Kd.R_over' (v := (.slice (some ⟨go42, 0, none⟩) x5_3.length co42)) (by (with_reducible repeat (first | apply Kd.R_alloc | apply Kd.R_drewN | apply Kd.R_drew)); exact HO_51.out) (Kd.R_typed HO_5.out) (by decide) hg); have n2_ := Aside0.mk ((by rw [hw]; exact below_set (HB.out) GB42.out : Below w.heap.size w w46)); clear HO_5; clear HO_51; clear HB; have HO_5 := n0_; have HO_51 := n1_; have HB := n2_; clear n0_ n1_ n2_; clear hg hw hp_) | ((with_reducible refine gate_callee (f := 47) rfl ?_); refine goesL_ (some 104) rfl rfl Try.func47 (by kernel_rfl) rfl #[.int .i64 (wrap64 ((wrap64 ((wrap64 ((wrap64 ((wrap64 (rd l0 (rd t110 x53_3))) - x9_3)) * (wrap64 (x6_3 + 1)))) + x15_4)) - x10_3)), .int .i64 (wrap64 (x6_3 + 1)), .bool x12_3] rfl (by (try simp only [List.map_toArray, List.map_cons, List.map_nil]); first | done | rfl | (simp only [List.length_drop, List.length_take]; rfl)) ?_; (with_reducible refine (posthornref05_Bias.calls k4 (wrap64 ((wrap64 ((wrap64 ((wrap64 ((wrap64 (rd l0 (rd t110 x53_3))) - x9_3)) * (wrap64 (x6_3 + 1)))) + x15_4)) - x10_3)) (wrap64 (x6_3 + 1)) x12_3 t119 _ A43.out).mono ?_); rintro e w' ⟨rfl, ⟨nd, rfl⟩⟩; refine ⟨_, rfl, ?_⟩))
                                          go_roundg k4
                                          case measure => have := HK1.out; have := HJ19.out; have := HK3.out; have := HK4.out; omega
                                          case rel => exact ⟨(x4_3 ++ t116), (y118), (wrap64 (x6_3 + 1)), (wrap64 (rd l0 (rd t110 x53_3))), (wrap64 (x15_4 + 1)), (t119), (false), (wrap64 (x53_3 + 1)), (by first | rfl | (simp; done) | (simp [*]; done)), (by first | rfl | (simp; done) | (simp [*]; done)), (by first | rfl | (simp; done) | (simp [*]; done)), (by first | rfl | (simp; done) | (simp [*]; done)), (by first | rfl | (simp; done) | (simp [*]; done)), (by first | rfl | (simp; done) | (simp [*]; done)), (by first | rfl | (simp; done) | (simp [*]; done)), H', ⟨by have := HK1.out; have := HJ19.out; have := HK3.out; have := HK4.out; omega⟩, ⟨by (with_reducible repeat (first | apply Kd.R_alloc | apply Kd.R_drewN | apply Kd.R_drew)); exact HO_5.out⟩, ⟨by (with_reducible repeat (first | apply Kd.R_alloc | apply Kd.R_drewN | apply Kd.R_drew)); exact HO_51.out⟩, ⟨by repeat (first | (with_reducible first | exact HB.out | apply below_alloc | apply pw_below_drewN | apply below_drew1) | exact HB.out)⟩⟩
                                        · rw [if_neg c41] at H
                                          exact absurd H (by simp)
                                      · rw [if_neg c40] at H
                                        exact absurd H (by simp)
                                  · rw [if_neg c37] at H
                                    exact absurd H (by simp)
                                · rw [if_neg c36] at H
                                  exact absurd H (by simp)
                        · rw [if_neg c28] at H
                          exact absurd H (by simp)
                      · rw [if_neg c27] at H
                        exact absurd H (by simp)
                    · rw [if_neg c26] at H
                      have c26b0 : decide (x53_3 < (t110.length : Int)) = false := decide_eq_false c26
                      clear c26
                      simp only [Option.some.injEq, Prod.mk.injEq] at H
                      obtain ⟨rfl, rfl⟩ := H
                      go_wp2
                      go_ret2
                      exact ⟨by first | rfl | (simp [errW_none, errW_some] <;> rfl) | (simp [*, errW_none, errW_some] <;> rfl), by repeat (first | (with_reducible first | exact HB.out | apply below_alloc | apply pw_below_drewN | apply below_drew1) | exact HB.out)⟩
    · rw [if_neg c3] at H
      exact absurd H (by simp)
  · rw [if_neg c2] at H
    exact absurd H (by simp)

end Go.Proofs.Ytabjfpjmiiiecaa.T
