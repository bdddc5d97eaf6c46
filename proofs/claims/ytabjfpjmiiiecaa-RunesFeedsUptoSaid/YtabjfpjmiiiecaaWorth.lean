/- The reference's worth: a letter's number as a digit. -/
import Derived.Test.YtabjfpjmiiiecaaBase
import Derived.Test.YtabjfpjmiiiecaaMk
import Derived.Lib.SlBytesConst
import Derived.Test.YtabjfpjmiiiecaaProg
import Derived.Test.YtabjfpjmiiiecaaKW
import Derived.Below
import Derived.Tactics
import Derived.WalkKit
import Derived.Deep.LoopGhost
import Derived.RowKit3
namespace Go.Proofs.Ytabjfpjmiiiecaa.MN
set_option linter.unusedVariables false
set_option linter.unusedSimpArgs false
open Go.RowKit Go.Proofs.YtabjfpjmiiiecaaW.PrintWords Go.Proofs.YtabjfpjmiiiecaaW.PrintLast Go.Proofs.YtabjfpjmiiiecaaW.PrintMore Go.Proofs.Ytabjfpjmiiiecaa.B
def tabW : List Int := [97, 98, 99, 100, 101, 102, 103, 104, 105, 106, 107, 108, 109, 110, 111, 112, 113, 114, 115, 116, 117, 118, 119, 120, 121, 122, 48, 49, 50, 51, 52, 53, 54, 55, 56, 57]
def hitW (b c : Int) : Bool := b == c || ((b + 32) % 256 == c && decide (97 ≤ c) && decide (65 ≤ b))
def worthI (b : Int) : List Int → Nat → Int
  | [], _ => -1
  | c :: r, i => if hitW b c = true then (i : Int) else worthI b r (i + 1)
def worthV (b : Int) : Int := worthI b tabW 0
theorem tab_cell (w : World) (C : Array Value) (hC : C = (tabW.map (Value.int .u8)).toArray) (fr : Nat × Nat) (j : Nat) (hj : j < 36) : (w.alloc (.cells C 5 fr)).cell? ⟨w.heap.size, j, none⟩ = some (.int .u8 (tabW.getD j 0)) := by
  rw [cell_of_row (w.alloc (.cells C 5 fr)) w.heap.size j C 5 fr (heap_alloc_new w _), hC]
  have hl : j < tabW.length := hj
  simp [List.getD_eq_getElem?_getD, List.getElem?_eq_getElem hl]
set_option maxHeartbeats 4000000 in
set_option maxRecDepth 100000 in
theorem worth_calls (b : Int) (hb : 0 ≤ b ∧ b ≤ 255) (w : World) :
    Calls Try.prog 59 #[.int .u8 b] w fun e w' => e = .returned (.int .i64 (worthV b)) ∧ Below w.heap.size w w' := by
  have kc := fun (w : World) (C : Array Value) (n c : Nat) => Lib.run_convert_bytes_const (P := Try.prog) w 27 5 C n c Try.underlying27 Try.underlying5
  obtain ⟨d, hd⟩ : ∃ d, IntKind.u8.wrap (b + 32) = d := ⟨_, rfl⟩
  have hd2 : (b + 32) % 256 = d := by
    rw [← hd]
    unfold IntKind.wrap
    simp only [show IntKind.u8.bits = 8 from rfl, show IntKind.u8.signed = false from rfl, Bool.false_and, show (2 : Int) ^ 8 = 256 from by decide]
    rw [if_neg (by decide)]
  have HD := Aside0.mk hd2
  clear hb hd2
  go_enter Try.func59, Try.ntmps59
  go_wp2
  have F := fun j hj => tab_cell w _ rfl (36, 37) j hj
  have FB := Aside0.mk (below_alloc (Below.refl w.heap.size w) (.cells (tabW.map (Value.int .u8)).toArray 5 (36, 37)))
  obtain ⟨W1, hW1⟩ : ∃ W1, w.alloc (.cells (tabW.map (Value.int .u8)).toArray 5 (36, 37)) = W1 := ⟨_, rfl⟩
  rw [hW1] at F FB
  have hW2 : w.alloc (.cells #[.int .u8 97, .int .u8 98, .int .u8 99, .int .u8 100, .int .u8 101, .int .u8 102, .int .u8 103, .int .u8 104, .int .u8 105, .int .u8 106, .int .u8 107, .int .u8 108, .int .u8 109, .int .u8 110, .int .u8 111, .int .u8 112, .int .u8 113, .int .u8 114, .int .u8 115, .int .u8 116, .int .u8 117, .int .u8 118, .int .u8 119, .int .u8 120, .int .u8 121, .int .u8 122, .int .u8 48, .int .u8 49, .int .u8 50, .int .u8 51, .int .u8 52, .int .u8 53, .int .u8 54, .int .u8 55, .int .u8 56, .int .u8 57] 5 (36, 37)) = W1 := hW1
  rw [hW2]
  have FF := Aside0.mk F
  clear F hW1 hW2 kc
  go_loopg [8] 36 (fun kq v8 W => ∃ j : Nat, v8 = .int .i64 (j : Int) ∧ Aside0 (j ≤ 36 ∧ 36 - j ≤ kq ∧ worthI b (tabW.drop j) j = worthV b) ∧ W = W1)
  case atStart => exact ⟨0, rfl, ⟨by omega, by omega, rfl⟩, rfl⟩
  case round =>
    obtain ⟨j, rfl, HJ, rfl⟩ := hrel
    obtain ⟨hj1, hj2, hj3⟩ := HJ.out
    by_cases hlt : j < 36
    · have hl : j < tabW.length := hlt
      have c0 := FF.out j hlt
      rw [List.drop_eq_getElem_cons hl] at hj3
      unfold worthI at hj3
      have hc : tabW.getD j 0 = tabW[j] := by rw [List.getD_eq_getElem?_getD, List.getElem?_eq_getElem hl]; rfl
      rw [hc] at c0
      generalize tabW[j] = c at *
      have hlt2 : decide ((j : Int) < 36) = true := decide_eq_true (by omega)
      have p1 := eq_true (show (0 : Int) ≤ (j : Int) by omega)
      have p2 := eq_true (show (j : Int) < 36 by omega)
      have q2 : IntKind.i64.wrap ((j : Int) + 1) = ((j + 1 : Nat) : Int) := by rw [i64_w, wrap_id _ (by omega) (by omega)]; rfl
      have hh : hitW b c = (b == c || (d == c && decide (97 ≤ c) && decide (65 ≤ b))) := by unfold hitW; rw [HD.out]
      cases gk with
      | zero => omega
      | succ k9 =>
      cases e1 : (b == c) with
      | true =>
        rw [if_pos (by rw [hh, e1]; rfl)] at hj3
        have HR := Aside0.mk hj3
        clear hj1 hj2 hj3 hh hc
        go_wp2
        go_ret
        exact ⟨by rw [← HR.out]; rfl, FB.out⟩
      | false =>
        cases e2 : (d == c && decide (97 ≤ c) && decide (65 ≤ b)) with
        | true =>
          rw [if_pos (by rw [hh, e1, e2]; rfl)] at hj3
          have HR := Aside0.mk hj3
          have hb1 := Bool.and_eq_true_iff.1 e2
          have hb2 := Bool.and_eq_true_iff.1 hb1.1
          obtain ⟨f1, f2⟩ := hb2
          have f3 := hb1.2
          clear hj1 hj2 hj3 hh hc e2 hb1
          go_wp2
          go_ret
          exact ⟨by rw [← HR.out]; rfl, FB.out⟩
        | false =>
          rw [if_neg (by rw [hh, e1, e2]; decide)] at hj3
          have HJ2 := Aside0.mk (show j + 1 ≤ 36 ∧ 36 - (j + 1) ≤ k9 ∧ worthI b (tabW.drop (j + 1)) (j + 1) = worthV b from ⟨by omega, by omega, hj3⟩)
          clear hj1 hj2 hj3 hh hc
          cases f1 : (d == c) with
          | false =>
            clear e2
            go_wp2
            go_roundg k9
            case measure => omega
            case rel => exact ⟨j + 1, rfl, HJ2, rfl⟩
          | true =>
            cases f2 : decide (97 ≤ c) with
            | false =>
              clear e2
              go_wp2
              go_roundg k9
              case measure => omega
              case rel => exact ⟨j + 1, rfl, HJ2, rfl⟩
            | true =>
              have f3 : decide (65 ≤ b) = false := by rw [f1, f2] at e2; exact e2
              clear e2
              go_wp2
              go_roundg k9
              case measure => omega
              case rel => exact ⟨j + 1, rfl, HJ2, rfl⟩
    · have hlt2 : decide ((j : Int) < 36) = false := decide_eq_false (by omega)
      obtain rfl : j = 36 := by omega
      have HR := Aside0.mk hj3
      clear hj1 hj2 hj3
      go_wp2
      go_ret
      exact ⟨by rw [← HR.out]; rfl, FB.out⟩
def posthornref05_worth.f (b : Int) : Option Int := if 0 ≤ b ∧ b ≤ 255 then some (worthV b) else none
theorem posthornref05_worth.calls (b r : Int) (w : World) (h : posthornref05_worth.f b = some r) :
    Calls Try.prog 59 #[.int .u8 b] w fun e w' => e = .returned (.int .i64 r) ∧ Below w.heap.size w w' := by
  unfold posthornref05_worth.f at h
  split at h
  · cases h
    exact worth_calls b (by assumption) w
  · cases h
end Go.Proofs.Ytabjfpjmiiiecaa.MN
