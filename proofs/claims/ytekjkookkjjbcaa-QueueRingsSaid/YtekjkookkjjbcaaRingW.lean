/- wakes: what each statement on rings asks first (walked by hand). -/
import Derived.Test.YtekjkookkjjbcaaRingF
namespace Go.Proofs.Ytekjkookkjjbcaa.RI
set_option linter.unusedVariables false
set_option linter.unusedSimpArgs false
set_option linter.unusedVariables false
set_option linter.unusedSimpArgs false
open Go.RowKit Go.Proofs.YtekjkookkjjbcaaW.PrintWords Go.Proofs.YtekjkookkjjbcaaW.PrintLast Go.Proofs.YtekjkookkjjbcaaW.PrintMore Go.Proofs.Ytekjkookkjjbcaa.B Go.Proofs.Ytekjkookkjjbcaa.M
theorem RQ.gg {w0 W : World} {g : Nat} {most : Int} {xs : List Int} {b : Option Nat} (h : RQ w0 W g most xs b) : w0.heap.size ≤ g := by
  obtain ⟨v, rm, f, h1, h2, h3⟩ := h.ex
  exact h1.gg
set_option maxHeartbeats 8000000 in
theorem wakes_calls (w : World) : Calls Try.prog 24 #[] w fun e w' => e = .returned (.bool true) ∧ Below w.heap.size w w' := by
  go_enter Try.func24, Try.ntmps24
  go_wp2_with (first
    | ((go_at_call 25); (with_reducible refine (new_q w w (Below.refl _ _) 2 (by decide)).mono ?_); rintro e w1 ⟨g, rfl, hq, _, _⟩; have HA := Aside0.mk hq; clear hq)
    | ((go_at_call 27); (with_reducible refine (push_q HA.out 4 (by decide)).mono ?_); rintro e w2 ⟨rfl, b2, hq, _, _⟩; clear HA; have HB := Aside0.mk hq; clear hq)
    | ((go_at_call 27); (with_reducible refine (push_q HB.out 5 (by decide)).mono ?_); rintro e w3 ⟨rfl, b3, hq, _, _⟩; clear HB; have HC := Aside0.mk hq; clear hq)
    | ((go_at_call 27); (with_reducible refine (push_q_full HC.out 6 (by decide)).mono ?_); rintro e w4 ⟨rfl, ⟨m4, rfl⟩⟩)
    | ((go_at_call 28); (with_reducible refine (pop_q (x := 4) (xs := [5]) (HC.out.below (pw_below_drewN (Below.refl _ _) _))).mono ?_); rintro e w5 ⟨rfl, hq, _⟩; have HD := Aside0.mk hq; clear hq)
    | ((go_at_call 29); (with_reducible refine (len_q HD.out).mono ?_); rintro e w6 ⟨rfl, ⟨m6, rfl⟩⟩))
  go_ret
  exact ⟨rfl, pw_below_drewN HD.out.bl _⟩
end Go.Proofs.Ytekjkookkjjbcaa.RI
