/- sorts: does a heap tell the least? -/
import Derived.Test.YtekjkookkjjbcaaHeapQ
namespace Go.Proofs.Ytekjkookkjjbcaa.HW
set_option linter.unusedVariables false
set_option linter.unusedSimpArgs false
set_option linter.unusedVariables false
set_option linter.unusedSimpArgs false
open Go.RowKit Go.Proofs.YtekjkookkjjbcaaW.PrintWords Go.Proofs.YtekjkookkjjbcaaW.PrintLast Go.Proofs.YtekjkookkjjbcaaW.PrintMore Go.Proofs.Ytekjkookkjjbcaa.B Go.Proofs.Ytekjkookkjjbcaa.M Go.Proofs.Ytekjkookkjjbcaa.HeapP
abbrev KEY : Nat := 13
theorem so_least : Least kcmp [((2, 1, 0) : T3), (1, 2, 1)] (1, 2, 1) := by
  refine ⟨by decide, fun y hy => ?_⟩
  rcases List.mem_cons.1 hy with rfl | hy
  · show aheadB kcmp _ _ = false
    decide
  · rw [List.mem_singleton.1 hy]
    show aheadB kcmp _ _ = false
    decide
set_option maxHeartbeats 8000000 in
theorem sorts_calls (W : World) :
    Calls Try.prog 23 #[] W fun e W' => e = .returned (.bool true) ∧ Below W.heap.size W W' := by
  go_enter Try.func23, Try.ntmps23
  have HH : Aside0 True := ⟨trivial⟩
  go_wp2_with (first
    | ((go_at_call 12); (with_reducible refine (newheap_q (w0 := W) (Below.refl _ _)).mono ?_); rintro e w1 ⟨g, rfl, hq, _, _⟩; clear HH; have HH : Aside0 (∃ b, HQ W w1 g 13 kcmp (0 : Int) [] b) := ⟨_, hq⟩; clear hq)
    | ((go_at_call 15); (with_reducible refine (hpush_q key_ord HH.out.choose_spec (by decide) (by decide) _ _).mono ?_); rintro e w2 ⟨rfl, b2, hq, hk, hm⟩; have n0 : Aside0 (∃ b, HQ W w2 g 13 kcmp _ _ b) := ⟨b2, hq⟩; simp only [List.nil_append, List.cons_append, Int.reduceAdd] at n0; clear HH hq hk hm; have HH := n0; clear n0)
    | ((go_at_call 17); (with_reducible refine (hpop_q key_ord HH.out.choose_spec so_least).mono ?_); rintro e w3 ⟨rfl, b3, hq, hk, hm⟩; have n0 : Aside0 (∃ b, HQ W w3 g 13 kcmp _ [(2, 1, 0)] b) := ⟨b3, hq⟩; clear HH hq hk hm; have HH := n0; clear n0)
    | ((go_at_call 21); (with_reducible refine (hlen_q (HH.out.choose_spec.below (below_alloc (Below.refl _ _) _))).mono ?_); rintro e w4 ⟨rfl, ⟨nd, rfl⟩⟩))
  go_ret
  exact ⟨rfl, pw_below_drewN (below_alloc HH.out.choose_spec.bl _) _⟩
end Go.Proofs.Ytekjkookkjjbcaa.HW
