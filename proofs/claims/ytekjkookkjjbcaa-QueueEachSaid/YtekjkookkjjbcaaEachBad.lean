/- QueueEach: a row that is too long (walked by hand). -/
import Derived.Test.YtekjkookkjjbcaaEachC
namespace Go.Proofs.Ytekjkookkjjbcaa.EC
set_option linter.unusedVariables false
set_option linter.unusedSimpArgs false
set_option linter.unusedVariables false
set_option linter.unusedSimpArgs false
open Go.RowKit Go.Shelf Go.Proofs.YtekjkookkjjbcaaW.PrintWords Go.Proofs.YtekjkookkjjbcaaW.PrintLast Go.Proofs.YtekjkookkjjbcaaW.PrintMore Go.Proofs.Ytekjkookkjjbcaa.B Go.Proofs.Ytekjkookkjjbcaa.M Go.Proofs.Ytekjkookkjjbcaa.RI Go.Proofs.Ytekjkookkjjbcaa.EA
attribute [local go_sem] Oper.semAt_some
set_option maxRecDepth 100000 in
set_option maxHeartbeats 8000000 in
theorem each_bad (a0 : Option Addr) (n cap0 : Nat) (drops leave : Int) (w : World) (hn : n ≤ 17592186044416) (hn2 : 1048576 < n + 3) :
    Calls Try.prog 7 #[.slice a0 n cap0, .int .i64 drops, .int .i64 leave] w fun e W' => e = .returned (.bool true) ∧ Below w.heap.size w W' := by
  refine (callsIn_wide (n := 9)).1 ?_
  refine callsIn_of_wp_marks Try.func7 rfl trivial ?_ rfl
  simp only [Try.ntmps7, List.size_toArray, List.length_cons, List.length_nil, Nat.reduceAdd, Nat.reduceSub, Array.replicate_succ, Array.replicate_zero, List.push_toArray, List.append_toArray, List.nil_append, List.cons_append]
  obtain ⟨M, hM⟩ : ∃ M : Nat, n + 3 = M := ⟨_, rfl⟩
  have q3 : IntKind.i64.wrap ((n : Int) + 3) = (M : Int) := by rw [i64_w, wrap_id _ (by omega) (by omega)]; omega
  have k1 : decide ((M : Int) > 1048576) = true := decide_eq_true (by omega)
  have k2 : decide ((1048576 : Int) < (M : Int)) = true := decide_eq_true (by omega)
  have k3 : decide (1048576 < M) = true := decide_eq_true (by omega)
  have HM : Aside0 ((M : Int) > 1048576) := ⟨by omega⟩
  clear hM hn hn2
  have hx3 := Boxed.new w 40 (.slice a0 n cap0)
  have HB := Aside0.mk (below_alloc (below_alloc (below_alloc (below_alloc (Below.refl w.heap.size w) (.cells #[.slice a0 n cap0] 40)) (.cells #[.int .i64 drops] 3)) (.cells #[.int .i64 leave] 3)) (.cells #[.bool false] 4))
  have H3 := Aside0.mk (((hx3.alloc (.cells #[.int .i64 drops] 3)).alloc (.cells #[.int .i64 leave] 3)).alloc (.cells #[.bool false] 4))
  have h6 := Boxed.new (((w.alloc (.cells #[.slice a0 n cap0] 40)).alloc (.cells #[.int .i64 drops] 3)).alloc (.cells #[.int .i64 leave] 3)) 4 (.bool false)
  rw [World.size_alloc, World.size_alloc, World.size_alloc] at h6
  have H6 := Aside0.mk h6
  clear hx3 h6
  gi_wp2_with (first
    | (refine ⟨trivial, ?_⟩; gi_at_call 24; refine (callsIn_wide.2 (wakes_calls _)).mono ?_; rintro e wb ⟨rfl, hb⟩; have H3b := Aside0.mk (show Boxed wb _ _ _ from blk_below H3.out hb); have H6b := Aside0.mk (show Boxed wb _ _ _ from blk_below H6.out hb); have HBb := Aside0.mk (below_step HB.out hb); have c3 := H3b.out.cell; clear hb)
    | (refine ⟨trivial, ?_⟩; gi_at_call 25; refine (callsIn_wide.2 (new_bad _ _ (.inr HM.out))).mono ?_; rintro e w2 ⟨rfl, hd⟩; have c3b := (show Boxed (w2.alloc (.cells #[.pointer none] 44)) _ _ _ from blk_below (blk_below H3b.out hd.below) (below_alloc (Below.refl _ _) _)).cell; have H6c := Aside0.mk (show Boxed (w2.alloc (.cells #[.pointer none] 44)) _ _ _ from blk_below (blk_below H6b.out hd.below) (below_alloc (Below.refl _ _) _)); have c6 := H6c.out.cell; have f6 := H6c.out.frozen; have HBc := Aside0.mk (below_alloc (below_step HBb.out hd.below) (.cells #[.pointer none] 44)); clear hd))
  have hc := (H6c.out.set (.bool true)).cell
  refine ⟨.bool true, ?_, rfl, below_set HBc.out (by show w.heap.size ≤ w.heap.size + 1 + 1 + 1; omega)⟩
  simp [results, Try.results7, go_sem, hc]
end Go.Proofs.Ytekjkookkjjbcaa.EC
