/- QueueRings: what the reference's ring says at a place, and what no ring of things says (walked by hand). -/
import Derived.Test.YtekjkookkjjbcaaPair
namespace Go.Proofs.Ytekjkookkjjbcaa.PA
set_option linter.unusedVariables false
set_option linter.unusedSimpArgs false
set_option linter.unusedVariables false
set_option linter.unusedSimpArgs false
open Go.RowKit Go.Proofs.YtekjkookkjjbcaaW.PrintWords Go.Proofs.YtekjkookkjjbcaaW.PrintLast Go.Proofs.YtekjkookkjjbcaaW.PrintMore Go.Proofs.Ytekjkookkjjbcaa.B Go.Proofs.Ytekjkookkjjbcaa.M Go.Proofs.Ytekjkookkjjbcaa.RR
open Go.Proofs.Ytekjkookkjjbcaa.RH (T2 d2 kT RT MovedR R2_cell)
attribute [local go_sem] max2_int min2_int max_two min_two
theorem xroom_nil (W : World) :
    Calls Try.prog 43 #[.pointer none] W fun e W' => e = .returned (.int .i64 0) ∧ Below W.heap.size W W' := by
  go_enter Try.func43, Try.ntmps43
  go_wp2
  go_ret
  exact ⟨rfl, (by repeat (first | exact Below.refl _ _ | exact HB.out | exact Nat.le_refl _ | exact Nat.le_succ _ | (refine below_alloc ?_ _) | (refine below_set ?_ ?_) | (refine pw_below_drewN ?_ _)))⟩
theorem xroom_calls {w0 W : World} {g : Nat} {most : Int} {v : Value} {gs : List T2} (h : XR w0 W g most v gs) (hm : 0 ≤ most ∧ most ≤ 1048576) (hl : gs.length ≤ 1048576) :
    Calls Try.prog 43 #[.pointer (some ⟨g, 0, none⟩)] W fun e W' => e = .returned (.int .i64 (most - (gs.length : Int))) ∧ Below W.heap.size W W' := by
  obtain ⟨A, cc, rfl⟩ := Kd.R_slice h.ow
  have c0 : W.cell? ⟨g, 0, none⟩ = some (.int .i64 most) := blk_cell h.bk 0
  have c1 : W.cell? ⟨g, 1, none⟩ = some (.slice A gs.length cc) := blk_cell h.bk 1
  have hg : g < W.heap.size := blk_lt h.bk
  have q : IntKind.i64.wrap (most - (gs.length : Int)) = most - (gs.length : Int) := by rw [i64_w, wrap_id _ (by omega) (by omega)]
  clear h hm hl
  go_enter Try.func43, Try.ntmps43
  go_wp2
  go_quiet (fail)
  go_wp2
  go_ret
  exact ⟨rfl, (by repeat (first | exact Below.refl _ _ | exact HB.out | exact Nat.le_refl _ | exact Nat.le_succ _ | (refine below_alloc ?_ _) | (refine below_set ?_ ?_) | (refine pw_below_drewN ?_ _)))⟩
theorem xat_nil (W : World) (i : Int) :
    Calls Try.prog 77 #[.pointer none, .int .i64 i] W fun e W' => e = .returned (.tuple #[.agg #[.int .i64 0, .int .i64 0], .bool false]) ∧ Below W.heap.size W W' := by
  go_enter Try.func77, Try.ntmps77
  go_wp2
  exact bodyPost_ret (v := .tuple #[.agg #[.int .i64 0, .int .i64 0], .bool false]) (by simp [results, Try.results77, go_sem]) rfl ⟨rfl, (by repeat (first | exact Below.refl _ _ | exact HB.out | exact Nat.le_refl _ | exact Nat.le_succ _ | (refine below_alloc ?_ _) | (refine below_set ?_ ?_) | (refine pw_below_drewN ?_ _)))⟩
theorem xat_none {w0 W : World} {g : Nat} {most : Int} {v : Value} {gs : List T2} (h : XR w0 W g most v gs) (i : Int) (hi : i < 0 ∨ (gs.length : Int) ≤ i) :
    Calls Try.prog 77 #[.pointer (some ⟨g, 0, none⟩), .int .i64 i] W fun e W' => e = .returned (.tuple #[.agg #[.int .i64 0, .int .i64 0], .bool false]) ∧ Below W.heap.size W W' := by
  obtain ⟨A, cc, rfl⟩ := Kd.R_slice h.ow
  have c1 : W.cell? ⟨g, 1, none⟩ = some (.slice A gs.length cc) := blk_cell h.bk 1
  have hg : g < W.heap.size := blk_lt h.bk
  generalize gs.length = N at *
  clear h
  by_cases h0 : i < 0
  · have k1 : decide (i < 0) = true := decide_eq_true h0
    clear hi
    go_enter Try.func77, Try.ntmps77
    go_wp2
    exact bodyPost_ret (v := .tuple #[.agg #[.int .i64 0, .int .i64 0], .bool false]) (by simp [results, Try.results77, go_sem]) rfl ⟨rfl, (by repeat (first | exact Below.refl _ _ | exact HB.out | exact Nat.le_refl _ | exact Nat.le_succ _ | (refine below_alloc ?_ _) | (refine below_set ?_ ?_) | (refine pw_below_drewN ?_ _)))⟩
  · have k1 : decide (i < 0) = false := decide_eq_false h0
    have k2 : decide (i ≥ (N : Int)) = true := decide_eq_true (by omega)
    have k3 : decide ((N : Int) ≤ i) = true := decide_eq_true (by omega)
    clear hi
    go_enter Try.func77, Try.ntmps77
    go_wp2
    exact bodyPost_ret (v := .tuple #[.agg #[.int .i64 0, .int .i64 0], .bool false]) (by simp [results, Try.results77, go_sem]) rfl ⟨rfl, (by repeat (first | exact Below.refl _ _ | exact HB.out | exact Nat.le_refl _ | exact Nat.le_succ _ | (refine below_alloc ?_ _) | (refine below_set ?_ ?_) | (refine pw_below_drewN ?_ _)))⟩
set_option maxHeartbeats 8000000 in
theorem xat_calls {w0 W : World} {g : Nat} {most : Int} {v : Value} {gs : List T2} (h : XR w0 W g most v gs) (i : Nat) (hi : i < gs.length) :
    Calls Try.prog 77 #[.pointer (some ⟨g, 0, none⟩), .int .i64 (i : Int)] W fun e W' => e = .returned (.tuple #[.agg #[.int .i64 (gs.getD i d2).1, .int .i64 (gs.getD i d2).2], .bool true]) ∧ Below W.heap.size W W' := by
  obtain ⟨g9, c, hv, _, hg9, _⟩ := Kd.R_form h.ow (by omega)
  subst hv
  obtain ⟨x1, x2, _, _⟩ := R2_cell h.ow i hi
  have c1 : W.cell? ⟨g, 1, none⟩ = some (.slice (some ⟨g9, 0, none⟩) gs.length c) := blk_cell h.bk 1
  have k1 : decide ((i : Int) < 0) = false := decide_eq_false (by omega)
  have k2 : decide ((i : Int) ≥ (gs.length : Int)) = false := decide_eq_false (by omega)
  have k3 : decide ((gs.length : Int) ≤ (i : Int)) = false := decide_eq_false (by omega)
  have k4 : decide (gs.length ≤ i) = false := decide_eq_false (by omega)
  have p1 := eq_true (show (0 : Int) ≤ (i : Int) by omega)
  have p2 := eq_true (show (i : Int) < (gs.length : Int) by omega)
  have p3 := eq_true (show i < gs.length by omega)
  have hg : g < W.heap.size := blk_lt h.bk
  obtain ⟨x, hx⟩ : ∃ x, gs.getD i d2 = x := ⟨_, rfl⟩
  rw [hx] at x1 x2 ⊢
  generalize gs.length = N at *
  have hbx := heap_alloc_new W (.cells #[.int .i64 0, .int .i64 0] 29 (0, 0))
  have HBX := Aside0.mk hbx
  have HSZ : Aside0 (W.heap.size ≤ W.heap.size) := ⟨Nat.le_refl _⟩
  clear h hi hx hbx
  go_enter Try.func77, Try.ntmps77
  go_wp2
  refine bodyPost_ret (results_ct rfl _ _ W.heap.size 29 #[.int .i64 x.1, .int .i64 x.2] (0, 0) _ rfl (heap_alloc_new W _) Try.underlying29 rfl (by kernel_rfl)) rfl ?_
  exact ⟨rfl, below_alloc (Below.refl _ _) _⟩
theorem xpop_nil (W : World) :
    Calls Try.prog 76 #[.pointer none] W fun e W' => e = .returned (.tuple #[.agg #[.int .i64 0, .int .i64 0], .bool false]) ∧ Below W.heap.size W W' := by
  obtain ⟨rb, hrb⟩ : ∃ rb, W.heap.size = rb := ⟨_, rfl⟩
  go_enter Try.func76, Try.ntmps76
  go_wp2_with (first
    | ((go_at_call 77); (with_reducible refine (xat_nil _ 0).mono ?_); rintro e w1 ⟨rfl, hb⟩; have HB := Aside0.mk hb; have hbx := RX.box_at hb hrb; have r0 := blk_cell hbx 0; have r1 := blk_cell hbx 1; have fr := blk_frozen hbx; have hlt := blk_lt hbx; have HX := Aside0.mk hbx; clear hb hbx))
  refine bodyPost_ret (results_ct rfl _ _ rb 29 #[.int .i64 0, .int .i64 0] (0, 0) _ rfl (by refine blk_below ?_ (below_alloc (Below.refl _ _) _); refine blk_put (cs := #[.int .i64 0, .int .i64 0]) ?_ 1 _ rfl; refine blk_put (cs := #[.int .i64 0, .int .i64 0]) ?_ 0 _ rfl; exact HX.out) Try.underlying29 rfl (by kernel_rfl)) rfl ?_
  have HSZ := Nat.le_of_eq hrb
  exact ⟨rfl, below_alloc (below_set (below_set (below_step (below_alloc (Below.refl _ _) _) HB.out) HSZ) HSZ) _⟩
theorem xat0_none {w0 W : World} {g : Nat} {most : Int} {v : Value} (h : XR w0 W g most v []) :
    Calls Try.prog 77 #[.pointer (some ⟨g, 0, none⟩), .int .i64 0] W fun e W' => e = .returned (.tuple #[.agg #[.int .i64 0, .int .i64 0], .bool false]) ∧ Below W.heap.size W W' := xat_none h 0 (.inr (Int.le_refl _))
theorem xpop_none {w0 W : World} {g : Nat} {most : Int} {v : Value} (h : XR w0 W g most v []) :
    Calls Try.prog 76 #[.pointer (some ⟨g, 0, none⟩)] W fun e W' => e = .returned (.tuple #[.agg #[.int .i64 0, .int .i64 0], .bool false]) ∧ Below W.heap.size W W' := by
  have HG := Aside0.mk h
  have HA := Aside0.mk (fun (W : World) (h : XR w0 W g most v []) => xat0_none h)
  clear h
  obtain ⟨rb, hrb⟩ : ∃ rb, W.heap.size = rb := ⟨_, rfl⟩
  go_enter Try.func76, Try.ntmps76
  go_wp2_with (first
    | ((go_at_call 77); (with_reducible refine (HA.out _ (HG.out.below (below_alloc (Below.refl _ _) _))).mono ?_); rintro e w1 ⟨rfl, hb⟩; have HB := Aside0.mk hb; have hbx := RX.box_at hb hrb; have r0 := blk_cell hbx 0; have r1 := blk_cell hbx 1; have fr := blk_frozen hbx; have hlt := blk_lt hbx; have HX := Aside0.mk hbx; clear hb hbx))
  refine bodyPost_ret (results_ct rfl _ _ rb 29 #[.int .i64 0, .int .i64 0] (0, 0) _ rfl (by refine blk_below ?_ (below_alloc (Below.refl _ _) _); refine blk_put (cs := #[.int .i64 0, .int .i64 0]) ?_ 1 _ rfl; refine blk_put (cs := #[.int .i64 0, .int .i64 0]) ?_ 0 _ rfl; exact HX.out) Try.underlying29 rfl (by kernel_rfl)) rfl ?_
  have HSZ := Nat.le_of_eq hrb
  exact ⟨rfl, below_alloc (below_set (below_set (below_step (below_alloc (Below.refl _ _) _) HB.out) HSZ) HSZ) _⟩
theorem xat0 {w0 W : World} {g : Nat} {most : Int} {v : Value} {x : T2} {xs : List T2} (h : XR w0 W g most v (x :: xs)) :
    Calls Try.prog 77 #[.pointer (some ⟨g, 0, none⟩), .int .i64 0] W fun e W' => e = .returned (.tuple #[.agg #[.int .i64 x.1, .int .i64 x.2], .bool true]) ∧ Below W.heap.size W W' := xat_calls h 0 (by simp)
theorem xdrop1 {w0 W : World} {g : Nat} {most : Int} {v : Value} {x : T2} {xs : List T2} (h : XR w0 W g most v (x :: xs)) (hm : (x :: xs).length ≤ 1048576) :
    Calls Try.prog 33 #[.pointer (some ⟨g, 0, none⟩), .int .i64 1] W fun e W' => e = .returned (.int .i64 1) ∧ ∃ v', XR w0 W' g most v' xs ∧ KeepBut W W' g v.ownBlock ∧ MovedR W v.ownBlock v'.ownBlock :=
  xdrop_calls h hm 1 1 (by rw [List.length_cons]; split <;> omega) (by omega)
set_option maxHeartbeats 8000000 in
theorem xpop_calls {w0 W : World} {g : Nat} {most : Int} {v : Value} {x : T2} {xs : List T2} (h : XR w0 W g most v (x :: xs)) (hm : (x :: xs).length ≤ 1048576) :
    Calls Try.prog 76 #[.pointer (some ⟨g, 0, none⟩)] W fun e W' => e = .returned (.tuple #[.agg #[.int .i64 x.1, .int .i64 x.2], .bool true]) ∧ ∃ v', XR w0 W' g most v' xs ∧ KeepBut W W' g v.ownBlock ∧ MovedR W v.ownBlock v'.ownBlock := by
  have HG := Aside0.mk h
  have HA := Aside0.mk (fun (W : World) (h : XR w0 W g most v (x :: xs)) => xat0 h)
  have HD := Aside0.mk (fun (W : World) (h : XR w0 W g most v (x :: xs)) => xdrop1 h hm)
  have hgw := blk_lt h.bk
  have hbw : ∀ k, v.ownBlock = some k → k < W.heap.size := fun k hk => by
    obtain ⟨cs, hc⟩ := Kd.R_typed h.ow k hk
    exact blk_lt hc
  have HBW := Aside0.mk (And.intro hgw hbw)
  clear h hgw hbw hm
  obtain ⟨rb, hrb⟩ : ∃ rb, W.heap.size = rb := ⟨_, rfl⟩
  have HRB := Aside0.mk hrb
  go_enter Try.func76, Try.ntmps76
  go_wp2_with (first
    | ((go_at_call 77); (with_reducible refine (HA.out _ (HG.out.below (below_alloc (Below.refl _ _) _))).mono ?_); rintro e w1 ⟨rfl, hb⟩; have HB := Aside0.mk (below_alloc hb (.cells #[.int .i64 x.1, .int .i64 x.2] 29 (0, 0))); have hbv := heap_alloc_new w1 (.cells #[.int .i64 x.1, .int .i64 x.2] 29 (0, 0)); have HBV := Aside0.mk hbv; have HB1 := Aside0.mk (RX.box_at hb HRB.out); have hz := Aside0.mk hb.size; clear hb hbv)
    | ((go_at_call 33); (with_reducible refine (HD.out _ ((HG.out.below (below_alloc (Below.refl _ _) _)).below HB.out)).mono ?_); rintro e w2 ⟨rfl, v2, hq, hk, hmv⟩; have hvb := blk_lt HBV.out; have x1 := (hk.2 _ hvb (by have h_ := HBW.out.1; have h2_ := hz.out; rw [World.size_alloc] at h2_; omega) (fun e => by have h_ := HBW.out.2 _ e.symm; have h2_ := hz.out; rw [World.size_alloc] at h2_; omega)).trans HBV.out; have x0 := (hk.2 rb (by have h_ := blk_lt HB1.out; rw [World.size_alloc]; omega) (by have h_ := HBW.out.1; have h2_ := HRB.out; omega) (fun e => by have h_ := HBW.out.2 _ e.symm; have h2_ := HRB.out; omega)).trans (blk_below HB1.out (below_alloc (Below.refl _ _) _)); have r0 := blk_cell x0 0; have r1 := blk_cell x0 1; have fr := blk_frozen x0; have v0 := blk_cell x1 0; have v1 := blk_cell x1 1; have HX := Aside0.mk x0; have H2 := Aside0.mk hq; have H3 := Aside0.mk (And.intro hk hmv); clear hq hk hmv x0 x1 hvb))
  refine bodyPost_ret (results_ct rfl _ _ rb 29 #[.int .i64 x.1, .int .i64 x.2] (0, 0) _ rfl (by refine blk_put (cs := #[.int .i64 x.1, .int .i64 0]) ?_ 1 _ rfl; refine blk_put (cs := #[.int .i64 0, .int .i64 0]) ?_ 0 _ rfl; exact HX.out) Try.underlying29 rfl (by kernel_rfl)) rfl ?_
  have h1 := HBW.out.1
  have h2 := HBW.out.2
  have h3 := below_size H2.out.bl
  have h4 := below_size HG.out.bl
  have hb2 := below_step (below_alloc (Below.refl W.heap.size W) _) HB.out
  have hmv : MovedR W v.ownBlock v2.ownBlock := H3.out.2.imp id fun ⟨j, e1, e2⟩ => ⟨j, e1, Nat.le_trans hb2.size e2⟩
  have hrbw : rb < (w1.alloc (.cells #[.int .i64 x.1, .int .i64 x.2] 29 (0, 0))).heap.size := by have h_ := blk_lt HB1.out; rw [World.size_alloc]; omega
  have hnr : ∀ k, v2.ownBlock = some k → k ≠ rb := fun k hk => by
    rcases H3.out.2 with e | ⟨j, e1, e2⟩
    · have := h2 k (e ▸ hk)
      omega
    · rw [hk] at e1
      injection e1 with e1
      omega
  have hk : ∀ i, i ≠ rb → ((w2.setCell ⟨rb, 0, none⟩ (.int .i64 x.1)).setCell ⟨rb, 1, none⟩ (.int .i64 x.2)).heap[i]? = w2.heap[i]? := fun i hi => (Below.heap_setCell _ ⟨rb, 1, none⟩ _ i hi).trans (Below.heap_setCell _ ⟨rb, 0, none⟩ _ i hi)
  refine ⟨rfl, v2, FL.xr_kept H2.out (below_set (below_set H2.out.bl (by omega)) (by omega)) (hk g (by omega)) (fun k hkb => hk k (hnr k hkb)), ⟨Nat.le_trans (Nat.le_trans hb2.size H3.out.1.1) (by simp [World.setCell]), fun i hi e1 e2 => ?_⟩, hmv⟩
  rw [hk i (by omega)]
  exact (H3.out.1.2 i (Nat.lt_of_lt_of_le hi hb2.size) e1 e2).trans (hb2.block i hi)
theorem tpush_nil (W : World) (a b : Int) :
    Calls Try.prog 52 #[.pointer none, .agg #[.int .i64 a, .int .i64 b]] W fun e W' => e = .returned (.int .i64 1) ∧ Below W.heap.size W W' := by
  go_enter Try.func52, Try.ntmps52
  go_wp2
  go_ret
  exact ⟨rfl, (by repeat (first | exact Below.refl _ _ | exact HB.out | exact Nat.le_refl _ | exact Nat.le_succ _ | (refine below_alloc ?_ _) | (refine below_set ?_ ?_) | (refine pw_below_drewN ?_ _)))⟩
theorem tat_nil (W : World) (i : Int) :
    Calls Try.prog 78 #[.pointer none, .int .i64 i] W fun e W' => e = .returned (.tuple #[.agg #[.int .i64 0, .int .i64 0], .bool false]) ∧ Below W.heap.size W W' := by
  by_cases hi : i < 0
  · have k1 : decide (i < 0) = true := decide_eq_true hi
    go_enter Try.func78, Try.ntmps78
    go_wp2
    exact bodyPost_ret (v := .tuple #[.agg #[.int .i64 0, .int .i64 0], .bool false]) (by simp [results, Try.results78, go_sem]) rfl ⟨rfl, (by repeat (first | exact Below.refl _ _ | exact HB.out | exact Nat.le_refl _ | exact Nat.le_succ _ | (refine below_alloc ?_ _) | (refine below_set ?_ ?_) | (refine pw_below_drewN ?_ _)))⟩
  · have k1 : decide (i < 0) = false := decide_eq_false hi
    have k2 : decide (i ≥ 0) = true := decide_eq_true (by omega)
    have k3 : decide (0 ≤ i) = true := decide_eq_true (by omega)
    go_enter Try.func78, Try.ntmps78
    go_wp2_with ((go_at_call 44); (with_reducible refine (RX.len_nil _).mono ?_); rintro e w1 ⟨rfl, ⟨nd, rfl⟩⟩)
    exact bodyPost_ret (v := .tuple #[.agg #[.int .i64 0, .int .i64 0], .bool false]) (by simp [results, Try.results78, go_sem]) rfl ⟨rfl, (by repeat (first | exact Below.refl _ _ | exact HB.out | exact Nat.le_refl _ | exact Nat.le_succ _ | (refine below_alloc ?_ _) | (refine below_set ?_ ?_) | (refine pw_below_drewN ?_ _)))⟩
theorem tpop_nil (W : World) :
    Calls Try.prog 53 #[.pointer none] W fun e W' => e = .returned (.tuple #[.agg #[.int .i64 0, .int .i64 0], .bool false]) ∧ Below W.heap.size W W' := by
  obtain ⟨rb, hrb⟩ : ∃ rb, W.heap.size = rb := ⟨_, rfl⟩
  go_enter Try.func53, Try.ntmps53
  go_wp2_with (first
    | ((go_at_call 78); (with_reducible refine (tat_nil _ 0).mono ?_); rintro e w1 ⟨rfl, hb⟩; have HB := Aside0.mk hb; have hbx := RX.box_at hb hrb; have r0 := blk_cell hbx 0; have r1 := blk_cell hbx 1; have fr := blk_frozen hbx; have hlt := blk_lt hbx; have HX := Aside0.mk hbx; clear hb hbx))
  refine bodyPost_ret (results_ct rfl _ _ rb 29 #[.int .i64 0, .int .i64 0] (0, 0) _ rfl (by refine blk_below ?_ (below_alloc (Below.refl _ _) _); refine blk_put (cs := #[.int .i64 0, .int .i64 0]) ?_ 1 _ rfl; refine blk_put (cs := #[.int .i64 0, .int .i64 0]) ?_ 0 _ rfl; exact HX.out) Try.underlying29 rfl (by kernel_rfl)) rfl ?_
  have HSZ := Nat.le_of_eq hrb
  exact ⟨rfl, below_alloc (below_set (below_set (below_step (below_alloc (Below.refl _ _) _) HB.out) HSZ) HSZ) _⟩
end Go.Proofs.Ytekjkookkjjbcaa.PA
