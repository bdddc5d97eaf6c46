/- The ring of things: Push, where there is room in the row (walked by hand). -/
import Derived.Test.YtekjkookkjjbcaaRingXB
namespace Go.Proofs.Ytekjkookkjjbcaa.RX
set_option linter.unusedVariables false
set_option linter.unusedSimpArgs false
set_option linter.unusedVariables false
set_option linter.unusedSimpArgs false
open Go.RowKit Go.Proofs.YtekjkookkjjbcaaW.PrintWords Go.Proofs.YtekjkookkjjbcaaW.PrintLast Go.Proofs.YtekjkookkjjbcaaW.PrintMore Go.Proofs.Ytekjkookkjjbcaa.B Go.Proofs.Ytekjkookkjjbcaa.M Go.Proofs.Ytekjkookkjjbcaa.RH
open Go.Proofs.Ytekjkookkjjbcaa.RI (zeroed zeroed_len zeroed_zero zeroed_at set_row_grown)
theorem own_set {w0 W : World} {v : Value} {xs : List T2} {g t : Nat} {cs : Array Value} (h : Kd.R kT 29 W w0.heap.size (fun _ => True) v xs) (hb : W.heap[g]? = some (.cells cs t (0, 0))) (ht : 29 ≠ t) (o : Nat) (x : Value) : Kd.R kT 29 (W.setCell ⟨g, o, none⟩ x) w0.heap.size (fun _ => True) v xs :=
  Kd.R_mono (Kd.R_kept (S := fun j => j = g) (Kd.R_tight rfl h) ⟨by simp [World.setCell], fun i _ hn => Below.heap_setCell W ⟨g, o, none⟩ x i hn⟩ (fun j hj e => Kd.R_ne h hb ht (by rw [← e]; exact hj))) (fun _ _ => trivial)
theorem keep_set2 {W V : World} {g g9 p q o : Nat} {m : Nat} {x y z : Value} (hb : Below W.heap.size W V) : KeepBut W ((((V.drewN m).setCell ⟨g9, p, none⟩ x).setCell ⟨g9, q, none⟩ z).setCell ⟨g, o, none⟩ y) g (some g9) := by
  refine ⟨by simpa [World.setCell] using hb.size, fun i hi h1 h2 => ?_⟩
  have h3 : i ≠ g9 := fun e => h2 (by rw [e])
  rw [Below.heap_setCell _ ⟨g, o, none⟩ y i h1, Below.heap_setCell _ ⟨g9, q, none⟩ z i h3, Below.heap_setCell _ ⟨g9, p, none⟩ x i h3]
  exact hb.block i hi
theorem push_end (w0 W : World) (g g9 c9 : Nat) (most : Int) (rm : List T2) (f n p k : Nat) (x : T2) (h : RG w0 W g most (.slice (some ⟨g9, 0, none⟩) rm.length c9) rm f n) (hn : n < rm.length) (hp : p < rm.length) (hne : g ≠ g9) :
    RG w0 ((((W.drewN k).setCell ⟨g9, p * 2, none⟩ (.int .i64 x.1)).setCell ⟨g9, p * 2 + 1, none⟩ (.int .i64 x.2)).setCell ⟨g, 3, none⟩ (.int .i64 ((n + 1 : Nat) : Int))) g most (.slice (some ⟨g9, 0, none⟩) rm.length c9) (rm.set p x) f (n + 1) := by
  have hb : (W.drewN k).heap[g]? = some (.cells #[.int .i64 most, .slice (some ⟨g9, 0, none⟩) rm.length c9, .int .i64 (f : Int), .int .i64 (n : Int)] 109 (0, 0)) := h.bk
  have hb2 := blk_far (blk_far hb (p := ⟨g9, p * 2, none⟩) hne (.int .i64 x.1)) (p := ⟨g9, p * 2 + 1, none⟩) hne (.int .i64 x.2)
  have ho : Kd.R kT 29 (W.drewN k) w0.heap.size (fun _ => True) (.slice (some ⟨g9, 0, none⟩) rm.length c9) rm := h.ow
  have hq := R2_put ho p hp x
  have hg9 : w0.heap.size ≤ g9 := Kd.R_base h.ow g9 (by simp [Value.ownBlock])
  refine ⟨blk_put hb2 3 _ rfl, h.gg, below_set (below_set (below_set (pw_below_drewN h.bl k) hg9) hg9) h.gg, own_set hq hb2 (by decide) 3 _, ?_, ?_, ?_, h.m1, h.m2⟩
  · rw [List.length_set]; exact h.fl
  · rw [List.length_set]; omega
  · rw [List.length_set]; exact h.ml
theorem push_full (w0 W : World) (g : Nat) (most : Int) (v : Value) (rm : List T2) (f n : Nat) (x : T2) (h : RG w0 W g most v rm f n) (hn : (n : Int) = most) :
    Calls Try.prog 52 #[.pointer (some ⟨g, 0, none⟩), .agg #[.int .i64 x.1, .int .i64 x.2]] W fun e W' => e = .returned (.int .i64 4) ∧ Below W.heap.size W W' := by
  have hR := h.rb_below (below_alloc (Below.refl W.heap.size W) (.cells #[.int .i64 x.1, .int .i64 x.2] 29 (0, 0)))
  have hg : g < W.heap.size := blk_lt h.bk
  have c0 : W.cell? ⟨g, 0, none⟩ = some (.int .i64 most) := blk_cell h.bk 0
  have c3 : W.cell? ⟨g, 3, none⟩ = some (.int .i64 (n : Int)) := blk_cell h.bk 3
  have m1 := h.m1
  rw [hn] at c3
  have k1 : (most == 0) = false := beq_eq_false_iff_ne.2 (by omega)
  have k2 : decide (most = 0) = false := decide_eq_false (by omega)
  clear h hn m1 hR
  go_enter Try.func52, Try.ntmps52
  go_wp2
  go_quiet (fail)
  go_wp2
  go_ret
  exact ⟨rfl, (by repeat (first | exact Below.refl _ _ | exact Nat.le_refl _ | exact Nat.le_succ _ | (refine below_alloc ?_ _) | (refine below_set ?_ ?_) | (refine pw_below_drewN ?_ _)))⟩
set_option maxHeartbeats 8000000 in
set_option maxRecDepth 100000 in
theorem push_in (w0 W : World) (g : Nat) (most : Int) (v : Value) (rm : List T2) (f n : Nat) (x : T2) (h : RG w0 W g most v rm f n) (hn : n < rm.length) :
    Calls Try.prog 52 #[.pointer (some ⟨g, 0, none⟩), .agg #[.int .i64 x.1, .int .i64 x.2]] W fun e W' => e = .returned (.int .i64 0) ∧ RG w0 W' g most v (rm.set (posR rm.length f n) x) f (n + 1) ∧ KeepBut W W' g v.ownBlock := by
  obtain ⟨V, hV⟩ : ∃ V, W.alloc (.cells #[.int .i64 x.1, .int .i64 x.2] 29 (0, 0)) = V := ⟨_, rfl⟩
  have HBA := Aside0.mk (below_alloc (Below.refl W.heap.size W) (.cells #[.int .i64 x.1, .int .i64 x.2] 29 (0, 0)))
  have hbx := heap_alloc_new W (.cells #[.int .i64 x.1, .int .i64 x.2] 29 (0, 0))
  obtain ⟨pb, hpb⟩ : ∃ pb, W.heap.size = pb := ⟨_, rfl⟩
  rw [hV] at HBA
  rw [hV, hpb] at hbx
  have hRV := h.rb_below HBA.out
  have hgp : g ≠ pb := by have := blk_lt h.bk; omega
  have hg9p : ∀ k, v.ownBlock = some k → k ≠ pb := fun k hk => by have := Kd.R_lt h.ow k hk; omega
  have c0 : V.cell? ⟨g, 0, none⟩ = some (.int .i64 most) := blk_cell hRV.bk 0
  have c3 : V.cell? ⟨g, 3, none⟩ = some (.int .i64 (n : Int)) := blk_cell hRV.bk 3
  have m1 := h.m1
  have m2 := h.m2
  have ml := h.ml
  have k1 : (most == 0) = false := beq_eq_false_iff_ne.2 (by omega)
  have k2 : decide (most = 0) = false := decide_eq_false (by omega)
  have k3 : ((n : Int) == most) = false := beq_eq_false_iff_ne.2 (by omega)
  have k4 : decide ((n : Int) = most) = false := decide_eq_false (by omega)
  have k5 : ((n : Int) == (rm.length : Int)) = false := beq_eq_false_iff_ne.2 (by omega)
  have k6 : decide (n = rm.length) = false := decide_eq_false (by omega)
  have k7 : (n == rm.length) = false := beq_eq_false_iff_ne.2 (by omega)
  obtain ⟨g9, c9, hv, hbg, hlt9, _⟩ := Kd.R_form h.ow (by omega)
  subst hv
  have hn9 : g9 ≠ pb := hg9p g9 rfl
  have c1 : V.cell? ⟨g, 1, none⟩ = some (.slice (some ⟨g9, 0, none⟩) rm.length c9) := blk_cell hRV.bk 1
  have hff : f < rm.length := by have := h.fl; omega
  have hp : posR rm.length f n < rm.length := by unfold posR; split <;> omega
  have hne : some g ≠ (Value.slice (some ⟨g9, 0, none⟩) rm.length c9).ownBlock := Kd.R_ne h.ow h.bk (by decide)
  have hne1 : g ≠ g9 := fun e => hne (by simp [Value.ownBlock, e])
  have hne2 : g9 ≠ g := fun e => hne1 e.symm
  have HG := Aside0.mk hRV
  have HC := Aside0.mk (fun (W2 : World) (h2 : RB W2 g most (.slice (some ⟨g9, 0, none⟩) rm.length c9) f n) => place_calls W2 g most (some ⟨g9, 0, none⟩) rm.length c9 f n n h2 (by omega) (by omega) (by omega))
  obtain ⟨p, hpe⟩ : ∃ p, posR rm.length f n = p := ⟨_, rfl⟩
  rw [hpe] at HC hp
  obtain ⟨r1, r2, r3, r4⟩ := R2_cell hRV.ow p hp
  have HPE := Aside0.mk (And.intro hpe hp)
  have p1 := eq_true (show (0 : Int) ≤ (p : Int) by omega)
  have p2 := eq_true (show (p : Int) < (rm.length : Int) by omega)
  have p3 := eq_true (show p < rm.length by omega)
  have q2 : IntKind.i64.wrap ((n : Int) + 1) = ((n + 1 : Nat) : Int) := by rw [i64_w, wrap_id _ (by omega) (by omega)]; rfl
  have f3 := blk_frozen hRV.bk 3
  have HN := Aside0.mk hn
  have b0 := blk_cell hbx 0
  have b1 := blk_cell hbx 1
  obtain ⟨xs1, hxs1⟩ : ∃ y, rm.getD p d2 = y := ⟨_, rfl⟩
  rw [hxs1] at r1 r2
  have HNV := Aside0.mk hV
  clear h hn m1 m2 ml hff hp hne hpe hlt9 hbg hRV hbx hg9p hxs1
  go_enter Try.func52, Try.ntmps52
  go_upto_region 3 with (fail)
  clear hV
  go_quiet (fail)
  go_wp2
  go_quiet (fail)
  go_wp2
  go_region_law (first
    | (go_simp; go_at_call 84; refine (HC.out (V.drewN _) (show RB (V.drewN _) _ _ _ _ _ from HG.out.bk)).mono ?_; rintro e w2 ⟨rfl, ⟨m, rfl⟩⟩))
  all_goals clear c0 c1 k1 k2 k3 k4 k5 k6 k7 r1 r2 r3 r4 p1 p2 p3 HC b0 b1
  all_goals go_wp2
  all_goals go_ret
  all_goals exact ⟨rfl, by rw [HPE.out.1]; exact push_end w0 V g g9 c9 most rm f n p _ x HG.out HN.out HPE.out.2 hne1, keep_set2 HBA.out⟩
end Go.Proofs.Ytekjkookkjjbcaa.RX
