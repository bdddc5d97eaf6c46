/- The ring of numbers: Push, where the row must grow (walked by hand). -/
import Derived.Test.YtekjkookkjjbcaaRingC
namespace Go.Proofs.Ytekjkookkjjbcaa.RI
set_option linter.unusedVariables false
set_option linter.unusedSimpArgs false
set_option linter.unusedVariables false
set_option linter.unusedSimpArgs false
open Go.RowKit Go.Proofs.YtekjkookkjjbcaaW.PrintWords Go.Proofs.YtekjkookkjjbcaaW.PrintLast Go.Proofs.YtekjkookkjjbcaaW.PrintMore Go.Proofs.Ytekjkookkjjbcaa.B Go.Proofs.Ytekjkookkjjbcaa.M
attribute [local go_sem] max2_int min2_int max_two min_two
/-- The row, as Push makes it greater. -/
def rowG (rm : List Int) (f n N : Nat) : List Int := elsR rm f n ++ List.replicate (N - n) 0
theorem rowG_len (rm : List Int) (f n N : Nat) (h : n ≤ N) : (rowG rm f n N).length = N := by
  unfold rowG
  rw [List.length_append, elsR_len, List.length_replicate]
  omega
theorem copy_row (rm : List Int) (f n N : Nat) (h : n ≤ N) : (elsR rm f n).take (min (elsR rm f n).length (List.replicate N (0 : Int)).length) ++ (List.replicate N (0 : Int)).drop (min (elsR rm f n).length (List.replicate N (0 : Int)).length) = rowG rm f n N := by
  rw [elsR_len, List.length_replicate, Nat.min_eq_left h, List.take_of_length_le (by rw [elsR_len]; exact Nat.le_refl _), List.drop_replicate]
  rfl
theorem posR_0 (N n : Nat) (h : n < N) : posR N 0 n = n := by
  unfold posR
  rw [if_neg (by omega)]
  omega
theorem push_endN (w0 W : World) (g g9 c9 : Nat) (most : Int) (rm : List Int) (f n p k N : Nat) (x : Int) (h : RG w0 W g most (.slice (some ⟨g9, 0, none⟩) rm.length c9) rm f n) (hl : rm.length = N) (hn : n < N) (hne : g ≠ g9) :
    RG w0 (((W.drewN k).setCell ⟨g9, p, none⟩ (.int .i64 x)).setCell ⟨g, 3, none⟩ (.int .i64 ((n + 1 : Nat) : Int))) g most (.slice (some ⟨g9, 0, none⟩) N c9) (rm.set p x) f (n + 1) := by
  subst hl
  exact push_end w0 W g g9 c9 most rm f n p k x h hn hne
theorem rg_moved {w0 W W8 : World} {g : Nat} {most : Int} {v v1 : Value} {rm rm3 : List Int} {f n : Nat} (h : RG w0 W g most v rm f n) (hbk : RB W8 g most v1 0 n) (hb : Below w0.heap.size w0 W8) (ho : Kd.R (Kd.int .i64) 3 W8 w0.heap.size (fun _ => True) v1 rm3) (h0 : 0 < rm3.length) (hn : n ≤ rm3.length) (hm : (rm3.length : Int) ≤ most) : RG w0 W8 g most v1 rm3 0 n :=
  ⟨hbk, h.gg, hb, ho, .inr h0, hn, hm, h.m1, h.m2⟩
theorem oi_made (W : World) (k N : Nat) (h : N ≤ 1048576) : OI W ((W.drewN k).alloc (.cells (madeCells #[.int .i64 0] N) 3)) (.slice (some ⟨W.heap.size, 0, none⟩) N N) (List.replicate N 0) := by
  have ho := own_made (W.drewN k) W.heap.size 3 .i64 N (Nat.le_refl _) (by omega)
  refine ⟨Kd.R_of_own ?_ (fun _ _ => trivial), below_alloc (pw_below_drewN (Below.refl _ _) k) _⟩
  have e : nums .i64 (List.replicate N (0 : Int)) = encs (fun x => Value.int .i64 x) (List.replicate N 0) := rfl
  rw [← e, List.length_replicate]
  exact ho
theorem keep_moved {W W2 : World} {g : Nat} (hb : Below W.heap.size W W2) (x y : Value) (i j : Nat) : KeepBut W ((W2.setCell ⟨g, i, none⟩ x).setCell ⟨g, j, none⟩ y) g none := by
  refine ⟨by simpa [World.setCell] using hb.size, fun k hk h1 h2 => ?_⟩
  rw [Below.heap_setCell _ ⟨g, j, none⟩ y k h1, Below.heap_setCell _ ⟨g, i, none⟩ x k h1]
  exact hb.block k hk
theorem keep_more {W W3 : World} {g m : Nat} {g9 p o : Nat} {x y : Value} (h : KeepBut W W3 g none) (h9 : W.heap.size ≤ g9) : KeepBut W (((W3.drewN m).setCell ⟨g9, p, none⟩ x).setCell ⟨g, o, none⟩ y) g none := by
  refine ⟨by simpa [World.setCell] using h.1, fun k hk h1 h2 => ?_⟩
  rw [Below.heap_setCell _ ⟨g, o, none⟩ y k h1, Below.heap_setCell _ ⟨g9, p, none⟩ x k (by show k ≠ g9; omega)]
  exact h.2 k hk h1 h2
theorem rg_after {w0 W W2 : World} {g N : Nat} {most : Int} {v : Value} {rm rm3 : List Int} {f n : Nat} (h : RG w0 W g most v rm f n) (ho : OI W W2 (.slice (some ⟨W.heap.size, 0, none⟩) N N) rm3) (hl : rm3.length = N) (hn : n < N) (hm : (N : Int) ≤ most) :
    RG w0 ((W2.setCell ⟨g, 1, none⟩ (.slice (some ⟨W.heap.size, 0, none⟩) N N)).setCell ⟨g, 2, none⟩ (.int .i64 0)) g most (.slice (some ⟨W.heap.size, 0, none⟩) rm3.length N) rm3 0 n := by
  subst hl
  have h2 := h.rb_below ho.bl
  have hs := below_size h.bl
  have hb3 := blk_put h2.bk 1 (.slice (some ⟨W.heap.size, 0, none⟩) rm3.length rm3.length) rfl
  have hb4 := blk_put hb3 2 (.int .i64 0) rfl
  have o1 : Kd.R (Kd.int .i64) 3 W2 w0.heap.size (fun _ => True) (.slice (some ⟨W.heap.size, 0, none⟩) rm3.length rm3.length) rm3 := Kd.R_lower ho.ow hs
  have o2 := own_set o1 h2.bk (by decide) 1 (.slice (some ⟨W.heap.size, 0, none⟩) rm3.length rm3.length)
  have o3 := own_set o2 hb3 (by decide) 2 (.int .i64 0)
  exact rg_moved h2 hb4 (below_set (below_set h2.bl h.gg) h.gg) o3 (by omega) (by omega) hm
set_option maxHeartbeats 8000000 in
set_option maxRecDepth 100000 in
theorem push_grow (w0 W : World) (g : Nat) (most : Int) (v : Value) (rm : List Int) (f n N : Nat) (x : Int) (h : RG w0 W g most v rm f n) (hn : n = rm.length) (hm : (n : Int) < most) (hN : (N : Int) = mn most (2 * (n : Int) + 4)) :
    Calls Try.prog 27 #[.pointer (some ⟨g, 0, none⟩), .int .i64 x] W fun e W' => ∃ v', e = .returned (.int .i64 0) ∧ RG w0 W' g most v' ((rowG rm f n N).set n x) 0 (n + 1) ∧ KeepBut W W' g none ∧ ∃ b, v'.ownBlock = some b ∧ W.heap.size ≤ b := by
  have m1 := h.m1
  have m2 := h.m2
  have hNb : n < N ∧ (N : Int) ≤ most ∧ (N : Int) ≤ 2 * (n : Int) + 4 := by
    rw [show mn most (2 * (n : Int) + 4) = if 2 * (n : Int) + 4 < most then 2 * (n : Int) + 4 else most from rfl] at hN
    split at hN <;> omega
  have c0 : W.cell? ⟨g, 0, none⟩ = some (.int .i64 most) := blk_cell h.bk 0
  have c3 : W.cell? ⟨g, 3, none⟩ = some (.int .i64 (n : Int)) := blk_cell h.bk 3
  obtain ⟨A, c, rfl⟩ := Kd.R_slice h.ow
  have c1 : W.cell? ⟨g, 1, none⟩ = some (.slice A rm.length c) := blk_cell h.bk 1
  rw [← hn] at c1
  have k1 : (most == 0) = false := beq_eq_false_iff_ne.2 (by omega)
  have k2 : decide (most = 0) = false := decide_eq_false (by omega)
  have k3 : ((n : Int) == most) = false := beq_eq_false_iff_ne.2 (by omega)
  have k4 : decide ((n : Int) = most) = false := decide_eq_false (by omega)
  have q1 : IntKind.i64.wrap (2 * (n : Int)) = 2 * (n : Int) := by rw [i64_w, wrap_id _ (by omega) (by omega)]
  have q3 : IntKind.i64.wrap (2 * (n : Int) + 4) = 2 * (n : Int) + 4 := by rw [i64_w, wrap_id _ (by omega) (by omega)]
  have HG := Aside0.mk h
  have HNB := Aside0.mk (show n < N ∧ (N : Int) ≤ most ∧ N ≤ 1048576 from ⟨hNb.1, hNb.2.1, by omega⟩)
  have HNN : (if 2 * (n : Int) + 4 < most then 2 * (n : Int) + 4 else most) = (N : Int) := hN.symm
  clear h hn hm hN hNb m1 m2
  go_enter Try.func27, Try.ntmps27
  go_wp2
  go_quiet (fail)
  go_wp2
  go_quiet (fail)
  go_wp2
  have hmk := print_make (P := Try.prog) 40 3 .i64 8 Try.underlying40 infoR (by decide) N (by have h_ := HNB.out.2.2; omega)
  go_region_law (fail)
  all_goals generalize hW1 : World.alloc _ _ = W1
  all_goals (have HO := Aside0.mk (show OI W W1 (.slice (some ⟨W.heap.size, 0, none⟩) N N) (List.replicate N 0) by (rw [← hW1]; exact oi_made W _ N HNB.out.2.2)))
  all_goals clear hW1 hmk
  all_goals (go_wp2_with (first
    | ((go_at_call 73); (with_reducible refine (row_calls w0 _ g most _ rm f n (HG.out.rb_below HO.out.bl)).mono ?_); rintro e w2 ⟨v2, rfl, ho2, hb2⟩; (obtain ⟨A2, c2, rfl⟩ := Kd.R_slice ho2); have HR := Aside0.mk ho2; have n0 := Aside0.mk (HO.out.below hb2); clear HO ho2 hb2; have HO := n0; clear n0)
    | ((with_reducible refine gate_builtin (b := .copy) (xs := #[.tmp 49, .tmp 51]) rfl ?_); refine Kd.R_copy (0 : Int) W.heap.size rfl (.tmp 49) (.tmp 51) 40 40 3 rfl Try.underlying40 (by kernel_rfl) (.slice (some ⟨W.heap.size, 0, none⟩) N N) (List.replicate N 0) (elsR rm f n) A2 (elsR rm f n).length c2 (fun _ => True) (by kernel_rfl) (by kernel_rfl) HO.out.ow (Kd.R_reads' HR.out).2.2 HO.out.bl (below_size HO.out.bl) ?_; intro w3 ho3 hb3 _; rw [copy_row rm f n N (by have h_ := HNB.out.1; omega)] at ho3; have n0 := Aside0.mk (show OI W w3 (.slice (some ⟨W.heap.size, 0, none⟩) N N) (rowG rm f n N) from ⟨ho3, hb3⟩); have hk3 := (HG.out.rb_below hb3).bk; have d0 := blk_cell hk3 0; have d1 := blk_cell hk3 1; have d2 := blk_cell hk3 2; have d3 := blk_cell hk3 3; have e1 := blk_frozen hk3 1; have e2 := blk_frozen hk3 2; clear HO HR ho3 hb3 hk3; have HO := n0; clear n0)))
  all_goals generalize hW4 : World.setCell (World.setCell _ _ _) _ _ = W4
  all_goals (have HG4 := Aside0.mk (show RG w0 W4 g most (.slice (some ⟨W.heap.size, 0, none⟩) (rowG rm f n N).length N) (rowG rm f n N) 0 n by (rw [← hW4]; exact rg_after HG.out HO.out (rowG_len rm f n N (by have h_ := HNB.out.1; omega)) HNB.out.1 HNB.out.2.1)))
  all_goals (have HK4 := Aside0.mk (show KeepBut W W4 g none by (rw [← hW4]; exact keep_moved HO.out.bl _ _ _ _)))
  all_goals clear hW4 HO d0 d1 d2 d3 e1 e2 c0 c1 c3
  all_goals (have hlen := rowG_len rm f n N (by have h_ := HNB.out.1; omega))
  all_goals (obtain ⟨hn1, hn2, hn3⟩ := HNB.out)
  all_goals (have HB4 := Aside0.mk (show RB W4 g most (.slice (some ⟨W.heap.size, 0, none⟩) N N) 0 n by (have h_ := HG4.out.bk; rw [hlen] at h_; exact h_)))
  all_goals (have c1 : W4.cell? ⟨g, 1, none⟩ = some (.slice (some ⟨W.heap.size, 0, none⟩) N N) := blk_cell HB4.out 1)
  all_goals (have c3 : W4.cell? ⟨g, 3, none⟩ = some (.int .i64 (n : Int)) := blk_cell HG4.out.bk 3)
  all_goals (have f3 := blk_frozen HG4.out.bk 3)
  all_goals (have hne1 : g ≠ W.heap.size := by (have h_ := blk_lt HG.out.bk; omega))
  all_goals (have hne2 : W.heap.size ≠ g := fun e => hne1 e.symm)
  all_goals (have hx := Kd.R_cell (0 : Int) HG4.out.ow (n : Int) (by omega) (by omega))
  all_goals (rw [Int.toNat_natCast] at hx; obtain ⟨r1, r2⟩ := hx)
  all_goals (have p1 := eq_true (show (0 : Int) ≤ (n : Int) by omega))
  all_goals (have p2 := eq_true (show (n : Int) < (N : Int) by omega))
  all_goals (have q2 : IntKind.i64.wrap ((n : Int) + 1) = ((n + 1 : Nat) : Int) := by (rw [i64_w, wrap_id _ (by omega) (by omega)]; rfl))
  all_goals (have HC := Aside0.mk (fun (W2 : World) (h2 : RB W2 g most (.slice (some ⟨W.heap.size, 0, none⟩) N N) 0 n) => place_calls W2 g most (some ⟨W.heap.size, 0, none⟩) N N 0 n n h2 (by omega) (by omega) (by omega)))
  all_goals (rw [posR_0 N n hn1] at HC)
  all_goals (have HL := Aside0.mk hlen)
  all_goals clear hn1 hn2 hn3 hlen
  all_goals go_region_law (first
    | (go_simp; go_at_call 74; refine (HC.out (W4.drewN _) (show RB (W4.drewN _) _ _ _ _ _ from HB4.out)).mono ?_; rintro e w2 ⟨rfl, ⟨m, rfl⟩⟩))
  all_goals clear c1 k1 k2 k3 k4 q1 q3 r1 r2 p1 p2 HC HNN
  all_goals go_wp2
  all_goals go_ret
  all_goals exact ⟨.slice (some ⟨W.heap.size, 0, none⟩) N N, rfl, push_endN w0 W4 g W.heap.size N most (rowG rm f n N) 0 n n _ N x HG4.out HL.out HNB.out.1 hne1, keep_more HK4.out (Nat.le_refl _), W.heap.size, rfl, Nat.le_refl _⟩
end Go.Proofs.Ytekjkookkjjbcaa.RI
