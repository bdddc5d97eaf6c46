/- The ring of things: Push, where the row must grow (walked by hand). -/
import Derived.Test.YtekjkookkjjbcaaRingXC
namespace Go.Proofs.Ytekjkookkjjbcaa.RX
set_option linter.unusedVariables false
set_option linter.unusedSimpArgs false
set_option linter.unusedVariables false
set_option linter.unusedSimpArgs false
open Go.RowKit Go.Proofs.YtekjkookkjjbcaaW.PrintWords Go.Proofs.YtekjkookkjjbcaaW.PrintLast Go.Proofs.YtekjkookkjjbcaaW.PrintMore Go.Proofs.Ytekjkookkjjbcaa.B Go.Proofs.Ytekjkookkjjbcaa.M Go.Proofs.Ytekjkookkjjbcaa.RH
open Go.Proofs.Ytekjkookkjjbcaa.RI (zeroed zeroed_len zeroed_zero zeroed_at set_row_grown)
attribute [local go_sem] max2_int min2_int max_two min_two
/-- The row, as Push makes it greater. -/
def rowG (rm : List T2) (f n N : Nat) : List T2 := elsR rm f n ++ List.replicate (N - n) d2
theorem rowG_len (rm : List T2) (f n N : Nat) (h : n ≤ N) : (rowG rm f n N).length = N := by
  unfold rowG
  rw [List.length_append, elsR_len, List.length_replicate]
  omega
theorem copy_row (rm : List T2) (f n N : Nat) : elsR rm f n ++ (List.replicate N d2).drop (elsR rm f n).length = rowG rm f n N := by
  rw [elsR_len, List.drop_replicate]
  rfl
theorem posR_0 (N n : Nat) (h : n < N) : posR N 0 n = n := by
  unfold posR
  rw [if_neg (by omega)]
  omega
theorem push_endN (w0 W : World) (g g9 c9 : Nat) (most : Int) (rm : List T2) (f n p k N : Nat) (x : T2) (h : RG w0 W g most (.slice (some ⟨g9, 0, none⟩) rm.length c9) rm f n) (hl : rm.length = N) (hn : n < N) (hp : p < N) (hne : g ≠ g9) :
    RG w0 ((((W.drewN k).setCell ⟨g9, p * 2, none⟩ (.int .i64 x.1)).setCell ⟨g9, p * 2 + 1, none⟩ (.int .i64 x.2)).setCell ⟨g, 3, none⟩ (.int .i64 ((n + 1 : Nat) : Int))) g most (.slice (some ⟨g9, 0, none⟩) N c9) (rm.set p x) f (n + 1) := by
  subst hl
  exact push_end w0 W g g9 c9 most rm f n p k x h hn hp hne
theorem made_list (N : Nat) : (madeCells #[.int .i64 0, .int .i64 0] (N * 2)).toList = cells2 (List.replicate N d2) := by
  rw [cells2_rep]
  apply List.ext_getElem
  · simp [size_madeCells]
  · intro i h1 h2
    simp only [madeCells, Array.toList_map, List.getElem_map, List.getElem_replicate, Array.toList_range, List.getElem_range, List.size_toArray, List.length_cons, List.length_nil]
    rcases Nat.mod_two_eq_zero_or_one i with e | e <;> rw [e] <;> rfl
theorem oi_made (W : World) (k N : Nat) (h : N ≤ 1048576) : OI W ((W.drewN k).alloc (.cells (madeCells #[.int .i64 0, .int .i64 0] (N * 2)) 29)) (.slice (some ⟨W.heap.size, 0, none⟩) N N) (List.replicate N d2) := by
  refine ⟨?_, below_alloc (pw_below_drewN (Below.refl _ _) k) _⟩
  have := R2_of (W := (W.drewN k).alloc (.cells (madeCells #[.int .i64 0, .int .i64 0] (N * 2)) 29)) (base := W.heap.size) (g9 := W.heap.size) (c9 := N) (ok := fun _ => True) (xs := List.replicate N d2) (heap_alloc_new (W.drewN k) _) (Nat.le_refl _) trivial (by rw [List.length_replicate]; exact Nat.le_refl _) (by unfold maxLen; omega) (by rw [size_madeCells]) (by rw [made_list, List.length_replicate, ← cells2_take, List.take_of_length_le (by rw [List.length_replicate]; exact Nat.le_refl _)])
  rw [List.length_replicate] at this
  exact this
theorem makeT (N : Nat) (h : N ≤ 1048576) : ∀ W : World, (Instr.makeSlice 55 (.int .i64 (N : Int)) (.int .i64 (N : Int))).run Try.prog W = .ok (.slice (some ⟨W.heap.size, 0, none⟩) N N) (W.alloc (.cells (madeCells #[.int .i64 0, .int .i64 0] (N * 2)) 29)) := by
  intro W
  obtain ⟨i0, hi, hzz⟩ := Option.map_eq_some_iff.1 infoT
  simp only [Prod.mk.injEq] at hzz
  obtain ⟨hz0, hz1, hz2⟩ := hzz
  have hr := run_make (P := Try.prog) W 55 29 i0 _ Try.underlying55 hi hz0 .i64 .i64 (N : Int) (N : Int) (by omega) (by omega) (by rw [hz2]; omega) (by omega)
  rw [hz1] at hr
  simp only [Int.toNat_natCast] at hr
  rw [hr]
  rfl
theorem rg_moved {w0 W W8 : World} {g : Nat} {most : Int} {v v1 : Value} {rm rm3 : List T2} {f n : Nat} (h : RG w0 W g most v rm f n) (hbk : RB W8 g most v1 0 n) (hb : Below w0.heap.size w0 W8) (ho : Kd.R kT 29 W8 w0.heap.size (fun _ => True) v1 rm3) (h0 : 0 < rm3.length) (hn : n ≤ rm3.length) (hm : (rm3.length : Int) ≤ most) : RG w0 W8 g most v1 rm3 0 n :=
  ⟨hbk, h.gg, hb, ho, .inr h0, hn, hm, h.m1, h.m2⟩
theorem keep_moved {W W2 : World} {g : Nat} (hb : Below W.heap.size W W2) (x y : Value) (i j : Nat) : KeepBut W ((W2.setCell ⟨g, i, none⟩ x).setCell ⟨g, j, none⟩ y) g none := by
  refine ⟨by simpa [World.setCell] using hb.size, fun k hk h1 h2 => ?_⟩
  rw [Below.heap_setCell _ ⟨g, j, none⟩ y k h1, Below.heap_setCell _ ⟨g, i, none⟩ x k h1]
  exact hb.block k hk
theorem rg_after {w0 W W2 : World} {g N : Nat} {most : Int} {v : Value} {rm rm3 : List T2} {f n : Nat} (h : RG w0 W g most v rm f n) (ho : OI W W2 (.slice (some ⟨W.heap.size, 0, none⟩) N N) rm3) (hl : rm3.length = N) (hn : n < N) (hm : (N : Int) ≤ most) :
    RG w0 ((W2.setCell ⟨g, 1, none⟩ (.slice (some ⟨W.heap.size, 0, none⟩) N N)).setCell ⟨g, 2, none⟩ (.int .i64 0)) g most (.slice (some ⟨W.heap.size, 0, none⟩) rm3.length N) rm3 0 n := by
  subst hl
  have h2 := h.rb_below ho.bl
  have hs := below_size h.bl
  have hb3 := blk_put h2.bk 1 (.slice (some ⟨W.heap.size, 0, none⟩) rm3.length rm3.length) rfl
  have hb4 := blk_put hb3 2 (.int .i64 0) rfl
  have o1 : Kd.R kT 29 W2 w0.heap.size (fun _ => True) (.slice (some ⟨W.heap.size, 0, none⟩) rm3.length rm3.length) rm3 := Kd.R_lower ho.ow hs
  have o2 := own_set o1 h2.bk (by decide) 1 (.slice (some ⟨W.heap.size, 0, none⟩) rm3.length rm3.length)
  have o3 := own_set o2 hb3 (by decide) 2 (.int .i64 0)
  exact rg_moved h2 hb4 (below_set (below_set h2.bl h.gg) h.gg) o3 (by omega) (by omega) hm
theorem keep_more {W W3 : World} {g m : Nat} {g9 p q o : Nat} {x y z : Value} (h : KeepBut W W3 g none) (h9 : W.heap.size ≤ g9) : KeepBut W ((((W3.drewN m).setCell ⟨g9, p, none⟩ x).setCell ⟨g9, q, none⟩ z).setCell ⟨g, o, none⟩ y) g none := by
  refine ⟨by simpa [World.setCell] using h.1, fun k hk h1 h2 => ?_⟩
  rw [Below.heap_setCell _ ⟨g, o, none⟩ y k h1, Below.heap_setCell _ ⟨g9, q, none⟩ z k (by show k ≠ g9; omega), Below.heap_setCell _ ⟨g9, p, none⟩ x k (by show k ≠ g9; omega)]
  exact h.2 k hk h1 h2
theorem keep_from {W W2 W3 : World} {g : Nat} {b : Option Nat} (hb : Below W.heap.size W W2) (h : KeepBut W2 W3 g b) : KeepBut W W3 g b :=
  ⟨Nat.le_trans hb.size h.1, fun i hi h1 h2 => (h.2 i (Nat.lt_of_lt_of_le hi hb.size) h1 h2).trans (hb.block i hi)⟩
set_option maxHeartbeats 8000000 in
set_option maxRecDepth 100000 in
theorem push_grow (w0 W0 : World) (g : Nat) (most : Int) (v : Value) (rm : List T2) (f n N : Nat) (x : T2) (hh : RG w0 W0 g most v rm f n) (hn : n = rm.length) (hm : (n : Int) < most) (hN : (N : Int) = mn most (2 * (n : Int) + 4)) :
    Calls Try.prog 52 #[.pointer (some ⟨g, 0, none⟩), .agg #[.int .i64 x.1, .int .i64 x.2]] W0 fun e W' => ∃ v', e = .returned (.int .i64 0) ∧ RG w0 W' g most v' ((rowG rm f n N).set n x) 0 (n + 1) ∧ KeepBut W0 W' g none ∧ ∃ b, v'.ownBlock = some b ∧ W0.heap.size ≤ b := by
  obtain ⟨W, hV⟩ : ∃ V, W0.alloc (.cells #[.int .i64 x.1, .int .i64 x.2] 29 (0, 0)) = V := ⟨_, rfl⟩
  have HBA := Aside0.mk (below_alloc (Below.refl W0.heap.size W0) (.cells #[.int .i64 x.1, .int .i64 x.2] 29 (0, 0)))
  have hbx := heap_alloc_new W0 (.cells #[.int .i64 x.1, .int .i64 x.2] 29 (0, 0))
  obtain ⟨pb, hpb⟩ : ∃ pb, W0.heap.size = pb := ⟨_, rfl⟩
  rw [hV] at HBA
  rw [hV, hpb] at hbx
  have h := hh.rb_below HBA.out
  have hgp : g ≠ pb := by have := blk_lt hh.bk; omega
  have hpg : pb ≠ g := fun e => hgp e.symm
  have hpW : pb < W.heap.size := blk_lt hbx
  have HBX := Aside0.mk hbx
  clear hh
  have m1 := h.m1
  have m2 := h.m2
  have hNb : n < N ∧ (N : Int) ≤ most ∧ (N : Int) ≤ 2 * (n : Int) + 4 := by
    rw [show mn most (2 * (n : Int) + 4) = if 2 * (n : Int) + 4 < most then 2 * (n : Int) + 4 else most from rfl] at hN
    split at hN <;> omega
  have c0 : W.cell? ⟨g, 0, none⟩ = some (.int .i64 most) := blk_cell h.bk 0
  have c3 : W.cell? ⟨g, 3, none⟩ = some (.int .i64 (n : Int)) := blk_cell h.bk 3
  obtain ⟨A, c, rfl⟩ := Kd.R_slice h.ow
  have c1 : W.cell? ⟨g, 1, none⟩ = some (.slice A rm.length c) := blk_cell h.bk 1
  rw [← hn] at c1
  have k1 : (most == 0) = false := beq_eq_false_iff_ne.2 (by omega)
  have k2 : decide (most = 0) = false := decide_eq_false (by omega)
  have k3 : ((n : Int) == most) = false := beq_eq_false_iff_ne.2 (by omega)
  have k4 : decide ((n : Int) = most) = false := decide_eq_false (by omega)
  have q1 : IntKind.i64.wrap (2 * (n : Int)) = 2 * (n : Int) := by rw [i64_w, wrap_id _ (by omega) (by omega)]
  have q3 : IntKind.i64.wrap (2 * (n : Int) + 4) = 2 * (n : Int) + 4 := by rw [i64_w, wrap_id _ (by omega) (by omega)]
  have HG := Aside0.mk h
  have HNB := Aside0.mk (show n < N ∧ (N : Int) ≤ most ∧ N ≤ 1048576 from ⟨hNb.1, hNb.2.1, by omega⟩)
  have HNN : (if 2 * (n : Int) + 4 < most then 2 * (n : Int) + 4 else most) = (N : Int) := hN.symm
  clear h hn hm hN hNb m1 m2
  go_enter Try.func52, Try.ntmps52
  go_upto_region 3 with (fail)
  clear hV
  go_quiet (fail)
  go_wp2
  go_quiet (fail)
  go_wp2
  have hmk := makeT N (by have h_ := HNB.out.2.2; omega)
  go_region_law (fail)
  all_goals generalize hW1 : World.alloc _ _ = W1
  all_goals (have HO := Aside0.mk (show OI W W1 (.slice (some ⟨W.heap.size, 0, none⟩) N N) (List.replicate N d2) by (rw [← hW1]; exact oi_made W _ N HNB.out.2.2)))
  all_goals clear hW1 hmk
  all_goals (go_wp2_with (first
    | ((go_at_call 83); (with_reducible refine (row_calls w0 _ g most _ rm f n (HG.out.rb_below HO.out.bl)).mono ?_); rintro e w2 ⟨v2, rfl, ho2, hb2⟩; (obtain ⟨A2, c2, rfl⟩ := Kd.R_slice ho2); have HR := Aside0.mk ho2; have n0 := Aside0.mk (HO.out.below hb2); clear HO ho2 hb2; have HO := n0; clear n0)
    | ((with_reducible refine gate_builtin (b := .copy) (xs := #[.tmp 49, .tmp 51]) rfl ?_); refine R2_copy (w0 := W) W.heap.size rfl (.tmp 49) (.tmp 51) 55 rfl Try.underlying55 (by kernel_rfl) (g9 := W.heap.size) (c9 := N) (List.replicate N d2) (elsR rm f n) (.slice A2 (elsR rm f n).length c2) (fun _ => True) (by rw [List.length_replicate]; kernel_rfl) (by kernel_rfl) (by rw [List.length_replicate]; exact HO.out.ow) HR.out HO.out.bl (below_size HO.out.bl) (by rw [elsR_len, List.length_replicate]; have h_ := HNB.out.1; omega) ?_; intro w3 ho3 hb3 _; rw [copy_row rm f n N, List.length_replicate] at ho3; have n0 := Aside0.mk (show OI W w3 (.slice (some ⟨W.heap.size, 0, none⟩) N N) (rowG rm f n N) from ⟨ho3, hb3⟩); have hk3 := (HG.out.rb_below hb3).bk; have dd0 := blk_cell hk3 0; have dd1 := blk_cell hk3 1; have dd2 := blk_cell hk3 2; have dd3 := blk_cell hk3 3; have e1 := blk_frozen hk3 1; have e2 := blk_frozen hk3 2; clear HO HR ho3 hb3 hk3; have HO := n0; clear n0)))
  all_goals generalize hW4 : World.setCell (World.setCell _ _ _) _ _ = W4
  all_goals (have HG4 := Aside0.mk (show RG w0 W4 g most (.slice (some ⟨W.heap.size, 0, none⟩) (rowG rm f n N).length N) (rowG rm f n N) 0 n by (rw [← hW4]; exact rg_after HG.out HO.out (rowG_len rm f n N (by have h_ := HNB.out.1; omega)) HNB.out.1 HNB.out.2.1)))
  all_goals (have HK4 := Aside0.mk (show KeepBut W W4 g none by (rw [← hW4]; exact keep_moved HO.out.bl _ _ _ _)))
  all_goals clear hW4 HO dd0 dd1 dd2 dd3 e1 e2 c0 c1 c3
  all_goals (have hlen := rowG_len rm f n N (by have h_ := HNB.out.1; omega))
  all_goals (obtain ⟨hn1, hn2, hn3⟩ := HNB.out)
  all_goals (have HB4 := Aside0.mk (show RB W4 g most (.slice (some ⟨W.heap.size, 0, none⟩) N N) 0 n by (have h_ := HG4.out.bk; rw [hlen] at h_; exact h_)))
  all_goals (have c1 : W4.cell? ⟨g, 1, none⟩ = some (.slice (some ⟨W.heap.size, 0, none⟩) N N) := blk_cell HB4.out 1)
  all_goals (have c3 : W4.cell? ⟨g, 3, none⟩ = some (.int .i64 (n : Int)) := blk_cell HG4.out.bk 3)
  all_goals (have f3 := blk_frozen HG4.out.bk 3)
  all_goals (have hne1 : g ≠ W.heap.size := by (have h_ := blk_lt HG.out.bk; omega))
  all_goals (have hne2 : W.heap.size ≠ g := fun e => hne1 e.symm)
  all_goals (obtain ⟨r1, r2, r3, r4⟩ := R2_cell HG4.out.ow n (by omega))
  all_goals (have b0 : W4.cell? ⟨pb, 0, none⟩ = some (.int .i64 x.1) := blk_cell ((HK4.out.2 pb (blk_lt HBX.out) hpg (by simp)).trans HBX.out) 0)
  all_goals (have b1 : W4.cell? ⟨pb, 1, none⟩ = some (.int .i64 x.2) := blk_cell ((HK4.out.2 pb (blk_lt HBX.out) hpg (by simp)).trans HBX.out) 1)
  all_goals (have p3 := eq_true (show n < N by omega))
  all_goals (have p1 := eq_true (show (0 : Int) ≤ (n : Int) by omega))
  all_goals (have p2 := eq_true (show (n : Int) < (N : Int) by omega))
  all_goals (have q2 : IntKind.i64.wrap ((n : Int) + 1) = ((n + 1 : Nat) : Int) := by (rw [i64_w, wrap_id _ (by omega) (by omega)]; rfl))
  all_goals (have HC := Aside0.mk (fun (W2 : World) (h2 : RB W2 g most (.slice (some ⟨W.heap.size, 0, none⟩) N N) 0 n) => place_calls W2 g most (some ⟨W.heap.size, 0, none⟩) N N 0 n n h2 (by omega) (by omega) (by omega)))
  all_goals (rw [posR_0 N n hn1] at HC)
  all_goals (have HL := Aside0.mk hlen)
  all_goals clear hn1 hn2 hn3 hlen
  all_goals go_region_law (first
    | (go_simp; go_at_call 84; refine (HC.out (W4.drewN _) (show RB (W4.drewN _) _ _ _ _ _ from HB4.out)).mono ?_; rintro e w2 ⟨rfl, ⟨m, rfl⟩⟩))
  all_goals clear c1 k1 k2 k3 k4 q1 q3 r1 r2 r3 r4 b0 b1 p1 p2 p3 HC HNN
  all_goals go_wp2
  all_goals go_ret
  all_goals exact ⟨.slice (some ⟨W.heap.size, 0, none⟩) N N, rfl, push_endN w0 W4 g W.heap.size N most (rowG rm f n N) 0 n n _ N x HG4.out HL.out HNB.out.1 HNB.out.1 hne1, keep_from HBA.out (keep_more HK4.out (Nat.le_refl _)), W.heap.size, rfl, HBA.out.size⟩
end Go.Proofs.Ytekjkookkjjbcaa.RX
