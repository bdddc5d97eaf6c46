/- The ring of things: Drop (walked by hand). -/
import Derived.Test.YtekjkookkjjbcaaRingXG
namespace Go.Proofs.Ytekjkookkjjbcaa.RX
set_option linter.unusedVariables false
set_option linter.unusedSimpArgs false
set_option linter.unusedVariables false
set_option linter.unusedSimpArgs false
open Go.RowKit Go.Proofs.YtekjkookkjjbcaaW.PrintWords Go.Proofs.YtekjkookkjjbcaaW.PrintLast Go.Proofs.YtekjkookkjjbcaaW.PrintMore Go.Proofs.Ytekjkookkjjbcaa.B Go.Proofs.Ytekjkookkjjbcaa.M Go.Proofs.Ytekjkookkjjbcaa.RH
open Go.Proofs.Ytekjkookkjjbcaa.RI (zeroed zeroed_len zeroed_zero zeroed_at set_row_grown)
attribute [local go_sem] max2_int min2_int max_two min_two
/-- The row behind a Drop. -/
def rowD (rm : List T2) (f k : Nat) : List T2 := zeroed d2 (zeroed d2 rm f (min (f + k) rm.length - f)) 0 (f + k - min (f + k) rm.length)
theorem rowD_len (rm : List T2) (f k : Nat) (hf : f < rm.length) (hk : k ≤ rm.length) : (rowD rm f k).length = rm.length := by
  unfold rowD
  rw [zeroed_len _ _ _ _ (by rw [zeroed_len _ _ _ _ (by omega)]; omega), zeroed_len _ _ _ _ (by omega)]
theorem posR_posR (L f k i : Nat) (hf : f < L) (h : k + i < L) : posR L (posR L f k) i = posR L f (k + i) := by
  unfold posR
  by_cases a1 : L ≤ f + k
  · rw [if_pos a1, if_neg (by omega), if_pos (by omega)]
    omega
  · rw [if_neg a1]
    by_cases a2 : L ≤ f + k + i
    · rw [if_pos a2, if_pos (by omega)]
      omega
    · rw [if_neg a2, if_neg (by omega)]
      omega
theorem elsR_drop (rm : List T2) (f n k : Nat) (hf : f < rm.length) (hk : k ≤ n) (hn : n ≤ rm.length) : elsR (rowD rm f k) (posR rm.length f k) (n - k) = (elsR rm f n).drop k := by
  apply List.ext_getElem
  · rw [List.length_drop, elsR_len, elsR_len]
  · intro i h1 h2
    rw [elsR_len] at h1
    have a1 := elsR_at (rowD rm f k) (posR rm.length f k) (n - k) i h1
    have a2 := elsR_at rm f n (k + i) (by omega)
    rw [List.getD_eq_getElem?_getD, List.getElem?_eq_getElem (by rw [elsR_len]; omega), Option.getD_some] at a1 a2
    rw [List.getElem_drop, a1, a2, rowD_len rm f k hf (by omega)]
    rw [posR_posR rm.length f k i hf (by omega)]
    unfold rowD
    rw [zeroed_at _ _ _ _ _ _ (by rw [zeroed_len _ _ _ _ (by omega)]; omega) (by unfold posR; split <;> omega), zeroed_at _ _ _ _ _ _ (by omega) (by unfold posR; split <;> omega)]
theorem RG.rows {w0 W W1 : World} {g g9 c9 : Nat} {most : Int} {rm rm1 : List T2} {f n : Nat} (h : RG w0 W g most (.slice (some ⟨g9, 0, none⟩) rm.length c9) rm f n) (hg : W.grownBy W1 (some g9)) (ho : Kd.R kT 29 W1 w0.heap.size (fun _ => True) (.slice (some ⟨g9, 0, none⟩) rm.length c9) rm1) (hl : rm1.length = rm.length) (hne : g ≠ g9) : RG w0 W1 g most (.slice (some ⟨g9, 0, none⟩) rm.length c9) rm1 f n := by
  have hg9 : w0.heap.size ≤ g9 := Kd.R_base h.ow g9 (by simp [Value.ownBlock])
  refine ⟨blk_grown h.bk hg (fun e => hne (by injection e)), h.gg, pw_below_grown h.bl _ (below_size h.bl) hg (by rintro k ⟨⟩; exact hg9), ho, ?_, ?_, ?_, h.m1, h.m2⟩
  · rw [hl]; exact h.fl
  · rw [hl]; exact h.nl
  · rw [hl]; exact h.ml
theorem RG.rows2 {w0 W W1 : World} {g g9 c9 L : Nat} {most : Int} {rm rm1 : List T2} {f n : Nat} (h : RG w0 W g most (.slice (some ⟨g9, 0, none⟩) L c9) rm f n) (hg : W.grownBy W1 (some g9)) (ho : Kd.R kT 29 W1 w0.heap.size (fun _ => True) (.slice (some ⟨g9, 0, none⟩) L c9) rm1) (hL : rm.length = L) (hl : rm1.length = rm.length) (hne : g ≠ g9) : RG w0 W1 g most (.slice (some ⟨g9, 0, none⟩) L c9) rm1 f n := by
  subst hL
  exact h.rows hg ho hl hne
theorem drop_end {w0 W : World} {g g9 c9 L : Nat} {most : Int} {rm : List T2} {f n p n2 m q : Nat} (h : RG w0 W g most (.slice (some ⟨g9, 0, none⟩) L c9) rm f n) (hp : p < L) (h2 : n2 ≤ n) (hne : g ≠ g9) (hL : rm.length = L) :
    RG w0 ((((W.drewN m).setCell ⟨g, 2, none⟩ (.int .i64 (p : Int))).drewN q).setCell ⟨g, 3, none⟩ (.int .i64 (n2 : Int))) g most (.slice (some ⟨g9, 0, none⟩) L c9) rm p n2 := by
  have hb : (W.drewN m).heap[g]? = some (.cells #[.int .i64 most, .slice (some ⟨g9, 0, none⟩) L c9, .int .i64 (f : Int), .int .i64 (n : Int)] 109 (0, 0)) := h.bk
  have hb2 := blk_put hb 2 (.int .i64 (p : Int)) rfl
  have hb3 : (((W.drewN m).setCell ⟨g, 2, none⟩ (.int .i64 (p : Int))).drewN q).heap[g]? = _ := hb2
  have ho : Kd.R kT 29 (W.drewN m) w0.heap.size (fun _ => True) (.slice (some ⟨g9, 0, none⟩) L c9) rm := h.ow
  have o2 := own_set ho hb (by decide) 2 (.int .i64 (p : Int))
  have o3 : Kd.R kT 29 (((W.drewN m).setCell ⟨g, 2, none⟩ (.int .i64 (p : Int))).drewN q) w0.heap.size (fun _ => True) (.slice (some ⟨g9, 0, none⟩) L c9) rm := o2
  have o4 := own_set o3 hb3 (by decide) 3 (.int .i64 (n2 : Int))
  have nl := h.nl
  exact ⟨blk_put hb3 3 _ rfl, h.gg, below_set (pw_below_drewN (below_set (pw_below_drewN h.bl m) h.gg) q) h.gg, o4, .inr (by omega), by omega, h.ml, h.m1, h.m2⟩
theorem keep_set3 {W W6 : World} {g : Nat} {row : Option Nat} {m q : Nat} {x y : Value} {i j : Nat} (h : KeepBut W W6 g row) : KeepBut W ((((W6.drewN m).setCell ⟨g, i, none⟩ x).drewN q).setCell ⟨g, j, none⟩ y) g row := by
  refine ⟨by simpa [World.setCell] using h.1, fun k hk h1 h2 => ?_⟩
  rw [Below.heap_setCell _ ⟨g, j, none⟩ y k h1]
  exact (Below.heap_setCell _ ⟨g, i, none⟩ x k h1).trans (h.2 k hk h1 h2)
set_option maxHeartbeats 8000000 in
set_option maxRecDepth 100000 in
theorem drop_in (w0 W : World) (g : Nat) (most : Int) (v : Value) (rm : List T2) (f n : Nat) (k : Int) (k0 : Nat) (h : RG w0 W g most v rm f n) (hk : (if (n : Int) < k then (n : Int) else k) = (k0 : Int)) (h0 : 0 < k0) (hkn : k0 ≤ n) :
    Calls Try.prog 79 #[.pointer (some ⟨g, 0, none⟩), .int .i64 k] W fun e W' => e = .returned (.int .i64 (k0 : Int)) ∧ RG w0 W' g most v (rowD rm f k0) (posR rm.length f k0) (n - k0) ∧ KeepBut W W' g v.ownBlock := by
  have m2 := h.m2
  have ml := h.ml
  have nl := h.nl
  have hff : f < rm.length := by have := h.fl; omega
  obtain ⟨g9, c9, hv, hbg, hlt9, _⟩ := Kd.R_form h.ow (by omega)
  subst hv
  have hne : some g ≠ (Value.slice (some ⟨g9, 0, none⟩) rm.length c9).ownBlock := Kd.R_ne h.ow h.bk (by decide)
  have hne1 : g ≠ g9 := fun e => hne (by simp [Value.ownBlock, e])
  have hne2 : g9 ≠ g := fun e => hne1 e.symm
  have c1 : W.cell? ⟨g, 1, none⟩ = some (.slice (some ⟨g9, 0, none⟩) rm.length c9) := blk_cell h.bk 1
  have c2 : W.cell? ⟨g, 2, none⟩ = some (.int .i64 (f : Int)) := blk_cell h.bk 2
  have hc9 : rm.length ≤ c9 := (Kd.R_reads' h.ow).2.1
  obtain ⟨E, hE⟩ : ∃ E : Nat, min (f + k0) rm.length = E := ⟨_, rfl⟩
  obtain ⟨s, hs⟩ : ∃ s : Nat, f + k0 = s := ⟨_, rfl⟩
  have q1 : IntKind.i64.wrap ((f : Int) + (k0 : Int)) = (s : Int) := by rw [i64_w, wrap_id _ (by omega) (by omega)]; omega
  have q2 : (if (rm.length : Int) < (s : Int) then (rm.length : Int) else (s : Int)) = (E : Int) := by split <;> omega
  have q2b : (if rm.length < s then (rm.length : Int) else (s : Int)) = (E : Int) := by split <;> omega
  have q3 : IntKind.i64.wrap ((s : Int) - (E : Int)) = ((s - E : Nat) : Int) := by rw [i64_w, wrap_id _ (by omega) (by omega)]; omega
  have HG := Aside0.mk h
  have k1 : decide ((k0 : Int) ≤ 0) = false := decide_eq_false (by omega)
  have k2 : decide (k0 = 0) = false := decide_eq_false (by omega)
  have HE := Aside0.mk (show f ≤ E ∧ E ≤ rm.length ∧ E ≤ s ∧ s - E ≤ rm.length ∧ s - E ≤ c9 ∧ E ≤ c9 from ⟨by omega, by omega, by omega, by omega, by omega, by omega⟩)
  have HH := Aside0.mk (show f < rm.length ∧ k0 ≤ n ∧ n ≤ rm.length ∧ min (f + k0) rm.length = E ∧ f + k0 = s ∧ rm.length ≤ 1048576 from ⟨hff, hkn, nl, hE, hs, by omega⟩)
  clear h m2 ml nl hff hbg hlt9 hne hc9 hE hs h0 hkn
  go_enter Try.func79, Try.ntmps79
  go_wp2_with (first
    | ((go_at_call 44); (with_reducible refine (len_calls _ g most _ f n HG.out.bk).mono ?_); rintro e w1 ⟨rfl, ⟨nd, rfl⟩⟩))
  go_quiet (fail)
  go_wp2
  have s1 := eq_true (show (f : Int) ≤ (E : Int) by have h_ := HE.out; omega)
  have s2 := eq_true (show (E : Int) ≤ (c9 : Int) by have h_ := HE.out; omega)
  have s1b := eq_true (show f ≤ E by have h_ := HE.out; omega)
  have s2b := eq_true (show E ≤ c9 by have h_ := HE.out; omega)
  have s3 : (c9 = f) = False := eq_false (by have h_ := HE.out; have h2_ := HH.out; have h3_ := (Kd.R_reads' HG.out.ow).2.1; omega)
  go_region_law (refine clear_step2 (base := w0.heap.size) (by kernel_rfl) (.tmp 33) 55 rfl rfl Try.underlying55 16 infoT g9 f (E - f) (c9 - f) c9 ?hx rm (ok := fun _ => True) ?ho ?hl ?_; (case hx => kernel_rfl); (case ho => exact HG.out.ow); (case hl => (have h_ := HE.out; omega)); intro w5 ho5 hg5; have HG5 := Aside0.mk ((HG.out.rb_below (pw_below_drewN (Below.refl _ _) _)).rows hg5 ho5 (zeroed_len _ _ _ _ (by have h_ := HE.out; omega)) hne1); have HK5 := Aside0.mk (show KeepBut W w5 g (some g9) from KeepBut.of_grown hg5 g); clear ho5 hg5)
  all_goals clear c1 c2 s1 s2 s1b s2b s3 q2 q2b
  all_goals (have c1 : w5.cell? ⟨g, 1, none⟩ = some (.slice (some ⟨g9, 0, none⟩) rm.length c9) := blk_cell HG5.out.bk 1)
  all_goals (have c2 : w5.cell? ⟨g, 2, none⟩ = some (.int .i64 (f : Int)) := blk_cell HG5.out.bk 2)
  all_goals go_wp2
  all_goals (have s1 := eq_true (show (0 : Int) ≤ ((s - E : Nat) : Int) by omega))
  all_goals (have s2 := eq_true (show ((s - E : Nat) : Int) ≤ (c9 : Int) by (have h_ := HE.out; omega)))
  all_goals (have s2b := eq_true (show s - E ≤ c9 by (have h_ := HE.out; omega)))
  all_goals (have s3 : (c9 = 0) = False := eq_false (by (have h_ := HE.out; have h2_ := HH.out; have h3_ := (Kd.R_reads' HG.out.ow).2.1; omega)))
  all_goals (have hz1 := zeroed_len d2 rm f (E - f) (by have h_ := HE.out; omega))
  all_goals (have HZ1 := Aside0.mk hz1; clear hz1)
  all_goals go_region_law (refine clear_step2 (base := w0.heap.size) (by kernel_rfl) (.tmp 46) 55 rfl rfl Try.underlying55 16 infoT g9 0 (s - E) c9 c9 ?hx (zeroed d2 rm f (E - f)) (ok := fun _ => True) ?ho ?hl ?_; (case hx => kernel_rfl); (case ho => (rw [HZ1.out]; exact HG5.out.ow)); (case hl => (rw [HZ1.out]; have h_ := HE.out; omega)); intro w6 ho6 hg6; rw [HZ1.out] at ho6; have HG6 := Aside0.mk (show RG w0 w6 g most (.slice (some ⟨g9, 0, none⟩) rm.length c9) (rowD rm f k0) f n from (by rw [rowD, HH.out.2.2.2.1, HH.out.2.2.2.2.1]; exact (HG5.out.rb_below (pw_below_drewN (Below.refl _ _) _)).rows2 hg6 ho6 HZ1.out (by rw [zeroed_len _ _ _ _ (by rw [HZ1.out]; have h_ := HE.out; omega)]) hne1)); have HK6 := Aside0.mk (HK5.out.trans (KeepBut.of_grown hg6 g) (.inl rfl)); clear ho6 hg6)
  all_goals clear c1 c2 s1 s2 s2b s3 q1 q3 HG5 HK5
  all_goals (obtain ⟨p, hpe⟩ : ∃ p, posR rm.length f k0 = p := ⟨_, rfl⟩)
  all_goals (have hpl : p < rm.length := by (have h_ := HH.out; rw [← hpe]; unfold posR; split <;> omega))
  all_goals (have HC := Aside0.mk (fun (W2 : World) (h2 : RB W2 g most (.slice (some ⟨g9, 0, none⟩) rm.length c9) f n) => place_calls W2 g most (some ⟨g9, 0, none⟩) rm.length c9 f n k0 h2 (by have h_ := HH.out; omega) (by have h_ := HH.out; omega) (by have h_ := HH.out; omega)))
  all_goals (rw [hpe] at HC)
  all_goals (have HP := Aside0.mk hpe; clear hpe)
  all_goals (have b1 : w6.cell? ⟨g, 1, none⟩ = some (.slice (some ⟨g9, 0, none⟩) rm.length c9) := blk_cell HG6.out.bk 1)
  all_goals (have b2 : w6.cell? ⟨g, 2, none⟩ = some (.int .i64 (f : Int)) := blk_cell HG6.out.bk 2)
  all_goals (have b3 : w6.cell? ⟨g, 3, none⟩ = some (.int .i64 (n : Int)) := blk_cell HG6.out.bk 3)
  all_goals (have f2 := blk_frozen HG6.out.bk 2)
  all_goals (have f3 := blk_frozen HG6.out.bk 3)
  all_goals (have t1 : decide (p = rm.length) = false := decide_eq_false (by omega))
  all_goals (have t2 : ((p : Int) == (rm.length : Int)) = false := beq_eq_false_iff_ne.2 (by omega))
  all_goals (have t3 : (p == rm.length) = false := beq_eq_false_iff_ne.2 (by omega))
  all_goals (have t4 : IntKind.i64.wrap ((n : Int) - (k0 : Int)) = ((n - k0 : Nat) : Int) := by (have h_ := HH.out; rw [i64_w, wrap_id _ (by omega) (by omega)]; omega))
  all_goals clear hpl
  all_goals (go_wp2_with (first
    | ((go_at_call 84); (with_reducible refine (HC.out _ HG6.out.bk).mono ?_); rintro e w7 ⟨rfl, ⟨m, rfl⟩⟩)))
  all_goals go_quiet (fail)
  all_goals go_wp2
  all_goals go_ret
  all_goals exact ⟨rfl, by rw [HP.out]; exact drop_end HG6.out (by have h_ := HH.out; have h2_ := HP.out; rw [← h2_]; unfold posR; split <;> omega) (by have h_ := HH.out; omega) hne1 (rowD_len rm f k0 (by have h_ := HH.out; omega) (by have h_ := HH.out; omega)), keep_set3 HK6.out⟩
end Go.Proofs.Ytekjkookkjjbcaa.RX
