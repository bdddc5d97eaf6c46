/- The reference's ring (walked by hand). -/
import Derived.Test.YtekjkookkjjbcaaRefI
namespace Go.Proofs.Ytekjkookkjjbcaa.RR
set_option linter.unusedVariables false
set_option linter.unusedSimpArgs false
set_option linter.unusedVariables false
set_option linter.unusedSimpArgs false
open Go.RowKit Go.Proofs.YtekjkookkjjbcaaW.PrintWords Go.Proofs.YtekjkookkjjbcaaW.PrintLast Go.Proofs.YtekjkookkjjbcaaW.PrintMore Go.Proofs.Ytekjkookkjjbcaa.B Go.Proofs.Ytekjkookkjjbcaa.M Go.Proofs.Ytekjkookkjjbcaa.RH
attribute [local go_sem] max2_int min2_int max_two min_two
/-- A ring of the reference's. -/
structure XR (w0 W : World) (g : Nat) (most : Int) (v : Value) (gs : List T2) : Prop where
  bk : W.heap[g]? = some (.cells #[.int .i64 most, v] 106 (0, 0))
  gg : w0.heap.size ≤ g
  bl : Below w0.heap.size w0 W
  ow : RT w0 W v gs
theorem XR.below {w0 W W' : World} {g : Nat} {most : Int} {v : Value} {gs : List T2} (h : XR w0 W g most v gs) (hb : Below W.heap.size W W') : XR w0 W' g most v gs :=
  ⟨blk_below h.bk hb, h.gg, below_step h.bl hb, Kd.R_below h.ow hb⟩
theorem XR.drew {w0 W : World} {g : Nat} {most : Int} {v : Value} {gs : List T2} (h : XR w0 W g most v gs) : XR w0 W.drew g most v gs := h.below (pw_below_drewN (Below.refl _ _) 1)
theorem XR.stored {w0 V w7 : World} {g : Nat} {most : Int} {v v1 : Value} {gs gs1 : List T2} (h : XR w0 V g most v gs) (hb7 : Below w0.heap.size w0 w7) (hs : V.heap.size ≤ w7.heap.size) (hk : ∀ i, i < V.heap.size → some i ≠ v.ownBlock → w7.heap[i]? = V.heap[i]?) (ho : RT w0 w7 v1 gs1) :
    XR w0 (w7.setCell ⟨g, 1, none⟩ v1) g most v1 gs1 ∧ KeepBut V (w7.setCell ⟨g, 1, none⟩ v1) g v.ownBlock := by
  have hne : some g ≠ v.ownBlock := Kd.R_ne h.ow h.bk (by decide)
  have b7 : w7.heap[g]? = some (.cells #[.int .i64 most, v] 106 (0, 0)) := (hk g (blk_lt h.bk) hne).trans h.bk
  refine ⟨⟨blk_put b7 1 _ rfl, h.gg, below_set hb7 h.gg, Kd.R_set ho b7 (by decide) 1 v1⟩, Nat.le_trans hs (by simp [World.setCell]), fun i hi h1 h2 => ?_⟩
  rw [Below.heap_setCell _ ⟨g, 1, none⟩ _ i h1]
  exact hk i hi h2
theorem xnew_bad (W : World) (most : Int) (h : most < 1 ∨ most > 1048576) :
    Calls Try.prog 30 #[.int .i64 most] W fun e W' => e = .returned (.tuple #[.pointer none, .int .i64 2]) ∧ Drawn0 W W' := by
  rcases h with h | h
  · have k1 : decide (most < 1) = true := decide_eq_true h
    go_enter Try.func30, Try.ntmps30
    go_wp2
    go_ret2
    exact ⟨rfl, by repeat (first | exact Drawn0.refl _ | apply Drawn0.step)⟩
  · have k1 : decide (most < 1) = false := decide_eq_false (by omega)
    have k2 : decide (most > 1048576) = true := decide_eq_true h
    have k3 : decide (1048576 < most) = true := decide_eq_true h
    go_enter Try.func30, Try.ntmps30
    go_wp2
    go_ret2
    exact ⟨rfl, by repeat (first | exact Drawn0.refl _ | apply Drawn0.step)⟩
theorem xnew_calls (w0 W : World) (hB : Below w0.heap.size w0 W) (most : Int) (h : 1 ≤ most ∧ most ≤ 1048576) :
    Calls Try.prog 30 #[.int .i64 most] W fun e W' => ∃ g, e = .returned (.tuple #[.pointer (some ⟨g, 0, none⟩), .int .i64 0]) ∧ XR w0 W' g most (.slice none 0 0) [] ∧ Below W.heap.size W W' ∧ W.heap.size ≤ g := by
  have k1 : decide (most < 1) = false := decide_eq_false (by omega)
  have k2 : decide (most > 1048576) = false := decide_eq_false (by omega)
  have k3 : decide (1048576 < most) = false := decide_eq_false (by omega)
  go_enter Try.func30, Try.ntmps30
  go_wp2
  go_ret2
  have hb := below_alloc (Below.refl W.heap.size W) (.cells #[.int .i64 most, .slice none 0 0] 106 (0, 0))
  exact ⟨W.heap.size, rfl, ⟨heap_alloc_new W _, below_size hB, below_step hB hb, Kd.R_nil _ _ _ _ _⟩, hb, Nat.le_refl _⟩
theorem xlen_calls {w0 W : World} {g : Nat} {most : Int} {v : Value} {gs : List T2} (h : XR w0 W g most v gs) :
    Calls Try.prog 37 #[.pointer (some ⟨g, 0, none⟩)] W fun e W' => e = .returned (.int .i64 (gs.length : Int)) ∧ Drawn0 W W' := by
  obtain ⟨A, cc, rfl⟩ := Kd.R_slice h.ow
  have c1 : W.cell? ⟨g, 1, none⟩ = some (.slice A gs.length cc) := blk_cell h.bk 1
  clear h
  go_enter Try.func37, Try.ntmps37
  go_wp2
  go_ret
  exact ⟨rfl, Drawn0.refl _⟩
theorem xlen_nil (W : World) :
    Calls Try.prog 37 #[.pointer none] W fun e W' => e = .returned (.int .i64 0) ∧ Drawn0 W W' := by
  go_enter Try.func37, Try.ntmps37
  go_wp2
  go_ret
  exact ⟨rfl, Drawn0.refl _⟩
theorem xpush_nil (W : World) (a b : Int) :
    Calls Try.prog 31 #[.pointer none, .agg #[.int .i64 a, .int .i64 b]] W fun e W' => e = .returned (.int .i64 1) ∧ Below W.heap.size W W' := by
  go_enter Try.func31, Try.ntmps31
  go_wp2
  go_ret
  exact ⟨rfl, (by repeat (first | exact Below.refl _ _ | exact Nat.le_refl _ | exact Nat.le_succ _ | (refine below_alloc ?_ _) | (refine below_set ?_ ?_) | (refine pw_below_drewN ?_ _)))⟩
theorem xrow_nil (W : World) :
    Calls Try.prog 34 #[.pointer none] W fun e W' => e = .returned (.slice none 0 0) ∧ Drawn0 W W' := by
  go_enter Try.func34, Try.ntmps34
  go_wp2
  go_ret
  exact ⟨rfl, Drawn0.refl _⟩
theorem xpush_full {w0 W : World} {g : Nat} {most : Int} {v : Value} {gs : List T2} (h : XR w0 W g most v gs) (hl : most ≤ (gs.length : Int)) (a b : Int) :
    Calls Try.prog 31 #[.pointer (some ⟨g, 0, none⟩), .agg #[.int .i64 a, .int .i64 b]] W fun e W' => e = .returned (.int .i64 4) ∧ Below W.heap.size W W' := by
  obtain ⟨A, cc, rfl⟩ := Kd.R_slice h.ow
  have c0 : W.cell? ⟨g, 0, none⟩ = some (.int .i64 most) := blk_cell h.bk 0
  have c1 : W.cell? ⟨g, 1, none⟩ = some (.slice A gs.length cc) := blk_cell h.bk 1
  have hg : g < W.heap.size := blk_lt h.bk
  have k1 : decide ((gs.length : Int) ≥ most) = true := decide_eq_true (by omega)
  have k2 : decide (most ≤ (gs.length : Int)) = true := decide_eq_true (by omega)
  generalize gs.length = N at *
  clear h hl
  go_enter Try.func31, Try.ntmps31
  go_wp2_with (fail)
  go_quiet (fail)
  go_wp2_with (fail)
  go_ret
  exact ⟨rfl, (by repeat (first | exact Below.refl _ _ | exact Nat.le_refl _ | exact Nat.le_succ _ | (refine below_alloc ?_ _) | (refine below_set ?_ ?_) | (refine pw_below_drewN ?_ _)))⟩
set_option maxHeartbeats 8000000 in
set_option maxRecDepth 100000 in
theorem xpush_calls {w0 W : World} {g : Nat} {most : Int} {v : Value} {gs : List T2} (h : XR w0 W g most v gs) (hl : (gs.length : Int) < most) (hm : most ≤ 1048576) (a b : Int) :
    Calls Try.prog 31 #[.pointer (some ⟨g, 0, none⟩), .agg #[.int .i64 a, .int .i64 b]] W fun e W' => e = .returned (.int .i64 0) ∧ ∃ v', XR w0 W' g most v' (gs ++ [(a, b)]) ∧ KeepBut W W' g v.ownBlock ∧ MovedR W v.ownBlock v'.ownBlock := by
  obtain ⟨A, cc, rfl⟩ := Kd.R_slice h.ow
  have HH := Aside0.mk h
  have HLL : Aside0 (gs.length < 1048576) := ⟨by omega⟩
  have c0 : W.cell? ⟨g, 0, none⟩ = some (.int .i64 most) := blk_cell h.bk 0
  have c1 : W.cell? ⟨g, 1, none⟩ = some (.slice A gs.length cc) := blk_cell h.bk 1
  have hg : g < W.heap.size := blk_lt h.bk
  have k1 : decide ((gs.length : Int) ≥ most) = false := decide_eq_false (by omega)
  have k2 : decide (most ≤ (gs.length : Int)) = false := decide_eq_false (by omega)
  obtain ⟨ys, hys⟩ : ∃ ys, gs ++ [((a, b) : T2)] = ys := ⟨_, rfl⟩
  have HY := Aside0.mk hys
  rw [hys]
  clear hys
  obtain ⟨N, hN⟩ : ∃ N, gs.length = N := ⟨_, rfl⟩
  rw [hN] at c1 k1 k2
  have HN := Aside0.mk hN
  clear h hl hN hm
  go_enter Try.func31, Try.ntmps31
  go_wp2_with (fail)
  go_quiet (fail)
  clear k1 k2 c0
  go_upto_region 5 with (fail)
  have HW := Aside0.mk (pw_below_drewN (below_alloc (Below.refl W.heap.size W) (.cells #[.int .i64 a, .int .i64 b] 29 (0, 0))) nq)
  have HN' : Aside0 (((W.alloc (.cells #[.int .i64 a, .int .i64 b] 29 (0, 0))).drewN nq).heap[W.heap.size]? = some (.cells #[.int .i64 a, .int .i64 b] 29 (0, 0))) := ⟨heap_alloc_new W _⟩
  obtain ⟨WB, hWB⟩ : ∃ WB, (W.alloc (.cells #[.int .i64 a, .int .i64 b] 29 (0, 0))).drewN nq = WB := ⟨_, rfl⟩
  rw [hWB] at HW HN'
  rw [hWB]
  obtain ⟨pb, hpb⟩ : ∃ pb, W.heap.size = pb := ⟨_, rfl⟩
  rw [hpb] at HN'
  rw [hpb]
  have b0 : WB.cell? ⟨pb, 0, none⟩ = some (.int .i64 a) := blk_cell HN'.out 0
  have b1 : WB.cell? ⟨pb, 1, none⟩ = some (.int .i64 b) := blk_cell HN'.out 1
  replace c1 := pw_cell_below HW.out c1
  clear hWB hg hpb
  have hpb : pb < WB.heap.size := blk_lt HN'.out
  have hg : g < WB.heap.size := by have h_ := HW.out.size; have h2_ := blk_lt HH.out.bk; omega
  go_cut [] from 17 to 26 (fun wx => ∃ v1, Aside0 (XR w0 wx g most v1 ys ∧ KeepBut W wx g (Value.slice A gs.length cc).ownBlock ∧ MovedR W (Value.slice A gs.length cc).ownBlock v1.ownBlock))
  case first =>
    go_region_law (first
      | (refine Kd.R_append_rows_step kT (Rr := kT.K WB) (w0 := w0) w0.heap.size (by kernel_rfl) (.tmp 21) (.tmp 23) 55 29 (.agg #[.int .i64 0, .int .i64 0]) 16 rfl Try.underlying55 infoT rfl (by decide) (by omega) (.slice A N cc) gs [(a, b)] (some ⟨WB.heap.size, 0, none⟩) 1 1 (fun _ => True) (fun _ => False) (by kernel_rfl) (by kernel_rfl) ?aO ?aR ?aM (fun _ h => h.elim) (fun _ _ => trivial) ?aB ?aS ?aL ?_; (case aO => rw [← HN.out]; exact Kd.R_below HH.out.ow (below_alloc (pw_below_drewN HW.out _) _)); (case aR => exact lit2_own (WB.drewN _) (a, b)); (case aM => exact fun x cs hx => kT_mk' hx); (case aB => exact below_step HH.out.bl (below_alloc (pw_below_drewN HW.out _) _)); (case aS => exact below_size (below_step HH.out.bl (below_alloc (pw_below_drewN HW.out _) _))); (case aL => have h_ := HN.out; have h2_ := HLL.out; omega); intro v7 w7 ho7 hb7 hg7 hat7; rw [HY.out] at ho7; obtain ⟨A7, c7, rfl⟩ := Kd.R_slice ho7; rw [← HN.out] at hg7 hat7; have hx := XR.stored HH.out hb7 (Nat.le_trans (below_alloc (pw_below_drewN HW.out _) _).size hg7.size) (fun i hi hne => (hg7.block i (Nat.lt_of_lt_of_le hi (below_alloc (pw_below_drewN HW.out _) _).size) hne).trans ((below_alloc (pw_below_drewN HW.out _) _).block i hi)) ho7; have hm : MovedR W (Value.slice A gs.length cc).ownBlock (Value.slice A7 ys.length c7).ownBlock := hat7.imp id (fun ⟨b, h1, h2⟩ => ⟨b, h1, Nat.le_trans (below_alloc (pw_below_drewN HW.out _) _).size h2⟩); have HX := Aside0.mk (And.intro hx.1 (And.intro hx.2 hm)); have hb := (hg7.block g (Nat.lt_of_lt_of_le (blk_lt HH.out.bk) (below_alloc (pw_below_drewN HW.out _) _).size) (Kd.R_ne HH.out.ow HH.out.bk (by decide))).trans (blk_below HH.out.bk (below_alloc (pw_below_drewN HW.out _) _)); have c0' := blk_cell hb 1; have f0' := blk_frozen hb 1; clear c1 ho7 hb7 hg7 hat7 hx hm hb))
    all_goals go_wp2_with (fail)
    all_goals go_meet
    all_goals first
      | exact ⟨_, HX⟩
      | exact ⟨_, ⟨HX.out.1.drew, keep_trans HX.out.2.1 (pw_below_drewN (Below.refl _ _) 1), HX.out.2.2⟩⟩
  case rest =>
    obtain ⟨v1, HX⟩ := hcut
    go_wp2_with (fail)
    go_ret
    exact ⟨rfl, v1, HX.out⟩
set_option maxHeartbeats 8000000 in
set_option maxRecDepth 100000 in
/-- Row: a row of its own. -/
theorem xrow_calls {w0 W : World} {g : Nat} {most : Int} {v : Value} {gs : List T2} (h : XR w0 W g most v gs) (hl : gs.length ≤ 1048576) :
    Calls Try.prog 34 #[.pointer (some ⟨g, 0, none⟩)] W fun e W' => ∃ A c, e = .returned (.slice A gs.length c) ∧ RT W W' (.slice A gs.length c) gs ∧ Below W.heap.size W W' := by
  obtain ⟨A, cc, rfl⟩ := Kd.R_slice h.ow
  have HH := Aside0.mk h
  have HLL := Aside0.mk hl
  have c1 : W.cell? ⟨g, 1, none⟩ = some (.slice A gs.length cc) := blk_cell h.bk 1
  have hg : g < W.heap.size := blk_lt h.bk
  have HC := Aside0.mk (Kd.R_reads' h.ow).2.2
  obtain ⟨N, hN⟩ : ∃ N, gs.length = N := ⟨_, rfl⟩
  rw [hN] at c1 HC
  have HN := Aside0.mk hN
  clear h hl hN
  go_enter Try.func34, Try.ntmps34
  go_wp2_with (first
    | ((with_reducible refine gate_builtin (b := .append) (xs := #[.tmp 5, .tmp 9]) rfl ?_); at_builtin; refine Kd.R_append_rows kT (Rr := kT.K W) (w0 := W) W.heap.size rfl (.tmp 5) (.tmp 9) 55 29 (.agg #[.int .i64 0, .int .i64 0]) 16 rfl Try.underlying55 infoT rfl (by decide) (by omega) (.slice (some ⟨W.heap.size, 0, none⟩) 0 0) ([] : List T2) gs A N cc (fun _ => True) (fun _ => False) rfl rfl ?aO ?aR ?aM (fun _ h => h.elim) (fun _ _ => trivial) ?aB ?aS ?aL ?_; (case aO => exact empty_own W W (Nat.le_refl _)); (case aR => exact (Kd.C_below HC.out (below_alloc (Below.refl _ _) _)).imp_ (Below.refl _ _) (fun _ _ hp => kT_any hp)); (case aM => exact fun x cs hx => kT_mk' hx); (case aB => exact below_alloc (Below.refl _ _) _); (case aS => exact (below_alloc (Below.refl W.heap.size W) _).size); (case aL => have h_ := HN.out; have h2_ := HLL.out; simp only [List.length_nil]; omega); intro v7 w7 ho7 hb7 hg7 hat7; rw [List.nil_append] at ho7; obtain ⟨A7, c7, rfl⟩ := Kd.R_slice ho7; have HX := Aside0.mk (And.intro ho7 hb7); clear ho7 hb7 hg7 hat7))
  go_ret
  exact ⟨A7, c7, rfl, HX.out.1, HX.out.2⟩
theorem xdrop_nil (W : World) (k : Int) :
    Calls Try.prog 33 #[.pointer none, .int .i64 k] W fun e W' => e = .returned (.int .i64 0) ∧ Below W.heap.size W W' := by
  obtain ⟨k1, hk1⟩ : ∃ k1, (if (0 : Int) < k then k else 0) = k1 := ⟨_, rfl⟩
  have hkk : 0 ≤ k1 ∧ (k ≤ 0 → k1 = 0) ∧ (0 < k → k1 = k) := by rw [← hk1]; split <;> omega
  have hk2 : (if (0 : Int) < k1 then (0 : Int) else k1) = 0 := by split <;> omega
  clear hkk
  go_enter Try.func33, Try.ntmps33
  go_wp2_with ((go_at_call 37); (with_reducible refine (xlen_nil _).mono ?_); rintro e w1 ⟨rfl, ⟨nd, rfl⟩⟩)
  go_ret
  exact ⟨rfl, (by repeat (first | exact Below.refl _ _ | exact Nat.le_refl _ | exact Nat.le_succ _ | (refine below_alloc ?_ _) | (refine below_set ?_ ?_) | (refine pw_below_drewN ?_ _)))⟩
theorem xdrop_none {w0 W : World} {g : Nat} {most : Int} {v : Value} {gs : List T2} (h : XR w0 W g most v gs) (k : Int) (hk : k ≤ 0 ∨ gs.length = 0) :
    Calls Try.prog 33 #[.pointer (some ⟨g, 0, none⟩), .int .i64 k] W fun e W' => e = .returned (.int .i64 0) ∧ Below W.heap.size W W' := by
  obtain ⟨k1, hk1⟩ : ∃ k1, (if (0 : Int) < k then k else 0) = k1 := ⟨_, rfl⟩
  have hkk : 0 ≤ k1 ∧ (k ≤ 0 → k1 = 0) ∧ (0 < k → k1 = k) := by rw [← hk1]; split <;> omega
  have hk2 : (if (gs.length : Int) < k1 then (gs.length : Int) else k1) = 0 := by split <;> omega
  clear hkk
  have HH := Aside0.mk h
  clear h hk
  have hl := Aside0.mk (fun (W : World) (h : XR w0 W g most v gs) => xlen_calls h)
  generalize gs.length = N at hl hk2
  go_enter Try.func33, Try.ntmps33
  go_wp2_with ((go_at_call 37); (with_reducible refine (hl.out _ HH.out).mono ?_); rintro e w1 ⟨rfl, ⟨nd, rfl⟩⟩)
  go_ret
  exact ⟨rfl, (by repeat (first | exact Below.refl _ _ | exact Nat.le_refl _ | exact Nat.le_succ _ | (refine below_alloc ?_ _) | (refine below_set ?_ ?_) | (refine pw_below_drewN ?_ _)))⟩
set_option maxHeartbeats 8000000 in
set_option maxRecDepth 100000 in
theorem xdrop_calls {w0 W : World} {g : Nat} {most : Int} {v : Value} {gs : List T2} (h : XR w0 W g most v gs) (hm : gs.length ≤ 1048576) (k : Int) (k0 : Nat) (hk : (if (gs.length : Int) < k then (gs.length : Int) else k) = (k0 : Int)) (h0 : 0 < k0) :
    Calls Try.prog 33 #[.pointer (some ⟨g, 0, none⟩), .int .i64 k] W fun e W' => e = .returned (.int .i64 (k0 : Int)) ∧ ∃ v', XR w0 W' g most v' (gs.drop k0) ∧ KeepBut W W' g v.ownBlock ∧ MovedR W v.ownBlock v'.ownBlock := by
  have hk0 : k0 ≤ gs.length := by split at hk <;> omega
  have hp : 0 < gs.length := by omega
  obtain ⟨k1, hk1⟩ : ∃ k1, (if (0 : Int) < k then k else 0) = k1 := ⟨_, rfl⟩
  have hkk : 0 ≤ k1 ∧ (k ≤ 0 → k1 = 0) ∧ (0 < k → k1 = k) := by rw [← hk1]; split <;> omega
  have hk2 : (if (gs.length : Int) < k1 then (gs.length : Int) else k1) = (k0 : Int) := by split <;> split at hk <;> omega
  clear hkk
  have HH := Aside0.mk h
  obtain ⟨g9, c9, hv, hb9, hg9, _⟩ := Kd.R_form h.ow hp
  subst hv
  have hcr := Kd.R_reads' h.ow
  have HCR := Aside0.mk hcr
  have c1 : W.cell? ⟨g, 1, none⟩ = some (.slice (some ⟨g9, 0, none⟩) gs.length c9) := blk_cell h.bk 1
  have hg : g < W.heap.size := blk_lt h.bk
  have HLL := Aside0.mk (And.intro hm (And.intro hk0 hcr.2.1))
  obtain ⟨i0, hi, hzz⟩ := Option.map_eq_some_iff.1 infoT
  simp only [Prod.mk.injEq] at hzz
  have hcu := cutT hi hzz.2.1 (some ⟨g9, 0, none⟩) gs.length c9 k0 hk0
  obtain ⟨A2, hA2⟩ : ∃ A2 : Option Addr, (if c9 = k0 then some ⟨g9, 0, none⟩ else (some ⟨g9, 0, none⟩ : Option Addr).map (·.add (k0 * 2))) = A2 := ⟨_, rfl⟩
  rw [hA2] at hcu
  have hR2 : kT.C W A2 (gs.length - k0) (gs.drop k0) := by
    have h_ := Kd.C_drop hcr.2.2 hk0 hcr.2.1
    rw [show k0 * kT.sz = k0 * 2 from rfl, hA2, List.length_drop] at h_
    exact h_
  have k3 : decide ((k0 : Int) > 0) = true := decide_eq_true (by omega)
  have k4 : decide ((0 : Int) < (k0 : Int)) = true := decide_eq_true (by omega)
  have k5 : decide (0 < k0) = true := decide_eq_true h0
  obtain ⟨N, hN⟩ : ∃ N, gs.length = N := ⟨_, rfl⟩
  rw [hN] at c1 hcu hk2 hR2
  have HN := Aside0.mk hN
  obtain ⟨N2, hN2⟩ : ∃ N2, N - k0 = N2 := ⟨_, rfl⟩
  obtain ⟨c2, hc2⟩ : ∃ c2, c9 - k0 = c2 := ⟨_, rfl⟩
  rw [hN2, hc2] at hcu
  rw [hN2] at hR2
  have HR2 := Aside0.mk hR2
  obtain ⟨ys, hys⟩ : ∃ ys, gs.drop k0 = ys := ⟨_, rfl⟩
  have HY : Aside0 (ys.length ≤ 1048576) := ⟨by rw [← hys, List.length_drop]; omega⟩
  rw [hys] at HR2
  rw [hys]
  have HD := Aside0.mk hg9
  have HC0 := Aside0.mk c1
  have HN2 := Aside0.mk hN2
  clear h hm hk hk0 hp hcr hb9 hg9 hi hzz hA2 hN hN2 hc2 h0 hys hR2
  go_enter Try.func33, Try.ntmps33
  go_wp2_with (first
    | ((go_at_call 37); (with_reducible refine (xlen_calls HH.out).mono ?_); rw [HN.out]; rintro e w1 ⟨rfl, hd⟩; have HW := Aside0.mk hd.below; have HH1 := Aside0.mk (HH.out.below HW.out); have c2' : w1.cell? ⟨g, 1, none⟩ = some (.slice (some ⟨g9, 0, none⟩) N c9) := pw_cell_below HW.out c1; have hg1 : g < w1.heap.size := blk_lt HH1.out.bk; have HWA := Aside0.mk (below_alloc HW.out (.cells #[] 29 (0, 0))); clear hd c1)
    | ((with_reducible refine gate_builtin (b := .append) (xs := #[.tmp 13, .tmp 19]) rfl ?_); at_builtin; refine Kd.R_append_rows kT (Rr := kT.K W) (w0 := w0) w0.heap.size rfl (.tmp 13) (.tmp 19) 55 29 (.agg #[.int .i64 0, .int .i64 0]) 16 rfl Try.underlying55 infoT rfl (by decide) (by omega) (.slice (some ⟨w1.heap.size, 0, none⟩) 0 0) ([] : List T2) ys A2 N2 c2 (fun _ => True) (fun _ => False) rfl rfl ?aO ?aR ?aM (fun _ h => h.elim) (fun _ _ => trivial) ?aB ?aS ?aL ?_; (case aO => exact empty_own w1 w0 (below_size HH1.out.bl)); (case aR => exact (Kd.C_below HR2.out HWA.out).imp_ (Below.refl _ _) (fun _ _ hp => kT_any hp)); (case aM => exact fun x cs hx => kT_mk' hx); (case aB => exact below_step HH.out.bl HWA.out); (case aS => exact below_size (below_step HH.out.bl HWA.out)); (case aL => have h_ := HY.out; have h2_ := HN.out; have h3_ := HLL.out; have h4_ := HN2.out; simp only [List.length_nil]; omega); intro v7 w7 ho7 hb7 hg7 hat7; rw [List.nil_append] at ho7; obtain ⟨A7, c7, rfl⟩ := Kd.R_slice ho7; have HB7 := Aside0.mk (pw_below_grown HWA.out _ HWA.out.size hg7 (fun k hk => by cases hk; exact HW.out.size)); have hx := XR.stored HH.out hb7 HB7.out.size (fun i hi _ => HB7.out.block i hi) ho7; have hm : MovedR W (Value.slice (some ⟨g9, 0, none⟩) gs.length c9).ownBlock (Value.slice A7 ys.length c7).ownBlock := .inr (by rcases hat7 with h_ | ⟨k, h_, h2_⟩; exact ⟨w1.heap.size, h_, HW.out.size⟩; exact ⟨k, h_, Nat.le_trans HWA.out.size h2_⟩); have HX := Aside0.mk (And.intro hx.1 (And.intro hx.2 hm)); have hb := blk_below HH.out.bk HB7.out; have c0' := blk_cell hb 1; have f0' := blk_frozen hb 1; have hgl := blk_lt hb; clear c2' ho7 hb7 hg7 hat7 hx hm hb))
  go_ret
  exact ⟨rfl, _, HX.out⟩
end Go.Proofs.Ytekjkookkjjbcaa.RR
