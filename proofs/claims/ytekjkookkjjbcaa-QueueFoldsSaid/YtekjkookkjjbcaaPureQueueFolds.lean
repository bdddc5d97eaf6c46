/- QueueFolds: what a ring's things come to, from the first on (walked by hand). -/
import Derived.Test.YtekjkookkjjbcaaFoldsC
namespace Go.Proofs.Ytekjkookkjjbcaa.Pure
set_option linter.unusedVariables false
set_option linter.unusedSimpArgs false
set_option linter.unusedVariables false
set_option linter.unusedSimpArgs false
open Go.RowKit Go.Proofs.YtekjkookkjjbcaaW.PrintWords Go.Proofs.YtekjkookkjjbcaaW.PrintLast Go.Proofs.YtekjkookkjjbcaaW.PrintMore Go.Proofs.Ytekjkookkjjbcaa.B Go.Proofs.Ytekjkookkjjbcaa.M Go.Proofs.Ytekjkookkjjbcaa.RI Go.Proofs.Ytekjkookkjjbcaa.RR Go.Proofs.Ytekjkookkjjbcaa.EA Go.Proofs.Ytekjkookkjjbcaa.FL
open Go.Proofs.Ytekjkookkjjbcaa.RH (T2 d2 kT RT MovedR C_cells)
abbrev beginS : ByteArray := ⟨#[98, 101, 103, 105, 110]⟩
theorem fold_none (rp : Option Addr) (w : World) (hr : RowOf w rp []) :
    Calls Try.prog 36 #[.pointer rp, .string beginS, .func (.func 35) #[] #[]] w fun e W' => e = .returned (.string beginS) ∧ Below w.heap.size w W' :=
  fold_calls rp beginS [] w hr (by decide)
theorem fold_one (rp : Option Addr) (w : World) (hr : RowOf w rp [25]) :
    Calls Try.prog 36 #[.pointer rp, .string ⟨#[120]⟩, .func (.func 35) #[] #[]] w fun e W' => e = .returned (.string ⟨#[120, 122]⟩) ∧ Below w.heap.size w W' := by
  have := fold_calls rp ⟨#[120]⟩ [25] w hr (by decide)
  rw [show foldV ⟨#[120]⟩ [25] = ⟨#[120, 122]⟩ by decide +kernel] at this
  exact this
set_option maxHeartbeats 8000000 in
set_option maxRecDepth 100000 in
theorem folds_good (most : Int) (a1 : Option Addr) (n cap1 : Nat) (drop : Int) (w : World) (f : Nat → Int) (hn : n ≤ 17592186044416) (hd : (Lit.int .i64 drop).wf = true)
    (h1 : ∀ i, i < n → ∃ x, a1 = some x ∧ w.cell? (x.add i) = some (.int .i64 (f i))) :
    Calls Try.prog 6 #[.int .i64 most, .slice a1 n cap1, .int .i64 drop] w fun e w' => e = .returned (.bool true) ∧ Below w.heap.size w w' := by
  have H1 := Aside0.mk h1
  have HN := Aside0.mk hn
  have HD := Aside0.mk hd
  clear h1 hn hd
  go_enter Try.func6, Try.ntmps6
  go_wp2_with (first
    | ((go_at_call 25); (with_reducible refine (l_new (w := w) (Below.refl _ _) most).mono ?_); rintro e w1 ⟨rp, rfl, hn⟩; have HR := Aside0.mk hn; clear hn)
    | ((go_at_call 30); (with_reducible refine (l_xnew HR.out).mono ?_); rintro e w2 ⟨xp, rfl, hs, hb⟩; have HS := Aside0.mk hs; obtain ⟨c, hc⟩ : ∃ c, newC most = c := ⟨_, rfl⟩; rw [hc]; clear hs HR hc))
  go_loopg [43] (n + 1) (fun kq v43 W => ∃ (i : Nat) (ys : List Int), v43 = .int .i64 (i : Int) ∧ Aside0 (n - i < kq ∧ i ≤ n) ∧ Aside0 (ST w W rp xp most ys (both ys)))
  case atStart => exact ⟨0, [], rfl, ⟨by omega, by omega⟩, HS⟩
  case round =>
    clear HS
    obtain ⟨i, ys, rfl, HI, HS⟩ := hrel
    by_cases hlt : i < n
    · have hl2 : decide ((i : Int) < (n : Int)) = true := decide_eq_true (by omega)
      have hl3 : decide (i < n) = true := decide_eq_true hlt
      obtain ⟨x, rfl, x0⟩ := H1.out i hlt
      have c0 := pw_cell_below HS.out.bl x0
      have p1 := eq_true (show (0 : Int) ≤ (i : Int) by omega)
      have p2 := eq_true (show (i : Int) < (n : Int) by omega)
      have q1 : IntKind.i64.wrap ((i : Int) + 1) = ((i + 1 : Nat) : Int) := by have h_ := HI.out; have h2_ := HN.out; rw [i64_w, wrap_id _ (by omega) (by omega)]; rfl
      cases gk with
      | zero => exact absurd HI.out.1 (Nat.not_lt_zero _)
      | succ k9 =>
      have HI2 := Aside0.mk (show n - (i + 1) < k9 ∧ i + 1 ≤ n from ⟨by have h_ := HI.out; omega, by omega⟩)
      obtain ⟨y, hy⟩ : ∃ y, f i = y := ⟨_, rfl⟩
      rw [hy] at c0
      have HL : Aside0 ((both ys).length ≤ 1048576) := ⟨by rw [both_len]; exact HS.out.len⟩
      clear x0 hlt hy
      obtain ⟨zs, hzs⟩ : ∃ zs, pushL most ys y = zs := ⟨_, rfl⟩
      have HZ := Aside0.mk hzs
      clear hzs
      by_cases hd : (i : Int) = drop
      · have e1 : decide ((i : Int) = drop) = true := decide_eq_true hd
        have e2 : ((i : Int) == drop) = true := beq_iff_eq.2 hd
        clear hd
        go_wp2_with (first
          | ((go_at_call 27); (with_reducible refine (l_push HS.out y).mono ?_); rintro e w3 ⟨c3, rfl, hs⟩; have HS3 := Aside0.mk hs; clear hs)
          | ((go_at_call 31); (with_reducible refine (l_xpush HS3.out HL.out y 0).mono ?_); rintro e w4 ⟨c4, rfl, hs⟩; rw [both_push, HZ.out] at hs; have HS4 := Aside0.mk hs; clear hs))
        go_wp2_with (first
          | ((go_at_call 32); (with_reducible refine (l_drop HS4.out _).mono ?_); rintro e w5 ⟨c5, rfl, hs⟩; have HS5 := Aside0.mk hs; clear hs)
          | ((go_at_call 33); (with_reducible refine (l_xdrop HS5.out (by rw [both_len]; exact HS4.out.len) _).mono ?_); rintro e w6 ⟨c6, rfl, hs⟩; rw [both_drop] at hs; have HS6 := Aside0.mk hs; clear hs))
        go_roundg k9
        case measure => omega
        case rel => exact ⟨i + 1, _, rfl, HI2, HS6⟩
      · have e1 : decide ((i : Int) = drop) = false := decide_eq_false hd
        have e2 : ((i : Int) == drop) = false := beq_eq_false_iff_ne.2 hd
        clear hd
        go_wp2_with (first
          | ((go_at_call 27); (with_reducible refine (l_push HS.out y).mono ?_); rintro e w3 ⟨c3, rfl, hs⟩; have HS3 := Aside0.mk hs; clear hs)
          | ((go_at_call 31); (with_reducible refine (l_xpush HS3.out HL.out y 0).mono ?_); rintro e w4 ⟨c4, rfl, hs⟩; rw [both_push, HZ.out] at hs; have HS4 := Aside0.mk hs; clear hs))
        go_roundg k9
        case measure => omega
        case rel => exact ⟨i + 1, zs, rfl, HI2, HS4⟩
    · have hl2 : decide ((i : Int) < (n : Int)) = false := decide_eq_false (by omega)
      have hl3 : decide (i < n) = false := decide_eq_false hlt
      clear hlt HI
      have HL : Aside0 ((both ys).length ≤ 1048576) := ⟨by rw [both_len]; exact HS.out.len⟩
      obtain ⟨gs, hgs⟩ : ∃ gs, both ys = gs := ⟨_, rfl⟩
      have HG := Aside0.mk hgs
      rw [hgs] at HS HL
      clear hgs
      go_wp2_with (first
        | ((go_at_call 34); (with_reducible refine (l_xrow HS.out HL.out).mono ?_); rintro e w3 ⟨A, cA, rfl, ho, hb⟩; have HO := Aside0.mk ho; have HS3 := Aside0.mk (HS.out.below hb); obtain ⟨N, hN⟩ : ∃ N, gs.length = N := ⟨_, rfl⟩; rw [hN]; have HNG := Aside0.mk hN; clear ho hb hN))
      have HNY : Aside0 (N = ys.length ∧ ys.length ≤ 1048576) := ⟨by rw [← HNG.out, ← HG.out, both_len], HS.out.len⟩
      clear HS
      go_loopg [71, 14] (N + 1) (fun kq v71 v14 W => ∃ (j : Nat), v71 = .int .i64 (j : Int) ∧ v14 = .string (foldV beginS (ys.take j)) ∧ Aside0 (N - j < kq ∧ j ≤ N) ∧ Aside0 (Below w3.heap.size w3 W))
      case atStart => exact ⟨0, rfl, by rw [List.take_zero]; rfl, ⟨by omega, by omega⟩, ⟨Below.refl _ _⟩⟩
      case round =>
        obtain ⟨j, rfl, rfl, HJ, HB3⟩ := hrel
        by_cases hlt : j < N
        · cases gk with
          | zero => exact absurd HJ.out.1 (Nat.not_lt_zero _)
          | succ k9 =>
          have hl2 : decide ((j : Int) < (N : Int)) = true := decide_eq_true (by omega)
          have hl3 : decide (j < N) = true := decide_eq_true hlt
          have p1 := eq_true (show (0 : Int) ≤ (j : Int) by omega)
          have p2 := eq_true (show (j : Int) < (N : Int) by omega)
          have q1 : IntKind.i64.wrap ((j : Int) + 1) = ((j + 1 : Nat) : Int) := by have h_ := HNY.out; rw [i64_w, wrap_id _ (by omega) (by omega)]; rfl
          have HJ2 := Aside0.mk (show N - (j + 1) < k9 ∧ j + 1 ≤ N from ⟨by have h_ := HJ.out; omega, by omega⟩)
          have ho3 := Kd.R_below HO.out HB3.out
          obtain ⟨g9, c9, hv, _⟩ := Kd.R_form ho3 (by rw [HNG.out]; omega)
          injection hv with hv1 hv2 hv3
          subst hv1
          have hcl := C_cells (Kd.R_reads' ho3).2.2 j (by rw [HNG.out]; exact hlt)
          have hgj : gs.getD j d2 = (ys.getD j 0, 0) := by
            have hj2 : j < ys.length := by have h_ := HNY.out; omega
            rw [← HG.out]
            simp [both, List.getD_eq_getElem?_getD, hj2]
          rw [hgj] at hcl
          have i1 := hcl.1
          have i2 := hcl.2
          have hts : foldV beginS (ys.take (j + 1)) = addV (foldV beginS (ys.take j)) (ys.getD j 0) := by
            have hj2 : j < ys.length := by have h_ := HNY.out; omega
            rw [← foldV_snoc, List.getD_eq_getElem?_getD, List.getElem?_eq_getElem hj2, Option.getD_some, List.take_append_getElem]
          have hsz : (foldV beginS (ys.take j)).size ≤ 4611686018427387904 := by
            have h_ := HNY.out
            rw [foldV_size, List.length_take]
            have : beginS.size = 5 := rfl
            omega
          obtain ⟨sv, hsv⟩ : ∃ sv, foldV beginS (ys.take j) = sv := ⟨_, rfl⟩
          obtain ⟨y, hy⟩ : ∃ y, ys.getD j 0 = y := ⟨_, rfl⟩
          rw [hsv] at hts hsz
          rw [hy] at hts i1
          rw [hsv]
          have HTS := Aside0.mk hts
          have HSZ := Aside0.mk hsz
          have hb := blk_lt (heap_alloc_new wr (.cells #[.int .i64 y, .int .i64 0] 29 (0, 0)))
          clear hcl hgj ho3 hts hsz hsv hy hlt hv2 hv3
          go_wp2_with (first
            | ((go_at_call 35); (with_reducible refine (add_calls _ _ _ HSZ.out).mono ?_); rintro e w4 ⟨rfl, hb4⟩; have HB4 := Aside0.mk (below_step (below_alloc HB3.out (.cells #[.int .i64 y, .int .i64 0] 29 (0, 0))) hb4); clear hb4))
          go_roundg k9
          case measure => omega
          case rel => exact ⟨j + 1, rfl, by rw [HTS.out], HJ2, HB4⟩
        · have hl2 : decide ((j : Int) < (N : Int)) = false := decide_eq_false (by omega)
          have hl3 : decide (j < N) = false := decide_eq_false hlt
          have hjN : foldV beginS (ys.take j) = foldV beginS ys := by
            have h_ := HJ.out
            have h2_ := HNY.out
            rw [List.take_of_length_le (by omega)]
          rw [hjN]
          have HS4 := Aside0.mk (HS3.out.below HB3.out)
          have HLG : Aside0 (gs.length = ys.length) := ⟨by rw [HNG.out, HNY.out.1]⟩
          obtain ⟨sv, hsv⟩ : ∃ sv, foldV beginS ys = sv := ⟨_, rfl⟩
          rw [hsv]
          have HSV := Aside0.mk hsv
          clear hjN hlt hsv
          go_wp2_with (first
            | ((go_at_call 25); (with_reducible refine (new_q wr _ (Below.refl _ _) 1 (by decide)).mono ?_); rintro e w5 ⟨g1, rfl, hq, _, _⟩; have HQ1 := Aside0.mk hq; clear hq)
            | ((go_at_call 27); (with_reducible refine (push_q HQ1.out 25 (by decide)).mono ?_); rintro e w6 ⟨rfl, b6, hq, _, _⟩; have hq2 := hq.below (below_alloc (Below.refl _ _) (.cells #[.int .i64 0, .slice none 0 0, .int .i64 0, .int .i64 0] 59 (0, 0))); have HQ2 := Aside0.mk hq2; have HS6 := Aside0.mk (HS4.out.below hq2.bl); have HZ0 := Aside0.mk (RowOf.zero (show RB _ _ _ _ _ _ from heap_alloc_new w6 (.cells #[.int .i64 0, .slice none 0 0, .int .i64 ((0 : Nat) : Int), .int .i64 ((0 : Nat) : Int)] 59 (0, 0)))); have HB := Aside0.mk (Below.refl (w6.alloc (.cells #[.int .i64 0, .slice none 0 0, .int .i64 0, .int .i64 0] 59 (0, 0))).heap.size (w6.alloc (.cells #[.int .i64 0, .slice none 0 0, .int .i64 0, .int .i64 0] 59 (0, 0)))); clear hq hq2)
            | ((go_at_call 36); (with_reducible refine (fold_none none _ (RowOf.nil _)).mono ?_); rintro e w7 ⟨rfl, hb⟩; have n0 := Aside0.mk (below_step HB.out hb); clear HB hb; have HB := n0; clear n0)
            | ((go_at_call 36); (with_reducible refine (fold_none _ _ (HZ0.out.below HB.out)).mono ?_); rintro e w8 ⟨rfl, hb⟩; have n0 := Aside0.mk (below_step HB.out hb); clear HB hb; have HB := n0; clear n0)
            | ((go_at_call 36); (with_reducible refine (fold_nil_calls _ _ _).mono ?_); rintro e w9 ⟨rfl, hb⟩; have n0 := Aside0.mk (below_step HB.out hb); clear HB hb; have HB := n0; clear n0)
            | ((go_at_call 36); (with_reducible refine (fold_calls _ _ _ _ (HS6.out.below HB.out).row (by decide)).mono ?_); rw [HSV.out]; rintro e w10 ⟨rfl, hb⟩; have n0 := Aside0.mk (below_step HB.out hb); clear HB hb; have HB := n0; clear n0)
            | ((go_at_call 36); (with_reducible refine (fold_one _ _ (RowOf.ring (HQ2.out.below HB.out))).mono ?_); rintro e w11 ⟨rfl, hb⟩; have n0 := Aside0.mk (below_step HB.out hb); clear HB hb; have HB := n0; clear n0)
            | ((go_at_call 29); (with_reducible refine (l_len (HS6.out.below HB.out)).mono ?_); rintro e w12 ⟨rfl, hb⟩; have n0 := Aside0.mk (below_step HB.out hb); clear HB hb; have HB := n0; clear n0)
            | ((go_at_call 37); (with_reducible refine (l_xlen (HS6.out.below HB.out)).mono ?_); rw [HLG.out]; rintro e w13 ⟨rfl, hb⟩; have n0 := Aside0.mk (below_step HB.out hb); clear HB hb; have HB := n0; clear n0))
          go_ret
          exact ⟨by first | rfl | simp, below_step HS6.out.bl HB.out⟩
theorem QueueFolds (a0 : Int) (a1 : Option Addr) (len1 cap1 : Nat) (z1 : List Int) (a2 : Int) (w : World) (w0 : (Lit.int .i64 a0).wf = true)
    (w1 : (a1 = none ∧ len1 = 0 ∧ cap1 = 0 ∧ z1 = []) ∨ ∃ x, a1 = some x ∧ len1 ≤ cap1 ∧ cap1 ≤ maxLen ∧ z1.length = cap1 ∧ (∀ i, i < z1.length → w.cell? (x.add i) = some (.int .i64 (z1.getD i 0))) ∧ ∀ n ∈ z1, (Lit.int .i64 n).wf = true) (_y1 : len1 * 8 ≤ 140737488351232) (w2 : (Lit.int .i64 a2).wf = true) :
    Calls Try.prog 6 #[.int .i64 a0, .slice a1 len1 cap1, .int .i64 a2] w fun e w' => e = .returned (.bool true) ∧ Below w.heap.size w w' := by
  refine folds_good a0 a1 len1 cap1 a2 w (fun i => z1.getD i 0) (by omega) w2 ?_
  intro i hi
  rcases w1 with ⟨_, rfl, _⟩ | ⟨x, e, h1, h2, h3, h4, _⟩
  · omega
  · exact ⟨x, e, h4 i (by omega)⟩
end Go.Proofs.Ytekjkookkjjbcaa.Pure
