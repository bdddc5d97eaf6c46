/- The heap of things: Push (walked by hand). -/
import Derived.Test.YtekjkookkjjbcaaHeapD
namespace Go.Proofs.Ytekjkookkjjbcaa.HW
set_option linter.unusedVariables false
set_option linter.unusedSimpArgs false
set_option linter.unusedVariables false
set_option linter.unusedSimpArgs false
open Go.RowKit Go.Proofs.YtekjkookkjjbcaaW.PrintWords Go.Proofs.YtekjkookkjjbcaaW.PrintLast Go.Proofs.YtekjkookkjjbcaaW.PrintMore Go.Proofs.Ytekjkookkjjbcaa.B Go.Proofs.Ytekjkookkjjbcaa.M Go.Proofs.Ytekjkookkjjbcaa.HeapP
theorem HL.start {w0 V W2 w7 : World} {g K g9 c9 : Nat} {c : Int → Int → Int} {came : Int} {v : Value} {xs ys : List T3} (h : HG w0 V g K c came v xs) (hb : Below V.heap.size V W2) (ho : O3 w7 w0.heap.size g9 c9 ys) (hg : W2.grownBy w7 v.ownBlock) (hat : some g9 = v.ownBlock ∨ ∃ b, some g9 = some b ∧ W2.heap.size ≤ b) :
    HL w0 V (w7.setCell ⟨g, 1, none⟩ (.slice (some ⟨g9, 0, none⟩) ys.length c9)) g K came g9 c9 v.ownBlock ys := by
  have hne : some g ≠ v.ownBlock := Kd.R_ne h.ow h.bk (by decide)
  have b2 : HB W2 g (.func (.func K) #[] #[]) v came := blk_below h.bk hb
  have b7 : HB w7 g (.func (.func K) #[] #[]) v came := (hg.block g (blk_lt b2) hne).trans b2
  have hng : g ≠ g9 := fun e => by
    obtain ⟨cur, hh, _⟩ := ho.blk
    unfold HB at b7
    rw [e, hh] at b7
    injection b7 with b7
    injection b7 with _ b7
    exact absurd b7 (by decide)
  have hl2 := below_step h.bl hb
  have hl7 : Below w0.heap.size w0 w7 := pw_below_grown hl2 _ (below_size hl2) hg (fun k hk => Kd.R_base h.ow k hk)
  refine ⟨blk_put b7 1 _ rfl, h.gg, below_set hl7 h.gg, ?_, ?_, ?_⟩
  · exact ho.keep (Below.heap_setCell _ ⟨g, 1, none⟩ _ g9 (fun e => hng e.symm))
  · have k1 : KeepBut V w7 g v.ownBlock := ⟨Nat.le_trans hb.size hg.size, fun i hi h1 h2 => (hg.block i (Nat.lt_of_lt_of_le hi hb.size) h2).trans (hb.block i hi)⟩
    refine ⟨Nat.le_trans k1.1 (by simp [World.setCell]), fun i hi h1 h2 => ?_⟩
    rw [Below.heap_setCell _ ⟨g, 1, none⟩ _ i h1]
    exact k1.2 i hi h1 h2
  · rcases hat with hat | ⟨b, hb1, hb2⟩
    · exact .inl hat.symm
    · injection hb1 with hb1
      exact .inr (by have := hb.size; omega)
theorem HL.came {w0 V W : World} {g K g9 c9 : Nat} {came : Int} {b0 : Option Nat} {xs : List T3} (h : HL w0 V W g K came g9 c9 b0 xs) (n : Int) : HL w0 V (W.setCell ⟨g, 2, none⟩ (.int .i64 n)) g K n g9 c9 b0 xs :=
  ⟨blk_put h.bk 2 _ rfl, h.gg, below_set h.bl h.gg, h.ow.keep (Below.heap_setCell _ ⟨g, 2, none⟩ _ g9 (fun e => h.ne e.symm)), ⟨Nat.le_trans h.kp.1 (by simp [World.setCell]), fun i hi h1 h2 => by rw [Below.heap_setCell _ ⟨g, 2, none⟩ _ i h1]; exact h.kp.2 i hi h1 h2⟩, h.at9⟩
theorem HL.drew {w0 V W : World} {g K g9 c9 : Nat} {came : Int} {b0 : Option Nat} {xs : List T3} (h : HL w0 V W g K came g9 c9 b0 xs) : HL w0 V W.drew g K came g9 c9 b0 xs := h.below (pw_below_drewN (Below.refl _ _) 1)
theorem kW_mk' {w w' : World} {base : Nat} {ok : Nat → Prop} {x : T3} {cs : List Value} (h : kW.K w x cs) : kW.M w' base ok x cs := by
  obtain ⟨_, _, rfl, h1, _, _, rfl, h2, h3⟩ := h
  exact ⟨_, _, rfl, h1, _, _, rfl, h2, h3⟩
/-- The row's block stays, or is new (a heap's). -/
def MovedH (W : World) (b b' : Option Nat) : Prop := b' = b ∨ ∃ j, b' = some j ∧ W.heap.size ≤ j
set_option maxHeartbeats 8000000 in
set_option maxRecDepth 100000 in
theorem push_h {w0 W : World} {g K : Nat} {c : Int → Int → Int} {came : Int} {v : Value} {xs : List T3} (h : HG w0 W g K c came v xs) (hA : AheadBy K c) (hO : Orders c) (hc0 : 0 ≤ came ∧ came < 4611686018427387904) (hl : xs.length < 1048576) (a b : Int)
    (hnf : ∀ W, (binOp .eql 30 (.func (.func K) #[] #[]) .nilFunc).run Try.prog W = .ok (.bool false) W) :
    Calls Try.prog 15 #[.pointer (some ⟨g, 0, none⟩), .agg #[.int .i64 a, .int .i64 b]] W fun e W' => e = .returned (.int .i64 0) ∧ ∃ v' ys, HG w0 W' g K c (came + 1) v' ys ∧ ys.Perm (xs ++ [(a, b, came)]) ∧ KeepBut W W' g v.ownBlock ∧ MovedH W v.ownBlock v'.ownBlock := by
  obtain ⟨A, cc, rfl⟩ := Kd.R_slice h.ow
  have HG' := Aside0.mk h
  have HAB := Aside0.mk (fun W g g9 c9 base came xs i k h1 h2 h3 h4 => hA W g g9 c9 base came xs i k h1 h2 h3 h4)
  have HO := Aside0.mk hO
  have HC := Aside0.mk hc0
  have HLL := Aside0.mk hl
  have c0 : W.cell? ⟨g, 0, none⟩ = some (.func (.func K) #[] #[]) := blk_cell h.bk 0
  have c1 : W.cell? ⟨g, 1, none⟩ = some (.slice A xs.length cc) := blk_cell h.bk 1
  have c2 : W.cell? ⟨g, 2, none⟩ = some (.int .i64 came) := blk_cell h.bk 2
  have hg : g < W.heap.size := blk_lt h.bk
  have k1 : decide ((xs.length : Int) ≥ 1048576) = false := decide_eq_false (by omega)
  have k2 : decide ((1048576 : Int) ≤ (xs.length : Int)) = false := decide_eq_false (by omega)
  have k3 : decide (1048576 ≤ xs.length) = false := decide_eq_false (by omega)
  obtain ⟨ys, hys⟩ : ∃ ys, xs ++ [((a, b, came) : T3)] = ys := ⟨_, rfl⟩
  have hyl : ys.length = xs.length + 1 := by rw [← hys, List.length_append]; rfl
  have HY := Aside0.mk hys
  have HYL := Aside0.mk hyl
  obtain ⟨N, hN⟩ : ∃ N, xs.length = N := ⟨_, rfl⟩
  rw [hN] at c1 k1 k2 k3
  have HN := Aside0.mk hN
  have q1 : IntKind.i64.wrap (came + 1) = came + 1 := by rw [i64_w, wrap_id _ (by omega) (by omega)]
  have q2 : IntKind.i64.wrap ((ys.length : Int) - 1) = (N : Int) := by rw [i64_w, wrap_id _ (by omega) (by omega)]; omega
  clear h hA hO hc0 hl hys hyl hN
  go_enter Try.func15, Try.ntmps15
  have hn := hnf (W.alloc (.cells #[.int .i64 a, .int .i64 b] 29 (0, 0)))
  clear hnf
  go_upto_region 5 with (fail)
  clear hn c0 k1 k2 k3
  have HW := Aside0.mk (below_alloc (Below.refl W.heap.size W) (.cells #[.int .i64 a, .int .i64 b] 29 (0, 0)))
  have HN' := Aside0.mk (heap_alloc_new W (.cells #[.int .i64 a, .int .i64 b] 29 (0, 0)))
  obtain ⟨WB, hWB⟩ : ∃ WB, W.alloc (.cells #[.int .i64 a, .int .i64 b] 29 (0, 0)) = WB := ⟨_, rfl⟩
  rw [hWB] at HW HN'
  rw [hWB]
  obtain ⟨pb, hpb⟩ : ∃ pb, W.heap.size = pb := ⟨_, rfl⟩
  have HPB := Aside0.mk hpb
  rw [hpb] at HN'
  rw [hpb]
  have b0 : WB.cell? ⟨pb, 0, none⟩ = some (.int .i64 a) := blk_cell HN'.out 0
  have b1 : WB.cell? ⟨pb, 1, none⟩ = some (.int .i64 b) := blk_cell HN'.out 1
  replace c1 := below_keep HW.out c1
  replace c2 := below_keep HW.out c2
  clear hWB hg hpb
  have hpb : pb < WB.heap.size := blk_lt HN'.out
  have hg : g < WB.heap.size := by have h_ := HW.out.size; have h2_ := blk_lt HG'.out.bk; omega
  have HQ1 := Aside0.mk q1
  have HQ2 := Aside0.mk q2
  clear q1 q2
  go_cut [] from 21 to 67 (fun wx => ∃ g9 c9, Aside0 (HL w0 W wx g K came g9 c9 (Value.slice A xs.length cc).ownBlock ys))
  case first =>
    go_region_law (first
      | (refine Kd.R_append_rows_step kW (Rr := kW.K WB) (w0 := w0) w0.heap.size (by kernel_rfl) (.tmp 25) (.tmp 32) 95 101 (.agg #[.int .i64 0, .int .i64 0, .int .i64 0]) 24 rfl Try.underlying95 infoW rfl (by decide) (by omega) (.slice A N cc) xs [(a, b, came)] (some ⟨WB.heap.size, 0, none⟩) 1 1 (fun _ => True) (fun _ => False) (by kernel_rfl) (by kernel_rfl) ?aO ?aR ?aM (fun _ h => h.elim) (fun _ _ => trivial) ?aB ?aS ?aL ?_; (case aO => rw [← HN.out]; exact Kd.R_below HG'.out.ow (below_alloc (pw_below_drewN HW.out _) _)); (case aR => exact lit3_own (WB.drewN _) (a, b, came)); (case aM => exact fun x cs hx => kW_mk' hx); (case aB => exact below_step HG'.out.bl (below_alloc (pw_below_drewN HW.out _) _)); (case aS => exact below_size (below_step HG'.out.bl (below_alloc (pw_below_drewN HW.out _) _))); (case aL => have h_ := HN.out; have h2_ := HLL.out; omega); intro v7 w7 ho7 hb7 hg7 hat7; rw [HY.out] at ho7; obtain ⟨g9, c9, rfl, ho⟩ := RW.o3 ho7 (by have h_ := HYL.out; omega); have b7 : HB w7 g (.func (.func K) #[] #[]) (.slice A xs.length cc) came := (hg7.block g (blk_lt (blk_below HG'.out.bk (below_alloc (pw_below_drewN HW.out _) _))) (by rw [← HN.out]; exact Kd.R_ne HG'.out.ow HG'.out.bk (by decide))).trans (blk_below HG'.out.bk (below_alloc (pw_below_drewN HW.out _) _)); have c1' := blk_cell b7 1; have c2' := blk_cell b7 2; have f1' := blk_frozen b7 1; have f2' := blk_frozen b7 2; rw [← HN.out] at hg7 hat7; have HH := Aside0.mk (HL.start HG'.out (below_alloc (pw_below_drewN HW.out _) _) ho hg7 hat7); clear c1 c2 ho7 hb7 hg7 hat7 ho b7))
    all_goals go_wp2_with (fail)
    all_goals go_meet
    all_goals first
      | exact ⟨_, _, HH⟩
      | exact ⟨_, _, ⟨HH.out.drew⟩⟩
  case rest =>
    obtain ⟨g9, c9, HH⟩ := hcut
    have c1 := blk_cell HH.out.bk 1
    have c2 := blk_cell HH.out.bk 2
    have f2 := blk_frozen HH.out.bk 2
    have q1 := HQ1.out
    have q2 := HQ2.out
    go_wp2_with (fail)
    clear c1 c2 f2 q1 q2
    have HH2 := Aside0.mk (HH.out.came (came + 1))
    clear HH
    have HU : Aside0 (UpInv (leW c) d3 ys N) := ⟨by rw [← HY.out, ← HN.out]; exact up_start (leW c) d3 xs (a, b, came) HG'.out.hp⟩
    go_loopg [5] (N + 1) (fun kq v5 W2 => ∃ (i : Nat) (zs : List T3), v5 = .int .i64 (i : Int) ∧ Aside0 (i < kq ∧ zs.length = ys.length ∧ i ≤ N) ∧ Aside0 (HL w0 W W2 g K (came + 1) g9 c9 (Value.slice A xs.length cc).ownBlock zs) ∧ Aside0 (zs.Perm ys ∧ UpInv (leW c) d3 zs i))
    case atStart => exact ⟨N, ys, rfl, ⟨by omega, rfl, Nat.le_refl _⟩, HH2, ⟨List.Perm.refl _, HU.out⟩⟩
    case round =>
      clear HH2 HU
      obtain ⟨i, zs, rfl, HI, HL, HU⟩ := hrel
      by_cases h0 : i = 0
      · subst h0
        go_wp2_with (fail)
        go_ret
        exact ⟨rfl, _, zs, HL.out.toG (by rw [HI.out.2.1, HYL.out]; have h_ := HLL.out; omega) (up_done (leW c) d3 HU.out.2 (.inl rfl)), by rw [HY.out]; exact HU.out.1, HL.out.kp, HL.out.at9.elim (fun e => .inl e.symm) (fun e => .inr ⟨_, rfl, e⟩)⟩
      · obtain ⟨j, hij⟩ : ∃ j, i = j + 1 := ⟨i - 1, by omega⟩
        have hiN : i < 1048576 := by have h_ := HI.out.2.2; have h2_ := HN.out; have h3_ := HLL.out; omega
        have HIJ := Aside0.mk hij
        obtain ⟨p, hp⟩ : ∃ p, j / 2 = p := ⟨_, rfl⟩
        have hpz : p < zs.length ∧ i < zs.length := by have h_ := HU.out.2.lt; omega
        have k1 : decide ((i : Int) > 0) = true := decide_eq_true (by omega)
        have k2 : decide (0 < (i : Int)) = true := decide_eq_true (by omega)
        have k3 : decide (0 < i) = true := decide_eq_true (by omega)
        have q3 : IntKind.i64.wrap ((i : Int) - 1) = (j : Int) := by rw [i64_w, wrap_id _ (by omega) (by omega)]; omega
        have q4 : Int.tdiv (j : Int) 2 = (p : Int) := by rw [← hp]; rfl
        have q5 : (j : Int) / 2 = (p : Int) := by rw [← hp]; rfl
        have q6 : IntKind.i64.wrap (p : Int) = (p : Int) := by rw [i64_w, wrap_id _ (by omega) (by omega)]
        have hpi : (i - 1) / 2 = p := by rw [hij]; exact hp
        have HP := Aside0.mk hpi
        have HPZ := Aside0.mk hpz
        have HI3 := Aside0.mk (show p < i ∧ 0 < i from ⟨by omega, by omega⟩)
        clear hij hp hpz hiN hpi h0
        cases gk with
        | zero => exact absurd HI.out.1 (Nat.not_lt_zero _)
        | succ k9 =>
        obtain ⟨t, ht⟩ : ∃ t, aheadB c (zs.getD i d3) (zs.getD p d3) = t := ⟨_, rfl⟩
        have HT := Aside0.mk ht
        clear ht
        cases t with
        | false =>
          go_wp2_with (first
            | ((go_at_call 70); (with_reducible refine (HAB.out _ _ _ _ _ _ zs i p HL.out.bk HL.out.ow HPZ.out.2 HPZ.out.1).mono ?_); rw [HT.out]; rintro e w3 ⟨rfl, hb⟩; have n0 := Aside0.mk (HL.out.below hb); clear HL hb; have HL := n0; clear n0))
          go_ret
          exact ⟨rfl, _, zs, HL.out.toG (by rw [HI.out.2.1, HYL.out]; have h_ := HLL.out; omega) (up_done (leW c) d3 HU.out.2 (.inr (by rw [HP.out]; exact HT.out))), by rw [HY.out]; exact HU.out.1, HL.out.kp, HL.out.at9.elim (fun e => .inl e.symm) (fun e => .inr ⟨_, rfl, e⟩)⟩
        | true =>
          go_wp2_with (first
            | ((go_at_call 70); (with_reducible refine (HAB.out _ _ _ _ _ _ zs i p HL.out.bk HL.out.ow HPZ.out.2 HPZ.out.1).mono ?_); rw [HT.out]; rintro e w3 ⟨rfl, hb⟩; have n0 := Aside0.mk (HL.out.below hb); clear HL hb; have HL := n0; clear n0)
            | ((go_at_call 71); (with_reducible refine (swap_calls _ g g9 c9 _ _ _ zs i p HL.out.bk HL.out.ow HPZ.out.2 HPZ.out.1 HL.out.ne).mono ?_); rintro e w4 ⟨⟨v4, rfl⟩, ho4, hg4⟩; have n0 := Aside0.mk (HL.out.row ho4 hg4 (swp_len d3 zs i p)); clear HL ho4 hg4; have HL := n0; clear n0))
          go_roundg k9
          case measure => omega
          case rel => exact ⟨p, swp d3 zs i p, rfl, ⟨by have h_ := HI.out.1; have h2_ := HI3.out.1; omega, by rw [swp_len]; exact HI.out.2.1, by have h_ := HI.out.2.2; have h2_ := HI3.out.1; omega⟩, HL, ⟨(swp_perm d3 zs i p HPZ.out.2 HPZ.out.1).trans HU.out.1, by have h_ := up_step (leW c) d3 HO.out.tr HU.out.2 HI3.out.2 (by rw [HP.out]; exact HO.out.tot _ _ HT.out); rw [HP.out] at h_; exact h_⟩⟩
end Go.Proofs.Ytekjkookkjjbcaa.HW
