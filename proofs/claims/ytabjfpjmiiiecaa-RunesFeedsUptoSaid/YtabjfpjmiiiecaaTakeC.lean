/- The checker's state within its block: take, and what Feed and Whole tell. -/
import Derived.Test.YtabjfpjmiiiecaaD3
import Derived.Test.YtabjfpjmiiiecaaBase
namespace Go.Proofs.Ytabjfpjmiiiecaa.CK
set_option linter.unusedVariables false
set_option linter.unusedSimpArgs false
open Go.RowKit Go.Proofs.YtabjfpjmiiiecaaW.PrintWords Go.Proofs.YtabjfpjmiiiecaaW.PrintLast Go.Proofs.YtabjfpjmiiiecaaW.PrintMore Go.Proofs.Ytabjfpjmiiiecaa.B Go.Proofs.Ytabjfpjmiiiecaa.D
/-- A checker: made, bad, and where its reader stands. -/
def IsC (w0 W : World) (g : Nat) (M B : Bool) (a b c : Int) : Prop := W.heap[g]? = some (.cells #[.bool M, .bool B, .int .u8 a, .int .u8 b, .int .u8 c] 48 (0, 0)) ∧ w0.heap.size ≤ g
section
variable {w0 W : World} {g : Nat} {M B : Bool} {a b c : Int}
theorem IsC.ge (h : IsC w0 W g M B a b c) : w0.heap.size ≤ g := h.2
theorem IsC.below {W1 : World} (h : IsC w0 W g M B a b c) (hb : Below W.heap.size W W1) : IsC w0 W1 g M B a b c := ⟨blk_below h.1 hb, h.2⟩
theorem IsC.alloc (h : IsC w0 W g M B a b c) (o : Obj) : IsC w0 (W.alloc o) g M B a b c := ⟨blk_alloc h.1 o, h.2⟩
theorem IsC.drewN (h : IsC w0 W g M B a b c) (m : Nat) : IsC w0 (W.drewN m) g M B a b c := h
theorem IsC.drew (h : IsC w0 W g M B a b c) : IsC w0 W.drew g M B a b c := h
theorem cellC_0 (h : W.heap[g]? = some (.cells #[.bool M, .bool B, .int .u8 a, .int .u8 b, .int .u8 c] 48 (0, 0))) : W.cell? ⟨g, 2, none⟩ = some (.int .u8 a) := (blk_cell h 2).trans rfl
theorem cellC_1 (h : W.heap[g]? = some (.cells #[.bool M, .bool B, .int .u8 a, .int .u8 b, .int .u8 c] 48 (0, 0))) : W.cell? ⟨g, 3, none⟩ = some (.int .u8 b) := (blk_cell h 3).trans rfl
theorem cellC_2 (h : W.heap[g]? = some (.cells #[.bool M, .bool B, .int .u8 a, .int .u8 b, .int .u8 c] 48 (0, 0))) : W.cell? ⟨g, 4, none⟩ = some (.int .u8 c) := (blk_cell h 4).trans rfl
theorem cellC_m (h : W.heap[g]? = some (.cells #[.bool M, .bool B, .int .u8 a, .int .u8 b, .int .u8 c] 48 (0, 0))) : W.cell? ⟨g, 0, none⟩ = some (.bool M) := (blk_cell h 0).trans rfl
theorem cellC_b (h : W.heap[g]? = some (.cells #[.bool M, .bool B, .int .u8 a, .int .u8 b, .int .u8 c] 48 (0, 0))) : W.cell? ⟨g, 1, none⟩ = some (.bool B) := (blk_cell h 1).trans rfl
theorem IsC.set_0 (h : IsC w0 W g M B a b c) (x : Int) : IsC w0 (W.setCell ⟨g, 2, none⟩ (.int .u8 x)) g M B x b c := ⟨blk_put h.1 2 _ rfl, h.2⟩
theorem IsC.set_1 (h : IsC w0 W g M B a b c) (x : Int) : IsC w0 (W.setCell ⟨g, 3, none⟩ (.int .u8 x)) g M B a x c := ⟨blk_put h.1 3 _ rfl, h.2⟩
theorem IsC.set_2 (h : IsC w0 W g M B a b c) (x : Int) : IsC w0 (W.setCell ⟨g, 4, none⟩ (.int .u8 x)) g M B a b x := ⟨blk_put h.1 4 _ rfl, h.2⟩
theorem IsC.set_b (h : IsC w0 W g M B a b c) (x : Bool) : IsC w0 (W.setCell ⟨g, 1, none⟩ (.bool x)) g M x a b c := ⟨blk_put h.1 1 _ rfl, h.2⟩
end
set_option maxHeartbeats 8000000 in
set_option maxRecDepth 100000 in
theorem take_C (k : Nat) (g : Nat) (M B : Bool) (s0_0 : Int) (s0_1 : Int) (s0_2 : Int) (a1 : Int) (r1 : Bool) (r2 : Int) (r3 : Int) (r4 : Int) (w0 w : World) (hI : IsC w0 w g M B s0_0 s0_1 s0_2) (hB : Below w0.heap.size w0 w) (h : runes_state_take.f k s0_0 s0_1 s0_2 a1 = some (r1, r2, r3, r4)) :
    Calls Try.prog 36 #[.pointer (some ⟨g, 2, none⟩), .int .u8 a1] w fun e w' => e = .returned (.bool r1) ∧ IsC w0 w' g M B r2 r3 r4 ∧ Below w0.heap.size w0 w' ∧ KeepBut w w' g none := by
  have HI0 := Aside0.mk hI
  have HK := Aside0.mk (KeepBut.refl w g none)
  have HL := Aside0.mk hB.size
  clear hI
  have HW0 := Aside0.mk hB.size
  have HB := Aside0.mk hB
  clear hB
  have H : (if s0_0 > 0 then (if a1 < s0_1 then (some (false, s0_0, s0_1, s0_2)) else (if a1 > s0_2 then (some (false, s0_0, s0_1, s0_2)) else (some (true, (s0_0 - 1) % 256, 128, 191)))) else (if a1 < 128 then (some (true, s0_0, 128, 191)) else (if a1 < 194 then (runes_state_take.j0 k a1 true s0_0 128 191) else (runes_state_take.j0 k a1 (decide (a1 > 244)) s0_0 128 191)))) = some (r1, r2, r3, r4) := h
  clear h
  by_cases c3 : s0_0 > 0
  · rw [if_pos c3] at H
    have c3b0 : decide (0 < s0_0) = true := decide_eq_true c3
    clear c3
    by_cases c4 : a1 < s0_1
    · rw [if_pos c4] at H
      have c4b0 : decide (a1 < s0_1) = true := decide_eq_true c4
      clear c4
      simp only [Option.some.injEq, Prod.mk.injEq] at H
      obtain ⟨rfl, rfl, rfl, rfl⟩ := H
      obtain ⟨HGz5, hgz5⟩ := HI0.out
      have hcz5_0 := cellC_0 HGz5
      have hcz5_1 := cellC_1 HGz5
      have hcz5_2 := cellC_2 HGz5
      have hfz5_0 := blk_frozen HGz5 2
      have hfz5_1 := blk_frozen HGz5 3
      have hfz5_2 := blk_frozen HGz5 4
      clear HGz5 hgz5
      go_enter Try.func36, Try.ntmps36
      go_wp2
      go_ret
      exact ⟨by first | rfl | (simp [errW_none, errW_some] <;> rfl) | (simp [*, errW_none, errW_some] <;> rfl), by repeat (first | (with_reducible first | exact HI0.out | apply IsC.alloc | apply IsC.drewN | apply IsC.drew | apply IsC.set_0 | apply IsC.set_1 | apply IsC.set_2) | exact HI0.out), by repeat (first | (with_reducible first | exact HB.out | apply below_alloc | apply pw_below_drewN | apply below_drew1 | refine below_set ?_ (IsC.ge HI0.out)) | exact HB.out), by repeat (first | (with_reducible first | exact HK.out | apply KeepBut.set_ | apply keep_drewN | apply keep_drew | apply keep_alloc) | exact HK.out)⟩
    · rw [if_neg c4] at H
      have c4b0 : decide (a1 < s0_1) = false := decide_eq_false c4
      clear c4
      by_cases c6 : a1 > s0_2
      · rw [if_pos c6] at H
        have c6b0 : decide (s0_2 < a1) = true := decide_eq_true c6
        clear c6
        simp only [Option.some.injEq, Prod.mk.injEq] at H
        obtain ⟨rfl, rfl, rfl, rfl⟩ := H
        obtain ⟨HGz7, hgz7⟩ := HI0.out
        have hcz7_0 := cellC_0 HGz7
        have hcz7_1 := cellC_1 HGz7
        have hcz7_2 := cellC_2 HGz7
        have hfz7_0 := blk_frozen HGz7 2
        have hfz7_1 := blk_frozen HGz7 3
        have hfz7_2 := blk_frozen HGz7 4
        clear HGz7 hgz7
        go_enter Try.func36, Try.ntmps36
        go_wp2
        go_ret
        exact ⟨by first | rfl | (simp [errW_none, errW_some] <;> rfl) | (simp [*, errW_none, errW_some] <;> rfl), by repeat (first | (with_reducible first | exact HI0.out | apply IsC.alloc | apply IsC.drewN | apply IsC.drew | apply IsC.set_0 | apply IsC.set_1 | apply IsC.set_2) | exact HI0.out), by repeat (first | (with_reducible first | exact HB.out | apply below_alloc | apply pw_below_drewN | apply below_drew1 | refine below_set ?_ (IsC.ge HI0.out)) | exact HB.out), by repeat (first | (with_reducible first | exact HK.out | apply KeepBut.set_ | apply keep_drewN | apply keep_drew | apply keep_alloc) | exact HK.out)⟩
      · rw [if_neg c6] at H
        have c6b0 : decide (s0_2 < a1) = false := decide_eq_false c6
        clear c6
        simp only [Option.some.injEq, Prod.mk.injEq] at H
        obtain ⟨rfl, rfl, rfl, rfl⟩ := H
        obtain ⟨HGz8, hgz8⟩ := HI0.out
        have hcz8_0 := cellC_0 HGz8
        have hcz8_1 := cellC_1 HGz8
        have hcz8_2 := cellC_2 HGz8
        have hfz8_0 := blk_frozen HGz8 2
        have hfz8_1 := blk_frozen HGz8 3
        have hfz8_2 := blk_frozen HGz8 4
        clear HGz8 hgz8
        go_enter Try.func36, Try.ntmps36
        go_wp2
        go_ret
        exact ⟨by first | rfl | (simp [errW_none, errW_some] <;> rfl) | (simp [*, errW_none, errW_some] <;> rfl), by repeat (first | (with_reducible first | exact HI0.out | apply IsC.alloc | apply IsC.drewN | apply IsC.drew | apply IsC.set_0 | apply IsC.set_1 | apply IsC.set_2) | exact HI0.out), by repeat (first | (with_reducible first | exact HB.out | apply below_alloc | apply pw_below_drewN | apply below_drew1 | refine below_set ?_ (IsC.ge HI0.out)) | exact HB.out), by repeat (first | (with_reducible first | exact HK.out | apply KeepBut.set_ | apply keep_drewN | apply keep_drew | apply keep_alloc) | exact HK.out)⟩
  · rw [if_neg c3] at H
    have c3b0 : decide (0 < s0_0) = false := decide_eq_false c3
    clear c3
    have HC9 := Aside0.mk H
    clear H
    obtain ⟨HGz10, hgz10⟩ := HI0.out
    have hcz10_0 := cellC_0 HGz10
    have hcz10_1 := cellC_1 HGz10
    have hcz10_2 := cellC_2 HGz10
    have hfz10_0 := blk_frozen HGz10 2
    have hfz10_1 := blk_frozen HGz10 3
    have hfz10_2 := blk_frozen HGz10 4
    clear HGz10 hgz10
    go_enter Try.func36, Try.ntmps36
    go_upto_block 0 with (fail)
    go_cut [] (fun wc => ∃ (kq : Nat) (x1000_8 : Int), Aside0 (runes_state_take.j1 kq a1 x1000_8 128 191 = some (r1, r2, r3, r4)) ∧ Aside0 (kq ≤ k) ∧ Aside0 (IsC w0 wc g M B x1000_8 128 191) ∧ Aside0 (KeepBut w wc g none) ∧ Aside0 (Below w0.heap.size w0 wc))
    case first =>
      have H := HC9.out
      clear HC9
      by_cases c11 : a1 < 128
      · rw [if_pos c11] at H
        have c11b0 : decide (a1 < 128) = true := decide_eq_true c11
        clear c11
        (first | rw [c11b0] | (simp only [i64_w, i32_w]; rw [c11b0]) | skip)
        simp only [Option.some.injEq, Prod.mk.injEq] at H
        obtain ⟨rfl, rfl, rfl, rfl⟩ := H
        go_wp2
        go_ret
        exact ⟨by first | rfl | (simp [errW_none, errW_some] <;> rfl) | (simp [*, errW_none, errW_some] <;> rfl), by repeat (first | (with_reducible first | exact HI0.out | apply IsC.alloc | apply IsC.drewN | apply IsC.drew | apply IsC.set_0 | apply IsC.set_1 | apply IsC.set_2) | exact HI0.out), by repeat (first | (with_reducible first | exact HB.out | apply below_alloc | apply pw_below_drewN | apply below_drew1 | refine below_set ?_ (IsC.ge HI0.out)) | exact HB.out), by repeat (first | (with_reducible first | exact HK.out | apply KeepBut.set_ | apply keep_drewN | apply keep_drew | apply keep_alloc) | exact HK.out)⟩
      · rw [if_neg c11] at H
        have c11b0 : decide (a1 < 128) = false := decide_eq_false c11
        clear c11
        (first | rw [c11b0] | (simp only [i64_w, i32_w]; rw [c11b0]) | skip)
        have HC12 := Aside0.mk H
        clear H
        go_upto_region 11 with (fail)
        go_cut [49] (fun v49 wc => ∃ (kq : Nat) (x49_11 : Bool), v49 = .bool x49_11 ∧ Aside0 (runes_state_take.j0 kq a1 x49_11 s0_0 128 191 = some (r1, r2, r3, r4)) ∧ Aside0 (kq ≤ k) ∧ Aside0 (IsC w0 wc g M B s0_0 128 191) ∧ Aside0 (KeepBut w wc g none) ∧ Aside0 (Below w0.heap.size w0 wc))
        case first =>
          have H := HC12.out
          clear HC12
          by_cases c13 : a1 < 194
          · rw [if_pos c13] at H
            have c13b0 : decide (a1 < 194) = true := decide_eq_true c13
            clear c13
            (first | rw [c13b0] | (simp only [i64_w, i32_w]; rw [c13b0]) | skip)
            have H' := Aside0.mk H
            clear H
            go_wp2
            go_meet
            case rel => exact ⟨_, (true), (by first | rfl | (simp; done) | (simp [*]; done)), H', ⟨by first | omega | exact Nat.le_refl _⟩, ⟨by repeat (first | (with_reducible first | exact HI0.out | apply IsC.alloc | apply IsC.drewN | apply IsC.drew | apply IsC.set_0 | apply IsC.set_1 | apply IsC.set_2) | exact HI0.out)⟩, ⟨by repeat (first | (with_reducible first | exact HK.out | apply KeepBut.set_ | apply keep_drewN | apply keep_drew | apply keep_alloc) | exact HK.out)⟩, ⟨by repeat (first | (with_reducible first | exact HB.out | apply below_alloc | apply pw_below_drewN | apply below_drew1 | refine below_set ?_ (IsC.ge HI0.out)) | exact HB.out)⟩⟩
          · rw [if_neg c13] at H
            have c13b0 : decide (a1 < 194) = false := decide_eq_false c13
            clear c13
            (first | rw [c13b0] | (simp only [i64_w, i32_w]; rw [c13b0]) | skip)
            have H' := Aside0.mk H
            clear H
            go_wp2
            go_meet
            case rel => exact ⟨_, (decide (a1 > 244)), (by first | rfl | (simp; done) | (simp [*]; done)), H', ⟨by first | omega | exact Nat.le_refl _⟩, ⟨by repeat (first | (with_reducible first | exact HI0.out | apply IsC.alloc | apply IsC.drewN | apply IsC.drew | apply IsC.set_0 | apply IsC.set_1 | apply IsC.set_2) | exact HI0.out)⟩, ⟨by repeat (first | (with_reducible first | exact HK.out | apply KeepBut.set_ | apply keep_drewN | apply keep_drew | apply keep_alloc) | exact HK.out)⟩, ⟨by repeat (first | (with_reducible first | exact HB.out | apply below_alloc | apply pw_below_drewN | apply below_drew1 | refine below_set ?_ (IsC.ge HI0.out)) | exact HB.out)⟩⟩
        case rest =>
          clear HC12
          try clear c1
          try clear p2
          try clear c3
          try clear c3b0
          try clear c4
          try clear c4b0
          try clear c6
          try clear c6b0
          try clear c11
          try clear c11b0
          try clear c13
          try clear c13b0
          try clear hcz10_0
          try clear hcz10_1
          try clear hcz10_2
          try clear hcz5_0
          try clear hcz5_1
          try clear hcz5_2
          try clear hcz7_0
          try clear hcz7_1
          try clear hcz7_2
          try clear hcz8_0
          try clear hcz8_1
          try clear hcz8_2
          try clear hfz10_0
          try clear hfz10_1
          try clear hfz10_2
          try clear hfz5_0
          try clear hfz5_1
          try clear hfz5_2
          try clear hfz7_0
          try clear hfz7_1
          try clear hfz7_2
          try clear hfz8_0
          try clear hfz8_1
          try clear hfz8_2
          obtain ⟨kq, x49_11, rfl, HA, HJ11, HI0, HK, HB⟩ := hcut
          cases kq with
          | zero => exact absurd HA.out (by simp [runes_state_take.j0])
          | succ kj11 =>
            have H := HA.out
            clear HA
            simp only [runes_state_take.j0] at H
            by_cases c14 : x49_11 = true
            · subst c14
              have H1 : (some (false, s0_0, 128, 191)) = some (r1, r2, r3, r4) := by rw [if_pos rfl] at H; exact H
              clear H
              have H := H1
              clear H1
              simp only [Option.some.injEq, Prod.mk.injEq] at H
              obtain ⟨rfl, rfl, rfl, rfl⟩ := H
              go_wp2
              go_ret
              exact ⟨by first | rfl | (simp [errW_none, errW_some] <;> rfl) | (simp [*, errW_none, errW_some] <;> rfl), by repeat (first | (with_reducible first | exact HI0.out | apply IsC.alloc | apply IsC.drewN | apply IsC.drew | apply IsC.set_0 | apply IsC.set_1 | apply IsC.set_2) | exact HI0.out), by repeat (first | (with_reducible first | exact HB.out | apply below_alloc | apply pw_below_drewN | apply below_drew1 | refine below_set ?_ (IsC.ge HI0.out)) | exact HB.out), by repeat (first | (with_reducible first | exact HK.out | apply KeepBut.set_ | apply keep_drewN | apply keep_drew | apply keep_alloc) | exact HK.out)⟩
            · replace c14 := Bool.eq_false_iff.mpr c14
              subst c14
              have H1 : (if a1 < 224 then (runes_state_take.j1 kj11 a1 1 128 191) else (if a1 < 240 then (runes_state_take.j1 kj11 a1 2 128 191) else (runes_state_take.j1 kj11 a1 3 128 191))) = some (r1, r2, r3, r4) := by rw [if_neg (show ¬ (false = true) by decide)] at H; exact H
              clear H
              have H := H1
              clear H1
              by_cases c15 : a1 < 224
              · rw [if_pos c15] at H
                have c15b0 : decide (a1 < 224) = true := decide_eq_true c15
                clear c15
                have H' := Aside0.mk H
                clear H
                obtain ⟨HGz16, hgz16⟩ := HI0.out
                have hcz16_0 := cellC_0 HGz16
                have hcz16_1 := cellC_1 HGz16
                have hcz16_2 := cellC_2 HGz16
                have hfz16_0 := blk_frozen HGz16 2
                have hfz16_1 := blk_frozen HGz16 3
                have hfz16_2 := blk_frozen HGz16 4
                clear HGz16 hgz16
                go_wp2
                go_meet
                case rel => exact ⟨_, (1), H', ⟨by have := HJ11.out; first | omega | exact Nat.le_refl _⟩, ⟨by repeat (first | (with_reducible first | exact HI0.out | apply IsC.alloc | apply IsC.drewN | apply IsC.drew | apply IsC.set_0 | apply IsC.set_1 | apply IsC.set_2) | exact HI0.out)⟩, ⟨by repeat (first | (with_reducible first | exact HK.out | apply KeepBut.set_ | apply keep_drewN | apply keep_drew | apply keep_alloc) | exact HK.out)⟩, ⟨by repeat (first | (with_reducible first | exact HB.out | apply below_alloc | apply pw_below_drewN | apply below_drew1 | refine below_set ?_ (IsC.ge HI0.out)) | exact HB.out)⟩⟩
              · rw [if_neg c15] at H
                have c15b0 : decide (a1 < 224) = false := decide_eq_false c15
                clear c15
                by_cases c17 : a1 < 240
                · rw [if_pos c17] at H
                  have c17b0 : decide (a1 < 240) = true := decide_eq_true c17
                  clear c17
                  have H' := Aside0.mk H
                  clear H
                  obtain ⟨HGz18, hgz18⟩ := HI0.out
                  have hcz18_0 := cellC_0 HGz18
                  have hcz18_1 := cellC_1 HGz18
                  have hcz18_2 := cellC_2 HGz18
                  have hfz18_0 := blk_frozen HGz18 2
                  have hfz18_1 := blk_frozen HGz18 3
                  have hfz18_2 := blk_frozen HGz18 4
                  clear HGz18 hgz18
                  go_wp2
                  go_meet
                  case rel => exact ⟨_, (2), H', ⟨by have := HJ11.out; first | omega | exact Nat.le_refl _⟩, ⟨by repeat (first | (with_reducible first | exact HI0.out | apply IsC.alloc | apply IsC.drewN | apply IsC.drew | apply IsC.set_0 | apply IsC.set_1 | apply IsC.set_2) | exact HI0.out)⟩, ⟨by repeat (first | (with_reducible first | exact HK.out | apply KeepBut.set_ | apply keep_drewN | apply keep_drew | apply keep_alloc) | exact HK.out)⟩, ⟨by repeat (first | (with_reducible first | exact HB.out | apply below_alloc | apply pw_below_drewN | apply below_drew1 | refine below_set ?_ (IsC.ge HI0.out)) | exact HB.out)⟩⟩
                · rw [if_neg c17] at H
                  have c17b0 : decide (a1 < 240) = false := decide_eq_false c17
                  clear c17
                  have H' := Aside0.mk H
                  clear H
                  obtain ⟨HGz19, hgz19⟩ := HI0.out
                  have hcz19_0 := cellC_0 HGz19
                  have hcz19_1 := cellC_1 HGz19
                  have hcz19_2 := cellC_2 HGz19
                  have hfz19_0 := blk_frozen HGz19 2
                  have hfz19_1 := blk_frozen HGz19 3
                  have hfz19_2 := blk_frozen HGz19 4
                  clear HGz19 hgz19
                  go_wp2
                  go_meet
                  case rel => exact ⟨_, (3), H', ⟨by have := HJ11.out; first | omega | exact Nat.le_refl _⟩, ⟨by repeat (first | (with_reducible first | exact HI0.out | apply IsC.alloc | apply IsC.drewN | apply IsC.drew | apply IsC.set_0 | apply IsC.set_1 | apply IsC.set_2) | exact HI0.out)⟩, ⟨by repeat (first | (with_reducible first | exact HK.out | apply KeepBut.set_ | apply keep_drewN | apply keep_drew | apply keep_alloc) | exact HK.out)⟩, ⟨by repeat (first | (with_reducible first | exact HB.out | apply below_alloc | apply pw_below_drewN | apply below_drew1 | refine below_set ?_ (IsC.ge HI0.out)) | exact HB.out)⟩⟩
    case rest =>
      clear HC9
      try clear c1
      try clear p2
      try clear c3
      try clear c3b0
      try clear c4
      try clear c4b0
      try clear c6
      try clear c6b0
      try clear c11
      try clear c11b0
      try clear c13
      try clear c13b0
      try clear c14
      try clear c15
      try clear c15b0
      try clear c17
      try clear c17b0
      try clear hcz10_0
      try clear hcz10_1
      try clear hcz10_2
      try clear hcz16_0
      try clear hcz16_1
      try clear hcz16_2
      try clear hcz18_0
      try clear hcz18_1
      try clear hcz18_2
      try clear hcz19_0
      try clear hcz19_1
      try clear hcz19_2
      try clear hcz5_0
      try clear hcz5_1
      try clear hcz5_2
      try clear hcz7_0
      try clear hcz7_1
      try clear hcz7_2
      try clear hcz8_0
      try clear hcz8_1
      try clear hcz8_2
      try clear hfz10_0
      try clear hfz10_1
      try clear hfz10_2
      try clear hfz16_0
      try clear hfz16_1
      try clear hfz16_2
      try clear hfz18_0
      try clear hfz18_1
      try clear hfz18_2
      try clear hfz19_0
      try clear hfz19_1
      try clear hfz19_2
      try clear hfz5_0
      try clear hfz5_1
      try clear hfz5_2
      try clear hfz7_0
      try clear hfz7_1
      try clear hfz7_2
      try clear hfz8_0
      try clear hfz8_1
      try clear hfz8_2
      try clear p2
      obtain ⟨kq, x1000_8, HA, HJ8, HI0, HK, HB⟩ := hcut
      cases kq with
      | zero => exact absurd HA.out (by simp [runes_state_take.j1])
      | succ kj8 =>
        have H := HA.out
        clear HA
        simp only [runes_state_take.j1] at H
        by_cases c20 : a1 = 224
        · rw [if_pos c20] at H
          have c20b0 : (a1 == 224) = true := beq_iff_eq.mpr c20
          have c20b1 : (a1 != 224) = false := bne_eq_false_iff_eq.mpr c20
          clear c20
          simp only [Option.some.injEq, Prod.mk.injEq] at H
          obtain ⟨rfl, rfl, rfl, rfl⟩ := H
          obtain ⟨HGz21, hgz21⟩ := HI0.out
          have hcz21_0 := cellC_0 HGz21
          have hcz21_1 := cellC_1 HGz21
          have hcz21_2 := cellC_2 HGz21
          have hfz21_0 := blk_frozen HGz21 2
          have hfz21_1 := blk_frozen HGz21 3
          have hfz21_2 := blk_frozen HGz21 4
          clear HGz21 hgz21
          go_wp2
          go_ret
          exact ⟨by first | rfl | (simp [errW_none, errW_some] <;> rfl) | (simp [*, errW_none, errW_some] <;> rfl), by repeat (first | (with_reducible first | exact HI0.out | apply IsC.alloc | apply IsC.drewN | apply IsC.drew | apply IsC.set_0 | apply IsC.set_1 | apply IsC.set_2) | exact HI0.out), by repeat (first | (with_reducible first | exact HB.out | apply below_alloc | apply pw_below_drewN | apply below_drew1 | refine below_set ?_ (IsC.ge HI0.out)) | exact HB.out), by repeat (first | (with_reducible first | exact HK.out | apply KeepBut.set_ | apply keep_drewN | apply keep_drew | apply keep_alloc) | exact HK.out)⟩
        · rw [if_neg c20] at H
          have c20b0 : (a1 == 224) = false := beq_eq_false_iff_ne.mpr c20
          have c20b1 : (a1 != 224) = true := bne_iff_ne.mpr c20
          by_cases c22 : a1 = 237
          · rw [if_pos c22] at H
            have c22b0 : (a1 == 237) = true := beq_iff_eq.mpr c22
            have c22b1 : (a1 != 237) = false := bne_eq_false_iff_eq.mpr c22
            clear c22
            simp only [Option.some.injEq, Prod.mk.injEq] at H
            obtain ⟨rfl, rfl, rfl, rfl⟩ := H
            obtain ⟨HGz23, hgz23⟩ := HI0.out
            have hcz23_0 := cellC_0 HGz23
            have hcz23_1 := cellC_1 HGz23
            have hcz23_2 := cellC_2 HGz23
            have hfz23_0 := blk_frozen HGz23 2
            have hfz23_1 := blk_frozen HGz23 3
            have hfz23_2 := blk_frozen HGz23 4
            clear HGz23 hgz23
            go_wp2
            go_ret
            exact ⟨by first | rfl | (simp [errW_none, errW_some] <;> rfl) | (simp [*, errW_none, errW_some] <;> rfl), by repeat (first | (with_reducible first | exact HI0.out | apply IsC.alloc | apply IsC.drewN | apply IsC.drew | apply IsC.set_0 | apply IsC.set_1 | apply IsC.set_2) | exact HI0.out), by repeat (first | (with_reducible first | exact HB.out | apply below_alloc | apply pw_below_drewN | apply below_drew1 | refine below_set ?_ (IsC.ge HI0.out)) | exact HB.out), by repeat (first | (with_reducible first | exact HK.out | apply KeepBut.set_ | apply keep_drewN | apply keep_drew | apply keep_alloc) | exact HK.out)⟩
          · rw [if_neg c22] at H
            have c22b0 : (a1 == 237) = false := beq_eq_false_iff_ne.mpr c22
            have c22b1 : (a1 != 237) = true := bne_iff_ne.mpr c22
            by_cases c24 : a1 = 240
            · rw [if_pos c24] at H
              have c24b0 : (a1 == 240) = true := beq_iff_eq.mpr c24
              have c24b1 : (a1 != 240) = false := bne_eq_false_iff_eq.mpr c24
              clear c24
              simp only [Option.some.injEq, Prod.mk.injEq] at H
              obtain ⟨rfl, rfl, rfl, rfl⟩ := H
              obtain ⟨HGz25, hgz25⟩ := HI0.out
              have hcz25_0 := cellC_0 HGz25
              have hcz25_1 := cellC_1 HGz25
              have hcz25_2 := cellC_2 HGz25
              have hfz25_0 := blk_frozen HGz25 2
              have hfz25_1 := blk_frozen HGz25 3
              have hfz25_2 := blk_frozen HGz25 4
              clear HGz25 hgz25
              go_wp2
              go_ret
              exact ⟨by first | rfl | (simp [errW_none, errW_some] <;> rfl) | (simp [*, errW_none, errW_some] <;> rfl), by repeat (first | (with_reducible first | exact HI0.out | apply IsC.alloc | apply IsC.drewN | apply IsC.drew | apply IsC.set_0 | apply IsC.set_1 | apply IsC.set_2) | exact HI0.out), by repeat (first | (with_reducible first | exact HB.out | apply below_alloc | apply pw_below_drewN | apply below_drew1 | refine below_set ?_ (IsC.ge HI0.out)) | exact HB.out), by repeat (first | (with_reducible first | exact HK.out | apply KeepBut.set_ | apply keep_drewN | apply keep_drew | apply keep_alloc) | exact HK.out)⟩
            · rw [if_neg c24] at H
              have c24b0 : (a1 == 240) = false := beq_eq_false_iff_ne.mpr c24
              have c24b1 : (a1 != 240) = true := bne_iff_ne.mpr c24
              by_cases c26 : a1 = 244
              · rw [if_pos c26] at H
                have c26b0 : (a1 == 244) = true := beq_iff_eq.mpr c26
                have c26b1 : (a1 != 244) = false := bne_eq_false_iff_eq.mpr c26
                clear c26
                simp only [Option.some.injEq, Prod.mk.injEq] at H
                obtain ⟨rfl, rfl, rfl, rfl⟩ := H
                obtain ⟨HGz27, hgz27⟩ := HI0.out
                have hcz27_0 := cellC_0 HGz27
                have hcz27_1 := cellC_1 HGz27
                have hcz27_2 := cellC_2 HGz27
                have hfz27_0 := blk_frozen HGz27 2
                have hfz27_1 := blk_frozen HGz27 3
                have hfz27_2 := blk_frozen HGz27 4
                clear HGz27 hgz27
                go_wp2
                go_ret
                exact ⟨by first | rfl | (simp [errW_none, errW_some] <;> rfl) | (simp [*, errW_none, errW_some] <;> rfl), by repeat (first | (with_reducible first | exact HI0.out | apply IsC.alloc | apply IsC.drewN | apply IsC.drew | apply IsC.set_0 | apply IsC.set_1 | apply IsC.set_2) | exact HI0.out), by repeat (first | (with_reducible first | exact HB.out | apply below_alloc | apply pw_below_drewN | apply below_drew1 | refine below_set ?_ (IsC.ge HI0.out)) | exact HB.out), by repeat (first | (with_reducible first | exact HK.out | apply KeepBut.set_ | apply keep_drewN | apply keep_drew | apply keep_alloc) | exact HK.out)⟩
              · rw [if_neg c26] at H
                have c26b0 : (a1 == 244) = false := beq_eq_false_iff_ne.mpr c26
                have c26b1 : (a1 != 244) = true := bne_iff_ne.mpr c26
                simp only [Option.some.injEq, Prod.mk.injEq] at H
                obtain ⟨rfl, rfl, rfl, rfl⟩ := H
                go_wp2
                go_ret
                exact ⟨by first | rfl | (simp [errW_none, errW_some] <;> rfl) | (simp [*, errW_none, errW_some] <;> rfl), by repeat (first | (with_reducible first | exact HI0.out | apply IsC.alloc | apply IsC.drewN | apply IsC.drew | apply IsC.set_0 | apply IsC.set_1 | apply IsC.set_2) | exact HI0.out), by repeat (first | (with_reducible first | exact HB.out | apply below_alloc | apply pw_below_drewN | apply below_drew1 | refine below_set ?_ (IsC.ge HI0.out)) | exact HB.out), by repeat (first | (with_reducible first | exact HK.out | apply KeepBut.set_ | apply keep_drewN | apply keep_drew | apply keep_alloc) | exact HK.out)⟩
end Go.Proofs.Ytabjfpjmiiiecaa.CK
