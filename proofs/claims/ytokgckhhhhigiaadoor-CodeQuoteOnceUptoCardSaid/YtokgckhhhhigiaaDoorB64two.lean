/- code.Base64 at the two bytes that wakes hands it (walked by hand). -/
import Derived.Test.YtokgckhhhhigiaaDoorRdr
import Derived.Test.YtokgckhhhhigiaaDoorQuoW
import Derived.Deep.LoopGhost
namespace Go.Proofs.YtokgckhhhhigiaaDoor.BT
set_option linter.unusedVariables false
set_option linter.unusedSimpArgs false
open Go.RowKit Go.Proofs.YtokgckhhhhigiaaDoorW.PrintWords Go.Proofs.YtokgckhhhhigiaaDoorW.PrintLast Go.Proofs.YtokgckhhhhigiaaDoorW.PrintMore Go.Proofs.YtokgckhhhhigiaaDoor.D Go.Proofs.YtokgckhhhhigiaaDoor.B Go.Proofs.YtokgckhhhhigiaaDoor.M Go.Proofs.YtokgckhhhhigiaaDoor.Turn Go.Proofs.YtokgckhhhhigiaaDoor.QW

def QB (ad : Addr) (w : World) (W : World) : Prop := Below w.heap.size w W ∧ W.cell? ad = some (.int .u8 77) ∧ W.cell? ⟨ad.block, ad.off + 1, none⟩ = some (.int .u8 97)
theorem QB.of {ad : Addr} {w : World} {W : World} (h0 : w.cell? ad = some (.int .u8 77)) (h1 : w.cell? ⟨ad.block, ad.off + 1, none⟩ = some (.int .u8 97)) (h : Below w.heap.size w W) : Below w.heap.size w W ∧ W.cell? ad = some (.int .u8 77) ∧ W.cell? ⟨ad.block, ad.off + 1, none⟩ = some (.int .u8 97) :=
  ⟨h, pw_cell_below h h0, pw_cell_below h h1⟩
set_option maxHeartbeats 8000000 in
set_option maxRecDepth 100000 in
theorem two_calls (ad : Addr) (w : World) (n : Nat) (HN : Aside0 (n = 2)) (j : Int) (hj : wrap64 ((wrap64 (Int.tdiv (wrap64 ((n : Int) + 2)) 3)) * 4) = j) (HJ : Aside0 (j = 4)) (h0 : w.cell? ad = some (.int .u8 77)) (h1 : w.cell? ⟨ad.block, ad.off + 1, none⟩ = some (.int .u8 97)) :
    Calls Tryd.prog 19 #[.slice (some ad) n 2] w fun e w' => e = .returned (.string (⟨#[84, 87, 69, 61]⟩ : ByteArray)) ∧ Below w.heap.size w w' := by
  have H0 := Aside0.mk h0
  have H1 := Aside0.mk h1
  have G0 := Aside0.mk h0
  have G1 := Aside0.mk h1
  clear h0 h1
  have HB := Aside0.mk (Below.refl w.heap.size w)
  have hjw : IntKind.i64.wrap ((wrap64 (Int.tdiv (wrap64 ((n : Int) + 2)) 3)) * 4) = j := (i64_w _).trans hj
  have hjb : 0 ≤ j ∧ j ≤ 4 := by have := HJ.out; omega
  go_enter Tryd.func19, Tryd.ntmps19
  go_wp2_with (first | ((with_reducible refine gate_dst (N := 9) rfl ?_); refine Kd.R_make_cap (Kd.int .u8) _ 5 rfl (N := 9) rfl 22 _ _ rfl j rfl rfl Tryd.underlying22 (.int .u8 0) 1 info5 rfl (by decide) (by omega) 0 (ok := fun _ => True) (okp := fun _ => True) rfl (fun _ hk => hk) trivial (by omega) (by omega) (Below.refl _ _) (Nat.le_refl _) ?_; intro v5 w5 ho7 hb hg_ hnew_; have n0_ := Aside0.mk (below_step HB.out hb); have HO := Aside0.mk ho7; have n1_ := pw_cell_below hb H0.out; have n2_ := pw_cell_below hb H1.out; clear H0 H1; have H0 := Aside0.mk n1_; have H1 := Aside0.mk n2_; clear n1_ n2_; clear HB; have HB := n0_; clear n0_ hb hg_ hnew_ ho7))
  go_loopg [0, 3] 1 (fun kq v0 v3 w' => v0 = .slice (some ad) n 2 ∧ Aside0 (Kd.R (Kd.int .u8) 5 w' w.heap.size (fun _ => True) v3 []) ∧ Aside0 (w'.cell? ad = some (.int .u8 77)) ∧ Aside0 (w'.cell? ⟨ad.block, ad.off + 1, none⟩ = some (.int .u8 97)) ∧ Aside0 (Below w.heap.size w w'))
  case atStart => exact ⟨rfl, HO, H0, H1, HB⟩
  case round =>
    clear HO H0 H1 HB hj hjw HJ hjb
    obtain rfl := HN.out
    clear HN
    obtain ⟨rfl, HO, H0, H1, HB⟩ := hrel
    have HS := QB.of G0.out G1.out HB.out
    clear H0 H1
    go_wp2_with (fail)
    have A5 : Aside0 (strOfNums [84, 87, 69, 61] = ⟨#[84, 87, 69, 61]⟩) := ⟨by decide +kernel⟩
    go_region_held3 (fun W => Below w.heap.size w W ∧ W.cell? ad = some (.int .u8 77) ∧ W.cell? ⟨ad.block, ad.off + 1, none⟩ = some (.int .u8 97)) (first | assumption | exact QB.of G0.out G1.out (by assumption) | exact QB.of G0.out G1.out (below_drew1 HB.out) | exact QB.of G0.out G1.out (below_alloc HB.out _) | exact QB.of G0.out G1.out (below_alloc (below_drew1 HB.out) _))
      (first | (refine Kd.R_append_rows_step (Kd.int .u8) (w0 := w) w.heap.size (by rfl) (.tmp 70) (.tmp 93) 22 5 (.int .u8 0) 1 rfl Tryd.underlying22 info5 rfl (by decide) (by omega) u3 [] [84, 87, 69, 61] _ _ _ (fun _ => True) (fun _ => False) rfl rfl (by (with_reducible repeat (first | apply Kd.R_alloc | apply Kd.R_drew)); exact HO.out) (Lent.C_lit (heap_alloc_new _ _) (by decide) rfl) (fun _ _ h => h) (fun _ h => h.elim) (fun _ _ => trivial) (by repeat (first | exact HB.out | apply below_alloc | apply below_drew1)) (below_size (by repeat (first | exact HB.out | apply below_alloc | apply below_drew1))) (by decide) ?_; intro v94 w94 ho hb hg hat; rw [List.nil_append] at ho; have hcv := own_string (P := Tryd.prog) Tryd.underlying22 Tryd.underlying5 Tryd.underlying9 (Kd.own_of_R ho); rw [A5.out] at hcv; have HW := Aside0.mk hb; clear ho hg hat))
    all_goals go_wp2
    all_goals go_ret
    all_goals exact ⟨rfl, HW.out⟩
end Go.Proofs.YtokgckhhhhigiaaDoor.BT
