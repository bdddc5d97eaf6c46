/- lent and kept of the statements (walked by hand): the same bytes in memory of their own with marks behind them, and whether they still stand. -/
import Derived.Test.YtokgckhhhhigiaaBase
import Derived.Lib.SlBytesConst
import Derived.Test.YtokgckhhhhigiaaMk
import Derived.Test.YtokgckhhhhigiaaG0
namespace Go.Proofs.Ytokgckhhhhigiaa.Lent
set_option linter.unusedVariables false
set_option linter.unusedSimpArgs false
open Go.RowKit Go.Proofs.YtokgckhhhhigiaaW.PrintWords Go.Proofs.YtokgckhhhhigiaaW.PrintLast Go.Proofs.YtokgckhhhhigiaaW.PrintMore Go.Proofs.Ytokgckhhhhigiaa.B Go.Proofs.Ytokgckhhhhigiaa.M Go.Proofs.Ytokgckhhhhigiaa.G

/-- The bytes, and the marks. -/
def marked (xs : List Int) : List Int := xs ++ List.replicate 70 165

theorem ret_val {a b : Value} (h : a = b) : Ending.returned a = .returned b := by rw [h]

set_option maxHeartbeats 4000000 in
set_option maxRecDepth 100000 in
theorem lent_calls (A0 : Option Addr) (c0 : Nat) (xs : List Int) (w : World) (hr0 : Kd.C (Kd.int .u8) w A0 xs.length xs) (hs : xs.length ≤ 140737488351232) :
    Calls Try.prog 6 #[.slice A0 xs.length c0] w fun e w' => ∃ (A : Option Addr) (c : Nat), e = .returned (.slice A xs.length c) ∧ Kd.R (Kd.int .u8) 5 w' w.heap.size (fun _ => True) (.slice A (xs.length + 70) c) (marked (xs)) ∧ Below w.heap.size w w' := by
  have HB := Aside0.mk (Below.refl w.heap.size w)
  have HR0 := Aside0.mk hr0
  clear hr0
  have hji : IntKind.i64.wrap ((xs.length : Int) + 70) = (xs.length : Int) + 70 := by rw [i64_w]; exact wrap_id _ (by omega) (by omega)
  have e0 : ([] : List Int) ++ xs = xs := List.nil_append _
  have E0 := Aside0.mk e0
  clear e0
  go_enter Try.func6, Try.ntmps6
  go_wp2_with (first
    | ((with_reducible refine gate_dst (N := 7) rfl ?_); refine Kd.R_make_cap (Kd.int .u8) _ 5 rfl (N := 7) rfl 22 _ _ rfl ((xs.length : Int) + 70) rfl rfl Try.underlying22 (.int .u8 0) 1 info5 rfl (by decide) (by omega) 0 (ok := fun _ => True) (okp := fun _ => True) rfl (fun _ hk => hk) trivial (by omega) (by omega) (Below.refl _ _) (Nat.le_refl _) ?_; intro v124 w6 ho7 hb hg_ hnew_; clear hg_ hnew_; have n0_ := Aside0.mk (Kd.R_lower ho7 (below_size (by repeat (first | (with_reducible first | exact HB.out | apply below_alloc | apply pw_below_drewN | apply below_drew1) | exact HB.out)))); have n1_ := Aside0.mk (below_step (by repeat (first | (with_reducible first | exact HB.out | apply below_alloc | apply pw_below_drewN | apply below_drew1) | exact HB.out)) hb); clear HB; have HO125 := n0_; have HB := n1_; clear n0_ n1_; clear hb ho7)
    | ((with_reducible refine gate_builtin (b := .append) (xs := #[.tmp 8, .tmp 9]) rfl ?_); at_builtin; refine Kd.R_append_rows (Kd.int .u8) (w0 := w) w.heap.size rfl (.tmp 8) (.tmp 9) 22 5 (.int .u8 0) 1 rfl Try.underlying22 info5 rfl (by decide) (by omega) v124 ([] : List Int) xs _ _ _ (fun _ => True) (fun _ => False) rfl rfl ?aO ?aR (fun _ _ h => h) (fun _ h => h.elim) ?aF ?aB ?aS ?aL ?_; (case aR => repeat (first | exact (Kd.C_below HR0.out HB.out) | (with_reducible refine Kd.C_alloc ?_ _) | (with_reducible refine Kd.C_drewN ?_ _) | (with_reducible refine Kd.C_drew ?_))); (case aB => exact (by repeat (first | (with_reducible first | exact HB.out | apply below_alloc | apply pw_below_drewN | apply below_drew1) | exact HB.out))); (case aF => exact (fun _ _ => trivial)); (case aO => exact (by (with_reducible repeat (first | apply Kd.R_alloc | apply Kd.R_drewN | apply Kd.R_drew)); exact HO125.out)); (case aS => exact (below_size (by repeat (first | (with_reducible first | exact HB.out | apply below_alloc | apply pw_below_drewN | apply below_drew1) | exact HB.out)))); (case aL => simp; omega); intro v127 w8 ho hb hg hat; rw [E0.out] at ho; have n0_ := Aside0.mk (hb); have n1_ := Aside0.mk (ho); clear HB; clear HO125; have HB := n0_; have HO128 := n1_; clear n0_ n1_; clear ho hb hg hat))
  go_loopw [3, 11] (fun v3 v11 wr => ∃ j : Nat, v11 = .int .i64 j ∧ j ≤ 70 ∧ Aside0 (Kd.R (Kd.int .u8) 5 wr w.heap.size (fun _ => True) v3 (xs ++ List.replicate j 165)) ∧ Aside0 (Below w.heap.size w wr)) (fun _ v11 _ => 70 - (intOf v11).toNat)
  case atStart => exact ⟨0, rfl, by omega, ⟨by rw [List.replicate_zero, List.append_nil]; exact HO128.out⟩, HB⟩
  case round =>
    try clear HB
    try clear HO128
    obtain ⟨j, rfl, hj, HO_3, HB⟩ := hrel
    by_cases hlt : j < 70
    · have Hl := Aside0.mk (show (xs ++ List.replicate j 165).length < 140737488355328 by rw [List.length_append, List.length_replicate]; omega)
      obtain ⟨y, hy⟩ : ∃ y, y = xs ++ List.replicate j (165 : Int) := ⟨_, rfl⟩
      have hnext : y ++ [165] = xs ++ List.replicate (j + 1) 165 := by rw [hy, List.replicate_succ', List.append_assoc]
      rw [← hy] at HO_3 Hl
      have HN := Aside0.mk hnext
      clear hnext hy
      go_wp2_with (first | ((with_reducible refine gate_builtin (b := .append) (xs := #[.tmp 13, .tmp 14]) rfl ?_); at_builtin; refine Kd.R_append (Kd.int .u8) (w0 := w) w.heap.size rfl (.tmp 13) (.tmp 14) 22 5 (.int .u8 0) 1 rfl Try.underlying22 info5 rfl (by decide) (by omega) u3 y 165 [.int .u8 165] (fun _ => True) (fun _ => False) rfl rfl ?aP (fun _ hk => hk.elim) ?aF ?aO ?aB ?aS ?aL ?_; (case aP => exact rfl); (case aB => exact (by repeat (first | (with_reducible first | exact HB.out | apply below_alloc | apply pw_below_drewN | apply below_drew1) | exact HB.out))); (case aF => exact (fun _ _ => trivial)); (case aO => exact (by (with_reducible repeat (first | apply Kd.R_alloc | apply Kd.R_drewN | apply Kd.R_drew)); exact HO_3.out)); (case aS => exact (below_size (by repeat (first | (with_reducible first | exact HB.out | apply below_alloc | apply pw_below_drewN | apply below_drew1) | exact HB.out)))); (case aL => have := Hl.out; omega); intro v130 w11 ho hb hg hat; have n0_ := Aside0.mk (hb); have n1_ := Aside0.mk (ho); clear HB; clear HO_3; have HB := n0_; have HO131 := n1_; clear n0_ n1_; clear ho hb hg hat))
      go_roundw
      case rel => exact ⟨j + 1, by go_num, by omega, ⟨by rw [← HN.out]; exact HO131.out⟩, HB⟩
      case measure => simp [intOf]; omega
    · obtain rfl : j = 70 := by omega
      clear hlt
      obtain ⟨Ao14, co14, eo14⟩ := Kd.R_slice HO_3.out
      have hl : (xs ++ List.replicate 70 (165 : Int)).length = xs.length + 70 := by rw [List.length_append, List.length_replicate]
      rw [hl] at eo14
      subst eo14
      obtain ⟨i015, hi015, _, hsz15, _⟩ := info_parts info5
      have hcap := (Kd.R_reads' HO_3.out).2.1
      have hcut15 := cut_to (P := Try.prog) 22 5 .i64 Try.underlying22 hi015 Ao14 (xs.length + 70) co14 (xs.length : Int) (by omega) (by omega) hcap
      rw [Int.toNat_natCast] at hcut15
      clear hi015 hsz15 hcap hl
      go_wp2
      go_ret
      exact ⟨Ao14, co14, rfl, HO_3.out, HB.out⟩

set_option maxHeartbeats 4000000 in
set_option maxRecDepth 100000 in
theorem kept_calls (xs : List Int) (A B : Option Addr) (c d : Nat) (w : World) (hs : xs.length ≤ 140737488351232) (hc : xs.length + 70 ≤ c) (hr : (Kd.int .u8).C w A (xs.length + 70) (marked xs)) (hw : (Kd.int .u8).C w B xs.length xs) :
    Calls Try.prog 11 #[.slice A xs.length c, .slice B xs.length d] w fun e w' => e = .returned (.bool true) ∧ Drawn0 w w' := by
  have hpre : (Kd.int .u8).C w A xs.length (xs) := by
    refine Kd.C_of_reads (d := (0 : Int)) (h1 := fun _ => rfl) ?_
    have h2 := ReadsInt.take_ (Kd.reads_of_C (d := (0 : Int)) (h1 := fun _ => rfl) hr) xs.length (by omega)
    unfold marked at h2
    rwa [List.take_left' rfl] at h2
  have hcv := Kd.C_string (P := Try.prog) (A := A) (c := c) Try.underlying22 Try.underlying5 Try.underlying9 hpre
  have hcw := Kd.C_string (P := Try.prog) (A := B) (c := d) Try.underlying22 Try.underlying5 Try.underlying9 hw
  have hr2 : ReadsInt w .u8 A (xs.length + 70) (marked (xs)) := Kd.reads_of_C (d := (0 : Int)) (h1 := fun _ => rfl) hr
  obtain ⟨ad, rfl, hcell⟩ := hr2.2.2 (by omega)
  have hmark : ∀ j, xs.length ≤ j → j < xs.length + 70 → w.cell? (ad.add j) = some (.int .u8 165) := by
    intro j h1 h2
    rw [hcell j h2]
    have hl : xs.length = xs.length := rfl
    unfold marked
    rw [List.getD_eq_getElem?_getD, List.getElem?_append_right (by omega), List.getElem?_replicate, if_pos (by omega)]
    rfl
  have Hmark := Aside0.mk hmark
  have hji : IntKind.i64.wrap ((xs.length : Int) + 70) = (xs.length : Int) + 70 := by rw [i64_w]; exact wrap_id _ (by omega) (by omega)
  obtain ⟨i015, hi015, _, hsz15, _⟩ := info_parts info5
  have hcut : ∀ W : World, (Instr.slice 22 (.slice (some ad) xs.length c) none (some (.int .i64 ((xs.length : Int) + 70))) none).run Try.prog W = .ok (.slice (some ad) (xs.length + 70) c) W := by
    intro W
    have hel : Try.prog.elem 22 = 5 := by kernel_rfl
    have hu : Try.prog.underlying 22 = some (.slice (Try.prog.elem 22)) := by rw [hel]; exact Try.underlying22
    have hsz : (sizeOf 5).run Try.prog W = .ok 1 W := by kernel_rfl
    rw [run_slice_h W 22 (some ad) xs.length c hu .i64 ((xs.length : Int) + 70) (by omega) (by omega), hel, hsz]
    simp only [Result.andThen, sliced]
    rw [show ((xs.length : Int) + 70).toNat = xs.length + 70 from by omega]
    simp [Addr.add]
  clear hcell hr2 hr hpre hmark hi015 hsz15
  go_enter Try.func11, Try.ntmps11
  go_wp2
  repeat (go_quiet (fail); try go_wp2)
  go_loopw [6] (fun v6 wr => ∃ j : Nat, v6 = .int .i64 j ∧ xs.length ≤ j ∧ j ≤ xs.length + 70 ∧ Drawn0 w wr) (fun v6 _ => xs.length + 70 - (intOf v6).toNat)
  case atStart => exact ⟨xs.length, rfl, Nat.le_refl _, by omega, by repeat (first | exact Drawn0.refl _ | apply Drawn0.step)⟩
  case round =>
    obtain ⟨j, rfl, h1, h2, ⟨m, rfl⟩⟩ := hrel
    by_cases hlt : j < xs.length + 70
    · have hx : w.cell? (ad.add j) = some (.int .u8 165) := Hmark.out j h1 hlt
      go_wp2
      repeat (go_quiet (fail); try go_wp2)
      go_roundw
      case rel => exact ⟨j + 1, by go_num, by omega, by omega, by repeat (first | exact Drawn0.refl _ | apply Drawn0.step)⟩
      case measure => simp [intOf]; omega
    · obtain rfl : j = xs.length + 70 := by omega
      go_wp2
      repeat (go_quiet (fail); try go_wp2)
      go_ret
      exact ⟨rfl, by repeat (first | exact Drawn0.refl _ | apply Drawn0.step)⟩

theorem C_front {w : World} {A : Option Addr} {xs : List Int} (h : (Kd.int .u8).C w A (xs.length + 70) (marked xs)) : (Kd.int .u8).C w A xs.length xs := by
  refine Kd.C_of_reads (d := (0 : Int)) (h1 := fun _ => rfl) ?_
  have h2 := ReadsInt.take_ (Kd.reads_of_C (d := (0 : Int)) (h1 := fun _ => rfl) h) xs.length (by omega)
  unfold marked at h2
  rwa [List.take_left' rfl] at h2
theorem marked_len (xs : List Int) : (marked xs).length = xs.length + 70 := by unfold marked; rw [List.length_append, List.length_replicate]
theorem R_C {w : World} {base c : Nat} {A : Option Addr} {xs : List Int} (h : Kd.R (Kd.int .u8) 5 w base (fun _ => True) (.slice A (xs.length + 70) c) (marked xs)) : (Kd.int .u8).C w A (xs.length + 70) (marked xs) ∧ xs.length + 70 ≤ c := by
  have h2 := Kd.R_reads' h
  refine ⟨?_, h2.2.1⟩
  have := h2.2.2
  rwa [marked_len] at this
theorem V_true {w : World} {base : Nat} {A : Option Addr} {c : Nat} {xs : List Int} (hl : xs.length ≤ c) (h : (Kd.int .u8).C w A xs.length xs) : Kd.V (Kd.int .u8) 5 w base (fun _ => True) (.slice A xs.length c) xs :=
  Kd.V_mk hl fun _ hW => Kd.C_F (Kd.heap_int .u8) h _ fun k hk hlt => hW k trivial hlt
/-- A row of bytes that lies in a block as a whole. -/
theorem C_lit {w : World} {g : Nat} {t : TypeId} {xs : List Int} {cs : Array Value} {fr : Nat × Nat} (h : w.heap[g]? = some (.cells cs t fr)) (hs : xs.length ≤ 9223372036854775807) (hcs : cs.toList = nums .u8 xs) : (Kd.int .u8).C w (some ⟨g, 0, none⟩) xs.length xs := by
  refine Kd.C_of_reads (d := (0 : Int)) (h1 := fun _ => rfl) ⟨rfl, hs, fun _ => ⟨_, rfl, fun j hj => ?_⟩⟩
  have ha : (⟨g, 0, none⟩ : Addr).add j = ⟨g, j, none⟩ := by unfold Addr.add; split <;> simp_all
  rw [ha, cell_of_row w g j cs t fr h]
  rw [← Array.getElem?_toList, hcs]
  simp [nums, List.getD_eq_getElem?_getD, List.getElem?_eq_getElem hj]
end Go.Proofs.Ytokgckhhhhigiaa.Lent
