/- lent and kept of the statements (walked by hand): the same bytes in memory of their own with marks behind them, and whether they still stand. -/
import Derived.Test.YtfljmojiglkckaaDoorBase
import Derived.Test.YtfljmojiglkckaaDoorMk
import Derived.Test.YtfljmojiglkckaaDoorG0
namespace Go.Proofs.YtfljmojiglkckaaDoor.Lent
set_option linter.unusedVariables false
set_option linter.unusedSimpArgs false
open Go.RowKit Go.Proofs.YtfljmojiglkckaaDoorW.PrintWords Go.Proofs.YtfljmojiglkckaaDoorW.PrintLast Go.Proofs.YtfljmojiglkckaaDoorW.PrintMore Go.Proofs.YtfljmojiglkckaaDoor.B Go.Proofs.YtfljmojiglkckaaDoor.M Go.Proofs.YtfljmojiglkckaaDoor.G

/-- The bytes, and the marks. -/
def marked (xs : List Int) : List Int := xs ++ List.replicate 70 165

theorem ret_val {a b : Value} (h : a = b) : Ending.returned a = .returned b := by rw [h]

set_option maxHeartbeats 4000000 in
set_option maxRecDepth 100000 in
theorem lent_calls (s : ByteArray) (w : World) (hs : s.size ≤ 140737488351232) :
    Calls Tryd.prog 16 #[.string s] w fun e w' => ∃ (A : Option Addr) (c : Nat), e = .returned (.slice A s.size c) ∧ Kd.R (Kd.int .u8) 5 w' w.heap.size (fun _ => True) (.slice A (s.size + 70) c) (marked (bytesOf s)) ∧ Below w.heap.size w w' := by
  have HB := Aside0.mk (Below.refl w.heap.size w)
  have hji : IntKind.i64.wrap ((s.size : Int) + 70) = (s.size : Int) + 70 := by rw [i64_w]; exact wrap_id _ (by omega) (by omega)
  have e0 : ([] : List Int) ++ bytesOf s = bytesOf s := List.nil_append _
  have E0 := Aside0.mk e0
  clear e0
  have hlen := Aside0.mk (bytesOf_len s)
  go_enter Tryd.func16, Tryd.ntmps16
  go_wp2_with (first
    | ((with_reducible refine gate_dst (N := 7) rfl ?_); refine Kd.R_make_cap (Kd.int .u8) _ 5 rfl (N := 7) rfl 25 _ _ rfl ((s.size : Int) + 70) rfl rfl Tryd.underlying25 (.int .u8 0) 1 info5 rfl (by decide) (by omega) 0 (ok := fun _ => True) (okp := fun _ => True) rfl (fun _ hk => hk) trivial (by omega) (by omega) (Below.refl _ _) (Nat.le_refl _) ?_; intro v124 w6 ho7 hb hg_ hnew_; clear hg_ hnew_; have n0_ := Aside0.mk (Kd.R_lower ho7 (below_size (by repeat (first | (with_reducible first | exact HB.out | apply below_alloc | apply pw_below_drewN | apply below_drew1) | exact HB.out)))); have n1_ := Aside0.mk (below_step (by repeat (first | (with_reducible first | exact HB.out | apply below_alloc | apply pw_below_drewN | apply below_drew1) | exact HB.out)) hb); clear HB; have HO125 := n0_; have HB := n1_; clear n0_ n1_; clear hb ho7)
    | (at_builtin; refine print_append_str (w0 := w) w.heap.size rfl (.tmp 8) _ 25 9 5 rfl Tryd.underlying25 Tryd.underlying9 info5 v124 ([] : List Int) s rfl rfl ?aO ?aB ?aS ?aL ?_; (case aB => exact (by repeat (first | (with_reducible first | exact HB.out | apply below_alloc | apply pw_below_drewN | apply below_drew1) | exact HB.out))); (case aO => exact (Kd.own_of_R (by (with_reducible repeat (first | apply Kd.R_alloc | apply Kd.R_drewN | apply Kd.R_drew)); exact HO125.out))); (case aS => exact (below_size (by repeat (first | (with_reducible first | exact HB.out | apply below_alloc | apply pw_below_drewN | apply below_drew1) | exact HB.out)))); (case aL => simp; omega); intro v127 w8 ho0 hb hg; have ho := Kd.R_of_own (h1 := fun _ => rfl) (ok := fun _ => True) ho0 (fun _ _ => trivial); clear ho0; rw [E0.out] at ho; change Kd.R (Kd.int .u8) 5 w8 w.heap.size (fun _ => True) v127 (bytesOf s) at ho; have n0_ := Aside0.mk (hb); have n1_ := Aside0.mk (ho); clear HB; clear HO125; have HB := n0_; have HO128 := n1_; clear n0_ n1_; clear ho hb hg))
  go_loopw [3, 11] (fun v3 v11 wr => ∃ j : Nat, v11 = .int .i64 j ∧ j ≤ 70 ∧ Aside0 (Kd.R (Kd.int .u8) 5 wr w.heap.size (fun _ => True) v3 (bytesOf s ++ List.replicate j 165)) ∧ Aside0 (Below w.heap.size w wr)) (fun _ v11 _ => 70 - (intOf v11).toNat)
  case atStart => exact ⟨0, rfl, by omega, ⟨by rw [List.replicate_zero, List.append_nil]; exact HO128.out⟩, HB⟩
  case round =>
    try clear HB
    try clear HO128
    obtain ⟨j, rfl, hj, HO_3, HB⟩ := hrel
    by_cases hlt : j < 70
    · have Hl := Aside0.mk (show (bytesOf s ++ List.replicate j 165).length < 140737488355328 by rw [List.length_append, List.length_replicate, bytesOf_len]; omega)
      obtain ⟨y, hy⟩ : ∃ y, y = bytesOf s ++ List.replicate j (165 : Int) := ⟨_, rfl⟩
      have hnext : y ++ [165] = bytesOf s ++ List.replicate (j + 1) 165 := by rw [hy, List.replicate_succ', List.append_assoc]
      rw [← hy] at HO_3 Hl
      have HN := Aside0.mk hnext
      clear hnext hy
      go_wp2_with (first | ((with_reducible refine gate_builtin (b := .append) (xs := #[.tmp 13, .tmp 14]) rfl ?_); at_builtin; refine Kd.R_append (Kd.int .u8) (w0 := w) w.heap.size rfl (.tmp 13) (.tmp 14) 25 5 (.int .u8 0) 1 rfl Tryd.underlying25 info5 rfl (by decide) (by omega) u3 y 165 [.int .u8 165] (fun _ => True) (fun _ => False) rfl rfl ?aP (fun _ hk => hk.elim) ?aF ?aO ?aB ?aS ?aL ?_; (case aP => exact rfl); (case aB => exact (by repeat (first | (with_reducible first | exact HB.out | apply below_alloc | apply pw_below_drewN | apply below_drew1) | exact HB.out))); (case aF => exact (fun _ _ => trivial)); (case aO => exact (by (with_reducible repeat (first | apply Kd.R_alloc | apply Kd.R_drewN | apply Kd.R_drew)); exact HO_3.out)); (case aS => exact (below_size (by repeat (first | (with_reducible first | exact HB.out | apply below_alloc | apply pw_below_drewN | apply below_drew1) | exact HB.out)))); (case aL => have := Hl.out; omega); intro v130 w11 ho hb hg hat; have n0_ := Aside0.mk (hb); have n1_ := Aside0.mk (ho); clear HB; clear HO_3; have HB := n0_; have HO131 := n1_; clear n0_ n1_; clear ho hb hg hat))
      go_roundw
      case rel => exact ⟨j + 1, by go_num, by omega, ⟨by rw [← HN.out]; exact HO131.out⟩, HB⟩
      case measure => simp [intOf]; omega
    · obtain rfl : j = 70 := by omega
      clear hlt
      obtain ⟨Ao14, co14, eo14⟩ := Kd.R_slice HO_3.out
      have hl : (bytesOf s ++ List.replicate 70 (165 : Int)).length = s.size + 70 := by rw [List.length_append, List.length_replicate, bytesOf_len]
      rw [hl] at eo14
      subst eo14
      obtain ⟨i015, hi015, _, hsz15, _⟩ := info_parts info5
      have hcap := (Kd.R_reads' HO_3.out).2.1
      have hcut15 := cut_to (P := Tryd.prog) 25 5 .i64 Tryd.underlying25 hi015 Ao14 (s.size + 70) co14 (s.size : Int) (by omega) (by omega) hcap
      rw [Int.toNat_natCast] at hcut15
      clear hi015 hsz15 hcap hl
      go_wp2
      go_ret
      exact ⟨Ao14, co14, rfl, HO_3.out, HB.out⟩

set_option maxHeartbeats 4000000 in
set_option maxRecDepth 100000 in
theorem kept_calls (s : ByteArray) (A : Option Addr) (c : Nat) (w : World) (hs : s.size ≤ 140737488351232) (hc : s.size + 70 ≤ c) (hr : (Kd.int .u8).C w A (s.size + 70) (marked (bytesOf s))) :
    Calls Tryd.prog 21 #[.slice A s.size c, .string s] w fun e w' => e = .returned (.bool true) ∧ Drawn0 w w' := by
  have hpre : (Kd.int .u8).C w A s.size (bytesOf s) := by
    refine Kd.C_of_reads (d := (0 : Int)) (h1 := fun _ => rfl) ?_
    have h2 := ReadsInt.take_ (Kd.reads_of_C (d := (0 : Int)) (h1 := fun _ => rfl) hr) s.size (by omega)
    unfold marked at h2
    rwa [List.take_left' (bytesOf_len s)] at h2
  have hcv := Kd.C_string (P := Tryd.prog) (A := A) (c := c) Tryd.underlying25 Tryd.underlying5 Tryd.underlying9 hpre
  rw [strOfNums_bytesOf] at hcv
  have hr2 : ReadsInt w .u8 A (s.size + 70) (marked (bytesOf s)) := Kd.reads_of_C (d := (0 : Int)) (h1 := fun _ => rfl) hr
  obtain ⟨ad, rfl, hcell⟩ := hr2.2.2 (by omega)
  have hmark : ∀ j, s.size ≤ j → j < s.size + 70 → w.cell? (ad.add j) = some (.int .u8 165) := by
    intro j h1 h2
    rw [hcell j h2]
    have hl := bytesOf_len s
    unfold marked
    rw [List.getD_eq_getElem?_getD, List.getElem?_append_right (by omega), List.getElem?_replicate, if_pos (by omega)]
    rfl
  have Hmark := Aside0.mk hmark
  have hji : IntKind.i64.wrap ((s.size : Int) + 70) = (s.size : Int) + 70 := by rw [i64_w]; exact wrap_id _ (by omega) (by omega)
  obtain ⟨i015, hi015, _, hsz15, _⟩ := info_parts info5
  have hcut : ∀ W : World, (Instr.slice 25 (.slice (some ad) s.size c) none (some (.int .i64 ((s.size : Int) + 70))) none).run Tryd.prog W = .ok (.slice (some ad) (s.size + 70) c) W := by
    intro W
    have hel : Tryd.prog.elem 25 = 5 := by kernel_rfl
    have hu : Tryd.prog.underlying 25 = some (.slice (Tryd.prog.elem 25)) := by rw [hel]; exact Tryd.underlying25
    have hsz : (sizeOf 5).run Tryd.prog W = .ok 1 W := by kernel_rfl
    rw [run_slice_h W 25 (some ad) s.size c hu .i64 ((s.size : Int) + 70) (by omega) (by omega), hel, hsz]
    simp only [Result.andThen, sliced]
    rw [show ((s.size : Int) + 70).toNat = s.size + 70 from by omega]
    simp [Addr.add]
  clear hcell hr2 hr hpre hmark hi015 hsz15
  go_enter Tryd.func21, Tryd.ntmps21
  go_wp2
  repeat (go_quiet (fail); try go_wp2)
  go_loopw [6] (fun v6 wr => ∃ j : Nat, v6 = .int .i64 j ∧ s.size ≤ j ∧ j ≤ s.size + 70 ∧ Drawn0 w wr) (fun v6 _ => s.size + 70 - (intOf v6).toNat)
  case atStart => exact ⟨s.size, rfl, Nat.le_refl _, by omega, by repeat (first | exact Drawn0.refl _ | apply Drawn0.step)⟩
  case round =>
    obtain ⟨j, rfl, h1, h2, ⟨m, rfl⟩⟩ := hrel
    by_cases hlt : j < s.size + 70
    · have hx : w.cell? (ad.add j) = some (.int .u8 165) := Hmark.out j h1 hlt
      go_wp2
      repeat (go_quiet (fail); try go_wp2)
      go_roundw
      case rel => exact ⟨j + 1, by go_num, by omega, by omega, by repeat (first | exact Drawn0.refl _ | apply Drawn0.step)⟩
      case measure => simp [intOf]; omega
    · obtain rfl : j = s.size + 70 := by omega
      go_wp2
      repeat (go_quiet (fail); try go_wp2)
      go_ret
      exact ⟨rfl, by repeat (first | exact Drawn0.refl _ | apply Drawn0.step)⟩
end Go.Proofs.YtfljmojiglkckaaDoor.Lent
