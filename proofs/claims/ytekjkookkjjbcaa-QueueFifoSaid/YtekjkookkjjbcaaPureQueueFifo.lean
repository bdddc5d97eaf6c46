/- QueueFifo: what goes in comes out, in that order; what there is no room for does not (walked by hand). -/
import Derived.Test.YtekjkookkjjbcaaFifo
import Derived.Deep.LoopGhost
namespace Go.Proofs.Ytekjkookkjjbcaa.Pure
set_option linter.unusedVariables false
set_option linter.unusedSimpArgs false
set_option linter.unusedVariables false
set_option linter.unusedSimpArgs false
open Go.RowKit Go.Proofs.YtekjkookkjjbcaaW.PrintWords Go.Proofs.YtekjkookkjjbcaaW.PrintLast Go.Proofs.YtekjkookkjjbcaaW.PrintMore Go.Proofs.Ytekjkookkjjbcaa.B Go.Proofs.Ytekjkookkjjbcaa.M Go.Proofs.Ytekjkookkjjbcaa.RI
theorem tmod4 (t : Int) : Int.tmod t 4 ≤ 3 ∧ -3 ≤ Int.tmod t 4 := by
  have h := Int.natAbs_tmod t 4
  rw [show (4 : Int).natAbs = 4 from rfl] at h
  omega
theorem fifo_bad (a0 : Int) (v1 v2 : Value) (w : World) (hm : a0 < 1 ∨ a0 > 1048576) :
    Calls Try.prog 5 #[.int .i64 a0, v1, v2] w fun e w' => e = .returned (.bool true) ∧ Below w.heap.size w w' := by
  have HM := Aside0.mk hm
  rcases hm with h | h
  · have k1 : decide (a0 < 1) = true := decide_eq_true h
    go_enter Try.func5, Try.ntmps5
    go_wp2_with (first
      | ((go_at_call 24); (with_reducible refine (wakes_calls _).mono ?_); rintro e w1 ⟨rfl, hb1⟩; have HB := Aside0.mk hb1; clear hb1)
      | ((go_at_call 25); (with_reducible refine (new_bad _ a0 HM.out).mono ?_); rintro e w2 ⟨rfl, ⟨m2, rfl⟩⟩))
    go_ret
    exact ⟨rfl, pw_below_drewN HB.out _⟩
  · have k1 : decide (a0 < 1) = false := decide_eq_false (by omega)
    have k2 : decide (a0 > 1048576) = true := decide_eq_true h
    have k3 : decide (1048576 < a0) = true := decide_eq_true h
    go_enter Try.func5, Try.ntmps5
    go_wp2_with (first
      | ((go_at_call 24); (with_reducible refine (wakes_calls _).mono ?_); rintro e w1 ⟨rfl, hb1⟩; have HB := Aside0.mk hb1; clear hb1)
      | ((go_at_call 25); (with_reducible refine (new_bad _ a0 HM.out).mono ?_); rintro e w2 ⟨rfl, ⟨m2, rfl⟩⟩))
    go_ret
    exact ⟨rfl, pw_below_drewN HB.out _⟩
set_option maxHeartbeats 8000000 in
set_option maxRecDepth 100000 in
theorem fifo_good (a0 : Int) (a1 : Option Addr) (len1 cap1 : Nat) (a2 : Option Addr) (len2 cap2 : Nat) (w : World) (hm : 1 ≤ a0 ∧ a0 ≤ 1048576)
    (hl1 : len1 ≤ 17592186044416) (h1 : ∀ i, i < len1 → ∃ x v, a1 = some x ∧ w.cell? (x.add i) = some (.int .i64 v))
    (hl2 : len2 ≤ 17592186044416) (h2 : ∀ i, i < len2 → ∃ x v, a2 = some x ∧ w.cell? (x.add i) = some (.int .i64 v)) :
    Calls Try.prog 5 #[.int .i64 a0, .slice a1 len1 cap1, .slice a2 len2 cap2] w fun e w' => e = .returned (.bool true) ∧ Below w.heap.size w w' := by
  have HM := Aside0.mk hm
  have k1 : decide (a0 < 1) = false := decide_eq_false (by omega)
  have k2 : decide (a0 > 1048576) = false := decide_eq_false (by omega)
  have k3 : decide (1048576 < a0) = false := decide_eq_false (by omega)
  have H1 := Aside0.mk h1
  have H2 := Aside0.mk h2
  have HL := Aside0.mk (show len1 ≤ 17592186044416 ∧ len2 ≤ 17592186044416 from ⟨hl1, hl2⟩)
  clear hm h1 h2 hl1 hl2
  go_enter Try.func5, Try.ntmps5
  go_wp2_with (first
    | ((go_at_call 24); (with_reducible refine (wakes_calls _).mono ?_); rintro e w1 ⟨rfl, hb1⟩; have HB := Aside0.mk hb1; clear hb1)
    | ((go_at_call 25); (with_reducible refine (new_q w _ HB.out a0 HM.out).mono ?_); rintro e w2 ⟨g, rfl, hq, _, _⟩; have HA := Aside0.mk (show FI w w2 g a0 none (.slice none 0 0) (.slice none 0 0) [] [] [] from ⟨hq, Kd.R_nil _ _ _ _ _, Kd.R_nil _ _ _ _ _, fun j hj => by simp [Value.ownBlock] at hj, fun j hj => by simp [Value.ownBlock] at hj, fun j hj => by simp [Value.ownBlock] at hj⟩); clear hq))
  clear k1 k2 k3 HB
  go_loopg [9, 10, 47] len1 (fun kq v9 v10 v47 W => ∃ (i : Nat) (b : Option Nat) (inn out ring : List Int), v47 = .int .i64 (i : Int) ∧ Aside0 (i ≤ len1 ∧ len1 - i ≤ kq ∧ inn = out ++ ring ∧ inn.length ≤ i) ∧ Aside0 (FI w W g a0 b v9 v10 inn out ring))
  case atStart => exact ⟨0, none, [], [], [], rfl, ⟨Nat.zero_le _, by omega, rfl, Nat.le_refl _⟩, HA⟩
  case round =>
    clear HA
    obtain ⟨i, b, inn, out, ring, rfl, HI, HF⟩ := hrel
    by_cases hlt : i < len1
    · cases gk with
      | zero => exact absurd HI.out.2.1 (by omega)
      | succ k9 =>
      obtain ⟨x, v, rfl, hc⟩ := H1.out i hlt
      have hc1 := pw_cell_below HF.out.rq.bl hc
      have hl2 : decide ((i : Int) < (len1 : Int)) = true := decide_eq_true (by omega)
      have p1 := eq_true (show (0 : Int) ≤ (i : Int) by omega)
      have p2 := eq_true (show (i : Int) < (len1 : Int) by omega)
      obtain ⟨room, hroom⟩ : ∃ room, a0 - (ring.length : Int) = room := ⟨_, rfl⟩
      have HI3 := Aside0.mk (show i + 1 ≤ len1 ∧ len1 - (i + 1) ≤ k9 ∧ i ≤ 17592186044416 from ⟨by omega, by have h_ := HI.out; omega, by have h_ := HL.out; omega⟩)
      have HRM := Aside0.mk (fun (W : World) (h : RQ w W g a0 ring b) => room_q h)
      rw [hroom] at HRM
      clear hc hlt
      by_cases hfull : (ring.length : Int) < a0
      · have r1 : decide (room > 0) = true := decide_eq_true (by omega)
        have r2 : decide (0 < room) = true := decide_eq_true (by omega)
        have HFU := Aside0.mk hfull
        clear hfull hroom
        go_wp2_with (first
          | ((go_at_call 26); (with_reducible refine (HRM.out _ HF.out.rq).mono ?_); rintro e w3 ⟨rfl, hd⟩; have n0 := Aside0.mk (HF.out.below hd.below); clear HF hd; have HF := n0; clear n0)
          | ((go_at_call 27); (with_reducible refine (push_q HF.out.rq v HFU.out).mono ?_); rintro e w4 ⟨rfl, b4, hq, hk, hm⟩; have n0 := Aside0.mk (HF.out.pushed hq hk hm); clear HF hq hk hm; have HF := n0; clear n0)
          | ((with_reducible refine gate_builtin (b := .append) (xs := #[.tmp 72, .tmp 74]) rfl ?_); at_builtin; refine Kd.R_append (Kd.int .i64) (w0 := w) w.heap.size rfl (.tmp 72) (.tmp 74) 40 3 (.int .i64 0) 8 rfl Try.underlying40 infoR rfl (by decide) (by omega) u9 inn v [.int .i64 v] (fun _ => True) (fun _ => False) rfl rfl rfl (fun _ hk => hk.elim) (fun _ _ => trivial) HF.out.ii HF.out.rq.bl (below_size HF.out.rq.bl) (by have h_ := HI.out; have h2_ := HI3.out; have h3_ := HL.out; omega) ?_; intro u9 w5 ho hb hg hat; have n0 := Aside0.mk (HF.out.appI ho hg hat); clear HF ho hb hg hat; have HF := n0; clear n0))
        have key : ∃ inn' ring', Aside0 (inn' = out ++ ring' ∧ inn'.length ≤ i + 1) ∧ Aside0 (FI w w5 g a0 b4 u9 u10 inn' out ring') := ⟨inn ++ [v], ring ++ [v], ⟨by rw [HI.out.2.2.1, List.append_assoc], by have h_ := HI.out; rw [List.length_append]; show inn.length + 1 ≤ _; omega⟩, HF⟩
        clear HF HI HRM HFU r1 r2
        obtain ⟨inn, ring, HI, HF⟩ := key
        clear p1 p2 hl2 hc1
        go_loopg [10, 14] 4 (fun kq v10 v14 W => ∃ (k : Nat) (out ring : List Int), v14 = .int .i64 (k : Int) ∧ Aside0 (k ≤ 3 ∧ 3 - k < kq ∧ inn = out ++ ring) ∧ Aside0 (FI w W g a0 b4 u9 v10 inn out ring))
        case atStart => exact ⟨0, out, ring, rfl, ⟨by omega, by omega, HI.out.1⟩, HF⟩
        case round =>
          have HIL := Aside0.mk HI.out.2
          clear HF HI
          obtain ⟨k, out, ring, rfl, HK, HF⟩ := hrel
          have q1 : IntKind.i64.wrap ((k : Int) + 1) = ((k + 1 : Nat) : Int) := by have h_ := HK.out; rw [i64_w, wrap_id _ (by omega) (by omega)]; rfl
          obtain ⟨A9, c9, rfl⟩ := Kd.R_slice HF.out.ii
          obtain ⟨A10, c10, rfl⟩ := Kd.R_slice HF.out.oo
          have q5 : IntKind.i64.wrap ((inn.length : Int) - (out.length : Int)) = (ring.length : Int) := by have h_ := HK.out; have h2_ := HI3.out; have h3_ := HIL.out; have h4_ := congrArg List.length h_.2.2; rw [List.length_append] at h4_; rw [i64_w, wrap_id _ (by omega) (by omega)]; omega
          have q6 : IntKind.i64.wrap (a0 - (ring.length : Int)) = a0 - (ring.length : Int) := by have h_ := HF.out.rq.bounds; rw [i64_w, wrap_id _ (by omega) (by omega)]
          have q7 : IntKind.i64.wrap ((i : Int) + 1) = ((i + 1 : Nat) : Int) := by have h_ := HI3.out; rw [i64_w, wrap_id _ (by omega) (by omega)]; rfl
          have HR := Aside0.mk (show i + 1 ≤ len1 ∧ len1 - (i + 1) ≤ k9 ∧ inn = out ++ ring ∧ inn.length ≤ i + 1 from ⟨HI3.out.1, HI3.out.2.1, HK.out.2.2, HIL.out⟩)
          by_cases c1 : i < len2
          · obtain ⟨x2, t, rfl, hc2⟩ := H2.out i c1
            have hc := pw_cell_below HF.out.rq.bl hc2
            have p1 := eq_true (show (0 : Int) ≤ (i : Int) by omega)
            have p2 := eq_true (show (i : Int) < (len2 : Int) by omega)
            have d1 : decide ((i : Int) < (len2 : Int)) = true := decide_eq_true (by omega)
            have d2 : decide (i < len2) = true := decide_eq_true c1
            obtain ⟨m, hm⟩ : ∃ m, Int.tmod t 4 = m := ⟨_, rfl⟩
            have hm3 : m ≤ 3 ∧ -3 ≤ m := by rw [← hm]; exact tmod4 t
            have m2 : IntKind.i64.wrap m = m := by rw [i64_w, wrap_id _ (by omega) (by omega)]
            clear hc2 c1
            by_cases c2 : (k : Int) < m
            · have d3 : decide ((k : Int) < m) = true := decide_eq_true c2
              cases gk with
              | zero => exact absurd HK.out.2.1 (by omega)
              | succ k8 =>
              have HK2 := Aside0.mk (show k + 1 ≤ 3 ∧ 3 - (k + 1) < k8 from ⟨by omega, by have h_ := HK.out; omega⟩)
              clear c2 hm3
              cases ring with
              | nil =>
                go_wp2_with (first
                  | ((go_at_call 28); (with_reducible refine (pop_none HF.out.rq).mono ?_); rintro e w6 ⟨rfl, hd⟩; have n0 := Aside0.mk (HF.out.below hd.below); clear HF hd; have HF := n0; clear n0))
                go_roundg k8
                case measure => have h_ := HK2.out; omega
                case rel => exact ⟨k + 1, out, [], rfl, ⟨HK2.out.1, HK2.out.2, HK.out.2.2⟩, HF⟩
              | cons y ring =>
                go_wp2_with (first
                  | ((go_at_call 28); (with_reducible refine (pop_q HF.out.rq).mono ?_); rintro e w6 ⟨rfl, hq, hk⟩; have n0 := Aside0.mk (HF.out.pushed hq hk (.inl rfl)); clear HF hq hk; have HF := n0; clear n0)
                  | ((with_reducible refine gate_builtin (b := .append) (xs := #[.tmp 97, .tmp 99]) rfl ?_); at_builtin; refine Kd.R_append (Kd.int .i64) (w0 := w) w.heap.size rfl (.tmp 97) (.tmp 99) 40 3 (.int .i64 0) 8 rfl Try.underlying40 infoR rfl (by decide) (by omega) (.slice A10 out.length c10) out y [.int .i64 y] (fun _ => True) (fun _ => False) (by kernel_rfl) (by kernel_rfl) rfl (fun _ hk => hk.elim) (fun _ _ => trivial) HF.out.oo HF.out.rq.bl (below_size HF.out.rq.bl) (by have h_ := HK.out; have h2_ := HI3.out; have h3_ := HIL.out; have h5_ := HL.out; have h4_ := congrArg List.length h_.2.2; rw [List.length_append, List.length_cons] at h4_; omega) ?_; intro u10 w7 ho hb hg hat; have n0 := Aside0.mk (HF.out.appO ho hg hat); clear HF ho hb hg hat; have HF := n0; clear n0))
                go_roundg k8
                case measure => have h_ := HK2.out; omega
                case rel => exact ⟨k + 1, out ++ [y], ring, rfl, ⟨HK2.out.1, HK2.out.2, by rw [HK.out.2.2, List.append_assoc]; rfl⟩, HF⟩
            · have d3 : decide ((k : Int) < m) = false := decide_eq_false c2
              clear c2 hm3 HK
              go_wp2_with (first
                | ((go_at_call 29); (with_reducible refine (len_q HF.out.rq).mono ?_); rintro e w8 ⟨rfl, hd⟩; have n0 := Aside0.mk (HF.out.below hd.below); clear HF hd; have HF := n0; clear n0)
                | ((go_at_call 26); (with_reducible refine (room_q HF.out.rq).mono ?_); rintro e w9 ⟨rfl, hd⟩; have n0 := Aside0.mk (HF.out.below hd.below); clear HF hd; have HF := n0; clear n0))
              go_roundg k9
              case measure => have h_ := HI3.out; omega
              case rel => exact ⟨i + 1, b4, inn, out, ring, rfl, HR, HF⟩
          · have d1 : decide ((i : Int) < (len2 : Int)) = false := decide_eq_false (by omega)
            have d2 : decide (i < len2) = false := decide_eq_false c1
            clear c1 HK
            go_wp2_with (first
              | ((go_at_call 29); (with_reducible refine (len_q HF.out.rq).mono ?_); rintro e w8 ⟨rfl, hd⟩; have n0 := Aside0.mk (HF.out.below hd.below); clear HF hd; have HF := n0; clear n0)
              | ((go_at_call 26); (with_reducible refine (room_q HF.out.rq).mono ?_); rintro e w9 ⟨rfl, hd⟩; have n0 := Aside0.mk (HF.out.below hd.below); clear HF hd; have HF := n0; clear n0))
            go_roundg k9
            case measure => have h_ := HI3.out; omega
            case rel => exact ⟨i + 1, b4, inn, out, ring, rfl, HR, HF⟩
      · have hfl : (ring.length : Int) = a0 := by have h_ := HF.out.rq.bounds; omega
        have r1 : decide (room > 0) = false := decide_eq_false (by omega)
        have r2 : decide (0 < room) = false := decide_eq_false (by omega)
        have HFU := Aside0.mk hfl
        clear hfull hroom hfl
        go_wp2_with (first
          | ((go_at_call 26); (with_reducible refine (HRM.out _ HF.out.rq).mono ?_); rintro e w3 ⟨rfl, hd⟩; have n0 := Aside0.mk (HF.out.below hd.below); clear HF hd; have HF := n0; clear n0)
          | ((go_at_call 27); (with_reducible refine (push_q_full HF.out.rq v HFU.out).mono ?_); rintro e w4 ⟨rfl, hd⟩; have n0 := Aside0.mk (HF.out.below hd.below); clear HF hd; have HF := n0; clear n0))
        have key : ∃ inn' ring', Aside0 (inn' = out ++ ring' ∧ inn'.length ≤ i + 1) ∧ Aside0 (FI w w4 g a0 b u9 u10 inn' out ring') := ⟨inn, ring, ⟨HI.out.2.2.1, by have h_ := HI.out; omega⟩, HF⟩
        clear HF HI HRM HFU r1 r2
        obtain ⟨inn, ring, HI, HF⟩ := key
        clear p1 p2 hl2 hc1
        go_loopg [10, 14] 4 (fun kq v10 v14 W => ∃ (k : Nat) (out ring : List Int), v14 = .int .i64 (k : Int) ∧ Aside0 (k ≤ 3 ∧ 3 - k < kq ∧ inn = out ++ ring) ∧ Aside0 (FI w W g a0 b u9 v10 inn out ring))
        case atStart => exact ⟨0, out, ring, rfl, ⟨by omega, by omega, HI.out.1⟩, HF⟩
        case round =>
          have HIL := Aside0.mk HI.out.2
          clear HF HI
          obtain ⟨k, out, ring, rfl, HK, HF⟩ := hrel
          have q1 : IntKind.i64.wrap ((k : Int) + 1) = ((k + 1 : Nat) : Int) := by have h_ := HK.out; rw [i64_w, wrap_id _ (by omega) (by omega)]; rfl
          obtain ⟨A9, c9, rfl⟩ := Kd.R_slice HF.out.ii
          obtain ⟨A10, c10, rfl⟩ := Kd.R_slice HF.out.oo
          have q5 : IntKind.i64.wrap ((inn.length : Int) - (out.length : Int)) = (ring.length : Int) := by have h_ := HK.out; have h2_ := HI3.out; have h3_ := HIL.out; have h4_ := congrArg List.length h_.2.2; rw [List.length_append] at h4_; rw [i64_w, wrap_id _ (by omega) (by omega)]; omega
          have q6 : IntKind.i64.wrap (a0 - (ring.length : Int)) = a0 - (ring.length : Int) := by have h_ := HF.out.rq.bounds; rw [i64_w, wrap_id _ (by omega) (by omega)]
          have q7 : IntKind.i64.wrap ((i : Int) + 1) = ((i + 1 : Nat) : Int) := by have h_ := HI3.out; rw [i64_w, wrap_id _ (by omega) (by omega)]; rfl
          have HR := Aside0.mk (show i + 1 ≤ len1 ∧ len1 - (i + 1) ≤ k9 ∧ inn = out ++ ring ∧ inn.length ≤ i + 1 from ⟨HI3.out.1, HI3.out.2.1, HK.out.2.2, HIL.out⟩)
          by_cases c1 : i < len2
          · obtain ⟨x2, t, rfl, hc2⟩ := H2.out i c1
            have hc := pw_cell_below HF.out.rq.bl hc2
            have p1 := eq_true (show (0 : Int) ≤ (i : Int) by omega)
            have p2 := eq_true (show (i : Int) < (len2 : Int) by omega)
            have d1 : decide ((i : Int) < (len2 : Int)) = true := decide_eq_true (by omega)
            have d2 : decide (i < len2) = true := decide_eq_true c1
            obtain ⟨m, hm⟩ : ∃ m, Int.tmod t 4 = m := ⟨_, rfl⟩
            have hm3 : m ≤ 3 ∧ -3 ≤ m := by rw [← hm]; exact tmod4 t
            have m2 : IntKind.i64.wrap m = m := by rw [i64_w, wrap_id _ (by omega) (by omega)]
            clear hc2 c1
            by_cases c2 : (k : Int) < m
            · have d3 : decide ((k : Int) < m) = true := decide_eq_true c2
              cases gk with
              | zero => exact absurd HK.out.2.1 (by omega)
              | succ k8 =>
              have HK2 := Aside0.mk (show k + 1 ≤ 3 ∧ 3 - (k + 1) < k8 from ⟨by omega, by have h_ := HK.out; omega⟩)
              clear c2 hm3
              cases ring with
              | nil =>
                go_wp2_with (first
                  | ((go_at_call 28); (with_reducible refine (pop_none HF.out.rq).mono ?_); rintro e w6 ⟨rfl, hd⟩; have n0 := Aside0.mk (HF.out.below hd.below); clear HF hd; have HF := n0; clear n0))
                go_roundg k8
                case measure => have h_ := HK2.out; omega
                case rel => exact ⟨k + 1, out, [], rfl, ⟨HK2.out.1, HK2.out.2, HK.out.2.2⟩, HF⟩
              | cons y ring =>
                go_wp2_with (first
                  | ((go_at_call 28); (with_reducible refine (pop_q HF.out.rq).mono ?_); rintro e w6 ⟨rfl, hq, hk⟩; have n0 := Aside0.mk (HF.out.pushed hq hk (.inl rfl)); clear HF hq hk; have HF := n0; clear n0)
                  | ((with_reducible refine gate_builtin (b := .append) (xs := #[.tmp 97, .tmp 99]) rfl ?_); at_builtin; refine Kd.R_append (Kd.int .i64) (w0 := w) w.heap.size rfl (.tmp 97) (.tmp 99) 40 3 (.int .i64 0) 8 rfl Try.underlying40 infoR rfl (by decide) (by omega) (.slice A10 out.length c10) out y [.int .i64 y] (fun _ => True) (fun _ => False) (by kernel_rfl) (by kernel_rfl) rfl (fun _ hk => hk.elim) (fun _ _ => trivial) HF.out.oo HF.out.rq.bl (below_size HF.out.rq.bl) (by have h_ := HK.out; have h2_ := HI3.out; have h3_ := HIL.out; have h5_ := HL.out; have h4_ := congrArg List.length h_.2.2; rw [List.length_append, List.length_cons] at h4_; omega) ?_; intro u10 w7 ho hb hg hat; have n0 := Aside0.mk (HF.out.appO ho hg hat); clear HF ho hb hg hat; have HF := n0; clear n0))
                go_roundg k8
                case measure => have h_ := HK2.out; omega
                case rel => exact ⟨k + 1, out ++ [y], ring, rfl, ⟨HK2.out.1, HK2.out.2, by rw [HK.out.2.2, List.append_assoc]; rfl⟩, HF⟩
            · have d3 : decide ((k : Int) < m) = false := decide_eq_false c2
              clear c2 hm3 HK
              go_wp2_with (first
                | ((go_at_call 29); (with_reducible refine (len_q HF.out.rq).mono ?_); rintro e w8 ⟨rfl, hd⟩; have n0 := Aside0.mk (HF.out.below hd.below); clear HF hd; have HF := n0; clear n0)
                | ((go_at_call 26); (with_reducible refine (room_q HF.out.rq).mono ?_); rintro e w9 ⟨rfl, hd⟩; have n0 := Aside0.mk (HF.out.below hd.below); clear HF hd; have HF := n0; clear n0))
              go_roundg k9
              case measure => have h_ := HI3.out; omega
              case rel => exact ⟨i + 1, b, inn, out, ring, rfl, HR, HF⟩
          · have d1 : decide ((i : Int) < (len2 : Int)) = false := decide_eq_false (by omega)
            have d2 : decide (i < len2) = false := decide_eq_false c1
            clear c1 HK
            go_wp2_with (first
              | ((go_at_call 29); (with_reducible refine (len_q HF.out.rq).mono ?_); rintro e w8 ⟨rfl, hd⟩; have n0 := Aside0.mk (HF.out.below hd.below); clear HF hd; have HF := n0; clear n0)
              | ((go_at_call 26); (with_reducible refine (room_q HF.out.rq).mono ?_); rintro e w9 ⟨rfl, hd⟩; have n0 := Aside0.mk (HF.out.below hd.below); clear HF hd; have HF := n0; clear n0))
            go_roundg k9
            case measure => have h_ := HI3.out; omega
            case rel => exact ⟨i + 1, b, inn, out, ring, rfl, HR, HF⟩
    · have hl2 : decide ((i : Int) < (len1 : Int)) = false := decide_eq_false (by omega)
      have hl3 : decide (i < len1) = false := decide_eq_false hlt
      have HI3 := Aside0.mk (show inn = out ++ ring ∧ inn.length ≤ 17592186044416 from ⟨HI.out.2.2.1, by have h_ := HI.out; have h2_ := HL.out; omega⟩)
      obtain ⟨A9, c9, rfl⟩ := Kd.R_slice HF.out.ii
      clear hlt HI
      go_wp2_with (fail)
      go_loopg [10] (ring.length + 1) (fun kq v10 W => ∃ (out ring : List Int), Aside0 (inn = out ++ ring ∧ ring.length < kq) ∧ Aside0 (FI w W g a0 b (.slice A9 inn.length c9) v10 inn out ring))
      case atStart => exact ⟨out, ring, ⟨HI3.out.1, Nat.lt_succ_self _⟩, HF⟩
      case round =>
        have HL3 := Aside0.mk HI3.out.2
        clear HF HI3
        obtain ⟨out, ring, HI, HF⟩ := hrel
        obtain ⟨A10, c10, rfl⟩ := Kd.R_slice HF.out.oo
        cases ring with
        | cons y ring =>
          cases gk with
          | zero => exact absurd HI.out.2 (by rw [List.length_cons]; omega)
          | succ k8 =>
          have hle : out.length + 1 ≤ inn.length := by have h_ := congrArg List.length HI.out.1; rw [List.length_append, List.length_cons] at h_; omega
          have d1 : decide ((out.length : Int) > (inn.length : Int)) = false := decide_eq_false (by omega)
          have d2 : decide ((inn.length : Int) < (out.length : Int)) = false := decide_eq_false (by omega)
          have d3 : decide (inn.length < out.length) = false := decide_eq_false (by omega)
          have HLE := Aside0.mk hle
          have HI2 := Aside0.mk (show inn = (out ++ [y]) ++ ring ∧ ring.length < k8 from ⟨by rw [List.append_assoc]; exact HI.out.1, by have h_ := HI.out.2; rw [List.length_cons] at h_; omega⟩)
          clear hle HI
          go_wp2_with (first
            | ((go_at_call 28); (with_reducible refine (pop_q HF.out.rq).mono ?_); rintro e w6 ⟨rfl, hq, hk⟩; have n0 := Aside0.mk (HF.out.pushed hq hk (.inl rfl)); clear HF hq hk; have HF := n0; clear n0)
            | ((with_reducible refine gate_builtin (b := .append) (xs := #[.tmp 133, .tmp 135]) rfl ?_); at_builtin; refine Kd.R_append (Kd.int .i64) (w0 := w) w.heap.size rfl (.tmp 133) (.tmp 135) 40 3 (.int .i64 0) 8 rfl Try.underlying40 infoR rfl (by decide) (by omega) (.slice A10 out.length c10) out y [.int .i64 y] (fun _ => True) (fun _ => False) (by kernel_rfl) (by kernel_rfl) rfl (fun _ hk => hk.elim) (fun _ _ => trivial) HF.out.oo HF.out.rq.bl (below_size HF.out.rq.bl) (by have h_ := HLE.out; have h2_ := HL3.out; omega) ?_; intro u10 w7 ho hb hg hat; have n0 := Aside0.mk (HF.out.appO ho hg hat); clear HF ho hb hg hat; have HF := n0; clear n0))
          go_roundg k8
          case measure => omega
          case rel => exact ⟨out ++ [y], ring, HI2, HF⟩
        | nil =>
          have heq : inn = out := by rw [HI.out.1, List.append_nil]
          subst heq
          have e1 : (((inn.length : Int) == (inn.length : Int))) = true := beq_self_eq_true _
          clear HI
          go_wp2_with (first
            | ((go_at_call 28); (with_reducible refine (pop_none HF.out.rq).mono ?_); rintro e w6 ⟨rfl, hd⟩; have n0 := Aside0.mk (HF.out.below hd.below); clear HF hd; have HF := n0; clear n0)
            | ((go_at_call 29); (with_reducible refine (len_q HF.out.rq).mono ?_); rintro e w8 ⟨rfl, hd⟩; have n0 := Aside0.mk (HF.out.below hd.below); clear HF hd; have HF := n0; clear n0))
          go_loopg [149] inn.length (fun kq v149 W => ∃ i : Nat, v149 = .int .i64 (i : Int) ∧ Aside0 (i ≤ inn.length ∧ inn.length - i ≤ kq) ∧ Aside0 (FI w W g a0 b (.slice A9 inn.length c9) (.slice A10 inn.length c10) inn inn []))
          case atStart => exact ⟨0, rfl, ⟨Nat.zero_le _, by omega⟩, HF⟩
          case round =>
            clear HF
            obtain ⟨i, rfl, HI, HF⟩ := hrel
            by_cases hlt : i < inn.length
            · cases gk with
              | zero => exact absurd HI.out.2 (by omega)
              | succ k7 =>
              have hl2 : decide ((i : Int) < (inn.length : Int)) = true := decide_eq_true (by omega)
              obtain ⟨x1, e1, hx1⟩ := Kd.at_int (Kd.R_reads' HF.out.ii).2.2 (i : Int) (by omega) (by omega)
              obtain ⟨x2, e2, hx2⟩ := Kd.at_int (Kd.R_reads' HF.out.oo).2.2 (i : Int) (by omega) (by omega)
              subst e1
              subst e2
              simp only [Int.toNat_natCast] at hx1 hx2
              generalize rd inn (i : Int) = t at hx1 hx2
              have p1 := eq_true (show (0 : Int) ≤ (i : Int) by omega)
              have p2 := eq_true (show (i : Int) < (inn.length : Int) by omega)
              have q7 : IntKind.i64.wrap ((i : Int) + 1) = ((i + 1 : Nat) : Int) := by have h_ := HL3.out; rw [i64_w, wrap_id _ (by omega) (by omega)]; rfl
              have HI2 := Aside0.mk (show i + 1 ≤ inn.length ∧ inn.length - (i + 1) ≤ k7 from ⟨by omega, by have h_ := HI.out; omega⟩)
              clear hlt HI
              go_wp2_with (fail)
              go_quiet (fail)
              go_wp2_with (fail)
              go_roundg k7
              case measure => have h_ := HI2.out; omega
              case rel => exact ⟨i + 1, rfl, HI2, ⟨HF.out.below (pw_below_drewN (Below.refl _ _) _)⟩⟩
            · have hl2 : decide ((i : Int) < (inn.length : Int)) = false := decide_eq_false (by omega)
              have hl3 : decide (i < inn.length) = false := decide_eq_false hlt
              clear hlt HI
              go_wp2_with (fail)
              go_ret
              exact ⟨rfl, HF.out.rq.bl⟩
theorem isrow_at {w : World} {a : Option Addr} {len cap : Nat} {z : List Int} (h : (a = none ∧ len = 0 ∧ cap = 0 ∧ z = []) ∨ ∃ x, a = some x ∧ len ≤ cap ∧ cap ≤ maxLen ∧ z.length = cap ∧ (∀ i, i < z.length → w.cell? (x.add i) = some (.int .i64 (z.getD i 0))) ∧ ∀ n ∈ z, (Lit.int .i64 n).wf = true) : ∀ i, i < len → ∃ x v, a = some x ∧ w.cell? (x.add i) = some (.int .i64 v) := by
  intro i hi
  rcases h with ⟨_, rfl, _⟩ | ⟨x, e, h1, h2, h3, h4, _⟩
  · omega
  · exact ⟨x, _, e, h4 i (by omega)⟩
theorem QueueFifo (a0 : Int) (a1 : Option Addr) (len1 cap1 : Nat) (z1 : List Int) (a2 : Option Addr) (len2 cap2 : Nat) (z2 : List Int) (w : World) (w0 : (Lit.int .i64 a0).wf = true)
    (w1 : (a1 = none ∧ len1 = 0 ∧ cap1 = 0 ∧ z1 = []) ∨ ∃ x, a1 = some x ∧ len1 ≤ cap1 ∧ cap1 ≤ maxLen ∧ z1.length = cap1 ∧ (∀ i, i < z1.length → w.cell? (x.add i) = some (.int .i64 (z1.getD i 0))) ∧ ∀ n ∈ z1, (Lit.int .i64 n).wf = true) (_y1 : len1 * 8 ≤ 140737488351232)
    (w2 : (a2 = none ∧ len2 = 0 ∧ cap2 = 0 ∧ z2 = []) ∨ ∃ x, a2 = some x ∧ len2 ≤ cap2 ∧ cap2 ≤ maxLen ∧ z2.length = cap2 ∧ (∀ i, i < z2.length → w.cell? (x.add i) = some (.int .i64 (z2.getD i 0))) ∧ ∀ n ∈ z2, (Lit.int .i64 n).wf = true) (_y2 : len2 * 8 ≤ 140737488351232) :
    Calls Try.prog 5 #[.int .i64 a0, .slice a1 len1 cap1, .slice a2 len2 cap2] w fun e w' => e = .returned (.bool true) ∧ Below w.heap.size w w' := by
  by_cases hm : 1 ≤ a0 ∧ a0 ≤ 1048576
  · exact fifo_good a0 a1 len1 cap1 a2 len2 cap2 w hm (by omega) (isrow_at w1) (by omega) (isrow_at w2)
  · exact fifo_bad a0 _ _ w (by omega)
end Go.Proofs.Ytekjkookkjjbcaa.Pure
