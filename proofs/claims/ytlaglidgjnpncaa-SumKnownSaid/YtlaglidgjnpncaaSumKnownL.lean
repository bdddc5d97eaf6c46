/- SumKnown: the walk of the statement (closed; by hand). -/
import Derived.Test.YtlaglidgjnpncaaSumR
import Derived.Test.YtlaglidgjnpncaaSumCutL
namespace Go.Proofs.Ytlaglidgjnpncaa.SumF
set_option linter.unusedVariables false
set_option linter.unusedSimpArgs false
set_option linter.unusedVariables false
set_option linter.unusedSimpArgs false
open Go.RowKit Go.Proofs.YtlaglidgjnpncaaW.PrintWords Go.Proofs.YtlaglidgjnpncaaW.PrintLast Go.Proofs.YtlaglidgjnpncaaW.PrintMore Go.Proofs.Ytlaglidgjnpncaa.B Go.Proofs.Ytlaglidgjnpncaa.M Go.Proofs.Ytlaglidgjnpncaa.H Go.Proofs.Ytlaglidgjnpncaa.SumP Go.Proofs.Ytlaglidgjnpncaa.Crc

/-- The bytes 0 .. n-1. -/
def upto (n : Nat) : List Int := (List.range n).map fun (i : Nat) => (i : Int)
theorem upto_succ (n : Nat) : upto n ++ [(n : Int)] = upto (n + 1) := by unfold upto; rw [List.range_succ, List.map_append]; rfl
theorem upto_len (n : Nat) : (upto n).length = n := by simp [upto]
theorem in_of (l : List Int) (h : l.all (fun v => decide (0 ≤ v ∧ v ≤ 255)) = true) : InB l := fun x hx => by
  have := List.all_eq_true.1 h x hx
  simpa using this
theorem of_nil : sum_Of.f [] = some 0 := by rw [Of_w [] (fun _ h => by cases h)]; decide +kernel
theorem of_zero : sum_Of.f (List.replicate 32 0) = some 2324772522 := by rw [Of_w _ (in_of _ (by decide +kernel))]; decide +kernel
theorem of_ones : sum_Of.f (List.replicate 32 255) = some 1655221059 := by rw [Of_w _ (in_of _ (by decide +kernel))]; decide +kernel
theorem of_up : sum_Of.f (upto 32) = some 1188919630 := by rw [Of_w _ (in_of _ (by decide +kernel))]; decide +kernel
theorem join_one : sum_Join.f 1 0 1 = some (4067132163, 0) := by
  have h := Join_w (toW 1) (toW 0) 1 (by omega)
  rw [show ofW (toW 1) = (1 : Int) by decide +kernel, show ofW (toW 0) = (0 : Int) by decide +kernel] at h
  rw [show (1 : Int) = ((1 : Nat) : Int) from rfl] 
  refine Eq.trans h ?_
  decide +kernel
theorem join_none : sum_Join.f 1 5 0 = some (4, 0) := by
  have h := Join_w (toW 1) (toW 5) 0 (by omega)
  rw [show ofW (toW 1) = (1 : Int) by decide +kernel, show ofW (toW 5) = (5 : Int) by decide +kernel] at h
  refine Eq.trans h ?_
  decide +kernel
theorem join_bad : sum_Join.f 7 7 (-1) = some (0, 2) := by unfold sum_Join.f; rw [if_pos (by omega)]
theorem C_new {W : World} {g : Nat} {l : List Value} {xs : List Int} (h : W.heap[g]? = some (.cells l.toArray 5 (0, 0))) (hl : l = nums .u8 xs) (hs : xs.length ≤ 9223372036854775807) : Kd.C (Kd.int .u8) W (some ⟨g, 0, none⟩) xs.length xs := by
  refine C_piece h hs ?_
  subst hl
  exact List.take_of_length_le (by simp [nums])

theorem Of_at' (A : Option Addr) (c n : Nat) (xs : List Int) (r : Int) (hn : xs.length = n) (W : World) (hC : Kd.C (Kd.int .u8) W A xs.length xs) (hc : n ≤ c) (h : sum_Of.f xs = some r) : Calls Try.prog 12 #[.slice A n c] W fun e w' => e = .returned (.int .u32 r) ∧ Below W.heap.size W w' := by
  subst hn; exact sum_Of.calls A c xs r W hC hc h
theorem of0 (W : World) : Calls Try.prog 12 #[.slice none 0 0] W fun e w' => e = .returned (.int .u32 0) ∧ Below W.heap.size W w' := Of_at' none 0 0 [] 0 rfl W (Kd.C_nil _ _) (Nat.le_refl _) of_nil
theorem of1 (g : Nat) (l : List Value) (hl : l = nums .u8 (List.replicate 32 0)) (W : World) (h : W.heap[g]? = some (.cells l.toArray 5 (0, 0))) : Calls Try.prog 12 #[.slice (some ⟨g, 0, none⟩) 32 32] W fun e w' => e = .returned (.int .u32 2324772522) ∧ Below W.heap.size W w' := Of_at' _ 32 32 _ _ List.length_replicate W (C_new h hl (by decide)) (Nat.le_refl _) of_zero
theorem of2 (g : Nat) (l : List Value) (hl : l = nums .u8 (List.replicate 32 255)) (W : World) (h : W.heap[g]? = some (.cells l.toArray 5 (0, 0))) : Calls Try.prog 12 #[.slice (some ⟨g, 0, none⟩) 32 32] W fun e w' => e = .returned (.int .u32 1655221059) ∧ Below W.heap.size W w' := Of_at' _ 32 32 _ _ List.length_replicate W (C_new h hl (by decide)) (Nat.le_refl _) of_ones
theorem of3 (A : Option Addr) (c base : Nat) (W : World) (h : Kd.R (Kd.int .u8) 5 W base (fun _ => True) (.slice A 32 c) (upto 32)) : Calls Try.prog 12 #[.slice A 32 c] W fun e w' => e = .returned (.int .u32 1188919630) ∧ Below W.heap.size W w' := Of_at' A c 32 _ _ (upto_len 32) W (by have := (Kd.R_reads' h).2.2; rw [upto_len]; exact this) (Kd.R_reads' h).2.1 of_up
theorem rep_at (g : Nat) (q : List Value) (hq : q = part 32) (w : World) (hk : w.heap[g]? = some (.cells #[.int .u8 255] 5 (0, 0))) :
    Calls Try.prog 34 #[.slice (some ⟨g, 0, none⟩) 1 1, .int .i64 32] w fun e w' => ∃ g', e = .returned (.slice (some ⟨g', 0, none⟩) 32 32) ∧ w'.heap[g']? = some (.cells q.toArray 5 (0, 0)) ∧ Below w.heap.size w w' := by subst hq; exact repeat_calls g w hk
theorem below_of_alloc {W W2 : World} {o : Obj} (hb : Below (W.alloc o).heap.size (W.alloc o) W2) : Below W.heap.size W W2 := below_step (below_alloc (Below.refl _ _) o) hb

set_option maxHeartbeats 8000000 in
set_option maxRecDepth 100000 in
theorem SumKnown_calls (w : World) : Calls Try.prog 11 #[] w fun e w' => e = .returned (.bool true) ∧ Below w.heap.size w w' := by
  have HB := Aside0.mk (Below.refl w.heap.size w)
  go_enter Try.func11, Try.ntmps11
  go_wp2
  go_loopw [1, 9] (fun v1 v9 wr => ∃ j : Nat, v9 = .int .i64 j ∧ j ≤ 32 ∧ Aside0 (Kd.R (Kd.int .u8) 5 wr w.heap.size (fun _ => True) v1 (upto j)) ∧ Aside0 (Below w.heap.size w wr)) (fun _ v9 _ => 32 - (intOf v9).toNat)
  case atStart => exact ⟨0, rfl, by omega, ⟨Kd.R_nil _ _ _ _ _⟩, HB⟩
  case round =>
    try clear HB
    obtain ⟨j, rfl, hj, HO, HB⟩ := hrel
    by_cases hlt : j < 32
    · have Hl := Aside0.mk (show (upto j).length ≤ 32 by rw [upto_len]; omega)
      obtain ⟨y, hy⟩ : ∃ y, y = upto j := ⟨_, rfl⟩
      have hnext : y ++ [(j : Int)] = upto (j + 1) := by rw [hy, upto_succ]
      rw [← hy] at HO Hl
      have HN := Aside0.mk hnext
      clear hnext hy
      go_wp2_with (first | ((with_reducible refine gate_builtin (b := .append) (xs := #[.tmp 12, .tmp 15]) rfl ?_); at_builtin; refine Kd.R_append (Kd.int .u8) (w0 := w) w.heap.size rfl (.tmp 12) (.tmp 15) 23 5 (.int .u8 0) 1 rfl Try.underlying23 info5 rfl (by decide) (by omega) u1 y (j : Int) [.int .u8 (j : Int)] (fun _ => True) (fun _ => False) rfl rfl ?aP (fun _ hk => hk.elim) ?aF ?aO ?aB ?aS ?aL ?_; (case aP => exact rfl); (case aB => exact HB.out); (case aF => exact (fun _ _ => trivial)); (case aO => exact HO.out); (case aS => exact HB.out.size); (case aL => have := Hl.out; omega); intro v130 w11 ho hb hg hat; have n0_ := Aside0.mk (hb); have n1_ := Aside0.mk (ho); clear HB; clear HO; have HB := n0_; have HO131 := n1_; clear n0_ n1_; clear ho hb hg hat))
      go_roundw
      case rel => exact ⟨j + 1, by go_num, by omega, ⟨by rw [← HN.out]; exact HO131.out⟩, HB⟩
      case measure => simp [intOf]; omega
    · obtain rfl : j = 32 := by omega
      clear hlt
      obtain ⟨Au, cu, eu⟩ := Kd.R_slice HO.out
      rw [upto_len] at eu
      subst eu
      have HU := HO
      clear HO
      go_wp2_with (first
        | (go_at_call 18; (with_reducible refine (sum_Join.calls 1 0 1 4067132163 0 _ join_one).mono ?_); rintro e w1 ⟨rfl, hb⟩; have n_ := Aside0.mk (below_step HB.out hb); have m_ := Aside0.mk (Kd.R_below HU.out hb); clear HB HU hb; have HB := n_; have HU := m_; clear n_ m_)
        | (go_at_call 18; (with_reducible refine (sum_Join.calls 1 5 0 4 0 _ join_none).mono ?_); rintro e w2 ⟨rfl, hb⟩; have n_ := Aside0.mk (below_step HB.out hb); have m_ := Aside0.mk (Kd.R_below HU.out hb); clear HB HU hb; have HB := n_; have HU := m_; clear n_ m_)
        | (go_at_call 18; (with_reducible refine (sum_Join.calls 7 7 (-1) 0 2 _ join_bad).mono ?_); rintro e w3 ⟨rfl, hb⟩; have n_ := Aside0.mk (below_step HB.out hb); have m_ := Aside0.mk (Kd.R_below HU.out hb); clear HB HU hb; have HB := n_; have HU := m_; clear n_ m_)
        | (go_at_call 16; refine (posthornlaw02_wakes.calls true _ rfl).mono ?_; rintro e w4 ⟨rfl, hb⟩; have n_ := Aside0.mk (below_step HB.out hb); have m_ := Aside0.mk (Kd.R_below HU.out hb); clear HB HU hb; have HB := n_; have HU := m_; clear n_ m_))
      have hup := upto_len 32
      have HUP := Aside0.mk hup
      clear hup
      have hmk : ∀ W : World, (Instr.makeSlice 23 (.int .i64 32) (.int .i64 32)).run Try.prog W = .ok (.slice (some ⟨W.heap.size, 0, none⟩) 32 32) (W.alloc (.cells (part 0).toArray 5 (0, 0))) := fun W => part_0 W
      obtain ⟨p0, hp0⟩ : ∃ p, p = part 0 := ⟨_, rfl⟩
      rw [← hp0] at hmk
      have hz : p0 = nums .u8 (List.replicate 32 0) := by rw [hp0]; rfl
      have HZ := Aside0.mk hz
      clear hp0 hz
      obtain ⟨q0, hq0⟩ : ∃ p, p = part 32 := ⟨_, rfl⟩
      have hq1 : q0 = nums .u8 (List.replicate 32 255) := by rw [hq0]; rfl
      have HQ := Aside0.mk hq0
      have HQ1 := Aside0.mk hq1
      clear hq0 hq1
      go_wp2_with (first
        | (go_at_call 12; (with_reducible refine (of0 _).mono ?_); rintro e w5 ⟨rfl, hb⟩; have n_ := Aside0.mk (below_step HB.out hb); have m_ := Aside0.mk (Kd.R_below HU.out hb); clear HB HU hb; have HB := n_; have HU := m_; clear n_ m_)
        | (go_at_call 12; (with_reducible refine (of1 w5.heap.size p0 HZ.out _ (blk_new _ _)).mono ?_); rintro e w6 ⟨rfl, hc⟩; have hb := below_of_alloc hc; clear hc; have n_ := Aside0.mk (below_step HB.out hb); have m_ := Aside0.mk (Kd.R_below HU.out hb); clear HB HU hb; have HB := n_; have HU := m_; clear n_ m_)
        | (go_at_call 34; (with_reducible refine (rep_at w6.heap.size q0 HQ.out _ (blk_new _ _)).mono ?_); rintro e w7 ⟨g7, rfl, hg7, hc⟩; have HG7 := Aside0.mk hg7; have hb := below_of_alloc hc; clear hc hg7; have n_ := Aside0.mk (below_step HB.out hb); have m_ := Aside0.mk (Kd.R_below HU.out hb); clear HB HU hb; have HB := n_; have HU := m_; clear n_ m_)
        | (go_at_call 12; (with_reducible refine (of2 g7 q0 HQ1.out _ HG7.out).mono ?_); rintro e w8 ⟨rfl, hb⟩; have n_ := Aside0.mk (below_step HB.out hb); have m_ := Aside0.mk (Kd.R_below HU.out hb); clear HB HU hb; have HB := n_; have HU := m_; clear n_ m_)
        | (go_at_call 12; (with_reducible refine (of3 Au cu w.heap.size _ HU.out).mono ?_); rintro e w9 ⟨rfl, hb⟩; have n_ := Aside0.mk (below_step HB.out hb); have m_ := Aside0.mk (Kd.R_below HU.out hb); clear HB HU hb; have HB := n_; have HU := m_; clear n_ m_))
      go_ret
      exact ⟨rfl, HB.out⟩
end Go.Proofs.Ytlaglidgjnpncaa.SumF
