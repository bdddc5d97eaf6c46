/- The ring of things: what is no step, Pop, and all of it over the list that a ring holds. -/
import Derived.Test.YtekjkookkjjbcaaRingXE
namespace Go.Proofs.Ytekjkookkjjbcaa.RX
set_option linter.unusedVariables false
set_option linter.unusedSimpArgs false
set_option linter.unusedVariables false
set_option linter.unusedSimpArgs false
open Go.RowKit Go.Proofs.YtekjkookkjjbcaaW.PrintWords Go.Proofs.YtekjkookkjjbcaaW.PrintLast Go.Proofs.YtekjkookkjjbcaaW.PrintMore Go.Proofs.Ytekjkookkjjbcaa.B Go.Proofs.Ytekjkookkjjbcaa.M Go.Proofs.Ytekjkookkjjbcaa.RH
open Go.Proofs.Ytekjkookkjjbcaa.RI (zeroed zeroed_len zeroed_zero zeroed_at set_row_grown)
attribute [local go_sem] max2_int min2_int max_two min_two
theorem drop_none (W : World) (g : Nat) (most : Int) (v : Value) (f n : Nat) (k : Int) (h : RB W g most v f n) (hk : k ≤ 0 ∨ n = 0) :
    Calls Try.prog 79 #[.pointer (some ⟨g, 0, none⟩), .int .i64 k] W fun e W' => e = .returned (.int .i64 0) ∧ Drawn0 W W' := by
  have HG := Aside0.mk h
  obtain ⟨k0, hk0⟩ : ∃ k0, (if (n : Int) < k then (n : Int) else k) = k0 := ⟨_, rfl⟩
  have k1 : decide (k0 ≤ 0) = true := decide_eq_true (by rw [← hk0]; split <;> omega)
  clear h hk
  go_enter Try.func79, Try.ntmps79
  go_wp2_with (first
    | ((go_at_call 44); (with_reducible refine (len_calls _ g most _ f n HG.out).mono ?_); rintro e w1 ⟨rfl, ⟨nd, rfl⟩⟩))
  go_ret
  exact ⟨rfl, by first | exact ⟨⟨_, rfl⟩⟩ | exact Drawn0.refl _⟩
theorem drop_nil (W : World) (k : Int) :
    Calls Try.prog 79 #[.pointer none, .int .i64 k] W fun e W' => e = .returned (.int .i64 0) ∧ Drawn0 W W' := by
  obtain ⟨k0, hk0⟩ : ∃ k0, (if (0 : Int) < k then (0 : Int) else k) = k0 := ⟨_, rfl⟩
  have k1 : decide (k0 ≤ 0) = true := decide_eq_true (by rw [← hk0]; split <;> omega)
  go_enter Try.func79, Try.ntmps79
  go_wp2_with (first
    | ((go_at_call 44); (with_reducible refine (len_nil _).mono ?_); rintro e w1 ⟨rfl, ⟨nd, rfl⟩⟩))
  go_ret
  exact ⟨rfl, by first | exact ⟨⟨_, rfl⟩⟩ | exact Drawn0.refl _⟩
/-- A ring that holds the list xs; b: the block of its row. -/
structure RQ (w0 W : World) (g : Nat) (most : Int) (xs : List T2) (b : Option Nat) : Prop where
  ex : ∃ v rm f, RG w0 W g most v rm f xs.length ∧ elsR rm f xs.length = xs ∧ v.ownBlock = b
theorem RQ.of {w0 W : World} {g : Nat} {most : Int} {v : Value} {rm : List T2} {f n : Nat} {xs : List T2} (h : RG w0 W g most v rm f n) (he : elsR rm f n = xs) : RQ w0 W g most xs v.ownBlock := by
  have hn : n = xs.length := by rw [← he, elsR_len]
  subst hn
  exact ⟨v, rm, f, h, he, rfl⟩
theorem RQ.below {w0 W W' : World} {g : Nat} {most : Int} {xs : List T2} {b : Option Nat} (h : RQ w0 W g most xs b) (hb : Below W.heap.size W W') : RQ w0 W' g most xs b := by
  obtain ⟨v, rm, f, h1, h2, h3⟩ := h.ex
  exact ⟨v, rm, f, h1.rb_below hb, h2, h3⟩
theorem RQ.bl {w0 W : World} {g : Nat} {most : Int} {xs : List T2} {b : Option Nat} (h : RQ w0 W g most xs b) : Below w0.heap.size w0 W := by
  obtain ⟨v, rm, f, h1, h2, h3⟩ := h.ex
  exact h1.bl
theorem RQ.bounds {w0 W : World} {g : Nat} {most : Int} {xs : List T2} {b : Option Nat} (h : RQ w0 W g most xs b) : (xs.length : Int) ≤ most ∧ 1 ≤ most ∧ most ≤ 1048576 := by
  obtain ⟨v, rm, f, h1, h2, h3⟩ := h.ex
  have := h1.nl
  have := h1.ml
  exact ⟨by omega, h1.m1, h1.m2⟩
theorem set_other (rm : List T2) (p q : Nat) (x : T2) (h : q ≠ p) : (rm.set p x).getD q d2 = rm.getD q d2 := by
  rw [List.getD_eq_getElem?_getD, List.getD_eq_getElem?_getD, List.getElem?_set_ne (fun e => h e.symm)]
theorem set_same (rm : List T2) (p : Nat) (x : T2) (h : p < rm.length) : (rm.set p x).getD p d2 = x := by
  rw [List.getD_eq_getElem?_getD, List.getElem?_set_self h]
  rfl
theorem elsR_ext {rm : List T2} {f n : Nat} {xs : List T2} (hl : n = xs.length) (h : ∀ i, i < n → rm.getD (posR rm.length f i) d2 = xs.getD i d2) : elsR rm f n = xs := by
  apply List.ext_getElem
  · rw [elsR_len, hl]
  · intro i h1 h2
    rw [elsR_len] at h1
    have a1 := elsR_at rm f n i h1
    rw [List.getD_eq_getElem?_getD, List.getElem?_eq_getElem (by rw [elsR_len]; exact h1), Option.getD_some] at a1
    rw [a1, h i h1, List.getD_eq_getElem?_getD, List.getElem?_eq_getElem h2, Option.getD_some]
theorem posR_ne (L f i n : Nat) (hi : i < n) (hn : n < L) (hf : f < L) : posR L f i ≠ posR L f n := by
  unfold posR
  split <;> split <;> omega
theorem elsR_push (rm : List T2) (f n : Nat) (x : T2) (hn : n < rm.length) (hf : f < rm.length) : elsR (rm.set (posR rm.length f n) x) f (n + 1) = elsR rm f n ++ [x] := by
  refine elsR_ext (by rw [List.length_append, elsR_len]; rfl) fun i hi => ?_
  rw [List.length_set]
  have hp : posR rm.length f n < rm.length := by unfold posR; split <;> omega
  by_cases h : i < n
  · rw [set_other _ _ _ _ (posR_ne _ f i n h hn hf)]
    have a1 := elsR_at rm f n i h
    rw [← a1, List.getD_eq_getElem?_getD, List.getD_eq_getElem?_getD, List.getElem?_append_left (by rw [elsR_len]; exact h)]
  · obtain rfl : i = n := by omega
    rw [set_same _ _ _ hp, List.getD_eq_getElem?_getD, List.getElem?_append_right (by rw [elsR_len]; exact Nat.le_refl _), elsR_len, Nat.sub_self]
    rfl
theorem elsR_grow (rm : List T2) (f n N : Nat) (x : T2) (hN : n < N) : elsR ((rowG rm f n N).set n x) 0 (n + 1) = elsR rm f n ++ [x] := by
  have hl := rowG_len rm f n N (by omega)
  refine elsR_ext (by rw [List.length_append, elsR_len]; rfl) fun i hi => ?_
  rw [List.length_set, hl, posR_0 N i (by omega)]
  by_cases h : i < n
  · rw [set_other _ _ _ _ (by omega), List.getD_eq_getElem?_getD, List.getD_eq_getElem?_getD]
    unfold rowG
    rw [List.getElem?_append_left (by rw [elsR_len]; exact h), List.getElem?_append_left (by rw [elsR_len]; exact h)]
  · obtain rfl : i = n := by omega
    rw [set_same _ _ _ (by omega), List.getD_eq_getElem?_getD, List.getElem?_append_right (by rw [elsR_len]; exact Nat.le_refl _), elsR_len, Nat.sub_self]
    rfl
theorem new_q (w0 W : World) (hB : Below w0.heap.size w0 W) (most : Int) (h : 1 ≤ most ∧ most ≤ 1048576) :
    Calls Try.prog 40 #[.int .i64 most] W fun e W' => ∃ g, e = .returned (.tuple #[.pointer (some ⟨g, 0, none⟩), .int .i64 0]) ∧ RQ w0 W' g most [] none ∧ Below W.heap.size W W' ∧ W.heap.size ≤ g := by
  refine (new_calls w0 W hB most h).mono ?_
  rintro e W' ⟨g, rfl, h1, h2, h3⟩
  exact ⟨g, rfl, RQ.of h1 rfl, h2, h3⟩
theorem len_q {w0 W : World} {g : Nat} {most : Int} {xs : List T2} {b : Option Nat} (h : RQ w0 W g most xs b) :
    Calls Try.prog 44 #[.pointer (some ⟨g, 0, none⟩)] W fun e W' => e = .returned (.int .i64 (xs.length : Int)) ∧ Drawn0 W W' := by
  obtain ⟨v, rm, f, h1, h2, h3⟩ := h.ex
  exact len_calls W g most v f _ h1.bk
theorem room_q {w0 W : World} {g : Nat} {most : Int} {xs : List T2} {b : Option Nat} (h : RQ w0 W g most xs b) :
    Calls Try.prog 45 #[.pointer (some ⟨g, 0, none⟩)] W fun e W' => e = .returned (.int .i64 (most - (xs.length : Int))) ∧ Drawn0 W W' := by
  have hb := h.bounds
  obtain ⟨v, rm, f, h1, h2, h3⟩ := h.ex
  exact room_calls W g most v f _ h1.bk ⟨by omega, by omega⟩ (by omega)
theorem at_q {w0 W : World} {g : Nat} {most : Int} {xs : List T2} {b : Option Nat} (h : RQ w0 W g most xs b) (i : Nat) (hi : i < xs.length) :
    Calls Try.prog 78 #[.pointer (some ⟨g, 0, none⟩), .int .i64 (i : Int)] W fun e W' => e = .returned (.tuple #[.agg #[.int .i64 (xs.getD i d2).1, .int .i64 (xs.getD i d2).2], .bool true]) ∧ Below W.heap.size W W' := by
  obtain ⟨v, rm, f, h1, h2, h3⟩ := h.ex
  have := at_calls w0 W g most v rm f _ i h1 hi
  rw [h2] at this
  exact this
theorem at_q_none {w0 W : World} {g : Nat} {most : Int} {xs : List T2} {b : Option Nat} (h : RQ w0 W g most xs b) (i : Int) (hi : i < 0 ∨ (xs.length : Int) ≤ i) :
    Calls Try.prog 78 #[.pointer (some ⟨g, 0, none⟩), .int .i64 i] W fun e W' => e = .returned (.tuple #[.agg #[.int .i64 0, .int .i64 0], .bool false]) ∧ Below W.heap.size W W' := by
  obtain ⟨v, rm, f, h1, h2, h3⟩ := h.ex
  exact at_none W g most v f _ i h1.bk hi
theorem push_q_full {w0 W : World} {g : Nat} {most : Int} {xs : List T2} {b : Option Nat} (h : RQ w0 W g most xs b) (x : T2) (hm : (xs.length : Int) = most) :
    Calls Try.prog 52 #[.pointer (some ⟨g, 0, none⟩), .agg #[.int .i64 x.1, .int .i64 x.2]] W fun e W' => e = .returned (.int .i64 4) ∧ Below W.heap.size W W' := by
  obtain ⟨v, rm, f, h1, h2, h3⟩ := h.ex
  exact push_full w0 W g most v rm f _ x h1 hm
/-- The row's block stays, or is new. -/
def Moved (W : World) (b b' : Option Nat) : Prop := b' = b ∨ ∃ j, b' = some j ∧ W.heap.size ≤ j
theorem push_q {w0 W : World} {g : Nat} {most : Int} {xs : List T2} {b : Option Nat} (h : RQ w0 W g most xs b) (x : T2) (hm : (xs.length : Int) < most) :
    Calls Try.prog 52 #[.pointer (some ⟨g, 0, none⟩), .agg #[.int .i64 x.1, .int .i64 x.2]] W fun e W' => e = .returned (.int .i64 0) ∧ ∃ b', RQ w0 W' g most (xs ++ [x]) b' ∧ KeepBut W W' g b ∧ Moved W b b' := by
  obtain ⟨v, rm, f, h1, h2, h3⟩ := h.ex
  by_cases hn : xs.length < rm.length
  · refine (push_in w0 W g most v rm f _ x h1 hn).mono ?_
    rintro e W' ⟨rfl, h4, h5⟩
    have hf : f < rm.length := by have := h1.fl; omega
    have h6 := RQ.of h4 (elsR_push rm f _ x hn hf)
    rw [h2] at h6
    exact ⟨rfl, _, h6, h3 ▸ h5, .inl h3⟩
  · have hn2 : xs.length = rm.length := by have := h1.nl; omega
    obtain ⟨N, hN⟩ : ∃ N : Nat, (N : Int) = mn most (2 * (xs.length : Int) + 4) := by
      have hb := h.bounds
      obtain ⟨N, e⟩ := Int.eq_ofNat_of_zero_le (show 0 ≤ mn most (2 * (xs.length : Int) + 4) by
        rw [show mn most (2 * (xs.length : Int) + 4) = if 2 * (xs.length : Int) + 4 < most then 2 * (xs.length : Int) + 4 else most from rfl]
        split <;> omega)
      exact ⟨N, e.symm⟩
    have hNN : xs.length < N := by
      rw [show mn most (2 * (xs.length : Int) + 4) = if 2 * (xs.length : Int) + 4 < most then 2 * (xs.length : Int) + 4 else most from rfl] at hN
      split at hN <;> omega
    refine (push_grow w0 W g most v rm f _ N x h1 hn2 hm hN).mono ?_
    rintro e W' ⟨v', rfl, h4, h5, j, hj1, hj2⟩
    have h6 := RQ.of h4 (elsR_grow rm f _ N x hNN)
    rw [h2] at h6
    exact ⟨rfl, _, h6, ⟨h5.1, fun i hi h7 _ => h5.2 i hi h7 (by simp)⟩, .inr ⟨j, hj1, hj2⟩⟩
theorem drop_q_none {w0 W : World} {g : Nat} {most : Int} {xs : List T2} {b : Option Nat} (h : RQ w0 W g most xs b) (k : Int) (hk : k ≤ 0 ∨ xs = []) :
    Calls Try.prog 79 #[.pointer (some ⟨g, 0, none⟩), .int .i64 k] W fun e W' => e = .returned (.int .i64 0) ∧ Drawn0 W W' := by
  obtain ⟨v, rm, f, h1, h2, h3⟩ := h.ex
  exact drop_none W g most v f _ k h1.bk (hk.imp_right (fun e => by rw [e]; rfl))
theorem drop_q {w0 W : World} {g : Nat} {most : Int} {xs : List T2} {b : Option Nat} (h : RQ w0 W g most xs b) (k : Int) (k0 : Nat) (hk : (if (xs.length : Int) < k then (xs.length : Int) else k) = (k0 : Int)) (h0 : 0 < k0) :
    Calls Try.prog 79 #[.pointer (some ⟨g, 0, none⟩), .int .i64 k] W fun e W' => e = .returned (.int .i64 (k0 : Int)) ∧ RQ w0 W' g most (xs.drop k0) b ∧ KeepBut W W' g b := by
  obtain ⟨v, rm, f, h1, h2, h3⟩ := h.ex
  have hkn : k0 ≤ xs.length := by split at hk <;> omega
  refine (drop_in w0 W g most v rm f _ k k0 h1 hk h0 hkn).mono ?_
  rintro e W' ⟨rfl, h4, h5⟩
  have hf : f < rm.length := by have := h1.fl; have := h1.nl; omega
  have h6 := RQ.of h4 (elsR_drop rm f _ k0 hf hkn h1.nl)
  rw [h2, h3] at h6
  exact ⟨rfl, h6, h3 ▸ h5⟩
theorem row_q {w0 W : World} {g : Nat} {most : Int} {xs : List T2} {b : Option Nat} (h : RQ w0 W g most xs b) :
    Calls Try.prog 83 #[.pointer (some ⟨g, 0, none⟩)] W fun e W' => ∃ v', e = .returned v' ∧ OwnI W W' v' xs ∧ Below W.heap.size W W' := by
  obtain ⟨v, rm, f, h1, h2, h3⟩ := h.ex
  have := row_calls w0 W g most v rm f _ h1
  rw [h2] at this
  exact this
theorem RQ.blk {w0 W : World} {g : Nat} {most : Int} {xs : List T2} {b : Option Nat} (h : RQ w0 W g most xs b) : (∃ cs, W.heap[g]? = some (.cells cs 109 (0, 0))) ∧ w0.heap.size ≤ g := by
  obtain ⟨v, rm, f, h1, h2, h3⟩ := h.ex
  exact ⟨⟨_, h1.bk⟩, h1.gg⟩
theorem RQ.row {w0 W : World} {g : Nat} {most : Int} {xs : List T2} {b : Option Nat} (h : RQ w0 W g most xs b) : ∀ k, b = some k → (∃ cs, W.heap[k]? = some (.cells cs 29 (0, 0))) ∧ w0.heap.size ≤ k := by
  obtain ⟨v, rm, f, h1, h2, h3⟩ := h.ex
  intro k hk
  obtain ⟨cs, hc⟩ := Kd.R_typed h1.ow k (h3.trans hk)
  exact ⟨⟨cs, hc⟩, Kd.R_base h1.ow k (h3.trans hk)⟩
theorem RQ.kept {w0 W W' : World} {g : Nat} {most : Int} {xs : List T2} {b : Option Nat} (h : RQ w0 W g most xs b) (hb : Below w0.heap.size w0 W') (hg : W'.heap[g]? = W.heap[g]?) (hr : ∀ k, b = some k → W'.heap[k]? = W.heap[k]?) : RQ w0 W' g most xs b := by
  obtain ⟨v, rm, f, h1, h2, h3⟩ := h.ex
  exact ⟨v, rm, f, ⟨hg.trans h1.bk, h1.gg, hb, Kd.R_mono (Kd.R_move (Kd.R_tight rfl h1.ow) (fun k hk => hr k (by rw [← h3]; exact hk.symm))) (fun _ _ => trivial), h1.fl, h1.nl, h1.ml, h1.m1, h1.m2⟩, h2, h3⟩
theorem box_at {W w1 : World} {cs : Array Value} {t rb : Nat} (hb : Below (W.alloc (.cells cs t (0, 0))).heap.size (W.alloc (.cells cs t (0, 0))) w1) (hr : W.heap.size = rb) : w1.heap[rb]? = some (.cells cs t (0, 0)) := by
  rw [← hr]
  exact blk_below (heap_alloc_new W _) hb
theorem at_q0 {w0 W : World} {g : Nat} {most : Int} {x : T2} {xs : List T2} {b : Option Nat} (h : RQ w0 W g most (x :: xs) b) :
    Calls Try.prog 78 #[.pointer (some ⟨g, 0, none⟩), .int .i64 0] W fun e W' => e = .returned (.tuple #[.agg #[.int .i64 x.1, .int .i64 x.2], .bool true]) ∧ Below W.heap.size W W' :=
  at_q h 0 (by simp)
theorem at_q_none0 {w0 W : World} {g : Nat} {most : Int} {b : Option Nat} (h : RQ w0 W g most [] b) :
    Calls Try.prog 78 #[.pointer (some ⟨g, 0, none⟩), .int .i64 0] W fun e W' => e = .returned (.tuple #[.agg #[.int .i64 0, .int .i64 0], .bool false]) ∧ Below W.heap.size W W' :=
  at_q_none h 0 (.inr (by simp))
theorem pop_none {w0 W : World} {g : Nat} {most : Int} {b : Option Nat} (h : RQ w0 W g most [] b) :
    Calls Try.prog 53 #[.pointer (some ⟨g, 0, none⟩)] W fun e W' => e = .returned (.tuple #[.agg #[.int .i64 0, .int .i64 0], .bool false]) ∧ Below W.heap.size W W' := by
  have HG := Aside0.mk h
  have HA := Aside0.mk (fun (W : World) (h : RQ w0 W g most [] b) => at_q_none0 h)
  clear h
  obtain ⟨rb, hrb⟩ : ∃ rb, W.heap.size = rb := ⟨_, rfl⟩
  go_enter Try.func53, Try.ntmps53
  go_wp2_with (first
    | ((go_at_call 78); (with_reducible refine (HA.out _ (HG.out.below (below_alloc (Below.refl _ _) _))).mono ?_); rintro e w1 ⟨rfl, hb⟩; have HB := Aside0.mk hb; have hbx := box_at hb hrb; have r0 := blk_cell hbx 0; have r1 := blk_cell hbx 1; have fr := blk_frozen hbx; have hlt := blk_lt hbx; have HX := Aside0.mk hbx; clear hb hbx))
  refine bodyPost_ret (results_ct rfl _ _ rb 29 #[.int .i64 0, .int .i64 0] (0, 0) _ rfl (by refine blk_below ?_ (below_alloc (Below.refl _ _) _); refine blk_put (cs := #[.int .i64 0, .int .i64 0]) ?_ 1 _ rfl; refine blk_put (cs := #[.int .i64 0, .int .i64 0]) ?_ 0 _ rfl; exact HX.out) Try.underlying29 rfl (by kernel_rfl)) rfl ?_
  have HSZ := Nat.le_of_eq hrb
  exact ⟨rfl, below_alloc (below_set (below_set (below_step (below_alloc (Below.refl _ _) _) HB.out) HSZ) HSZ) _⟩
set_option maxHeartbeats 8000000 in
theorem pop_q {w0 W : World} {g : Nat} {most : Int} {x : T2} {xs : List T2} {b : Option Nat} (h : RQ w0 W g most (x :: xs) b) :
    Calls Try.prog 53 #[.pointer (some ⟨g, 0, none⟩)] W fun e W' => e = .returned (.tuple #[.agg #[.int .i64 x.1, .int .i64 x.2], .bool true]) ∧ RQ w0 W' g most xs b ∧ KeepBut W W' g b := by
  have HG := Aside0.mk h
  have HA := Aside0.mk (fun (W : World) (h : RQ w0 W g most (x :: xs) b) => at_q0 h)
  have HD := Aside0.mk (fun (W : World) (h : RQ w0 W g most (x :: xs) b) => (drop_q h 1 1 (by rw [List.length_cons]; split <;> omega) (by omega)))
  have hgw := blk_lt h.blk.1.choose_spec
  have hbw : ∀ k, b = some k → k < W.heap.size := fun k hk => blk_lt (h.row k hk).1.choose_spec
  have HBW := Aside0.mk (And.intro hgw hbw)
  clear h hgw hbw
  obtain ⟨rb, hrb⟩ : ∃ rb, W.heap.size = rb := ⟨_, rfl⟩
  have HRB := Aside0.mk hrb
  go_enter Try.func53, Try.ntmps53
  go_wp2_with (first
    | ((go_at_call 78); (with_reducible refine (HA.out _ (HG.out.below (below_alloc (Below.refl _ _) _))).mono ?_); rintro e w1 ⟨rfl, hb⟩; have HB := Aside0.mk (below_alloc hb (.cells #[.int .i64 x.1, .int .i64 x.2] 29 (0, 0))); have hbv := heap_alloc_new w1 (.cells #[.int .i64 x.1, .int .i64 x.2] 29 (0, 0)); have HBV := Aside0.mk hbv; have HB1 := Aside0.mk (box_at hb HRB.out); have hz := Aside0.mk hb.size; clear hb hbv)
    | ((go_at_call 79); (with_reducible refine (HD.out _ ((HG.out.below (below_alloc (Below.refl _ _) _)).below HB.out)).mono ?_); rintro e w2 ⟨rfl, hq, hk⟩; have hvb := blk_lt HBV.out; have x1 := (hk.2 _ hvb (by have h_ := HBW.out.1; have h2_ := hz.out; rw [World.size_alloc] at h2_; omega) (fun e => by have h_ := HBW.out.2 _ e.symm; have h2_ := hz.out; rw [World.size_alloc] at h2_; omega)).trans HBV.out; have x0 := (hk.2 rb (by have h_ := blk_lt HB1.out; rw [World.size_alloc]; omega) (by have h_ := HBW.out.1; have h2_ := HRB.out; omega) (fun e => by have h_ := HBW.out.2 _ e.symm; have h2_ := HRB.out; omega)).trans (blk_below HB1.out (below_alloc (Below.refl _ _) _)); have r0 := blk_cell x0 0; have r1 := blk_cell x0 1; have fr := blk_frozen x0; have v0 := blk_cell x1 0; have v1 := blk_cell x1 1; have HX := Aside0.mk x0; have H2 := Aside0.mk hq; have H3 := Aside0.mk hk; clear hq hk x0 x1 hvb))
  refine bodyPost_ret (results_ct rfl _ _ rb 29 #[.int .i64 x.1, .int .i64 x.2] (0, 0) _ rfl (by refine blk_put (cs := #[.int .i64 x.1, .int .i64 0]) ?_ 1 _ rfl; refine blk_put (cs := #[.int .i64 0, .int .i64 0]) ?_ 0 _ rfl; exact HX.out) Try.underlying29 rfl (by kernel_rfl)) rfl ?_
  have h1 := HBW.out.1
  have h2 := HBW.out.2
  have h3 := below_size H2.out.bl
  have h4 := below_size HG.out.bl
  have hk : ∀ i, i ≠ rb → ((w2.setCell ⟨rb, 0, none⟩ (.int .i64 x.1)).setCell ⟨rb, 1, none⟩ (.int .i64 x.2)).heap[i]? = w2.heap[i]? := fun i hi => (Below.heap_setCell _ ⟨rb, 1, none⟩ _ i hi).trans (Below.heap_setCell _ ⟨rb, 0, none⟩ _ i hi)
  refine ⟨rfl, H2.out.kept (below_set (below_set H2.out.bl (by omega)) (by omega)) (hk g (by omega)) (fun k hkb => hk k (by have := h2 k hkb; omega)), ?_⟩
  have hb2 := below_step (below_alloc (Below.refl W.heap.size W) _) HB.out
  refine ⟨Nat.le_trans (Nat.le_trans hb2.size H3.out.1) (by simp [World.setCell]), fun i hi e1 e2 => ?_⟩
  rw [hk i (by omega)]
  exact (H3.out.2 i (Nat.lt_of_lt_of_le hi hb2.size) e1 e2).trans (hb2.block i hi)
end Go.Proofs.Ytekjkookkjjbcaa.RX
