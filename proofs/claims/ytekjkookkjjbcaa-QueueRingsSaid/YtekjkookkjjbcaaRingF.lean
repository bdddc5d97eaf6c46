/- The ring of numbers: what is no step, Pop, and all of it over the list that a ring holds. -/
import Derived.Test.YtekjkookkjjbcaaRingE
namespace Go.Proofs.Ytekjkookkjjbcaa.RI
set_option linter.unusedVariables false
set_option linter.unusedSimpArgs false
set_option linter.unusedVariables false
set_option linter.unusedSimpArgs false
open Go.RowKit Go.Proofs.YtekjkookkjjbcaaW.PrintWords Go.Proofs.YtekjkookkjjbcaaW.PrintLast Go.Proofs.YtekjkookkjjbcaaW.PrintMore Go.Proofs.Ytekjkookkjjbcaa.B Go.Proofs.Ytekjkookkjjbcaa.M
attribute [local go_sem] max2_int min2_int max_two min_two
theorem drop_none (W : World) (g : Nat) (most : Int) (v : Value) (f n : Nat) (k : Int) (h : RB W g most v f n) (hk : k ≤ 0 ∨ n = 0) :
    Calls Try.prog 32 #[.pointer (some ⟨g, 0, none⟩), .int .i64 k] W fun e W' => e = .returned (.int .i64 0) ∧ Drawn0 W W' := by
  have HG := Aside0.mk h
  obtain ⟨k0, hk0⟩ : ∃ k0, (if (n : Int) < k then (n : Int) else k) = k0 := ⟨_, rfl⟩
  have k1 : decide (k0 ≤ 0) = true := decide_eq_true (by rw [← hk0]; split <;> omega)
  clear h hk
  go_enter Try.func32, Try.ntmps32
  go_wp2_with (first
    | ((go_at_call 29); (with_reducible refine (len_calls _ g most _ f n HG.out).mono ?_); rintro e w1 ⟨rfl, ⟨nd, rfl⟩⟩))
  go_ret
  exact ⟨rfl, by first | exact ⟨⟨_, rfl⟩⟩ | exact Drawn0.refl _⟩
theorem drop_nil (W : World) (k : Int) :
    Calls Try.prog 32 #[.pointer none, .int .i64 k] W fun e W' => e = .returned (.int .i64 0) ∧ Drawn0 W W' := by
  obtain ⟨k0, hk0⟩ : ∃ k0, (if (0 : Int) < k then (0 : Int) else k) = k0 := ⟨_, rfl⟩
  have k1 : decide (k0 ≤ 0) = true := decide_eq_true (by rw [← hk0]; split <;> omega)
  go_enter Try.func32, Try.ntmps32
  go_wp2_with (first
    | ((go_at_call 29); (with_reducible refine (len_nil _).mono ?_); rintro e w1 ⟨rfl, ⟨nd, rfl⟩⟩))
  go_ret
  exact ⟨rfl, by first | exact ⟨⟨_, rfl⟩⟩ | exact Drawn0.refl _⟩
theorem push_nil (W : World) (x : Int) :
    Calls Try.prog 27 #[.pointer none, .int .i64 x] W fun e W' => e = .returned (.int .i64 1) ∧ Drawn0 W W' := by
  go_enter Try.func27, Try.ntmps27
  go_wp2
  go_ret
  exact ⟨rfl, by first | exact ⟨⟨_, rfl⟩⟩ | exact Drawn0.refl _⟩
theorem at_nil (W : World) (i : Int) :
    Calls Try.prog 39 #[.pointer none, .int .i64 i] W fun e W' => e = .returned (.tuple #[.int .i64 0, .bool false]) ∧ Drawn0 W W' := by
  by_cases hi : i < 0
  · have k1 : decide (i < 0) = true := decide_eq_true hi
    go_enter Try.func39, Try.ntmps39
    go_wp2
    go_ret2
    exact ⟨rfl, by first | exact ⟨⟨_, rfl⟩⟩ | exact Drawn0.refl _⟩
  · have k1 : decide (i < 0) = false := decide_eq_false hi
    have k2 : decide (i ≥ 0) = true := decide_eq_true (by omega)
    have k3 : decide (0 ≤ i) = true := decide_eq_true (by omega)
    go_enter Try.func39, Try.ntmps39
    go_wp2_with (first
      | ((go_at_call 29); (with_reducible refine (len_nil _).mono ?_); rintro e w1 ⟨rfl, ⟨nd, rfl⟩⟩))
    go_ret2
    exact ⟨rfl, by first | exact ⟨⟨_, rfl⟩⟩ | exact Drawn0.refl _⟩
/-- A ring that holds the list xs; b: the block of its row. -/
structure RQ (w0 W : World) (g : Nat) (most : Int) (xs : List Int) (b : Option Nat) : Prop where
  ex : ∃ v rm f, RG w0 W g most v rm f xs.length ∧ elsR rm f xs.length = xs ∧ v.ownBlock = b
theorem RQ.of {w0 W : World} {g : Nat} {most : Int} {v : Value} {rm : List Int} {f n : Nat} {xs : List Int} (h : RG w0 W g most v rm f n) (he : elsR rm f n = xs) : RQ w0 W g most xs v.ownBlock := by
  have hn : n = xs.length := by rw [← he, elsR_len]
  subst hn
  exact ⟨v, rm, f, h, he, rfl⟩
theorem RQ.below {w0 W W' : World} {g : Nat} {most : Int} {xs : List Int} {b : Option Nat} (h : RQ w0 W g most xs b) (hb : Below W.heap.size W W') : RQ w0 W' g most xs b := by
  obtain ⟨v, rm, f, h1, h2, h3⟩ := h.ex
  exact ⟨v, rm, f, h1.rb_below hb, h2, h3⟩
theorem RQ.bl {w0 W : World} {g : Nat} {most : Int} {xs : List Int} {b : Option Nat} (h : RQ w0 W g most xs b) : Below w0.heap.size w0 W := by
  obtain ⟨v, rm, f, h1, h2, h3⟩ := h.ex
  exact h1.bl
theorem RQ.bounds {w0 W : World} {g : Nat} {most : Int} {xs : List Int} {b : Option Nat} (h : RQ w0 W g most xs b) : (xs.length : Int) ≤ most ∧ 1 ≤ most ∧ most ≤ 1048576 := by
  obtain ⟨v, rm, f, h1, h2, h3⟩ := h.ex
  have := h1.nl
  have := h1.ml
  exact ⟨by omega, h1.m1, h1.m2⟩
theorem set_other (rm : List Int) (p q : Nat) (x : Int) (h : q ≠ p) : (rm.set p x).getD q 0 = rm.getD q 0 := by
  rw [List.getD_eq_getElem?_getD, List.getD_eq_getElem?_getD, List.getElem?_set_ne (fun e => h e.symm)]
theorem set_same (rm : List Int) (p : Nat) (x : Int) (h : p < rm.length) : (rm.set p x).getD p 0 = x := by
  rw [List.getD_eq_getElem?_getD, List.getElem?_set_self h]
  rfl
theorem elsR_ext {rm : List Int} {f n : Nat} {xs : List Int} (hl : n = xs.length) (h : ∀ i, i < n → rm.getD (posR rm.length f i) 0 = xs.getD i 0) : elsR rm f n = xs := by
  apply List.ext_getElem
  · rw [elsR_len, hl]
  · intro i h1 h2
    rw [elsR_len] at h1
    have a1 := elsR_at rm f n i h1
    rw [List.getD_eq_getElem?_getD, List.getElem?_eq_getElem (by rw [elsR_len]; exact h1), Option.getD_some] at a1
    rw [a1, h i h1, List.getD_eq_getElem?_getD, List.getElem?_eq_getElem h2, Option.getD_some]
theorem posR_ne (L f i n : Nat) (hi : i < n) (hn : n < L) (hf : f < L) : posR L f i ≠ posR L f n := by
  unfold posR
  split <;> split <;> omega
theorem elsR_push (rm : List Int) (f n : Nat) (x : Int) (hn : n < rm.length) (hf : f < rm.length) : elsR (rm.set (posR rm.length f n) x) f (n + 1) = elsR rm f n ++ [x] := by
  refine elsR_ext (by rw [List.length_append, elsR_len]; rfl) fun i hi => ?_
  rw [List.length_set]
  have hp : posR rm.length f n < rm.length := by unfold posR; split <;> omega
  by_cases h : i < n
  · rw [set_other _ _ _ _ (posR_ne _ f i n h hn hf)]
    have a1 := elsR_at rm f n i h
    rw [← a1, List.getD_eq_getElem?_getD, List.getD_eq_getElem?_getD, List.getElem?_append_left (by rw [elsR_len]; exact h)]
  · obtain rfl : i = n := by omega
    rw [set_same _ _ _ hp, List.getD_eq_getElem?_getD, List.getElem?_append_right (by rw [elsR_len]; exact Nat.le_refl _), elsR_len, Nat.sub_self]
    rfl
theorem elsR_grow (rm : List Int) (f n N : Nat) (x : Int) (hN : n < N) : elsR ((rowG rm f n N).set n x) 0 (n + 1) = elsR rm f n ++ [x] := by
  have hl := rowG_len rm f n N (by omega)
  refine elsR_ext (by rw [List.length_append, elsR_len]; rfl) fun i hi => ?_
  rw [List.length_set, hl, posR_0 N i (by omega)]
  by_cases h : i < n
  · rw [set_other _ _ _ _ (by omega), List.getD_eq_getElem?_getD, List.getD_eq_getElem?_getD]
    unfold rowG
    rw [List.getElem?_append_left (by rw [elsR_len]; exact h), List.getElem?_append_left (by rw [elsR_len]; exact h)]
  · obtain rfl : i = n := by omega
    rw [set_same _ _ _ (by omega), List.getD_eq_getElem?_getD, List.getElem?_append_right (by rw [elsR_len]; exact Nat.le_refl _), elsR_len, Nat.sub_self]
    rfl
theorem new_q (w0 W : World) (hB : Below w0.heap.size w0 W) (most : Int) (h : 1 ≤ most ∧ most ≤ 1048576) :
    Calls Try.prog 25 #[.int .i64 most] W fun e W' => ∃ g, e = .returned (.tuple #[.pointer (some ⟨g, 0, none⟩), .int .i64 0]) ∧ RQ w0 W' g most [] none ∧ Below W.heap.size W W' ∧ W.heap.size ≤ g := by
  refine (new_calls w0 W hB most h).mono ?_
  rintro e W' ⟨g, rfl, h1, h2, h3⟩
  exact ⟨g, rfl, RQ.of h1 rfl, h2, h3⟩
theorem len_q {w0 W : World} {g : Nat} {most : Int} {xs : List Int} {b : Option Nat} (h : RQ w0 W g most xs b) :
    Calls Try.prog 29 #[.pointer (some ⟨g, 0, none⟩)] W fun e W' => e = .returned (.int .i64 (xs.length : Int)) ∧ Drawn0 W W' := by
  obtain ⟨v, rm, f, h1, h2, h3⟩ := h.ex
  exact len_calls W g most v f _ h1.bk
theorem room_q {w0 W : World} {g : Nat} {most : Int} {xs : List Int} {b : Option Nat} (h : RQ w0 W g most xs b) :
    Calls Try.prog 26 #[.pointer (some ⟨g, 0, none⟩)] W fun e W' => e = .returned (.int .i64 (most - (xs.length : Int))) ∧ Drawn0 W W' := by
  have hb := h.bounds
  obtain ⟨v, rm, f, h1, h2, h3⟩ := h.ex
  exact room_calls W g most v f _ h1.bk ⟨by omega, by omega⟩ (by omega)
theorem at_q {w0 W : World} {g : Nat} {most : Int} {xs : List Int} {b : Option Nat} (h : RQ w0 W g most xs b) (i : Int) :
    Calls Try.prog 39 #[.pointer (some ⟨g, 0, none⟩), .int .i64 i] W fun e W' => e = .returned (.tuple #[.int .i64 (if 0 ≤ i ∧ i < xs.length then xs.getD i.toNat 0 else 0), .bool (decide (0 ≤ i ∧ i < xs.length))]) ∧ Drawn0 W W' := by
  obtain ⟨v, rm, f, h1, h2, h3⟩ := h.ex
  by_cases hi : 0 ≤ i ∧ i < xs.length
  · rw [if_pos hi, decide_eq_true hi]
    obtain ⟨j, rfl⟩ := Int.eq_ofNat_of_zero_le hi.1
    have := at_calls w0 W g most v rm f _ j h1 (by omega)
    rw [h2] at this
    exact this
  · rw [if_neg hi, decide_eq_false hi]
    exact at_none W g most v f _ i h1.bk (by omega)
theorem push_q_full {w0 W : World} {g : Nat} {most : Int} {xs : List Int} {b : Option Nat} (h : RQ w0 W g most xs b) (x : Int) (hm : (xs.length : Int) = most) :
    Calls Try.prog 27 #[.pointer (some ⟨g, 0, none⟩), .int .i64 x] W fun e W' => e = .returned (.int .i64 4) ∧ Drawn0 W W' := by
  obtain ⟨v, rm, f, h1, h2, h3⟩ := h.ex
  exact push_full w0 W g most v rm f _ x h1 hm
/-- The row's block stays, or is new. -/
def Moved (W : World) (b b' : Option Nat) : Prop := b' = b ∨ ∃ j, b' = some j ∧ W.heap.size ≤ j
theorem push_q {w0 W : World} {g : Nat} {most : Int} {xs : List Int} {b : Option Nat} (h : RQ w0 W g most xs b) (x : Int) (hm : (xs.length : Int) < most) :
    Calls Try.prog 27 #[.pointer (some ⟨g, 0, none⟩), .int .i64 x] W fun e W' => e = .returned (.int .i64 0) ∧ ∃ b', RQ w0 W' g most (xs ++ [x]) b' ∧ KeepBut W W' g b ∧ Moved W b b' := by
  obtain ⟨v, rm, f, h1, h2, h3⟩ := h.ex
  by_cases hn : xs.length < rm.length
  · refine (push_in w0 W g most v rm f _ x h1 hn).mono ?_
    rintro e W' ⟨rfl, h4, h5⟩
    have hf : f < rm.length := by have := h1.fl; omega
    have h6 := RQ.of h4 (elsR_push rm f _ x hn hf)
    rw [h2] at h6
    exact ⟨rfl, _, h6, h3 ▸ h5, .inl h3⟩
  · have hn2 : xs.length = rm.length := by have := h1.nl; omega
    obtain ⟨N, hN⟩ : ∃ N : Nat, (N : Int) = mn most (2 * (xs.length : Int) + 4) := by
      have hb := h.bounds
      obtain ⟨N, e⟩ := Int.eq_ofNat_of_zero_le (show 0 ≤ mn most (2 * (xs.length : Int) + 4) by
        rw [show mn most (2 * (xs.length : Int) + 4) = if 2 * (xs.length : Int) + 4 < most then 2 * (xs.length : Int) + 4 else most from rfl]
        split <;> omega)
      exact ⟨N, e.symm⟩
    have hNN : xs.length < N := by
      rw [show mn most (2 * (xs.length : Int) + 4) = if 2 * (xs.length : Int) + 4 < most then 2 * (xs.length : Int) + 4 else most from rfl] at hN
      split at hN <;> omega
    refine (push_grow w0 W g most v rm f _ N x h1 hn2 hm hN).mono ?_
    rintro e W' ⟨v', rfl, h4, h5, j, hj1, hj2⟩
    have h6 := RQ.of h4 (elsR_grow rm f _ N x hNN)
    rw [h2] at h6
    exact ⟨rfl, _, h6, ⟨h5.1, fun i hi h7 _ => h5.2 i hi h7 (by simp)⟩, .inr ⟨j, hj1, hj2⟩⟩
theorem drop_q_none {w0 W : World} {g : Nat} {most : Int} {xs : List Int} {b : Option Nat} (h : RQ w0 W g most xs b) (k : Int) (hk : k ≤ 0 ∨ xs = []) :
    Calls Try.prog 32 #[.pointer (some ⟨g, 0, none⟩), .int .i64 k] W fun e W' => e = .returned (.int .i64 0) ∧ Drawn0 W W' := by
  obtain ⟨v, rm, f, h1, h2, h3⟩ := h.ex
  exact drop_none W g most v f _ k h1.bk (hk.imp_right (fun e => by rw [e]; rfl))
theorem drop_q {w0 W : World} {g : Nat} {most : Int} {xs : List Int} {b : Option Nat} (h : RQ w0 W g most xs b) (k : Int) (k0 : Nat) (hk : (if (xs.length : Int) < k then (xs.length : Int) else k) = (k0 : Int)) (h0 : 0 < k0) :
    Calls Try.prog 32 #[.pointer (some ⟨g, 0, none⟩), .int .i64 k] W fun e W' => e = .returned (.int .i64 (k0 : Int)) ∧ RQ w0 W' g most (xs.drop k0) b ∧ KeepBut W W' g b := by
  obtain ⟨v, rm, f, h1, h2, h3⟩ := h.ex
  have hkn : k0 ≤ xs.length := by split at hk <;> omega
  refine (drop_in w0 W g most v rm f _ k k0 h1 hk h0 hkn).mono ?_
  rintro e W' ⟨rfl, h4, h5⟩
  have hf : f < rm.length := by have := h1.fl; have := h1.nl; omega
  have h6 := RQ.of h4 (elsR_drop rm f _ k0 hf hkn h1.nl)
  rw [h2, h3] at h6
  exact ⟨rfl, h6, h3 ▸ h5⟩
theorem row_q {w0 W : World} {g : Nat} {most : Int} {xs : List Int} {b : Option Nat} (h : RQ w0 W g most xs b) :
    Calls Try.prog 73 #[.pointer (some ⟨g, 0, none⟩)] W fun e W' => ∃ v', e = .returned v' ∧ OwnI W W' v' xs ∧ Below W.heap.size W W' := by
  obtain ⟨v, rm, f, h1, h2, h3⟩ := h.ex
  have := row_calls w0 W g most v rm f _ h1
  rw [h2] at this
  exact this
theorem pop_none {w0 W : World} {g : Nat} {most : Int} {b : Option Nat} (h : RQ w0 W g most [] b) :
    Calls Try.prog 28 #[.pointer (some ⟨g, 0, none⟩)] W fun e W' => e = .returned (.tuple #[.int .i64 0, .bool false]) ∧ Drawn0 W W' := by
  have HG := Aside0.mk h
  clear h
  go_enter Try.func28, Try.ntmps28
  go_wp2_with (first
    | ((go_at_call 39); (with_reducible refine (at_q HG.out 0).mono ?_); rintro e w1 ⟨rfl, ⟨nd, rfl⟩⟩))
  go_ret2
  exact ⟨rfl, by first | exact ⟨⟨_, rfl⟩⟩ | exact Drawn0.refl _⟩
theorem pop_q {w0 W : World} {g : Nat} {most : Int} {x : Int} {xs : List Int} {b : Option Nat} (h : RQ w0 W g most (x :: xs) b) :
    Calls Try.prog 28 #[.pointer (some ⟨g, 0, none⟩)] W fun e W' => e = .returned (.tuple #[.int .i64 x, .bool true]) ∧ RQ w0 W' g most xs b ∧ KeepBut W W' g b := by
  have HG := Aside0.mk h
  have HA := Aside0.mk (fun (W : World) (h : RQ w0 W g most (x :: xs) b) => (at_q h 0))
  have e1 : (0 : Int) ≤ 0 ∧ (0 : Int) < ((x :: xs).length : Int) := ⟨Int.le_refl _, by rw [List.length_cons]; omega⟩
  rw [if_pos e1, decide_eq_true e1] at HA
  have HD := Aside0.mk (fun (W : World) (h : RQ w0 W g most (x :: xs) b) => (drop_q h 1 1 (by rw [List.length_cons]; split <;> omega) (by omega)))
  clear h e1
  go_enter Try.func28, Try.ntmps28
  go_wp2_with (first
    | ((go_at_call 39); (with_reducible refine (HA.out _ HG.out).mono ?_); rintro e w1 ⟨rfl, ⟨nd, rfl⟩⟩)
    | ((go_at_call 32); (with_reducible refine (HD.out _ (HG.out.below (pw_below_drewN (Below.refl _ _) _))).mono ?_); rintro e w2 ⟨rfl, hq, hk⟩; have H2 := Aside0.mk hq; have H3 := Aside0.mk hk; clear hq hk))
  go_ret2
  exact ⟨rfl, H2.out, H3.out⟩
end Go.Proofs.Ytekjkookkjjbcaa.RI
