/- The heap of things: its row, NewHeap, Len, Peek. -/
import Derived.Test.YtekjkookkjjbcaaHeapB
namespace Go.Proofs.Ytekjkookkjjbcaa.HW
set_option linter.unusedVariables false
set_option linter.unusedSimpArgs false
set_option linter.unusedVariables false
set_option linter.unusedSimpArgs false
open Go.RowKit Go.Proofs.YtekjkookkjjbcaaW.PrintWords Go.Proofs.YtekjkookkjjbcaaW.PrintLast Go.Proofs.YtekjkookkjjbcaaW.PrintMore Go.Proofs.Ytekjkookkjjbcaa.B Go.Proofs.Ytekjkookkjjbcaa.M Go.Proofs.Ytekjkookkjjbcaa.HeapP
theorem infoW : (Try.prog.info? 101).map (fun i => (i.zero, i.size, i.bytes)) = some (some (.agg #[.int .i64 0, .int .i64 0, .int .i64 0]), 3, 24) := by kernel_rfl
abbrev kW : Kd T3 := Kd.pair (Kd.int .i64) (Kd.pair (Kd.int .i64) (Kd.int .i64))
theorem kW_sz : kW.sz = 3 := rfl
theorem kW_open {w : World} {base : Nat} {ok : Nat → Prop} {x : T3} {cs : List Value} (h : kW.M w base ok x cs) : cs = enc3 x := by
  obtain ⟨_, _, rfl, h1, _, _, rfl, h2, h3⟩ := h
  have h1 : _ = [Value.int .i64 x.1] := h1
  have h2 : _ = [Value.int .i64 x.2.1] := h2
  have h3 : _ = [Value.int .i64 x.2.2] := h3
  rw [h1, h2, h3]
  rfl
theorem kW_mk (w : World) (base : Nat) (ok : Nat → Prop) (x : T3) : kW.M w base ok x (enc3 x) := ⟨[.int .i64 x.1], [.int .i64 x.2.1, .int .i64 x.2.2], rfl, rfl, [.int .i64 x.2.1], [.int .i64 x.2.2], rfl, rfl, rfl⟩
theorem kW_mkK (w : World) (x : T3) : kW.K w x (enc3 x) := ⟨[.int .i64 x.1], [.int .i64 x.2.1, .int .i64 x.2.2], rfl, rfl, [.int .i64 x.2.1], [.int .i64 x.2.2], rfl, rfl, rfl⟩
theorem enc3_len (x : T3) : (enc3 x).length = 3 := rfl
theorem cells3_cons (x : T3) (xs : List T3) : cells3 (x :: xs) = enc3 x ++ cells3 xs := rfl
theorem reps3 {R : T3 → List Value → Prop} (hR : ∀ x cs, R x cs → cs = enc3 x) (xs : List T3) : ∀ inner : List Value, Reps R 3 xs inner → inner = cells3 xs := by
  induction xs with
  | nil => intro inner h; exact List.eq_nil_of_length_eq_zero (by have := h.1; simpa using this)
  | cons x xs ih =>
    intro inner h
    have h0 := hR _ _ (h.2 0 x rfl)
    rw [Nat.zero_mul, List.drop_zero] at h0
    have ht : Reps R 3 xs (inner.drop 3) := ⟨by have := h.1; rw [List.length_drop, this, List.length_cons]; omega, fun j p hp => by
      have := h.2 (j + 1) p (by rw [List.getElem?_cons_succ]; exact hp)
      rw [List.drop_drop, show 3 + j * 3 = (j + 1) * 3 by omega]
      exact this⟩
    rw [cells3_cons, ← ih _ ht, ← h0, List.take_append_drop]
theorem reps3_mk {R : T3 → List Value → Prop} (hR : ∀ x, R x (enc3 x)) (xs : List T3) : Reps R 3 xs (cells3 xs) := by
  refine ⟨cells3_len xs, ?_⟩
  induction xs with
  | nil => intro j p h; simp at h
  | cons x xs ih =>
    intro j p h
    cases j with
    | zero =>
      obtain rfl : x = p := by simpa using h
      rw [Nat.zero_mul, List.drop_zero, cells3_cons, List.take_left' (enc3_len x)]
      exact hR x
    | succ j =>
      rw [cells3_cons, show (j + 1) * 3 = (enc3 x).length + j * 3 by rw [enc3_len]; omega, List.drop_append]
      simp only [Nat.add_sub_cancel_left]
      rw [List.drop_of_length_le (by rw [enc3_len]; omega), List.nil_append]
      exact ih j p (by rw [List.getElem?_cons_succ] at h; exact h)
abbrev RW (w0 W : World) (v : Value) (xs : List T3) : Prop := Kd.R kW 101 W w0.heap.size (fun _ => True) v xs
theorem RW.o3 {w0 W : World} {v : Value} {xs : List T3} (h : RW w0 W v xs) (hp : 0 < xs.length) : ∃ g9 c9, v = .slice (some ⟨g9, 0, none⟩) xs.length c9 ∧ O3 W w0.heap.size g9 c9 xs := by
  obtain ⟨g9, c9, hv, hb, hl, _⟩ := Kd.R_form h hp
  obtain ⟨h0, inner, ho, hr⟩ := h
  have e : inner = cells3 xs := reps3 (fun x cs hM => kW_open hM) xs inner hr
  subst e
  subst hv
  exact ⟨g9, c9, rfl, ho⟩
theorem RW.of {w0 W : World} {g9 c9 : Nat} {xs : List T3} (h : O3 W w0.heap.size g9 c9 xs) : RW w0 W (.slice (some ⟨g9, 0, none⟩) xs.length c9) xs :=
  ⟨fun _ _ => trivial, cells3 xs, h, reps3_mk (fun x => kW_mk _ _ _ x) xs⟩
/-- Not behind. -/
def leW (c : Int → Int → Int) (y z : T3) : Prop := aheadB c z y = false
structure Orders (c : Int → Int → Int) : Prop where
  tr : ∀ y z u, leW c y z → leW c z u → leW c y u
  rf : ∀ y, leW c y y
  tot : ∀ y z, aheadB c y z = true → leW c y z
theorem key_orders : Orders kcmp := by
  have hk : ∀ y z : T3, leW kcmp y z ↔ (y.1 < z.1 ∨ (y.1 = z.1 ∧ y.2.2 ≤ z.2.2)) := fun y z => by
    unfold leW aheadB kcmp
    by_cases h1 : z.1 < y.1
    · simp [h1]; omega
    · by_cases h2 : y.1 < z.1
      · simp [h1, h2]
      · simp [h1, h2]; omega
  refine ⟨fun y z u h1 h2 => ?_, fun y => ?_, fun y z h => ?_⟩
  · rw [hk] at h1 h2 ⊢; omega
  · rw [hk]; omega
  · rw [hk]
    unfold aheadB kcmp at h
    by_cases h1 : y.1 < z.1
    · exact .inl h1
    · by_cases h2 : z.1 < y.1
      · simp [h1, h2] at h
      · simp [h1, h2] at h; omega
theorem alike_orders : Orders zcmp := by
  have hk : ∀ y z : T3, leW zcmp y z ↔ y.2.2 ≤ z.2.2 := fun y z => by
    unfold leW aheadB zcmp
    simp
  refine ⟨fun y z u h1 h2 => ?_, fun y => ?_, fun y z h => ?_⟩
  · rw [hk] at h1 h2 ⊢; omega
  · rw [hk]; omega
  · rw [hk]
    unfold aheadB zcmp at h
    simp at h
    omega
/-- A heap that NewHeap made, of the order K, which tells c: its row and what is in it. -/
structure HG (w0 W : World) (g K : Nat) (c : Int → Int → Int) (came : Int) (v : Value) (xs : List T3) : Prop where
  bk : HB W g (.func (.func K) #[] #[]) v came
  gg : w0.heap.size ≤ g
  bl : Below w0.heap.size w0 W
  ow : RW w0 W v xs
  ml : xs.length ≤ 1048576
  hp : IsHeap (leW c) d3 xs
theorem HG.below {w0 W W' : World} {g K : Nat} {c : Int → Int → Int} {came : Int} {v : Value} {xs : List T3} (h : HG w0 W g K c came v xs) (hb : Below W.heap.size W W') : HG w0 W' g K c came v xs :=
  ⟨blk_below h.bk hb, h.gg, below_step h.bl hb, Kd.R_below h.ow hb, h.ml, h.hp⟩
theorem nf_k (W : World) : (binOp .eql 30 (.func (.func 13) #[] #[]) .nilFunc).run Try.prog W = .ok (.bool false) W := by kernel_rfl
theorem nf_a (W : World) : (binOp .eql 30 (.func (.func 51) #[] #[]) .nilFunc).run Try.prog W = .ok (.bool false) W := by kernel_rfl
theorem newheap_key (w0 W : World) (hB : Below w0.heap.size w0 W) :
    Calls Try.prog 12 #[.func (.func 13) #[] #[]] W fun e W' => ∃ g, e = .returned (.pointer (some ⟨g, 0, none⟩)) ∧ HG w0 W' g 13 kcmp 0 (.slice none 0 0) [] ∧ Below W.heap.size W W' ∧ W.heap.size ≤ g := by
  have hn := nf_k W
  go_enter Try.func12, Try.ntmps12
  go_wp2
  go_ret
  have hb := below_alloc (Below.refl W.heap.size W) (.cells #[.func (.func 13) #[] #[], .slice none 0 0, .int .i64 0] 97 (0, 0))
  exact ⟨W.heap.size, rfl, ⟨show HB _ _ _ _ _ from heap_alloc_new W _, below_size hB, below_step hB hb, Kd.R_nil _ _ _ _ _, by simp, fun j h0 hj => by simp at hj⟩, hb, Nat.le_refl _⟩
theorem newheap_alike (w0 W : World) (hB : Below w0.heap.size w0 W) :
    Calls Try.prog 12 #[.func (.func 51) #[] #[]] W fun e W' => ∃ g, e = .returned (.pointer (some ⟨g, 0, none⟩)) ∧ HG w0 W' g 51 zcmp 0 (.slice none 0 0) [] ∧ Below W.heap.size W W' ∧ W.heap.size ≤ g := by
  have hn := nf_a W
  go_enter Try.func12, Try.ntmps12
  go_wp2
  go_ret
  have hb := below_alloc (Below.refl W.heap.size W) (.cells #[.func (.func 51) #[] #[], .slice none 0 0, .int .i64 0] 97 (0, 0))
  exact ⟨W.heap.size, rfl, ⟨show HB _ _ _ _ _ from heap_alloc_new W _, below_size hB, below_step hB hb, Kd.R_nil _ _ _ _ _, by simp, fun j h0 hj => by simp at hj⟩, hb, Nat.le_refl _⟩
theorem hlen_calls {w0 W : World} {g K : Nat} {c : Int → Int → Int} {came : Int} {v : Value} {xs : List T3} (h : HG w0 W g K c came v xs) :
    Calls Try.prog 21 #[.pointer (some ⟨g, 0, none⟩)] W fun e W' => e = .returned (.int .i64 (xs.length : Int)) ∧ Drawn0 W W' := by
  obtain ⟨A, cc, rfl⟩ := Kd.R_slice h.ow
  have c1 : W.cell? ⟨g, 1, none⟩ = some (.slice A xs.length cc) := blk_cell h.bk 1
  clear h
  go_enter Try.func21, Try.ntmps21
  go_wp2
  go_ret
  exact ⟨rfl, Drawn0.refl _⟩
theorem peek_none {w0 W : World} {g K : Nat} {c : Int → Int → Int} {came : Int} {v : Value} (h : HG w0 W g K c came v []) :
    Calls Try.prog 19 #[.pointer (some ⟨g, 0, none⟩)] W fun e W' => e = .returned (.tuple #[.agg #[.int .i64 0, .int .i64 0], .bool false]) ∧ Below W.heap.size W W' := by
  have HG' := Aside0.mk h
  clear h
  go_enter Try.func19, Try.ntmps19
  go_wp2_with (first
    | ((go_at_call 21); (with_reducible refine (hlen_calls (HG'.out.below (below_alloc (Below.refl _ _) _))).mono ?_); rintro e w1 ⟨rfl, ⟨nd, rfl⟩⟩))
  exact bodyPost_ret (v := .tuple #[.agg #[.int .i64 0, .int .i64 0], .bool false]) (by simp [results, Try.results19, go_sem]) rfl ⟨rfl, (by repeat (first | exact Below.refl _ _ | exact Nat.le_refl _ | exact Nat.le_succ _ | (refine below_alloc ?_ _) | (refine below_set ?_ ?_) | (refine pw_below_drewN ?_ _)))⟩
theorem peek_calls {w0 W : World} {g K : Nat} {c : Int → Int → Int} {came : Int} {v : Value} {x : T3} {xs : List T3} (h : HG w0 W g K c came v (x :: xs)) :
    Calls Try.prog 19 #[.pointer (some ⟨g, 0, none⟩)] W fun e W' => e = .returned (.tuple #[.agg #[.int .i64 x.1, .int .i64 x.2.1], .bool true]) ∧ Below W.heap.size W W' := by
  have HG' := Aside0.mk h
  obtain ⟨g9, c9, rfl, ho⟩ := RW.o3 h.ow (by simp)
  have c1 : W.cell? ⟨g, 1, none⟩ = some (.slice (some ⟨g9, 0, none⟩) (x :: xs).length c9) := blk_cell h.bk 1
  obtain ⟨x1, x2, _⟩ := ho.cell 0 (by simp)
  rw [Nat.zero_mul] at x1 x2
  rw [Nat.zero_add] at x2
  rw [show (x :: xs).getD 0 d3 = x from rfl] at x1 x2
  have hg : g < W.heap.size := blk_lt h.bk
  have hg9 : g9 < W.heap.size := by obtain ⟨cur, hh, _⟩ := ho.blk; exact blk_lt hh
  obtain ⟨n, hn⟩ : ∃ n, (x :: xs).length = n := ⟨_, rfl⟩
  have hn0 : 0 < n := by rw [← hn]; simp
  have HL := Aside0.mk (fun (W : World) (h : HG w0 W g K c came (.slice (some ⟨g9, 0, none⟩) (x :: xs).length c9) (x :: xs)) => hlen_calls h)
  rw [hn] at HL c1 HG'
  have n1 : ((n : Int) == 0) = false := beq_eq_false_iff_ne.2 (by omega)
  have n2 : (0 < n) = True := eq_true (by omega)
  have n3 : decide (n = 0) = false := decide_eq_false (by omega)
  have n4 : (n == 0) = false := beq_eq_false_iff_ne.2 (by omega)
  clear h ho hn hn0
  go_enter Try.func19, Try.ntmps19
  go_wp2_with (first
    | ((go_at_call 21); (with_reducible refine (HL.out _ (HG'.out.below (below_alloc (Below.refl _ _) _))).mono ?_); rintro e w1 ⟨rfl, ⟨nd, rfl⟩⟩))
  exact bodyPost_ret (v := .tuple #[.agg #[.int .i64 x.1, .int .i64 x.2.1], .bool true]) (by simp [results, Try.results19, go_sem]) rfl ⟨rfl, (by repeat (first | exact Below.refl _ _ | exact Nat.le_refl _ | exact Nat.le_succ _ | (refine below_alloc ?_ _) | (refine below_set ?_ ?_) | (refine pw_below_drewN ?_ _)))⟩
end Go.Proofs.Ytekjkookkjjbcaa.HW
