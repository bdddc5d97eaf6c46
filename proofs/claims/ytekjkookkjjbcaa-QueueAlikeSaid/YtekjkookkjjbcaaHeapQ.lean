/- The heap of things over the list of what came. -/
import Derived.Test.YtekjkookkjjbcaaHeapF
namespace Go.Proofs.Ytekjkookkjjbcaa.HW
set_option linter.unusedVariables false
set_option linter.unusedSimpArgs false
set_option linter.unusedVariables false
set_option linter.unusedSimpArgs false
open Go.RowKit Go.Proofs.YtekjkookkjjbcaaW.PrintWords Go.Proofs.YtekjkookkjjbcaaW.PrintLast Go.Proofs.YtekjkookkjjbcaaW.PrintMore Go.Proofs.Ytekjkookkjjbcaa.B Go.Proofs.Ytekjkookkjjbcaa.M Go.Proofs.Ytekjkookkjjbcaa.HeapP
abbrev NilNot (K : Nat) : Prop := ∀ W, (binOp .eql 30 (.func (.func K) #[] #[]) .nilFunc).run Try.prog W = .ok (.bool false) W
/-- All that is asked of an order's function. -/
structure OrdF (K : Nat) (c : Int → Int → Int) : Prop where
  ah : AheadBy K c
  or : Orders c
  nn : NilNot K
  an : ∀ y z, leW c y z → leW c z y → y.2.2 = z.2.2
theorem key_ord : OrdF 13 kcmp := ⟨key_ahead, key_orders, nf_k, fun y z h1 h2 => by
  unfold leW aheadB kcmp at h1 h2
  by_cases a1 : z.1 < y.1
  · simp [a1] at h1
  · by_cases a2 : y.1 < z.1
    · simp [a2] at h2
    · simp [a1, a2] at h1 h2; omega⟩
theorem alike_ord : OrdF 51 zcmp := ⟨alike_ahead, alike_orders, nf_a, fun y z h1 h2 => by
  unfold leW aheadB zcmp at h1 h2
  simp at h1 h2
  omega⟩
/-- A heap that holds ps, in the order in which they came; b: the block of its row. -/
structure HQ (w0 W : World) (g K : Nat) (c : Int → Int → Int) (came : Int) (ps : List T3) (b : Option Nat) : Prop where
  ex : ∃ v xs, HG w0 W g K c came v xs ∧ xs.Perm ps ∧ v.ownBlock = b
  so : ps.Pairwise (fun y z => y.2.2 < z.2.2)
  lt : ∀ y, y ∈ ps → y.2.2 < came
/-- The least one. -/
def Least (c : Int → Int → Int) (ps : List T3) (x : T3) : Prop := x ∈ ps ∧ ∀ y, y ∈ ps → leW c x y
theorem came_inj {ps : List T3} (h : ps.Pairwise (fun y z => y.2.2 < z.2.2)) {y z : T3} (hy : y ∈ ps) (hz : z ∈ ps) (e : y.2.2 = z.2.2) : y = z := by
  induction ps with
  | nil => cases hy
  | cons a ps ih =>
    rw [List.pairwise_cons] at h
    rcases List.mem_cons.1 hy with ey | hy'
    · rcases List.mem_cons.1 hz with ez | hz'
      · rw [ey, ez]
      · have := h.1 z hz'; rw [ey] at e; omega
    · rcases List.mem_cons.1 hz with ez | hz'
      · have := h.1 y hy'; rw [ez] at e; omega
      · exact ih h.2 hy' hz'
theorem least_uniq {K : Nat} {c : Int → Int → Int} (ho : OrdF K c) {ps : List T3} (h : ps.Pairwise (fun y z => y.2.2 < z.2.2)) {x y : T3} (hx : Least c ps x) (hy : Least c ps y) : x = y :=
  came_inj h hx.1 hy.1 (ho.an _ _ (hx.2 _ hy.1) (hy.2 _ hx.1))
section
variable {w0 W W' : World} {g K : Nat} {c : Int → Int → Int} {came : Int} {ps : List T3} {b : Option Nat}
theorem HQ.below (h : HQ w0 W g K c came ps b) (hb : Below W.heap.size W W') : HQ w0 W' g K c came ps b := by
  obtain ⟨v, xs, h1, h2, h3⟩ := h.ex
  exact ⟨⟨v, xs, h1.below hb, h2, h3⟩, h.so, h.lt⟩
theorem HQ.bl (h : HQ w0 W g K c came ps b) : Below w0.heap.size w0 W := by
  obtain ⟨v, xs, h1, h2, h3⟩ := h.ex
  exact h1.bl
theorem HQ.len (h : HQ w0 W g K c came ps b) : ps.length ≤ 1048576 := by
  obtain ⟨v, xs, h1, h2, h3⟩ := h.ex
  rw [← h2.length_eq]
  exact h1.ml
theorem HQ.blk (h : HQ w0 W g K c came ps b) : (∃ cs, W.heap[g]? = some (.cells cs 97 (0, 0))) ∧ w0.heap.size ≤ g := by
  obtain ⟨v, xs, h1, h2, h3⟩ := h.ex
  exact ⟨⟨_, h1.bk⟩, h1.gg⟩
theorem HQ.row (h : HQ w0 W g K c came ps b) : ∀ k, b = some k → (∃ cs, W.heap[k]? = some (.cells cs 101 (0, 0))) ∧ w0.heap.size ≤ k := by
  obtain ⟨v, xs, h1, h2, h3⟩ := h.ex
  intro k hk
  obtain ⟨cs, hc⟩ := Kd.R_typed h1.ow k (h3.trans hk)
  exact ⟨⟨cs, hc⟩, Kd.R_base h1.ow k (h3.trans hk)⟩
/-- What another call has left alone. -/
theorem HQ.kept (h : HQ w0 W g K c came ps b) (hb : Below w0.heap.size w0 W') (hg : W'.heap[g]? = W.heap[g]?) (hr : ∀ k, b = some k → W'.heap[k]? = W.heap[k]?) : HQ w0 W' g K c came ps b := by
  obtain ⟨v, xs, h1, h2, h3⟩ := h.ex
  exact ⟨⟨v, xs, ⟨hg.trans h1.bk, h1.gg, hb, Kd.R_mono (Kd.R_move (Kd.R_tight rfl h1.ow) (fun k hk => hr k (by rw [← h3]; exact hk.symm))) (fun _ _ => trivial), h1.ml, h1.hp⟩, h2, h3⟩, h.so, h.lt⟩
theorem hlen_q (h : HQ w0 W g K c came ps b) :
    Calls Try.prog 21 #[.pointer (some ⟨g, 0, none⟩)] W fun e W' => e = .returned (.int .i64 (ps.length : Int)) ∧ Drawn0 W W' := by
  obtain ⟨v, xs, h1, h2, h3⟩ := h.ex
  rw [← h2.length_eq]
  exact hlen_calls h1
theorem hpush_q (ho : OrdF K c) (h : HQ w0 W g K c came ps b) (hc0 : 0 ≤ came ∧ came < 4611686018427387904) (hl : ps.length < 1048576) (k i : Int) :
    Calls Try.prog 15 #[.pointer (some ⟨g, 0, none⟩), .agg #[.int .i64 k, .int .i64 i]] W fun e W' => e = .returned (.int .i64 0) ∧ ∃ b', HQ w0 W' g K c (came + 1) (ps ++ [(k, i, came)]) b' ∧ KeepBut W W' g b ∧ MovedH W b b' := by
  obtain ⟨v, xs, h1, h2, h3⟩ := h.ex
  refine (push_h h1 ho.ah ho.or hc0 (by rw [h2.length_eq]; exact hl) k i ho.nn).mono ?_
  rintro e W' ⟨rfl, v', ys, h4, h5, h6, h7⟩
  rw [h3] at h6 h7
  refine ⟨rfl, _, ⟨⟨v', ys, h4, h5.trans (h2.append_right _), rfl⟩, ?_, ?_⟩, h6, h7⟩
  · rw [List.pairwise_append]
    refine ⟨h.so, by simp, fun y hy z hz => ?_⟩
    rw [List.mem_singleton.1 hz]
    exact h.lt y hy
  · intro y hy
    rcases List.mem_append.1 hy with hy | hy
    · have := h.lt y hy; omega
    · rw [List.mem_singleton.1 hy]
      show came < came + 1
      omega
theorem hpush_q_full (h : HQ w0 W g K c came ps b) (hnf : NilNot K) (hl : 1048576 ≤ ps.length) (k i : Int) :
    Calls Try.prog 15 #[.pointer (some ⟨g, 0, none⟩), .agg #[.int .i64 k, .int .i64 i]] W fun e W' => e = .returned (.int .i64 4) ∧ Below W.heap.size W W' := by
  obtain ⟨v, xs, h1, h2, h3⟩ := h.ex
  obtain ⟨A, cc, rfl⟩ := Kd.R_slice h1.ow
  have hl2 : 1048576 ≤ xs.length := by rw [h2.length_eq]; exact hl
  have c0 : W.cell? ⟨g, 0, none⟩ = some (.func (.func K) #[] #[]) := blk_cell h1.bk 0
  have c1 : W.cell? ⟨g, 1, none⟩ = some (.slice A xs.length cc) := blk_cell h1.bk 1
  have hg : g < W.heap.size := blk_lt h1.bk
  have k1 : decide ((xs.length : Int) ≥ 1048576) = true := decide_eq_true (by omega)
  have k2 : decide ((1048576 : Int) ≤ (xs.length : Int)) = true := decide_eq_true (by omega)
  have k3 : decide (1048576 ≤ xs.length) = true := decide_eq_true (by omega)
  have hn := hnf (W.alloc (.cells #[.int .i64 k, .int .i64 i] 29 (0, 0)))
  generalize xs.length = N at *
  clear h hl hl2 h1 h2 h3 hnf
  go_enter Try.func15, Try.ntmps15
  go_wp2_with (fail)
  go_ret
  exact ⟨rfl, (by repeat (first | exact Below.refl _ _ | exact Nat.le_refl _ | exact Nat.le_succ _ | (refine below_alloc ?_ _) | (refine below_set ?_ ?_) | (refine pw_below_drewN ?_ _)))⟩
theorem hpeek_none (h : HQ w0 W g K c came [] b) :
    Calls Try.prog 19 #[.pointer (some ⟨g, 0, none⟩)] W fun e W' => e = .returned (.tuple #[.agg #[.int .i64 0, .int .i64 0], .bool false]) ∧ Below W.heap.size W W' := by
  obtain ⟨v, xs, h1, h2, h3⟩ := h.ex
  obtain rfl := h2.eq_nil
  exact peek_none h1
theorem hpop_none (h : HQ w0 W g K c came [] b) :
    Calls Try.prog 17 #[.pointer (some ⟨g, 0, none⟩)] W fun e W' => e = .returned (.tuple #[.agg #[.int .i64 0, .int .i64 0], .bool false]) ∧ Below W.heap.size W W' := by
  obtain ⟨v, xs, h1, h2, h3⟩ := h.ex
  obtain rfl := h2.eq_nil
  exact pop_none_h h1
theorem head_least (ho : Orders c) {x : T3} {xs : List T3} (h : IsHeap (leW c) d3 (x :: xs)) (hp : (x :: xs).Perm ps) : Least c ps x := by
  refine ⟨hp.mem_iff.1 List.mem_cons_self, fun y hy => ?_⟩
  obtain ⟨j, hj, he⟩ := List.mem_iff_getElem.1 (hp.mem_iff.2 hy)
  have := heap_least (leW c) d3 ho.tr ho.rf h j hj
  rw [List.getD_eq_getElem?_getD, List.getD_eq_getElem?_getD, List.getElem?_eq_getElem hj, Option.getD_some, he] at this
  exact this
theorem hpeek_q (ho : OrdF K c) (h : HQ w0 W g K c came ps b) {x : T3} (hx : Least c ps x) :
    Calls Try.prog 19 #[.pointer (some ⟨g, 0, none⟩)] W fun e W' => e = .returned (.tuple #[.agg #[.int .i64 x.1, .int .i64 x.2.1], .bool true]) ∧ Below W.heap.size W W' := by
  obtain ⟨v, xs, h1, h2, h3⟩ := h.ex
  cases xs with
  | nil => exact absurd (h2.mem_iff.2 hx.1) (by simp)
  | cons y ys =>
    obtain rfl := least_uniq ho h.so hx (head_least ho.or h1.hp h2)
    exact peek_calls h1
theorem hpop_q (ho : OrdF K c) (h : HQ w0 W g K c came ps b) {x : T3} (hx : Least c ps x) :
    Calls Try.prog 17 #[.pointer (some ⟨g, 0, none⟩)] W fun e W' => e = .returned (.tuple #[.agg #[.int .i64 x.1, .int .i64 x.2.1], .bool true]) ∧ ∃ b', HQ w0 W' g K c came (ps.erase x) b' ∧ KeepBut W W' g b ∧ MovedH W b b' := by
  obtain ⟨v, xs, h1, h2, h3⟩ := h.ex
  cases xs with
  | nil => exact absurd (h2.mem_iff.2 hx.1) (by simp)
  | cons y ys =>
    obtain rfl := least_uniq ho h.so hx (head_least ho.or h1.hp h2)
    refine (pop_h h1 ho.ah ho.or).mono ?_
    rintro e W' ⟨rfl, v', zs, h4, h5, h6, h7⟩
    rw [h3] at h6 h7
    have h8 := h2.erase x
    rw [List.erase_cons_head] at h8
    exact ⟨rfl, _, ⟨⟨v', zs, h4, h5.trans h8, rfl⟩, h.so.sublist List.erase_sublist, fun y hy => h.lt y (List.mem_of_mem_erase hy)⟩, h6, h7⟩
theorem least_ex (ho : OrdF K c) (h : HQ w0 W g K c came ps b) (hp : ps ≠ []) : ∃ x, Least c ps x := by
  obtain ⟨v, xs, h1, h2, h3⟩ := h.ex
  cases xs with
  | nil => exact absurd h2.symm.eq_nil hp
  | cons y ys => exact ⟨y, head_least ho.or h1.hp h2⟩
theorem newheap_q (hB : Below w0.heap.size w0 W) :
    Calls Try.prog 12 #[.func (.func 13) #[] #[]] W fun e W' => ∃ g, e = .returned (.pointer (some ⟨g, 0, none⟩)) ∧ HQ w0 W' g 13 kcmp 0 [] none ∧ Below W.heap.size W W' ∧ W.heap.size ≤ g :=
  (newheap_key w0 W hB).mono fun e W' ⟨g, h1, h2, h3, h4⟩ => ⟨g, h1, ⟨⟨_, _, h2, List.Perm.refl _, rfl⟩, List.Pairwise.nil, fun y hy => by cases hy⟩, h3, h4⟩
theorem newheap_qa (hB : Below w0.heap.size w0 W) :
    Calls Try.prog 12 #[.func (.func 51) #[] #[]] W fun e W' => ∃ g, e = .returned (.pointer (some ⟨g, 0, none⟩)) ∧ HQ w0 W' g 51 zcmp 0 [] none ∧ Below W.heap.size W W' ∧ W.heap.size ≤ g :=
  (newheap_alike w0 W hB).mono fun e W' ⟨g, h1, h2, h3, h4⟩ => ⟨g, h1, ⟨⟨_, _, h2, List.Perm.refl _, rfl⟩, List.Pairwise.nil, fun y hy => by cases hy⟩, h3, h4⟩
end
end Go.Proofs.Ytekjkookkjjbcaa.HW
