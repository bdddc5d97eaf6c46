/- The heap of things: the two orders, ahead (walked by hand). -/
import Derived.Test.YtekjkookkjjbcaaHeapA
namespace Go.Proofs.Ytekjkookkjjbcaa.HW
set_option linter.unusedVariables false
set_option linter.unusedSimpArgs false
set_option linter.unusedVariables false
set_option linter.unusedSimpArgs false
open Go.RowKit Go.Proofs.YtekjkookkjjbcaaW.PrintWords Go.Proofs.YtekjkookkjjbcaaW.PrintLast Go.Proofs.YtekjkookkjjbcaaW.PrintMore Go.Proofs.Ytekjkookkjjbcaa.B Go.Proofs.Ytekjkookkjjbcaa.M Go.Proofs.Ytekjkookkjjbcaa.HeapP
/-- What byKey tells of two keys. -/
def kcmp (a b : Int) : Int := if a < b then -1 else if b < a then 1 else 0
theorem byKey_calls (a0 a1 b0 b1 : Int) (W : World) :
    Calls Try.prog 13 #[.agg #[.int .i64 a0, .int .i64 a1], .agg #[.int .i64 b0, .int .i64 b1]] W fun e W' => e = .returned (.int .i64 (kcmp a0 b0)) ∧ Below W.heap.size W W' := by
  have hb := below_alloc (below_alloc (Below.refl W.heap.size W) (.cells #[.int .i64 a0, .int .i64 a1] 29 (0, 0))) (.cells #[.int .i64 b0, .int .i64 b1] 29 (0, 0))
  have HB := Aside0.mk hb
  clear hb
  by_cases h1 : a0 < b0
  · have k1 : decide (a0 < b0) = true := decide_eq_true h1
    rw [show kcmp a0 b0 = -1 by unfold kcmp; rw [if_pos h1]]
    clear h1
    go_enter Try.func13, Try.ntmps13
    go_wp2
    go_ret
    exact ⟨rfl, HB.out⟩
  · have k1 : decide (a0 < b0) = false := decide_eq_false h1
    by_cases h2 : b0 < a0
    · have k2 : decide (b0 < a0) = true := decide_eq_true h2
      have k3 : decide (a0 > b0) = true := decide_eq_true h2
      rw [show kcmp a0 b0 = 1 by unfold kcmp; rw [if_neg h1, if_pos h2]]
      clear h1 h2
      go_enter Try.func13, Try.ntmps13
      go_wp2
      go_ret
      exact ⟨rfl, HB.out⟩
    · have k2 : decide (b0 < a0) = false := decide_eq_false h2
      have k3 : decide (a0 > b0) = false := decide_eq_false h2
      rw [show kcmp a0 b0 = 0 by unfold kcmp; rw [if_neg h1, if_neg h2]]
      clear h1 h2
      go_enter Try.func13, Try.ntmps13
      go_wp2
      go_ret
      exact ⟨rfl, HB.out⟩
def zcmp (_ _ : Int) : Int := 0
theorem alike_calls (a0 a1 b0 b1 : Int) (W : World) :
    Calls Try.prog 51 #[.agg #[.int .i64 a0, .int .i64 a1], .agg #[.int .i64 b0, .int .i64 b1]] W fun e W' => e = .returned (.int .i64 0) ∧ Below W.heap.size W W' := by
  have hb := below_alloc (below_alloc (Below.refl W.heap.size W) (.cells #[.int .i64 a0, .int .i64 a1] 29 (0, 0))) (.cells #[.int .i64 b0, .int .i64 b1] 29 (0, 0))
  have HB := Aside0.mk hb
  clear hb
  go_enter Try.func51, Try.ntmps51
  go_wp2
  go_ret
  exact ⟨rfl, HB.out⟩
/-- A function K that tells of two things what c tells of their keys. -/
def Tells (K : Nat) (c : Int → Int → Int) : Prop := ∀ (a0 a1 b0 b1 : Int) (W : World), Calls Try.prog K #[.agg #[.int .i64 a0, .int .i64 a1], .agg #[.int .i64 b0, .int .i64 b1]] W fun e W' => e = .returned (.int .i64 (c a0 b0)) ∧ Below W.heap.size W W'
theorem byKey_tells : Tells 13 kcmp := byKey_calls
theorem alike_tells : Tells 51 zcmp := alike_calls
/-- Which comes ahead. -/
def aheadB (c : Int → Int → Int) (y z : T3) : Bool := if c y.1 z.1 ≠ 0 then decide (c y.1 z.1 < 0) else decide (y.2.2 < z.2.2)
theorem two_new (W : World) (g : Nat) (f : Value) (cs ds : Array Value) (t : Nat) (h : W.cell? ⟨g, 0, none⟩ = some f) :
    (((W.alloc (.cells cs t (0, 0))).alloc (.cells ds t (0, 0))).drew.cell? ⟨g, 0, none⟩ = some f) ∧ (∀ j, ((W.alloc (.cells cs t (0, 0))).alloc (.cells ds t (0, 0))).drew.cell? ⟨W.heap.size, j, none⟩ = cs[j]?) ∧ (∀ j, ((W.alloc (.cells cs t (0, 0))).alloc (.cells ds t (0, 0))).drew.cell? ⟨W.heap.size + 1, j, none⟩ = ds[j]?) := by
  have hb := below_alloc (below_alloc (Below.refl W.heap.size W) (.cells cs t (0, 0))) (.cells ds t (0, 0))
  have h1 : (W.alloc (.cells cs t (0, 0))).heap[W.heap.size]? = some (.cells cs t (0, 0)) := heap_alloc_new W _
  have h2 : ((W.alloc (.cells cs t (0, 0))).alloc (.cells ds t (0, 0))).heap[W.heap.size + 1]? = some (.cells ds t (0, 0)) := by
    have := heap_alloc_new (W.alloc (.cells cs t (0, 0))) (.cells ds t (0, 0))
    rw [World.size_alloc] at this
    exact this
  have h3 := blk_below h1 (below_alloc (Below.refl (W.alloc (.cells cs t (0, 0))).heap.size _) (.cells ds t (0, 0)))
  exact ⟨pw_cell_below hb h, fun j => cell_of_row _ _ j cs t (0, 0) h3, fun j => cell_of_row _ _ j ds t (0, 0) h2⟩
theorem below_keep {W W' : World} {a : Addr} {v : Value} (hb : Below W.heap.size W W') (h : W.cell? a = some v) : W'.cell? a = some v := pw_cell_below hb h
theorem as_keep {W W' : World} {a b c d e : Addr} {va vb vc vd ve : Value} (hb : Below W.heap.size W W') (h : W.cell? a = some va ∧ W.cell? b = some vb ∧ W.cell? c = some vc ∧ W.cell? d = some vd ∧ W.cell? e = some ve) : W'.cell? a = some va ∧ W'.cell? b = some vb ∧ W'.cell? c = some vc ∧ W'.cell? d = some vd ∧ W'.cell? e = some ve :=
  ⟨below_keep hb h.1, below_keep hb h.2.1, below_keep hb h.2.2.1, below_keep hb h.2.2.2.1, below_keep hb h.2.2.2.2⟩
set_option maxHeartbeats 8000000 in
theorem ahead_key (W : World) (g g9 c9 base : Nat) (came : Int) (xs : List T3) (i k : Nat) (h : HB W g (.func (.func 13) #[] #[]) (.slice (some ⟨g9, 0, none⟩) xs.length c9) came) (ho : O3 W base g9 c9 xs) (hi : i < xs.length) (hk : k < xs.length) :
    Calls Try.prog 70 #[.pointer (some ⟨g, 0, none⟩), .int .i64 (i : Int), .int .i64 (k : Int)] W fun e W' => e = .returned (.bool (aheadB kcmp (xs.getD i d3) (xs.getD k d3))) ∧ Below W.heap.size W W' := by
  have c0 : W.cell? ⟨g, 0, none⟩ = some (.func (.func 13) #[] #[]) := blk_cell h 0
  have c1 : W.cell? ⟨g, 1, none⟩ = some (.slice (some ⟨g9, 0, none⟩) xs.length c9) := blk_cell h 1
  obtain ⟨i1, i2, i3⟩ := ho.cell i hi
  obtain ⟨k1, k2, k3⟩ := ho.cell k hk
  obtain ⟨y, hy⟩ : ∃ y, xs.getD i d3 = y := ⟨_, rfl⟩
  obtain ⟨z, hz⟩ : ∃ z, xs.getD k d3 = z := ⟨_, rfl⟩
  rw [hy] at i1 i2 i3 ⊢
  rw [hz] at k1 k2 k3 ⊢
  have p1 := eq_true (show (0 : Int) ≤ (i : Int) by omega)
  have p2 := eq_true (show (0 : Int) ≤ (k : Int) by omega)
  have p3 : (i < xs.length) = True := eq_true hi
  have p4 : (k < xs.length) = True := eq_true hk
  have HC := Aside0.mk (fun a0 a1 b0 b1 W2 => byKey_calls a0 a1 b0 b1 W2)
  obtain ⟨y1, y2, y3⟩ := y
  obtain ⟨z1, z2, z3⟩ := z
  simp only at i1 i2 i3 k1 k2 k3
  have hg : g < W.heap.size := blk_lt h
  have hg9 : g9 < W.heap.size := by obtain ⟨cur, hh, _⟩ := ho.blk; exact blk_lt hh
  obtain ⟨hA, hB⟩ : (∀ o : Obj, ∀ j, (W.alloc o).cell? ⟨g9, j, none⟩ = W.cell? ⟨g9, j, none⟩) ∧ (∀ o o' : Obj, ∀ j, ((W.alloc o).alloc o').cell? ⟨g9, j, none⟩ = W.cell? ⟨g9, j, none⟩) := ⟨fun o j => (below_alloc (Below.refl W.heap.size W) o).cell (p := ⟨g9, j, none⟩) hg9, fun o o' j => (below_alloc (below_alloc (Below.refl W.heap.size W) o) o').cell (p := ⟨g9, j, none⟩) hg9⟩
  obtain ⟨hA2, hB2⟩ : (∀ o : Obj, ∀ j, (W.alloc o).cell? ⟨g, j, none⟩ = W.cell? ⟨g, j, none⟩) ∧ (∀ o o' : Obj, ∀ j, ((W.alloc o).alloc o').cell? ⟨g, j, none⟩ = W.cell? ⟨g, j, none⟩) := ⟨fun o j => (below_alloc (Below.refl W.heap.size W) o).cell (p := ⟨g, j, none⟩) hg, fun o o' j => (below_alloc (below_alloc (Below.refl W.heap.size W) o) o').cell (p := ⟨g, j, none⟩) hg⟩
  obtain ⟨t, ht⟩ : ∃ t, kcmp y1 z1 = t := ⟨_, rfl⟩
  have HE : Aside0 (aheadB kcmp (y1, y2, y3) (z1, z2, z3) = if t ≠ 0 then decide (t < 0) else decide (y3 < z3)) := ⟨by unfold aheadB; simp only [ht]⟩
  have HT := Aside0.mk ht
  have HB0 := Aside0.mk (below_alloc (below_alloc (Below.refl W.heap.size W) (.cells #[.int .i64 y1, .int .i64 y2, .int .i64 y3] 101 (0, 0))) (.cells #[.int .i64 z1, .int .i64 z2, .int .i64 z3] 101 (0, 0))).drew
  have HB1 := Aside0.mk (below_alloc (below_alloc (Below.refl W.heap.size W) (.cells #[.int .i64 z1, .int .i64 z2, .int .i64 z3] 101 (0, 0))) (.cells #[.int .i64 y1, .int .i64 y2, .int .i64 y3] 101 (0, 0))).drew
  have HK0 := Aside0.mk (two_new W g (.func (.func 13) #[] #[]) #[.int .i64 y1, .int .i64 y2, .int .i64 y3] #[.int .i64 z1, .int .i64 z2, .int .i64 z3] 101 c0)
  have HK1 := Aside0.mk (two_new W g (.func (.func 13) #[] #[]) #[.int .i64 z1, .int .i64 z2, .int .i64 z3] #[.int .i64 y1, .int .i64 y2, .int .i64 y3] 101 c0)
  clear h ho hi hk hy hz ht
  go_enter Try.func70, Try.ntmps70
  go_wp2
  go_region
  all_goals clear c0 c1 p1 p2 p3 p4 i1 i2 i3 k1 k2 k3 hg hg9 hA hB hA2 hB2
  all_goals go_wp2_with (fail)
  · obtain ⟨W1, hW1⟩ : ∃ W1, ((W.alloc (.cells #[.int .i64 y1, .int .i64 y2, .int .i64 y3] 101 (0, 0))).alloc (.cells #[.int .i64 z1, .int .i64 z2, .int .i64 z3] 101 (0, 0))).drew = W1 := ⟨_, rfl⟩
    rw [hW1] at HK0 HB0
    rw [hW1]
    have HB := Aside0.mk HB0.out
    have HK := Aside0.mk HK0.out
    clear hW1 HB0 HB1 HK0 HK1
    obtain ⟨pa, hpa⟩ : ∃ pa, W.heap.size = pa := ⟨_, rfl⟩
    obtain ⟨pb, hpb⟩ : ∃ pb, pa + 1 = pb := ⟨_, rfl⟩
    rw [hpa, hpb] at HK
    rw [hpa, hpb]
    have c0 := HK.out.1
    have y1' : W1.cell? ⟨pa, 0, none⟩ = some (.int .i64 y1) := HK.out.2.1 0
    have y2' : W1.cell? ⟨pa, 1, none⟩ = some (.int .i64 y2) := HK.out.2.1 1
    have y3' : W1.cell? ⟨pa, 2, none⟩ = some (.int .i64 y3) := HK.out.2.1 2
    have z1' : W1.cell? ⟨pb, 0, none⟩ = some (.int .i64 z1) := HK.out.2.2 0
    have z2' : W1.cell? ⟨pb, 1, none⟩ = some (.int .i64 z2) := HK.out.2.2 1
    have z3' : W1.cell? ⟨pb, 2, none⟩ = some (.int .i64 z3) := HK.out.2.2 2
    have HS : Aside0 (W1.cell? ⟨g, 0, none⟩ = some (.func (.func 13) #[] #[]) ∧ W1.cell? ⟨pa, 0, none⟩ = some (.int .i64 y1) ∧ W1.cell? ⟨pa, 1, none⟩ = some (.int .i64 y2) ∧ W1.cell? ⟨pb, 0, none⟩ = some (.int .i64 z1) ∧ W1.cell? ⟨pb, 1, none⟩ = some (.int .i64 z2)) := ⟨c0, y1', y2', z1', z2'⟩
    have HY3 := Aside0.mk y3'
    have HZ3 := Aside0.mk z3'
    clear HK c0 y1' y2' y3' z1' z2' z3' hpa hpb
    go_wp2_with (fail)
    go_region_held3 (fun w' => w'.cell? ⟨g, 0, none⟩ = some (.func (.func 13) #[] #[]) ∧ w'.cell? ⟨pa, 0, none⟩ = some (.int .i64 y1) ∧ w'.cell? ⟨pa, 1, none⟩ = some (.int .i64 y2) ∧ w'.cell? ⟨pb, 0, none⟩ = some (.int .i64 z1) ∧ w'.cell? ⟨pb, 1, none⟩ = some (.int .i64 z2)) (first | assumption | exact HS.out | exact (show _ from HS2.out)) (first | ((with_reducible refine (HC.out _ _ _ _ _).mono ?_); rintro e w2 ⟨rfl, hb⟩; have HB2 := Aside0.mk hb; have HS2 := Aside0.mk (as_keep hb HS.out); have y3'' := below_keep hb HY3.out; have z3'' := below_keep hb HZ3.out; clear hb))
    rw [HT.out]
    by_cases ht0 : t = 0
    · subst ht0
      go_wp2_with (fail)
      go_ret
      exact ⟨by rw [HE.out, if_neg (by simp)]; rfl, below_step HB.out.drew HB2.out⟩
    · have q1 : (t == 0) = false := beq_eq_false_iff_ne.2 ht0
      have q2 : decide (t = 0) = false := decide_eq_false ht0
      have q3 : (t != 0) = true := by simp [bne, q1]
      have HT0 := Aside0.mk ht0
      clear ht0
      go_wp2_with (fail)
      go_ret
      exact ⟨by rw [HE.out, if_pos HT0.out]; rfl, below_step HB.out.drew HB2.out⟩
  · obtain ⟨W1, hW1⟩ : ∃ W1, ((W.alloc (.cells #[.int .i64 z1, .int .i64 z2, .int .i64 z3] 101 (0, 0))).alloc (.cells #[.int .i64 y1, .int .i64 y2, .int .i64 y3] 101 (0, 0))).drew = W1 := ⟨_, rfl⟩
    rw [hW1] at HK1 HB1
    rw [hW1]
    have HB := Aside0.mk HB1.out
    have HK := Aside0.mk HK1.out
    clear hW1 HB0 HB1 HK0 HK1
    obtain ⟨pa, hpa⟩ : ∃ pa, W.heap.size = pa := ⟨_, rfl⟩
    obtain ⟨pb, hpb⟩ : ∃ pb, pa + 1 = pb := ⟨_, rfl⟩
    rw [hpa, hpb] at HK
    rw [hpa, hpb]
    have c0 := HK.out.1
    have y1' : W1.cell? ⟨pb, 0, none⟩ = some (.int .i64 y1) := HK.out.2.2 0
    have y2' : W1.cell? ⟨pb, 1, none⟩ = some (.int .i64 y2) := HK.out.2.2 1
    have y3' : W1.cell? ⟨pb, 2, none⟩ = some (.int .i64 y3) := HK.out.2.2 2
    have z1' : W1.cell? ⟨pa, 0, none⟩ = some (.int .i64 z1) := HK.out.2.1 0
    have z2' : W1.cell? ⟨pa, 1, none⟩ = some (.int .i64 z2) := HK.out.2.1 1
    have z3' : W1.cell? ⟨pa, 2, none⟩ = some (.int .i64 z3) := HK.out.2.1 2
    have HS : Aside0 (W1.cell? ⟨g, 0, none⟩ = some (.func (.func 13) #[] #[]) ∧ W1.cell? ⟨pb, 0, none⟩ = some (.int .i64 y1) ∧ W1.cell? ⟨pb, 1, none⟩ = some (.int .i64 y2) ∧ W1.cell? ⟨pa, 0, none⟩ = some (.int .i64 z1) ∧ W1.cell? ⟨pa, 1, none⟩ = some (.int .i64 z2)) := ⟨c0, y1', y2', z1', z2'⟩
    have HY3 := Aside0.mk y3'
    have HZ3 := Aside0.mk z3'
    clear HK c0 y1' y2' y3' z1' z2' z3' hpa hpb
    go_wp2_with (fail)
    go_region_held3 (fun w' => w'.cell? ⟨g, 0, none⟩ = some (.func (.func 13) #[] #[]) ∧ w'.cell? ⟨pb, 0, none⟩ = some (.int .i64 y1) ∧ w'.cell? ⟨pb, 1, none⟩ = some (.int .i64 y2) ∧ w'.cell? ⟨pa, 0, none⟩ = some (.int .i64 z1) ∧ w'.cell? ⟨pa, 1, none⟩ = some (.int .i64 z2)) (first | assumption | exact HS.out | exact (show _ from HS2.out)) (first | ((with_reducible refine (HC.out _ _ _ _ _).mono ?_); rintro e w2 ⟨rfl, hb⟩; have HB2 := Aside0.mk hb; have HS2 := Aside0.mk (as_keep hb HS.out); have y3'' := below_keep hb HY3.out; have z3'' := below_keep hb HZ3.out; clear hb))
    rw [HT.out]
    by_cases ht0 : t = 0
    · subst ht0
      go_wp2_with (fail)
      go_ret
      exact ⟨by rw [HE.out, if_neg (by simp)]; rfl, below_step HB.out.drew HB2.out⟩
    · have q1 : (t == 0) = false := beq_eq_false_iff_ne.2 ht0
      have q2 : decide (t = 0) = false := decide_eq_false ht0
      have q3 : (t != 0) = true := by simp [bne, q1]
      have HT0 := Aside0.mk ht0
      clear ht0
      go_wp2_with (fail)
      go_ret
      exact ⟨by rw [HE.out, if_pos HT0.out]; rfl, below_step HB.out.drew HB2.out⟩
set_option maxHeartbeats 8000000 in
theorem ahead_alike (W : World) (g g9 c9 base : Nat) (came : Int) (xs : List T3) (i k : Nat) (h : HB W g (.func (.func 51) #[] #[]) (.slice (some ⟨g9, 0, none⟩) xs.length c9) came) (ho : O3 W base g9 c9 xs) (hi : i < xs.length) (hk : k < xs.length) :
    Calls Try.prog 70 #[.pointer (some ⟨g, 0, none⟩), .int .i64 (i : Int), .int .i64 (k : Int)] W fun e W' => e = .returned (.bool (aheadB zcmp (xs.getD i d3) (xs.getD k d3))) ∧ Below W.heap.size W W' := by
  have c0 : W.cell? ⟨g, 0, none⟩ = some (.func (.func 51) #[] #[]) := blk_cell h 0
  have c1 : W.cell? ⟨g, 1, none⟩ = some (.slice (some ⟨g9, 0, none⟩) xs.length c9) := blk_cell h 1
  obtain ⟨i1, i2, i3⟩ := ho.cell i hi
  obtain ⟨k1, k2, k3⟩ := ho.cell k hk
  obtain ⟨y, hy⟩ : ∃ y, xs.getD i d3 = y := ⟨_, rfl⟩
  obtain ⟨z, hz⟩ : ∃ z, xs.getD k d3 = z := ⟨_, rfl⟩
  rw [hy] at i1 i2 i3 ⊢
  rw [hz] at k1 k2 k3 ⊢
  have p1 := eq_true (show (0 : Int) ≤ (i : Int) by omega)
  have p2 := eq_true (show (0 : Int) ≤ (k : Int) by omega)
  have p3 : (i < xs.length) = True := eq_true hi
  have p4 : (k < xs.length) = True := eq_true hk
  have HC := Aside0.mk (fun a0 a1 b0 b1 W2 => alike_tells a0 a1 b0 b1 W2)
  obtain ⟨y1, y2, y3⟩ := y
  obtain ⟨z1, z2, z3⟩ := z
  simp only at i1 i2 i3 k1 k2 k3
  have hg : g < W.heap.size := blk_lt h
  have hg9 : g9 < W.heap.size := by obtain ⟨cur, hh, _⟩ := ho.blk; exact blk_lt hh
  obtain ⟨hA, hB⟩ : (∀ o : Obj, ∀ j, (W.alloc o).cell? ⟨g9, j, none⟩ = W.cell? ⟨g9, j, none⟩) ∧ (∀ o o' : Obj, ∀ j, ((W.alloc o).alloc o').cell? ⟨g9, j, none⟩ = W.cell? ⟨g9, j, none⟩) := ⟨fun o j => (below_alloc (Below.refl W.heap.size W) o).cell (p := ⟨g9, j, none⟩) hg9, fun o o' j => (below_alloc (below_alloc (Below.refl W.heap.size W) o) o').cell (p := ⟨g9, j, none⟩) hg9⟩
  obtain ⟨hA2, hB2⟩ : (∀ o : Obj, ∀ j, (W.alloc o).cell? ⟨g, j, none⟩ = W.cell? ⟨g, j, none⟩) ∧ (∀ o o' : Obj, ∀ j, ((W.alloc o).alloc o').cell? ⟨g, j, none⟩ = W.cell? ⟨g, j, none⟩) := ⟨fun o j => (below_alloc (Below.refl W.heap.size W) o).cell (p := ⟨g, j, none⟩) hg, fun o o' j => (below_alloc (below_alloc (Below.refl W.heap.size W) o) o').cell (p := ⟨g, j, none⟩) hg⟩
  obtain ⟨t, ht⟩ : ∃ t, zcmp y1 z1 = t := ⟨_, rfl⟩
  have HE : Aside0 (aheadB zcmp (y1, y2, y3) (z1, z2, z3) = if t ≠ 0 then decide (t < 0) else decide (y3 < z3)) := ⟨by unfold aheadB; simp only [ht]⟩
  have HT := Aside0.mk ht
  have HB0 := Aside0.mk (below_alloc (below_alloc (Below.refl W.heap.size W) (.cells #[.int .i64 y1, .int .i64 y2, .int .i64 y3] 101 (0, 0))) (.cells #[.int .i64 z1, .int .i64 z2, .int .i64 z3] 101 (0, 0))).drew
  have HB1 := Aside0.mk (below_alloc (below_alloc (Below.refl W.heap.size W) (.cells #[.int .i64 z1, .int .i64 z2, .int .i64 z3] 101 (0, 0))) (.cells #[.int .i64 y1, .int .i64 y2, .int .i64 y3] 101 (0, 0))).drew
  have HK0 := Aside0.mk (two_new W g (.func (.func 51) #[] #[]) #[.int .i64 y1, .int .i64 y2, .int .i64 y3] #[.int .i64 z1, .int .i64 z2, .int .i64 z3] 101 c0)
  have HK1 := Aside0.mk (two_new W g (.func (.func 51) #[] #[]) #[.int .i64 z1, .int .i64 z2, .int .i64 z3] #[.int .i64 y1, .int .i64 y2, .int .i64 y3] 101 c0)
  clear h ho hi hk hy hz ht
  go_enter Try.func70, Try.ntmps70
  go_wp2
  go_region
  all_goals clear c0 c1 p1 p2 p3 p4 i1 i2 i3 k1 k2 k3 hg hg9 hA hB hA2 hB2
  all_goals go_wp2_with (fail)
  · obtain ⟨W1, hW1⟩ : ∃ W1, ((W.alloc (.cells #[.int .i64 y1, .int .i64 y2, .int .i64 y3] 101 (0, 0))).alloc (.cells #[.int .i64 z1, .int .i64 z2, .int .i64 z3] 101 (0, 0))).drew = W1 := ⟨_, rfl⟩
    rw [hW1] at HK0 HB0
    rw [hW1]
    have HB := Aside0.mk HB0.out
    have HK := Aside0.mk HK0.out
    clear hW1 HB0 HB1 HK0 HK1
    obtain ⟨pa, hpa⟩ : ∃ pa, W.heap.size = pa := ⟨_, rfl⟩
    obtain ⟨pb, hpb⟩ : ∃ pb, pa + 1 = pb := ⟨_, rfl⟩
    rw [hpa, hpb] at HK
    rw [hpa, hpb]
    have c0 := HK.out.1
    have y1' : W1.cell? ⟨pa, 0, none⟩ = some (.int .i64 y1) := HK.out.2.1 0
    have y2' : W1.cell? ⟨pa, 1, none⟩ = some (.int .i64 y2) := HK.out.2.1 1
    have y3' : W1.cell? ⟨pa, 2, none⟩ = some (.int .i64 y3) := HK.out.2.1 2
    have z1' : W1.cell? ⟨pb, 0, none⟩ = some (.int .i64 z1) := HK.out.2.2 0
    have z2' : W1.cell? ⟨pb, 1, none⟩ = some (.int .i64 z2) := HK.out.2.2 1
    have z3' : W1.cell? ⟨pb, 2, none⟩ = some (.int .i64 z3) := HK.out.2.2 2
    have HS : Aside0 (W1.cell? ⟨g, 0, none⟩ = some (.func (.func 51) #[] #[]) ∧ W1.cell? ⟨pa, 0, none⟩ = some (.int .i64 y1) ∧ W1.cell? ⟨pa, 1, none⟩ = some (.int .i64 y2) ∧ W1.cell? ⟨pb, 0, none⟩ = some (.int .i64 z1) ∧ W1.cell? ⟨pb, 1, none⟩ = some (.int .i64 z2)) := ⟨c0, y1', y2', z1', z2'⟩
    have HY3 := Aside0.mk y3'
    have HZ3 := Aside0.mk z3'
    clear HK c0 y1' y2' y3' z1' z2' z3' hpa hpb
    go_wp2_with (fail)
    go_region_held3 (fun w' => w'.cell? ⟨g, 0, none⟩ = some (.func (.func 51) #[] #[]) ∧ w'.cell? ⟨pa, 0, none⟩ = some (.int .i64 y1) ∧ w'.cell? ⟨pa, 1, none⟩ = some (.int .i64 y2) ∧ w'.cell? ⟨pb, 0, none⟩ = some (.int .i64 z1) ∧ w'.cell? ⟨pb, 1, none⟩ = some (.int .i64 z2)) (first | assumption | exact HS.out | exact (show _ from HS2.out)) (first | ((with_reducible refine (HC.out _ _ _ _ _).mono ?_); rintro e w2 ⟨rfl, hb⟩; have HB2 := Aside0.mk hb; have HS2 := Aside0.mk (as_keep hb HS.out); have y3'' := below_keep hb HY3.out; have z3'' := below_keep hb HZ3.out; clear hb))
    rw [HT.out]
    by_cases ht0 : t = 0
    · subst ht0
      go_wp2_with (fail)
      go_ret
      exact ⟨by rw [HE.out, if_neg (by simp)]; rfl, below_step HB.out.drew HB2.out⟩
    · have q1 : (t == 0) = false := beq_eq_false_iff_ne.2 ht0
      have q2 : decide (t = 0) = false := decide_eq_false ht0
      have q3 : (t != 0) = true := by simp [bne, q1]
      have HT0 := Aside0.mk ht0
      clear ht0
      go_wp2_with (fail)
      go_ret
      exact ⟨by rw [HE.out, if_pos HT0.out]; rfl, below_step HB.out.drew HB2.out⟩
  · obtain ⟨W1, hW1⟩ : ∃ W1, ((W.alloc (.cells #[.int .i64 z1, .int .i64 z2, .int .i64 z3] 101 (0, 0))).alloc (.cells #[.int .i64 y1, .int .i64 y2, .int .i64 y3] 101 (0, 0))).drew = W1 := ⟨_, rfl⟩
    rw [hW1] at HK1 HB1
    rw [hW1]
    have HB := Aside0.mk HB1.out
    have HK := Aside0.mk HK1.out
    clear hW1 HB0 HB1 HK0 HK1
    obtain ⟨pa, hpa⟩ : ∃ pa, W.heap.size = pa := ⟨_, rfl⟩
    obtain ⟨pb, hpb⟩ : ∃ pb, pa + 1 = pb := ⟨_, rfl⟩
    rw [hpa, hpb] at HK
    rw [hpa, hpb]
    have c0 := HK.out.1
    have y1' : W1.cell? ⟨pb, 0, none⟩ = some (.int .i64 y1) := HK.out.2.2 0
    have y2' : W1.cell? ⟨pb, 1, none⟩ = some (.int .i64 y2) := HK.out.2.2 1
    have y3' : W1.cell? ⟨pb, 2, none⟩ = some (.int .i64 y3) := HK.out.2.2 2
    have z1' : W1.cell? ⟨pa, 0, none⟩ = some (.int .i64 z1) := HK.out.2.1 0
    have z2' : W1.cell? ⟨pa, 1, none⟩ = some (.int .i64 z2) := HK.out.2.1 1
    have z3' : W1.cell? ⟨pa, 2, none⟩ = some (.int .i64 z3) := HK.out.2.1 2
    have HS : Aside0 (W1.cell? ⟨g, 0, none⟩ = some (.func (.func 51) #[] #[]) ∧ W1.cell? ⟨pb, 0, none⟩ = some (.int .i64 y1) ∧ W1.cell? ⟨pb, 1, none⟩ = some (.int .i64 y2) ∧ W1.cell? ⟨pa, 0, none⟩ = some (.int .i64 z1) ∧ W1.cell? ⟨pa, 1, none⟩ = some (.int .i64 z2)) := ⟨c0, y1', y2', z1', z2'⟩
    have HY3 := Aside0.mk y3'
    have HZ3 := Aside0.mk z3'
    clear HK c0 y1' y2' y3' z1' z2' z3' hpa hpb
    go_wp2_with (fail)
    go_region_held3 (fun w' => w'.cell? ⟨g, 0, none⟩ = some (.func (.func 51) #[] #[]) ∧ w'.cell? ⟨pb, 0, none⟩ = some (.int .i64 y1) ∧ w'.cell? ⟨pb, 1, none⟩ = some (.int .i64 y2) ∧ w'.cell? ⟨pa, 0, none⟩ = some (.int .i64 z1) ∧ w'.cell? ⟨pa, 1, none⟩ = some (.int .i64 z2)) (first | assumption | exact HS.out | exact (show _ from HS2.out)) (first | ((with_reducible refine (HC.out _ _ _ _ _).mono ?_); rintro e w2 ⟨rfl, hb⟩; have HB2 := Aside0.mk hb; have HS2 := Aside0.mk (as_keep hb HS.out); have y3'' := below_keep hb HY3.out; have z3'' := below_keep hb HZ3.out; clear hb))
    rw [HT.out]
    by_cases ht0 : t = 0
    · subst ht0
      go_wp2_with (fail)
      go_ret
      exact ⟨by rw [HE.out, if_neg (by simp)]; rfl, below_step HB.out.drew HB2.out⟩
    · have q1 : (t == 0) = false := beq_eq_false_iff_ne.2 ht0
      have q2 : decide (t = 0) = false := decide_eq_false ht0
      have q3 : (t != 0) = true := by simp [bne, q1]
      have HT0 := Aside0.mk ht0
      clear ht0
      go_wp2_with (fail)
      go_ret
      exact ⟨by rw [HE.out, if_pos HT0.out]; rfl, below_step HB.out.drew HB2.out⟩
/-- A function value that tells which of two of a heap's things comes ahead. -/
def AheadBy (K : Nat) (c : Int → Int → Int) : Prop := ∀ (W : World) (g g9 c9 base : Nat) (came : Int) (xs : List T3) (i k : Nat), HB W g (.func (.func K) #[] #[]) (.slice (some ⟨g9, 0, none⟩) xs.length c9) came → O3 W base g9 c9 xs → i < xs.length → k < xs.length →
    Calls Try.prog 70 #[.pointer (some ⟨g, 0, none⟩), .int .i64 (i : Int), .int .i64 (k : Int)] W fun e W' => e = .returned (.bool (aheadB c (xs.getD i d3) (xs.getD k d3))) ∧ Below W.heap.size W W'
theorem key_ahead : AheadBy 13 kcmp := ahead_key
theorem alike_ahead : AheadBy 51 zcmp := ahead_alike
end Go.Proofs.Ytekjkookkjjbcaa.HW
