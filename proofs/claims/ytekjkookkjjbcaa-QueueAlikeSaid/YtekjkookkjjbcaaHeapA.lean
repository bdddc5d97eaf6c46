/- The heap of things: swap (walked by hand). -/
import Derived.Test.YtekjkookkjjbcaaHrow
import Derived.BigRegion
namespace Go.Proofs.Ytekjkookkjjbcaa.HW
set_option linter.unusedVariables false
set_option linter.unusedSimpArgs false
set_option linter.unusedVariables false
set_option linter.unusedSimpArgs false
open Go.RowKit Go.Proofs.YtekjkookkjjbcaaW.PrintWords Go.Proofs.YtekjkookkjjbcaaW.PrintLast Go.Proofs.YtekjkookkjjbcaaW.PrintMore Go.Proofs.Ytekjkookkjjbcaa.B Go.Proofs.Ytekjkookkjjbcaa.M Go.Proofs.Ytekjkookkjjbcaa.HeapP
/-- A heap's block. -/
def HB (W : World) (g : Nat) (cmp v : Value) (came : Int) : Prop := W.heap[g]? = some (.cells #[cmp, v, .int .i64 came] 97 (0, 0))
theorem blk_some {W : World} {g t o : Nat} {cs : Array Value} (h : W.heap[g]? = some (.cells cs t (0, 0))) (ho : o < cs.size) : ∃ v, W.cell? ⟨g, o, none⟩ = some v := by
  rw [cell_of_row W g o cs _ (0, 0) h]
  exact ⟨cs[o], Array.getElem?_eq_getElem ho⟩
theorem grown_set1 {W W1 : World} {g o : Nat} {a : Value} (h : W.grownBy W1 (some g)) : W.grownBy (W1.setCell ⟨g, o, none⟩ a) (some g) :=
  ⟨h.os, h.tape, h.output, Nat.le_trans h.size (by simp [World.setCell]), fun i hi h1 => by rw [Below.heap_setCell W1 ⟨g, o, none⟩ a i (fun e => h1 (by rw [e]))]; exact h.block i hi h1⟩
theorem O3.drewn {W : World} {base g9 c9 : Nat} {xs : List T3} (h : O3 W base g9 c9 xs) : O3 W.drew base g9 c9 xs := h.keep rfl
theorem grown_drewn {W W1 : World} {r : Option Nat} (h : W.grownBy W1 r) : W.grownBy W1.drew r := ⟨h.os, h.tape, h.output, h.size, h.block⟩
set_option maxHeartbeats 8000000 in
theorem swap_calls (W : World) (g g9 c9 base : Nat) (cmp : Value) (came : Int) (xs : List T3) (i k : Nat) (h : HB W g cmp (.slice (some ⟨g9, 0, none⟩) xs.length c9) came) (ho : O3 W base g9 c9 xs) (hi : i < xs.length) (hk : k < xs.length) (hne : g ≠ g9) :
    Calls Try.prog 71 #[.pointer (some ⟨g, 0, none⟩), .int .i64 (i : Int), .int .i64 (k : Int)] W fun e W' => (∃ v, e = .returned v) ∧ O3 W' base g9 c9 (swp d3 xs i k) ∧ W.grownBy W' (some g9) := by
  have c1 : W.cell? ⟨g, 1, none⟩ = some (.slice (some ⟨g9, 0, none⟩) xs.length c9) := blk_cell h 1
  have hne2 : g9 ≠ g := fun e => hne e.symm
  obtain ⟨i1, i2, i3⟩ := ho.cell i hi
  obtain ⟨k1, k2, k3⟩ := ho.cell k hk
  have HO := Aside0.mk ho
  have HIK := Aside0.mk (And.intro hi hk)
  have f1 := ho.frozen (i * 3)
  have f2 := ho.frozen (i * 3 + 1)
  have f3 := ho.frozen (i * 3 + 2)
  have f4 := ho.frozen (k * 3)
  have f5 := ho.frozen (k * 3 + 1)
  have f6 := ho.frozen (k * 3 + 2)
  obtain ⟨y, hy⟩ : ∃ y, xs.getD i d3 = y := ⟨_, rfl⟩
  obtain ⟨z, hz⟩ : ∃ z, xs.getD k d3 = z := ⟨_, rfl⟩
  rw [hy] at i1 i2 i3
  rw [hz] at k1 k2 k3
  have HYZ := Aside0.mk (And.intro hy hz)
  have p1 := eq_true (show (0 : Int) ≤ (i : Int) by omega)
  have p2 := eq_true (show (0 : Int) ≤ (k : Int) by omega)
  have p3 : (i < xs.length) = True := eq_true hi
  have p4 : (k < xs.length) = True := eq_true hk
  obtain ⟨v1, l1⟩ : ∃ v, (W.setCell ⟨g9, i * 3, none⟩ (.int .i64 z.1)).cell? ⟨g9, k * 3, none⟩ = some v := by
    obtain ⟨cur, hh, _, h2, _, h4, _⟩ := ho.blk
    exact blk_some (blk_set hh _ _) (by simp; omega)
  obtain ⟨v2, l2⟩ : ∃ v, ((W.setCell ⟨g9, i * 3, none⟩ (.int .i64 z.1)).setCell ⟨g9, i * 3 + 1, none⟩ (.int .i64 z.2.1)).cell? ⟨g9, k * 3 + 1, none⟩ = some v := by
    obtain ⟨cur, hh, _, h2, _, h4, _⟩ := ho.blk
    exact blk_some (blk_set (blk_set hh _ _) _ _) (by simp; omega)
  obtain ⟨v3, l3⟩ : ∃ v, (((W.setCell ⟨g9, i * 3, none⟩ (.int .i64 z.1)).setCell ⟨g9, i * 3 + 1, none⟩ (.int .i64 z.2.1)).setCell ⟨g9, i * 3 + 2, none⟩ (.int .i64 z.2.2)).cell? ⟨g9, k * 3 + 2, none⟩ = some v := by
    obtain ⟨cur, hh, _, h2, _, h4, _⟩ := ho.blk
    exact blk_some (blk_set (blk_set (blk_set hh _ _) _ _) _ _) (by simp; omega)
  clear h ho hi hk hy hz
  go_enter Try.func71, Try.ntmps71
  go_wp2
  go_region
  all_goals clear l1 l2 l3 f1 f2 f3 f4 f5 f6 i1 i2 i3 k1 k2 k3 p1 p2 p3 p4 c1
  all_goals go_end0
  refine ⟨⟨_, rfl⟩, ?_, grown_drewn (grown_set1 (grown_set1 (grown_set1 (grown_set1 (grown_set1 (grown_set1 (World.grownBy.refl W (some g9))))))))⟩
  rw [show swp d3 xs i k = (xs.set i z).set k y by rw [swp, HYZ.out.1, HYZ.out.2]]
  have h1 := HO.out.set i HIK.out.1 z
  have h2 := h1.set k (by rw [List.length_set]; exact HIK.out.2) y
  exact h2.drewn
end Go.Proofs.Ytekjkookkjjbcaa.HW
