/- Rows of three whole numbers (waiting[Thing]). -/
import Derived.Test.YtekjkookkjjbcaaFifo
import Derived.Test.YtekjkookkjjbcaaHeapP
namespace Go.Proofs.Ytekjkookkjjbcaa.HW
set_option linter.unusedVariables false
set_option linter.unusedSimpArgs false
set_option linter.unusedVariables false
set_option linter.unusedSimpArgs false
open Go.RowKit Go.Proofs.YtekjkookkjjbcaaW.PrintWords Go.Proofs.YtekjkookkjjbcaaW.PrintLast Go.Proofs.YtekjkookkjjbcaaW.PrintMore Go.Proofs.Ytekjkookkjjbcaa.B Go.Proofs.Ytekjkookkjjbcaa.M
/-- A thing's key and number, and when it came. -/
abbrev T3 := Int × Int × Int
abbrev d3 : T3 := (0, 0, 0)
def enc3 (x : T3) : List Value := [.int .i64 x.1, .int .i64 x.2.1, .int .i64 x.2.2]
def cells3 : List T3 → List Value
  | [] => []
  | x :: xs => .int .i64 x.1 :: .int .i64 x.2.1 :: .int .i64 x.2.2 :: cells3 xs
theorem cells3_len (xs : List T3) : (cells3 xs).length = xs.length * 3 := by
  induction xs with
  | nil => rfl
  | cons x xs ih => simp only [cells3, List.length_cons, ih]; omega
theorem cells3_app (xs ys : List T3) : cells3 (xs ++ ys) = cells3 xs ++ cells3 ys := by
  induction xs with
  | nil => rfl
  | cons x xs ih => simp only [List.cons_append, cells3, ih]
theorem cells3_get (xs : List T3) (i : Nat) (h : i < xs.length) : (cells3 xs)[i * 3]? = some (.int .i64 (xs.getD i d3).1) ∧ (cells3 xs)[i * 3 + 1]? = some (.int .i64 (xs.getD i d3).2.1) ∧ (cells3 xs)[i * 3 + 2]? = some (.int .i64 (xs.getD i d3).2.2) := by
  induction xs generalizing i with
  | nil => exact absurd h (Nat.not_lt_zero _)
  | cons x xs ih =>
    cases i with
    | zero => exact ⟨rfl, rfl, rfl⟩
    | succ i =>
      have := ih i (by simpa using h)
      rw [show (i + 1) * 3 = i * 3 + 1 + 1 + 1 by omega, show i * 3 + 1 + 1 + 1 + 1 = (i * 3 + 1) + 1 + 1 + 1 by omega, show i * 3 + 1 + 1 + 1 + 2 = (i * 3 + 2) + 1 + 1 + 1 by omega]
      simp only [cells3, List.getElem?_cons_succ, List.getD_cons_succ]
      exact this
theorem cells3_set (xs : List T3) (i : Nat) (y : T3) (h : i < xs.length) : (((cells3 xs).set (i * 3) (.int .i64 y.1)).set (i * 3 + 1) (.int .i64 y.2.1)).set (i * 3 + 2) (.int .i64 y.2.2) = cells3 (xs.set i y) := by
  induction xs generalizing i with
  | nil => exact absurd h (Nat.not_lt_zero _)
  | cons x xs ih =>
    cases i with
    | zero => rfl
    | succ i =>
      have := ih i (by simpa using h)
      rw [show (i + 1) * 3 = i * 3 + 1 + 1 + 1 by omega, show i * 3 + 1 + 1 + 1 + 1 = (i * 3 + 1) + 1 + 1 + 1 by omega, show i * 3 + 1 + 1 + 1 + 2 = (i * 3 + 2) + 1 + 1 + 1 by omega]
      simp only [cells3, List.set_cons_succ]
      rw [this]
theorem cells3_take (xs : List T3) (n : Nat) : cells3 (xs.take n) = (cells3 xs).take (n * 3) := by
  induction xs generalizing n with
  | nil => simp [cells3]
  | cons x xs ih =>
    cases n with
    | zero => simp [cells3]
    | succ n =>
      rw [show (n + 1) * 3 = n * 3 + 1 + 1 + 1 by omega]
      simp only [List.take_succ_cons, cells3, ih]
/-- A row of such things of one's own. -/
def O3 (W : World) (base g9 c9 : Nat) (xs : List T3) : Prop := W.ownsRow base 101 3 (.slice (some ⟨g9, 0, none⟩) xs.length c9) xs.length (cells3 xs)
theorem O3.blk {W : World} {base g9 c9 : Nat} {xs : List T3} (h : O3 W base g9 c9 xs) : ∃ cur, W.heap[g9]? = some (.cells cur 101 (0, 0)) ∧ base ≤ g9 ∧ xs.length ≤ c9 ∧ c9 ≤ maxLen ∧ cur.size = c9 * 3 ∧ cur.toList.take (xs.length * 3) = cells3 xs := by
  rcases h.2 with ⟨hv, _⟩ | ⟨g, cap, cur, hv, hb, hh, hnc, hcm, hcs, htake⟩
  · cases hv
  · injection hv with hv1 hv2 hv3
    injection hv1 with hv1
    injection hv1 with hv1
    subst hv1
    subst hv3
    exact ⟨cur, hh, hb, hnc, hcm, hcs, htake⟩
theorem O3.of {W : World} {base g9 c9 : Nat} {xs : List T3} {cur : Array Value} (h : W.heap[g9]? = some (.cells cur 101 (0, 0))) (hb : base ≤ g9) (hl : xs.length ≤ c9) (hm : c9 ≤ maxLen) (hs : cur.size = c9 * 3) (ht : cur.toList.take (xs.length * 3) = cells3 xs) : O3 W base g9 c9 xs :=
  ⟨cells3_len xs, .inr ⟨g9, c9, cur, rfl, hb, h, hl, hm, hs, ht⟩⟩
theorem O3.cell {W : World} {base g9 c9 : Nat} {xs : List T3} (h : O3 W base g9 c9 xs) (i : Nat) (hi : i < xs.length) :
    W.cell? ⟨g9, i * 3, none⟩ = some (.int .i64 (xs.getD i d3).1) ∧ W.cell? ⟨g9, i * 3 + 1, none⟩ = some (.int .i64 (xs.getD i d3).2.1) ∧ W.cell? ⟨g9, i * 3 + 2, none⟩ = some (.int .i64 (xs.getD i d3).2.2) := by
  obtain ⟨cur, hh, hb, hl, hm, hs, ht⟩ := h.blk
  have hg : ∀ j, j < xs.length * 3 → W.cell? ⟨g9, j, none⟩ = (cells3 xs)[j]? := fun j hj => by
    rw [cell_of_row W g9 j cur _ (0, 0) hh, ← ht, List.getElem?_take, if_pos hj, Array.getElem?_toList]
  have := cells3_get xs i hi
  exact ⟨(hg _ (by omega)).trans this.1, (hg _ (by omega)).trans this.2.1, (hg _ (by omega)).trans this.2.2⟩
theorem O3.frozen {W : World} {base g9 c9 : Nat} {xs : List T3} (h : O3 W base g9 c9 xs) (j : Nat) : W.frozen? ⟨g9, j, none⟩ = false := by
  obtain ⟨cur, hh, _⟩ := h.blk
  exact blk_frozen hh j
theorem O3.set {W : World} {base g9 c9 : Nat} {xs : List T3} (h : O3 W base g9 c9 xs) (i : Nat) (hi : i < xs.length) (y : T3) :
    O3 (((W.setCell ⟨g9, i * 3, none⟩ (.int .i64 y.1)).setCell ⟨g9, i * 3 + 1, none⟩ (.int .i64 y.2.1)).setCell ⟨g9, i * 3 + 2, none⟩ (.int .i64 y.2.2)) base g9 c9 (xs.set i y) := by
  obtain ⟨cur, hh, hb, hl, hm, hs, ht⟩ := h.blk
  have h1 := blk_set hh (i * 3) (.int .i64 y.1)
  have h2 := blk_set h1 (i * 3 + 1) (.int .i64 y.2.1)
  have h3 := blk_set h2 (i * 3 + 2) (.int .i64 y.2.2)
  refine O3.of h3 hb (by rw [List.length_set]; exact hl) hm (by simp [hs]) ?_
  rw [List.length_set, ← cells3_set xs i y hi, ← ht]
  simp only [Array.toList_setIfInBounds, List.take_set]
theorem O3.keep {W W' : World} {base g9 c9 : Nat} {xs : List T3} (h : O3 W base g9 c9 xs) (hk : W'.heap[g9]? = W.heap[g9]?) : O3 W' base g9 c9 xs := by
  obtain ⟨cur, hh, hb, hl, hm, hs, ht⟩ := h.blk
  exact O3.of (hk.trans hh) hb hl hm hs ht
theorem O3.take {W : World} {base g9 c9 : Nat} {xs : List T3} (h : O3 W base g9 c9 xs) (n : Nat) : O3 W base g9 c9 (xs.take n) := by
  obtain ⟨cur, hh, hb, hl, hm, hs, ht⟩ := h.blk
  refine O3.of hh hb (by rw [List.length_take]; omega) hm hs ?_
  rw [List.length_take, cells3_take, ← ht, List.take_take]
  congr 1
  omega
end Go.Proofs.Ytekjkookkjjbcaa.HW
