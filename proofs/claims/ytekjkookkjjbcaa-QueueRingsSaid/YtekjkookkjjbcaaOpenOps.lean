/- A script of steps, opened to whole numbers. -/
import Derived.Test.YtekjkookkjjbcaaProg
import Derived.Test.YtekjkookkjjbcaaKW
import Derived.WalkKit
import Derived.ProofKit
import Derived.OpenShut
import Derived.KernelRfl
import Derived.WideShapes
import Derived.ChangeArms
import Derived.Deep.Slices
namespace Go.Proofs.Ytekjkookkjjbcaa.Op
set_option linter.unusedVariables false
set_option linter.unusedSimpArgs false
set_option linter.unusedVariables false
open Go.ChangeShapes Go.WideShapes Go.ChangeAt Go.RowKit Go.Proofs.YtekjkookkjjbcaaW.PrintWords
section
variable {H : Type} {enc : TypeId × Value → H} {W : World} {base b0 : Nat} {spare : Nat → Bool} {held : Bool} {d : DataW H} {p : List MemPlace}
theorem c3 : Try.prog.cellsOf 3 = 1 := by kernel_rfl
theorem cOp : Try.prog.cellsOf 33 = 3 := by kernel_rfl
set_option maxRecDepth 100000 in
theorem op_of {n : Nat} {cs : List Value} {x : DataW H × List MemPlace} (h : DataW.trod enc Try.prog W base spare held n 33 cs = some x) :
    ∃ a0 a1 a2 : Int, cs = [.int .i64 a0, .int .i64 a1, .int .i64 a2] := by
  obtain ⟨xs, m, _, _, hl, hlen, hg⟩ := DataW.trod_struct Try.underlying33 h
  match cs, hl.trans cOp with
  | [e0, e1, e2], _ =>
    match xs, hlen with
    | [y0, y1, y2], _ =>
      have g0 : DataW.trod enc Try.prog W base spare held m 3 [e0] = some y0 := by simpa [c3] using hg 0 _ rfl
      have g1 : DataW.trod enc Try.prog W base spare held m 3 [e1] = some y1 := by simpa [c3] using hg 1 _ rfl
      have g2 : DataW.trod enc Try.prog W base spare held m 3 [e2] = some y2 := by simpa [c3] using hg 2 _ rfl
      obtain ⟨a0, h0, _⟩ := DataW.trod_int Try.underlying3 g0
      obtain ⟨a1, h1, _⟩ := DataW.trod_int Try.underlying3 g1
      obtain ⟨a2, h2, _⟩ := DataW.trod_int Try.underlying3 g2
      exact ⟨a0, a1, a2, by injection h0 with h0; injection h1 with h1; injection h2 with h2; rw [h0, h1, h2]⟩
theorem open_ops {a : Option Addr} {len cap : Nat} (h : DataW.Trod enc Try.prog W base spare held 22 (.slice a len cap) d p) :
    ∃ f : Nat → Int × Int × Int, ∀ i, i < len → ∃ x, a = some x ∧ W.cell? (x.add (i * 3)) = some (.int .i64 (f i).1) ∧ W.cell? ⟨(x.add (i * 3)).block, (x.add (i * 3)).off + 1, none⟩ = some (.int .i64 (f i).2.1) ∧ W.cell? ⟨(x.add (i * 3)).block, (x.add (i * 3)).off + 2, none⟩ = some (.int .i64 (f i).2.2) := by
  have key : ∀ i, ∃ f : Int × Int × Int, i < len → ∃ x, a = some x ∧ W.cell? (x.add (i * 3)) = some (.int .i64 f.1) ∧ W.cell? ⟨(x.add (i * 3)).block, (x.add (i * 3)).off + 1, none⟩ = some (.int .i64 f.2.1) ∧ W.cell? ⟨(x.add (i * 3)).block, (x.add (i * 3)).off + 2, none⟩ = some (.int .i64 f.2.2) := by
    intro i
    by_cases hi : i < len
    · obtain ⟨fuel, hf⟩ := h
      rcases Go.Deep.open_slice Try.underlying22 hf with ⟨hcs, _⟩ | ⟨x, l, c, m, n, D, Pl, hcs, _, hl, _, hm, _, hat⟩
      · simp [Value.cells] at hcs
        omega
      · simp [Value.cells] at hcs
        obtain ⟨rfl, rfl, rfl⟩ := hcs
        obtain ⟨cs', hc, ht⟩ := hat i (by rw [hm]; split <;> omega)
        obtain ⟨a0, a1, a2, rfl⟩ := op_of ht
        rw [cOp] at hc
        obtain ⟨_, hcl, hcat⟩ := World.cells?_some hc
        have e0 := hcat 0 (by omega)
        have e1 := hcat 1 (by omega)
        have e2 := hcat 2 (by omega)
        rw [Go.Deep.add_add] at e0 e1 e2
        refine ⟨(a0, a1, a2), fun _ => ⟨x, rfl, e0, ?_, ?_⟩⟩
        · rw [← add_field _ _ 1 (by omega)]; exact e1
        · rw [← add_field _ _ 2 (by omega)]; exact e2
    · exact ⟨(0, 0, 0), fun h => absurd h hi⟩
  exact ⟨fun i => Classical.choose (key i), fun i hi => Classical.choose_spec (key i) hi⟩
theorem sized_ops {ts : List TypeId} {ds : List (DataW H)} {j : Nat} {a : Option Addr} {len cap : Nat} (hsz : (DataW.weightsEach Try.prog ts ds).all (· ≤ reachBytes) = true) (ht : ts[j]? = some 22) (hd : ds[j]? = some d)
    (h : DataW.Trod enc Try.prog W base spare held 22 (.slice a len cap) d p) : len * 24 ≤ 140737488351232 := by
  obtain ⟨fuel, hf⟩ := h
  rcases Go.Deep.open_slice Try.underlying22 hf with ⟨hcs, _⟩ | ⟨x, l, c, m, n, D, Pl, hcs, _, hl, _, hm, hx, _⟩
  · simp [Value.cells] at hcs
    omega
  · simp [Value.cells] at hcs
    obtain ⟨rfl, rfl, rfl⟩ := hcs
    obtain ⟨hx, _⟩ := Prod.mk.inj hx
    subst hx
    have z := sized_slice hsz ht hd Try.underlying22
    rw [show Try.prog.bytesOf 33 = 24 by kernel_rfl] at z
    simp only [List.length_map, List.length_range] at z
    exact Nat.le_trans (Nat.mul_le_mul_right _ (Nat.le_add_right _ _)) z
end
end Go.Proofs.Ytekjkookkjjbcaa.Op
