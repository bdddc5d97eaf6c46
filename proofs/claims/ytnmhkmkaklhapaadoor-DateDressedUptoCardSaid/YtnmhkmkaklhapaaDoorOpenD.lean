/- date's Dress by value, opened. -/
import Derived.Test.YtnmhkmkaklhapaaDoorProg
import Derived.WalkKit
import Derived.ProofKit
import Derived.OpenShut
import Derived.KernelRfl
import Derived.WideShapes
import Derived.ChangeArms
import Derived.Test.YtnmhkmkaklhapaaDoorBulk
namespace Go.Proofs.YtnmhkmkaklhapaaDoor.OpD
set_option linter.unusedVariables false
set_option linter.unusedSimpArgs false
open Go.ChangeShapes Go.WideShapes Go.ChangeAt Go.RowKit
section
variable {H : Type} {enc : TypeId × Value → H} {W : World} {base b0 : Nat} {spare : Nat → Bool} {held : Bool} {r : Reach} {v : Value} {d : DataW H} {p : List MemPlace}
theorem c2 : Tryd.prog.cellsOf 2 = 1 := by kernel_rfl
theorem c5 : Tryd.prog.cellsOf 5 = 1 := by kernel_rfl
theorem c22 : Tryd.prog.cellsOf 22 = 1 := by kernel_rfl
theorem c23 : Tryd.prog.cellsOf 23 = 1 := by kernel_rfl
theorem c9 : Tryd.prog.cellsOf 9 = 1 := by kernel_rfl
theorem c55 : Tryd.prog.cellsOf 55 = 1 := by kernel_rfl
theorem c42 : Tryd.prog.cellsOf 42 = 5 := by kernel_rfl
set_option maxRecDepth 100000 in
theorem made_of {n : Nat} {cs : List Value} {x : DataW H × List MemPlace} (h : DataW.trod enc Tryd.prog W base spare held n 42 cs = some x) :
    ∃ a0 a1 a2 a3 a4 : Int, cs = [.int .i64 a0, .int .u8 a1, .int .u8 a2, .int .u8 a3, .int .i16 a4] ∧ (Lit.int .i64 a0).wf = true ∧ (Lit.int .u8 a1).wf = true ∧ (Lit.int .u8 a2).wf = true ∧ (Lit.int .u8 a3).wf = true ∧ (Lit.int .i16 a4).wf = true := by
  obtain ⟨xs, m, _, _, hl, hlen, hg⟩ := DataW.trod_struct Tryd.underlying42 h
  match cs, hl.trans c42 with
  | [e0, e1, e2, e3, e4], _ =>
    match xs, hlen with
    | [y0, y1, y2, y3, y4], _ =>
      have g0 : DataW.trod enc Tryd.prog W base spare held m 2 [e0] = some y0 := by simpa [c2] using hg 0 _ rfl
      have g1 : DataW.trod enc Tryd.prog W base spare held m 5 [e1] = some y1 := by simpa [c5] using hg 1 _ rfl
      have g2 : DataW.trod enc Tryd.prog W base spare held m 5 [e2] = some y2 := by simpa [c5] using hg 2 _ rfl
      have g3 : DataW.trod enc Tryd.prog W base spare held m 5 [e3] = some y3 := by simpa [c5] using hg 3 _ rfl
      have g4 : DataW.trod enc Tryd.prog W base spare held m 22 [e4] = some y4 := by simpa [c22] using hg 4 _ rfl
      obtain ⟨a0, q0, _, w0⟩ := DataW.trod_int Tryd.underlying2 g0
      obtain ⟨a1, q1, _, w1⟩ := DataW.trod_int Tryd.underlying5 g1
      obtain ⟨a2, q2, _, w2⟩ := DataW.trod_int Tryd.underlying5 g2
      obtain ⟨a3, q3, _, w3⟩ := DataW.trod_int Tryd.underlying5 g3
      obtain ⟨a4, q4, _, w4⟩ := DataW.trod_int Tryd.underlying22 g4
      cases q0; cases q1; cases q2; cases q3; cases q4
      exact ⟨a0, a1, a2, a3, a4, rfl, w0, w1, w2, w3, w4⟩
set_option maxRecDepth 100000 in
theorem open_dress (hv : Value.okWide Tryd.prog W r b0 57 v) (h : DataW.Trod enc Tryd.prog W base spare held 57 v d p) :
    ∃ (a0 a1 a2 a3 a4 a5 a6 : Int) (a7 : ByteArray), v = .agg #[.int .i64 a0, .int .u8 a1, .int .u8 a2, .int .u8 a3, .int .i16 a4, .int .u64 a5, .int .u8 a6, .string a7] ∧ (Lit.int .i64 a0).wf = true ∧ (Lit.int .u8 a1).wf = true ∧ (Lit.int .u8 a2).wf = true ∧ (Lit.int .u8 a3).wf = true ∧ (Lit.int .i16 a4).wf = true ∧ (Lit.int .u64 a5).wf = true ∧ (Lit.int .u8 a6).wf = true ∧ a7.size ≤ Rows.uptoBulk d := by
  obtain ⟨cs, rfl, hsz⟩ := okWide_struct Tryd.underlying57 hv
  obtain ⟨l⟩ := cs
  obtain ⟨fuel, hf⟩ := h
  obtain ⟨xs, m, _, hx, hl, hlen, hg⟩ := DataW.trod_struct Tryd.underlying57 hf
  have h8 : l.length = 8 := hsz.trans (by kernel_rfl)
  match l, h8 with
  | [e0, e1, e2, e3, e4, e5, e6, e7], _ =>
    match xs, hlen with
    | [y0, y1, y2, y3], _ =>
      have g0 : DataW.trod enc Tryd.prog W base spare held m 42 [e0, e1, e2, e3, e4] = some y0 := by simpa [Value.cells, c42] using hg 0 _ rfl
      have g1 : DataW.trod enc Tryd.prog W base spare held m 55 [e5] = some y1 := by simpa [Value.cells, c55] using hg 1 _ rfl
      have g2 : DataW.trod enc Tryd.prog W base spare held m 5 [e6] = some y2 := by simpa [Value.cells, c5] using hg 2 _ rfl
      have g3 : DataW.trod enc Tryd.prog W base spare held m 9 [e7] = some y3 := by simpa [Value.cells, c9] using hg 3 _ rfl
      obtain ⟨a0, a1, a2, a3, a4, q0, w0, w1, w2, w3, w4⟩ := made_of g0
      obtain ⟨a5, q1, _, w5⟩ := DataW.trod_int Tryd.underlying55 g1
      obtain ⟨a6, q2, _, w6⟩ := DataW.trod_int Tryd.underlying5 g2
      obtain ⟨a7, q3, r3, _⟩ := DataW.trod_string Tryd.underlying9 g3
      simp only [List.cons.injEq, and_true] at q0
      obtain ⟨rfl, rfl, rfl, rfl, rfl⟩ := q0
      cases q1; cases q2; cases q3
      refine ⟨a0, a1, a2, a3, a4, a5, a6, a7, rfl, w0, w1, w2, w3, w4, w5, w6, ?_⟩
      simp only [Prod.mk.injEq] at hx
      rw [hx.1]
      have hm : (DataW.lit (.string a7.data.toList) : DataW H) ∈ [y0, y1, y2, y3].map (·.1) := by rw [r3]; simp
      have h1 := bulks.part_le hm
      rw [bulks.string_eq] at h1
      have h2 : a7.size = a7.data.toList.length := by rw [Array.length_toList]; rfl
      have h3 : Rows.uptoBulk (DataW.agg ([y0, y1, y2, y3].map (·.1))) = Rows.uptoBulkAll ([y0, y1, y2, y3].map (·.1)) + 1 := by rw [Rows.uptoBulk]
      omega
end
end Go.Proofs.YtnmhkmkaklhapaaDoor.OpD
