/- date's structs by value, opened to numbers. -/
import Derived.Test.YtnmhkmkaklhapaaDoorProg
import Derived.WalkKit
import Derived.ProofKit
import Derived.OpenShut
import Derived.KernelRfl
import Derived.WideShapes
import Derived.ChangeArms
namespace Go.Proofs.YtnmhkmkaklhapaaDoor.Op
set_option linter.unusedVariables false
set_option linter.unusedSimpArgs false
open Go.ChangeShapes Go.WideShapes Go.ChangeAt Go.RowKit
section
variable {H : Type} {enc : TypeId × Value → H} {W : World} {base b0 : Nat} {spare : Nat → Bool} {held : Bool} {r : Reach} {v : Value} {d : DataW H} {p : List MemPlace}
theorem c2 : Tryd.prog.cellsOf 2 = 1 := by kernel_rfl
theorem c5 : Tryd.prog.cellsOf 5 = 1 := by kernel_rfl
theorem c22 : Tryd.prog.cellsOf 22 = 1 := by kernel_rfl
theorem c23 : Tryd.prog.cellsOf 23 = 1 := by kernel_rfl
theorem c9 : Tryd.prog.cellsOf 9 = 1 := by kernel_rfl
theorem c55 : Tryd.prog.cellsOf 55 = 1 := by kernel_rfl
theorem c42 : Tryd.prog.cellsOf 42 = 5 := by kernel_rfl
set_option maxRecDepth 100000 in
theorem made_of {n : Nat} {cs : List Value} {x : DataW H × List MemPlace} (h : DataW.trod enc Tryd.prog W base spare held n 42 cs = some x) :
    ∃ a0 a1 a2 a3 a4 : Int, cs = [.int .i64 a0, .int .u8 a1, .int .u8 a2, .int .u8 a3, .int .i16 a4] ∧ (Lit.int .i64 a0).wf = true ∧ (Lit.int .u8 a1).wf = true ∧ (Lit.int .u8 a2).wf = true ∧ (Lit.int .u8 a3).wf = true ∧ (Lit.int .i16 a4).wf = true := by
  obtain ⟨xs, m, _, _, hl, hlen, hg⟩ := DataW.trod_struct Tryd.underlying42 h
  match cs, hl.trans c42 with
  | [e0, e1, e2, e3, e4], _ =>
    match xs, hlen with
    | [y0, y1, y2, y3, y4], _ =>
      have g0 : DataW.trod enc Tryd.prog W base spare held m 2 [e0] = some y0 := by simpa [c2] using hg 0 _ rfl
      have g1 : DataW.trod enc Tryd.prog W base spare held m 5 [e1] = some y1 := by simpa [c5] using hg 1 _ rfl
      have g2 : DataW.trod enc Tryd.prog W base spare held m 5 [e2] = some y2 := by simpa [c5] using hg 2 _ rfl
      have g3 : DataW.trod enc Tryd.prog W base spare held m 5 [e3] = some y3 := by simpa [c5] using hg 3 _ rfl
      have g4 : DataW.trod enc Tryd.prog W base spare held m 22 [e4] = some y4 := by simpa [c22] using hg 4 _ rfl
      obtain ⟨a0, q0, _, w0⟩ := DataW.trod_int Tryd.underlying2 g0
      obtain ⟨a1, q1, _, w1⟩ := DataW.trod_int Tryd.underlying5 g1
      obtain ⟨a2, q2, _, w2⟩ := DataW.trod_int Tryd.underlying5 g2
      obtain ⟨a3, q3, _, w3⟩ := DataW.trod_int Tryd.underlying5 g3
      obtain ⟨a4, q4, _, w4⟩ := DataW.trod_int Tryd.underlying22 g4
      cases q0; cases q1; cases q2; cases q3; cases q4
      exact ⟨a0, a1, a2, a3, a4, rfl, w0, w1, w2, w3, w4⟩
set_option maxRecDepth 100000 in
theorem open_made (hv : Value.okWide Tryd.prog W r b0 42 v) (h : DataW.Trod enc Tryd.prog W base spare held 42 v d p) :
    ∃ a0 a1 a2 a3 a4 : Int, v = .agg #[.int .i64 a0, .int .u8 a1, .int .u8 a2, .int .u8 a3, .int .i16 a4] ∧ (Lit.int .i64 a0).wf = true ∧ (Lit.int .u8 a1).wf = true ∧ (Lit.int .u8 a2).wf = true ∧ (Lit.int .u8 a3).wf = true ∧ (Lit.int .i16 a4).wf = true := by
  obtain ⟨cs, rfl, _⟩ := okWide_struct Tryd.underlying42 hv
  obtain ⟨l⟩ := cs
  obtain ⟨fuel, hf⟩ := h
  obtain ⟨a0, a1, a2, a3, a4, e, hw⟩ := made_of (cs := l) (by simpa [Value.cells] using hf)
  subst e
  exact ⟨a0, a1, a2, a3, a4, rfl, hw⟩
set_option maxRecDepth 100000 in
theorem open_date (hv : Value.okWide Tryd.prog W r b0 30 v) (h : DataW.Trod enc Tryd.prog W base spare held 30 v d p) :
    ∃ a0 a1 a2 a3 a4 a5 a6 : Int, v = .agg #[.int .i16 a0, .int .i8 a1, .int .i8 a2, .int .i8 a3, .int .i8 a4, .int .i8 a5, .int .i16 a6] ∧ (Lit.int .i16 a0).wf = true ∧ (Lit.int .i8 a1).wf = true ∧ (Lit.int .i8 a2).wf = true ∧ (Lit.int .i8 a3).wf = true ∧ (Lit.int .i8 a4).wf = true ∧ (Lit.int .i8 a5).wf = true ∧ (Lit.int .i16 a6).wf = true := by
  obtain ⟨cs, rfl, hsz⟩ := okWide_struct Tryd.underlying30 hv
  obtain ⟨l⟩ := cs
  obtain ⟨fuel, hf⟩ := h
  obtain ⟨xs, m, _, _, hl, hlen, hg⟩ := DataW.trod_struct Tryd.underlying30 hf
  have h7 : l.length = 7 := hsz.trans (by kernel_rfl)
  match l, h7 with
  | [e0, e1, e2, e3, e4, e5, e6], _ =>
    match xs, hlen with
    | [y0, y1, y2, y3, y4, y5, y6], _ =>
      have g0 : DataW.trod enc Tryd.prog W base spare held m 22 [e0] = some y0 := by simpa [Value.cells, c22] using hg 0 _ rfl
      have g1 : DataW.trod enc Tryd.prog W base spare held m 23 [e1] = some y1 := by simpa [Value.cells, c23] using hg 1 _ rfl
      have g2 : DataW.trod enc Tryd.prog W base spare held m 23 [e2] = some y2 := by simpa [Value.cells, c23] using hg 2 _ rfl
      have g3 : DataW.trod enc Tryd.prog W base spare held m 23 [e3] = some y3 := by simpa [Value.cells, c23] using hg 3 _ rfl
      have g4 : DataW.trod enc Tryd.prog W base spare held m 23 [e4] = some y4 := by simpa [Value.cells, c23] using hg 4 _ rfl
      have g5 : DataW.trod enc Tryd.prog W base spare held m 23 [e5] = some y5 := by simpa [Value.cells, c23] using hg 5 _ rfl
      have g6 : DataW.trod enc Tryd.prog W base spare held m 22 [e6] = some y6 := by simpa [Value.cells, c22] using hg 6 _ rfl
      obtain ⟨a0, q0, _, w0⟩ := DataW.trod_int Tryd.underlying22 g0
      obtain ⟨a1, q1, _, w1⟩ := DataW.trod_int Tryd.underlying23 g1
      obtain ⟨a2, q2, _, w2⟩ := DataW.trod_int Tryd.underlying23 g2
      obtain ⟨a3, q3, _, w3⟩ := DataW.trod_int Tryd.underlying23 g3
      obtain ⟨a4, q4, _, w4⟩ := DataW.trod_int Tryd.underlying23 g4
      obtain ⟨a5, q5, _, w5⟩ := DataW.trod_int Tryd.underlying23 g5
      obtain ⟨a6, q6, _, w6⟩ := DataW.trod_int Tryd.underlying22 g6
      cases q0; cases q1; cases q2; cases q3; cases q4; cases q5; cases q6
      exact ⟨a0, a1, a2, a3, a4, a5, a6, rfl, w0, w1, w2, w3, w4, w5, w6⟩
end
end Go.Proofs.YtnmhkmkaklhapaaDoor.Op
