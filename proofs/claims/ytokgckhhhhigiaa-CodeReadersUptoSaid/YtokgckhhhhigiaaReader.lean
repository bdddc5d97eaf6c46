/- code.Reader (walked by hand): what next and take do, on its cells. -/
import Derived.Test.YtokgckhhhhigiaaLentS
import Derived.Test.YtokgckhhhhigiaaTurn
import Derived.Deep.RegionHeld3
namespace Go.Proofs.Ytokgckhhhhigiaa.Rd
set_option linter.unusedVariables false
set_option linter.unusedSimpArgs false
open Go.RowKit Go.Proofs.YtokgckhhhhigiaaW.PrintWords Go.Proofs.YtokgckhhhhigiaaW.PrintLast Go.Proofs.YtokgckhhhhigiaaW.PrintMore Go.Proofs.Ytokgckhhhhigiaa.B Go.Proofs.Ytokgckhhhhigiaa.M Go.Proofs.Ytokgckhhhhigiaa.G

/-- The Reader's cells. -/
def cellsR (m : Bool) (a b c d : Int) (n : Int) (o : Bool) (e : Int) : Array Value := #[.bool m, .int .u8 a, .int .u8 b, .int .u8 c, .int .u8 d, .int .i64 n, .bool o, .int .i64 e]
/-- Whether the text goes on with a letter that is v: 0, or the error. -/
def nextV (a b c : Int) (n : Nat) (o : Bool) (v : Int) : Int :=
  if v = 65 then 40 else if o = true then 41 else if n = 3 ∧ c = 64 then (if v ≠ 64 then 41 else 0) else if v ≠ 64 then 0
  else if n < 2 ∨ (n = 2 ∧ Go.bits .and .u8 b 15 ≠ 0) ∨ (n = 3 ∧ Go.bits .and .u8 c 3 ≠ 0) then 41 else 0

set_option maxHeartbeats 8000000 in
set_option maxRecDepth 100000 in
theorem next_calls (g : Nat) (m : Bool) (a b c d : Int) (n : Nat) (hn : n ≤ 3) (o : Bool) (er v : Int) (w : World) (hk : w.heap[g]? = some (.cells (cellsR m a b c d n o er) 47 (0, 0))) :
    Calls Try.prog 28 #[.pointer (some ⟨g, 0, none⟩), .int .u8 v] w fun e w' => e = .returned (.int .i64 (nextV a b c n o v)) ∧ Drawn0 w w' := by
  have h0 := blk_cell hk 0
  have h1 := blk_cell hk 1
  have h2 := blk_cell hk 2
  have h3 := blk_cell hk 3
  have h4 := blk_cell hk 4
  have h5 := blk_cell hk 5
  have h6 := blk_cell hk 6
  simp only [cellsR] at h0 h1 h2 h3 h4 h5 h6
  have hn0 : (0 : Int) ≤ (n : Int) := by omega
  have hn4 : (n : Int) ≤ 4 := by omega
  go_enter Try.func28, Try.ntmps28
  go_wp2
  go_region_held3 (fun w' => w'.cell? ⟨g, 5, none⟩ = some (.int .i64 (n : Int))) (go_keep) (fail)
  all_goals go_wp2
  all_goals go_ret
  all_goals refine ⟨?_, Drawn0.step (Drawn0.refl _) 1⟩
  all_goals refine congrArg (fun z => Ending.returned (Value.int .i64 z)) ?_
  all_goals unfold nextV
  all_goals first | (simp_all; done) | (simp_all; omega) | trace_state
end Go.Proofs.Ytokgckhhhhigiaa.Rd
