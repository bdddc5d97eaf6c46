/- RunesKnown: the errors' numbers, and what the document's examples name. -/
import Derived.Test.YtabjfpjmiiiecaaF3
namespace Go.Proofs.Ytabjfpjmiiiecaa.Pure
set_option linter.unusedVariables false
set_option linter.unusedSimpArgs false
open Go.RowKit Go.Proofs.Ytabjfpjmiiiecaa.F Go.Proofs.YtabjfpjmiiiecaaW.PrintWords

theorem known_some : posthornlaw05_RunesKnown.f 80 = some true := by decide +kernel
theorem RunesKnown (w : World) :
    Calls Try.prog 3 #[] w fun e w' => e = .returned (.bool true) ∧ Below w.heap.size w w' :=
  posthornlaw05_RunesKnown.walk ⟨80, known_some⟩ w
end Go.Proofs.Ytabjfpjmiiiecaa.Pure
