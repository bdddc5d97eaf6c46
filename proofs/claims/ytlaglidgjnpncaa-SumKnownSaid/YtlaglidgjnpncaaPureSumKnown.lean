/- SumKnown: the sums that the document names, and the errors' numbers. -/
import Derived.Test.YtlaglidgjnpncaaSumKnownL
namespace Go.Proofs.Ytlaglidgjnpncaa.Pure
set_option linter.unusedVariables false
set_option linter.unusedSimpArgs false
open Go.RowKit Go.Proofs.Ytlaglidgjnpncaa.SumF

theorem SumKnown (w : World) : Calls Try.prog 11 #[] w fun e w' => e = .returned (.bool true) ∧ Below w.heap.size w w' := SumKnown_calls w
end Go.Proofs.Ytlaglidgjnpncaa.Pure
