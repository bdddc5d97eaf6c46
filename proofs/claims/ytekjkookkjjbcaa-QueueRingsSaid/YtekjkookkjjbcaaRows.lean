/-
  No cell of these rows narrows 'for every input' (looked for: loops, veiled, ifaces, maps, wideKeys, modest, calm, conditions, laid).
  DERIVED. THE GIVEN ROWS OF THIS SEAT. 9 by the template 'for every input the law returns true; each argument reads behind the call as it read before'; 0 by the template 'total and deterministic' (their statements: YtekjkookkjjbcaaTotals.lean).
  GIVEN WITH THE SEED: the statements are not yours to turn. If you find one false, say at which input.
  Laid BY PROGRAM, IN A SANDBOX (cutbox-rows.mjs): the forced cells as the released guide's own fill.sh prints them over the translation 892636fe3bb06343… (all of the seat's roots in one cut). By AI agents, Wed Nov 11 2026. No macro, syntax, notation, axiom, sorry.
-/
import Derived.Test.YtekjkookkjjbcaaChecked
import GoSem.Claim
import GoSem.ClaimJoined
import GoSem.ClaimMapViews
import Derived.JoinedTies
import Derived.KernelRfl
namespace Go.Proofs.Ytekjkookkjjbcaa
/- THE CELL 'sum', in the pinned program and in every row, IS THE sha256 OF THE DUMP (.gsa) THAT YtekjkookkjjbcaaProg.lean LOADS. Nothing in Lean hashes anything: it is a label: what it is worth is what the hold of that sum in a sandbox is worth. -/
noncomputable def Try.pinned : Pinned := { name := "ytekjkookkjjbcaa", sum := "892636fe3bb06343a4ad80cd360da0d834d76206a314bfd2567b272be5cb4eb4", checked := Try.checked }
namespace Rows
def none {H : Type} : Left H := { results := [], args := [] }

/-- 'posthornlaw07.QueueHeaps': WHATEVER THE INPUT: true; the input reads as it did. -/
def queueHeapsSpec : ChangeSpec := { name := "queueHeaps", fn := fun _ => fun
  | [d] => { results := [.lit (.bool true)], args := [d] }
  | _ => none }
def queueHeapsRow : OpenClaim := { program := "ytekjkookkjjbcaa", sum := "892636fe3bb06343a4ad80cd360da0d834d76206a314bfd2567b272be5cb4eb4", func := "posthorn/posthornlaw07.QueueHeaps", spec := "queueHeaps", unfollowed := true, recurses := true, apart := false }
def QueueHeapsSaid : Prop := queueHeapsRow.holds Try.pinned (OpenSpec.ofChange queueHeapsSpec)

/-- ITS FALSE NEIGHBOUR: 'it returns false'. Refute it at one input. -/
def queueHeapsWrong : ChangeSpec := { name := "queueHeaps", fn := fun _ => fun
  | [d] => { results := [.lit (.bool false)], args := [d] }
  | _ => none }
def QueueHeapsWrongFalsely : Prop := queueHeapsRow.holds Try.pinned (OpenSpec.ofChange queueHeapsWrong)

/-- 'posthornlaw07.QueueSorts': WHATEVER THE INPUT: true; the input reads as it did. -/
def queueSortsSpec : ChangeSpec := { name := "queueSorts", fn := fun _ => fun
  | [d] => { results := [.lit (.bool true)], args := [d] }
  | _ => none }
def queueSortsRow : OpenClaim := { program := "ytekjkookkjjbcaa", sum := "892636fe3bb06343a4ad80cd360da0d834d76206a314bfd2567b272be5cb4eb4", func := "posthorn/posthornlaw07.QueueSorts", spec := "queueSorts", unfollowed := true, recurses := true, apart := false }
def QueueSortsSaid : Prop := queueSortsRow.holds Try.pinned (OpenSpec.ofChange queueSortsSpec)

/-- ITS FALSE NEIGHBOUR: 'it returns false'. Refute it at one input. -/
def queueSortsWrong : ChangeSpec := { name := "queueSorts", fn := fun _ => fun
  | [d] => { results := [.lit (.bool false)], args := [d] }
  | _ => none }
def QueueSortsWrongFalsely : Prop := queueSortsRow.holds Try.pinned (OpenSpec.ofChange queueSortsWrong)

/-- 'posthornlaw07.QueueFifo': WHATEVER THE INPUT: true; the input reads as it did. -/
def queueFifoSpec : ChangeSpec := { name := "queueFifo", fn := fun _ => fun
  | [d1, d2, d3] => { results := [.lit (.bool true)], args := [d1, d2, d3] }
  | _ => none }
def queueFifoRow : OpenClaim := { program := "ytekjkookkjjbcaa", sum := "892636fe3bb06343a4ad80cd360da0d834d76206a314bfd2567b272be5cb4eb4", func := "posthorn/posthornlaw07.QueueFifo", spec := "queueFifo", apart := false }
def QueueFifoSaid : Prop := queueFifoRow.holds Try.pinned (OpenSpec.ofChange queueFifoSpec)

/-- ITS FALSE NEIGHBOUR: 'it returns false'. Refute it at one input. -/
def queueFifoWrong : ChangeSpec := { name := "queueFifo", fn := fun _ => fun
  | [d1, d2, d3] => { results := [.lit (.bool false)], args := [d1, d2, d3] }
  | _ => none }
def QueueFifoWrongFalsely : Prop := queueFifoRow.holds Try.pinned (OpenSpec.ofChange queueFifoWrong)

/-- 'posthornlaw07.QueueFolds': WHATEVER THE INPUT: true; the input reads as it did. -/
def queueFoldsSpec : ChangeSpec := { name := "queueFolds", fn := fun _ => fun
  | [d1, d2, d3] => { results := [.lit (.bool true)], args := [d1, d2, d3] }
  | _ => none }
def queueFoldsRow : OpenClaim := { program := "ytekjkookkjjbcaa", sum := "892636fe3bb06343a4ad80cd360da0d834d76206a314bfd2567b272be5cb4eb4", func := "posthorn/posthornlaw07.QueueFolds", spec := "queueFolds", unfollowed := true, recurses := true, apart := false }
def QueueFoldsSaid : Prop := queueFoldsRow.holds Try.pinned (OpenSpec.ofChange queueFoldsSpec)

/-- ITS FALSE NEIGHBOUR: 'it returns false'. Refute it at one input. -/
def queueFoldsWrong : ChangeSpec := { name := "queueFolds", fn := fun _ => fun
  | [d1, d2, d3] => { results := [.lit (.bool false)], args := [d1, d2, d3] }
  | _ => none }
def QueueFoldsWrongFalsely : Prop := queueFoldsRow.holds Try.pinned (OpenSpec.ofChange queueFoldsWrong)

/-- 'posthornlaw07.QueueEach': WHATEVER THE INPUT: true; the input reads as it did. -/
def queueEachSpec : ChangeSpec := { name := "queueEach", fn := fun _ => fun
  | [d1, d2, d3] => { results := [.lit (.bool true)], args := [d1, d2, d3] }
  | _ => none }
def queueEachRow : OpenClaim := { program := "ytekjkookkjjbcaa", sum := "892636fe3bb06343a4ad80cd360da0d834d76206a314bfd2567b272be5cb4eb4", func := "posthorn/posthornlaw07.QueueEach", spec := "queueEach", unfollowed := true, recurses := true, apart := false }
def QueueEachSaid : Prop := queueEachRow.holds Try.pinned (OpenSpec.ofChange queueEachSpec)

/-- ITS FALSE NEIGHBOUR: 'it returns false'. Refute it at one input. -/
def queueEachWrong : ChangeSpec := { name := "queueEach", fn := fun _ => fun
  | [d1, d2, d3] => { results := [.lit (.bool false)], args := [d1, d2, d3] }
  | _ => none }
def QueueEachWrongFalsely : Prop := queueEachRow.holds Try.pinned (OpenSpec.ofChange queueEachWrong)

/-- 'posthornlaw07.QueueRings': WHATEVER THE INPUT: true; the input reads as it did. -/
def queueRingsSpec : ChangeSpec := { name := "queueRings", fn := fun _ => fun
  | [d1, d2] => { results := [.lit (.bool true)], args := [d1, d2] }
  | _ => none }
def queueRingsRow : OpenClaim := { program := "ytekjkookkjjbcaa", sum := "892636fe3bb06343a4ad80cd360da0d834d76206a314bfd2567b272be5cb4eb4", func := "posthorn/posthornlaw07.QueueRings", spec := "queueRings", unfollowed := true, recurses := true, apart := false }
def QueueRingsSaid : Prop := queueRingsRow.holds Try.pinned (OpenSpec.ofChange queueRingsSpec)

/-- ITS FALSE NEIGHBOUR: 'it returns false'. Refute it at one input. -/
def queueRingsWrong : ChangeSpec := { name := "queueRings", fn := fun _ => fun
  | [d1, d2] => { results := [.lit (.bool false)], args := [d1, d2] }
  | _ => none }
def QueueRingsWrongFalsely : Prop := queueRingsRow.holds Try.pinned (OpenSpec.ofChange queueRingsWrong)

/-- 'posthornlaw07.QueueFull': WHATEVER THE INPUT: true; the input reads as it did. -/
def queueFullSpec : ChangeSpec := { name := "queueFull", fn := fun _ => fun
  | [] => { results := [.lit (.bool true)], args := [] }
  | _ => none }
def queueFullRow : OpenClaim := { program := "ytekjkookkjjbcaa", sum := "892636fe3bb06343a4ad80cd360da0d834d76206a314bfd2567b272be5cb4eb4", func := "posthorn/posthornlaw07.QueueFull", spec := "queueFull", unfollowed := true, recurses := true, apart := false }
def QueueFullSaid : Prop := queueFullRow.holds Try.pinned (OpenSpec.ofChange queueFullSpec)

/-- ITS FALSE NEIGHBOUR: 'it returns false'. Refute it at one input. -/
def queueFullWrong : ChangeSpec := { name := "queueFull", fn := fun _ => fun
  | [] => { results := [.lit (.bool false)], args := [] }
  | _ => none }
def QueueFullWrongFalsely : Prop := queueFullRow.holds Try.pinned (OpenSpec.ofChange queueFullWrong)

/-- 'posthornlaw07.QueueAlike': WHATEVER THE INPUT: true; the input reads as it did. -/
def queueAlikeSpec : ChangeSpec := { name := "queueAlike", fn := fun _ => fun
  | [d] => { results := [.lit (.bool true)], args := [d] }
  | _ => none }
def queueAlikeRow : OpenClaim := { program := "ytekjkookkjjbcaa", sum := "892636fe3bb06343a4ad80cd360da0d834d76206a314bfd2567b272be5cb4eb4", func := "posthorn/posthornlaw07.QueueAlike", spec := "queueAlike", unfollowed := true, recurses := true, apart := false }
def QueueAlikeSaid : Prop := queueAlikeRow.holds Try.pinned (OpenSpec.ofChange queueAlikeSpec)

/-- ITS FALSE NEIGHBOUR: 'it returns false'. Refute it at one input. -/
def queueAlikeWrong : ChangeSpec := { name := "queueAlike", fn := fun _ => fun
  | [d] => { results := [.lit (.bool false)], args := [d] }
  | _ => none }
def QueueAlikeWrongFalsely : Prop := queueAlikeRow.holds Try.pinned (OpenSpec.ofChange queueAlikeWrong)

/-- 'posthornlaw07.QueueNil': WHATEVER THE INPUT: true; the input reads as it did. -/
def queueNilSpec : ChangeSpec := { name := "queueNil", fn := fun _ => fun
  | [d] => { results := [.lit (.bool true)], args := [d] }
  | _ => none }
def queueNilRow : OpenClaim := { program := "ytekjkookkjjbcaa", sum := "892636fe3bb06343a4ad80cd360da0d834d76206a314bfd2567b272be5cb4eb4", func := "posthorn/posthornlaw07.QueueNil", spec := "queueNil", unfollowed := true, recurses := true, apart := false }
def QueueNilSaid : Prop := queueNilRow.holds Try.pinned (OpenSpec.ofChange queueNilSpec)

/-- ITS FALSE NEIGHBOUR: 'it returns false'. Refute it at one input. -/
def queueNilWrong : ChangeSpec := { name := "queueNil", fn := fun _ => fun
  | [d] => { results := [.lit (.bool false)], args := [d] }
  | _ => none }
def QueueNilWrongFalsely : Prop := queueNilRow.holds Try.pinned (OpenSpec.ofChange queueNilWrong)

/- THE SECOND FORM. 'bulk': how many values and letters a reading holds, each counted each time it is reached (what is shared counts as often as it is met; a slice's spare places count too). A statement '..UptoSaid' is the law's where the arguments, and the package variables that the reading takes, are together of bulk at most 1048576: NARROWER than '..Said'. Prove '..Said' where nothing that the law and all that it calls make is longer than what came in: it says more and counts as full. Else prove '..UptoSaid'. A law counts once. -/
mutual
def uptoBulk {H : Type} : DataW H → Nat
  | .lit (.string bytes) => bytes.length + 1
  | .lit _ => 1
  | .nil => 1
  | .ptr d => uptoBulk d + 1
  | .slice elems spare => uptoBulkAll elems + uptoBulkAll spare + 1
  | .agg parts => uptoBulkAll parts + 1
  | .iface _ d => uptoBulk d + 1
  | .map entries => uptoBulkEntries entries + 1
  | .held _ => 1
def uptoBulkAll {H : Type} : List (DataW H) → Nat
  | [] => 0
  | d :: r => uptoBulk d + uptoBulkAll r
def uptoBulkEntries {H : Type} : List (Lit × DataW H) → Nat
  | [] => 0
  | x :: r => uptoBulkEntry x + uptoBulkEntries r
def uptoBulkEntry {H : Type} : Lit × DataW H → Nat
  | (.string bytes, d) => bytes.length + uptoBulk d + 1
  | (_, d) => uptoBulk d + 1
 end
def uptoSmall : (H : Type) → List (DataW H) → Bool := fun _ ds => decide (uptoBulkAll ds ≤ 1048576)
def OpenSpec.upto (s : _root_.Go.ChangeSpec) : _root_.Go.OpenSpec := { _root_.Go.OpenSpec.ofChange s with cond := some uptoSmall }

/-- 'posthornlaw07.QueueHeaps', WHERE WHAT IT READS IS OF BULK AT MOST 1048576: true; the input reads as it did. -/
def queueHeapsUptoRow : OpenClaim := { program := "ytekjkookkjjbcaa", sum := "892636fe3bb06343a4ad80cd360da0d834d76206a314bfd2567b272be5cb4eb4", func := "posthorn/posthornlaw07.QueueHeaps", spec := "queueHeaps", unfollowed := true, recurses := true, apart := false, narrowed := true }
def QueueHeapsUptoSaid : Prop := queueHeapsUptoRow.holds Try.pinned (OpenSpec.upto queueHeapsSpec)

/-- 'posthornlaw07.QueueSorts', WHERE WHAT IT READS IS OF BULK AT MOST 1048576: true; the input reads as it did. -/
def queueSortsUptoRow : OpenClaim := { program := "ytekjkookkjjbcaa", sum := "892636fe3bb06343a4ad80cd360da0d834d76206a314bfd2567b272be5cb4eb4", func := "posthorn/posthornlaw07.QueueSorts", spec := "queueSorts", unfollowed := true, recurses := true, apart := false, narrowed := true }
def QueueSortsUptoSaid : Prop := queueSortsUptoRow.holds Try.pinned (OpenSpec.upto queueSortsSpec)

/-- 'posthornlaw07.QueueFifo', WHERE WHAT IT READS IS OF BULK AT MOST 1048576: true; the input reads as it did. -/
def queueFifoUptoRow : OpenClaim := { program := "ytekjkookkjjbcaa", sum := "892636fe3bb06343a4ad80cd360da0d834d76206a314bfd2567b272be5cb4eb4", func := "posthorn/posthornlaw07.QueueFifo", spec := "queueFifo", apart := false, narrowed := true }
def QueueFifoUptoSaid : Prop := queueFifoUptoRow.holds Try.pinned (OpenSpec.upto queueFifoSpec)

/-- 'posthornlaw07.QueueFolds', WHERE WHAT IT READS IS OF BULK AT MOST 1048576: true; the input reads as it did. -/
def queueFoldsUptoRow : OpenClaim := { program := "ytekjkookkjjbcaa", sum := "892636fe3bb06343a4ad80cd360da0d834d76206a314bfd2567b272be5cb4eb4", func := "posthorn/posthornlaw07.QueueFolds", spec := "queueFolds", unfollowed := true, recurses := true, apart := false, narrowed := true }
def QueueFoldsUptoSaid : Prop := queueFoldsUptoRow.holds Try.pinned (OpenSpec.upto queueFoldsSpec)

/-- 'posthornlaw07.QueueEach', WHERE WHAT IT READS IS OF BULK AT MOST 1048576: true; the input reads as it did. -/
def queueEachUptoRow : OpenClaim := { program := "ytekjkookkjjbcaa", sum := "892636fe3bb06343a4ad80cd360da0d834d76206a314bfd2567b272be5cb4eb4", func := "posthorn/posthornlaw07.QueueEach", spec := "queueEach", unfollowed := true, recurses := true, apart := false, narrowed := true }
def QueueEachUptoSaid : Prop := queueEachUptoRow.holds Try.pinned (OpenSpec.upto queueEachSpec)

/-- 'posthornlaw07.QueueRings', WHERE WHAT IT READS IS OF BULK AT MOST 1048576: true; the input reads as it did. -/
def queueRingsUptoRow : OpenClaim := { program := "ytekjkookkjjbcaa", sum := "892636fe3bb06343a4ad80cd360da0d834d76206a314bfd2567b272be5cb4eb4", func := "posthorn/posthornlaw07.QueueRings", spec := "queueRings", unfollowed := true, recurses := true, apart := false, narrowed := true }
def QueueRingsUptoSaid : Prop := queueRingsUptoRow.holds Try.pinned (OpenSpec.upto queueRingsSpec)

/-- 'posthornlaw07.QueueFull', WHERE WHAT IT READS IS OF BULK AT MOST 1048576: true; the input reads as it did. -/
def queueFullUptoRow : OpenClaim := { program := "ytekjkookkjjbcaa", sum := "892636fe3bb06343a4ad80cd360da0d834d76206a314bfd2567b272be5cb4eb4", func := "posthorn/posthornlaw07.QueueFull", spec := "queueFull", unfollowed := true, recurses := true, apart := false, narrowed := true }
def QueueFullUptoSaid : Prop := queueFullUptoRow.holds Try.pinned (OpenSpec.upto queueFullSpec)

/-- 'posthornlaw07.QueueAlike', WHERE WHAT IT READS IS OF BULK AT MOST 1048576: true; the input reads as it did. -/
def queueAlikeUptoRow : OpenClaim := { program := "ytekjkookkjjbcaa", sum := "892636fe3bb06343a4ad80cd360da0d834d76206a314bfd2567b272be5cb4eb4", func := "posthorn/posthornlaw07.QueueAlike", spec := "queueAlike", unfollowed := true, recurses := true, apart := false, narrowed := true }
def QueueAlikeUptoSaid : Prop := queueAlikeUptoRow.holds Try.pinned (OpenSpec.upto queueAlikeSpec)

/-- 'posthornlaw07.QueueNil', WHERE WHAT IT READS IS OF BULK AT MOST 1048576: true; the input reads as it did. -/
def queueNilUptoRow : OpenClaim := { program := "ytekjkookkjjbcaa", sum := "892636fe3bb06343a4ad80cd360da0d834d76206a314bfd2567b272be5cb4eb4", func := "posthorn/posthornlaw07.QueueNil", spec := "queueNil", unfollowed := true, recurses := true, apart := false, narrowed := true }
def QueueNilUptoSaid : Prop := queueNilUptoRow.holds Try.pinned (OpenSpec.upto queueNilSpec)

end Rows
end Go.Proofs.Ytekjkookkjjbcaa
