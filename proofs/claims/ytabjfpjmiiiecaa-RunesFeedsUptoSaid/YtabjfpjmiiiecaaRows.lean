/-
  No cell of these rows narrows 'for every input' (looked for: loops, veiled, ifaces, maps, wideKeys, modest, calm, conditions, laid).
  DERIVED. THE GIVEN ROWS OF THIS SEAT. 9 by the template 'for every input the law returns true; each argument reads behind the call as it read before'; 0 by the template 'total and deterministic' (their statements: YtabjfpjmiiiecaaTotals.lean).
  GIVEN WITH THE SEED: the statements are not yours to turn. If you find one false, say at which input.
  Laid BY PROGRAM, IN A SANDBOX (cutbox-rows.mjs): the forced cells as the released guide's own fill.sh prints them over the translation 1c63f3264d1bd54a… (all of the seat's roots in one cut). By AI agents, Wed Nov 11 2026. No macro, syntax, notation, axiom, sorry.
-/
import Derived.Test.YtabjfpjmiiiecaaChecked
import GoSem.Claim
import GoSem.ClaimJoined
import GoSem.ClaimMapViews
import Derived.JoinedTies
import Derived.KernelRfl
namespace Go.Proofs.Ytabjfpjmiiiecaa
/- THE CELL 'sum', in the pinned program and in every row, IS THE sha256 OF THE DUMP (.gsa) THAT YtabjfpjmiiiecaaProg.lean LOADS. Nothing in Lean hashes anything: it is a label: what it is worth is what the hold of that sum in a sandbox is worth. -/
noncomputable def Try.pinned : Pinned := { name := "ytabjfpjmiiiecaa", sum := "1c63f3264d1bd54ae8cb127e74f35e7fbdd12c819ddb86e43bd29123c2d24736", checked := Try.checked }
namespace Rows
def none {H : Type} : Left H := { results := [], args := [] }

/-- 'posthornlaw05.RunesKnown': WHATEVER THE INPUT: true; the input reads as it did. -/
def runesKnownSpec : ChangeSpec := { name := "runesKnown", fn := fun _ => fun
  | [] => { results := [.lit (.bool true)], args := [] }
  | _ => none }
def runesKnownRow : OpenClaim := { program := "ytabjfpjmiiiecaa", sum := "1c63f3264d1bd54ae8cb127e74f35e7fbdd12c819ddb86e43bd29123c2d24736", func := "posthorn/posthornlaw05.RunesKnown", spec := "runesKnown", apart := false }
def RunesKnownSaid : Prop := runesKnownRow.holds Try.pinned (OpenSpec.ofChange runesKnownSpec)

/-- ITS FALSE NEIGHBOUR: 'it returns false'. Refute it at one input. -/
def runesKnownWrong : ChangeSpec := { name := "runesKnown", fn := fun _ => fun
  | [] => { results := [.lit (.bool false)], args := [] }
  | _ => none }
def RunesKnownWrongFalsely : Prop := runesKnownRow.holds Try.pinned (OpenSpec.ofChange runesKnownWrong)

/-- 'posthornlaw05.RunesReads': WHATEVER THE INPUT: true; the input reads as it did. -/
def runesReadsSpec : ChangeSpec := { name := "runesReads", fn := fun _ => fun
  | [d] => { results := [.lit (.bool true)], args := [d] }
  | _ => none }
def runesReadsRow : OpenClaim := { program := "ytabjfpjmiiiecaa", sum := "1c63f3264d1bd54ae8cb127e74f35e7fbdd12c819ddb86e43bd29123c2d24736", func := "posthorn/posthornlaw05.RunesReads", spec := "runesReads", apart := false }
def RunesReadsSaid : Prop := runesReadsRow.holds Try.pinned (OpenSpec.ofChange runesReadsSpec)

/-- ITS FALSE NEIGHBOUR: 'it returns false'. Refute it at one input. -/
def runesReadsWrong : ChangeSpec := { name := "runesReads", fn := fun _ => fun
  | [d] => { results := [.lit (.bool false)], args := [d] }
  | _ => none }
def RunesReadsWrongFalsely : Prop := runesReadsRow.holds Try.pinned (OpenSpec.ofChange runesReadsWrong)

/-- 'posthornlaw05.RunesFeeds': WHATEVER THE INPUT: true; the input reads as it did. -/
def runesFeedsSpec : ChangeSpec := { name := "runesFeeds", fn := fun _ => fun
  | [d] => { results := [.lit (.bool true)], args := [d] }
  | _ => none }
def runesFeedsRow : OpenClaim := { program := "ytabjfpjmiiiecaa", sum := "1c63f3264d1bd54ae8cb127e74f35e7fbdd12c819ddb86e43bd29123c2d24736", func := "posthorn/posthornlaw05.RunesFeeds", spec := "runesFeeds", apart := false }
def RunesFeedsSaid : Prop := runesFeedsRow.holds Try.pinned (OpenSpec.ofChange runesFeedsSpec)

/-- ITS FALSE NEIGHBOUR: 'it returns false'. Refute it at one input. -/
def runesFeedsWrong : ChangeSpec := { name := "runesFeeds", fn := fun _ => fun
  | [d] => { results := [.lit (.bool false)], args := [d] }
  | _ => none }
def RunesFeedsWrongFalsely : Prop := runesFeedsRow.holds Try.pinned (OpenSpec.ofChange runesFeedsWrong)

/-- 'posthornlaw05.RunesUnpunies': WHATEVER THE INPUT: true; the input reads as it did. -/
def runesUnpuniesSpec : ChangeSpec := { name := "runesUnpunies", fn := fun _ => fun
  | [d] => { results := [.lit (.bool true)], args := [d] }
  | _ => none }
def runesUnpuniesRow : OpenClaim := { program := "ytabjfpjmiiiecaa", sum := "1c63f3264d1bd54ae8cb127e74f35e7fbdd12c819ddb86e43bd29123c2d24736", func := "posthorn/posthornlaw05.RunesUnpunies", spec := "runesUnpunies", apart := false }
def RunesUnpuniesSaid : Prop := runesUnpuniesRow.holds Try.pinned (OpenSpec.ofChange runesUnpuniesSpec)

/-- ITS FALSE NEIGHBOUR: 'it returns false'. Refute it at one input. -/
def runesUnpuniesWrong : ChangeSpec := { name := "runesUnpunies", fn := fun _ => fun
  | [d] => { results := [.lit (.bool false)], args := [d] }
  | _ => none }
def RunesUnpuniesWrongFalsely : Prop := runesUnpuniesRow.holds Try.pinned (OpenSpec.ofChange runesUnpuniesWrong)

/-- 'posthornlaw05.RunesBack': WHATEVER THE INPUT: true; the input reads as it did. -/
def runesBackSpec : ChangeSpec := { name := "runesBack", fn := fun _ => fun
  | [d1, d2] => { results := [.lit (.bool true)], args := [d1, d2] }
  | _ => none }
def runesBackRow : OpenClaim := { program := "ytabjfpjmiiiecaa", sum := "1c63f3264d1bd54ae8cb127e74f35e7fbdd12c819ddb86e43bd29123c2d24736", func := "posthorn/posthornlaw05.RunesBack", spec := "runesBack", apart := false }
def RunesBackSaid : Prop := runesBackRow.holds Try.pinned (OpenSpec.ofChange runesBackSpec)

/-- ITS FALSE NEIGHBOUR: 'it returns false'. Refute it at one input. -/
def runesBackWrong : ChangeSpec := { name := "runesBack", fn := fun _ => fun
  | [d1, d2] => { results := [.lit (.bool false)], args := [d1, d2] }
  | _ => none }
def RunesBackWrongFalsely : Prop := runesBackRow.holds Try.pinned (OpenSpec.ofChange runesBackWrong)

/-- 'posthornlaw05.RunesThere': WHATEVER THE INPUT: true; the input reads as it did. -/
def runesThereSpec : ChangeSpec := { name := "runesThere", fn := fun _ => fun
  | [d1, d2] => { results := [.lit (.bool true)], args := [d1, d2] }
  | _ => none }
def runesThereRow : OpenClaim := { program := "ytabjfpjmiiiecaa", sum := "1c63f3264d1bd54ae8cb127e74f35e7fbdd12c819ddb86e43bd29123c2d24736", func := "posthorn/posthornlaw05.RunesThere", spec := "runesThere", recurses := true, apart := false }
def RunesThereSaid : Prop := runesThereRow.holds Try.pinned (OpenSpec.ofChange runesThereSpec)

/-- ITS FALSE NEIGHBOUR: 'it returns false'. Refute it at one input. -/
def runesThereWrong : ChangeSpec := { name := "runesThere", fn := fun _ => fun
  | [d1, d2] => { results := [.lit (.bool false)], args := [d1, d2] }
  | _ => none }
def RunesThereWrongFalsely : Prop := runesThereRow.holds Try.pinned (OpenSpec.ofChange runesThereWrong)

/-- 'posthornlaw05.RunesWrites': WHATEVER THE INPUT: true; the input reads as it did. -/
def runesWritesSpec : ChangeSpec := { name := "runesWrites", fn := fun _ => fun
  | [d] => { results := [.lit (.bool true)], args := [d] }
  | _ => none }
def runesWritesRow : OpenClaim := { program := "ytabjfpjmiiiecaa", sum := "1c63f3264d1bd54ae8cb127e74f35e7fbdd12c819ddb86e43bd29123c2d24736", func := "posthorn/posthornlaw05.RunesWrites", spec := "runesWrites", recurses := true, apart := false }
def RunesWritesSaid : Prop := runesWritesRow.holds Try.pinned (OpenSpec.ofChange runesWritesSpec)

/-- ITS FALSE NEIGHBOUR: 'it returns false'. Refute it at one input. -/
def runesWritesWrong : ChangeSpec := { name := "runesWrites", fn := fun _ => fun
  | [d] => { results := [.lit (.bool false)], args := [d] }
  | _ => none }
def RunesWritesWrongFalsely : Prop := runesWritesRow.holds Try.pinned (OpenSpec.ofChange runesWritesWrong)

/-- 'posthornlaw05.RunesCut': WHATEVER THE INPUT: true; the input reads as it did. -/
def runesCutSpec : ChangeSpec := { name := "runesCut", fn := fun _ => fun
  | [d1, d2] => { results := [.lit (.bool true)], args := [d1, d2] }
  | _ => none }
def runesCutRow : OpenClaim := { program := "ytabjfpjmiiiecaa", sum := "1c63f3264d1bd54ae8cb127e74f35e7fbdd12c819ddb86e43bd29123c2d24736", func := "posthorn/posthornlaw05.RunesCut", spec := "runesCut", apart := false }
def RunesCutSaid : Prop := runesCutRow.holds Try.pinned (OpenSpec.ofChange runesCutSpec)

/-- ITS FALSE NEIGHBOUR: 'it returns false'. Refute it at one input. -/
def runesCutWrong : ChangeSpec := { name := "runesCut", fn := fun _ => fun
  | [d1, d2] => { results := [.lit (.bool false)], args := [d1, d2] }
  | _ => none }
def RunesCutWrongFalsely : Prop := runesCutRow.holds Try.pinned (OpenSpec.ofChange runesCutWrong)

/-- 'posthornlaw05.RunesKeeps': WHATEVER THE INPUT: true; the input reads as it did. -/
def runesKeepsSpec : ChangeSpec := { name := "runesKeeps", fn := fun _ => fun
  | [d1, d2, d3, d4, d5] => { results := [.lit (.bool true)], args := [d1, d2, d3, d4, d5] }
  | _ => none }
def runesKeepsRow : OpenClaim := { program := "ytabjfpjmiiiecaa", sum := "1c63f3264d1bd54ae8cb127e74f35e7fbdd12c819ddb86e43bd29123c2d24736", func := "posthorn/posthornlaw05.RunesKeeps", spec := "runesKeeps", recurses := true, apart := false }
def RunesKeepsSaid : Prop := runesKeepsRow.holds Try.pinned (OpenSpec.ofChange runesKeepsSpec)

/-- ITS FALSE NEIGHBOUR: 'it returns false'. Refute it at one input. -/
def runesKeepsWrong : ChangeSpec := { name := "runesKeeps", fn := fun _ => fun
  | [d1, d2, d3, d4, d5] => { results := [.lit (.bool false)], args := [d1, d2, d3, d4, d5] }
  | _ => none }
def RunesKeepsWrongFalsely : Prop := runesKeepsRow.holds Try.pinned (OpenSpec.ofChange runesKeepsWrong)

/- THE SECOND FORM. 'bulk': how many values and letters a reading holds, each counted each time it is reached (what is shared counts as often as it is met; a slice's spare places count too). A statement '..UptoSaid' is the law's where the arguments, and the package variables that the reading takes, are together of bulk at most 1048576: NARROWER than '..Said'. Prove '..Said' where nothing that the law and all that it calls make is longer than what came in: it says more and counts as full. Else prove '..UptoSaid'. A law counts once. -/
mutual
def uptoBulk {H : Type} : DataW H → Nat
  | .lit (.string bytes) => bytes.length + 1
  | .lit _ => 1
  | .nil => 1
  | .ptr d => uptoBulk d + 1
  | .slice elems spare => uptoBulkAll elems + uptoBulkAll spare + 1
  | .agg parts => uptoBulkAll parts + 1
  | .iface _ d => uptoBulk d + 1
  | .map entries => uptoBulkEntries entries + 1
  | .held _ => 1
def uptoBulkAll {H : Type} : List (DataW H) → Nat
  | [] => 0
  | d :: r => uptoBulk d + uptoBulkAll r
def uptoBulkEntries {H : Type} : List (Lit × DataW H) → Nat
  | [] => 0
  | x :: r => uptoBulkEntry x + uptoBulkEntries r
def uptoBulkEntry {H : Type} : Lit × DataW H → Nat
  | (.string bytes, d) => bytes.length + uptoBulk d + 1
  | (_, d) => uptoBulk d + 1
 end
def uptoSmall : (H : Type) → List (DataW H) → Bool := fun _ ds => decide (uptoBulkAll ds ≤ 1048576)
def OpenSpec.upto (s : _root_.Go.ChangeSpec) : _root_.Go.OpenSpec := { _root_.Go.OpenSpec.ofChange s with cond := some uptoSmall }

/-- 'posthornlaw05.RunesKnown', WHERE WHAT IT READS IS OF BULK AT MOST 1048576: true; the input reads as it did. -/
def runesKnownUptoRow : OpenClaim := { program := "ytabjfpjmiiiecaa", sum := "1c63f3264d1bd54ae8cb127e74f35e7fbdd12c819ddb86e43bd29123c2d24736", func := "posthorn/posthornlaw05.RunesKnown", spec := "runesKnown", apart := false, narrowed := true }
def RunesKnownUptoSaid : Prop := runesKnownUptoRow.holds Try.pinned (OpenSpec.upto runesKnownSpec)

/-- 'posthornlaw05.RunesReads', WHERE WHAT IT READS IS OF BULK AT MOST 1048576: true; the input reads as it did. -/
def runesReadsUptoRow : OpenClaim := { program := "ytabjfpjmiiiecaa", sum := "1c63f3264d1bd54ae8cb127e74f35e7fbdd12c819ddb86e43bd29123c2d24736", func := "posthorn/posthornlaw05.RunesReads", spec := "runesReads", apart := false, narrowed := true }
def RunesReadsUptoSaid : Prop := runesReadsUptoRow.holds Try.pinned (OpenSpec.upto runesReadsSpec)

/-- 'posthornlaw05.RunesFeeds', WHERE WHAT IT READS IS OF BULK AT MOST 1048576: true; the input reads as it did. -/
def runesFeedsUptoRow : OpenClaim := { program := "ytabjfpjmiiiecaa", sum := "1c63f3264d1bd54ae8cb127e74f35e7fbdd12c819ddb86e43bd29123c2d24736", func := "posthorn/posthornlaw05.RunesFeeds", spec := "runesFeeds", apart := false, narrowed := true }
def RunesFeedsUptoSaid : Prop := runesFeedsUptoRow.holds Try.pinned (OpenSpec.upto runesFeedsSpec)

/-- 'posthornlaw05.RunesUnpunies', WHERE WHAT IT READS IS OF BULK AT MOST 1048576: true; the input reads as it did. -/
def runesUnpuniesUptoRow : OpenClaim := { program := "ytabjfpjmiiiecaa", sum := "1c63f3264d1bd54ae8cb127e74f35e7fbdd12c819ddb86e43bd29123c2d24736", func := "posthorn/posthornlaw05.RunesUnpunies", spec := "runesUnpunies", apart := false, narrowed := true }
def RunesUnpuniesUptoSaid : Prop := runesUnpuniesUptoRow.holds Try.pinned (OpenSpec.upto runesUnpuniesSpec)

/-- 'posthornlaw05.RunesBack', WHERE WHAT IT READS IS OF BULK AT MOST 1048576: true; the input reads as it did. -/
def runesBackUptoRow : OpenClaim := { program := "ytabjfpjmiiiecaa", sum := "1c63f3264d1bd54ae8cb127e74f35e7fbdd12c819ddb86e43bd29123c2d24736", func := "posthorn/posthornlaw05.RunesBack", spec := "runesBack", apart := false, narrowed := true }
def RunesBackUptoSaid : Prop := runesBackUptoRow.holds Try.pinned (OpenSpec.upto runesBackSpec)

/-- 'posthornlaw05.RunesThere', WHERE WHAT IT READS IS OF BULK AT MOST 1048576: true; the input reads as it did. -/
def runesThereUptoRow : OpenClaim := { program := "ytabjfpjmiiiecaa", sum := "1c63f3264d1bd54ae8cb127e74f35e7fbdd12c819ddb86e43bd29123c2d24736", func := "posthorn/posthornlaw05.RunesThere", spec := "runesThere", recurses := true, apart := false, narrowed := true }
def RunesThereUptoSaid : Prop := runesThereUptoRow.holds Try.pinned (OpenSpec.upto runesThereSpec)

/-- 'posthornlaw05.RunesWrites', WHERE WHAT IT READS IS OF BULK AT MOST 1048576: true; the input reads as it did. -/
def runesWritesUptoRow : OpenClaim := { program := "ytabjfpjmiiiecaa", sum := "1c63f3264d1bd54ae8cb127e74f35e7fbdd12c819ddb86e43bd29123c2d24736", func := "posthorn/posthornlaw05.RunesWrites", spec := "runesWrites", recurses := true, apart := false, narrowed := true }
def RunesWritesUptoSaid : Prop := runesWritesUptoRow.holds Try.pinned (OpenSpec.upto runesWritesSpec)

/-- 'posthornlaw05.RunesCut', WHERE WHAT IT READS IS OF BULK AT MOST 1048576: true; the input reads as it did. -/
def runesCutUptoRow : OpenClaim := { program := "ytabjfpjmiiiecaa", sum := "1c63f3264d1bd54ae8cb127e74f35e7fbdd12c819ddb86e43bd29123c2d24736", func := "posthorn/posthornlaw05.RunesCut", spec := "runesCut", apart := false, narrowed := true }
def RunesCutUptoSaid : Prop := runesCutUptoRow.holds Try.pinned (OpenSpec.upto runesCutSpec)

/-- 'posthornlaw05.RunesKeeps', WHERE WHAT IT READS IS OF BULK AT MOST 1048576: true; the input reads as it did. -/
def runesKeepsUptoRow : OpenClaim := { program := "ytabjfpjmiiiecaa", sum := "1c63f3264d1bd54ae8cb127e74f35e7fbdd12c819ddb86e43bd29123c2d24736", func := "posthorn/posthornlaw05.RunesKeeps", spec := "runesKeeps", recurses := true, apart := false, narrowed := true }
def RunesKeepsUptoSaid : Prop := runesKeepsUptoRow.holds Try.pinned (OpenSpec.upto runesKeepsSpec)

end Rows
end Go.Proofs.Ytabjfpjmiiiecaa
