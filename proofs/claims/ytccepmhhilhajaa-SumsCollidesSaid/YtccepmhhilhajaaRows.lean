/-
  No cell of these rows narrows 'for every input' (looked for: loops, veiled, ifaces, maps, wideKeys, modest, calm, conditions, laid).
  DERIVED. THE GIVEN ROWS OF THIS SEAT. 11 by the template 'for every input the law returns true; each argument reads behind the call as it read before'; 0 by the template 'total and deterministic' (their statements: YtccepmhhilhajaaTotals.lean).
  GIVEN WITH THE SEED: the statements are not yours to turn. If you find one false, say at which input.
  Laid BY PROGRAM, IN A SANDBOX (cutbox-rows.mjs): the forced cells as the released guide's own fill.sh prints them over the translation cf3cae8873dece54… (all of the seat's roots in one cut). By AI agents, Wed Nov 11 2026. No macro, syntax, notation, axiom, sorry.
-/
import Derived.Test.YtccepmhhilhajaaChecked
import GoSem.Claim
import GoSem.ClaimJoined
import GoSem.ClaimMapViews
import Derived.JoinedTies
import Derived.KernelRfl
namespace Go.Proofs.Ytccepmhhilhajaa
/- THE CELL 'sum', in the pinned program and in every row, IS THE sha256 OF THE DUMP (.gsa) THAT YtccepmhhilhajaaProg.lean LOADS. Nothing in Lean hashes anything: it is a label: what it is worth is what the hold of that sum in a sandbox is worth. -/
noncomputable def Try.pinned : Pinned := { name := "ytccepmhhilhajaa", sum := "cf3cae8873dece5423ce56f68964f8db137ce634c6a90d53e35dc1a1ab93397b", checked := Try.checked }
namespace Rows
def none {H : Type} : Left H := { results := [], args := [] }

/-- 'archivoltlaw02.SumsRolls': WHATEVER THE INPUT: true; the input reads as it did. -/
def sumsRollsSpec : ChangeSpec := { name := "sumsRolls", fn := fun _ => fun
  | [d1, d2, d3, d4, d5] => { results := [.lit (.bool true)], args := [d1, d2, d3, d4, d5] }
  | _ => none }
def sumsRollsRow : OpenClaim := { program := "ytccepmhhilhajaa", sum := "cf3cae8873dece5423ce56f68964f8db137ce634c6a90d53e35dc1a1ab93397b", func := "archivolt/archivoltlaw02.SumsRolls", spec := "sumsRolls", unfollowed := true, recurses := true, apart := false }
def SumsRollsSaid : Prop := sumsRollsRow.holds Try.pinned (OpenSpec.ofChange sumsRollsSpec)

/-- ITS FALSE NEIGHBOUR: 'it returns false'. Refute it at one input. -/
def sumsRollsWrong : ChangeSpec := { name := "sumsRolls", fn := fun _ => fun
  | [d1, d2, d3, d4, d5] => { results := [.lit (.bool false)], args := [d1, d2, d3, d4, d5] }
  | _ => none }
def SumsRollsWrongFalsely : Prop := sumsRollsRow.holds Try.pinned (OpenSpec.ofChange sumsRollsWrong)

/-- 'archivoltlaw02.SumsTrees': WHATEVER THE INPUT: true; the input reads as it did. -/
def sumsTreesSpec : ChangeSpec := { name := "sumsTrees", fn := fun _ => fun
  | [d1, d2, d3, d4, d5, d6] => { results := [.lit (.bool true)], args := [d1, d2, d3, d4, d5, d6] }
  | _ => none }
def sumsTreesRow : OpenClaim := { program := "ytccepmhhilhajaa", sum := "cf3cae8873dece5423ce56f68964f8db137ce634c6a90d53e35dc1a1ab93397b", func := "archivolt/archivoltlaw02.SumsTrees", spec := "sumsTrees", unfollowed := true, recurses := true, apart := false }
def SumsTreesSaid : Prop := sumsTreesRow.holds Try.pinned (OpenSpec.ofChange sumsTreesSpec)

/-- ITS FALSE NEIGHBOUR: 'it returns false'. Refute it at one input. -/
def sumsTreesWrong : ChangeSpec := { name := "sumsTrees", fn := fun _ => fun
  | [d1, d2, d3, d4, d5, d6] => { results := [.lit (.bool false)], args := [d1, d2, d3, d4, d5, d6] }
  | _ => none }
def SumsTreesWrongFalsely : Prop := sumsTreesRow.holds Try.pinned (OpenSpec.ofChange sumsTreesWrong)

/-- 'archivoltlaw02.SumsBursts': WHATEVER THE INPUT: true; the input reads as it did. -/
def sumsBurstsSpec : ChangeSpec := { name := "sumsBursts", fn := fun _ => fun
  | [d1, d2, d3] => { results := [.lit (.bool true)], args := [d1, d2, d3] }
  | _ => none }
def sumsBurstsRow : OpenClaim := { program := "ytccepmhhilhajaa", sum := "cf3cae8873dece5423ce56f68964f8db137ce634c6a90d53e35dc1a1ab93397b", func := "archivolt/archivoltlaw02.SumsBursts", spec := "sumsBursts", unfollowed := true, recurses := true, apart := false }
def SumsBurstsSaid : Prop := sumsBurstsRow.holds Try.pinned (OpenSpec.ofChange sumsBurstsSpec)

/-- ITS FALSE NEIGHBOUR: 'it returns false'. Refute it at one input. -/
def sumsBurstsWrong : ChangeSpec := { name := "sumsBursts", fn := fun _ => fun
  | [d1, d2, d3] => { results := [.lit (.bool false)], args := [d1, d2, d3] }
  | _ => none }
def SumsBurstsWrongFalsely : Prop := sumsBurstsRow.holds Try.pinned (OpenSpec.ofChange sumsBurstsWrong)

/-- 'archivoltlaw02.SumsSlides': WHATEVER THE INPUT: true; the input reads as it did. -/
def sumsSlidesSpec : ChangeSpec := { name := "sumsSlides", fn := fun _ => fun
  | [d1, d2] => { results := [.lit (.bool true)], args := [d1, d2] }
  | _ => none }
def sumsSlidesRow : OpenClaim := { program := "ytccepmhhilhajaa", sum := "cf3cae8873dece5423ce56f68964f8db137ce634c6a90d53e35dc1a1ab93397b", func := "archivolt/archivoltlaw02.SumsSlides", spec := "sumsSlides", unfollowed := true, recurses := true, apart := false }
def SumsSlidesSaid : Prop := sumsSlidesRow.holds Try.pinned (OpenSpec.ofChange sumsSlidesSpec)

/-- ITS FALSE NEIGHBOUR: 'it returns false'. Refute it at one input. -/
def sumsSlidesWrong : ChangeSpec := { name := "sumsSlides", fn := fun _ => fun
  | [d1, d2] => { results := [.lit (.bool false)], args := [d1, d2] }
  | _ => none }
def SumsSlidesWrongFalsely : Prop := sumsSlidesRow.holds Try.pinned (OpenSpec.ofChange sumsSlidesWrong)

/-- 'archivoltlaw02.SumsStreams': WHATEVER THE INPUT: true; the input reads as it did. -/
def sumsStreamsSpec : ChangeSpec := { name := "sumsStreams", fn := fun _ => fun
  | [d] => { results := [.lit (.bool true)], args := [d] }
  | _ => none }
def sumsStreamsRow : OpenClaim := { program := "ytccepmhhilhajaa", sum := "cf3cae8873dece5423ce56f68964f8db137ce634c6a90d53e35dc1a1ab93397b", func := "archivolt/archivoltlaw02.SumsStreams", spec := "sumsStreams", unfollowed := true, recurses := true, apart := false }
def SumsStreamsSaid : Prop := sumsStreamsRow.holds Try.pinned (OpenSpec.ofChange sumsStreamsSpec)

/-- ITS FALSE NEIGHBOUR: 'it returns false'. Refute it at one input. -/
def sumsStreamsWrong : ChangeSpec := { name := "sumsStreams", fn := fun _ => fun
  | [d] => { results := [.lit (.bool false)], args := [d] }
  | _ => none }
def SumsStreamsWrongFalsely : Prop := sumsStreamsRow.holds Try.pinned (OpenSpec.ofChange sumsStreamsWrong)

/-- 'archivoltlaw02.SumsProofs': WHATEVER THE INPUT: true; the input reads as it did. -/
def sumsProofsSpec : ChangeSpec := { name := "sumsProofs", fn := fun _ => fun
  | [d1, d2, d3] => { results := [.lit (.bool true)], args := [d1, d2, d3] }
  | _ => none }
def sumsProofsRow : OpenClaim := { program := "ytccepmhhilhajaa", sum := "cf3cae8873dece5423ce56f68964f8db137ce634c6a90d53e35dc1a1ab93397b", func := "archivolt/archivoltlaw02.SumsProofs", spec := "sumsProofs", unfollowed := true, recurses := true, apart := false }
def SumsProofsSaid : Prop := sumsProofsRow.holds Try.pinned (OpenSpec.ofChange sumsProofsSpec)

/-- ITS FALSE NEIGHBOUR: 'it returns false'. Refute it at one input. -/
def sumsProofsWrong : ChangeSpec := { name := "sumsProofs", fn := fun _ => fun
  | [d1, d2, d3] => { results := [.lit (.bool false)], args := [d1, d2, d3] }
  | _ => none }
def SumsProofsWrongFalsely : Prop := sumsProofsRow.holds Try.pinned (OpenSpec.ofChange sumsProofsWrong)

/-- 'archivoltlaw02.SumsBijection': WHATEVER THE INPUT: true; the input reads as it did. -/
def sumsBijectionSpec : ChangeSpec := { name := "sumsBijection", fn := fun _ => fun
  | [d] => { results := [.lit (.bool true)], args := [d] }
  | _ => none }
def sumsBijectionRow : OpenClaim := { program := "ytccepmhhilhajaa", sum := "cf3cae8873dece5423ce56f68964f8db137ce634c6a90d53e35dc1a1ab93397b", func := "archivolt/archivoltlaw02.SumsBijection", spec := "sumsBijection", unfollowed := true, recurses := true, apart := false }
def SumsBijectionSaid : Prop := sumsBijectionRow.holds Try.pinned (OpenSpec.ofChange sumsBijectionSpec)

/-- ITS FALSE NEIGHBOUR: 'it returns false'. Refute it at one input. -/
def sumsBijectionWrong : ChangeSpec := { name := "sumsBijection", fn := fun _ => fun
  | [d] => { results := [.lit (.bool false)], args := [d] }
  | _ => none }
def SumsBijectionWrongFalsely : Prop := sumsBijectionRow.holds Try.pinned (OpenSpec.ofChange sumsBijectionWrong)

/-- 'archivoltlaw02.SumsCollides': WHATEVER THE INPUT: true; the input reads as it did. -/
def sumsCollidesSpec : ChangeSpec := { name := "sumsCollides", fn := fun _ => fun
  | [d1, d2, d3, d4, d5, d6] => { results := [.lit (.bool true)], args := [d1, d2, d3, d4, d5, d6] }
  | _ => none }
def sumsCollidesRow : OpenClaim := { program := "ytccepmhhilhajaa", sum := "cf3cae8873dece5423ce56f68964f8db137ce634c6a90d53e35dc1a1ab93397b", func := "archivolt/archivoltlaw02.SumsCollides", spec := "sumsCollides", unfollowed := true, recurses := true, apart := false }
def SumsCollidesSaid : Prop := sumsCollidesRow.holds Try.pinned (OpenSpec.ofChange sumsCollidesSpec)

/-- ITS FALSE NEIGHBOUR: 'it returns false'. Refute it at one input. -/
def sumsCollidesWrong : ChangeSpec := { name := "sumsCollides", fn := fun _ => fun
  | [d1, d2, d3, d4, d5, d6] => { results := [.lit (.bool false)], args := [d1, d2, d3, d4, d5, d6] }
  | _ => none }
def SumsCollidesWrongFalsely : Prop := sumsCollidesRow.holds Try.pinned (OpenSpec.ofChange sumsCollidesWrong)

/-- 'archivoltlaw02.SumsBinding': WHATEVER THE INPUT: true; the input reads as it did. -/
def sumsBindingSpec : ChangeSpec := { name := "sumsBinding", fn := fun _ => fun
  | [d1, d2, d3, d4, d5, d6] => { results := [.lit (.bool true)], args := [d1, d2, d3, d4, d5, d6] }
  | _ => none }
def sumsBindingRow : OpenClaim := { program := "ytccepmhhilhajaa", sum := "cf3cae8873dece5423ce56f68964f8db137ce634c6a90d53e35dc1a1ab93397b", func := "archivolt/archivoltlaw02.SumsBinding", spec := "sumsBinding", unfollowed := true, recurses := true, apart := false }
def SumsBindingSaid : Prop := sumsBindingRow.holds Try.pinned (OpenSpec.ofChange sumsBindingSpec)

/-- ITS FALSE NEIGHBOUR: 'it returns false'. Refute it at one input. -/
def sumsBindingWrong : ChangeSpec := { name := "sumsBinding", fn := fun _ => fun
  | [d1, d2, d3, d4, d5, d6] => { results := [.lit (.bool false)], args := [d1, d2, d3, d4, d5, d6] }
  | _ => none }
def SumsBindingWrongFalsely : Prop := sumsBindingRow.holds Try.pinned (OpenSpec.ofChange sumsBindingWrong)

/-- 'archivoltlaw02.SumsCrc': WHATEVER THE INPUT: true; the input reads as it did. -/
def sumsCrcSpec : ChangeSpec := { name := "sumsCrc", fn := fun _ => fun
  | [d1, d2, d3, d4] => { results := [.lit (.bool true)], args := [d1, d2, d3, d4] }
  | _ => none }
def sumsCrcRow : OpenClaim := { program := "ytccepmhhilhajaa", sum := "cf3cae8873dece5423ce56f68964f8db137ce634c6a90d53e35dc1a1ab93397b", func := "archivolt/archivoltlaw02.SumsCrc", spec := "sumsCrc", unfollowed := true, recurses := true, apart := false }
def SumsCrcSaid : Prop := sumsCrcRow.holds Try.pinned (OpenSpec.ofChange sumsCrcSpec)

/-- ITS FALSE NEIGHBOUR: 'it returns false'. Refute it at one input. -/
def sumsCrcWrong : ChangeSpec := { name := "sumsCrc", fn := fun _ => fun
  | [d1, d2, d3, d4] => { results := [.lit (.bool false)], args := [d1, d2, d3, d4] }
  | _ => none }
def SumsCrcWrongFalsely : Prop := sumsCrcRow.holds Try.pinned (OpenSpec.ofChange sumsCrcWrong)

/-- 'archivoltlaw02.SumsJoined': WHATEVER THE INPUT: true; the input reads as it did. -/
def sumsJoinedSpec : ChangeSpec := { name := "sumsJoined", fn := fun _ => fun
  | [d1, d2, d3, d4, d5, d6, d7] => { results := [.lit (.bool true)], args := [d1, d2, d3, d4, d5, d6, d7] }
  | _ => none }
def sumsJoinedRow : OpenClaim := { program := "ytccepmhhilhajaa", sum := "cf3cae8873dece5423ce56f68964f8db137ce634c6a90d53e35dc1a1ab93397b", func := "archivolt/archivoltlaw02.SumsJoined", spec := "sumsJoined", unfollowed := true, recurses := true, apart := false }
def SumsJoinedSaid : Prop := sumsJoinedRow.holds Try.pinned (OpenSpec.ofChange sumsJoinedSpec)

/-- ITS FALSE NEIGHBOUR: 'it returns false'. Refute it at one input. -/
def sumsJoinedWrong : ChangeSpec := { name := "sumsJoined", fn := fun _ => fun
  | [d1, d2, d3, d4, d5, d6, d7] => { results := [.lit (.bool false)], args := [d1, d2, d3, d4, d5, d6, d7] }
  | _ => none }
def SumsJoinedWrongFalsely : Prop := sumsJoinedRow.holds Try.pinned (OpenSpec.ofChange sumsJoinedWrong)

/- THE SECOND FORM. 'bulk': how many values and letters a reading holds, each counted each time it is reached (what is shared counts as often as it is met; a slice's spare places count too). A statement '..UptoSaid' is the law's where the arguments, and the package variables that the reading takes, are together of bulk at most 1048576: NARROWER than '..Said'. Prove '..Said' where nothing that the law and all that it calls make is longer than what came in: it says more and counts as full. Else prove '..UptoSaid'. A law counts once. -/
mutual
def uptoBulk {H : Type} : DataW H → Nat
  | .lit (.string bytes) => bytes.length + 1
  | .lit _ => 1
  | .nil => 1
  | .ptr d => uptoBulk d + 1
  | .slice elems spare => uptoBulkAll elems + uptoBulkAll spare + 1
  | .agg parts => uptoBulkAll parts + 1
  | .iface _ d => uptoBulk d + 1
  | .map entries => uptoBulkEntries entries + 1
  | .held _ => 1
def uptoBulkAll {H : Type} : List (DataW H) → Nat
  | [] => 0
  | d :: r => uptoBulk d + uptoBulkAll r
def uptoBulkEntries {H : Type} : List (Lit × DataW H) → Nat
  | [] => 0
  | x :: r => uptoBulkEntry x + uptoBulkEntries r
def uptoBulkEntry {H : Type} : Lit × DataW H → Nat
  | (.string bytes, d) => bytes.length + uptoBulk d + 1
  | (_, d) => uptoBulk d + 1
 end
def uptoSmall : (H : Type) → List (DataW H) → Bool := fun _ ds => decide (uptoBulkAll ds ≤ 1048576)
def OpenSpec.upto (s : _root_.Go.ChangeSpec) : _root_.Go.OpenSpec := { _root_.Go.OpenSpec.ofChange s with cond := some uptoSmall }

/-- 'archivoltlaw02.SumsRolls', WHERE WHAT IT READS IS OF BULK AT MOST 1048576: true; the input reads as it did. -/
def sumsRollsUptoRow : OpenClaim := { program := "ytccepmhhilhajaa", sum := "cf3cae8873dece5423ce56f68964f8db137ce634c6a90d53e35dc1a1ab93397b", func := "archivolt/archivoltlaw02.SumsRolls", spec := "sumsRolls", unfollowed := true, recurses := true, apart := false, narrowed := true }
def SumsRollsUptoSaid : Prop := sumsRollsUptoRow.holds Try.pinned (OpenSpec.upto sumsRollsSpec)

/-- 'archivoltlaw02.SumsTrees', WHERE WHAT IT READS IS OF BULK AT MOST 1048576: true; the input reads as it did. -/
def sumsTreesUptoRow : OpenClaim := { program := "ytccepmhhilhajaa", sum := "cf3cae8873dece5423ce56f68964f8db137ce634c6a90d53e35dc1a1ab93397b", func := "archivolt/archivoltlaw02.SumsTrees", spec := "sumsTrees", unfollowed := true, recurses := true, apart := false, narrowed := true }
def SumsTreesUptoSaid : Prop := sumsTreesUptoRow.holds Try.pinned (OpenSpec.upto sumsTreesSpec)

/-- 'archivoltlaw02.SumsBursts', WHERE WHAT IT READS IS OF BULK AT MOST 1048576: true; the input reads as it did. -/
def sumsBurstsUptoRow : OpenClaim := { program := "ytccepmhhilhajaa", sum := "cf3cae8873dece5423ce56f68964f8db137ce634c6a90d53e35dc1a1ab93397b", func := "archivolt/archivoltlaw02.SumsBursts", spec := "sumsBursts", unfollowed := true, recurses := true, apart := false, narrowed := true }
def SumsBurstsUptoSaid : Prop := sumsBurstsUptoRow.holds Try.pinned (OpenSpec.upto sumsBurstsSpec)

/-- 'archivoltlaw02.SumsSlides', WHERE WHAT IT READS IS OF BULK AT MOST 1048576: true; the input reads as it did. -/
def sumsSlidesUptoRow : OpenClaim := { program := "ytccepmhhilhajaa", sum := "cf3cae8873dece5423ce56f68964f8db137ce634c6a90d53e35dc1a1ab93397b", func := "archivolt/archivoltlaw02.SumsSlides", spec := "sumsSlides", unfollowed := true, recurses := true, apart := false, narrowed := true }
def SumsSlidesUptoSaid : Prop := sumsSlidesUptoRow.holds Try.pinned (OpenSpec.upto sumsSlidesSpec)

/-- 'archivoltlaw02.SumsStreams', WHERE WHAT IT READS IS OF BULK AT MOST 1048576: true; the input reads as it did. -/
def sumsStreamsUptoRow : OpenClaim := { program := "ytccepmhhilhajaa", sum := "cf3cae8873dece5423ce56f68964f8db137ce634c6a90d53e35dc1a1ab93397b", func := "archivolt/archivoltlaw02.SumsStreams", spec := "sumsStreams", unfollowed := true, recurses := true, apart := false, narrowed := true }
def SumsStreamsUptoSaid : Prop := sumsStreamsUptoRow.holds Try.pinned (OpenSpec.upto sumsStreamsSpec)

/-- 'archivoltlaw02.SumsProofs', WHERE WHAT IT READS IS OF BULK AT MOST 1048576: true; the input reads as it did. -/
def sumsProofsUptoRow : OpenClaim := { program := "ytccepmhhilhajaa", sum := "cf3cae8873dece5423ce56f68964f8db137ce634c6a90d53e35dc1a1ab93397b", func := "archivolt/archivoltlaw02.SumsProofs", spec := "sumsProofs", unfollowed := true, recurses := true, apart := false, narrowed := true }
def SumsProofsUptoSaid : Prop := sumsProofsUptoRow.holds Try.pinned (OpenSpec.upto sumsProofsSpec)

/-- 'archivoltlaw02.SumsBijection', WHERE WHAT IT READS IS OF BULK AT MOST 1048576: true; the input reads as it did. -/
def sumsBijectionUptoRow : OpenClaim := { program := "ytccepmhhilhajaa", sum := "cf3cae8873dece5423ce56f68964f8db137ce634c6a90d53e35dc1a1ab93397b", func := "archivolt/archivoltlaw02.SumsBijection", spec := "sumsBijection", unfollowed := true, recurses := true, apart := false, narrowed := true }
def SumsBijectionUptoSaid : Prop := sumsBijectionUptoRow.holds Try.pinned (OpenSpec.upto sumsBijectionSpec)

/-- 'archivoltlaw02.SumsCollides', WHERE WHAT IT READS IS OF BULK AT MOST 1048576: true; the input reads as it did. -/
def sumsCollidesUptoRow : OpenClaim := { program := "ytccepmhhilhajaa", sum := "cf3cae8873dece5423ce56f68964f8db137ce634c6a90d53e35dc1a1ab93397b", func := "archivolt/archivoltlaw02.SumsCollides", spec := "sumsCollides", unfollowed := true, recurses := true, apart := false, narrowed := true }
def SumsCollidesUptoSaid : Prop := sumsCollidesUptoRow.holds Try.pinned (OpenSpec.upto sumsCollidesSpec)

/-- 'archivoltlaw02.SumsBinding', WHERE WHAT IT READS IS OF BULK AT MOST 1048576: true; the input reads as it did. -/
def sumsBindingUptoRow : OpenClaim := { program := "ytccepmhhilhajaa", sum := "cf3cae8873dece5423ce56f68964f8db137ce634c6a90d53e35dc1a1ab93397b", func := "archivolt/archivoltlaw02.SumsBinding", spec := "sumsBinding", unfollowed := true, recurses := true, apart := false, narrowed := true }
def SumsBindingUptoSaid : Prop := sumsBindingUptoRow.holds Try.pinned (OpenSpec.upto sumsBindingSpec)

/-- 'archivoltlaw02.SumsCrc', WHERE WHAT IT READS IS OF BULK AT MOST 1048576: true; the input reads as it did. -/
def sumsCrcUptoRow : OpenClaim := { program := "ytccepmhhilhajaa", sum := "cf3cae8873dece5423ce56f68964f8db137ce634c6a90d53e35dc1a1ab93397b", func := "archivolt/archivoltlaw02.SumsCrc", spec := "sumsCrc", unfollowed := true, recurses := true, apart := false, narrowed := true }
def SumsCrcUptoSaid : Prop := sumsCrcUptoRow.holds Try.pinned (OpenSpec.upto sumsCrcSpec)

/-- 'archivoltlaw02.SumsJoined', WHERE WHAT IT READS IS OF BULK AT MOST 1048576: true; the input reads as it did. -/
def sumsJoinedUptoRow : OpenClaim := { program := "ytccepmhhilhajaa", sum := "cf3cae8873dece5423ce56f68964f8db137ce634c6a90d53e35dc1a1ab93397b", func := "archivolt/archivoltlaw02.SumsJoined", spec := "sumsJoined", unfollowed := true, recurses := true, apart := false, narrowed := true }
def SumsJoinedUptoSaid : Prop := sumsJoinedUptoRow.holds Try.pinned (OpenSpec.upto sumsJoinedSpec)

end Rows
end Go.Proofs.Ytccepmhhilhajaa
