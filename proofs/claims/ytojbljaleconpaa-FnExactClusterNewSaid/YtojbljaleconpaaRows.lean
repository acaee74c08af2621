/-
  No cell of these rows narrows 'for every input' (looked for: loops, veiled, ifaces, maps, wideKeys, modest, calm, conditions, laid).
  DERIVED. THE GIVEN ROWS OF THIS SEAT. 10 by the template 'for every input the law returns true; each argument reads behind the call as it read before'; 0 by the template 'total and deterministic' (their statements: YtojbljaleconpaaTotals.lean).
  GIVEN WITH THE SEED: the statements are not yours to turn. If you find one false, say at which input.
  Laid BY PROGRAM, IN A SANDBOX (cutbox-rows.mjs): the forced cells as the released guide's own fill.sh prints them over the translation a5cc62df39b5e6f3… (all of the seat's roots in one cut). By AI agents, Wed Nov 11 2026. No macro, syntax, notation, axiom, sorry.
-/
import Derived.Test.YtojbljaleconpaaChecked
import GoSem.Claim
import GoSem.ClaimJoined
import GoSem.ClaimMapViews
import Derived.JoinedTies
import Derived.KernelRfl
namespace Go.Proofs.Ytojbljaleconpaa
/- THE CELL 'sum', in the pinned program and in every row, IS THE sha256 OF THE DUMP (.gsa) THAT YtojbljaleconpaaProg.lean LOADS. Nothing in Lean hashes anything: it is a label: what it is worth is what the hold of that sum in a sandbox is worth. -/
noncomputable def Try.pinned : Pinned := { name := "ytojbljaleconpaa", sum := "a5cc62df39b5e6f3936e2552778c66de2ad4ee64b840f6bcc131eae491ed4332", checked := Try.checked }
namespace Rows
def none {H : Type} : Left H := { results := [], args := [] }

/-- 'laws.FnVecAddFits': WHATEVER THE INPUT: true; the input reads as it did. -/
def fnVecAddFitsSpec : ChangeSpec := { name := "fnVecAddFits", fn := fun _ => fun
  | [d1, d2] => { results := [.lit (.bool true)], args := [d1, d2] }
  | _ => none }
def fnVecAddFitsRow : OpenClaim := { program := "ytojbljaleconpaa", sum := "a5cc62df39b5e6f3936e2552778c66de2ad4ee64b840f6bcc131eae491ed4332", func := "loop.example/vectorpacker/laws.FnVecAddFits", spec := "fnVecAddFits", unfollowed := true, recurses := true, apart := false }
def FnVecAddFitsSaid : Prop := fnVecAddFitsRow.holds Try.pinned (OpenSpec.ofChange fnVecAddFitsSpec)

/-- ITS FALSE NEIGHBOUR: 'it returns false'. Refute it at one input. -/
def fnVecAddFitsWrong : ChangeSpec := { name := "fnVecAddFits", fn := fun _ => fun
  | [d1, d2] => { results := [.lit (.bool false)], args := [d1, d2] }
  | _ => none }
def FnVecAddFitsWrongFalsely : Prop := fnVecAddFitsRow.holds Try.pinned (OpenSpec.ofChange fnVecAddFitsWrong)

/-- 'laws.FnVecAdd': WHATEVER THE INPUT: true; the input reads as it did. -/
def fnVecAddSpec : ChangeSpec := { name := "fnVecAdd", fn := fun _ => fun
  | [d] => { results := [.lit (.bool true)], args := [d] }
  | _ => none }
def fnVecAddRow : OpenClaim := { program := "ytojbljaleconpaa", sum := "a5cc62df39b5e6f3936e2552778c66de2ad4ee64b840f6bcc131eae491ed4332", func := "loop.example/vectorpacker/laws.FnVecAdd", spec := "fnVecAdd", unfollowed := true, recurses := true, apart := false }
def FnVecAddSaid : Prop := fnVecAddRow.holds Try.pinned (OpenSpec.ofChange fnVecAddSpec)

/-- ITS FALSE NEIGHBOUR: 'it returns false'. Refute it at one input. -/
def fnVecAddWrong : ChangeSpec := { name := "fnVecAdd", fn := fun _ => fun
  | [d] => { results := [.lit (.bool false)], args := [d] }
  | _ => none }
def FnVecAddWrongFalsely : Prop := fnVecAddRow.holds Try.pinned (OpenSpec.ofChange fnVecAddWrong)

/-- 'laws.FnVecSub': WHATEVER THE INPUT: true; the input reads as it did. -/
def fnVecSubSpec : ChangeSpec := { name := "fnVecSub", fn := fun _ => fun
  | [d] => { results := [.lit (.bool true)], args := [d] }
  | _ => none }
def fnVecSubRow : OpenClaim := { program := "ytojbljaleconpaa", sum := "a5cc62df39b5e6f3936e2552778c66de2ad4ee64b840f6bcc131eae491ed4332", func := "loop.example/vectorpacker/laws.FnVecSub", spec := "fnVecSub", unfollowed := true, recurses := true, apart := false }
def FnVecSubSaid : Prop := fnVecSubRow.holds Try.pinned (OpenSpec.ofChange fnVecSubSpec)

/-- ITS FALSE NEIGHBOUR: 'it returns false'. Refute it at one input. -/
def fnVecSubWrong : ChangeSpec := { name := "fnVecSub", fn := fun _ => fun
  | [d] => { results := [.lit (.bool false)], args := [d] }
  | _ => none }
def FnVecSubWrongFalsely : Prop := fnVecSubRow.holds Try.pinned (OpenSpec.ofChange fnVecSubWrong)

/-- 'laws.FnExactConstants': WHATEVER THE INPUT: true; the input reads as it did. -/
def fnExactConstantsSpec : ChangeSpec := { name := "fnExactConstants", fn := fun _ => fun
  | [] => { results := [.lit (.bool true)], args := [] }
  | _ => none }
def fnExactConstantsRow : OpenClaim := { program := "ytojbljaleconpaa", sum := "a5cc62df39b5e6f3936e2552778c66de2ad4ee64b840f6bcc131eae491ed4332", func := "loop.example/vectorpacker/laws.FnExactConstants", spec := "fnExactConstants", apart := false }
def FnExactConstantsSaid : Prop := fnExactConstantsRow.holds Try.pinned (OpenSpec.ofChange fnExactConstantsSpec)

/-- ITS FALSE NEIGHBOUR: 'it returns false'. Refute it at one input. -/
def fnExactConstantsWrong : ChangeSpec := { name := "fnExactConstants", fn := fun _ => fun
  | [] => { results := [.lit (.bool false)], args := [] }
  | _ => none }
def FnExactConstantsWrongFalsely : Prop := fnExactConstantsRow.holds Try.pinned (OpenSpec.ofChange fnExactConstantsWrong)

/-- 'laws.FnExactClusterSum': WHATEVER THE INPUT: true; the input reads as it did. -/
def fnExactClusterSumSpec : ChangeSpec := { name := "fnExactClusterSum", fn := fun _ => fun
  | [d] => { results := [.lit (.bool true)], args := [d] }
  | _ => none }
def fnExactClusterSumRow : OpenClaim := { program := "ytojbljaleconpaa", sum := "a5cc62df39b5e6f3936e2552778c66de2ad4ee64b840f6bcc131eae491ed4332", func := "loop.example/vectorpacker/laws.FnExactClusterSum", spec := "fnExactClusterSum", apart := false }
def FnExactClusterSumSaid : Prop := fnExactClusterSumRow.holds Try.pinned (OpenSpec.ofChange fnExactClusterSumSpec)

/-- ITS FALSE NEIGHBOUR: 'it returns false'. Refute it at one input. -/
def fnExactClusterSumWrong : ChangeSpec := { name := "fnExactClusterSum", fn := fun _ => fun
  | [d] => { results := [.lit (.bool false)], args := [d] }
  | _ => none }
def FnExactClusterSumWrongFalsely : Prop := fnExactClusterSumRow.holds Try.pinned (OpenSpec.ofChange fnExactClusterSumWrong)

/-- 'laws.FnExactPairsValid': WHATEVER THE INPUT: true; the input reads as it did. -/
def fnExactPairsValidSpec : ChangeSpec := { name := "fnExactPairsValid", fn := fun _ => fun
  | [d] => { results := [.lit (.bool true)], args := [d] }
  | _ => none }
def fnExactPairsValidRow : OpenClaim := { program := "ytojbljaleconpaa", sum := "a5cc62df39b5e6f3936e2552778c66de2ad4ee64b840f6bcc131eae491ed4332", func := "loop.example/vectorpacker/laws.FnExactPairsValid", spec := "fnExactPairsValid", apart := false }
def FnExactPairsValidSaid : Prop := fnExactPairsValidRow.holds Try.pinned (OpenSpec.ofChange fnExactPairsValidSpec)

/-- ITS FALSE NEIGHBOUR: 'it returns false'. Refute it at one input. -/
def fnExactPairsValidWrong : ChangeSpec := { name := "fnExactPairsValid", fn := fun _ => fun
  | [d] => { results := [.lit (.bool false)], args := [d] }
  | _ => none }
def FnExactPairsValidWrongFalsely : Prop := fnExactPairsValidRow.holds Try.pinned (OpenSpec.ofChange fnExactPairsValidWrong)

/-- 'laws.FnPairsPart': WHATEVER THE INPUT: true; the input reads as it did. -/
def fnPairsPartSpec : ChangeSpec := { name := "fnPairsPart", fn := fun _ => fun
  | [d1, d2] => { results := [.lit (.bool true)], args := [d1, d2] }
  | _ => none }
def fnPairsPartRow : OpenClaim := { program := "ytojbljaleconpaa", sum := "a5cc62df39b5e6f3936e2552778c66de2ad4ee64b840f6bcc131eae491ed4332", func := "loop.example/vectorpacker/laws.FnPairsPart", spec := "fnPairsPart", apart := false }
def FnPairsPartSaid : Prop := fnPairsPartRow.holds Try.pinned (OpenSpec.ofChange fnPairsPartSpec)

/-- ITS FALSE NEIGHBOUR: 'it returns false'. Refute it at one input. -/
def fnPairsPartWrong : ChangeSpec := { name := "fnPairsPart", fn := fun _ => fun
  | [d1, d2] => { results := [.lit (.bool false)], args := [d1, d2] }
  | _ => none }
def FnPairsPartWrongFalsely : Prop := fnPairsPartRow.holds Try.pinned (OpenSpec.ofChange fnPairsPartWrong)

/-- 'laws.FnRequestPart': WHATEVER THE INPUT: true; the input reads as it did. -/
def fnRequestPartSpec : ChangeSpec := { name := "fnRequestPart", fn := fun _ => fun
  | [d] => { results := [.lit (.bool true)], args := [d] }
  | _ => none }
def fnRequestPartRow : OpenClaim := { program := "ytojbljaleconpaa", sum := "a5cc62df39b5e6f3936e2552778c66de2ad4ee64b840f6bcc131eae491ed4332", func := "loop.example/vectorpacker/laws.FnRequestPart", spec := "fnRequestPart", unfollowed := true, recurses := true, apart := false }
def FnRequestPartSaid : Prop := fnRequestPartRow.holds Try.pinned (OpenSpec.ofChange fnRequestPartSpec)

/-- ITS FALSE NEIGHBOUR: 'it returns false'. Refute it at one input. -/
def fnRequestPartWrong : ChangeSpec := { name := "fnRequestPart", fn := fun _ => fun
  | [d] => { results := [.lit (.bool false)], args := [d] }
  | _ => none }
def FnRequestPartWrongFalsely : Prop := fnRequestPartRow.holds Try.pinned (OpenSpec.ofChange fnRequestPartWrong)

/-- 'laws.FnExactRequestValid': WHATEVER THE INPUT: true; the input reads as it did. -/
def fnExactRequestValidSpec : ChangeSpec := { name := "fnExactRequestValid", fn := fun _ => fun
  | [d] => { results := [.lit (.bool true)], args := [d] }
  | _ => none }
def fnExactRequestValidRow : OpenClaim := { program := "ytojbljaleconpaa", sum := "a5cc62df39b5e6f3936e2552778c66de2ad4ee64b840f6bcc131eae491ed4332", func := "loop.example/vectorpacker/laws.FnExactRequestValid", spec := "fnExactRequestValid", unfollowed := true, recurses := true, apart := false }
def FnExactRequestValidSaid : Prop := fnExactRequestValidRow.holds Try.pinned (OpenSpec.ofChange fnExactRequestValidSpec)

/-- ITS FALSE NEIGHBOUR: 'it returns false'. Refute it at one input. -/
def fnExactRequestValidWrong : ChangeSpec := { name := "fnExactRequestValid", fn := fun _ => fun
  | [d] => { results := [.lit (.bool false)], args := [d] }
  | _ => none }
def FnExactRequestValidWrongFalsely : Prop := fnExactRequestValidRow.holds Try.pinned (OpenSpec.ofChange fnExactRequestValidWrong)

/-- 'laws.FnExactClusterNew': WHATEVER THE INPUT: true; the input reads as it did. -/
def fnExactClusterNewSpec : ChangeSpec := { name := "fnExactClusterNew", fn := fun _ => fun
  | [d1, d2] => { results := [.lit (.bool true)], args := [d1, d2] }
  | _ => none }
def fnExactClusterNewRow : OpenClaim := { program := "ytojbljaleconpaa", sum := "a5cc62df39b5e6f3936e2552778c66de2ad4ee64b840f6bcc131eae491ed4332", func := "loop.example/vectorpacker/laws.FnExactClusterNew", spec := "fnExactClusterNew", unfollowed := true, recurses := true, apart := false }
def FnExactClusterNewSaid : Prop := fnExactClusterNewRow.holds Try.pinned (OpenSpec.ofChange fnExactClusterNewSpec)

/-- ITS FALSE NEIGHBOUR: 'it returns false'. Refute it at one input. -/
def fnExactClusterNewWrong : ChangeSpec := { name := "fnExactClusterNew", fn := fun _ => fun
  | [d1, d2] => { results := [.lit (.bool false)], args := [d1, d2] }
  | _ => none }
def FnExactClusterNewWrongFalsely : Prop := fnExactClusterNewRow.holds Try.pinned (OpenSpec.ofChange fnExactClusterNewWrong)

/- THE SECOND FORM. 'bulk': how many values and letters a reading holds, each counted each time it is reached (what is shared counts as often as it is met; a slice's spare places count too). A statement '..UptoSaid' is the law's where the arguments, and the package variables that the reading takes, are together of bulk at most 1048576: NARROWER than '..Said'. Prove '..Said' where nothing that the law and all that it calls make is longer than what came in: it says more and counts as full. Else prove '..UptoSaid'. A law counts once. -/
mutual
def uptoBulk {H : Type} : DataW H → Nat
  | .lit (.string bytes) => bytes.length + 1
  | .lit _ => 1
  | .nil => 1
  | .ptr d => uptoBulk d + 1
  | .slice elems spare => uptoBulkAll elems + uptoBulkAll spare + 1
  | .agg parts => uptoBulkAll parts + 1
  | .iface _ d => uptoBulk d + 1
  | .map entries => uptoBulkEntries entries + 1
  | .held _ => 1
def uptoBulkAll {H : Type} : List (DataW H) → Nat
  | [] => 0
  | d :: r => uptoBulk d + uptoBulkAll r
def uptoBulkEntries {H : Type} : List (Lit × DataW H) → Nat
  | [] => 0
  | x :: r => uptoBulkEntry x + uptoBulkEntries r
def uptoBulkEntry {H : Type} : Lit × DataW H → Nat
  | (.string bytes, d) => bytes.length + uptoBulk d + 1
  | (_, d) => uptoBulk d + 1
 end
def uptoSmall : (H : Type) → List (DataW H) → Bool := fun _ ds => decide (uptoBulkAll ds ≤ 1048576)
def OpenSpec.upto (s : _root_.Go.ChangeSpec) : _root_.Go.OpenSpec := { _root_.Go.OpenSpec.ofChange s with cond := some uptoSmall }

/-- 'laws.FnVecAddFits', WHERE WHAT IT READS IS OF BULK AT MOST 1048576: true; the input reads as it did. -/
def fnVecAddFitsUptoRow : OpenClaim := { program := "ytojbljaleconpaa", sum := "a5cc62df39b5e6f3936e2552778c66de2ad4ee64b840f6bcc131eae491ed4332", func := "loop.example/vectorpacker/laws.FnVecAddFits", spec := "fnVecAddFits", unfollowed := true, recurses := true, apart := false, narrowed := true }
def FnVecAddFitsUptoSaid : Prop := fnVecAddFitsUptoRow.holds Try.pinned (OpenSpec.upto fnVecAddFitsSpec)

/-- 'laws.FnVecAdd', WHERE WHAT IT READS IS OF BULK AT MOST 1048576: true; the input reads as it did. -/
def fnVecAddUptoRow : OpenClaim := { program := "ytojbljaleconpaa", sum := "a5cc62df39b5e6f3936e2552778c66de2ad4ee64b840f6bcc131eae491ed4332", func := "loop.example/vectorpacker/laws.FnVecAdd", spec := "fnVecAdd", unfollowed := true, recurses := true, apart := false, narrowed := true }
def FnVecAddUptoSaid : Prop := fnVecAddUptoRow.holds Try.pinned (OpenSpec.upto fnVecAddSpec)

/-- 'laws.FnVecSub', WHERE WHAT IT READS IS OF BULK AT MOST 1048576: true; the input reads as it did. -/
def fnVecSubUptoRow : OpenClaim := { program := "ytojbljaleconpaa", sum := "a5cc62df39b5e6f3936e2552778c66de2ad4ee64b840f6bcc131eae491ed4332", func := "loop.example/vectorpacker/laws.FnVecSub", spec := "fnVecSub", unfollowed := true, recurses := true, apart := false, narrowed := true }
def FnVecSubUptoSaid : Prop := fnVecSubUptoRow.holds Try.pinned (OpenSpec.upto fnVecSubSpec)

/-- 'laws.FnExactConstants', WHERE WHAT IT READS IS OF BULK AT MOST 1048576: true; the input reads as it did. -/
def fnExactConstantsUptoRow : OpenClaim := { program := "ytojbljaleconpaa", sum := "a5cc62df39b5e6f3936e2552778c66de2ad4ee64b840f6bcc131eae491ed4332", func := "loop.example/vectorpacker/laws.FnExactConstants", spec := "fnExactConstants", apart := false, narrowed := true }
def FnExactConstantsUptoSaid : Prop := fnExactConstantsUptoRow.holds Try.pinned (OpenSpec.upto fnExactConstantsSpec)

/-- 'laws.FnExactClusterSum', WHERE WHAT IT READS IS OF BULK AT MOST 1048576: true; the input reads as it did. -/
def fnExactClusterSumUptoRow : OpenClaim := { program := "ytojbljaleconpaa", sum := "a5cc62df39b5e6f3936e2552778c66de2ad4ee64b840f6bcc131eae491ed4332", func := "loop.example/vectorpacker/laws.FnExactClusterSum", spec := "fnExactClusterSum", apart := false, narrowed := true }
def FnExactClusterSumUptoSaid : Prop := fnExactClusterSumUptoRow.holds Try.pinned (OpenSpec.upto fnExactClusterSumSpec)

/-- 'laws.FnExactPairsValid', WHERE WHAT IT READS IS OF BULK AT MOST 1048576: true; the input reads as it did. -/
def fnExactPairsValidUptoRow : OpenClaim := { program := "ytojbljaleconpaa", sum := "a5cc62df39b5e6f3936e2552778c66de2ad4ee64b840f6bcc131eae491ed4332", func := "loop.example/vectorpacker/laws.FnExactPairsValid", spec := "fnExactPairsValid", apart := false, narrowed := true }
def FnExactPairsValidUptoSaid : Prop := fnExactPairsValidUptoRow.holds Try.pinned (OpenSpec.upto fnExactPairsValidSpec)

/-- 'laws.FnPairsPart', WHERE WHAT IT READS IS OF BULK AT MOST 1048576: true; the input reads as it did. -/
def fnPairsPartUptoRow : OpenClaim := { program := "ytojbljaleconpaa", sum := "a5cc62df39b5e6f3936e2552778c66de2ad4ee64b840f6bcc131eae491ed4332", func := "loop.example/vectorpacker/laws.FnPairsPart", spec := "fnPairsPart", apart := false, narrowed := true }
def FnPairsPartUptoSaid : Prop := fnPairsPartUptoRow.holds Try.pinned (OpenSpec.upto fnPairsPartSpec)

/-- 'laws.FnRequestPart', WHERE WHAT IT READS IS OF BULK AT MOST 1048576: true; the input reads as it did. -/
def fnRequestPartUptoRow : OpenClaim := { program := "ytojbljaleconpaa", sum := "a5cc62df39b5e6f3936e2552778c66de2ad4ee64b840f6bcc131eae491ed4332", func := "loop.example/vectorpacker/laws.FnRequestPart", spec := "fnRequestPart", unfollowed := true, recurses := true, apart := false, narrowed := true }
def FnRequestPartUptoSaid : Prop := fnRequestPartUptoRow.holds Try.pinned (OpenSpec.upto fnRequestPartSpec)

/-- 'laws.FnExactRequestValid', WHERE WHAT IT READS IS OF BULK AT MOST 1048576: true; the input reads as it did. -/
def fnExactRequestValidUptoRow : OpenClaim := { program := "ytojbljaleconpaa", sum := "a5cc62df39b5e6f3936e2552778c66de2ad4ee64b840f6bcc131eae491ed4332", func := "loop.example/vectorpacker/laws.FnExactRequestValid", spec := "fnExactRequestValid", unfollowed := true, recurses := true, apart := false, narrowed := true }
def FnExactRequestValidUptoSaid : Prop := fnExactRequestValidUptoRow.holds Try.pinned (OpenSpec.upto fnExactRequestValidSpec)

/-- 'laws.FnExactClusterNew', WHERE WHAT IT READS IS OF BULK AT MOST 1048576: true; the input reads as it did. -/
def fnExactClusterNewUptoRow : OpenClaim := { program := "ytojbljaleconpaa", sum := "a5cc62df39b5e6f3936e2552778c66de2ad4ee64b840f6bcc131eae491ed4332", func := "loop.example/vectorpacker/laws.FnExactClusterNew", spec := "fnExactClusterNew", unfollowed := true, recurses := true, apart := false, narrowed := true }
def FnExactClusterNewUptoSaid : Prop := fnExactClusterNewUptoRow.holds Try.pinned (OpenSpec.upto fnExactClusterNewSpec)

end Rows
end Go.Proofs.Ytojbljaleconpaa
