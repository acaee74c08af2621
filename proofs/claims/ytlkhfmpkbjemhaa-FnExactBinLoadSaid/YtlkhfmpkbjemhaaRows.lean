/-
  No cell of these rows narrows 'for every input' (looked for: loops, veiled, ifaces, maps, wideKeys, modest, calm, conditions, laid).
  DERIVED. THE GIVEN ROWS OF THIS SEAT. 11 by the template 'for every input the law returns true; each argument reads behind the call as it read before'; 0 by the template 'total and deterministic' (their statements: YtlkhfmpkbjemhaaTotals.lean).
  GIVEN WITH THE SEED: the statements are not yours to turn. If you find one false, say at which input.
  Laid BY PROGRAM, IN A SANDBOX (cutbox-rows.mjs): the forced cells as the released guide's own fill.sh prints them over the translation d3edf93dc95dcb74… (all of the seat's roots in one cut). By AI agents, Wed Nov 11 2026. No macro, syntax, notation, axiom, sorry.
-/
import Derived.Test.YtlkhfmpkbjemhaaChecked
import GoSem.Claim
import GoSem.ClaimJoined
import GoSem.ClaimMapViews
import Derived.JoinedTies
import Derived.KernelRfl
namespace Go.Proofs.Ytlkhfmpkbjemhaa
/- THE CELL 'sum', in the pinned program and in every row, IS THE sha256 OF THE DUMP (.gsa) THAT YtlkhfmpkbjemhaaProg.lean LOADS. Nothing in Lean hashes anything: it is a label: what it is worth is what the hold of that sum in a sandbox is worth. -/
noncomputable def Try.pinned : Pinned := { name := "ytlkhfmpkbjemhaa", sum := "d3edf93dc95dcb744fa10cbe79f7771f9de85cf49cd675142074b4ea46b9276d", checked := Try.checked }
namespace Rows
def none {H : Type} : Left H := { results := [], args := [] }

/-- 'laws.FnApartBins': WHATEVER THE INPUT: true; the input reads as it did. -/
def fnApartBinsSpec : ChangeSpec := { name := "fnApartBins", fn := fun _ => fun
  | [d] => { results := [.lit (.bool true)], args := [d] }
  | _ => none }
def fnApartBinsRow : OpenClaim := { program := "ytlkhfmpkbjemhaa", sum := "d3edf93dc95dcb744fa10cbe79f7771f9de85cf49cd675142074b4ea46b9276d", func := "loop.example/vectorpacker/laws.FnApartBins", spec := "fnApartBins", unfollowed := true, recurses := true, apart := false }
def FnApartBinsSaid : Prop := fnApartBinsRow.holds Try.pinned (OpenSpec.ofChange fnApartBinsSpec)

/-- ITS FALSE NEIGHBOUR: 'it returns false'. Refute it at one input. -/
def fnApartBinsWrong : ChangeSpec := { name := "fnApartBins", fn := fun _ => fun
  | [d] => { results := [.lit (.bool false)], args := [d] }
  | _ => none }
def FnApartBinsWrongFalsely : Prop := fnApartBinsRow.holds Try.pinned (OpenSpec.ofChange fnApartBinsWrong)

/-- 'laws.FnApart': WHATEVER THE INPUT: true; the input reads as it did. -/
def fnApartSpec : ChangeSpec := { name := "fnApart", fn := fun _ => fun
  | [d] => { results := [.lit (.bool true)], args := [d] }
  | _ => none }
def fnApartRow : OpenClaim := { program := "ytlkhfmpkbjemhaa", sum := "d3edf93dc95dcb744fa10cbe79f7771f9de85cf49cd675142074b4ea46b9276d", func := "loop.example/vectorpacker/laws.FnApart", spec := "fnApart", unfollowed := true, recurses := true, apart := false }
def FnApartSaid : Prop := fnApartRow.holds Try.pinned (OpenSpec.ofChange fnApartSpec)

/-- ITS FALSE NEIGHBOUR: 'it returns false'. Refute it at one input. -/
def fnApartWrong : ChangeSpec := { name := "fnApart", fn := fun _ => fun
  | [d] => { results := [.lit (.bool false)], args := [d] }
  | _ => none }
def FnApartWrongFalsely : Prop := fnApartRow.holds Try.pinned (OpenSpec.ofChange fnApartWrong)

/-- 'laws.FnBoundSumMore': WHATEVER THE INPUT: true; the input reads as it did. -/
def fnBoundSumMoreSpec : ChangeSpec := { name := "fnBoundSumMore", fn := fun _ => fun
  | [d1, d2] => { results := [.lit (.bool true)], args := [d1, d2] }
  | _ => none }
def fnBoundSumMoreRow : OpenClaim := { program := "ytlkhfmpkbjemhaa", sum := "d3edf93dc95dcb744fa10cbe79f7771f9de85cf49cd675142074b4ea46b9276d", func := "loop.example/vectorpacker/laws.FnBoundSumMore", spec := "fnBoundSumMore", unfollowed := true, recurses := true, apart := false }
def FnBoundSumMoreSaid : Prop := fnBoundSumMoreRow.holds Try.pinned (OpenSpec.ofChange fnBoundSumMoreSpec)

/-- ITS FALSE NEIGHBOUR: 'it returns false'. Refute it at one input. -/
def fnBoundSumMoreWrong : ChangeSpec := { name := "fnBoundSumMore", fn := fun _ => fun
  | [d1, d2] => { results := [.lit (.bool false)], args := [d1, d2] }
  | _ => none }
def FnBoundSumMoreWrongFalsely : Prop := fnBoundSumMoreRow.holds Try.pinned (OpenSpec.ofChange fnBoundSumMoreWrong)

/-- 'laws.FnExactBoundApart': WHATEVER THE INPUT: true; the input reads as it did. -/
def fnExactBoundApartSpec : ChangeSpec := { name := "fnExactBoundApart", fn := fun _ => fun
  | [d1, d2] => { results := [.lit (.bool true)], args := [d1, d2] }
  | _ => none }
def fnExactBoundApartRow : OpenClaim := { program := "ytlkhfmpkbjemhaa", sum := "d3edf93dc95dcb744fa10cbe79f7771f9de85cf49cd675142074b4ea46b9276d", func := "loop.example/vectorpacker/laws.FnExactBoundApart", spec := "fnExactBoundApart", unfollowed := true, recurses := true, apart := false }
def FnExactBoundApartSaid : Prop := fnExactBoundApartRow.holds Try.pinned (OpenSpec.ofChange fnExactBoundApartSpec)

/-- ITS FALSE NEIGHBOUR: 'it returns false'. Refute it at one input. -/
def fnExactBoundApartWrong : ChangeSpec := { name := "fnExactBoundApart", fn := fun _ => fun
  | [d1, d2] => { results := [.lit (.bool false)], args := [d1, d2] }
  | _ => none }
def FnExactBoundApartWrongFalsely : Prop := fnExactBoundApartRow.holds Try.pinned (OpenSpec.ofChange fnExactBoundApartWrong)

/-- 'laws.FnExactTasksSum': WHATEVER THE INPUT: true; the input reads as it did. -/
def fnExactTasksSumSpec : ChangeSpec := { name := "fnExactTasksSum", fn := fun _ => fun
  | [d1, d2] => { results := [.lit (.bool true)], args := [d1, d2] }
  | _ => none }
def fnExactTasksSumRow : OpenClaim := { program := "ytlkhfmpkbjemhaa", sum := "d3edf93dc95dcb744fa10cbe79f7771f9de85cf49cd675142074b4ea46b9276d", func := "loop.example/vectorpacker/laws.FnExactTasksSum", spec := "fnExactTasksSum", unfollowed := true, recurses := true, apart := false }
def FnExactTasksSumSaid : Prop := fnExactTasksSumRow.holds Try.pinned (OpenSpec.ofChange fnExactTasksSumSpec)

/-- ITS FALSE NEIGHBOUR: 'it returns false'. Refute it at one input. -/
def fnExactTasksSumWrong : ChangeSpec := { name := "fnExactTasksSum", fn := fun _ => fun
  | [d1, d2] => { results := [.lit (.bool false)], args := [d1, d2] }
  | _ => none }
def FnExactTasksSumWrongFalsely : Prop := fnExactTasksSumRow.holds Try.pinned (OpenSpec.ofChange fnExactTasksSumWrong)

/-- 'laws.FnBoundSum': WHATEVER THE INPUT: true; the input reads as it did. -/
def fnBoundSumSpec : ChangeSpec := { name := "fnBoundSum", fn := fun _ => fun
  | [d] => { results := [.lit (.bool true)], args := [d] }
  | _ => none }
def fnBoundSumRow : OpenClaim := { program := "ytlkhfmpkbjemhaa", sum := "d3edf93dc95dcb744fa10cbe79f7771f9de85cf49cd675142074b4ea46b9276d", func := "loop.example/vectorpacker/laws.FnBoundSum", spec := "fnBoundSum", unfollowed := true, recurses := true, apart := false }
def FnBoundSumSaid : Prop := fnBoundSumRow.holds Try.pinned (OpenSpec.ofChange fnBoundSumSpec)

/-- ITS FALSE NEIGHBOUR: 'it returns false'. Refute it at one input. -/
def fnBoundSumWrong : ChangeSpec := { name := "fnBoundSum", fn := fun _ => fun
  | [d] => { results := [.lit (.bool false)], args := [d] }
  | _ => none }
def FnBoundSumWrongFalsely : Prop := fnBoundSumRow.holds Try.pinned (OpenSpec.ofChange fnBoundSumWrong)

/-- 'laws.FnExactBoundSum': WHATEVER THE INPUT: true; the input reads as it did. -/
def fnExactBoundSumSpec : ChangeSpec := { name := "fnExactBoundSum", fn := fun _ => fun
  | [d1, d2] => { results := [.lit (.bool true)], args := [d1, d2] }
  | _ => none }
def fnExactBoundSumRow : OpenClaim := { program := "ytlkhfmpkbjemhaa", sum := "d3edf93dc95dcb744fa10cbe79f7771f9de85cf49cd675142074b4ea46b9276d", func := "loop.example/vectorpacker/laws.FnExactBoundSum", spec := "fnExactBoundSum", unfollowed := true, recurses := true, apart := false }
def FnExactBoundSumSaid : Prop := fnExactBoundSumRow.holds Try.pinned (OpenSpec.ofChange fnExactBoundSumSpec)

/-- ITS FALSE NEIGHBOUR: 'it returns false'. Refute it at one input. -/
def fnExactBoundSumWrong : ChangeSpec := { name := "fnExactBoundSum", fn := fun _ => fun
  | [d1, d2] => { results := [.lit (.bool false)], args := [d1, d2] }
  | _ => none }
def FnExactBoundSumWrongFalsely : Prop := fnExactBoundSumRow.holds Try.pinned (OpenSpec.ofChange fnExactBoundSumWrong)

/-- 'laws.FnSum': WHATEVER THE INPUT: true; the input reads as it did. -/
def fnSumSpec : ChangeSpec := { name := "fnSum", fn := fun _ => fun
  | [d] => { results := [.lit (.bool true)], args := [d] }
  | _ => none }
def fnSumRow : OpenClaim := { program := "ytlkhfmpkbjemhaa", sum := "d3edf93dc95dcb744fa10cbe79f7771f9de85cf49cd675142074b4ea46b9276d", func := "loop.example/vectorpacker/laws.FnSum", spec := "fnSum", unfollowed := true, recurses := true, apart := false }
def FnSumSaid : Prop := fnSumRow.holds Try.pinned (OpenSpec.ofChange fnSumSpec)

/-- ITS FALSE NEIGHBOUR: 'it returns false'. Refute it at one input. -/
def fnSumWrong : ChangeSpec := { name := "fnSum", fn := fun _ => fun
  | [d] => { results := [.lit (.bool false)], args := [d] }
  | _ => none }
def FnSumWrongFalsely : Prop := fnSumRow.holds Try.pinned (OpenSpec.ofChange fnSumWrong)

/-- 'laws.FnExactBinLoad': WHATEVER THE INPUT: true; the input reads as it did. -/
def fnExactBinLoadSpec : ChangeSpec := { name := "fnExactBinLoad", fn := fun _ => fun
  | [d1, d2] => { results := [.lit (.bool true)], args := [d1, d2] }
  | _ => none }
def fnExactBinLoadRow : OpenClaim := { program := "ytlkhfmpkbjemhaa", sum := "d3edf93dc95dcb744fa10cbe79f7771f9de85cf49cd675142074b4ea46b9276d", func := "loop.example/vectorpacker/laws.FnExactBinLoad", spec := "fnExactBinLoad", unfollowed := true, recurses := true, apart := false }
def FnExactBinLoadSaid : Prop := fnExactBinLoadRow.holds Try.pinned (OpenSpec.ofChange fnExactBinLoadSpec)

/-- ITS FALSE NEIGHBOUR: 'it returns false'. Refute it at one input. -/
def fnExactBinLoadWrong : ChangeSpec := { name := "fnExactBinLoad", fn := fun _ => fun
  | [d1, d2] => { results := [.lit (.bool false)], args := [d1, d2] }
  | _ => none }
def FnExactBinLoadWrongFalsely : Prop := fnExactBinLoadRow.holds Try.pinned (OpenSpec.ofChange fnExactBinLoadWrong)

/-- 'laws.FnBoundRoom': WHATEVER THE INPUT: true; the input reads as it did. -/
def fnBoundRoomSpec : ChangeSpec := { name := "fnBoundRoom", fn := fun _ => fun
  | [d1, d2] => { results := [.lit (.bool true)], args := [d1, d2] }
  | _ => none }
def fnBoundRoomRow : OpenClaim := { program := "ytlkhfmpkbjemhaa", sum := "d3edf93dc95dcb744fa10cbe79f7771f9de85cf49cd675142074b4ea46b9276d", func := "loop.example/vectorpacker/laws.FnBoundRoom", spec := "fnBoundRoom", unfollowed := true, recurses := true, apart := false }
def FnBoundRoomSaid : Prop := fnBoundRoomRow.holds Try.pinned (OpenSpec.ofChange fnBoundRoomSpec)

/-- ITS FALSE NEIGHBOUR: 'it returns false'. Refute it at one input. -/
def fnBoundRoomWrong : ChangeSpec := { name := "fnBoundRoom", fn := fun _ => fun
  | [d1, d2] => { results := [.lit (.bool false)], args := [d1, d2] }
  | _ => none }
def FnBoundRoomWrongFalsely : Prop := fnBoundRoomRow.holds Try.pinned (OpenSpec.ofChange fnBoundRoomWrong)

/-- 'laws.FnBoundBest': WHATEVER THE INPUT: true; the input reads as it did. -/
def fnBoundBestSpec : ChangeSpec := { name := "fnBoundBest", fn := fun _ => fun
  | [d] => { results := [.lit (.bool true)], args := [d] }
  | _ => none }
def fnBoundBestRow : OpenClaim := { program := "ytlkhfmpkbjemhaa", sum := "d3edf93dc95dcb744fa10cbe79f7771f9de85cf49cd675142074b4ea46b9276d", func := "loop.example/vectorpacker/laws.FnBoundBest", spec := "fnBoundBest", unfollowed := true, recurses := true, apart := false }
def FnBoundBestSaid : Prop := fnBoundBestRow.holds Try.pinned (OpenSpec.ofChange fnBoundBestSpec)

/-- ITS FALSE NEIGHBOUR: 'it returns false'. Refute it at one input. -/
def fnBoundBestWrong : ChangeSpec := { name := "fnBoundBest", fn := fun _ => fun
  | [d] => { results := [.lit (.bool false)], args := [d] }
  | _ => none }
def FnBoundBestWrongFalsely : Prop := fnBoundBestRow.holds Try.pinned (OpenSpec.ofChange fnBoundBestWrong)

/- THE SECOND FORM. 'bulk': how many values and letters a reading holds, each counted each time it is reached (what is shared counts as often as it is met; a slice's spare places count too). A statement '..UptoSaid' is the law's where the arguments, and the package variables that the reading takes, are together of bulk at most 1048576: NARROWER than '..Said'. Prove '..Said' where nothing that the law and all that it calls make is longer than what came in: it says more and counts as full. Else prove '..UptoSaid'. A law counts once. -/
mutual
def uptoBulk {H : Type} : DataW H → Nat
  | .lit (.string bytes) => bytes.length + 1
  | .lit _ => 1
  | .nil => 1
  | .ptr d => uptoBulk d + 1
  | .slice elems spare => uptoBulkAll elems + uptoBulkAll spare + 1
  | .agg parts => uptoBulkAll parts + 1
  | .iface _ d => uptoBulk d + 1
  | .map entries => uptoBulkEntries entries + 1
  | .held _ => 1
def uptoBulkAll {H : Type} : List (DataW H) → Nat
  | [] => 0
  | d :: r => uptoBulk d + uptoBulkAll r
def uptoBulkEntries {H : Type} : List (Lit × DataW H) → Nat
  | [] => 0
  | x :: r => uptoBulkEntry x + uptoBulkEntries r
def uptoBulkEntry {H : Type} : Lit × DataW H → Nat
  | (.string bytes, d) => bytes.length + uptoBulk d + 1
  | (_, d) => uptoBulk d + 1
 end
def uptoSmall : (H : Type) → List (DataW H) → Bool := fun _ ds => decide (uptoBulkAll ds ≤ 1048576)
def OpenSpec.upto (s : _root_.Go.ChangeSpec) : _root_.Go.OpenSpec := { _root_.Go.OpenSpec.ofChange s with cond := some uptoSmall }

/-- 'laws.FnApartBins', WHERE WHAT IT READS IS OF BULK AT MOST 1048576: true; the input reads as it did. -/
def fnApartBinsUptoRow : OpenClaim := { program := "ytlkhfmpkbjemhaa", sum := "d3edf93dc95dcb744fa10cbe79f7771f9de85cf49cd675142074b4ea46b9276d", func := "loop.example/vectorpacker/laws.FnApartBins", spec := "fnApartBins", unfollowed := true, recurses := true, apart := false, narrowed := true }
def FnApartBinsUptoSaid : Prop := fnApartBinsUptoRow.holds Try.pinned (OpenSpec.upto fnApartBinsSpec)

/-- 'laws.FnApart', WHERE WHAT IT READS IS OF BULK AT MOST 1048576: true; the input reads as it did. -/
def fnApartUptoRow : OpenClaim := { program := "ytlkhfmpkbjemhaa", sum := "d3edf93dc95dcb744fa10cbe79f7771f9de85cf49cd675142074b4ea46b9276d", func := "loop.example/vectorpacker/laws.FnApart", spec := "fnApart", unfollowed := true, recurses := true, apart := false, narrowed := true }
def FnApartUptoSaid : Prop := fnApartUptoRow.holds Try.pinned (OpenSpec.upto fnApartSpec)

/-- 'laws.FnBoundSumMore', WHERE WHAT IT READS IS OF BULK AT MOST 1048576: true; the input reads as it did. -/
def fnBoundSumMoreUptoRow : OpenClaim := { program := "ytlkhfmpkbjemhaa", sum := "d3edf93dc95dcb744fa10cbe79f7771f9de85cf49cd675142074b4ea46b9276d", func := "loop.example/vectorpacker/laws.FnBoundSumMore", spec := "fnBoundSumMore", unfollowed := true, recurses := true, apart := false, narrowed := true }
def FnBoundSumMoreUptoSaid : Prop := fnBoundSumMoreUptoRow.holds Try.pinned (OpenSpec.upto fnBoundSumMoreSpec)

/-- 'laws.FnExactBoundApart', WHERE WHAT IT READS IS OF BULK AT MOST 1048576: true; the input reads as it did. -/
def fnExactBoundApartUptoRow : OpenClaim := { program := "ytlkhfmpkbjemhaa", sum := "d3edf93dc95dcb744fa10cbe79f7771f9de85cf49cd675142074b4ea46b9276d", func := "loop.example/vectorpacker/laws.FnExactBoundApart", spec := "fnExactBoundApart", unfollowed := true, recurses := true, apart := false, narrowed := true }
def FnExactBoundApartUptoSaid : Prop := fnExactBoundApartUptoRow.holds Try.pinned (OpenSpec.upto fnExactBoundApartSpec)

/-- 'laws.FnExactTasksSum', WHERE WHAT IT READS IS OF BULK AT MOST 1048576: true; the input reads as it did. -/
def fnExactTasksSumUptoRow : OpenClaim := { program := "ytlkhfmpkbjemhaa", sum := "d3edf93dc95dcb744fa10cbe79f7771f9de85cf49cd675142074b4ea46b9276d", func := "loop.example/vectorpacker/laws.FnExactTasksSum", spec := "fnExactTasksSum", unfollowed := true, recurses := true, apart := false, narrowed := true }
def FnExactTasksSumUptoSaid : Prop := fnExactTasksSumUptoRow.holds Try.pinned (OpenSpec.upto fnExactTasksSumSpec)

/-- 'laws.FnBoundSum', WHERE WHAT IT READS IS OF BULK AT MOST 1048576: true; the input reads as it did. -/
def fnBoundSumUptoRow : OpenClaim := { program := "ytlkhfmpkbjemhaa", sum := "d3edf93dc95dcb744fa10cbe79f7771f9de85cf49cd675142074b4ea46b9276d", func := "loop.example/vectorpacker/laws.FnBoundSum", spec := "fnBoundSum", unfollowed := true, recurses := true, apart := false, narrowed := true }
def FnBoundSumUptoSaid : Prop := fnBoundSumUptoRow.holds Try.pinned (OpenSpec.upto fnBoundSumSpec)

/-- 'laws.FnExactBoundSum', WHERE WHAT IT READS IS OF BULK AT MOST 1048576: true; the input reads as it did. -/
def fnExactBoundSumUptoRow : OpenClaim := { program := "ytlkhfmpkbjemhaa", sum := "d3edf93dc95dcb744fa10cbe79f7771f9de85cf49cd675142074b4ea46b9276d", func := "loop.example/vectorpacker/laws.FnExactBoundSum", spec := "fnExactBoundSum", unfollowed := true, recurses := true, apart := false, narrowed := true }
def FnExactBoundSumUptoSaid : Prop := fnExactBoundSumUptoRow.holds Try.pinned (OpenSpec.upto fnExactBoundSumSpec)

/-- 'laws.FnSum', WHERE WHAT IT READS IS OF BULK AT MOST 1048576: true; the input reads as it did. -/
def fnSumUptoRow : OpenClaim := { program := "ytlkhfmpkbjemhaa", sum := "d3edf93dc95dcb744fa10cbe79f7771f9de85cf49cd675142074b4ea46b9276d", func := "loop.example/vectorpacker/laws.FnSum", spec := "fnSum", unfollowed := true, recurses := true, apart := false, narrowed := true }
def FnSumUptoSaid : Prop := fnSumUptoRow.holds Try.pinned (OpenSpec.upto fnSumSpec)

/-- 'laws.FnExactBinLoad', WHERE WHAT IT READS IS OF BULK AT MOST 1048576: true; the input reads as it did. -/
def fnExactBinLoadUptoRow : OpenClaim := { program := "ytlkhfmpkbjemhaa", sum := "d3edf93dc95dcb744fa10cbe79f7771f9de85cf49cd675142074b4ea46b9276d", func := "loop.example/vectorpacker/laws.FnExactBinLoad", spec := "fnExactBinLoad", unfollowed := true, recurses := true, apart := false, narrowed := true }
def FnExactBinLoadUptoSaid : Prop := fnExactBinLoadUptoRow.holds Try.pinned (OpenSpec.upto fnExactBinLoadSpec)

/-- 'laws.FnBoundRoom', WHERE WHAT IT READS IS OF BULK AT MOST 1048576: true; the input reads as it did. -/
def fnBoundRoomUptoRow : OpenClaim := { program := "ytlkhfmpkbjemhaa", sum := "d3edf93dc95dcb744fa10cbe79f7771f9de85cf49cd675142074b4ea46b9276d", func := "loop.example/vectorpacker/laws.FnBoundRoom", spec := "fnBoundRoom", unfollowed := true, recurses := true, apart := false, narrowed := true }
def FnBoundRoomUptoSaid : Prop := fnBoundRoomUptoRow.holds Try.pinned (OpenSpec.upto fnBoundRoomSpec)

/-- 'laws.FnBoundBest', WHERE WHAT IT READS IS OF BULK AT MOST 1048576: true; the input reads as it did. -/
def fnBoundBestUptoRow : OpenClaim := { program := "ytlkhfmpkbjemhaa", sum := "d3edf93dc95dcb744fa10cbe79f7771f9de85cf49cd675142074b4ea46b9276d", func := "loop.example/vectorpacker/laws.FnBoundBest", spec := "fnBoundBest", unfollowed := true, recurses := true, apart := false, narrowed := true }
def FnBoundBestUptoSaid : Prop := fnBoundBestUptoRow.holds Try.pinned (OpenSpec.upto fnBoundBestSpec)

end Rows
end Go.Proofs.Ytlkhfmpkbjemhaa
