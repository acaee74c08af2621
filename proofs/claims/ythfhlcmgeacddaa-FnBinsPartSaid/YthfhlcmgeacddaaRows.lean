/-
  No cell of these rows narrows 'for every input' (looked for: loops, veiled, ifaces, maps, wideKeys, modest, calm, conditions, laid).
  DERIVED. THE GIVEN ROWS OF THIS SEAT. 12 by the template 'for every input the law returns true; each argument reads behind the call as it read before'; 0 by the template 'total and deterministic' (their statements: YthfhlcmgeacddaaTotals.lean).
  GIVEN WITH THE SEED: the statements are not yours to turn. If you find one false, say at which input.
  Laid BY PROGRAM, IN A SANDBOX (cutbox-rows.mjs): the forced cells as the released guide's own fill.sh prints them over the translation 8d2cb9106e4135e1… (all of the seat's roots in one cut). By AI agents, Wed Nov 11 2026. No macro, syntax, notation, axiom, sorry.
-/
import Derived.Test.YthfhlcmgeacddaaChecked
import GoSem.Claim
import GoSem.ClaimJoined
import GoSem.ClaimMapViews
import Derived.JoinedTies
import Derived.KernelRfl
namespace Go.Proofs.Ythfhlcmgeacddaa
/- THE CELL 'sum', in the pinned program and in every row, IS THE sha256 OF THE DUMP (.gsa) THAT YthfhlcmgeacddaaProg.lean LOADS. Nothing in Lean hashes anything: it is a label: what it is worth is what the hold of that sum in a sandbox is worth. -/
noncomputable def Try.pinned : Pinned := { name := "ythfhlcmgeacddaa", sum := "8d2cb9106e4135e141a2fb93e0e2d1f5eee82f6f172cebbde6366094c7895287", checked := Try.checked }
namespace Rows
def none {H : Type} : Left H := { results := [], args := [] }

/-- 'laws.FnBefore': WHATEVER THE INPUT: true; the input reads as it did. -/
def fnBeforeSpec : ChangeSpec := { name := "fnBefore", fn := fun _ => fun
  | [d] => { results := [.lit (.bool true)], args := [d] }
  | _ => none }
def fnBeforeRow : OpenClaim := { program := "ythfhlcmgeacddaa", sum := "8d2cb9106e4135e141a2fb93e0e2d1f5eee82f6f172cebbde6366094c7895287", func := "loop.example/vectorpacker/laws.FnBefore", spec := "fnBefore", unfollowed := true, recurses := true, apart := false }
def FnBeforeSaid : Prop := fnBeforeRow.holds Try.pinned (OpenSpec.ofChange fnBeforeSpec)

/-- ITS FALSE NEIGHBOUR: 'it returns false'. Refute it at one input. -/
def fnBeforeWrong : ChangeSpec := { name := "fnBefore", fn := fun _ => fun
  | [d] => { results := [.lit (.bool false)], args := [d] }
  | _ => none }
def FnBeforeWrongFalsely : Prop := fnBeforeRow.holds Try.pinned (OpenSpec.ofChange fnBeforeWrong)

/-- 'laws.FnBeforeSum': WHATEVER THE INPUT: true; the input reads as it did. -/
def fnBeforeSumSpec : ChangeSpec := { name := "fnBeforeSum", fn := fun _ => fun
  | [d] => { results := [.lit (.bool true)], args := [d] }
  | _ => none }
def fnBeforeSumRow : OpenClaim := { program := "ythfhlcmgeacddaa", sum := "8d2cb9106e4135e141a2fb93e0e2d1f5eee82f6f172cebbde6366094c7895287", func := "loop.example/vectorpacker/laws.FnBeforeSum", spec := "fnBeforeSum", unfollowed := true, recurses := true, apart := false }
def FnBeforeSumSaid : Prop := fnBeforeSumRow.holds Try.pinned (OpenSpec.ofChange fnBeforeSumSpec)

/-- ITS FALSE NEIGHBOUR: 'it returns false'. Refute it at one input. -/
def fnBeforeSumWrong : ChangeSpec := { name := "fnBeforeSum", fn := fun _ => fun
  | [d] => { results := [.lit (.bool false)], args := [d] }
  | _ => none }
def FnBeforeSumWrongFalsely : Prop := fnBeforeSumRow.holds Try.pinned (OpenSpec.ofChange fnBeforeSumWrong)

/-- 'laws.FnExactTaskBefore': WHATEVER THE INPUT: true; the input reads as it did. -/
def fnExactTaskBeforeSpec : ChangeSpec := { name := "fnExactTaskBefore", fn := fun _ => fun
  | [d1, d2] => { results := [.lit (.bool true)], args := [d1, d2] }
  | _ => none }
def fnExactTaskBeforeRow : OpenClaim := { program := "ythfhlcmgeacddaa", sum := "8d2cb9106e4135e141a2fb93e0e2d1f5eee82f6f172cebbde6366094c7895287", func := "loop.example/vectorpacker/laws.FnExactTaskBefore", spec := "fnExactTaskBefore", unfollowed := true, recurses := true, apart := false }
def FnExactTaskBeforeSaid : Prop := fnExactTaskBeforeRow.holds Try.pinned (OpenSpec.ofChange fnExactTaskBeforeSpec)

/-- ITS FALSE NEIGHBOUR: 'it returns false'. Refute it at one input. -/
def fnExactTaskBeforeWrong : ChangeSpec := { name := "fnExactTaskBefore", fn := fun _ => fun
  | [d1, d2] => { results := [.lit (.bool false)], args := [d1, d2] }
  | _ => none }
def FnExactTaskBeforeWrongFalsely : Prop := fnExactTaskBeforeRow.holds Try.pinned (OpenSpec.ofChange fnExactTaskBeforeWrong)

/-- 'laws.FnTasksFit': WHATEVER THE INPUT: true; the input reads as it did. -/
def fnTasksFitSpec : ChangeSpec := { name := "fnTasksFit", fn := fun _ => fun
  | [d] => { results := [.lit (.bool true)], args := [d] }
  | _ => none }
def fnTasksFitRow : OpenClaim := { program := "ythfhlcmgeacddaa", sum := "8d2cb9106e4135e141a2fb93e0e2d1f5eee82f6f172cebbde6366094c7895287", func := "loop.example/vectorpacker/laws.FnTasksFit", spec := "fnTasksFit", unfollowed := true, recurses := true, apart := false }
def FnTasksFitSaid : Prop := fnTasksFitRow.holds Try.pinned (OpenSpec.ofChange fnTasksFitSpec)

/-- ITS FALSE NEIGHBOUR: 'it returns false'. Refute it at one input. -/
def fnTasksFitWrong : ChangeSpec := { name := "fnTasksFit", fn := fun _ => fun
  | [d] => { results := [.lit (.bool false)], args := [d] }
  | _ => none }
def FnTasksFitWrongFalsely : Prop := fnTasksFitRow.holds Try.pinned (OpenSpec.ofChange fnTasksFitWrong)

/-- 'laws.FnTasksPart': WHATEVER THE INPUT: true; the input reads as it did. -/
def fnTasksPartSpec : ChangeSpec := { name := "fnTasksPart", fn := fun _ => fun
  | [d1, d2] => { results := [.lit (.bool true)], args := [d1, d2] }
  | _ => none }
def fnTasksPartRow : OpenClaim := { program := "ythfhlcmgeacddaa", sum := "8d2cb9106e4135e141a2fb93e0e2d1f5eee82f6f172cebbde6366094c7895287", func := "loop.example/vectorpacker/laws.FnTasksPart", spec := "fnTasksPart", unfollowed := true, recurses := true, apart := false }
def FnTasksPartSaid : Prop := fnTasksPartRow.holds Try.pinned (OpenSpec.ofChange fnTasksPartSpec)

/-- ITS FALSE NEIGHBOUR: 'it returns false'. Refute it at one input. -/
def fnTasksPartWrong : ChangeSpec := { name := "fnTasksPart", fn := fun _ => fun
  | [d1, d2] => { results := [.lit (.bool false)], args := [d1, d2] }
  | _ => none }
def FnTasksPartWrongFalsely : Prop := fnTasksPartRow.holds Try.pinned (OpenSpec.ofChange fnTasksPartWrong)

/-- 'laws.FnExactTasksClash': WHATEVER THE INPUT: true; the input reads as it did. -/
def fnExactTasksClashSpec : ChangeSpec := { name := "fnExactTasksClash", fn := fun _ => fun
  | [d1, d2, d3] => { results := [.lit (.bool true)], args := [d1, d2, d3] }
  | _ => none }
def fnExactTasksClashRow : OpenClaim := { program := "ythfhlcmgeacddaa", sum := "8d2cb9106e4135e141a2fb93e0e2d1f5eee82f6f172cebbde6366094c7895287", func := "loop.example/vectorpacker/laws.FnExactTasksClash", spec := "fnExactTasksClash", unfollowed := true, recurses := true, apart := false }
def FnExactTasksClashSaid : Prop := fnExactTasksClashRow.holds Try.pinned (OpenSpec.ofChange fnExactTasksClashSpec)

/-- ITS FALSE NEIGHBOUR: 'it returns false'. Refute it at one input. -/
def fnExactTasksClashWrong : ChangeSpec := { name := "fnExactTasksClash", fn := fun _ => fun
  | [d1, d2, d3] => { results := [.lit (.bool false)], args := [d1, d2, d3] }
  | _ => none }
def FnExactTasksClashWrongFalsely : Prop := fnExactTasksClashRow.holds Try.pinned (OpenSpec.ofChange fnExactTasksClashWrong)

/-- 'laws.FnExactTasksValid': WHATEVER THE INPUT: true; the input reads as it did. -/
def fnExactTasksValidSpec : ChangeSpec := { name := "fnExactTasksValid", fn := fun _ => fun
  | [d1, d2] => { results := [.lit (.bool true)], args := [d1, d2] }
  | _ => none }
def fnExactTasksValidRow : OpenClaim := { program := "ythfhlcmgeacddaa", sum := "8d2cb9106e4135e141a2fb93e0e2d1f5eee82f6f172cebbde6366094c7895287", func := "loop.example/vectorpacker/laws.FnExactTasksValid", spec := "fnExactTasksValid", unfollowed := true, recurses := true, apart := false }
def FnExactTasksValidSaid : Prop := fnExactTasksValidRow.holds Try.pinned (OpenSpec.ofChange fnExactTasksValidSpec)

/-- ITS FALSE NEIGHBOUR: 'it returns false'. Refute it at one input. -/
def fnExactTasksValidWrong : ChangeSpec := { name := "fnExactTasksValid", fn := fun _ => fun
  | [d1, d2] => { results := [.lit (.bool false)], args := [d1, d2] }
  | _ => none }
def FnExactTasksValidWrongFalsely : Prop := fnExactTasksValidRow.holds Try.pinned (OpenSpec.ofChange fnExactTasksValidWrong)

/-- 'laws.FnTasksClash': WHATEVER THE INPUT: true; the input reads as it did. -/
def fnTasksClashSpec : ChangeSpec := { name := "fnTasksClash", fn := fun _ => fun
  | [d] => { results := [.lit (.bool true)], args := [d] }
  | _ => none }
def fnTasksClashRow : OpenClaim := { program := "ythfhlcmgeacddaa", sum := "8d2cb9106e4135e141a2fb93e0e2d1f5eee82f6f172cebbde6366094c7895287", func := "loop.example/vectorpacker/laws.FnTasksClash", spec := "fnTasksClash", unfollowed := true, recurses := true, apart := false }
def FnTasksClashSaid : Prop := fnTasksClashRow.holds Try.pinned (OpenSpec.ofChange fnTasksClashSpec)

/-- ITS FALSE NEIGHBOUR: 'it returns false'. Refute it at one input. -/
def fnTasksClashWrong : ChangeSpec := { name := "fnTasksClash", fn := fun _ => fun
  | [d] => { results := [.lit (.bool false)], args := [d] }
  | _ => none }
def FnTasksClashWrongFalsely : Prop := fnTasksClashRow.holds Try.pinned (OpenSpec.ofChange fnTasksClashWrong)

/-- 'laws.FnTasksClashNot': WHATEVER THE INPUT: true; the input reads as it did. -/
def fnTasksClashNotSpec : ChangeSpec := { name := "fnTasksClashNot", fn := fun _ => fun
  | [d] => { results := [.lit (.bool true)], args := [d] }
  | _ => none }
def fnTasksClashNotRow : OpenClaim := { program := "ythfhlcmgeacddaa", sum := "8d2cb9106e4135e141a2fb93e0e2d1f5eee82f6f172cebbde6366094c7895287", func := "loop.example/vectorpacker/laws.FnTasksClashNot", spec := "fnTasksClashNot", unfollowed := true, recurses := true, apart := false }
def FnTasksClashNotSaid : Prop := fnTasksClashNotRow.holds Try.pinned (OpenSpec.ofChange fnTasksClashNotSpec)

/-- ITS FALSE NEIGHBOUR: 'it returns false'. Refute it at one input. -/
def fnTasksClashNotWrong : ChangeSpec := { name := "fnTasksClashNot", fn := fun _ => fun
  | [d] => { results := [.lit (.bool false)], args := [d] }
  | _ => none }
def FnTasksClashNotWrongFalsely : Prop := fnTasksClashNotRow.holds Try.pinned (OpenSpec.ofChange fnTasksClashNotWrong)

/-- 'laws.FnLoad': WHATEVER THE INPUT: true; the input reads as it did. -/
def fnLoadSpec : ChangeSpec := { name := "fnLoad", fn := fun _ => fun
  | [d1, d2] => { results := [.lit (.bool true)], args := [d1, d2] }
  | _ => none }
def fnLoadRow : OpenClaim := { program := "ythfhlcmgeacddaa", sum := "8d2cb9106e4135e141a2fb93e0e2d1f5eee82f6f172cebbde6366094c7895287", func := "loop.example/vectorpacker/laws.FnLoad", spec := "fnLoad", unfollowed := true, recurses := true, apart := false }
def FnLoadSaid : Prop := fnLoadRow.holds Try.pinned (OpenSpec.ofChange fnLoadSpec)

/-- ITS FALSE NEIGHBOUR: 'it returns false'. Refute it at one input. -/
def fnLoadWrong : ChangeSpec := { name := "fnLoad", fn := fun _ => fun
  | [d1, d2] => { results := [.lit (.bool false)], args := [d1, d2] }
  | _ => none }
def FnLoadWrongFalsely : Prop := fnLoadRow.holds Try.pinned (OpenSpec.ofChange fnLoadWrong)

/-- 'laws.FnLoadNone': WHATEVER THE INPUT: true; the input reads as it did. -/
def fnLoadNoneSpec : ChangeSpec := { name := "fnLoadNone", fn := fun _ => fun
  | [d] => { results := [.lit (.bool true)], args := [d] }
  | _ => none }
def fnLoadNoneRow : OpenClaim := { program := "ythfhlcmgeacddaa", sum := "8d2cb9106e4135e141a2fb93e0e2d1f5eee82f6f172cebbde6366094c7895287", func := "loop.example/vectorpacker/laws.FnLoadNone", spec := "fnLoadNone", unfollowed := true, recurses := true, apart := false }
def FnLoadNoneSaid : Prop := fnLoadNoneRow.holds Try.pinned (OpenSpec.ofChange fnLoadNoneSpec)

/-- ITS FALSE NEIGHBOUR: 'it returns false'. Refute it at one input. -/
def fnLoadNoneWrong : ChangeSpec := { name := "fnLoadNone", fn := fun _ => fun
  | [d] => { results := [.lit (.bool false)], args := [d] }
  | _ => none }
def FnLoadNoneWrongFalsely : Prop := fnLoadNoneRow.holds Try.pinned (OpenSpec.ofChange fnLoadNoneWrong)

/-- 'laws.FnBinsPart': WHATEVER THE INPUT: true; the input reads as it did. -/
def fnBinsPartSpec : ChangeSpec := { name := "fnBinsPart", fn := fun _ => fun
  | [d1, d2] => { results := [.lit (.bool true)], args := [d1, d2] }
  | _ => none }
def fnBinsPartRow : OpenClaim := { program := "ythfhlcmgeacddaa", sum := "8d2cb9106e4135e141a2fb93e0e2d1f5eee82f6f172cebbde6366094c7895287", func := "loop.example/vectorpacker/laws.FnBinsPart", spec := "fnBinsPart", unfollowed := true, recurses := true, apart := false }
def FnBinsPartSaid : Prop := fnBinsPartRow.holds Try.pinned (OpenSpec.ofChange fnBinsPartSpec)

/-- ITS FALSE NEIGHBOUR: 'it returns false'. Refute it at one input. -/
def fnBinsPartWrong : ChangeSpec := { name := "fnBinsPart", fn := fun _ => fun
  | [d1, d2] => { results := [.lit (.bool false)], args := [d1, d2] }
  | _ => none }
def FnBinsPartWrongFalsely : Prop := fnBinsPartRow.holds Try.pinned (OpenSpec.ofChange fnBinsPartWrong)

/- THE SECOND FORM. 'bulk': how many values and letters a reading holds, each counted each time it is reached (what is shared counts as often as it is met; a slice's spare places count too). A statement '..UptoSaid' is the law's where the arguments, and the package variables that the reading takes, are together of bulk at most 1048576: NARROWER than '..Said'. Prove '..Said' where nothing that the law and all that it calls make is longer than what came in: it says more and counts as full. Else prove '..UptoSaid'. A law counts once. -/
mutual
def uptoBulk {H : Type} : DataW H → Nat
  | .lit (.string bytes) => bytes.length + 1
  | .lit _ => 1
  | .nil => 1
  | .ptr d => uptoBulk d + 1
  | .slice elems spare => uptoBulkAll elems + uptoBulkAll spare + 1
  | .agg parts => uptoBulkAll parts + 1
  | .iface _ d => uptoBulk d + 1
  | .map entries => uptoBulkEntries entries + 1
  | .held _ => 1
def uptoBulkAll {H : Type} : List (DataW H) → Nat
  | [] => 0
  | d :: r => uptoBulk d + uptoBulkAll r
def uptoBulkEntries {H : Type} : List (Lit × DataW H) → Nat
  | [] => 0
  | x :: r => uptoBulkEntry x + uptoBulkEntries r
def uptoBulkEntry {H : Type} : Lit × DataW H → Nat
  | (.string bytes, d) => bytes.length + uptoBulk d + 1
  | (_, d) => uptoBulk d + 1
 end
def uptoSmall : (H : Type) → List (DataW H) → Bool := fun _ ds => decide (uptoBulkAll ds ≤ 1048576)
def OpenSpec.upto (s : _root_.Go.ChangeSpec) : _root_.Go.OpenSpec := { _root_.Go.OpenSpec.ofChange s with cond := some uptoSmall }

/-- 'laws.FnBefore', WHERE WHAT IT READS IS OF BULK AT MOST 1048576: true; the input reads as it did. -/
def fnBeforeUptoRow : OpenClaim := { program := "ythfhlcmgeacddaa", sum := "8d2cb9106e4135e141a2fb93e0e2d1f5eee82f6f172cebbde6366094c7895287", func := "loop.example/vectorpacker/laws.FnBefore", spec := "fnBefore", unfollowed := true, recurses := true, apart := false, narrowed := true }
def FnBeforeUptoSaid : Prop := fnBeforeUptoRow.holds Try.pinned (OpenSpec.upto fnBeforeSpec)

/-- 'laws.FnBeforeSum', WHERE WHAT IT READS IS OF BULK AT MOST 1048576: true; the input reads as it did. -/
def fnBeforeSumUptoRow : OpenClaim := { program := "ythfhlcmgeacddaa", sum := "8d2cb9106e4135e141a2fb93e0e2d1f5eee82f6f172cebbde6366094c7895287", func := "loop.example/vectorpacker/laws.FnBeforeSum", spec := "fnBeforeSum", unfollowed := true, recurses := true, apart := false, narrowed := true }
def FnBeforeSumUptoSaid : Prop := fnBeforeSumUptoRow.holds Try.pinned (OpenSpec.upto fnBeforeSumSpec)

/-- 'laws.FnExactTaskBefore', WHERE WHAT IT READS IS OF BULK AT MOST 1048576: true; the input reads as it did. -/
def fnExactTaskBeforeUptoRow : OpenClaim := { program := "ythfhlcmgeacddaa", sum := "8d2cb9106e4135e141a2fb93e0e2d1f5eee82f6f172cebbde6366094c7895287", func := "loop.example/vectorpacker/laws.FnExactTaskBefore", spec := "fnExactTaskBefore", unfollowed := true, recurses := true, apart := false, narrowed := true }
def FnExactTaskBeforeUptoSaid : Prop := fnExactTaskBeforeUptoRow.holds Try.pinned (OpenSpec.upto fnExactTaskBeforeSpec)

/-- 'laws.FnTasksFit', WHERE WHAT IT READS IS OF BULK AT MOST 1048576: true; the input reads as it did. -/
def fnTasksFitUptoRow : OpenClaim := { program := "ythfhlcmgeacddaa", sum := "8d2cb9106e4135e141a2fb93e0e2d1f5eee82f6f172cebbde6366094c7895287", func := "loop.example/vectorpacker/laws.FnTasksFit", spec := "fnTasksFit", unfollowed := true, recurses := true, apart := false, narrowed := true }
def FnTasksFitUptoSaid : Prop := fnTasksFitUptoRow.holds Try.pinned (OpenSpec.upto fnTasksFitSpec)

/-- 'laws.FnTasksPart', WHERE WHAT IT READS IS OF BULK AT MOST 1048576: true; the input reads as it did. -/
def fnTasksPartUptoRow : OpenClaim := { program := "ythfhlcmgeacddaa", sum := "8d2cb9106e4135e141a2fb93e0e2d1f5eee82f6f172cebbde6366094c7895287", func := "loop.example/vectorpacker/laws.FnTasksPart", spec := "fnTasksPart", unfollowed := true, recurses := true, apart := false, narrowed := true }
def FnTasksPartUptoSaid : Prop := fnTasksPartUptoRow.holds Try.pinned (OpenSpec.upto fnTasksPartSpec)

/-- 'laws.FnExactTasksClash', WHERE WHAT IT READS IS OF BULK AT MOST 1048576: true; the input reads as it did. -/
def fnExactTasksClashUptoRow : OpenClaim := { program := "ythfhlcmgeacddaa", sum := "8d2cb9106e4135e141a2fb93e0e2d1f5eee82f6f172cebbde6366094c7895287", func := "loop.example/vectorpacker/laws.FnExactTasksClash", spec := "fnExactTasksClash", unfollowed := true, recurses := true, apart := false, narrowed := true }
def FnExactTasksClashUptoSaid : Prop := fnExactTasksClashUptoRow.holds Try.pinned (OpenSpec.upto fnExactTasksClashSpec)

/-- 'laws.FnExactTasksValid', WHERE WHAT IT READS IS OF BULK AT MOST 1048576: true; the input reads as it did. -/
def fnExactTasksValidUptoRow : OpenClaim := { program := "ythfhlcmgeacddaa", sum := "8d2cb9106e4135e141a2fb93e0e2d1f5eee82f6f172cebbde6366094c7895287", func := "loop.example/vectorpacker/laws.FnExactTasksValid", spec := "fnExactTasksValid", unfollowed := true, recurses := true, apart := false, narrowed := true }
def FnExactTasksValidUptoSaid : Prop := fnExactTasksValidUptoRow.holds Try.pinned (OpenSpec.upto fnExactTasksValidSpec)

/-- 'laws.FnTasksClash', WHERE WHAT IT READS IS OF BULK AT MOST 1048576: true; the input reads as it did. -/
def fnTasksClashUptoRow : OpenClaim := { program := "ythfhlcmgeacddaa", sum := "8d2cb9106e4135e141a2fb93e0e2d1f5eee82f6f172cebbde6366094c7895287", func := "loop.example/vectorpacker/laws.FnTasksClash", spec := "fnTasksClash", unfollowed := true, recurses := true, apart := false, narrowed := true }
def FnTasksClashUptoSaid : Prop := fnTasksClashUptoRow.holds Try.pinned (OpenSpec.upto fnTasksClashSpec)

/-- 'laws.FnTasksClashNot', WHERE WHAT IT READS IS OF BULK AT MOST 1048576: true; the input reads as it did. -/
def fnTasksClashNotUptoRow : OpenClaim := { program := "ythfhlcmgeacddaa", sum := "8d2cb9106e4135e141a2fb93e0e2d1f5eee82f6f172cebbde6366094c7895287", func := "loop.example/vectorpacker/laws.FnTasksClashNot", spec := "fnTasksClashNot", unfollowed := true, recurses := true, apart := false, narrowed := true }
def FnTasksClashNotUptoSaid : Prop := fnTasksClashNotUptoRow.holds Try.pinned (OpenSpec.upto fnTasksClashNotSpec)

/-- 'laws.FnLoad', WHERE WHAT IT READS IS OF BULK AT MOST 1048576: true; the input reads as it did. -/
def fnLoadUptoRow : OpenClaim := { program := "ythfhlcmgeacddaa", sum := "8d2cb9106e4135e141a2fb93e0e2d1f5eee82f6f172cebbde6366094c7895287", func := "loop.example/vectorpacker/laws.FnLoad", spec := "fnLoad", unfollowed := true, recurses := true, apart := false, narrowed := true }
def FnLoadUptoSaid : Prop := fnLoadUptoRow.holds Try.pinned (OpenSpec.upto fnLoadSpec)

/-- 'laws.FnLoadNone', WHERE WHAT IT READS IS OF BULK AT MOST 1048576: true; the input reads as it did. -/
def fnLoadNoneUptoRow : OpenClaim := { program := "ythfhlcmgeacddaa", sum := "8d2cb9106e4135e141a2fb93e0e2d1f5eee82f6f172cebbde6366094c7895287", func := "loop.example/vectorpacker/laws.FnLoadNone", spec := "fnLoadNone", unfollowed := true, recurses := true, apart := false, narrowed := true }
def FnLoadNoneUptoSaid : Prop := fnLoadNoneUptoRow.holds Try.pinned (OpenSpec.upto fnLoadNoneSpec)

/-- 'laws.FnBinsPart', WHERE WHAT IT READS IS OF BULK AT MOST 1048576: true; the input reads as it did. -/
def fnBinsPartUptoRow : OpenClaim := { program := "ythfhlcmgeacddaa", sum := "8d2cb9106e4135e141a2fb93e0e2d1f5eee82f6f172cebbde6366094c7895287", func := "loop.example/vectorpacker/laws.FnBinsPart", spec := "fnBinsPart", unfollowed := true, recurses := true, apart := false, narrowed := true }
def FnBinsPartUptoSaid : Prop := fnBinsPartUptoRow.holds Try.pinned (OpenSpec.upto fnBinsPartSpec)

end Rows
end Go.Proofs.Ythfhlcmgeacddaa
