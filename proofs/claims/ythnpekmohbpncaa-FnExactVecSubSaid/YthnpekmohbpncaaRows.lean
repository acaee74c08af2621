/-
  No cell of these rows narrows 'for every input' (looked for: loops, veiled, ifaces, maps, wideKeys, modest, calm, conditions, laid).
  DERIVED. THE GIVEN ROWS OF THIS SEAT. 12 by the template 'for every input the law returns true; each argument reads behind the call as it read before'; 0 by the template 'total and deterministic' (their statements: YthnpekmohbpncaaTotals.lean).
  GIVEN WITH THE SEED: the statements are not yours to turn. If you find one false, say at which input.
  Laid BY PROGRAM, IN A SANDBOX (cutbox-rows.mjs): the forced cells as the released guide's own fill.sh prints them over the translation 7e7861844a4231ba… (all of the seat's roots in one cut). By AI agents, Wed Nov 11 2026. No macro, syntax, notation, axiom, sorry.
-/
import Derived.Test.YthnpekmohbpncaaChecked
import GoSem.Claim
import GoSem.ClaimJoined
import GoSem.ClaimMapViews
import Derived.JoinedTies
import Derived.KernelRfl
namespace Go.Proofs.Ythnpekmohbpncaa
/- THE CELL 'sum', in the pinned program and in every row, IS THE sha256 OF THE DUMP (.gsa) THAT YthnpekmohbpncaaProg.lean LOADS. Nothing in Lean hashes anything: it is a label: what it is worth is what the hold of that sum in a sandbox is worth. -/
noncomputable def Try.pinned : Pinned := { name := "ythnpekmohbpncaa", sum := "7e7861844a4231ba41192774808caa9be4db3be19d180ab5b88ed67364a48c97", checked := Try.checked }
namespace Rows
def none {H : Type} : Left H := { results := [], args := [] }

/-- 'laws.FnExactVecValid': WHATEVER THE INPUT: true; the input reads as it did. -/
def fnExactVecValidSpec : ChangeSpec := { name := "fnExactVecValid", fn := fun _ => fun
  | [d] => { results := [.lit (.bool true)], args := [d] }
  | _ => none }
def fnExactVecValidRow : OpenClaim := { program := "ythnpekmohbpncaa", sum := "7e7861844a4231ba41192774808caa9be4db3be19d180ab5b88ed67364a48c97", func := "loop.example/vectorpacker/laws.FnExactVecValid", spec := "fnExactVecValid", unfollowed := true, recurses := true, apart := false }
def FnExactVecValidSaid : Prop := fnExactVecValidRow.holds Try.pinned (OpenSpec.ofChange fnExactVecValidSpec)

/-- ITS FALSE NEIGHBOUR: 'it returns false'. Refute it at one input. -/
def fnExactVecValidWrong : ChangeSpec := { name := "fnExactVecValid", fn := fun _ => fun
  | [d] => { results := [.lit (.bool false)], args := [d] }
  | _ => none }
def FnExactVecValidWrongFalsely : Prop := fnExactVecValidRow.holds Try.pinned (OpenSpec.ofChange fnExactVecValidWrong)

/-- 'laws.FnVecPart': WHATEVER THE INPUT: true; the input reads as it did. -/
def fnVecPartSpec : ChangeSpec := { name := "fnVecPart", fn := fun _ => fun
  | [d1, d2] => { results := [.lit (.bool true)], args := [d1, d2] }
  | _ => none }
def fnVecPartRow : OpenClaim := { program := "ythnpekmohbpncaa", sum := "7e7861844a4231ba41192774808caa9be4db3be19d180ab5b88ed67364a48c97", func := "loop.example/vectorpacker/laws.FnVecPart", spec := "fnVecPart", unfollowed := true, recurses := true, apart := false }
def FnVecPartSaid : Prop := fnVecPartRow.holds Try.pinned (OpenSpec.ofChange fnVecPartSpec)

/-- ITS FALSE NEIGHBOUR: 'it returns false'. Refute it at one input. -/
def fnVecPartWrong : ChangeSpec := { name := "fnVecPart", fn := fun _ => fun
  | [d1, d2] => { results := [.lit (.bool false)], args := [d1, d2] }
  | _ => none }
def FnVecPartWrongFalsely : Prop := fnVecPartRow.holds Try.pinned (OpenSpec.ofChange fnVecPartWrong)

/-- 'laws.FnExactVecFits': WHATEVER THE INPUT: true; the input reads as it did. -/
def fnExactVecFitsSpec : ChangeSpec := { name := "fnExactVecFits", fn := fun _ => fun
  | [d1, d2] => { results := [.lit (.bool true)], args := [d1, d2] }
  | _ => none }
def fnExactVecFitsRow : OpenClaim := { program := "ythnpekmohbpncaa", sum := "7e7861844a4231ba41192774808caa9be4db3be19d180ab5b88ed67364a48c97", func := "loop.example/vectorpacker/laws.FnExactVecFits", spec := "fnExactVecFits", unfollowed := true, recurses := true, apart := false }
def FnExactVecFitsSaid : Prop := fnExactVecFitsRow.holds Try.pinned (OpenSpec.ofChange fnExactVecFitsSpec)

/-- ITS FALSE NEIGHBOUR: 'it returns false'. Refute it at one input. -/
def fnExactVecFitsWrong : ChangeSpec := { name := "fnExactVecFits", fn := fun _ => fun
  | [d1, d2] => { results := [.lit (.bool false)], args := [d1, d2] }
  | _ => none }
def FnExactVecFitsWrongFalsely : Prop := fnExactVecFitsRow.holds Try.pinned (OpenSpec.ofChange fnExactVecFitsWrong)

/-- 'laws.FnExactVecDot': WHATEVER THE INPUT: true; the input reads as it did. -/
def fnExactVecDotSpec : ChangeSpec := { name := "fnExactVecDot", fn := fun _ => fun
  | [d1, d2] => { results := [.lit (.bool true)], args := [d1, d2] }
  | _ => none }
def fnExactVecDotRow : OpenClaim := { program := "ythnpekmohbpncaa", sum := "7e7861844a4231ba41192774808caa9be4db3be19d180ab5b88ed67364a48c97", func := "loop.example/vectorpacker/laws.FnExactVecDot", spec := "fnExactVecDot", unfollowed := true, recurses := true, apart := false }
def FnExactVecDotSaid : Prop := fnExactVecDotRow.holds Try.pinned (OpenSpec.ofChange fnExactVecDotSpec)

/-- ITS FALSE NEIGHBOUR: 'it returns false'. Refute it at one input. -/
def fnExactVecDotWrong : ChangeSpec := { name := "fnExactVecDot", fn := fun _ => fun
  | [d1, d2] => { results := [.lit (.bool false)], args := [d1, d2] }
  | _ => none }
def FnExactVecDotWrongFalsely : Prop := fnExactVecDotRow.holds Try.pinned (OpenSpec.ofChange fnExactVecDotWrong)

/-- 'laws.FnVecFitsNot': WHATEVER THE INPUT: true; the input reads as it did. -/
def fnVecFitsNotSpec : ChangeSpec := { name := "fnVecFitsNot", fn := fun _ => fun
  | [d] => { results := [.lit (.bool true)], args := [d] }
  | _ => none }
def fnVecFitsNotRow : OpenClaim := { program := "ythnpekmohbpncaa", sum := "7e7861844a4231ba41192774808caa9be4db3be19d180ab5b88ed67364a48c97", func := "loop.example/vectorpacker/laws.FnVecFitsNot", spec := "fnVecFitsNot", unfollowed := true, recurses := true, apart := false }
def FnVecFitsNotSaid : Prop := fnVecFitsNotRow.holds Try.pinned (OpenSpec.ofChange fnVecFitsNotSpec)

/-- ITS FALSE NEIGHBOUR: 'it returns false'. Refute it at one input. -/
def fnVecFitsNotWrong : ChangeSpec := { name := "fnVecFitsNot", fn := fun _ => fun
  | [d] => { results := [.lit (.bool false)], args := [d] }
  | _ => none }
def FnVecFitsNotWrongFalsely : Prop := fnVecFitsNotRow.holds Try.pinned (OpenSpec.ofChange fnVecFitsNotWrong)

/-- 'laws.FnExactVecMax': WHATEVER THE INPUT: true; the input reads as it did. -/
def fnExactVecMaxSpec : ChangeSpec := { name := "fnExactVecMax", fn := fun _ => fun
  | [d1, d2] => { results := [.lit (.bool true)], args := [d1, d2] }
  | _ => none }
def fnExactVecMaxRow : OpenClaim := { program := "ythnpekmohbpncaa", sum := "7e7861844a4231ba41192774808caa9be4db3be19d180ab5b88ed67364a48c97", func := "loop.example/vectorpacker/laws.FnExactVecMax", spec := "fnExactVecMax", unfollowed := true, recurses := true, apart := false }
def FnExactVecMaxSaid : Prop := fnExactVecMaxRow.holds Try.pinned (OpenSpec.ofChange fnExactVecMaxSpec)

/-- ITS FALSE NEIGHBOUR: 'it returns false'. Refute it at one input. -/
def fnExactVecMaxWrong : ChangeSpec := { name := "fnExactVecMax", fn := fun _ => fun
  | [d1, d2] => { results := [.lit (.bool false)], args := [d1, d2] }
  | _ => none }
def FnExactVecMaxWrongFalsely : Prop := fnExactVecMaxRow.holds Try.pinned (OpenSpec.ofChange fnExactVecMaxWrong)

/-- 'laws.FnVecDot': WHATEVER THE INPUT: true; the input reads as it did. -/
def fnVecDotSpec : ChangeSpec := { name := "fnVecDot", fn := fun _ => fun
  | [d] => { results := [.lit (.bool true)], args := [d] }
  | _ => none }
def fnVecDotRow : OpenClaim := { program := "ythnpekmohbpncaa", sum := "7e7861844a4231ba41192774808caa9be4db3be19d180ab5b88ed67364a48c97", func := "loop.example/vectorpacker/laws.FnVecDot", spec := "fnVecDot", unfollowed := true, recurses := true, apart := false }
def FnVecDotSaid : Prop := fnVecDotRow.holds Try.pinned (OpenSpec.ofChange fnVecDotSpec)

/-- ITS FALSE NEIGHBOUR: 'it returns false'. Refute it at one input. -/
def fnVecDotWrong : ChangeSpec := { name := "fnVecDot", fn := fun _ => fun
  | [d] => { results := [.lit (.bool false)], args := [d] }
  | _ => none }
def FnVecDotWrongFalsely : Prop := fnVecDotRow.holds Try.pinned (OpenSpec.ofChange fnVecDotWrong)

/-- 'laws.FnExactVecAdd': WHATEVER THE INPUT: true; the input reads as it did. -/
def fnExactVecAddSpec : ChangeSpec := { name := "fnExactVecAdd", fn := fun _ => fun
  | [d1, d2] => { results := [.lit (.bool true)], args := [d1, d2] }
  | _ => none }
def fnExactVecAddRow : OpenClaim := { program := "ythnpekmohbpncaa", sum := "7e7861844a4231ba41192774808caa9be4db3be19d180ab5b88ed67364a48c97", func := "loop.example/vectorpacker/laws.FnExactVecAdd", spec := "fnExactVecAdd", unfollowed := true, recurses := true, apart := false }
def FnExactVecAddSaid : Prop := fnExactVecAddRow.holds Try.pinned (OpenSpec.ofChange fnExactVecAddSpec)

/-- ITS FALSE NEIGHBOUR: 'it returns false'. Refute it at one input. -/
def fnExactVecAddWrong : ChangeSpec := { name := "fnExactVecAdd", fn := fun _ => fun
  | [d1, d2] => { results := [.lit (.bool false)], args := [d1, d2] }
  | _ => none }
def FnExactVecAddWrongFalsely : Prop := fnExactVecAddRow.holds Try.pinned (OpenSpec.ofChange fnExactVecAddWrong)

/-- 'laws.FnVecFits': WHATEVER THE INPUT: true; the input reads as it did. -/
def fnVecFitsSpec : ChangeSpec := { name := "fnVecFits", fn := fun _ => fun
  | [d] => { results := [.lit (.bool true)], args := [d] }
  | _ => none }
def fnVecFitsRow : OpenClaim := { program := "ythnpekmohbpncaa", sum := "7e7861844a4231ba41192774808caa9be4db3be19d180ab5b88ed67364a48c97", func := "loop.example/vectorpacker/laws.FnVecFits", spec := "fnVecFits", unfollowed := true, recurses := true, apart := false }
def FnVecFitsSaid : Prop := fnVecFitsRow.holds Try.pinned (OpenSpec.ofChange fnVecFitsSpec)

/-- ITS FALSE NEIGHBOUR: 'it returns false'. Refute it at one input. -/
def fnVecFitsWrong : ChangeSpec := { name := "fnVecFits", fn := fun _ => fun
  | [d] => { results := [.lit (.bool false)], args := [d] }
  | _ => none }
def FnVecFitsWrongFalsely : Prop := fnVecFitsRow.holds Try.pinned (OpenSpec.ofChange fnVecFitsWrong)

/-- 'laws.FnExactVecSub': WHATEVER THE INPUT: true; the input reads as it did. -/
def fnExactVecSubSpec : ChangeSpec := { name := "fnExactVecSub", fn := fun _ => fun
  | [d1, d2] => { results := [.lit (.bool true)], args := [d1, d2] }
  | _ => none }
def fnExactVecSubRow : OpenClaim := { program := "ythnpekmohbpncaa", sum := "7e7861844a4231ba41192774808caa9be4db3be19d180ab5b88ed67364a48c97", func := "loop.example/vectorpacker/laws.FnExactVecSub", spec := "fnExactVecSub", unfollowed := true, recurses := true, apart := false }
def FnExactVecSubSaid : Prop := fnExactVecSubRow.holds Try.pinned (OpenSpec.ofChange fnExactVecSubSpec)

/-- ITS FALSE NEIGHBOUR: 'it returns false'. Refute it at one input. -/
def fnExactVecSubWrong : ChangeSpec := { name := "fnExactVecSub", fn := fun _ => fun
  | [d1, d2] => { results := [.lit (.bool false)], args := [d1, d2] }
  | _ => none }
def FnExactVecSubWrongFalsely : Prop := fnExactVecSubRow.holds Try.pinned (OpenSpec.ofChange fnExactVecSubWrong)

/-- 'laws.FnVecDotAdd': WHATEVER THE INPUT: true; the input reads as it did. -/
def fnVecDotAddSpec : ChangeSpec := { name := "fnVecDotAdd", fn := fun _ => fun
  | [d] => { results := [.lit (.bool true)], args := [d] }
  | _ => none }
def fnVecDotAddRow : OpenClaim := { program := "ythnpekmohbpncaa", sum := "7e7861844a4231ba41192774808caa9be4db3be19d180ab5b88ed67364a48c97", func := "loop.example/vectorpacker/laws.FnVecDotAdd", spec := "fnVecDotAdd", unfollowed := true, recurses := true, apart := false }
def FnVecDotAddSaid : Prop := fnVecDotAddRow.holds Try.pinned (OpenSpec.ofChange fnVecDotAddSpec)

/-- ITS FALSE NEIGHBOUR: 'it returns false'. Refute it at one input. -/
def fnVecDotAddWrong : ChangeSpec := { name := "fnVecDotAdd", fn := fun _ => fun
  | [d] => { results := [.lit (.bool false)], args := [d] }
  | _ => none }
def FnVecDotAddWrongFalsely : Prop := fnVecDotAddRow.holds Try.pinned (OpenSpec.ofChange fnVecDotAddWrong)

/-- 'laws.FnVecMax': WHATEVER THE INPUT: true; the input reads as it did. -/
def fnVecMaxSpec : ChangeSpec := { name := "fnVecMax", fn := fun _ => fun
  | [d] => { results := [.lit (.bool true)], args := [d] }
  | _ => none }
def fnVecMaxRow : OpenClaim := { program := "ythnpekmohbpncaa", sum := "7e7861844a4231ba41192774808caa9be4db3be19d180ab5b88ed67364a48c97", func := "loop.example/vectorpacker/laws.FnVecMax", spec := "fnVecMax", unfollowed := true, recurses := true, apart := false }
def FnVecMaxSaid : Prop := fnVecMaxRow.holds Try.pinned (OpenSpec.ofChange fnVecMaxSpec)

/-- ITS FALSE NEIGHBOUR: 'it returns false'. Refute it at one input. -/
def fnVecMaxWrong : ChangeSpec := { name := "fnVecMax", fn := fun _ => fun
  | [d] => { results := [.lit (.bool false)], args := [d] }
  | _ => none }
def FnVecMaxWrongFalsely : Prop := fnVecMaxRow.holds Try.pinned (OpenSpec.ofChange fnVecMaxWrong)

/- THE SECOND FORM. 'bulk': how many values and letters a reading holds, each counted each time it is reached (what is shared counts as often as it is met; a slice's spare places count too). A statement '..UptoSaid' is the law's where the arguments, and the package variables that the reading takes, are together of bulk at most 1048576: NARROWER than '..Said'. Prove '..Said' where nothing that the law and all that it calls make is longer than what came in: it says more and counts as full. Else prove '..UptoSaid'. A law counts once. -/
mutual
def uptoBulk {H : Type} : DataW H → Nat
  | .lit (.string bytes) => bytes.length + 1
  | .lit _ => 1
  | .nil => 1
  | .ptr d => uptoBulk d + 1
  | .slice elems spare => uptoBulkAll elems + uptoBulkAll spare + 1
  | .agg parts => uptoBulkAll parts + 1
  | .iface _ d => uptoBulk d + 1
  | .map entries => uptoBulkEntries entries + 1
  | .held _ => 1
def uptoBulkAll {H : Type} : List (DataW H) → Nat
  | [] => 0
  | d :: r => uptoBulk d + uptoBulkAll r
def uptoBulkEntries {H : Type} : List (Lit × DataW H) → Nat
  | [] => 0
  | x :: r => uptoBulkEntry x + uptoBulkEntries r
def uptoBulkEntry {H : Type} : Lit × DataW H → Nat
  | (.string bytes, d) => bytes.length + uptoBulk d + 1
  | (_, d) => uptoBulk d + 1
 end
def uptoSmall : (H : Type) → List (DataW H) → Bool := fun _ ds => decide (uptoBulkAll ds ≤ 1048576)
def OpenSpec.upto (s : _root_.Go.ChangeSpec) : _root_.Go.OpenSpec := { _root_.Go.OpenSpec.ofChange s with cond := some uptoSmall }

/-- 'laws.FnExactVecValid', WHERE WHAT IT READS IS OF BULK AT MOST 1048576: true; the input reads as it did. -/
def fnExactVecValidUptoRow : OpenClaim := { program := "ythnpekmohbpncaa", sum := "7e7861844a4231ba41192774808caa9be4db3be19d180ab5b88ed67364a48c97", func := "loop.example/vectorpacker/laws.FnExactVecValid", spec := "fnExactVecValid", unfollowed := true, recurses := true, apart := false, narrowed := true }
def FnExactVecValidUptoSaid : Prop := fnExactVecValidUptoRow.holds Try.pinned (OpenSpec.upto fnExactVecValidSpec)

/-- 'laws.FnVecPart', WHERE WHAT IT READS IS OF BULK AT MOST 1048576: true; the input reads as it did. -/
def fnVecPartUptoRow : OpenClaim := { program := "ythnpekmohbpncaa", sum := "7e7861844a4231ba41192774808caa9be4db3be19d180ab5b88ed67364a48c97", func := "loop.example/vectorpacker/laws.FnVecPart", spec := "fnVecPart", unfollowed := true, recurses := true, apart := false, narrowed := true }
def FnVecPartUptoSaid : Prop := fnVecPartUptoRow.holds Try.pinned (OpenSpec.upto fnVecPartSpec)

/-- 'laws.FnExactVecFits', WHERE WHAT IT READS IS OF BULK AT MOST 1048576: true; the input reads as it did. -/
def fnExactVecFitsUptoRow : OpenClaim := { program := "ythnpekmohbpncaa", sum := "7e7861844a4231ba41192774808caa9be4db3be19d180ab5b88ed67364a48c97", func := "loop.example/vectorpacker/laws.FnExactVecFits", spec := "fnExactVecFits", unfollowed := true, recurses := true, apart := false, narrowed := true }
def FnExactVecFitsUptoSaid : Prop := fnExactVecFitsUptoRow.holds Try.pinned (OpenSpec.upto fnExactVecFitsSpec)

/-- 'laws.FnExactVecDot', WHERE WHAT IT READS IS OF BULK AT MOST 1048576: true; the input reads as it did. -/
def fnExactVecDotUptoRow : OpenClaim := { program := "ythnpekmohbpncaa", sum := "7e7861844a4231ba41192774808caa9be4db3be19d180ab5b88ed67364a48c97", func := "loop.example/vectorpacker/laws.FnExactVecDot", spec := "fnExactVecDot", unfollowed := true, recurses := true, apart := false, narrowed := true }
def FnExactVecDotUptoSaid : Prop := fnExactVecDotUptoRow.holds Try.pinned (OpenSpec.upto fnExactVecDotSpec)

/-- 'laws.FnVecFitsNot', WHERE WHAT IT READS IS OF BULK AT MOST 1048576: true; the input reads as it did. -/
def fnVecFitsNotUptoRow : OpenClaim := { program := "ythnpekmohbpncaa", sum := "7e7861844a4231ba41192774808caa9be4db3be19d180ab5b88ed67364a48c97", func := "loop.example/vectorpacker/laws.FnVecFitsNot", spec := "fnVecFitsNot", unfollowed := true, recurses := true, apart := false, narrowed := true }
def FnVecFitsNotUptoSaid : Prop := fnVecFitsNotUptoRow.holds Try.pinned (OpenSpec.upto fnVecFitsNotSpec)

/-- 'laws.FnExactVecMax', WHERE WHAT IT READS IS OF BULK AT MOST 1048576: true; the input reads as it did. -/
def fnExactVecMaxUptoRow : OpenClaim := { program := "ythnpekmohbpncaa", sum := "7e7861844a4231ba41192774808caa9be4db3be19d180ab5b88ed67364a48c97", func := "loop.example/vectorpacker/laws.FnExactVecMax", spec := "fnExactVecMax", unfollowed := true, recurses := true, apart := false, narrowed := true }
def FnExactVecMaxUptoSaid : Prop := fnExactVecMaxUptoRow.holds Try.pinned (OpenSpec.upto fnExactVecMaxSpec)

/-- 'laws.FnVecDot', WHERE WHAT IT READS IS OF BULK AT MOST 1048576: true; the input reads as it did. -/
def fnVecDotUptoRow : OpenClaim := { program := "ythnpekmohbpncaa", sum := "7e7861844a4231ba41192774808caa9be4db3be19d180ab5b88ed67364a48c97", func := "loop.example/vectorpacker/laws.FnVecDot", spec := "fnVecDot", unfollowed := true, recurses := true, apart := false, narrowed := true }
def FnVecDotUptoSaid : Prop := fnVecDotUptoRow.holds Try.pinned (OpenSpec.upto fnVecDotSpec)

/-- 'laws.FnExactVecAdd', WHERE WHAT IT READS IS OF BULK AT MOST 1048576: true; the input reads as it did. -/
def fnExactVecAddUptoRow : OpenClaim := { program := "ythnpekmohbpncaa", sum := "7e7861844a4231ba41192774808caa9be4db3be19d180ab5b88ed67364a48c97", func := "loop.example/vectorpacker/laws.FnExactVecAdd", spec := "fnExactVecAdd", unfollowed := true, recurses := true, apart := false, narrowed := true }
def FnExactVecAddUptoSaid : Prop := fnExactVecAddUptoRow.holds Try.pinned (OpenSpec.upto fnExactVecAddSpec)

/-- 'laws.FnVecFits', WHERE WHAT IT READS IS OF BULK AT MOST 1048576: true; the input reads as it did. -/
def fnVecFitsUptoRow : OpenClaim := { program := "ythnpekmohbpncaa", sum := "7e7861844a4231ba41192774808caa9be4db3be19d180ab5b88ed67364a48c97", func := "loop.example/vectorpacker/laws.FnVecFits", spec := "fnVecFits", unfollowed := true, recurses := true, apart := false, narrowed := true }
def FnVecFitsUptoSaid : Prop := fnVecFitsUptoRow.holds Try.pinned (OpenSpec.upto fnVecFitsSpec)

/-- 'laws.FnExactVecSub', WHERE WHAT IT READS IS OF BULK AT MOST 1048576: true; the input reads as it did. -/
def fnExactVecSubUptoRow : OpenClaim := { program := "ythnpekmohbpncaa", sum := "7e7861844a4231ba41192774808caa9be4db3be19d180ab5b88ed67364a48c97", func := "loop.example/vectorpacker/laws.FnExactVecSub", spec := "fnExactVecSub", unfollowed := true, recurses := true, apart := false, narrowed := true }
def FnExactVecSubUptoSaid : Prop := fnExactVecSubUptoRow.holds Try.pinned (OpenSpec.upto fnExactVecSubSpec)

/-- 'laws.FnVecDotAdd', WHERE WHAT IT READS IS OF BULK AT MOST 1048576: true; the input reads as it did. -/
def fnVecDotAddUptoRow : OpenClaim := { program := "ythnpekmohbpncaa", sum := "7e7861844a4231ba41192774808caa9be4db3be19d180ab5b88ed67364a48c97", func := "loop.example/vectorpacker/laws.FnVecDotAdd", spec := "fnVecDotAdd", unfollowed := true, recurses := true, apart := false, narrowed := true }
def FnVecDotAddUptoSaid : Prop := fnVecDotAddUptoRow.holds Try.pinned (OpenSpec.upto fnVecDotAddSpec)

/-- 'laws.FnVecMax', WHERE WHAT IT READS IS OF BULK AT MOST 1048576: true; the input reads as it did. -/
def fnVecMaxUptoRow : OpenClaim := { program := "ythnpekmohbpncaa", sum := "7e7861844a4231ba41192774808caa9be4db3be19d180ab5b88ed67364a48c97", func := "loop.example/vectorpacker/laws.FnVecMax", spec := "fnVecMax", unfollowed := true, recurses := true, apart := false, narrowed := true }
def FnVecMaxUptoSaid : Prop := fnVecMaxUptoRow.holds Try.pinned (OpenSpec.upto fnVecMaxSpec)

end Rows
end Go.Proofs.Ythnpekmohbpncaa
