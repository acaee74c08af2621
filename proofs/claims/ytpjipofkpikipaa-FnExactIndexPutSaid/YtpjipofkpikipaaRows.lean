/-
  No cell of these rows narrows 'for every input' (looked for: loops, veiled, ifaces, maps, wideKeys, modest, calm, conditions, laid).
  DERIVED. THE GIVEN ROWS OF THIS SEAT. 13 by the template 'for every input the law returns true; each argument reads behind the call as it read before'; 0 by the template 'total and deterministic' (their statements: YtpjipofkpikipaaTotals.lean).
  GIVEN WITH THE SEED: the statements are not yours to turn. If you find one false, say at which input.
  Laid BY PROGRAM, IN A SANDBOX (cutbox-rows.mjs): the forced cells as the released guide's own fill.sh prints them over the translation 209c34d2503a7751… (all of the seat's roots in one cut). By AI agents, Wed Nov 11 2026. No macro, syntax, notation, axiom, sorry.
-/
import Derived.Test.YtpjipofkpikipaaChecked
import GoSem.Claim
import GoSem.ClaimJoined
import GoSem.ClaimMapViews
import Derived.JoinedTies
import Derived.KernelRfl
namespace Go.Proofs.Ytpjipofkpikipaa
/- THE CELL 'sum', in the pinned program and in every row, IS THE sha256 OF THE DUMP (.gsa) THAT YtpjipofkpikipaaProg.lean LOADS. Nothing in Lean hashes anything: it is a label: what it is worth is what the hold of that sum in a sandbox is worth. -/
noncomputable def Try.pinned : Pinned := { name := "ytpjipofkpikipaa", sum := "209c34d2503a7751e8517cf161264de60b68427461d013352b8b18b80498d52b", checked := Try.checked }
namespace Rows
def none {H : Type} : Left H := { results := [], args := [] }

/-- 'laws.FnIndexTop': WHATEVER THE INPUT: true; the input reads as it did. -/
def fnIndexTopSpec : ChangeSpec := { name := "fnIndexTop", fn := fun _ => fun
  | [d] => { results := [.lit (.bool true)], args := [d] }
  | _ => none }
def fnIndexTopRow : OpenClaim := { program := "ytpjipofkpikipaa", sum := "209c34d2503a7751e8517cf161264de60b68427461d013352b8b18b80498d52b", func := "loop.example/vectorpacker/laws.FnIndexTop", spec := "fnIndexTop", unfollowed := true, recurses := true, apart := false }
def FnIndexTopSaid : Prop := fnIndexTopRow.holds Try.pinned (OpenSpec.ofChange fnIndexTopSpec)

/-- ITS FALSE NEIGHBOUR: 'it returns false'. Refute it at one input. -/
def fnIndexTopWrong : ChangeSpec := { name := "fnIndexTop", fn := fun _ => fun
  | [d] => { results := [.lit (.bool false)], args := [d] }
  | _ => none }
def FnIndexTopWrongFalsely : Prop := fnIndexTopRow.holds Try.pinned (OpenSpec.ofChange fnIndexTopWrong)

/-- 'laws.FnExactIndexOf': WHATEVER THE INPUT: true; the input reads as it did. -/
def fnExactIndexOfSpec : ChangeSpec := { name := "fnExactIndexOf", fn := fun _ => fun
  | [d] => { results := [.lit (.bool true)], args := [d] }
  | _ => none }
def fnExactIndexOfRow : OpenClaim := { program := "ytpjipofkpikipaa", sum := "209c34d2503a7751e8517cf161264de60b68427461d013352b8b18b80498d52b", func := "loop.example/vectorpacker/laws.FnExactIndexOf", spec := "fnExactIndexOf", unfollowed := true, recurses := true, apart := false }
def FnExactIndexOfSaid : Prop := fnExactIndexOfRow.holds Try.pinned (OpenSpec.ofChange fnExactIndexOfSpec)

/-- ITS FALSE NEIGHBOUR: 'it returns false'. Refute it at one input. -/
def fnExactIndexOfWrong : ChangeSpec := { name := "fnExactIndexOf", fn := fun _ => fun
  | [d] => { results := [.lit (.bool false)], args := [d] }
  | _ => none }
def FnExactIndexOfWrongFalsely : Prop := fnExactIndexOfRow.holds Try.pinned (OpenSpec.ofChange fnExactIndexOfWrong)

/-- 'laws.FnExactIndexValid': WHATEVER THE INPUT: true; the input reads as it did. -/
def fnExactIndexValidSpec : ChangeSpec := { name := "fnExactIndexValid", fn := fun _ => fun
  | [d] => { results := [.lit (.bool true)], args := [d] }
  | _ => none }
def fnExactIndexValidRow : OpenClaim := { program := "ytpjipofkpikipaa", sum := "209c34d2503a7751e8517cf161264de60b68427461d013352b8b18b80498d52b", func := "loop.example/vectorpacker/laws.FnExactIndexValid", spec := "fnExactIndexValid", unfollowed := true, recurses := true, apart := false }
def FnExactIndexValidSaid : Prop := fnExactIndexValidRow.holds Try.pinned (OpenSpec.ofChange fnExactIndexValidSpec)

/-- ITS FALSE NEIGHBOUR: 'it returns false'. Refute it at one input. -/
def fnExactIndexValidWrong : ChangeSpec := { name := "fnExactIndexValid", fn := fun _ => fun
  | [d] => { results := [.lit (.bool false)], args := [d] }
  | _ => none }
def FnExactIndexValidWrongFalsely : Prop := fnExactIndexValidRow.holds Try.pinned (OpenSpec.ofChange fnExactIndexValidWrong)

/-- 'laws.FnIndex': WHATEVER THE INPUT: true; the input reads as it did. -/
def fnIndexSpec : ChangeSpec := { name := "fnIndex", fn := fun _ => fun
  | [d] => { results := [.lit (.bool true)], args := [d] }
  | _ => none }
def fnIndexRow : OpenClaim := { program := "ytpjipofkpikipaa", sum := "209c34d2503a7751e8517cf161264de60b68427461d013352b8b18b80498d52b", func := "loop.example/vectorpacker/laws.FnIndex", spec := "fnIndex", unfollowed := true, recurses := true, apart := false }
def FnIndexSaid : Prop := fnIndexRow.holds Try.pinned (OpenSpec.ofChange fnIndexSpec)

/-- ITS FALSE NEIGHBOUR: 'it returns false'. Refute it at one input. -/
def fnIndexWrong : ChangeSpec := { name := "fnIndex", fn := fun _ => fun
  | [d] => { results := [.lit (.bool false)], args := [d] }
  | _ => none }
def FnIndexWrongFalsely : Prop := fnIndexRow.holds Try.pinned (OpenSpec.ofChange fnIndexWrong)

/-- 'laws.FnIndexPart': WHATEVER THE INPUT: true; the input reads as it did. -/
def fnIndexPartSpec : ChangeSpec := { name := "fnIndexPart", fn := fun _ => fun
  | [d] => { results := [.lit (.bool true)], args := [d] }
  | _ => none }
def fnIndexPartRow : OpenClaim := { program := "ytpjipofkpikipaa", sum := "209c34d2503a7751e8517cf161264de60b68427461d013352b8b18b80498d52b", func := "loop.example/vectorpacker/laws.FnIndexPart", spec := "fnIndexPart", unfollowed := true, recurses := true, apart := false }
def FnIndexPartSaid : Prop := fnIndexPartRow.holds Try.pinned (OpenSpec.ofChange fnIndexPartSpec)

/-- ITS FALSE NEIGHBOUR: 'it returns false'. Refute it at one input. -/
def fnIndexPartWrong : ChangeSpec := { name := "fnIndexPart", fn := fun _ => fun
  | [d] => { results := [.lit (.bool false)], args := [d] }
  | _ => none }
def FnIndexPartWrongFalsely : Prop := fnIndexPartRow.holds Try.pinned (OpenSpec.ofChange fnIndexPartWrong)

/-- 'laws.FnExactIndexFirst': WHATEVER THE INPUT: true; the input reads as it did. -/
def fnExactIndexFirstSpec : ChangeSpec := { name := "fnExactIndexFirst", fn := fun _ => fun
  | [d1, d2] => { results := [.lit (.bool true)], args := [d1, d2] }
  | _ => none }
def fnExactIndexFirstRow : OpenClaim := { program := "ytpjipofkpikipaa", sum := "209c34d2503a7751e8517cf161264de60b68427461d013352b8b18b80498d52b", func := "loop.example/vectorpacker/laws.FnExactIndexFirst", spec := "fnExactIndexFirst", unfollowed := true, recurses := true, apart := false }
def FnExactIndexFirstSaid : Prop := fnExactIndexFirstRow.holds Try.pinned (OpenSpec.ofChange fnExactIndexFirstSpec)

/-- ITS FALSE NEIGHBOUR: 'it returns false'. Refute it at one input. -/
def fnExactIndexFirstWrong : ChangeSpec := { name := "fnExactIndexFirst", fn := fun _ => fun
  | [d1, d2] => { results := [.lit (.bool false)], args := [d1, d2] }
  | _ => none }
def FnExactIndexFirstWrongFalsely : Prop := fnExactIndexFirstRow.holds Try.pinned (OpenSpec.ofChange fnExactIndexFirstWrong)

/-- 'laws.FnIndexLess': WHATEVER THE INPUT: true; the input reads as it did. -/
def fnIndexLessSpec : ChangeSpec := { name := "fnIndexLess", fn := fun _ => fun
  | [d1, d2] => { results := [.lit (.bool true)], args := [d1, d2] }
  | _ => none }
def fnIndexLessRow : OpenClaim := { program := "ytpjipofkpikipaa", sum := "209c34d2503a7751e8517cf161264de60b68427461d013352b8b18b80498d52b", func := "loop.example/vectorpacker/laws.FnIndexLess", spec := "fnIndexLess", unfollowed := true, recurses := true, apart := false }
def FnIndexLessSaid : Prop := fnIndexLessRow.holds Try.pinned (OpenSpec.ofChange fnIndexLessSpec)

/-- ITS FALSE NEIGHBOUR: 'it returns false'. Refute it at one input. -/
def fnIndexLessWrong : ChangeSpec := { name := "fnIndexLess", fn := fun _ => fun
  | [d1, d2] => { results := [.lit (.bool false)], args := [d1, d2] }
  | _ => none }
def FnIndexLessWrongFalsely : Prop := fnIndexLessRow.holds Try.pinned (OpenSpec.ofChange fnIndexLessWrong)

/-- 'laws.FnIndexFirst': WHATEVER THE INPUT: true; the input reads as it did. -/
def fnIndexFirstSpec : ChangeSpec := { name := "fnIndexFirst", fn := fun _ => fun
  | [d] => { results := [.lit (.bool true)], args := [d] }
  | _ => none }
def fnIndexFirstRow : OpenClaim := { program := "ytpjipofkpikipaa", sum := "209c34d2503a7751e8517cf161264de60b68427461d013352b8b18b80498d52b", func := "loop.example/vectorpacker/laws.FnIndexFirst", spec := "fnIndexFirst", unfollowed := true, recurses := true, apart := false }
def FnIndexFirstSaid : Prop := fnIndexFirstRow.holds Try.pinned (OpenSpec.ofChange fnIndexFirstSpec)

/-- ITS FALSE NEIGHBOUR: 'it returns false'. Refute it at one input. -/
def fnIndexFirstWrong : ChangeSpec := { name := "fnIndexFirst", fn := fun _ => fun
  | [d] => { results := [.lit (.bool false)], args := [d] }
  | _ => none }
def FnIndexFirstWrongFalsely : Prop := fnIndexFirstRow.holds Try.pinned (OpenSpec.ofChange fnIndexFirstWrong)

/-- 'laws.FnIndexNone': WHATEVER THE INPUT: true; the input reads as it did. -/
def fnIndexNoneSpec : ChangeSpec := { name := "fnIndexNone", fn := fun _ => fun
  | [d] => { results := [.lit (.bool true)], args := [d] }
  | _ => none }
def fnIndexNoneRow : OpenClaim := { program := "ytpjipofkpikipaa", sum := "209c34d2503a7751e8517cf161264de60b68427461d013352b8b18b80498d52b", func := "loop.example/vectorpacker/laws.FnIndexNone", spec := "fnIndexNone", unfollowed := true, recurses := true, apart := false }
def FnIndexNoneSaid : Prop := fnIndexNoneRow.holds Try.pinned (OpenSpec.ofChange fnIndexNoneSpec)

/-- ITS FALSE NEIGHBOUR: 'it returns false'. Refute it at one input. -/
def fnIndexNoneWrong : ChangeSpec := { name := "fnIndexNone", fn := fun _ => fun
  | [d] => { results := [.lit (.bool false)], args := [d] }
  | _ => none }
def FnIndexNoneWrongFalsely : Prop := fnIndexNoneRow.holds Try.pinned (OpenSpec.ofChange fnIndexNoneWrong)

/-- 'laws.FnExactIndexPut': WHATEVER THE INPUT: true; the input reads as it did. -/
def fnExactIndexPutSpec : ChangeSpec := { name := "fnExactIndexPut", fn := fun _ => fun
  | [d1, d2, d3] => { results := [.lit (.bool true)], args := [d1, d2, d3] }
  | _ => none }
def fnExactIndexPutRow : OpenClaim := { program := "ytpjipofkpikipaa", sum := "209c34d2503a7751e8517cf161264de60b68427461d013352b8b18b80498d52b", func := "loop.example/vectorpacker/laws.FnExactIndexPut", spec := "fnExactIndexPut", unfollowed := true, recurses := true, apart := false }
def FnExactIndexPutSaid : Prop := fnExactIndexPutRow.holds Try.pinned (OpenSpec.ofChange fnExactIndexPutSpec)

/-- ITS FALSE NEIGHBOUR: 'it returns false'. Refute it at one input. -/
def fnExactIndexPutWrong : ChangeSpec := { name := "fnExactIndexPut", fn := fun _ => fun
  | [d1, d2, d3] => { results := [.lit (.bool false)], args := [d1, d2, d3] }
  | _ => none }
def FnExactIndexPutWrongFalsely : Prop := fnExactIndexPutRow.holds Try.pinned (OpenSpec.ofChange fnExactIndexPutWrong)

/-- 'laws.FnIndexPut': WHATEVER THE INPUT: true; the input reads as it did. -/
def fnIndexPutSpec : ChangeSpec := { name := "fnIndexPut", fn := fun _ => fun
  | [d] => { results := [.lit (.bool true)], args := [d] }
  | _ => none }
def fnIndexPutRow : OpenClaim := { program := "ytpjipofkpikipaa", sum := "209c34d2503a7751e8517cf161264de60b68427461d013352b8b18b80498d52b", func := "loop.example/vectorpacker/laws.FnIndexPut", spec := "fnIndexPut", unfollowed := true, recurses := true, apart := false }
def FnIndexPutSaid : Prop := fnIndexPutRow.holds Try.pinned (OpenSpec.ofChange fnIndexPutSpec)

/-- ITS FALSE NEIGHBOUR: 'it returns false'. Refute it at one input. -/
def fnIndexPutWrong : ChangeSpec := { name := "fnIndexPut", fn := fun _ => fun
  | [d] => { results := [.lit (.bool false)], args := [d] }
  | _ => none }
def FnIndexPutWrongFalsely : Prop := fnIndexPutRow.holds Try.pinned (OpenSpec.ofChange fnIndexPutWrong)

/-- 'laws.FnIndexPutBack': WHATEVER THE INPUT: true; the input reads as it did. -/
def fnIndexPutBackSpec : ChangeSpec := { name := "fnIndexPutBack", fn := fun _ => fun
  | [d] => { results := [.lit (.bool true)], args := [d] }
  | _ => none }
def fnIndexPutBackRow : OpenClaim := { program := "ytpjipofkpikipaa", sum := "209c34d2503a7751e8517cf161264de60b68427461d013352b8b18b80498d52b", func := "loop.example/vectorpacker/laws.FnIndexPutBack", spec := "fnIndexPutBack", unfollowed := true, recurses := true, apart := false }
def FnIndexPutBackSaid : Prop := fnIndexPutBackRow.holds Try.pinned (OpenSpec.ofChange fnIndexPutBackSpec)

/-- ITS FALSE NEIGHBOUR: 'it returns false'. Refute it at one input. -/
def fnIndexPutBackWrong : ChangeSpec := { name := "fnIndexPutBack", fn := fun _ => fun
  | [d] => { results := [.lit (.bool false)], args := [d] }
  | _ => none }
def FnIndexPutBackWrongFalsely : Prop := fnIndexPutBackRow.holds Try.pinned (OpenSpec.ofChange fnIndexPutBackWrong)

/-- 'laws.FnIndexPutWay': WHATEVER THE INPUT: true; the input reads as it did. -/
def fnIndexPutWaySpec : ChangeSpec := { name := "fnIndexPutWay", fn := fun _ => fun
  | [d] => { results := [.lit (.bool true)], args := [d] }
  | _ => none }
def fnIndexPutWayRow : OpenClaim := { program := "ytpjipofkpikipaa", sum := "209c34d2503a7751e8517cf161264de60b68427461d013352b8b18b80498d52b", func := "loop.example/vectorpacker/laws.FnIndexPutWay", spec := "fnIndexPutWay", unfollowed := true, recurses := true, apart := false }
def FnIndexPutWaySaid : Prop := fnIndexPutWayRow.holds Try.pinned (OpenSpec.ofChange fnIndexPutWaySpec)

/-- ITS FALSE NEIGHBOUR: 'it returns false'. Refute it at one input. -/
def fnIndexPutWayWrong : ChangeSpec := { name := "fnIndexPutWay", fn := fun _ => fun
  | [d] => { results := [.lit (.bool false)], args := [d] }
  | _ => none }
def FnIndexPutWayWrongFalsely : Prop := fnIndexPutWayRow.holds Try.pinned (OpenSpec.ofChange fnIndexPutWayWrong)

/- THE SECOND FORM. 'bulk': how many values and letters a reading holds, each counted each time it is reached (what is shared counts as often as it is met; a slice's spare places count too). A statement '..UptoSaid' is the law's where the arguments, and the package variables that the reading takes, are together of bulk at most 1048576: NARROWER than '..Said'. Prove '..Said' where nothing that the law and all that it calls make is longer than what came in: it says more and counts as full. Else prove '..UptoSaid'. A law counts once. -/
mutual
def uptoBulk {H : Type} : DataW H → Nat
  | .lit (.string bytes) => bytes.length + 1
  | .lit _ => 1
  | .nil => 1
  | .ptr d => uptoBulk d + 1
  | .slice elems spare => uptoBulkAll elems + uptoBulkAll spare + 1
  | .agg parts => uptoBulkAll parts + 1
  | .iface _ d => uptoBulk d + 1
  | .map entries => uptoBulkEntries entries + 1
  | .held _ => 1
def uptoBulkAll {H : Type} : List (DataW H) → Nat
  | [] => 0
  | d :: r => uptoBulk d + uptoBulkAll r
def uptoBulkEntries {H : Type} : List (Lit × DataW H) → Nat
  | [] => 0
  | x :: r => uptoBulkEntry x + uptoBulkEntries r
def uptoBulkEntry {H : Type} : Lit × DataW H → Nat
  | (.string bytes, d) => bytes.length + uptoBulk d + 1
  | (_, d) => uptoBulk d + 1
 end
def uptoSmall : (H : Type) → List (DataW H) → Bool := fun _ ds => decide (uptoBulkAll ds ≤ 1048576)
def OpenSpec.upto (s : _root_.Go.ChangeSpec) : _root_.Go.OpenSpec := { _root_.Go.OpenSpec.ofChange s with cond := some uptoSmall }

/-- 'laws.FnIndexTop', WHERE WHAT IT READS IS OF BULK AT MOST 1048576: true; the input reads as it did. -/
def fnIndexTopUptoRow : OpenClaim := { program := "ytpjipofkpikipaa", sum := "209c34d2503a7751e8517cf161264de60b68427461d013352b8b18b80498d52b", func := "loop.example/vectorpacker/laws.FnIndexTop", spec := "fnIndexTop", unfollowed := true, recurses := true, apart := false, narrowed := true }
def FnIndexTopUptoSaid : Prop := fnIndexTopUptoRow.holds Try.pinned (OpenSpec.upto fnIndexTopSpec)

/-- 'laws.FnExactIndexOf', WHERE WHAT IT READS IS OF BULK AT MOST 1048576: true; the input reads as it did. -/
def fnExactIndexOfUptoRow : OpenClaim := { program := "ytpjipofkpikipaa", sum := "209c34d2503a7751e8517cf161264de60b68427461d013352b8b18b80498d52b", func := "loop.example/vectorpacker/laws.FnExactIndexOf", spec := "fnExactIndexOf", unfollowed := true, recurses := true, apart := false, narrowed := true }
def FnExactIndexOfUptoSaid : Prop := fnExactIndexOfUptoRow.holds Try.pinned (OpenSpec.upto fnExactIndexOfSpec)

/-- 'laws.FnExactIndexValid', WHERE WHAT IT READS IS OF BULK AT MOST 1048576: true; the input reads as it did. -/
def fnExactIndexValidUptoRow : OpenClaim := { program := "ytpjipofkpikipaa", sum := "209c34d2503a7751e8517cf161264de60b68427461d013352b8b18b80498d52b", func := "loop.example/vectorpacker/laws.FnExactIndexValid", spec := "fnExactIndexValid", unfollowed := true, recurses := true, apart := false, narrowed := true }
def FnExactIndexValidUptoSaid : Prop := fnExactIndexValidUptoRow.holds Try.pinned (OpenSpec.upto fnExactIndexValidSpec)

/-- 'laws.FnIndex', WHERE WHAT IT READS IS OF BULK AT MOST 1048576: true; the input reads as it did. -/
def fnIndexUptoRow : OpenClaim := { program := "ytpjipofkpikipaa", sum := "209c34d2503a7751e8517cf161264de60b68427461d013352b8b18b80498d52b", func := "loop.example/vectorpacker/laws.FnIndex", spec := "fnIndex", unfollowed := true, recurses := true, apart := false, narrowed := true }
def FnIndexUptoSaid : Prop := fnIndexUptoRow.holds Try.pinned (OpenSpec.upto fnIndexSpec)

/-- 'laws.FnIndexPart', WHERE WHAT IT READS IS OF BULK AT MOST 1048576: true; the input reads as it did. -/
def fnIndexPartUptoRow : OpenClaim := { program := "ytpjipofkpikipaa", sum := "209c34d2503a7751e8517cf161264de60b68427461d013352b8b18b80498d52b", func := "loop.example/vectorpacker/laws.FnIndexPart", spec := "fnIndexPart", unfollowed := true, recurses := true, apart := false, narrowed := true }
def FnIndexPartUptoSaid : Prop := fnIndexPartUptoRow.holds Try.pinned (OpenSpec.upto fnIndexPartSpec)

/-- 'laws.FnExactIndexFirst', WHERE WHAT IT READS IS OF BULK AT MOST 1048576: true; the input reads as it did. -/
def fnExactIndexFirstUptoRow : OpenClaim := { program := "ytpjipofkpikipaa", sum := "209c34d2503a7751e8517cf161264de60b68427461d013352b8b18b80498d52b", func := "loop.example/vectorpacker/laws.FnExactIndexFirst", spec := "fnExactIndexFirst", unfollowed := true, recurses := true, apart := false, narrowed := true }
def FnExactIndexFirstUptoSaid : Prop := fnExactIndexFirstUptoRow.holds Try.pinned (OpenSpec.upto fnExactIndexFirstSpec)

/-- 'laws.FnIndexLess', WHERE WHAT IT READS IS OF BULK AT MOST 1048576: true; the input reads as it did. -/
def fnIndexLessUptoRow : OpenClaim := { program := "ytpjipofkpikipaa", sum := "209c34d2503a7751e8517cf161264de60b68427461d013352b8b18b80498d52b", func := "loop.example/vectorpacker/laws.FnIndexLess", spec := "fnIndexLess", unfollowed := true, recurses := true, apart := false, narrowed := true }
def FnIndexLessUptoSaid : Prop := fnIndexLessUptoRow.holds Try.pinned (OpenSpec.upto fnIndexLessSpec)

/-- 'laws.FnIndexFirst', WHERE WHAT IT READS IS OF BULK AT MOST 1048576: true; the input reads as it did. -/
def fnIndexFirstUptoRow : OpenClaim := { program := "ytpjipofkpikipaa", sum := "209c34d2503a7751e8517cf161264de60b68427461d013352b8b18b80498d52b", func := "loop.example/vectorpacker/laws.FnIndexFirst", spec := "fnIndexFirst", unfollowed := true, recurses := true, apart := false, narrowed := true }
def FnIndexFirstUptoSaid : Prop := fnIndexFirstUptoRow.holds Try.pinned (OpenSpec.upto fnIndexFirstSpec)

/-- 'laws.FnIndexNone', WHERE WHAT IT READS IS OF BULK AT MOST 1048576: true; the input reads as it did. -/
def fnIndexNoneUptoRow : OpenClaim := { program := "ytpjipofkpikipaa", sum := "209c34d2503a7751e8517cf161264de60b68427461d013352b8b18b80498d52b", func := "loop.example/vectorpacker/laws.FnIndexNone", spec := "fnIndexNone", unfollowed := true, recurses := true, apart := false, narrowed := true }
def FnIndexNoneUptoSaid : Prop := fnIndexNoneUptoRow.holds Try.pinned (OpenSpec.upto fnIndexNoneSpec)

/-- 'laws.FnExactIndexPut', WHERE WHAT IT READS IS OF BULK AT MOST 1048576: true; the input reads as it did. -/
def fnExactIndexPutUptoRow : OpenClaim := { program := "ytpjipofkpikipaa", sum := "209c34d2503a7751e8517cf161264de60b68427461d013352b8b18b80498d52b", func := "loop.example/vectorpacker/laws.FnExactIndexPut", spec := "fnExactIndexPut", unfollowed := true, recurses := true, apart := false, narrowed := true }
def FnExactIndexPutUptoSaid : Prop := fnExactIndexPutUptoRow.holds Try.pinned (OpenSpec.upto fnExactIndexPutSpec)

/-- 'laws.FnIndexPut', WHERE WHAT IT READS IS OF BULK AT MOST 1048576: true; the input reads as it did. -/
def fnIndexPutUptoRow : OpenClaim := { program := "ytpjipofkpikipaa", sum := "209c34d2503a7751e8517cf161264de60b68427461d013352b8b18b80498d52b", func := "loop.example/vectorpacker/laws.FnIndexPut", spec := "fnIndexPut", unfollowed := true, recurses := true, apart := false, narrowed := true }
def FnIndexPutUptoSaid : Prop := fnIndexPutUptoRow.holds Try.pinned (OpenSpec.upto fnIndexPutSpec)

/-- 'laws.FnIndexPutBack', WHERE WHAT IT READS IS OF BULK AT MOST 1048576: true; the input reads as it did. -/
def fnIndexPutBackUptoRow : OpenClaim := { program := "ytpjipofkpikipaa", sum := "209c34d2503a7751e8517cf161264de60b68427461d013352b8b18b80498d52b", func := "loop.example/vectorpacker/laws.FnIndexPutBack", spec := "fnIndexPutBack", unfollowed := true, recurses := true, apart := false, narrowed := true }
def FnIndexPutBackUptoSaid : Prop := fnIndexPutBackUptoRow.holds Try.pinned (OpenSpec.upto fnIndexPutBackSpec)

/-- 'laws.FnIndexPutWay', WHERE WHAT IT READS IS OF BULK AT MOST 1048576: true; the input reads as it did. -/
def fnIndexPutWayUptoRow : OpenClaim := { program := "ytpjipofkpikipaa", sum := "209c34d2503a7751e8517cf161264de60b68427461d013352b8b18b80498d52b", func := "loop.example/vectorpacker/laws.FnIndexPutWay", spec := "fnIndexPutWay", unfollowed := true, recurses := true, apart := false, narrowed := true }
def FnIndexPutWayUptoSaid : Prop := fnIndexPutWayUptoRow.holds Try.pinned (OpenSpec.upto fnIndexPutWaySpec)

end Rows
end Go.Proofs.Ytpjipofkpikipaa
