/-
  DERIVED. GIVEN WITH THE SEED: THE CARDS: each row of YtojbljaleconpaaDoorRows.lean that lists a variable, with what it lists TIED to the program's text (the seventh form; the later family's looks); each row that meets fmt, with fmt's text TOLD by the authors' own Lean function (tested against real Go, not proved from fmt's source: count such statements apart). THE CARD IS WHAT COUNTS. Prove the row's statement (the work); the ties are given (YtojbljaleconpaaDoorTie.lean); close each card by the builder's one call (the guide's Derived/Test/ToyasCard.lean, 'card_holds'). Laid BY PROGRAM, IN A SANDBOX (cutbox-door.mjs). By AI agents, Wed Nov 11 2026. No macro, syntax, notation, axiom, sorry.
-/
import Derived.Test.YtojbljaleconpaaDoorRows
import GoSem.ClaimSeven
namespace Go.Proofs.YtojbljaleconpaaDoor
namespace Rows

/-- THE TIED CARD OF 'laws.FnExactVecText'. -/
def fnExactVecTextCard : Claim7 := { stood := { row := fnExactVecTextRow, standIns := [], harness := (true, "275588bf90570db554918ff63319a7fa1e7489ffc6ef8409d9b59331ef70f39a"), looks := false }, kinds := [], alts := [], laidByText := true, laidKinds := [.data, .data, .data], laidTests := true, laidLooks := .later }
def FnExactVecTextCardSaid : Prop := Claim7.holds Tryd.pinned (.plain (OpenSpec.ofChange fnExactVecTextSpec)) fnExactVecTextCard

/-- THE TIED CARD OF 'laws.FnVecText'. -/
def fnVecTextCard : Claim7 := { stood := { row := fnVecTextRow, standIns := [], harness := (true, "275588bf90570db554918ff63319a7fa1e7489ffc6ef8409d9b59331ef70f39a"), looks := false }, kinds := [], alts := [], laidByText := true, laidKinds := [.data, .data, .data], laidTests := true, laidLooks := .later }
def FnVecTextCardSaid : Prop := Claim7.holds Tryd.pinned (.plain (OpenSpec.ofChange fnVecTextSpec)) fnVecTextCard

/-- THE SECOND FORM's CARD OF 'laws.FnExactVecText'. -/
def fnExactVecTextUptoCard : Claim7 := { stood := { row := fnExactVecTextUptoRow, standIns := [], harness := (true, "275588bf90570db554918ff63319a7fa1e7489ffc6ef8409d9b59331ef70f39a"), looks := false }, kinds := [], alts := [], laidByText := true, laidKinds := [.data, .data, .data], laidTests := true, laidLooks := .later }
def FnExactVecTextUptoCardSaid : Prop := Claim7.holds Tryd.pinned (.plain (OpenSpec.upto fnExactVecTextSpec)) fnExactVecTextUptoCard

/-- THE SECOND FORM's CARD OF 'laws.FnVecText'. -/
def fnVecTextUptoCard : Claim7 := { stood := { row := fnVecTextUptoRow, standIns := [], harness := (true, "275588bf90570db554918ff63319a7fa1e7489ffc6ef8409d9b59331ef70f39a"), looks := false }, kinds := [], alts := [], laidByText := true, laidKinds := [.data, .data, .data], laidTests := true, laidLooks := .later }
def FnVecTextUptoCardSaid : Prop := Claim7.holds Tryd.pinned (.plain (OpenSpec.upto fnVecTextSpec)) fnVecTextUptoCard
end Rows
end Go.Proofs.YtojbljaleconpaaDoor
