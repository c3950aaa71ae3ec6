/-
  DERIVED. GIVEN WITH THE SEED: THE CARDS: each row of YtlmkhapejiippaaDoorRows.lean that lists a variable, with what it lists TIED to the program's text (the seventh form; the later family's looks); each row that meets fmt, with fmt's text TOLD by the authors' own Lean function (tested against real Go, not proved from fmt's source: count such statements apart). THE CARD IS WHAT COUNTS. Prove the row's statement (the work); the ties are given (YtlmkhapejiippaaDoorTie.lean); close each card by the builder's one call (the guide's Derived/Test/ToyasCard.lean, 'card_holds'). Laid BY PROGRAM, IN A SANDBOX (cutbox-door.mjs). By AI agents, Wed Nov 11 2026. No macro, syntax, notation, axiom, sorry.
-/
import Derived.Test.YtlmkhapejiippaaDoorRows
import GoSem.ClaimSeven
namespace Go.Proofs.YtlmkhapejiippaaDoor
namespace Rows

/-- THE TIED CARD OF 'springhouselaw06.BitsPlays'. -/
def bitsPlaysCard : Claim7 := { stood := { row := bitsPlaysRow, standIns := [], harness := (true, "81255780e7df6f881b94a629db5fba3687cde162013470ac596b1b5b49187fa2"), looks := false }, kinds := [], alts := [], laidByText := true, laidKinds := [.data], laidTests := true, laidLooks := .later }
def BitsPlaysCardSaid : Prop := Claim7.holds Tryd.pinned (.plain (OpenSpec.ofChange bitsPlaysSpec)) bitsPlaysCard

/-- THE TIED CARD OF 'springhouselaw06.BitsClones'. -/
def bitsClonesCard : Claim7 := { stood := { row := bitsClonesRow, standIns := [], harness := (true, "81255780e7df6f881b94a629db5fba3687cde162013470ac596b1b5b49187fa2"), looks := false }, kinds := [], alts := [], laidByText := true, laidKinds := [.data], laidTests := true, laidLooks := .later }
def BitsClonesCardSaid : Prop := Claim7.holds Tryd.pinned (.plain (OpenSpec.ofChange bitsClonesSpec)) bitsClonesCard

/-- THE TIED CARD OF 'springhouselaw06.BitsMakes'. -/
def bitsMakesCard : Claim7 := { stood := { row := bitsMakesRow, standIns := [], harness := (true, "81255780e7df6f881b94a629db5fba3687cde162013470ac596b1b5b49187fa2"), looks := false }, kinds := [], alts := [], laidByText := true, laidKinds := [.data], laidTests := true, laidLooks := .later }
def BitsMakesCardSaid : Prop := Claim7.holds Tryd.pinned (.plain (OpenSpec.ofChange bitsMakesSpec)) bitsMakesCard

/-- THE SECOND FORM's CARD OF 'springhouselaw06.BitsPlays'. -/
def bitsPlaysUptoCard : Claim7 := { stood := { row := bitsPlaysUptoRow, standIns := [], harness := (true, "81255780e7df6f881b94a629db5fba3687cde162013470ac596b1b5b49187fa2"), looks := false }, kinds := [], alts := [], laidByText := true, laidKinds := [.data], laidTests := true, laidLooks := .later }
def BitsPlaysUptoCardSaid : Prop := Claim7.holds Tryd.pinned (.plain (OpenSpec.upto bitsPlaysSpec)) bitsPlaysUptoCard

/-- THE SECOND FORM's CARD OF 'springhouselaw06.BitsClones'. -/
def bitsClonesUptoCard : Claim7 := { stood := { row := bitsClonesUptoRow, standIns := [], harness := (true, "81255780e7df6f881b94a629db5fba3687cde162013470ac596b1b5b49187fa2"), looks := false }, kinds := [], alts := [], laidByText := true, laidKinds := [.data], laidTests := true, laidLooks := .later }
def BitsClonesUptoCardSaid : Prop := Claim7.holds Tryd.pinned (.plain (OpenSpec.upto bitsClonesSpec)) bitsClonesUptoCard

/-- THE SECOND FORM's CARD OF 'springhouselaw06.BitsMakes'. -/
def bitsMakesUptoCard : Claim7 := { stood := { row := bitsMakesUptoRow, standIns := [], harness := (true, "81255780e7df6f881b94a629db5fba3687cde162013470ac596b1b5b49187fa2"), looks := false }, kinds := [], alts := [], laidByText := true, laidKinds := [.data], laidTests := true, laidLooks := .later }
def BitsMakesUptoCardSaid : Prop := Claim7.holds Tryd.pinned (.plain (OpenSpec.upto bitsMakesSpec)) bitsMakesUptoCard
end Rows
end Go.Proofs.YtlmkhapejiippaaDoor
