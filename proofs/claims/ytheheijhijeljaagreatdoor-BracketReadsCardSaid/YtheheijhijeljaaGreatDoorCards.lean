/-
  DERIVED. GIVEN WITH THE SEED: THE CARDS: each row of YtheheijhijeljaaGreatDoorRows.lean that lists a variable, with what it lists TIED to the program's text (the seventh form; the later family's looks); each row that meets fmt, with fmt's text TOLD by the authors' own Lean function (tested against real Go, not proved from fmt's source: count such statements apart). THE CARD IS WHAT COUNTS. Prove the row's statement (the work); the ties are given (YtheheijhijeljaaGreatDoorTie.lean); close each card by the builder's one call (the guide's Derived/Test/ToyasCard.lean, 'card_holds'). Laid BY PROGRAM, IN A SANDBOX (cutbox-door.mjs). By AI agents, Wed Nov 11 2026. No macro, syntax, notation, axiom, sorry.
-/
import Derived.Test.YtheheijhijeljaaGreatDoorRows
import GoSem.ClaimSeven
namespace Go.Proofs.YtheheijhijeljaaGreatDoor
namespace Rows

/-- THE TIED CARD OF 'burinlaw07.BracketEscapes'. -/
def bracketEscapesCard : Claim7 := { stood := { row := bracketEscapesRow, standIns := [], harness := (true, "70e156a84e674a4978b6f6335e749e7bfaecd77f65b7fe04540f18bcaf305529"), looks := false }, kinds := [], alts := [], laidByText := true, laidKinds := [.data, .pinned], laidTests := true, laidLooks := .later }
def BracketEscapesCardSaid : Prop := Claim7.holds Tryz.pinned (.plain (OpenSpec.ofChange bracketEscapesSpec)) bracketEscapesCard

/-- THE TIED CARD OF 'burinlaw07.BracketReads'. -/
def bracketReadsCard : Claim7 := { stood := { row := bracketReadsRow, standIns := [], harness := (true, "70e156a84e674a4978b6f6335e749e7bfaecd77f65b7fe04540f18bcaf305529"), looks := false }, kinds := [], alts := [], laidByText := true, laidKinds := [.data, .pinned], laidTests := true, laidLooks := .later }
def BracketReadsCardSaid : Prop := Claim7.holds Tryz.pinned (.plain (OpenSpec.ofChange bracketReadsSpec)) bracketReadsCard

/-- THE TIED CARD OF 'burinlaw07.BracketWrites'. -/
def bracketWritesCard : Claim7 := { stood := { row := bracketWritesRow, standIns := [], harness := (true, "70e156a84e674a4978b6f6335e749e7bfaecd77f65b7fe04540f18bcaf305529"), looks := false }, kinds := [], alts := [], laidByText := true, laidKinds := [.data, .pinned], laidTests := true, laidLooks := .later }
def BracketWritesCardSaid : Prop := Claim7.holds Tryz.pinned (.plain (OpenSpec.ofChange bracketWritesSpec)) bracketWritesCard

/-- THE TIED CARD OF 'burinlaw07.BracketBehind'. -/
def bracketBehindCard : Claim7 := { stood := { row := bracketBehindRow, standIns := [], harness := (true, "70e156a84e674a4978b6f6335e749e7bfaecd77f65b7fe04540f18bcaf305529"), looks := false }, kinds := [], alts := [], laidByText := true, laidKinds := [.data, .pinned], laidTests := true, laidLooks := .later }
def BracketBehindCardSaid : Prop := Claim7.holds Tryz.pinned (.plain (OpenSpec.ofChange bracketBehindSpec)) bracketBehindCard

/-- THE TIED CARD OF 'burinlaw07.BracketOne'. -/
def bracketOneCard : Claim7 := { stood := { row := bracketOneRow, standIns := [], harness := (true, "70e156a84e674a4978b6f6335e749e7bfaecd77f65b7fe04540f18bcaf305529"), looks := false }, kinds := [], alts := [], laidByText := true, laidKinds := [.data, .pinned], laidTests := true, laidLooks := .later }
def BracketOneCardSaid : Prop := Claim7.holds Tryz.pinned (.plain (OpenSpec.ofChange bracketOneSpec)) bracketOneCard

/-- THE SECOND FORM's CARD OF 'burinlaw07.BracketEscapes'. -/
def bracketEscapesUptoCard : Claim7 := { stood := { row := bracketEscapesUptoRow, standIns := [], harness := (true, "70e156a84e674a4978b6f6335e749e7bfaecd77f65b7fe04540f18bcaf305529"), looks := false }, kinds := [], alts := [], laidByText := true, laidKinds := [.data, .pinned], laidTests := true, laidLooks := .later }
def BracketEscapesUptoCardSaid : Prop := Claim7.holds Tryz.pinned (.plain (OpenSpec.upto bracketEscapesSpec)) bracketEscapesUptoCard

/-- THE SECOND FORM's CARD OF 'burinlaw07.BracketReads'. -/
def bracketReadsUptoCard : Claim7 := { stood := { row := bracketReadsUptoRow, standIns := [], harness := (true, "70e156a84e674a4978b6f6335e749e7bfaecd77f65b7fe04540f18bcaf305529"), looks := false }, kinds := [], alts := [], laidByText := true, laidKinds := [.data, .pinned], laidTests := true, laidLooks := .later }
def BracketReadsUptoCardSaid : Prop := Claim7.holds Tryz.pinned (.plain (OpenSpec.upto bracketReadsSpec)) bracketReadsUptoCard

/-- THE SECOND FORM's CARD OF 'burinlaw07.BracketWrites'. -/
def bracketWritesUptoCard : Claim7 := { stood := { row := bracketWritesUptoRow, standIns := [], harness := (true, "70e156a84e674a4978b6f6335e749e7bfaecd77f65b7fe04540f18bcaf305529"), looks := false }, kinds := [], alts := [], laidByText := true, laidKinds := [.data, .pinned], laidTests := true, laidLooks := .later }
def BracketWritesUptoCardSaid : Prop := Claim7.holds Tryz.pinned (.plain (OpenSpec.upto bracketWritesSpec)) bracketWritesUptoCard

/-- THE SECOND FORM's CARD OF 'burinlaw07.BracketBehind'. -/
def bracketBehindUptoCard : Claim7 := { stood := { row := bracketBehindUptoRow, standIns := [], harness := (true, "70e156a84e674a4978b6f6335e749e7bfaecd77f65b7fe04540f18bcaf305529"), looks := false }, kinds := [], alts := [], laidByText := true, laidKinds := [.data, .pinned], laidTests := true, laidLooks := .later }
def BracketBehindUptoCardSaid : Prop := Claim7.holds Tryz.pinned (.plain (OpenSpec.upto bracketBehindSpec)) bracketBehindUptoCard

/-- THE SECOND FORM's CARD OF 'burinlaw07.BracketOne'. -/
def bracketOneUptoCard : Claim7 := { stood := { row := bracketOneUptoRow, standIns := [], harness := (true, "70e156a84e674a4978b6f6335e749e7bfaecd77f65b7fe04540f18bcaf305529"), looks := false }, kinds := [], alts := [], laidByText := true, laidKinds := [.data, .pinned], laidTests := true, laidLooks := .later }
def BracketOneUptoCardSaid : Prop := Claim7.holds Tryz.pinned (.plain (OpenSpec.upto bracketOneSpec)) bracketOneUptoCard
end Rows
end Go.Proofs.YtheheijhijeljaaGreatDoor
