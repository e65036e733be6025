/-
  DERIVED. GIVEN WITH THE SEED: THE CARDS: each row of YtnpkfncccddlmaaDoorRows.lean that lists a variable, with what it lists TIED to the program's text (the seventh form; the later family's looks); each row that meets fmt, with fmt's text TOLD by the authors' own Lean function (tested against real Go, not proved from fmt's source: count such statements apart). THE CARD IS WHAT COUNTS. Prove the row's statement (the work); the ties are given (YtnpkfncccddlmaaDoorTie.lean); close each card by the builder's one call (the guide's Derived/Test/ToyasCard.lean, 'card_holds'). Laid BY PROGRAM, IN A SANDBOX (cutbox-door.mjs). By AI agents, Wed Nov 11 2026. No macro, syntax, notation, axiom, sorry.
-/
import Derived.Test.YtnpkfncccddlmaaDoorRows
import GoSem.ClaimSeven
namespace Go.Proofs.YtnpkfncccddlmaaDoor
namespace Rows

/-- THE TIED CARD OF 'burinlaw04.ClassTells'. -/
def classTellsCard : Claim7 := { stood := { row := classTellsRow, standIns := [], harness := (true, "65c63887c9ad4b88bf08a8ef0fe6daa06c26e38584fe33165ccda990622f5d19"), looks := false }, kinds := [], alts := [], laidByText := true, laidKinds := [.data, .pinned], laidTests := true, laidLooks := .later }
def ClassTellsCardSaid : Prop := Claim7.holds Tryd.pinned (.plain (OpenSpec.ofChange classTellsSpec)) classTellsCard

/-- THE TIED CARD OF 'burinlaw04.ClassLacks'. -/
def classLacksCard : Claim7 := { stood := { row := classLacksRow, standIns := [], harness := (true, "65c63887c9ad4b88bf08a8ef0fe6daa06c26e38584fe33165ccda990622f5d19"), looks := false }, kinds := [], alts := [], laidByText := true, laidKinds := [.data, .pinned], laidTests := true, laidLooks := .later }
def ClassLacksCardSaid : Prop := Claim7.holds Tryd.pinned (.plain (OpenSpec.ofChange classLacksSpec)) classLacksCard

/-- THE TIED CARD OF 'burinlaw04.ClassWithin'. -/
def classWithinCard : Claim7 := { stood := { row := classWithinRow, standIns := [], harness := (true, "65c63887c9ad4b88bf08a8ef0fe6daa06c26e38584fe33165ccda990622f5d19"), looks := false }, kinds := [], alts := [], laidByText := true, laidKinds := [.data, .pinned], laidTests := true, laidLooks := .later }
def ClassWithinCardSaid : Prop := Claim7.holds Tryd.pinned (.plain (OpenSpec.ofChange classWithinSpec)) classWithinCard

/-- THE TIED CARD OF 'burinlaw04.ClassFolds'. -/
def classFoldsCard : Claim7 := { stood := { row := classFoldsRow, standIns := [], harness := (true, "65c63887c9ad4b88bf08a8ef0fe6daa06c26e38584fe33165ccda990622f5d19"), looks := false }, kinds := [], alts := [], laidByText := true, laidKinds := [.data, .pinned], laidTests := true, laidLooks := .later }
def ClassFoldsCardSaid : Prop := Claim7.holds Tryd.pinned (.plain (OpenSpec.ofChange classFoldsSpec)) classFoldsCard

/-- THE SECOND FORM's CARD OF 'burinlaw04.ClassTells'. -/
def classTellsUptoCard : Claim7 := { stood := { row := classTellsUptoRow, standIns := [], harness := (true, "65c63887c9ad4b88bf08a8ef0fe6daa06c26e38584fe33165ccda990622f5d19"), looks := false }, kinds := [], alts := [], laidByText := true, laidKinds := [.data, .pinned], laidTests := true, laidLooks := .later }
def ClassTellsUptoCardSaid : Prop := Claim7.holds Tryd.pinned (.plain (OpenSpec.upto classTellsSpec)) classTellsUptoCard

/-- THE SECOND FORM's CARD OF 'burinlaw04.ClassLacks'. -/
def classLacksUptoCard : Claim7 := { stood := { row := classLacksUptoRow, standIns := [], harness := (true, "65c63887c9ad4b88bf08a8ef0fe6daa06c26e38584fe33165ccda990622f5d19"), looks := false }, kinds := [], alts := [], laidByText := true, laidKinds := [.data, .pinned], laidTests := true, laidLooks := .later }
def ClassLacksUptoCardSaid : Prop := Claim7.holds Tryd.pinned (.plain (OpenSpec.upto classLacksSpec)) classLacksUptoCard

/-- THE SECOND FORM's CARD OF 'burinlaw04.ClassWithin'. -/
def classWithinUptoCard : Claim7 := { stood := { row := classWithinUptoRow, standIns := [], harness := (true, "65c63887c9ad4b88bf08a8ef0fe6daa06c26e38584fe33165ccda990622f5d19"), looks := false }, kinds := [], alts := [], laidByText := true, laidKinds := [.data, .pinned], laidTests := true, laidLooks := .later }
def ClassWithinUptoCardSaid : Prop := Claim7.holds Tryd.pinned (.plain (OpenSpec.upto classWithinSpec)) classWithinUptoCard

/-- THE SECOND FORM's CARD OF 'burinlaw04.ClassFolds'. -/
def classFoldsUptoCard : Claim7 := { stood := { row := classFoldsUptoRow, standIns := [], harness := (true, "65c63887c9ad4b88bf08a8ef0fe6daa06c26e38584fe33165ccda990622f5d19"), looks := false }, kinds := [], alts := [], laidByText := true, laidKinds := [.data, .pinned], laidTests := true, laidLooks := .later }
def ClassFoldsUptoCardSaid : Prop := Claim7.holds Tryd.pinned (.plain (OpenSpec.upto classFoldsSpec)) classFoldsUptoCard
end Rows
end Go.Proofs.YtnpkfncccddlmaaDoor
