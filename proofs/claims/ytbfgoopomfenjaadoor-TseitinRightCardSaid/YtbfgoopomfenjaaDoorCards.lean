/-
  DERIVED. GIVEN WITH THE SEED: THE CARDS: each row of YtbfgoopomfenjaaDoorRows.lean that lists a variable, with what it lists TIED to the program's text (the seventh form; the later family's looks); each row that meets fmt, with fmt's text TOLD by the authors' own Lean function (tested against real Go, not proved from fmt's source: count such statements apart). THE CARD IS WHAT COUNTS. Prove the row's statement (the work); the ties are given (YtbfgoopomfenjaaDoorTie.lean); close each card by the builder's one call (the guide's Derived/Test/ToyasCard.lean, 'card_holds'). Laid BY PROGRAM, IN A SANDBOX (cutbox-door.mjs). By AI agents, Wed Nov 11 2026. No macro, syntax, notation, axiom, sorry.
-/
import Derived.Test.YtbfgoopomfenjaaDoorRows
import GoSem.ClaimSeven
namespace Go.Proofs.YtbfgoopomfenjaaDoor
namespace Rows

/-- THE TIED CARD OF 'sequiturlaw26.TseitinOf'. -/
def tseitinOfCard : Claim7 := { stood := { row := tseitinOfRow, standIns := [], harness := (true, "f9138c43b12e0dbe449edc9b2cedf4b87adc09bee4b9ee6a421fd2efbb3b271f"), looks := false }, kinds := [], alts := [], laidByText := true, laidKinds := [.data], laidTests := true, laidLooks := .later }
def TseitinOfCardSaid : Prop := Claim7.holds Tryd.pinned (.plain (OpenSpec.ofChange tseitinOfSpec)) tseitinOfCard

/-- THE TIED CARD OF 'sequiturlaw26.TseitinValues'. -/
def tseitinValuesCard : Claim7 := { stood := { row := tseitinValuesRow, standIns := [], harness := (true, "f9138c43b12e0dbe449edc9b2cedf4b87adc09bee4b9ee6a421fd2efbb3b271f"), looks := false }, kinds := [], alts := [], laidByText := true, laidKinds := [.data], laidTests := true, laidLooks := .later }
def TseitinValuesCardSaid : Prop := Claim7.holds Tryd.pinned (.plain (OpenSpec.ofChange tseitinValuesSpec)) tseitinValuesCard

/-- THE TIED CARD OF 'sequiturlaw26.TseitinHolds'. -/
def tseitinHoldsCard : Claim7 := { stood := { row := tseitinHoldsRow, standIns := [], harness := (true, "f9138c43b12e0dbe449edc9b2cedf4b87adc09bee4b9ee6a421fd2efbb3b271f"), looks := false }, kinds := [], alts := [], laidByText := true, laidKinds := [.data], laidTests := true, laidLooks := .later }
def TseitinHoldsCardSaid : Prop := Claim7.holds Tryd.pinned (.plain (OpenSpec.ofChange tseitinHoldsSpec)) tseitinHoldsCard

/-- THE TIED CARD OF 'sequiturlaw26.TseitinAgrees'. -/
def tseitinAgreesCard : Claim7 := { stood := { row := tseitinAgreesRow, standIns := [], harness := (true, "f9138c43b12e0dbe449edc9b2cedf4b87adc09bee4b9ee6a421fd2efbb3b271f"), looks := false }, kinds := [], alts := [], laidByText := true, laidKinds := [.data], laidTests := true, laidLooks := .later }
def TseitinAgreesCardSaid : Prop := Claim7.holds Tryd.pinned (.plain (OpenSpec.ofChange tseitinAgreesSpec)) tseitinAgreesCard

/-- THE TIED CARD OF 'sequiturlaw26.TseitinBack'. -/
def tseitinBackCard : Claim7 := { stood := { row := tseitinBackRow, standIns := [], harness := (true, "f9138c43b12e0dbe449edc9b2cedf4b87adc09bee4b9ee6a421fd2efbb3b271f"), looks := false }, kinds := [], alts := [], laidByText := true, laidKinds := [.data], laidTests := true, laidLooks := .later }
def TseitinBackCardSaid : Prop := Claim7.holds Tryd.pinned (.plain (OpenSpec.ofChange tseitinBackSpec)) tseitinBackCard

/-- THE TIED CARD OF 'sequiturlaw26.TseitinRight'. -/
def tseitinRightCard : Claim7 := { stood := { row := tseitinRightRow, standIns := [], harness := (true, "f9138c43b12e0dbe449edc9b2cedf4b87adc09bee4b9ee6a421fd2efbb3b271f"), looks := false }, kinds := [], alts := [], laidByText := true, laidKinds := [.data], laidTests := true, laidLooks := .later }
def TseitinRightCardSaid : Prop := Claim7.holds Tryd.pinned (.plain (OpenSpec.ofChange tseitinRightSpec)) tseitinRightCard

/-- THE SECOND FORM's CARD OF 'sequiturlaw26.TseitinOf'. -/
def tseitinOfUptoCard : Claim7 := { stood := { row := tseitinOfUptoRow, standIns := [], harness := (true, "f9138c43b12e0dbe449edc9b2cedf4b87adc09bee4b9ee6a421fd2efbb3b271f"), looks := false }, kinds := [], alts := [], laidByText := true, laidKinds := [.data], laidTests := true, laidLooks := .later }
def TseitinOfUptoCardSaid : Prop := Claim7.holds Tryd.pinned (.plain (OpenSpec.upto tseitinOfSpec)) tseitinOfUptoCard

/-- THE SECOND FORM's CARD OF 'sequiturlaw26.TseitinValues'. -/
def tseitinValuesUptoCard : Claim7 := { stood := { row := tseitinValuesUptoRow, standIns := [], harness := (true, "f9138c43b12e0dbe449edc9b2cedf4b87adc09bee4b9ee6a421fd2efbb3b271f"), looks := false }, kinds := [], alts := [], laidByText := true, laidKinds := [.data], laidTests := true, laidLooks := .later }
def TseitinValuesUptoCardSaid : Prop := Claim7.holds Tryd.pinned (.plain (OpenSpec.upto tseitinValuesSpec)) tseitinValuesUptoCard

/-- THE SECOND FORM's CARD OF 'sequiturlaw26.TseitinHolds'. -/
def tseitinHoldsUptoCard : Claim7 := { stood := { row := tseitinHoldsUptoRow, standIns := [], harness := (true, "f9138c43b12e0dbe449edc9b2cedf4b87adc09bee4b9ee6a421fd2efbb3b271f"), looks := false }, kinds := [], alts := [], laidByText := true, laidKinds := [.data], laidTests := true, laidLooks := .later }
def TseitinHoldsUptoCardSaid : Prop := Claim7.holds Tryd.pinned (.plain (OpenSpec.upto tseitinHoldsSpec)) tseitinHoldsUptoCard

/-- THE SECOND FORM's CARD OF 'sequiturlaw26.TseitinAgrees'. -/
def tseitinAgreesUptoCard : Claim7 := { stood := { row := tseitinAgreesUptoRow, standIns := [], harness := (true, "f9138c43b12e0dbe449edc9b2cedf4b87adc09bee4b9ee6a421fd2efbb3b271f"), looks := false }, kinds := [], alts := [], laidByText := true, laidKinds := [.data], laidTests := true, laidLooks := .later }
def TseitinAgreesUptoCardSaid : Prop := Claim7.holds Tryd.pinned (.plain (OpenSpec.upto tseitinAgreesSpec)) tseitinAgreesUptoCard

/-- THE SECOND FORM's CARD OF 'sequiturlaw26.TseitinBack'. -/
def tseitinBackUptoCard : Claim7 := { stood := { row := tseitinBackUptoRow, standIns := [], harness := (true, "f9138c43b12e0dbe449edc9b2cedf4b87adc09bee4b9ee6a421fd2efbb3b271f"), looks := false }, kinds := [], alts := [], laidByText := true, laidKinds := [.data], laidTests := true, laidLooks := .later }
def TseitinBackUptoCardSaid : Prop := Claim7.holds Tryd.pinned (.plain (OpenSpec.upto tseitinBackSpec)) tseitinBackUptoCard

/-- THE SECOND FORM's CARD OF 'sequiturlaw26.TseitinRight'. -/
def tseitinRightUptoCard : Claim7 := { stood := { row := tseitinRightUptoRow, standIns := [], harness := (true, "f9138c43b12e0dbe449edc9b2cedf4b87adc09bee4b9ee6a421fd2efbb3b271f"), looks := false }, kinds := [], alts := [], laidByText := true, laidKinds := [.data], laidTests := true, laidLooks := .later }
def TseitinRightUptoCardSaid : Prop := Claim7.holds Tryd.pinned (.plain (OpenSpec.upto tseitinRightSpec)) tseitinRightUptoCard
end Rows
end Go.Proofs.YtbfgoopomfenjaaDoor
