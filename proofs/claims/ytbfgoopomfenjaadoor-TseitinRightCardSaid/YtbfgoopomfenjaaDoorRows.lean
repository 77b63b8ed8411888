/-
  NARROWER THAN 'FOR EVERY INPUT', by the rows' own cells (each row's printed sentence says how): TseitinOf: loops, laid · TseitinValues: loops, laid · TseitinHolds: loops, laid · TseitinAgrees: loops, laid · TseitinBack: loops, laid · TseitinRight: loops, laid.
  DERIVED. THE GIVEN ROWS OF THIS SEAT. 6 by the template 'for every input the law returns true; each argument reads behind the call as it read before'; 0 by the template 'total and deterministic' (their statements: YtbfgoopomfenjaaDoorTotals.lean).
  GIVEN WITH THE SEED: the statements are not yours to turn. If you find one false, say at which input.
  Laid BY PROGRAM, IN A SANDBOX (cutbox-rows.mjs): the forced cells as the released guide's own fill.sh prints them over the translation b8430525646a6623… (all of the seat's roots in one cut). By AI agents, Wed Nov 11 2026. No macro, syntax, notation, axiom, sorry.
-/
import Derived.Test.YtbfgoopomfenjaaDoorChecked
import GoSem.Claim
import GoSem.ClaimJoined
import GoSem.ClaimMapViews
import Derived.JoinedTies
import Derived.KernelRfl
namespace Go.Proofs.YtbfgoopomfenjaaDoor
/- THE CELL 'sum', in the pinned program and in every row, IS THE sha256 OF THE DUMP (.gsa) THAT YtbfgoopomfenjaaDoorProg.lean LOADS. Nothing in Lean hashes anything: it is a label: what it is worth is what the hold of that sum in a sandbox is worth. -/
noncomputable def Tryd.pinned : Pinned := { name := "ytbfgoopomfenjaadoor", sum := "b8430525646a662321e55edf966b06f2bddeec73410dbbf91a4290aefae9b257", checked := Tryd.checked }
namespace Rows
def none {H : Type} : Left H := { results := [], args := [] }

/- WHAT THE LISTED PACKAGE-LEVEL VARIABLES READ AS WHEN THE CALL BEGINS. Each datum BY PROGRAM (the guide's laid-datum.mjs) off the statement by which the dump's own 'gosem.cut.vars' lays the variable. In a bare row this is a premise. The card (YtbfgoopomfenjaaDoorCards.lean) ties it to the program's text. -/
def laid_sequitur_term_needs {H : Type} : DataW H := .agg [.lit (.int .i64 0), .lit (.int .i64 0), .lit (.int .i64 0), .lit (.int .i64 8), .lit (.int .i64 0), .lit (.int .i64 2), .lit (.int .i64 2), .lit (.int .i64 1), .lit (.int .i64 1)]

/-- 'sequiturlaw26.TseitinOf': WHATEVER THE INPUT: true; the input reads as it did. -/
def tseitinOfSpec : ChangeSpec := { name := "tseitinOf", fn := fun _ => fun
  | [d] => { results := [.lit (.bool true)], args := [d] }
  | _ => none }
def tseitinOfRow : OpenClaim := { program := "ytbfgoopomfenjaadoor", sum := "b8430525646a662321e55edf966b06f2bddeec73410dbbf91a4290aefae9b257", func := "sequitur/sequiturlaw26.TseitinOf", spec := "tseitinOf", unfollowed := true, recurses := true, named := ["sequitur/term.needs"], loops := true, apart := false, laid := [("sequitur/term.needs", laid_sequitur_term_needs)] }
def TseitinOfSaid : Prop := tseitinOfRow.holds Tryd.pinned (OpenSpec.ofChange tseitinOfSpec)

/-- ITS FALSE NEIGHBOUR: 'it returns false'. Refute it at one input. -/
def tseitinOfWrong : ChangeSpec := { name := "tseitinOf", fn := fun _ => fun
  | [d] => { results := [.lit (.bool false)], args := [d] }
  | _ => none }
def TseitinOfWrongFalsely : Prop := tseitinOfRow.holds Tryd.pinned (OpenSpec.ofChange tseitinOfWrong)

/-- 'sequiturlaw26.TseitinValues': WHATEVER THE INPUT: true; the input reads as it did. -/
def tseitinValuesSpec : ChangeSpec := { name := "tseitinValues", fn := fun _ => fun
  | [d1, d2] => { results := [.lit (.bool true)], args := [d1, d2] }
  | _ => none }
def tseitinValuesRow : OpenClaim := { program := "ytbfgoopomfenjaadoor", sum := "b8430525646a662321e55edf966b06f2bddeec73410dbbf91a4290aefae9b257", func := "sequitur/sequiturlaw26.TseitinValues", spec := "tseitinValues", unfollowed := true, recurses := true, named := ["sequitur/term.needs"], loops := true, apart := false, laid := [("sequitur/term.needs", laid_sequitur_term_needs)] }
def TseitinValuesSaid : Prop := tseitinValuesRow.holds Tryd.pinned (OpenSpec.ofChange tseitinValuesSpec)

/-- ITS FALSE NEIGHBOUR: 'it returns false'. Refute it at one input. -/
def tseitinValuesWrong : ChangeSpec := { name := "tseitinValues", fn := fun _ => fun
  | [d1, d2] => { results := [.lit (.bool false)], args := [d1, d2] }
  | _ => none }
def TseitinValuesWrongFalsely : Prop := tseitinValuesRow.holds Tryd.pinned (OpenSpec.ofChange tseitinValuesWrong)

/-- 'sequiturlaw26.TseitinHolds': WHATEVER THE INPUT: true; the input reads as it did. -/
def tseitinHoldsSpec : ChangeSpec := { name := "tseitinHolds", fn := fun _ => fun
  | [d1, d2, d3] => { results := [.lit (.bool true)], args := [d1, d2, d3] }
  | _ => none }
def tseitinHoldsRow : OpenClaim := { program := "ytbfgoopomfenjaadoor", sum := "b8430525646a662321e55edf966b06f2bddeec73410dbbf91a4290aefae9b257", func := "sequitur/sequiturlaw26.TseitinHolds", spec := "tseitinHolds", unfollowed := true, recurses := true, named := ["sequitur/term.needs"], loops := true, apart := false, laid := [("sequitur/term.needs", laid_sequitur_term_needs)] }
def TseitinHoldsSaid : Prop := tseitinHoldsRow.holds Tryd.pinned (OpenSpec.ofChange tseitinHoldsSpec)

/-- ITS FALSE NEIGHBOUR: 'it returns false'. Refute it at one input. -/
def tseitinHoldsWrong : ChangeSpec := { name := "tseitinHolds", fn := fun _ => fun
  | [d1, d2, d3] => { results := [.lit (.bool false)], args := [d1, d2, d3] }
  | _ => none }
def TseitinHoldsWrongFalsely : Prop := tseitinHoldsRow.holds Tryd.pinned (OpenSpec.ofChange tseitinHoldsWrong)

/-- 'sequiturlaw26.TseitinAgrees': WHATEVER THE INPUT: true; the input reads as it did. -/
def tseitinAgreesSpec : ChangeSpec := { name := "tseitinAgrees", fn := fun _ => fun
  | [d1, d2] => { results := [.lit (.bool true)], args := [d1, d2] }
  | _ => none }
def tseitinAgreesRow : OpenClaim := { program := "ytbfgoopomfenjaadoor", sum := "b8430525646a662321e55edf966b06f2bddeec73410dbbf91a4290aefae9b257", func := "sequitur/sequiturlaw26.TseitinAgrees", spec := "tseitinAgrees", unfollowed := true, recurses := true, named := ["sequitur/term.needs"], loops := true, apart := false, laid := [("sequitur/term.needs", laid_sequitur_term_needs)] }
def TseitinAgreesSaid : Prop := tseitinAgreesRow.holds Tryd.pinned (OpenSpec.ofChange tseitinAgreesSpec)

/-- ITS FALSE NEIGHBOUR: 'it returns false'. Refute it at one input. -/
def tseitinAgreesWrong : ChangeSpec := { name := "tseitinAgrees", fn := fun _ => fun
  | [d1, d2] => { results := [.lit (.bool false)], args := [d1, d2] }
  | _ => none }
def TseitinAgreesWrongFalsely : Prop := tseitinAgreesRow.holds Tryd.pinned (OpenSpec.ofChange tseitinAgreesWrong)

/-- 'sequiturlaw26.TseitinBack': WHATEVER THE INPUT: true; the input reads as it did. -/
def tseitinBackSpec : ChangeSpec := { name := "tseitinBack", fn := fun _ => fun
  | [d1, d2] => { results := [.lit (.bool true)], args := [d1, d2] }
  | _ => none }
def tseitinBackRow : OpenClaim := { program := "ytbfgoopomfenjaadoor", sum := "b8430525646a662321e55edf966b06f2bddeec73410dbbf91a4290aefae9b257", func := "sequitur/sequiturlaw26.TseitinBack", spec := "tseitinBack", unfollowed := true, recurses := true, named := ["sequitur/term.needs"], loops := true, apart := false, laid := [("sequitur/term.needs", laid_sequitur_term_needs)] }
def TseitinBackSaid : Prop := tseitinBackRow.holds Tryd.pinned (OpenSpec.ofChange tseitinBackSpec)

/-- ITS FALSE NEIGHBOUR: 'it returns false'. Refute it at one input. -/
def tseitinBackWrong : ChangeSpec := { name := "tseitinBack", fn := fun _ => fun
  | [d1, d2] => { results := [.lit (.bool false)], args := [d1, d2] }
  | _ => none }
def TseitinBackWrongFalsely : Prop := tseitinBackRow.holds Tryd.pinned (OpenSpec.ofChange tseitinBackWrong)

/-- 'sequiturlaw26.TseitinRight': WHATEVER THE INPUT: true; the input reads as it did. -/
def tseitinRightSpec : ChangeSpec := { name := "tseitinRight", fn := fun _ => fun
  | [d1, d2] => { results := [.lit (.bool true)], args := [d1, d2] }
  | _ => none }
def tseitinRightRow : OpenClaim := { program := "ytbfgoopomfenjaadoor", sum := "b8430525646a662321e55edf966b06f2bddeec73410dbbf91a4290aefae9b257", func := "sequitur/sequiturlaw26.TseitinRight", spec := "tseitinRight", unfollowed := true, recurses := true, named := ["sequitur/term.needs"], loops := true, apart := false, laid := [("sequitur/term.needs", laid_sequitur_term_needs)] }
def TseitinRightSaid : Prop := tseitinRightRow.holds Tryd.pinned (OpenSpec.ofChange tseitinRightSpec)

/-- ITS FALSE NEIGHBOUR: 'it returns false'. Refute it at one input. -/
def tseitinRightWrong : ChangeSpec := { name := "tseitinRight", fn := fun _ => fun
  | [d1, d2] => { results := [.lit (.bool false)], args := [d1, d2] }
  | _ => none }
def TseitinRightWrongFalsely : Prop := tseitinRightRow.holds Tryd.pinned (OpenSpec.ofChange tseitinRightWrong)

/- THE SECOND FORM. 'bulk': how many values and letters a reading holds, each counted each time it is reached (what is shared counts as often as it is met; a slice's spare places count too). A statement '..UptoSaid' is the law's where the arguments, and the package variables that the reading takes, are together of bulk at most 1048576: NARROWER than '..Said'. Prove '..Said' where nothing that the law and all that it calls make is longer than what came in: it says more and counts as full. Else prove '..UptoSaid'. A law counts once. -/
mutual
def uptoBulk {H : Type} : DataW H → Nat
  | .lit (.string bytes) => bytes.length + 1
  | .lit _ => 1
  | .nil => 1
  | .ptr d => uptoBulk d + 1
  | .slice elems spare => uptoBulkAll elems + uptoBulkAll spare + 1
  | .agg parts => uptoBulkAll parts + 1
  | .iface _ d => uptoBulk d + 1
  | .map entries => uptoBulkEntries entries + 1
  | .held _ => 1
def uptoBulkAll {H : Type} : List (DataW H) → Nat
  | [] => 0
  | d :: r => uptoBulk d + uptoBulkAll r
def uptoBulkEntries {H : Type} : List (Lit × DataW H) → Nat
  | [] => 0
  | x :: r => uptoBulkEntry x + uptoBulkEntries r
def uptoBulkEntry {H : Type} : Lit × DataW H → Nat
  | (.string bytes, d) => bytes.length + uptoBulk d + 1
  | (_, d) => uptoBulk d + 1
 end
def uptoSmall : (H : Type) → List (DataW H) → Bool := fun _ ds => decide (uptoBulkAll ds ≤ 1048576)
def OpenSpec.upto (s : _root_.Go.ChangeSpec) : _root_.Go.OpenSpec := { _root_.Go.OpenSpec.ofChange s with cond := some uptoSmall }

/-- 'sequiturlaw26.TseitinOf', WHERE WHAT IT READS IS OF BULK AT MOST 1048576: true; the input reads as it did. -/
def tseitinOfUptoRow : OpenClaim := { program := "ytbfgoopomfenjaadoor", sum := "b8430525646a662321e55edf966b06f2bddeec73410dbbf91a4290aefae9b257", func := "sequitur/sequiturlaw26.TseitinOf", spec := "tseitinOf", unfollowed := true, recurses := true, named := ["sequitur/term.needs"], loops := true, apart := false, laid := [("sequitur/term.needs", laid_sequitur_term_needs)], narrowed := true }
def TseitinOfUptoSaid : Prop := tseitinOfUptoRow.holds Tryd.pinned (OpenSpec.upto tseitinOfSpec)

/-- 'sequiturlaw26.TseitinValues', WHERE WHAT IT READS IS OF BULK AT MOST 1048576: true; the input reads as it did. -/
def tseitinValuesUptoRow : OpenClaim := { program := "ytbfgoopomfenjaadoor", sum := "b8430525646a662321e55edf966b06f2bddeec73410dbbf91a4290aefae9b257", func := "sequitur/sequiturlaw26.TseitinValues", spec := "tseitinValues", unfollowed := true, recurses := true, named := ["sequitur/term.needs"], loops := true, apart := false, laid := [("sequitur/term.needs", laid_sequitur_term_needs)], narrowed := true }
def TseitinValuesUptoSaid : Prop := tseitinValuesUptoRow.holds Tryd.pinned (OpenSpec.upto tseitinValuesSpec)

/-- 'sequiturlaw26.TseitinHolds', WHERE WHAT IT READS IS OF BULK AT MOST 1048576: true; the input reads as it did. -/
def tseitinHoldsUptoRow : OpenClaim := { program := "ytbfgoopomfenjaadoor", sum := "b8430525646a662321e55edf966b06f2bddeec73410dbbf91a4290aefae9b257", func := "sequitur/sequiturlaw26.TseitinHolds", spec := "tseitinHolds", unfollowed := true, recurses := true, named := ["sequitur/term.needs"], loops := true, apart := false, laid := [("sequitur/term.needs", laid_sequitur_term_needs)], narrowed := true }
def TseitinHoldsUptoSaid : Prop := tseitinHoldsUptoRow.holds Tryd.pinned (OpenSpec.upto tseitinHoldsSpec)

/-- 'sequiturlaw26.TseitinAgrees', WHERE WHAT IT READS IS OF BULK AT MOST 1048576: true; the input reads as it did. -/
def tseitinAgreesUptoRow : OpenClaim := { program := "ytbfgoopomfenjaadoor", sum := "b8430525646a662321e55edf966b06f2bddeec73410dbbf91a4290aefae9b257", func := "sequitur/sequiturlaw26.TseitinAgrees", spec := "tseitinAgrees", unfollowed := true, recurses := true, named := ["sequitur/term.needs"], loops := true, apart := false, laid := [("sequitur/term.needs", laid_sequitur_term_needs)], narrowed := true }
def TseitinAgreesUptoSaid : Prop := tseitinAgreesUptoRow.holds Tryd.pinned (OpenSpec.upto tseitinAgreesSpec)

/-- 'sequiturlaw26.TseitinBack', WHERE WHAT IT READS IS OF BULK AT MOST 1048576: true; the input reads as it did. -/
def tseitinBackUptoRow : OpenClaim := { program := "ytbfgoopomfenjaadoor", sum := "b8430525646a662321e55edf966b06f2bddeec73410dbbf91a4290aefae9b257", func := "sequitur/sequiturlaw26.TseitinBack", spec := "tseitinBack", unfollowed := true, recurses := true, named := ["sequitur/term.needs"], loops := true, apart := false, laid := [("sequitur/term.needs", laid_sequitur_term_needs)], narrowed := true }
def TseitinBackUptoSaid : Prop := tseitinBackUptoRow.holds Tryd.pinned (OpenSpec.upto tseitinBackSpec)

/-- 'sequiturlaw26.TseitinRight', WHERE WHAT IT READS IS OF BULK AT MOST 1048576: true; the input reads as it did. -/
def tseitinRightUptoRow : OpenClaim := { program := "ytbfgoopomfenjaadoor", sum := "b8430525646a662321e55edf966b06f2bddeec73410dbbf91a4290aefae9b257", func := "sequitur/sequiturlaw26.TseitinRight", spec := "tseitinRight", unfollowed := true, recurses := true, named := ["sequitur/term.needs"], loops := true, apart := false, laid := [("sequitur/term.needs", laid_sequitur_term_needs)], narrowed := true }
def TseitinRightUptoSaid : Prop := tseitinRightUptoRow.holds Tryd.pinned (OpenSpec.upto tseitinRightSpec)

end Rows
end Go.Proofs.YtbfgoopomfenjaaDoor
