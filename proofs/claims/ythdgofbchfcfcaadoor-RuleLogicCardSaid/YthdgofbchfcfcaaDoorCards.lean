/-
  DERIVED. GIVEN WITH THE SEED: THE CARDS: each row of YthdgofbchfcfcaaDoorRows.lean that lists a variable, with what it lists TIED to the program's text (the seventh form; the later family's looks); each row that meets fmt, with fmt's text TOLD by the authors' own Lean function (tested against real Go, not proved from fmt's source: count such statements apart). THE CARD IS WHAT COUNTS. Prove the row's statement (the work); the ties are given (YthdgofbchfcfcaaDoorTie.lean); close each card by the builder's one call (the guide's Derived/Test/ToyasCard.lean, 'card_holds'). Laid BY PROGRAM, IN A SANDBOX (cutbox-door.mjs). By AI agents, Wed Nov 11 2026. No macro, syntax, notation, axiom, sorry.
-/
import Derived.Test.YthdgofbchfcfcaaDoorRows
import GoSem.ClaimSeven
namespace Go.Proofs.YthdgofbchfcfcaaDoor
namespace Rows

/-- THE TIED CARD OF 'sawmilllaw43.RuleChecks'. -/
def ruleChecksCard : Claim7 := { stood := { row := ruleChecksRow, standIns := [], harness := (true, "7e63eee2a3d584a28766bbb52170be12b857a00c80b6feb38e3b713f422ef2f9"), looks := false }, kinds := [], alts := [], laidByText := true, laidKinds := [.data], laidTests := true, laidLooks := .later }
def RuleChecksCardSaid : Prop := Claim7.holds Tryd.pinned (.plain (OpenSpec.ofChange ruleChecksSpec)) ruleChecksCard

/-- THE TIED CARD OF 'sawmilllaw43.RuleEvals'. -/
def ruleEvalsCard : Claim7 := { stood := { row := ruleEvalsRow, standIns := [], harness := (true, "7e63eee2a3d584a28766bbb52170be12b857a00c80b6feb38e3b713f422ef2f9"), looks := false }, kinds := [], alts := [], laidByText := true, laidKinds := [.data], laidTests := true, laidLooks := .later }
def RuleEvalsCardSaid : Prop := Claim7.holds Tryd.pinned (.plain (OpenSpec.ofChange ruleEvalsSpec)) ruleEvalsCard

/-- THE TIED CARD OF 'sawmilllaw43.RuleTypes'. -/
def ruleTypesCard : Claim7 := { stood := { row := ruleTypesRow, standIns := [], harness := (true, "7e63eee2a3d584a28766bbb52170be12b857a00c80b6feb38e3b713f422ef2f9"), looks := false }, kinds := [], alts := [], laidByText := true, laidKinds := [.data], laidTests := true, laidLooks := .later }
def RuleTypesCardSaid : Prop := Claim7.holds Tryd.pinned (.plain (OpenSpec.ofChange ruleTypesSpec)) ruleTypesCard

/-- THE TIED CARD OF 'sawmilllaw43.RuleFeatures'. -/
def ruleFeaturesCard : Claim7 := { stood := { row := ruleFeaturesRow, standIns := [], harness := (true, "7e63eee2a3d584a28766bbb52170be12b857a00c80b6feb38e3b713f422ef2f9"), looks := false }, kinds := [], alts := [], laidByText := true, laidKinds := [.data], laidTests := true, laidLooks := .later }
def RuleFeaturesCardSaid : Prop := Claim7.holds Tryd.pinned (.plain (OpenSpec.ofChange ruleFeaturesSpec)) ruleFeaturesCard

/-- THE TIED CARD OF 'sawmilllaw43.RuleFirst'. -/
def ruleFirstCard : Claim7 := { stood := { row := ruleFirstRow, standIns := [], harness := (true, "7e63eee2a3d584a28766bbb52170be12b857a00c80b6feb38e3b713f422ef2f9"), looks := false }, kinds := [], alts := [], laidByText := true, laidKinds := [.data], laidTests := true, laidLooks := .later }
def RuleFirstCardSaid : Prop := Claim7.holds Tryd.pinned (.plain (OpenSpec.ofChange ruleFirstSpec)) ruleFirstCard

/-- THE TIED CARD OF 'sawmilllaw43.RuleLogic'. -/
def ruleLogicCard : Claim7 := { stood := { row := ruleLogicRow, standIns := [], harness := (true, "7e63eee2a3d584a28766bbb52170be12b857a00c80b6feb38e3b713f422ef2f9"), looks := false }, kinds := [], alts := [], laidByText := true, laidKinds := [.data], laidTests := true, laidLooks := .later }
def RuleLogicCardSaid : Prop := Claim7.holds Tryd.pinned (.plain (OpenSpec.ofChange ruleLogicSpec)) ruleLogicCard

/-- THE TIED CARD OF 'sawmilllaw43.RuleGrades'. -/
def ruleGradesCard : Claim7 := { stood := { row := ruleGradesRow, standIns := [], harness := (true, "7e63eee2a3d584a28766bbb52170be12b857a00c80b6feb38e3b713f422ef2f9"), looks := false }, kinds := [], alts := [], laidByText := true, laidKinds := [.data], laidTests := true, laidLooks := .later }
def RuleGradesCardSaid : Prop := Claim7.holds Tryd.pinned (.plain (OpenSpec.ofChange ruleGradesSpec)) ruleGradesCard

/-- THE SECOND FORM's CARD OF 'sawmilllaw43.RuleChecks'. -/
def ruleChecksUptoCard : Claim7 := { stood := { row := ruleChecksUptoRow, standIns := [], harness := (true, "7e63eee2a3d584a28766bbb52170be12b857a00c80b6feb38e3b713f422ef2f9"), looks := false }, kinds := [], alts := [], laidByText := true, laidKinds := [.data], laidTests := true, laidLooks := .later }
def RuleChecksUptoCardSaid : Prop := Claim7.holds Tryd.pinned (.plain (OpenSpec.upto ruleChecksSpec)) ruleChecksUptoCard

/-- THE SECOND FORM's CARD OF 'sawmilllaw43.RuleEvals'. -/
def ruleEvalsUptoCard : Claim7 := { stood := { row := ruleEvalsUptoRow, standIns := [], harness := (true, "7e63eee2a3d584a28766bbb52170be12b857a00c80b6feb38e3b713f422ef2f9"), looks := false }, kinds := [], alts := [], laidByText := true, laidKinds := [.data], laidTests := true, laidLooks := .later }
def RuleEvalsUptoCardSaid : Prop := Claim7.holds Tryd.pinned (.plain (OpenSpec.upto ruleEvalsSpec)) ruleEvalsUptoCard

/-- THE SECOND FORM's CARD OF 'sawmilllaw43.RuleTypes'. -/
def ruleTypesUptoCard : Claim7 := { stood := { row := ruleTypesUptoRow, standIns := [], harness := (true, "7e63eee2a3d584a28766bbb52170be12b857a00c80b6feb38e3b713f422ef2f9"), looks := false }, kinds := [], alts := [], laidByText := true, laidKinds := [.data], laidTests := true, laidLooks := .later }
def RuleTypesUptoCardSaid : Prop := Claim7.holds Tryd.pinned (.plain (OpenSpec.upto ruleTypesSpec)) ruleTypesUptoCard

/-- THE SECOND FORM's CARD OF 'sawmilllaw43.RuleFeatures'. -/
def ruleFeaturesUptoCard : Claim7 := { stood := { row := ruleFeaturesUptoRow, standIns := [], harness := (true, "7e63eee2a3d584a28766bbb52170be12b857a00c80b6feb38e3b713f422ef2f9"), looks := false }, kinds := [], alts := [], laidByText := true, laidKinds := [.data], laidTests := true, laidLooks := .later }
def RuleFeaturesUptoCardSaid : Prop := Claim7.holds Tryd.pinned (.plain (OpenSpec.upto ruleFeaturesSpec)) ruleFeaturesUptoCard

/-- THE SECOND FORM's CARD OF 'sawmilllaw43.RuleFirst'. -/
def ruleFirstUptoCard : Claim7 := { stood := { row := ruleFirstUptoRow, standIns := [], harness := (true, "7e63eee2a3d584a28766bbb52170be12b857a00c80b6feb38e3b713f422ef2f9"), looks := false }, kinds := [], alts := [], laidByText := true, laidKinds := [.data], laidTests := true, laidLooks := .later }
def RuleFirstUptoCardSaid : Prop := Claim7.holds Tryd.pinned (.plain (OpenSpec.upto ruleFirstSpec)) ruleFirstUptoCard

/-- THE SECOND FORM's CARD OF 'sawmilllaw43.RuleLogic'. -/
def ruleLogicUptoCard : Claim7 := { stood := { row := ruleLogicUptoRow, standIns := [], harness := (true, "7e63eee2a3d584a28766bbb52170be12b857a00c80b6feb38e3b713f422ef2f9"), looks := false }, kinds := [], alts := [], laidByText := true, laidKinds := [.data], laidTests := true, laidLooks := .later }
def RuleLogicUptoCardSaid : Prop := Claim7.holds Tryd.pinned (.plain (OpenSpec.upto ruleLogicSpec)) ruleLogicUptoCard

/-- THE SECOND FORM's CARD OF 'sawmilllaw43.RuleGrades'. -/
def ruleGradesUptoCard : Claim7 := { stood := { row := ruleGradesUptoRow, standIns := [], harness := (true, "7e63eee2a3d584a28766bbb52170be12b857a00c80b6feb38e3b713f422ef2f9"), looks := false }, kinds := [], alts := [], laidByText := true, laidKinds := [.data], laidTests := true, laidLooks := .later }
def RuleGradesUptoCardSaid : Prop := Claim7.holds Tryd.pinned (.plain (OpenSpec.upto ruleGradesSpec)) ruleGradesUptoCard
end Rows
end Go.Proofs.YthdgofbchfcfcaaDoor
