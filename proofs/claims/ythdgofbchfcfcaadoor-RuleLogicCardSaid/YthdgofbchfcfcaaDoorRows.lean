/-
  NARROWER THAN 'FOR EVERY INPUT', by the rows' own cells (each row's printed sentence says how): RuleChecks: loops, laid · RuleEvals: loops, laid · RuleTypes: loops, laid · RuleFeatures: loops, laid · RuleFirst: loops, laid · RuleLogic: loops, laid · RuleGrades: loops, laid.
  DERIVED. THE GIVEN ROWS OF THIS SEAT. 7 by the template 'for every input the law returns true; each argument reads behind the call as it read before'; 0 by the template 'total and deterministic' (their statements: YthdgofbchfcfcaaDoorTotals.lean).
  GIVEN WITH THE SEED: the statements are not yours to turn. If you find one false, say at which input.
  Laid BY PROGRAM, IN A SANDBOX (cutbox-rows.mjs): the forced cells as the released guide's own fill.sh prints them over the translation c2be8270d49464f4… (all of the seat's roots in one cut). By AI agents, Wed Nov 11 2026. No macro, syntax, notation, axiom, sorry.
-/
import Derived.Test.YthdgofbchfcfcaaDoorChecked
import GoSem.Claim
import GoSem.ClaimJoined
import GoSem.ClaimMapViews
import Derived.JoinedTies
import Derived.KernelRfl
namespace Go.Proofs.YthdgofbchfcfcaaDoor
/- THE CELL 'sum', in the pinned program and in every row, IS THE sha256 OF THE DUMP (.gsa) THAT YthdgofbchfcfcaaDoorProg.lean LOADS. Nothing in Lean hashes anything: it is a label: what it is worth is what the hold of that sum in a sandbox is worth. -/
noncomputable def Tryd.pinned : Pinned := { name := "ythdgofbchfcfcaadoor", sum := "c2be8270d49464f4d2fda1ceb79692dc551e51bbcc3ecc2a872b9680e1841585", checked := Tryd.checked }
namespace Rows
def none {H : Type} : Left H := { results := [], args := [] }

/- WHAT THE LISTED PACKAGE-LEVEL VARIABLES READ AS WHEN THE CALL BEGINS. Each datum BY PROGRAM (the guide's laid-datum.mjs) off the statement by which the dump's own 'gosem.cut.vars' lays the variable. In a bare row this is a premise. The card (YthdgofbchfcfcaaDoorCards.lean) ties it to the program's text. -/
def laid_sawmill_rule_forms {H : Type} : DataW H := .agg [.agg [.lit (.int .i64 0), .lit (.bool false), .lit (.bool false)], .agg [.lit (.int .i64 0), .lit (.bool false), .lit (.bool false)], .agg [.lit (.int .i64 0), .lit (.bool false), .lit (.bool false)], .agg [.lit (.int .i64 2), .lit (.bool false), .lit (.bool false)], .agg [.lit (.int .i64 2), .lit (.bool false), .lit (.bool false)], .agg [.lit (.int .i64 2), .lit (.bool false), .lit (.bool false)], .agg [.lit (.int .i64 2), .lit (.bool false), .lit (.bool true)], .agg [.lit (.int .i64 2), .lit (.bool false), .lit (.bool true)], .agg [.lit (.int .i64 2), .lit (.bool false), .lit (.bool true)], .agg [.lit (.int .i64 1), .lit (.bool true), .lit (.bool true)], .agg [.lit (.int .i64 2), .lit (.bool true), .lit (.bool true)], .agg [.lit (.int .i64 2), .lit (.bool true), .lit (.bool true)]]

/-- 'sawmilllaw43.RuleChecks': WHATEVER THE INPUT: true; the input reads as it did. -/
def ruleChecksSpec : ChangeSpec := { name := "ruleChecks", fn := fun _ => fun
  | [d1, d2] => { results := [.lit (.bool true)], args := [d1, d2] }
  | _ => none }
def ruleChecksRow : OpenClaim := { program := "ythdgofbchfcfcaadoor", sum := "c2be8270d49464f4d2fda1ceb79692dc551e51bbcc3ecc2a872b9680e1841585", func := "sawmill/sawmilllaw43.RuleChecks", spec := "ruleChecks", unfollowed := true, recurses := true, named := ["sawmill/rule.forms"], loops := true, apart := false, laid := [("sawmill/rule.forms", laid_sawmill_rule_forms)] }
def RuleChecksSaid : Prop := ruleChecksRow.holds Tryd.pinned (OpenSpec.ofChange ruleChecksSpec)

/-- ITS FALSE NEIGHBOUR: 'it returns false'. Refute it at one input. -/
def ruleChecksWrong : ChangeSpec := { name := "ruleChecks", fn := fun _ => fun
  | [d1, d2] => { results := [.lit (.bool false)], args := [d1, d2] }
  | _ => none }
def RuleChecksWrongFalsely : Prop := ruleChecksRow.holds Tryd.pinned (OpenSpec.ofChange ruleChecksWrong)

/-- 'sawmilllaw43.RuleEvals': WHATEVER THE INPUT: true; the input reads as it did. -/
def ruleEvalsSpec : ChangeSpec := { name := "ruleEvals", fn := fun _ => fun
  | [d1, d2] => { results := [.lit (.bool true)], args := [d1, d2] }
  | _ => none }
def ruleEvalsRow : OpenClaim := { program := "ythdgofbchfcfcaadoor", sum := "c2be8270d49464f4d2fda1ceb79692dc551e51bbcc3ecc2a872b9680e1841585", func := "sawmill/sawmilllaw43.RuleEvals", spec := "ruleEvals", unfollowed := true, recurses := true, named := ["sawmill/rule.forms"], loops := true, apart := false, laid := [("sawmill/rule.forms", laid_sawmill_rule_forms)] }
def RuleEvalsSaid : Prop := ruleEvalsRow.holds Tryd.pinned (OpenSpec.ofChange ruleEvalsSpec)

/-- ITS FALSE NEIGHBOUR: 'it returns false'. Refute it at one input. -/
def ruleEvalsWrong : ChangeSpec := { name := "ruleEvals", fn := fun _ => fun
  | [d1, d2] => { results := [.lit (.bool false)], args := [d1, d2] }
  | _ => none }
def RuleEvalsWrongFalsely : Prop := ruleEvalsRow.holds Tryd.pinned (OpenSpec.ofChange ruleEvalsWrong)

/-- 'sawmilllaw43.RuleTypes': WHATEVER THE INPUT: true; the input reads as it did. -/
def ruleTypesSpec : ChangeSpec := { name := "ruleTypes", fn := fun _ => fun
  | [d1, d2] => { results := [.lit (.bool true)], args := [d1, d2] }
  | _ => none }
def ruleTypesRow : OpenClaim := { program := "ythdgofbchfcfcaadoor", sum := "c2be8270d49464f4d2fda1ceb79692dc551e51bbcc3ecc2a872b9680e1841585", func := "sawmill/sawmilllaw43.RuleTypes", spec := "ruleTypes", unfollowed := true, recurses := true, named := ["sawmill/rule.forms"], loops := true, apart := false, laid := [("sawmill/rule.forms", laid_sawmill_rule_forms)] }
def RuleTypesSaid : Prop := ruleTypesRow.holds Tryd.pinned (OpenSpec.ofChange ruleTypesSpec)

/-- ITS FALSE NEIGHBOUR: 'it returns false'. Refute it at one input. -/
def ruleTypesWrong : ChangeSpec := { name := "ruleTypes", fn := fun _ => fun
  | [d1, d2] => { results := [.lit (.bool false)], args := [d1, d2] }
  | _ => none }
def RuleTypesWrongFalsely : Prop := ruleTypesRow.holds Tryd.pinned (OpenSpec.ofChange ruleTypesWrong)

/-- 'sawmilllaw43.RuleFeatures': WHATEVER THE INPUT: true; the input reads as it did. -/
def ruleFeaturesSpec : ChangeSpec := { name := "ruleFeatures", fn := fun _ => fun
  | [d1, d2, d3] => { results := [.lit (.bool true)], args := [d1, d2, d3] }
  | _ => none }
def ruleFeaturesRow : OpenClaim := { program := "ythdgofbchfcfcaadoor", sum := "c2be8270d49464f4d2fda1ceb79692dc551e51bbcc3ecc2a872b9680e1841585", func := "sawmill/sawmilllaw43.RuleFeatures", spec := "ruleFeatures", unfollowed := true, recurses := true, named := ["sawmill/rule.forms"], loops := true, apart := false, laid := [("sawmill/rule.forms", laid_sawmill_rule_forms)] }
def RuleFeaturesSaid : Prop := ruleFeaturesRow.holds Tryd.pinned (OpenSpec.ofChange ruleFeaturesSpec)

/-- ITS FALSE NEIGHBOUR: 'it returns false'. Refute it at one input. -/
def ruleFeaturesWrong : ChangeSpec := { name := "ruleFeatures", fn := fun _ => fun
  | [d1, d2, d3] => { results := [.lit (.bool false)], args := [d1, d2, d3] }
  | _ => none }
def RuleFeaturesWrongFalsely : Prop := ruleFeaturesRow.holds Tryd.pinned (OpenSpec.ofChange ruleFeaturesWrong)

/-- 'sawmilllaw43.RuleFirst': WHATEVER THE INPUT: true; the input reads as it did. -/
def ruleFirstSpec : ChangeSpec := { name := "ruleFirst", fn := fun _ => fun
  | [d1, d2] => { results := [.lit (.bool true)], args := [d1, d2] }
  | _ => none }
def ruleFirstRow : OpenClaim := { program := "ythdgofbchfcfcaadoor", sum := "c2be8270d49464f4d2fda1ceb79692dc551e51bbcc3ecc2a872b9680e1841585", func := "sawmill/sawmilllaw43.RuleFirst", spec := "ruleFirst", unfollowed := true, recurses := true, named := ["sawmill/rule.forms"], loops := true, apart := false, laid := [("sawmill/rule.forms", laid_sawmill_rule_forms)] }
def RuleFirstSaid : Prop := ruleFirstRow.holds Tryd.pinned (OpenSpec.ofChange ruleFirstSpec)

/-- ITS FALSE NEIGHBOUR: 'it returns false'. Refute it at one input. -/
def ruleFirstWrong : ChangeSpec := { name := "ruleFirst", fn := fun _ => fun
  | [d1, d2] => { results := [.lit (.bool false)], args := [d1, d2] }
  | _ => none }
def RuleFirstWrongFalsely : Prop := ruleFirstRow.holds Tryd.pinned (OpenSpec.ofChange ruleFirstWrong)

/-- 'sawmilllaw43.RuleLogic': WHATEVER THE INPUT: true; the input reads as it did. -/
def ruleLogicSpec : ChangeSpec := { name := "ruleLogic", fn := fun _ => fun
  | [d1, d2, d3] => { results := [.lit (.bool true)], args := [d1, d2, d3] }
  | _ => none }
def ruleLogicRow : OpenClaim := { program := "ythdgofbchfcfcaadoor", sum := "c2be8270d49464f4d2fda1ceb79692dc551e51bbcc3ecc2a872b9680e1841585", func := "sawmill/sawmilllaw43.RuleLogic", spec := "ruleLogic", unfollowed := true, recurses := true, named := ["sawmill/rule.forms"], loops := true, apart := false, laid := [("sawmill/rule.forms", laid_sawmill_rule_forms)] }
def RuleLogicSaid : Prop := ruleLogicRow.holds Tryd.pinned (OpenSpec.ofChange ruleLogicSpec)

/-- ITS FALSE NEIGHBOUR: 'it returns false'. Refute it at one input. -/
def ruleLogicWrong : ChangeSpec := { name := "ruleLogic", fn := fun _ => fun
  | [d1, d2, d3] => { results := [.lit (.bool false)], args := [d1, d2, d3] }
  | _ => none }
def RuleLogicWrongFalsely : Prop := ruleLogicRow.holds Tryd.pinned (OpenSpec.ofChange ruleLogicWrong)

/-- 'sawmilllaw43.RuleGrades': WHATEVER THE INPUT: true; the input reads as it did. -/
def ruleGradesSpec : ChangeSpec := { name := "ruleGrades", fn := fun _ => fun
  | [d1, d2] => { results := [.lit (.bool true)], args := [d1, d2] }
  | _ => none }
def ruleGradesRow : OpenClaim := { program := "ythdgofbchfcfcaadoor", sum := "c2be8270d49464f4d2fda1ceb79692dc551e51bbcc3ecc2a872b9680e1841585", func := "sawmill/sawmilllaw43.RuleGrades", spec := "ruleGrades", unfollowed := true, recurses := true, named := ["sawmill/rule.forms"], loops := true, apart := false, laid := [("sawmill/rule.forms", laid_sawmill_rule_forms)] }
def RuleGradesSaid : Prop := ruleGradesRow.holds Tryd.pinned (OpenSpec.ofChange ruleGradesSpec)

/-- ITS FALSE NEIGHBOUR: 'it returns false'. Refute it at one input. -/
def ruleGradesWrong : ChangeSpec := { name := "ruleGrades", fn := fun _ => fun
  | [d1, d2] => { results := [.lit (.bool false)], args := [d1, d2] }
  | _ => none }
def RuleGradesWrongFalsely : Prop := ruleGradesRow.holds Tryd.pinned (OpenSpec.ofChange ruleGradesWrong)

/- THE SECOND FORM. 'bulk': how many values and letters a reading holds, each counted each time it is reached (what is shared counts as often as it is met; a slice's spare places count too). A statement '..UptoSaid' is the law's where the arguments, and the package variables that the reading takes, are together of bulk at most 1048576: NARROWER than '..Said'. Prove '..Said' where nothing that the law and all that it calls make is longer than what came in: it says more and counts as full. Else prove '..UptoSaid'. A law counts once. -/
mutual
def uptoBulk {H : Type} : DataW H → Nat
  | .lit (.string bytes) => bytes.length + 1
  | .lit _ => 1
  | .nil => 1
  | .ptr d => uptoBulk d + 1
  | .slice elems spare => uptoBulkAll elems + uptoBulkAll spare + 1
  | .agg parts => uptoBulkAll parts + 1
  | .iface _ d => uptoBulk d + 1
  | .map entries => uptoBulkEntries entries + 1
  | .held _ => 1
def uptoBulkAll {H : Type} : List (DataW H) → Nat
  | [] => 0
  | d :: r => uptoBulk d + uptoBulkAll r
def uptoBulkEntries {H : Type} : List (Lit × DataW H) → Nat
  | [] => 0
  | x :: r => uptoBulkEntry x + uptoBulkEntries r
def uptoBulkEntry {H : Type} : Lit × DataW H → Nat
  | (.string bytes, d) => bytes.length + uptoBulk d + 1
  | (_, d) => uptoBulk d + 1
 end
def uptoSmall : (H : Type) → List (DataW H) → Bool := fun _ ds => decide (uptoBulkAll ds ≤ 1048576)
def OpenSpec.upto (s : _root_.Go.ChangeSpec) : _root_.Go.OpenSpec := { _root_.Go.OpenSpec.ofChange s with cond := some uptoSmall }

/-- 'sawmilllaw43.RuleChecks', WHERE WHAT IT READS IS OF BULK AT MOST 1048576: true; the input reads as it did. -/
def ruleChecksUptoRow : OpenClaim := { program := "ythdgofbchfcfcaadoor", sum := "c2be8270d49464f4d2fda1ceb79692dc551e51bbcc3ecc2a872b9680e1841585", func := "sawmill/sawmilllaw43.RuleChecks", spec := "ruleChecks", unfollowed := true, recurses := true, named := ["sawmill/rule.forms"], loops := true, apart := false, laid := [("sawmill/rule.forms", laid_sawmill_rule_forms)], narrowed := true }
def RuleChecksUptoSaid : Prop := ruleChecksUptoRow.holds Tryd.pinned (OpenSpec.upto ruleChecksSpec)

/-- 'sawmilllaw43.RuleEvals', WHERE WHAT IT READS IS OF BULK AT MOST 1048576: true; the input reads as it did. -/
def ruleEvalsUptoRow : OpenClaim := { program := "ythdgofbchfcfcaadoor", sum := "c2be8270d49464f4d2fda1ceb79692dc551e51bbcc3ecc2a872b9680e1841585", func := "sawmill/sawmilllaw43.RuleEvals", spec := "ruleEvals", unfollowed := true, recurses := true, named := ["sawmill/rule.forms"], loops := true, apart := false, laid := [("sawmill/rule.forms", laid_sawmill_rule_forms)], narrowed := true }
def RuleEvalsUptoSaid : Prop := ruleEvalsUptoRow.holds Tryd.pinned (OpenSpec.upto ruleEvalsSpec)

/-- 'sawmilllaw43.RuleTypes', WHERE WHAT IT READS IS OF BULK AT MOST 1048576: true; the input reads as it did. -/
def ruleTypesUptoRow : OpenClaim := { program := "ythdgofbchfcfcaadoor", sum := "c2be8270d49464f4d2fda1ceb79692dc551e51bbcc3ecc2a872b9680e1841585", func := "sawmill/sawmilllaw43.RuleTypes", spec := "ruleTypes", unfollowed := true, recurses := true, named := ["sawmill/rule.forms"], loops := true, apart := false, laid := [("sawmill/rule.forms", laid_sawmill_rule_forms)], narrowed := true }
def RuleTypesUptoSaid : Prop := ruleTypesUptoRow.holds Tryd.pinned (OpenSpec.upto ruleTypesSpec)

/-- 'sawmilllaw43.RuleFeatures', WHERE WHAT IT READS IS OF BULK AT MOST 1048576: true; the input reads as it did. -/
def ruleFeaturesUptoRow : OpenClaim := { program := "ythdgofbchfcfcaadoor", sum := "c2be8270d49464f4d2fda1ceb79692dc551e51bbcc3ecc2a872b9680e1841585", func := "sawmill/sawmilllaw43.RuleFeatures", spec := "ruleFeatures", unfollowed := true, recurses := true, named := ["sawmill/rule.forms"], loops := true, apart := false, laid := [("sawmill/rule.forms", laid_sawmill_rule_forms)], narrowed := true }
def RuleFeaturesUptoSaid : Prop := ruleFeaturesUptoRow.holds Tryd.pinned (OpenSpec.upto ruleFeaturesSpec)

/-- 'sawmilllaw43.RuleFirst', WHERE WHAT IT READS IS OF BULK AT MOST 1048576: true; the input reads as it did. -/
def ruleFirstUptoRow : OpenClaim := { program := "ythdgofbchfcfcaadoor", sum := "c2be8270d49464f4d2fda1ceb79692dc551e51bbcc3ecc2a872b9680e1841585", func := "sawmill/sawmilllaw43.RuleFirst", spec := "ruleFirst", unfollowed := true, recurses := true, named := ["sawmill/rule.forms"], loops := true, apart := false, laid := [("sawmill/rule.forms", laid_sawmill_rule_forms)], narrowed := true }
def RuleFirstUptoSaid : Prop := ruleFirstUptoRow.holds Tryd.pinned (OpenSpec.upto ruleFirstSpec)

/-- 'sawmilllaw43.RuleLogic', WHERE WHAT IT READS IS OF BULK AT MOST 1048576: true; the input reads as it did. -/
def ruleLogicUptoRow : OpenClaim := { program := "ythdgofbchfcfcaadoor", sum := "c2be8270d49464f4d2fda1ceb79692dc551e51bbcc3ecc2a872b9680e1841585", func := "sawmill/sawmilllaw43.RuleLogic", spec := "ruleLogic", unfollowed := true, recurses := true, named := ["sawmill/rule.forms"], loops := true, apart := false, laid := [("sawmill/rule.forms", laid_sawmill_rule_forms)], narrowed := true }
def RuleLogicUptoSaid : Prop := ruleLogicUptoRow.holds Tryd.pinned (OpenSpec.upto ruleLogicSpec)

/-- 'sawmilllaw43.RuleGrades', WHERE WHAT IT READS IS OF BULK AT MOST 1048576: true; the input reads as it did. -/
def ruleGradesUptoRow : OpenClaim := { program := "ythdgofbchfcfcaadoor", sum := "c2be8270d49464f4d2fda1ceb79692dc551e51bbcc3ecc2a872b9680e1841585", func := "sawmill/sawmilllaw43.RuleGrades", spec := "ruleGrades", unfollowed := true, recurses := true, named := ["sawmill/rule.forms"], loops := true, apart := false, laid := [("sawmill/rule.forms", laid_sawmill_rule_forms)], narrowed := true }
def RuleGradesUptoSaid : Prop := ruleGradesUptoRow.holds Tryd.pinned (OpenSpec.upto ruleGradesSpec)

end Rows
end Go.Proofs.YthdgofbchfcfcaaDoor
