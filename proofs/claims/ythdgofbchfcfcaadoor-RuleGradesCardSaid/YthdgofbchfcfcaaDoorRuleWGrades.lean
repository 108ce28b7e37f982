/- The walk of RuleGrades, joined with its law. -/
import Derived.Test.YthdgofbchfcfcaaDoorRuleRow
import Derived.Test.YthdgofbchfcfcaaDoorRuleGrds
set_option linter.unusedVariables false
namespace Go.Proofs.YthdgofbchfcfcaaDoor.RuleRow
open Go.RowKit
open Go.Proofs.YthdgofbchfcfcaaDoorW.PrintWords Go.Proofs.YthdgofbchfcfcaaDoorW.PrintLast Go.Proofs.YthdgofbchfcfcaaDoorW.PrintMore
open Go.Proofs.YthdgofbchfcfcaaDoor.PRu
theorem gradesWalk (x : List S47) (A : Option Addr) (c : Nat) (l : List S40) (A1 : Option Addr) (c1 : Nat) (W : World) (hl : x.length ≤ c) (hC : k47.C W A x.length x) (hl1 : l.length ≤ c1) (hC1 : k40.C W A1 l.length l) (hG : GlobG W) :
    Calls Tryd.prog 9 #[.slice A x.length c, .slice A1 l.length c1] W fun e w' => e = .returned (.bool true) ∧ Below W.heap.size W w' := by
  obtain ⟨k, hk⟩ := grades_true x l
  exact sawmilllaw43_RuleGrades.calls k A c x A1 c1 l true W hC hl hC1 hl1 hG (hk k (Nat.le_refl _))
end Go.Proofs.YthdgofbchfcfcaaDoor.RuleRow
