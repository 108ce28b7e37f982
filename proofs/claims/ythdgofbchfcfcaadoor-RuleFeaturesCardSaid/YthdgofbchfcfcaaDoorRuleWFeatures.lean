/- The walk of RuleFeatures, joined with its law. -/
import Derived.Test.YthdgofbchfcfcaaDoorRuleRow
import Derived.Test.YthdgofbchfcfcaaDoorRuleFeat
set_option linter.unusedVariables false
namespace Go.Proofs.YthdgofbchfcfcaaDoor.RuleRow
open Go.RowKit
open Go.Proofs.YthdgofbchfcfcaaDoorW.PrintWords Go.Proofs.YthdgofbchfcfcaaDoorW.PrintLast Go.Proofs.YthdgofbchfcfcaaDoorW.PrintMore
open Go.Proofs.YthdgofbchfcfcaaDoor.PRu
theorem featuresWalk (x : S24) (A : Option Addr) (c : Nat) (l : List S40) (A1 : Option Addr) (c1 : Nat) (y : S40) (W : World) (hl : x.f3.length ≤ c) (hC : k24.C W A x.f3.length x.f3) (hl1 : l.length ≤ c1) (hC1 : k40.C W A1 l.length l) (hG : GlobG W) :
    Calls Tryd.prog 6 #[.agg #[.int .i64 x.f0, .int .i64 x.f1, .string x.f2, .slice A x.f3.length c], .slice A1 l.length c1, .agg #[.string y.f0, .int .i64 y.f1]] W fun e w' => e = .returned (.bool true) ∧ Below W.heap.size W w' := by
  obtain ⟨k, hk⟩ := features_true x l y
  exact sawmilllaw43_RuleFeatures.calls k x.f0 x.f1 x.f2 A c x.f3 A1 c1 l y.f0 y.f1 true W hC hl hC1 hl1 hG (hk k (Nat.le_refl _))
end Go.Proofs.YthdgofbchfcfcaaDoor.RuleRow
