/- A string is greater than another one if the other one is less: the walk's word for '>' between strings. No condition. -/
import Derived.Sort.Walk0
import Derived.WalkKit
set_option linter.unusedVariables false
set_option linter.unusedSimpArgs false
namespace Go.Proofs.YthdgofbchfcfcaaDoor.PRu
open Go.Sort
theorem less_flip (a b : List UInt8) : (!(Op.bytesLess a b || a == b)) = Op.bytesLess b a := by
  rw [bytesLess_eq, bytesLess_eq]
  by_cases h1 : a < b
  · rw [decide_eq_true h1, decide_eq_false (fun h2 => List.lt_irrefl a (List.lt_trans h1 h2))]
    rfl
  · by_cases h2 : a = b
    · subst h2
      rw [decide_eq_false h1]
      simp
    · have h3 : b < a := by
        rcases List.le_total a b with h | h
        · exact absurd (List.le_antisymm h (List.not_lt.1 h1)) h2
        · rcases Decidable.em (b < a) with h4 | h4
          · exact h4
          · exact absurd (List.le_antisymm (List.not_lt.1 h4) h) h2
      rw [decide_eq_false h1, decide_eq_true h3]
      simp [h2]
theorem binOp_string_gtr2 (t : TypeId) (a b : ByteArray) : binOp .gtr t (.string a) (.string b) = pure (.bool (Op.bytesLess b.toList a.toList)) := by
  rw [← less_flip]
  simp [binOp, Op.stringOp]
end Go.Proofs.YthdgofbchfcfcaaDoor.PRu
