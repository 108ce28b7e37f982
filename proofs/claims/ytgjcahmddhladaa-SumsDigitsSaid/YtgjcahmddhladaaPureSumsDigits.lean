/- Hex and Number of the package sums return what their references return, for every number and every string of at most 1000 bytes. As a statement on numbers and lists. -/
import Derived.Test.YtgjcahmddhladaaPlain
namespace Go.Proofs.Ytgjcahmddhladaa.Pure
open Go.Proofs.Ytgjcahmddhladaa.PAll
theorem SumsDigits : sawmilllaw04_SumsDigits.Pure := Plain.SumsDigits
end Go.Proofs.Ytgjcahmddhladaa.Pure
