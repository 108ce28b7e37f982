/- Seal and Open of the package sums return what their references return, for every string of at most 1000 bytes. As a statement on numbers and lists. -/
import Derived.Test.YtgjcahmddhladaaPlain
namespace Go.Proofs.Ytgjcahmddhladaa.Pure
open Go.Proofs.Ytgjcahmddhladaa.PAll
theorem SumsSeals : sawmilllaw04_SumsSeals.Pure := Plain.SumsSeals
end Go.Proofs.Ytgjcahmddhladaa.Pure
