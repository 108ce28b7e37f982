/- Number and Hex, and Open and Seal, of the package sums invert each other, for every number and every string of at most 1000 bytes. As a statement on numbers and lists. -/
import Derived.Test.YtgjcahmddhladaaPlain
namespace Go.Proofs.Ytgjcahmddhladaa.Pure
open Go.Proofs.Ytgjcahmddhladaa.PAll
theorem SumsBack : sawmilllaw04_SumsBack.Pure := Plain.SumsBack
end Go.Proofs.Ytgjcahmddhladaa.Pure
