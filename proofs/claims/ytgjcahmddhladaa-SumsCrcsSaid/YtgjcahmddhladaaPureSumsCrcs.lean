/- Crc of the package sums returns what its reference returns, for every string of at most 1000 bytes. As a statement on numbers and lists. -/
import Derived.Test.YtgjcahmddhladaaPlain
namespace Go.Proofs.Ytgjcahmddhladaa.Pure
open Go.Proofs.Ytgjcahmddhladaa.PAll
theorem SumsCrcs : sawmilllaw04_SumsCrcs.Pure := Plain.SumsCrcs
end Go.Proofs.Ytgjcahmddhladaa.Pure
