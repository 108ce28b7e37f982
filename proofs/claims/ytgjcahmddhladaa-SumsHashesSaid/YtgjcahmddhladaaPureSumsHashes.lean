/- Hash and Chain of the package sums return what their references return, for every hash and every string of at most 1000 bytes. As a statement on numbers and lists. -/
import Derived.Test.YtgjcahmddhladaaPlain
namespace Go.Proofs.Ytgjcahmddhladaa.Pure
open Go.Proofs.Ytgjcahmddhladaa.PAll
theorem SumsHashes : sawmilllaw04_SumsHashes.Pure := Plain.SumsHashes
end Go.Proofs.Ytgjcahmddhladaa.Pure
