/- The walk of BooksMoves, joined with its law. -/
import Derived.Test.YtjdcpddcngcioaaDoorBooksLawsM
import Derived.Test.YtjdcpddcngcioaaDoorBooksRow
set_option linter.unusedVariables false
namespace Go.Proofs.YtjdcpddcngcioaaDoor.BooksRow
open Go.ChangeShapes Go.WideShapes Go.ChangeAt Go.RowKit
open Go.Proofs.YtjdcpddcngcioaaDoor.PBk Go.Proofs.YtjdcpddcngcioaaDoor.BooksPlain
theorem movesWalk (a : Int) (W : World) (h : (Lit.int .i64 a).wf = true) (hG : GlobG W) : Calls Tryd.prog 6 #[.int .i64 a] W fun e w' => e = .returned (.bool true) ∧ Below W.heap.size W w' :=
  sawmilllaw52_BooksMoves.walk BooksPlain.BooksMoves a W h hG
end Go.Proofs.YtjdcpddcngcioaaDoor.BooksRow
