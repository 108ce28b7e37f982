/- The walk of BooksCuts, joined with its law. -/
import Derived.Test.YtjdcpddcngcioaaDoorBooksLawsC
import Derived.Test.YtjdcpddcngcioaaDoorBooksRow
set_option linter.unusedVariables false
namespace Go.Proofs.YtjdcpddcngcioaaDoor.BooksRow
open Go.ChangeShapes Go.WideShapes Go.ChangeAt Go.RowKit
open Go.Proofs.YtjdcpddcngcioaaDoor.PBk Go.Proofs.YtjdcpddcngcioaaDoor.BooksPlain
theorem cutsWalk (a b c d v : Int) (dry : Bool) (x y z : Int) (W : World) (hb : I64 b) (hc : I64 c) (hd : I64 d) (hx : I64 x) (hy : I64 y) (hz : I64 z) (hG : GlobG W) :
    Calls Tryd.prog 3 #[.agg #[.int .i64 a, .int .i64 b, .int .i64 c, .int .i64 d, .int .i64 v], .agg #[.bool dry, .int .i64 x, .int .i64 y, .int .i64 z]] W fun e w' => e = .returned (.bool true) ∧ Below W.heap.size W w' := by
  obtain ⟨k, h⟩ := BooksPlain.cuts a b c d v dry x y z hb hc hd hx hy hz
  exact sawmilllaw52_BooksCuts.calls k a b c d v dry x y z true W hG h
end Go.Proofs.YtjdcpddcngcioaaDoor.BooksRow
