/- The walk of BooksSums, for its row. -/
import Derived.Test.YtjdcpddcngcioaaDoorBooksSum
import Derived.Test.YtjdcpddcngcioaaDoorBooksRow
set_option linter.unusedVariables false
namespace Go.Proofs.YtjdcpddcngcioaaDoor.BooksRow
open Go.RowKit
open Go.Proofs.YtjdcpddcngcioaaDoor.PBk Go.Proofs.YtjdcpddcngcioaaDoor.BooksPlain
theorem sumsWalk (a b c d v a' b' c' d' v' : Int) (W : World) (hb : I64 b) (hc : I64 c) (hd : I64 d) (hb' : I64 b') (hc' : I64 c') (hd' : I64 d') (hG : GlobG W) :
    Calls Tryd.prog 7 #[.agg #[.int .i64 a, .int .i64 b, .int .i64 c, .int .i64 d, .int .i64 v], .agg #[.int .i64 a', .int .i64 b', .int .i64 c', .int .i64 d', .int .i64 v']] W fun e w' => e = .returned (.bool true) ∧ Below W.heap.size W w' :=
  BooksPlain.sumsWalk a b c d v a' b' c' d' v' W hb hc hd hb' hc' hd' hG
end Go.Proofs.YtjdcpddcngcioaaDoor.BooksRow
