/- The statement BooksCuts as a statement on numbers and lists. -/
import Derived.Test.YtjdcpddcngcioaaDoorBooksLaws
import Derived.Test.YtjdcpddcngcioaaDoorPBkx5
set_option linter.unusedSimpArgs false
set_option linter.unusedVariables false
namespace Go.Proofs.YtjdcpddcngcioaaDoor.BooksPlain
open Go.RowKit Go.Proofs.YtjdcpddcngcioaaDoor.PBk Go.Proofs.YtjdcpddcngcioaaDoorW.PrintWords Go.Proofs.YtjdcpddcngcioaaDoorW.PrintLast Go.Proofs.YtjdcpddcngcioaaDoorW.PrintMore
open Go.Proofs.YtjdcpddcngcioaaDoor
theorem cuts (a b c d v : Int) (dry : Bool) (x y z : Int) (hb : I64 b) (hc : I64 c) (hd : I64 d) (hx : I64 x) (hy : I64 y) (hz : I64 z) :
    ∃ k, sawmilllaw52_BooksCuts.f k a b c d v dry x y z = some true := by
  suffices h : Ev (fun k => sawmilllaw52_BooksCuts.f k a b c d v dry x y z) true from h.rounds
  refine Ev.bind (sawn_ev a b c d v hb hc hd) (Ev.bind (sawn_ref a b c d v hb hc hd) (Ev.bind (same_ev _ (sawnM_small a b c d)) ?_))
  simp only [if_true]
  refine Ev.bind (recut_ev dry x y z hy hz) (Ev.bind (recut_ref dry x y z hx hy hz) (Ev.bind (same_ev _ (recutM_small dry x y z)) ?_))
  simp only [if_true]
  refine Ev.bind (sold_ev y z) (Ev.bind (sold_ref y z hy hz) (Ev.bind (same_ev _ (soldM_small y z)) ?_))
  simp only [if_true]
  exact Ev.bind awake_ev (Ev.now _)

end Go.Proofs.YtjdcpddcngcioaaDoor.BooksPlain
