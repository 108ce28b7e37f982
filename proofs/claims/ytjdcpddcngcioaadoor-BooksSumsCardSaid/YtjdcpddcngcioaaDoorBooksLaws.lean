/- What the laws of the books share. -/
import Derived.Test.YtjdcpddcngcioaaDoorBooksPlain
set_option linter.unusedSimpArgs false
set_option linter.unusedVariables false
namespace Go.Proofs.YtjdcpddcngcioaaDoor.BooksPlain
open Go.RowKit Go.Proofs.YtjdcpddcngcioaaDoor.PBk Go.Proofs.YtjdcpddcngcioaaDoorW.PrintWords Go.Proofs.YtjdcpddcngcioaaDoorW.PrintLast Go.Proofs.YtjdcpddcngcioaaDoorW.PrintMore
open Go.Proofs.YtjdcpddcngcioaaDoor
theorem awake_true : sawmilllaw52_awake.f 100 = some true := by decide +kernel
theorem awake_ev : Ev (fun k => sawmilllaw52_awake.f k) true := Ev.of (fun k => sawmilllaw52_awake.mono k) awake_true
theorem sawnM_small (a b c d : Int) : (sawnM a b c d).1.length < 1000000 := by
  unfold sawnM
  split
  · split
    · simp
    · exact bpost_small _ (by simp [sawnL])
  · simp
theorem recutM_small (dry : Bool) (b c d : Int) : (recutM dry b c d).length < 1000000 := by
  unfold recutM
  split
  · exact bpost_small _ (by simp [recutL])
  · simp
theorem soldM_small (c d : Int) : (soldM c d).length < 1000000 := by
  unfold soldM
  split
  · exact bpost_small _ (by simp [soldL])
  · simp
theorem of_wf {a : Int} (h : (Lit.int .i64 a).wf = true) : I64 a := by
  have : -9223372036854775808 ≤ a ∧ a ≤ 9223372036854775807 := by simpa [Lit.wf, IntKind.min, IntKind.max, IntKind.signed, IntKind.bits] using h
  exact this
end Go.Proofs.YtjdcpddcngcioaaDoor.BooksPlain
