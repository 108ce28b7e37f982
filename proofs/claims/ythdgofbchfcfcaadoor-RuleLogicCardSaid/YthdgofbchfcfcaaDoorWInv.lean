/- Words of the print (print.sh of the kit), cut down by prune.py to those that this claim names. No condition. -/
import Derived.Test.YthdgofbchfcfcaaDoorWTab
namespace Go.Proofs.YthdgofbchfcfcaaDoorW.PrintLast
/-- Number i is listed too. -/
def up (b : Nat → Bool) (i : Nat) : Nat → Bool := fun j => if j = i then true else b j
section
variable {P : Program} {ops : Array Oper} {Q : Exit → Act → World → Prop} {md : Region.Mode} {T : Bool × List (List Nat × List Nat)} {B : List Nat} {O : List Nat} {b : Nat → Bool} {i j n : Nat}
end
end Go.Proofs.YthdgofbchfcfcaaDoorW.PrintLast
