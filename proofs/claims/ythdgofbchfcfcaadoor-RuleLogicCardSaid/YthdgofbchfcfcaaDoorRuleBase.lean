/- The table of the operators' forms in memory, and the walks of the small functions of the package rule: condition, and the closures that ask for a name. The table's fact is the row's; no other condition. -/
import Derived.Test.YthdgofbchfcfcaaDoorPRux1
import Derived.Test.YthdgofbchfcfcaaDoorPRux8
import Derived.WalkSpells
import Derived.WalkLawsBesides
import Derived.RegionTactic
import Derived.ChangeAlike
import Derived.Outline
import Derived.Lib.Hide
import Derived.BigRegion
set_option linter.unusedVariables false
set_option linter.unusedSimpArgs false
namespace Go.Proofs.YthdgofbchfcfcaaDoor.PRu
open Go.RowKit Go.Proofs.YthdgofbchfcfcaaDoorW.PrintWords Go.Proofs.YthdgofbchfcfcaaDoorW.PrintLast Go.Proofs.YthdgofbchfcfcaaDoorW.PrintMore
/-- The package's table. -/
def GlobG (w : World) : Prop := ∃ t fr, w.heap[0]? = some (.cells #[.int .i64 0, .bool false, .bool false, .int .i64 0, .bool false, .bool false, .int .i64 0, .bool false, .bool false, .int .i64 2, .bool false, .bool false, .int .i64 2, .bool false, .bool false, .int .i64 2, .bool false, .bool false, .int .i64 2, .bool false, .bool true, .int .i64 2, .bool false, .bool true, .int .i64 2, .bool false, .bool true, .int .i64 1, .bool true, .bool true, .int .i64 2, .bool true, .bool true, .int .i64 2, .bool true, .bool true] t fr)
theorem GlobG.pos {w : World} (h : GlobG w) : 0 < w.heap.size := by
  obtain ⟨t, fr, h⟩ := h
  exact (Array.getElem?_eq_some_iff.1 h).1
theorem GlobG.drewN {w : World} (h : GlobG w) (n : Nat) : GlobG (w.drewN n) := h
theorem GlobG.below {w w' : World} (h : GlobG w) (hb : Below w.heap.size w w') : GlobG w' := by
  have hp := h.pos
  obtain ⟨t, fr, h⟩ := h
  exact ⟨t, fr, (hb.block 0 hp).trans h⟩
def knownF (op : Int) : Bool := decide (1 ≤ op) && decide (op ≤ 11)
def argsF (op : Int) : Int := if op ≤ 2 then 0 else if op = 9 then 1 else 2
def takesF (op : Int) : Bool := decide (9 ≤ op)
def condT (op : Int) : Bool := decide (6 ≤ op)
def condF (op : Int) : Bool := knownF op && condT op
def greatF (n : Int) : Bool := decide (1099511627776 < n) || decide (n < -1099511627776)
theorem GlobG.at {w : World} (h : GlobG w) {op : Int} (h1 : 1 ≤ op) (h2 : op ≤ 11) :
    w.cell? ⟨0, op.toNat * 3, none⟩ = some (.int .i64 (argsF op)) ∧ w.cell? ⟨0, op.toNat * 3 + 1, none⟩ = some (.bool (takesF op)) ∧ w.cell? ⟨0, op.toNat * 3 + 2, none⟩ = some (.bool (condT op)) := by
  obtain ⟨t, fr, h⟩ := h
  simp only [World.cell?, h]
  have : op = 1 ∨ op = 2 ∨ op = 3 ∨ op = 4 ∨ op = 5 ∨ op = 6 ∨ op = 7 ∨ op = 8 ∨ op = 9 ∨ op = 10 ∨ op = 11 := by omega
  rcases this with rfl | rfl | rfl | rfl | rfl | rfl | rfl | rfl | rfl | rfl | rfl <;> exact ⟨rfl, rfl, rfl⟩
theorem known_calls (op : Int) (w : World) : Calls Tryd.prog 47 #[.int .i64 op] w fun e w' => e = .returned (.bool (knownF op)) ∧ w' = w := by
  unfold knownF
  by_cases h : 1 ≤ op
  · go_enter Tryd.func47, Tryd.ntmps47
    go_wp2
    go_ret
    simp [h]
  · go_enter Tryd.func47, Tryd.ntmps47
    go_wp2
    go_ret
    simp; omega
theorem great_calls (n : Int) (w : World) : Calls Tryd.prog 48 #[.int .i64 n] w fun e w' => e = .returned (.bool (greatF n)) ∧ w' = w := by
  unfold greatF
  by_cases h : 1099511627776 < n
  · go_enter Tryd.func48, Tryd.ntmps48
    go_wp2
    go_ret
    simp [h]
  · go_enter Tryd.func48, Tryd.ntmps48
    go_wp2
    go_ret
    simp; omega
theorem cond_calls (op n : Int) (s : ByteArray) (A : Option Addr) (l c : Nat) (w : World) (hG : GlobG w) : Calls Tryd.prog 35 #[.agg #[.int .i64 op, .int .i64 n, .string s, .slice A l c]] w fun e w' => e = .returned (.bool (condF op)) ∧ Below w.heap.size w w' := by
  have hbel : Below w.heap.size w (w.alloc (.cells #[.int .i64 op, .int .i64 n, .string s, .slice A l c] 24)) := (Below.refl _ _).alloc (Nat.le_refl _) _
  have HB := Lib.hid hbel
  have HG := Lib.hid (hG.below hbel)
  clear hbel hG
  by_cases hk : knownF op = true
  · have hk2 : 1 ≤ op ∧ op ≤ 11 := by simpa [knownF] using hk
    obtain ⟨g0, g1, g2⟩ := HG.out.at hk2.1 hk2.2
    have hi : op < 12 := by omega
    have hi0 : 0 ≤ op := by omega
    unfold condF
    rw [hk, Bool.true_and]
    go_enter Tryd.func35, Tryd.ntmps35
    go_wp2_with (go_at_call 47; (with_reducible refine (known_calls _ _).mono ?_); rintro e wk ⟨rfl, rfl⟩)
    go_ret
    exact ⟨rfl, HB.out⟩
  · have hk3 : knownF op = false := by simpa using hk
    unfold condF
    rw [hk3, Bool.false_and]
    clear hk
    go_enter Tryd.func35, Tryd.ntmps35
    go_wp2_with (go_at_call 47; (with_reducible refine (known_calls _ _).mono ?_); rintro e wk ⟨rfl, rfl⟩)
    go_ret
    exact ⟨rfl, HB.out⟩
end Go.Proofs.YthdgofbchfcfcaaDoor.PRu
