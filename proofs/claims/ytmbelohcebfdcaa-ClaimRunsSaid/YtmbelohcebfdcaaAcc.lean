/- The account of the package claim in memory: a block for the struct, a block for its map; and the walks of the small functions over it. -/
import Derived.Test.YtmbelohcebfdcaaProg
import Derived.WalkKit
import Derived.WalkSpells
import Derived.WalkLawsBesides
import Derived.RegionTactic
import Derived.ChangeAlike
import Derived.Outline
import Derived.Lib.Hide
import Derived.BigRegion
import Derived.Maps.RangeWalk
import Derived.Maps.OwnSet
set_option linter.unusedVariables false
set_option linter.unusedSimpArgs false
namespace Go.Proofs.Ytmbelohcebfdcaa.Acc
open Go.RowKit Go.Maps
def I64 (a : Int) : Prop := -9223372036854775808 ≤ a ∧ a ≤ 9223372036854775807
/-- The struct's block. -/
def Blk (w : World) (sb bm : Nat) (f p la cr cl : Int) : Prop := w.heap[sb]? = some (.cells #[.int .i64 f, .int .i64 p, .int .i64 la, .map (some bm), .int .i64 cr, .int .i64 cl] 51)
section
variable {w : World} {sb bm : Nat} {f p la cr cl : Int}
theorem Blk.c0 (h : Blk w sb bm f p la cr cl) : w.cell? ⟨sb, 0, none⟩ = some (.int .i64 f) := by unfold Blk at h; simp [World.cell?, h]
theorem Blk.c1 (h : Blk w sb bm f p la cr cl) : w.cell? ⟨sb, 1, none⟩ = some (.int .i64 p) := by unfold Blk at h; simp [World.cell?, h]
theorem Blk.c2 (h : Blk w sb bm f p la cr cl) : w.cell? ⟨sb, 2, none⟩ = some (.int .i64 la) := by unfold Blk at h; simp [World.cell?, h]
theorem Blk.c3 (h : Blk w sb bm f p la cr cl) : w.cell? ⟨sb, 3, none⟩ = some (.map (some bm)) := by unfold Blk at h; simp [World.cell?, h]
theorem Blk.c4 (h : Blk w sb bm f p la cr cl) : w.cell? ⟨sb, 4, none⟩ = some (.int .i64 cr) := by unfold Blk at h; simp [World.cell?, h]
theorem Blk.c5 (h : Blk w sb bm f p la cr cl) : w.cell? ⟨sb, 5, none⟩ = some (.int .i64 cl) := by unfold Blk at h; simp [World.cell?, h]
theorem Blk.fr (h : Blk w sb bm f p la cr cl) (j : Nat) : w.frozen? ⟨sb, j, none⟩ = false := by unfold Blk at h; simp [World.frozen?, h]
theorem Blk.lt (h : Blk w sb bm f p la cr cl) : sb < w.heap.size := (Array.getElem?_eq_some_iff.1 h).1
theorem Blk.of {w' : World} (h : Blk w sb bm f p la cr cl) (e : w'.heap[sb]? = w.heap[sb]?) : Blk w' sb bm f p la cr cl := e.trans h
end
/-- Nothing has turned but two blocks. -/
structure Kept2 (sb bm : Nat) (w w' : World) : Prop where
  os : w'.os = w.os
  tape : w'.tape = w.tape
  output : w'.output = w.output
  size : w.heap.size ≤ w'.heap.size
  block : ∀ k, k < w.heap.size → k ≠ sb → k ≠ bm → w'.heap[k]? = w.heap[k]?
theorem Kept2.refl (sb bm : Nat) (w : World) : Kept2 sb bm w w := ⟨rfl, rfl, rfl, Nat.le_refl _, fun _ _ _ _ => rfl⟩
theorem Kept2.trans {sb bm : Nat} {a b c : World} (h : Kept2 sb bm a b) (k : Kept2 sb bm b c) : Kept2 sb bm a c :=
  ⟨k.os.trans h.os, k.tape.trans h.tape, k.output.trans h.output, Nat.le_trans h.size k.size, fun i hi h1 h2 => (k.block i (Nat.lt_of_lt_of_le hi h.size) h1 h2).trans (h.block i hi h1 h2)⟩
theorem Kept2.of_below {sb bm : Nat} {w w' : World} (h : Below w.heap.size w w') : Kept2 sb bm w w' := ⟨h.os, h.tape, h.output, h.size, fun k hk _ _ => h.block k hk⟩
theorem Kept2.below {sb bm B : Nat} {w w' : World} (h : Kept2 sb bm w w') (hB : B ≤ w.heap.size) (h1 : B ≤ sb) (h2 : B ≤ bm) : Below B w w' := ⟨h.os, h.tape, h.output, h.size, fun k hk => h.block k (by omega) (by omega) (by omega)⟩
theorem Kept2.setCell {sb bm : Nat} {a w : World} (h : Kept2 sb bm a w) (j : Nat) (u : Value) : Kept2 sb bm a (w.setCell ⟨sb, j, none⟩ u) :=
  h.trans ⟨rfl, rfl, rfl, by simp [World.setCell], fun k hk h1 _ => Below.heap_setCell _ _ _ _ h1⟩
theorem Kept2.drewN {sb bm : Nat} {a w : World} (h : Kept2 sb bm a w) (n : Nat) : Kept2 sb bm a (w.drewN n) := ⟨h.os, h.tape, h.output, h.size, h.block⟩
theorem Kept2.alloc {sb bm : Nat} {a w : World} (h : Kept2 sb bm a w) (o : Obj) : Kept2 sb bm a (w.alloc o) := h.trans (Kept2.of_below ((Below.refl _ _).alloc (Nat.le_refl _) _))
theorem Kept2.grown {sb bm : Nat} {a w w' : World} {row : Option Nat} (h : Kept2 sb bm a w) (hg : w.grownBy w' row) (hr : ∀ k, row = some k → k = bm ∨ w.heap.size ≤ k) : Kept2 sb bm a w' :=
  h.trans ⟨hg.os, hg.tape, hg.output, hg.size, fun k hk h1 h2 => hg.block k hk (fun e => by rcases hr k e.symm with h | h <;> omega)⟩
/-- The map as a list of entries, ascending. -/
def toD (l : List (Int × Int)) : DataW Unit := .map (l.map fun x => (.int .i64 x.1, .lit (.int .i64 x.2)))
theorem law : Keyed Try.prog 3 := int_keyed Try.underlying3
theorem zeroI (w : World) : (zeroValue 3).run Try.prog w = .ok (.int .i64 0) w := by kernel_rfl
/-- An account: the struct's block, the map's block. -/
structure Acc (w : World) (sb bm : Nat) (f p la : Int) (l : List (Int × Int)) (cr cl : Int) : Prop where
  blk : Blk w sb bm f p la cr cl
  map : w.ownsMap Try.prog 3 (plainElem Try.prog 3) bm l.length (toD l)
  ne : sb ≠ bm
theorem Acc.lt {w : World} {sb bm : Nat} {f p la : Int} {l : List (Int × Int)} {cr cl : Int} (h : Acc w sb bm f p la l cr cl) : sb < w.heap.size ∧ bm < w.heap.size := ⟨h.blk.lt, h.map.lt⟩
theorem ownsMap_of_block {H : Type} {P : Program} {k : TypeId} {R : Value → Option (DataW H × List MemPlace)} {w w' : World} {b n : Nat} {D : DataW H} (h : w.ownsMap P k R b n D) (e : w'.heap[b]? = w.heap[b]?) : w'.ownsMap P k R b n D := by
  obtain ⟨es, clock, hb, r⟩ := h
  exact ⟨es, clock, e.trans hb, r⟩
theorem Acc.of {w w' : World} {sb bm : Nat} {f p la : Int} {l : List (Int × Int)} {cr cl : Int} (h : Acc w sb bm f p la l cr cl) (e1 : w'.heap[sb]? = w.heap[sb]?) (e2 : w'.heap[bm]? = w.heap[bm]?) : Acc w' sb bm f p la l cr cl :=
  ⟨h.blk.of e1, ownsMap_of_block h.map e2, h.ne⟩
theorem Acc.below {w w' : World} {sb bm : Nat} {f p la : Int} {l : List (Int × Int)} {cr cl : Int} {B : Nat} (h : Acc w sb bm f p la l cr cl) (hb : Below B w w') (hB : w.heap.size ≤ B) : Acc w' sb bm f p la l cr cl :=
  h.of (hb.block _ (by have := h.lt; omega)) (hb.block _ (by have := h.lt; omega))
theorem Acc.other {w w' : World} {sb bm sc cm : Nat} {f p la : Int} {l : List (Int × Int)} {cr cl : Int} (h : Acc w sb bm f p la l cr cl) (hk : Kept2 sc cm w w') (h1 : sb ≠ sc) (h2 : sb ≠ cm) (h3 : bm ≠ sc) (h4 : bm ≠ cm) : Acc w' sb bm f p la l cr cl :=
  h.of (hk.block _ h.lt.1 h1 h2) (hk.block _ h.lt.2 h3 h4)
theorem owns_fit {H : Type} {P : Program} {k : TypeId} {R : Value → Option (DataW H × List MemPlace)} {w : World} {b n : Nat} {D : DataW H} (h : w.ownsMap P k R b n D) : w.ownsMap P k R b (Maps.size D) D := by
  obtain ⟨es, clock, hb, F, hs, rfl⟩ := h
  exact ⟨es, clock, hb, F, by simp [Maps.size, length_sorted], rfl⟩
theorem size_toD (l : List (Int × Int)) : Maps.size (toD l) = l.length := by simp [toD, Maps.size]
/-! ### the small functions -/
def betw (n a b : Int) : Bool := decide (a ≤ n) && decide (n ≤ b)
theorem between_calls (n a b : Int) (w : World) : Calls Try.prog 19 #[.int .i64 n, .int .i64 a, .int .i64 b] w fun e w' => e = .returned (.bool (betw n a b)) ∧ w' = w := by
  unfold betw
  by_cases h : a ≤ n
  · go_enter Try.func19, Try.ntmps19
    go_wp2
    go_ret
    simp [h]
  · go_enter Try.func19, Try.ntmps19
    go_wp2
    go_ret
    simp; omega
def validF (p c q : Int) : Bool := decide (c ≤ q) && decide (wrap64 (q - c) < p)
theorem valid_calls (sb : Nat) (c q p : Int) (w : World) (h1 : w.cell? ⟨sb, 1, none⟩ = some (.int .i64 p)) : Calls Try.prog 26 #[.pointer (some ⟨sb, 0, none⟩), .int .i64 c, .int .i64 q] w fun e w' => e = .returned (.bool (validF p c q)) ∧ w' = w := by
  unfold validF
  by_cases h : c ≤ q
  · go_enter Try.func26, Try.ntmps26
    go_wp2
    go_ret
    simp [h]
  · go_enter Try.func26, Try.ntmps26
    go_wp2
    go_ret
    simp; intro h2; omega
def refusedF (la q v : Int) : Int := if betw q (if 0 < la then la else 0) 1000000 = true then (if betw v 0 1125899906842624 = true then 0 else 9) else 15
theorem refused_calls (sb : Nat) (q v la : Int) (w : World) (h2 : w.cell? ⟨sb, 2, none⟩ = some (.int .i64 la)) : Calls Try.prog 28 #[.pointer (some ⟨sb, 0, none⟩), .int .i64 q, .int .i64 v] w fun e w' => e = .returned (.int .i64 (refusedF la q v)) ∧ w' = w := by
  go_enter Try.func28, Try.ntmps28
  go_wp2_with (go_at_call 19; refine (between_calls _ _ _ _).mono ?_; rintro e w' ⟨rfl, rfl⟩)
  all_goals go_ret
  all_goals (refine ⟨?_, rfl⟩; unfold refusedF; simp_all)
theorem refused_nil (q v : Int) (w : World) : Calls Try.prog 28 #[.pointer none, .int .i64 q, .int .i64 v] w fun e w' => e = .returned (.int .i64 1) ∧ w' = w := by
  go_enter Try.func28, Try.ntmps28
  go_wp2
  go_ret
  exact ⟨rfl, rfl⟩
theorem totals_nil (w : World) : Calls Try.prog 14 #[.pointer none] w fun e w' => e = .returned (.tuple #[.int .i64 0, .int .i64 0]) ∧ w' = w := by
  go_enter Try.func14, Try.ntmps14
  go_wp2
  go_ret2
  exact ⟨rfl, rfl⟩
theorem totals_calls (sb : Nat) (cr cl : Int) (w : World) (h4 : w.cell? ⟨sb, 4, none⟩ = some (.int .i64 cr)) (h5 : w.cell? ⟨sb, 5, none⟩ = some (.int .i64 cl)) : Calls Try.prog 14 #[.pointer (some ⟨sb, 0, none⟩)] w fun e w' => ∃ k, e = .returned (.tuple #[.int .i64 cr, .int .i64 cl]) ∧ w' = w.drewN k := by
  go_enter Try.func14, Try.ntmps14
  go_wp2
  go_region
  all_goals go_wp2
  all_goals go_ret2
  all_goals exact ⟨1, rfl, rfl⟩
theorem left1_calls (c q p : Int) (b1 b2 sb : Nat) (w : World) (hb1 : w.cell? ⟨b1, 0, none⟩ = some (.pointer (some ⟨sb, 0, none⟩))) (hb2 : w.cell? ⟨b2, 0, none⟩ = some (.int .i64 q)) (h1 : w.cell? ⟨sb, 1, none⟩ = some (.int .i64 p)) :
    Calls Try.prog 25 #[.int .i64 c, .pointer (some ⟨b1, 0, none⟩), .pointer (some ⟨b2, 0, none⟩)] w fun e w' => e = .returned (.bool (validF p c q)) ∧ w' = w := by
  go_enter Try.func25, Try.ntmps25
  go_wp2_with (go_at_call 26; refine (valid_calls _ _ _ p _ ?_).mono ?_; assumption; rintro e w' ⟨rfl, rfl⟩)
  go_ret
  exact ⟨rfl, rfl⟩
def goneF (p c q : Int) : Bool := decide (p ≤ wrap64 (q - c))
theorem gone1_calls (c q p : Int) (b1 b2 sb : Nat) (w : World) (hb1 : w.cell? ⟨b1, 0, none⟩ = some (.pointer (some ⟨sb, 0, none⟩))) (hb2 : w.cell? ⟨b2, 0, none⟩ = some (.int .i64 q)) (h1 : w.cell? ⟨sb, 1, none⟩ = some (.int .i64 p)) :
    Calls Try.prog 27 #[.int .i64 c, .pointer (some ⟨b2, 0, none⟩), .pointer (some ⟨b1, 0, none⟩)] w fun e w' => ∃ k, e = .returned (.bool (goneF p c q)) ∧ w' = w.drewN k := by
  go_enter Try.func27, Try.ntmps27
  go_wp2
  go_region
  all_goals go_wp2
  all_goals go_ret
  all_goals exact ⟨1, rfl, rfl⟩
theorem new_calls (f p : Int) (w : World) : Calls Try.prog 8 #[.int .i64 f, .int .i64 p] w fun e w' =>
    if (betw f 0 1000 && betw p 1 24) = true then ∃ sb bm, e = .returned (.tuple #[.pointer (some ⟨sb, 0, none⟩), .int .i64 0]) ∧ Acc w' sb bm f p (-1) [] 0 0 ∧ w.heap.size ≤ sb ∧ w.heap.size ≤ bm ∧ Below w.heap.size w w'
    else e = .returned (.tuple #[.pointer none, .int .i64 9]) ∧ w' = w := by
  have hmm := @run_makeMap Try.prog
  cases h1 : betw f 0 1000
  · go_enter Try.func8, Try.ntmps8
    go_wp2_with (go_at_call 19; refine (between_calls _ _ _ _).mono ?_; rintro e w' ⟨rfl, rfl⟩)
    go_ret2
    simp
  · cases h2 : betw p 1 24
    · go_enter Try.func8, Try.ntmps8
      go_wp2_with (go_at_call 19; refine (between_calls _ _ _ _).mono ?_; rintro e w' ⟨rfl, rfl⟩)
      go_ret2
      simp
    · go_enter Try.func8, Try.ntmps8
      go_wp2_with (go_at_call 19; refine (between_calls _ _ _ _).mono ?_; rintro e w' ⟨rfl, rfl⟩)
      go_ret2
      refine ⟨w'.heap.size + 1, rfl, w'.heap.size, ⟨?_, ?_, by omega⟩, Nat.le_succ _, Nat.le_refl _, ?_⟩
      · have := (MapKept.heap_alloc (w'.alloc (.map #[] 0)) (.cells #[.int .i64 f, .int .i64 p, .int .i64 (-1), .map (some w'.heap.size), .int .i64 0, .int .i64 0] 51)).1
        simpa [Blk] using this
      · exact ((World.ownsMap_made w' Try.prog 3 (plainElem Try.prog 3)).alloc _)
      · exact ((Below.refl _ _).alloc (Nat.le_refl _) _).alloc (by simp) _
end Go.Proofs.Ytmbelohcebfdcaa.Acc
