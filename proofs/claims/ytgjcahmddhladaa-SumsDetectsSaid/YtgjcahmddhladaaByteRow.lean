/- A row of bytes that the call itself made out of a string: what its cells hold, behind stores into it. No program. -/
import Derived.Below
import Derived.Deep.Draws
import Derived.WalkKit
import Derived.Lib.ConvBytes
import Derived.Laws.BytesArg
namespace Go.Proofs.Ytgjcahmddhladaa
open Go.RowKit
/-- Block g begins with n bytes, which may be written. -/
def BRow (w : World) (g n : Nat) (xs : List Int) : Prop := xs.length = n ∧ ∀ j, j < n → w.cell? ⟨g, j, none⟩ = some (.int .u8 (xs.getD j 0)) ∧ w.frozen? ⟨g, j, none⟩ = false
def bytesI (s : ByteArray) : List Int := s.data.toList.map fun b => (b.toNat : Int)
theorem bytesI_length (s : ByteArray) : (bytesI s).length = s.size := by simp [bytesI]
theorem BRow.made (w : World) (s : ByteArray) : BRow (Lib.bytesWorld w 5 s) w.heap.size s.size (bytesI s) := by
  refine ⟨bytesI_length s, fun j hj => ⟨?_, ?_⟩⟩
  · rw [Lib.bytesWorld_cell w 5 s j hj]
    congr 2
    simp [bytesI, List.getD, hj]
  · have hs : s.size ≤ (Lib.bytesCells w 5 s).size := by simp [Lib.bytesCells]
    simp [World.frozen?, Lib.bytesWorld_at_new]
    omega
theorem BRow.cell {w : World} {g n : Nat} {xs : List Int} (h : BRow w g n xs) {j : Nat} (hj : j < n) : w.cell? ⟨g, j, none⟩ = some (.int .u8 (xs.getD j 0)) := (h.2 j hj).1
theorem BRow.free {w : World} {g n : Nat} {xs : List Int} (h : BRow w g n xs) {j : Nat} (hj : j < n) : w.frozen? ⟨g, j, none⟩ = false := (h.2 j hj).2
theorem BRow.drew {w : World} {g n : Nat} {xs : List Int} (h : BRow w g n xs) : BRow w.drew g n xs := h
theorem BRow.drewN {w : World} {g n : Nat} {xs : List Int} (h : BRow w g n xs) (m : Nat) : BRow (w.drewN m) g n xs := h
theorem BRow.below {w w' : World} {g n B : Nat} {xs : List Int} (h : BRow w g n xs) (hb : Below B w w') (hg : g < B) : BRow w' g n xs :=
  ⟨h.1, fun _ hj => ⟨(hb.cell hg).trans (h.cell hj), (hb.frozen hg).trans (h.free hj)⟩⟩
theorem BRow.alloc {w : World} {g n : Nat} {xs : List Int} (h : BRow w g n xs) (hg : g < w.heap.size) (o : Obj) : BRow (w.alloc o) g n xs :=
  h.below ((Below.refl _ _).alloc (Nat.le_refl _) o) hg
theorem BRow.set_ {w : World} {g n : Nat} {xs : List Int} (h : BRow w g n xs) {i : Nat} (hi : i < n) (v : Int) : BRow (w.setCell ⟨g, i, none⟩ (.int .u8 v)) g n (xs.set i v) := by
  refine ⟨by rw [List.length_set]; exact h.1, fun j hj => ⟨?_, by rw [World.frozen?_setCell]; exact h.free hj⟩⟩
  by_cases e : i = j
  · subst e
    rw [World.cell?_setCell_same _ _ _ (h.cell hi)]
    have : i < xs.length := by rw [h.1]; exact hi
    simp [this]
  · rw [World.cell?_setCell_other _ _ _ _ (fun h2 => e (congrArg Addr.off h2)), h.cell hj]
    simp [List.getElem?_set_ne e]
theorem BRow.lt {w : World} {g n : Nat} {xs : List Int} (h : BRow w g n xs) (hn : 0 < n) : g < w.heap.size := World.block_lt_of_cell? w _ (h.cell hn)
theorem BRow.string {P : Program} {w : World} {g n cap : Nat} {xs : List Int} (h : BRow w g n xs) (src e : TypeId) (hs : P.underlying src = some (.slice e)) (he : P.underlying e = some (.int .u8)) (dst : TypeId) (hd : P.underlying dst = some .string) :
    (convert src dst (.slice (some ⟨g, 0, none⟩) n cap)).run P w = .ok (.string (strOfNums xs)) w :=
  run_convert_bytes_arg w src e hs he g 0 n cap xs h.1 (fun i hi => by rw [Nat.zero_add]; exact h.cell hi) dst hd
theorem below_bytesWorld (w : World) (s : ByteArray) : Below w.heap.size w (Lib.bytesWorld w 5 s) :=
  ⟨rfl, rfl, rfl, by rw [Lib.bytesWorld_size]; omega, fun i hi => Lib.bytesWorld_at_old w 5 s i hi⟩
end Go.Proofs.Ytgjcahmddhladaa
