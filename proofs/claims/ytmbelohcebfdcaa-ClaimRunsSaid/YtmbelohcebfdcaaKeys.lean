/- The keys of the account's map, sorted: slices.Sorted at what maps.Keys hands back, by the library's contracts. -/
import Derived.Test.YtmbelohcebfdcaaIter
import Derived.Test.YtmbelohcebfdcaaOps
set_option linter.unusedVariables false
set_option linter.unusedSimpArgs false
namespace Go.Proofs.Ytmbelohcebfdcaa.Acc
open Go.RowKit Go.Maps Go.Sort Go.Shelf
theorem sortsA (m : Nat) : AnyZI.SortsIn Try.prog Try.sortedA_ren Fence.wide m :=
  ⟨fun blk off cap ss W hH hblk hsz => callsIn_wide.2 (AnyM.slices_Sort_int Try.sortA blk off cap ss W hH hblk hsz),
   fun p cap W => callsIn_wide.2 (AnyM.slices_Sort_int_none Try.sortA p cap W)⟩
theorem keys_calls (mb : Option Nat) (W : World) : Calls Try.prog 30 #[.map mb] W fun e w' => e = .returned (.func (.func 34) #[] #[.pointer (some ⟨W.heap.size, 0, none⟩)]) ∧ w' = W.alloc (.cells #[.map mb] 49) :=
  (callsIn_wide (n := 5)).1 (AnyZI.keys_in Try.keysA Fence.wide 5 trivial rfl mb W)
set_option maxHeartbeats 1000000 in
theorem sorted_calls (b nn : Nat) (D0 : DataW Unit) (R : Value → Option (DataW Unit × List MemPlace)) (w : World) (hown : w.ownsMap Try.prog 3 R b nn D0) (hmax : Maps.size D0 ≤ maxLen) (hbytes : Maps.size D0 * 8 ≤ 140737488355328) :
    Calls Try.prog 29 #[.func (.func 34) #[] #[.pointer (some ⟨w.heap.size, 0, none⟩)]] (w.alloc (.cells #[.map (some b)] 49)) fun e w' => ∃ (v : Value) (ss : List Int), e = .returned v ∧ ss.Perm (intKeys D0) ∧
      w'.ownsRow (w.alloc (.cells #[.map (some b)] 49)).heap.size 3 1 v ss.length ((ss.mergeSort (fun x y => decide (x ≤ y))).map encZ) ∧ (v = .slice none 0 0 ↔ ss = []) ∧ Below (w.alloc (.cells #[.map (some b)] 49)).heap.size (w.alloc (.cells #[.map (some b)] 49)) w' := by
  have hbl := hown.lt
  have hseq : SeqGives Fence.wide 2 Try.prog 34 #[.pointer (some ⟨w.heap.size, 0, none⟩)] encZ (fun ss => ss.Perm (intKeys D0)) (Maps.size D0) (w.alloc (.cells #[.map (some b)] 49)) :=
    AnyZI.keys_gives (ρ := Try.keysA_ren) { Try.keysA with } Fence.wide _ trivial rfl (by omega) w.heap.size b nn D0 _ (by simp) (by simp) (by
      obtain ⟨es, clock, hb, Ft, hs, hD⟩ := hown
      exact ⟨es, clock, (Below.heap_alloc _ _ b hbl).trans hb, Ft, hs, hD⟩)
  exact (callsIn_wide (n := 5)).1 (AnyZI.sorted_in Try.sortedA Fence.wide 5 trivial trivial trivial trivial rfl (by omega) (sortsA _) (enters_of Try.func33 (by kernel_rfl) rfl) 34 #[.pointer (some ⟨w.heap.size, 0, none⟩)] trivial (enters_of Try.func34 (by kernel_rfl) rfl) _ _ hmax hbytes _ hseq)
theorem keys_toD (l : List (Int × Int)) : intKeys (toD l) = l.map (·.1) := by
  unfold intKeys toD
  simp only [List.map_map]
  rfl
theorem asc_sorted (l : List (Int × Int)) (h : Asc l) : (l.map (·.1)).mergeSort leI = l.map (·.1) := by
  apply List.mergeSort_of_pairwise
  rw [List.pairwise_map]
  exact h.imp (fun h => by simp only [leI, decide_eq_true_eq]; omega)
theorem add_head (g i : Nat) : Addr.add ⟨g, 0, none⟩ i = ⟨g, i, none⟩ := by
  unfold Addr.add
  split
  · rename_i h; first | (subst h; rfl) | (have := beq_iff_eq.1 h; subst this; rfl)
  · simp
/-- The keys, ascending, in a slice of its own. -/
theorem keys_sorted (b : Nat) (l : List (Int × Int)) (w : World) (hown : w.ownsMap Try.prog 3 (plainElem Try.prog 3) b l.length (toD l)) (hl : Asc l) (hn : l.length < 1000) :
    Calls Try.prog 29 #[.func (.func 34) #[] #[.pointer (some ⟨w.heap.size, 0, none⟩)]] (w.alloc (.cells #[.map (some b)] 49)) fun e w' => ∃ (A : Option Addr) (c : Nat), e = .returned (.slice A l.length c) ∧
      (∀ i, (h : i < l.length) → ∃ ad, A = some ad ∧ w'.cell? (ad.add i) = some (.int .i64 l[i].1)) ∧ (∀ ad, A = some ad → w.heap.size < ad.block ∧ ad.block < w'.heap.size) ∧ Below (w.heap.size + 1) (w.alloc (.cells #[.map (some b)] 49)) w' := by
  have e0 : (w.alloc (.cells #[.map (some b)] 49)).heap.size = w.heap.size + 1 := by simp
  refine (sorted_calls b l.length (toD l) _ w hown (by rw [size_toD]; unfold maxLen; omega) (by rw [size_toD]; omega)).mono ?_
  rintro e w' ⟨v, ss, rfl, hperm, hrow, hnil, hbel⟩
  rw [keys_toD] at hperm
  have hlen : ss.length = l.length := by simpa using hperm.length_eq
  have hms : ss.mergeSort (fun x y => decide (x ≤ y)) = l.map (·.1) := (mergeSort_of_perm_i hperm).trans (asc_sorted l hl)
  rw [hms, hlen] at hrow
  rw [e0] at hrow hbel
  obtain ⟨_, h2⟩ := hrow
  rcases h2 with ⟨rfl, h0⟩ | ⟨g, cap, cur, rfl, hg, hh, _, _, _, htake⟩
  · refine ⟨none, 0, by rw [h0], fun i hi => by omega, (fun ad h => by cases h), hbel⟩
  · refine ⟨_, cap, rfl, fun i hi => ⟨_, rfl, ?_⟩, (fun ad h => by cases h; exact ⟨(show w.heap.size < g from by omega), (Array.getElem?_eq_some_iff.1 hh).1⟩), hbel⟩
    have h3 : cur.toList[i]? = some (.int .i64 l[i].1) := by
      have h4 : (cur.toList.take (l.length * 1))[i]? = some (.int .i64 l[i].1) := by
        rw [htake]
        simp [hi, encZ]
      rw [List.getElem?_take] at h4
      rw [if_pos (by omega)] at h4
      exact h4
    rw [add_head]
    simp only [World.cell?, hh]
    simpa using h3
end Go.Proofs.Ytmbelohcebfdcaa.Acc
