/- The statement BooksMoves as a statement on numbers and lists. -/
import Derived.Test.YtjdcpddcngcioaaDoorBooksLaws
import Derived.Test.YtjdcpddcngcioaaDoorPBkx6
set_option linter.unusedSimpArgs false
set_option linter.unusedVariables false
namespace Go.Proofs.YtjdcpddcngcioaaDoor.BooksPlain
open Go.RowKit Go.Proofs.YtjdcpddcngcioaaDoor.PBk Go.Proofs.YtjdcpddcngcioaaDoorW.PrintWords Go.Proofs.YtjdcpddcngcioaaDoorW.PrintLast Go.Proofs.YtjdcpddcngcioaaDoorW.PrintMore
open Go.Proofs.YtjdcpddcngcioaaDoor
/-! ### Moves -/
def movedL (i j : Int) (v : Int) : List S81 := [⟨i, wrap64 (-v)⟩, ⟨j, v⟩]
def movedM (i j : Int) (v : Int) : List S50 := if (decide (0 ≤ v) && decide (v ≤ 72057594037927936)) = true then bpost (movedL i j v) else []
theorem vol1 (v : Int) (hv : I64 v) : volM 0 [v] = (decide (0 ≤ v) && decide (v ≤ 72057594037927936)) := by
  unfold I64 at hv
  simp only [volM]
  rw [Bool.eq_iff_iff]
  simp only [Bool.and_eq_true, decide_eq_true_eq]
  unfold wrap64
  by_cases h1 : v < 0
  · rw [if_pos h1]; simp; omega
  · rw [if_neg h1]
    split
    · simp; omega
    · simp; omega
theorem moved_ev (i j v : Int) (hv : I64 v) (hA : Asc 0 (movedL i j v)) : Ev (fun k => books_moved.f k i j v) (movedM i j v) := by
  refine Ev.bind (volume_ev [v] (by simp)) ?_
  rw [vol1 v hv]
  unfold movedM
  cases (decide (0 ≤ v) && decide (v ≤ 72057594037927936))
  · simp only [Bool.false_eq_true, if_false]; exact Ev.now _
  · simp only [if_true]
    exact Ev.bind (Ev.congr (fun _ => (both (movedL i j v) (by simp [movedL]) hA).1) (Ev.now _)) (Ev.now _)
theorem move_ev (i j v : Int) (hA : Asc 0 (movedL i j v)) : Ev (fun k => sawmillref52_move.f k v (nmT i.toNat) (nmT j.toNat)) (movedM i j v) := by
  refine Ev.bind (Ev.congr (fun _ => volume_ref v) (Ev.now _)) ?_
  unfold movedM
  cases (decide (0 ≤ v) && decide (v ≤ 72057594037927936))
  · simp only [Bool.false_eq_true, if_false]; exact Ev.now _
  · simp only [if_true]
    exact Ev.bind (both (movedL i j v) (by simp [movedL]) hA).2 (Ev.now _)
theorem moved_small (i j v : Int) : (movedM i j v).length < 1000000 := by
  unfold movedM
  split
  · exact bpost_small _ (by simp [movedL])
  · simp
theorem moved_asc (i j v : Int) (hv : I64 v) (h0 : 0 ≤ i) (h1 : i < j) (h2 : j < 8) : Asc 0 (movedL i j v) :=
  ⟨by simpa using h0, by simp only; omega, w64_in _, by simp only; omega, by simp only; omega, hv, trivial⟩
theorem moves_end (v : Int) (hv : I64 v) : Ev (fun k => (books_Scanned.f k v).bind fun t299 => ((sawmillref52_Scanned.f k v).bind fun t302 => ((sawmillref52_Same.f k t299 t302).bind fun t305 => (if t305 = true then ((books_Dried.f k v).bind fun t306 => ((sawmillref52_Dried.f k v).bind fun t309 => ((sawmillref52_Same.f k t306 t309).bind fun t312 => (if t312 = true then ((books_Shipped.f k v).bind fun t313 => ((sawmillref52_Shipped.f k v).bind fun t316 => ((sawmillref52_Same.f k t313 t316).bind fun t319 => (if t319 = true then ((sawmilllaw52_awake.f k).bind fun t320 => (some t320)) else (some false))))) else (some false))))) else (some false))))) true := by
  have a1 := moved_asc 0 1 v hv (by omega) (by omega) (by omega)
  have a2 := moved_asc 2 3 v hv (by omega) (by omega) (by omega)
  have a3 := moved_asc 3 6 v hv (by omega) (by omega) (by omega)
  refine Ev.bind (Ev.bind (moved_ev 0 1 v hv a1) (Ev.now _)) (Ev.bind (Ev.bind (move_ev 0 1 v a1) (Ev.now _)) (Ev.bind (same_ev _ (moved_small 0 1 v)) ?_))
  simp only [if_true]
  refine Ev.bind (Ev.bind (moved_ev 2 3 v hv a2) (Ev.now _)) (Ev.bind (Ev.bind (move_ev 2 3 v a2) (Ev.now _)) (Ev.bind (same_ev _ (moved_small 2 3 v)) ?_))
  simp only [if_true]
  refine Ev.bind (Ev.bind (moved_ev 3 6 v hv a3) (Ev.now _)) (Ev.bind (Ev.bind (move_ev 3 6 v a3) (Ev.now _)) (Ev.bind (same_ev _ (moved_small 3 6 v)) ?_))
  simp only [if_true]
  exact Ev.bind awake_ev (Ev.now _)
theorem moves_l0 (v : Int) (hv : I64 v) : ∀ (m i : Nat), i + m = 8 → Ev (fun k => sawmilllaw52_BooksMoves.l0 k v names8 names8 i) true := by
  intro m
  induction m with
  | zero =>
    intro i hi
    refine Ev.step (fun k => ?_) (moves_end v hv)
    simp only [sawmilllaw52_BooksMoves.l0]
    rw [if_neg (by simp [names8]; omega)]
  | succ m ih =>
    intro i hi
    refine Ev.step (fun k => ?_) (ih (i + 1) (by omega))
    simp only [sawmilllaw52_BooksMoves.l0]
    rw [if_pos (by simp [names8]; omega), if_pos (by omega), if_pos (by simp [names8]; omega)]
    simp only [if_true]
    rw [show wrap64 ((i : Int) + 1) = ((i + 1 : Nat) : Int) from by unfold wrap64; omega]
theorem BooksMoves : sawmilllaw52_BooksMoves.Pure := by
  intro v hv
  have h := moves_l0 v (of_wf hv) 8 0 rfl
  refine (Ev.congr (f := fun k => sawmilllaw52_BooksMoves.l0 k v names8 names8 ((0 : Nat) : Int)) (fun k => ?_) h).rounds
  simp only [sawmilllaw52_BooksMoves.f, books_Accounts.f, sawmillref52_Accounts.f, Option.bind_some]
  rfl

end Go.Proofs.YtjdcpddcngcioaaDoor.BooksPlain
