/- The statement BooksSums as a statement on numbers and lists. -/
import Derived.Test.YtjdcpddcngcioaaDoorBooksPlain
import Derived.Test.YtjdcpddcngcioaaDoorBooksLaws
import Derived.Test.YtjdcpddcngcioaaDoorPBkx6
set_option linter.unusedSimpArgs false
set_option linter.unusedVariables false
namespace Go.Proofs.YtjdcpddcngcioaaDoor.BooksPlain
open Go.RowKit Go.Proofs.YtjdcpddcngcioaaDoor.PBk Go.Proofs.YtjdcpddcngcioaaDoorW.PrintWords Go.Proofs.YtjdcpddcngcioaaDoorW.PrintLast Go.Proofs.YtjdcpddcngcioaaDoorW.PrintMore
open Go.Proofs.YtjdcpddcngcioaaDoor
/-! ### Sums -/
theorem bal_small {a b c d : Int} (h : balM a b c d = true) : 0 ≤ b ∧ 0 ≤ c ∧ 0 ≤ d ∧ a = b + c + d := by
  unfold balM wM at h
  simp only [List.all_cons, List.all_nil, Bool.and_true, Bool.and_eq_true, decide_eq_true_eq, beq_iff_eq] at h
  unfold wrap64 at h
  omega
theorem amt_at (l : List S81) (j : Nat) (hj : j < 8) : ∀ n, I64 n → (∀ a ∈ l, 0 ≤ a.f0 ∧ a.f0 < 8) → amt (bpost l) (nmT j) n = amt (asS l) (nmT j) n := by
  induction l with
  | nil => intro n _ _; rfl
  | cons a l ih =>
    intro n hn h
    have hl : ∀ b ∈ l, 0 ≤ b.f0 ∧ b.f0 < 8 := fun b hb => h b (List.mem_cons_of_mem _ hb)
    rw [bpost_cons]
    by_cases hz : a.f1 = 0
    · rw [if_pos hz, ih n hn hl]
      simp only [asS, List.map_cons, amt, List.foldl_cons, hz, Int.add_zero]
      split
      · rw [w64 hn]
      · rfl
    · rw [if_neg hz]
      simp only [amt, List.foldl_cons, asS, List.map_cons]
      split
      · exact ih _ (w64_in _) hl
      · exact ih n hn hl
theorem sawn_at (a b c d : Int) (hb : I64 b) (hc : I64 c) (hd : I64 d) (j : Nat) (hj : j < 8) :
    amt (bpost (sawnL a b c d)) (nmT j) 0 = if j = 1 then wrap64 (-a) else if j = 2 then b else if j = 4 then c else if j = 5 then d else 0 := by
  rw [amt_at _ j hj 0 (by unfold I64; omega) (fun x hx => by have := (sawn_asc a b c d hb hc hd).mem x hx; omega)]
  have e : asS (sawnL a b c d) = [⟨nmT 1, wrap64 (-a)⟩, ⟨nmT 2, b⟩, ⟨nmT 4, c⟩, ⟨nmT 5, d⟩] := rfl
  rw [e]
  have hw := w64_in (-a)
  match j, hj with
  | 0, _ => simp [amt, nmT]
  | 1, _ => simp [amt, nmT, w64 hw]
  | 2, _ => simp [amt, nmT, w64 hb]
  | 3, _ => simp [amt, nmT]
  | 4, _ => simp [amt, nmT, w64 hc]
  | 5, _ => simp [amt, nmT, w64 hd]
  | 6, _ => simp [amt, nmT]
  | 7, _ => simp [amt, nmT]
theorem names_at (j : Nat) (hj : j < 8) : rdOf ByteArray.empty names8 (j : Int) = nmT j := by
  match j, hj with
  | 0, _ => rfl
  | 1, _ => rfl
  | 2, _ => rfl
  | 3, _ => rfl
  | 4, _ => rfl
  | 5, _ => rfl
  | 6, _ => rfl
  | 7, _ => rfl
def addM (a b c d v a' b' c' d' v' : Int) : Int × Int × Int × Int × Int × Int :=
  if wM [a, b, c, d] v = true then (if wM [a', b', c', d'] v' = true then (wrap64 (a + a'), wrap64 (b + b'), wrap64 (c + c'), wrap64 (d + d'), wrap64 (v + v'), 0) else (0, 0, 0, 0, 0, 9)) else (0, 0, 0, 0, 0, 9)
theorem add_ev (a b c d v a' b' c' d' v' : Int) : Ev (fun k => yield_Add.f k a b c d v a' b' c' d' v') (addM a b c d v a' b' c' d' v') := by
  refine Ev.bind (within_ev a b c d v) ?_
  unfold addM
  cases wM [a, b, c, d] v
  · simp only [Bool.false_eq_true, if_false]; exact Ev.now _
  · simp only [if_true]
    refine Ev.bind (within_ev a' b' c' d' v') ?_
    cases wM [a', b', c', d'] v'
    · simp only [Bool.false_eq_true, if_false]; exact Ev.now _
    · simp only [if_true]; exact Ev.now _
theorem addM_in (a b c d v a' b' c' d' v' : Int) : I64 (addM a b c d v a' b' c' d' v').2.1 ∧ I64 (addM a b c d v a' b' c' d' v').2.2.1 ∧ I64 (addM a b c d v a' b' c' d' v').2.2.2.1 := by
  unfold addM
  have z : I64 0 := by unfold I64; omega
  split
  · split
    · exact ⟨w64_in _, w64_in _, w64_in _⟩
    · exact ⟨z, z, z⟩
  · exact ⟨z, z, z⟩
theorem sawnM_len (a b c d : Int) : (sawnM a b c d).1.length < 1000 := by
  unfold sawnM
  split
  · split
    · simp
    · have := bpost_length (sawnL a b c d); simp [sawnL] at this ⊢; omega
  · simp
theorem sawnM_ok {a b c d : Int} (h : (sawnM a b c d).2 = 0) : balM a b c d = true ∧ a ≤ 72057594037927936 ∧ sawnM a b c d = (bpost (sawnL a b c d), 0) := by
  unfold sawnM at h ⊢
  by_cases h1 : balM a b c d = true
  · rw [if_pos h1] at h ⊢
    by_cases h2 : a > 72057594037927936
    · rw [if_pos h2] at h; cases h
    · rw [if_neg h2]; exact ⟨h1, by omega, rfl⟩
  · rw [if_neg h1] at h; cases h
end Go.Proofs.YtjdcpddcngcioaaDoor.BooksPlain
