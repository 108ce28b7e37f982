/- The claim as a greedy walk over two lists with the same sums for each period: the sums stay the same. -/
import Derived.Test.YtmbelohcebfdcaaPure
set_option linter.unusedVariables false
set_option linter.unusedSimpArgs false
namespace Go.Proofs.Ytmbelohcebfdcaa.Acc
open Go.RowKit Go.Maps
def one (c : Int) : Int → Bool := fun x => x == c
theorem one_true {c x : Int} : (one c x = true) = (x = c) := by simp [one]
def Nn (l : List (Int × Int)) : Prop := ∀ a ∈ l, 0 ≤ a.2
def Wasc (l : List (Int × Int)) : Prop := l.Pairwise (fun a b => a.1 ≤ b.1)
theorem Nn.tail {a : Int × Int} {l : List (Int × Int)} (h : Nn (a :: l)) : Nn l := fun b hb => h b (by simp [hb])
theorem Pos.nn {l : List (Int × Int)} (h : Pos l) : Nn l := fun a ha => by have := h a ha; omega
theorem Asc.wasc {l : List (Int × Int)} (h : Asc l) : Wasc l := List.Pairwise.imp (fun h => Int.le_of_lt h) h
theorem sumN_range (g : Int → Bool) : ∀ l, Nn l → 0 ≤ sumG g l ∧ sumG g l ≤ total l
  | [], _ => ⟨Int.le_refl _, Int.le_refl _⟩
  | a :: l, h => by
    have h1 := h a (by simp)
    obtain ⟨h2, h3⟩ := sumN_range g l h.tail
    unfold total at h3 ⊢
    simp only [sumG, if_true]
    split <;> omega
theorem sumG_app (g : Int → Bool) : ∀ l m : List (Int × Int), sumG g (l ++ m) = sumG g l + sumG g m
  | [], m => by simp [sumG]
  | a :: l, m => by simp only [List.cons_append, sumG]; rw [sumG_app g l m]; omega
theorem sumG_cut (g : Int → Bool) (c : Int) : ∀ l : List (Int × Int), sumG g l = (if g c = true then sumG (one c) l else 0) + sumG g (l.filter (fun a => !one c a.1))
  | [] => by simp [sumG]
  | a :: l => by
    have ih := sumG_cut g c l
    by_cases h : a.1 = c
    · have e : one c a.1 = true := by rw [one_true]; exact h
      have hf : (a :: l).filter (fun a => !one c a.1) = l.filter (fun a => !one c a.1) := by rw [List.filter_cons, e]; rfl
      rw [hf]
      simp only [sumG, e, if_true]
      rw [h]
      split <;> rename_i hg
      · rw [if_pos hg] at ih; omega
      · rw [if_neg hg] at ih; omega
    · have e : one c a.1 = false := by simpa [one] using h
      have hf : (a :: l).filter (fun a => !one c a.1) = a :: l.filter (fun a => !one c a.1) := by rw [List.filter_cons, e]; rfl
      rw [hf]
      simp only [sumG, e]
      rw [ih]
      split <;> split <;> simp <;> omega
theorem sums_ext (n : Nat) : ∀ l m : List (Int × Int), l.length + m.length ≤ n → (∀ c, sumG (one c) l = sumG (one c) m) → ∀ g, sumG g l = sumG g m := by
  induction n with
  | zero =>
    intro l m hn _ g
    have h1 : l = [] := List.eq_nil_of_length_eq_zero (by omega)
    have h2 : m = [] := List.eq_nil_of_length_eq_zero (by omega)
    rw [h1, h2]
  | succ n ih =>
    intro l m hn h g
    have go : ∀ c, (l.filter (fun a => !one c a.1)).length + (m.filter (fun a => !one c a.1)).length ≤ n → sumG g l = sumG g m := by
      intro c hc
      rw [sumG_cut g c l, sumG_cut g c m, h c]
      congr 1
      refine ih _ _ hc (fun x => ?_) g
      have h1 := sumG_cut (one x) c l
      have h2 := sumG_cut (one x) c m
      rw [h c] at h1
      rw [h x] at h1
      omega
    cases l with
    | cons a l =>
      refine go a.1 ?_
      have e : one a.1 a.1 = true := by simp [one]
      rw [show (a :: l).filter (fun x => !one a.1 x.1) = l.filter (fun x => !one a.1 x.1) by rw [List.filter_cons, e]; rfl]
      have := List.length_filter_le (fun x : Int × Int => !one a.1 x.1) l
      have := List.length_filter_le (fun x : Int × Int => !one a.1 x.1) m
      simp at hn
      omega
    | nil =>
      cases m with
      | nil => rfl
      | cons a m =>
        refine go a.1 ?_
        have e : one a.1 a.1 = true := by simp [one]
        rw [show (a :: m).filter (fun x => !one a.1 x.1) = m.filter (fun x => !one a.1 x.1) by rw [List.filter_cons, e]; rfl]
        have := List.length_filter_le (fun x : Int × Int => !one a.1 x.1) m
        simp at hn ⊢
        omega
/-- The greedy walk that keeps what has become zero. -/
def claimK (p q : Int) : List (Int × Int) → Int → List (Int × Int)
  | [], _ => []
  | a :: l, v => if validF p a.1 q = true then (a.1, a.2 - min v a.2) :: claimK p q l (v - min v a.2) else a :: claimK p q l v
theorem claimK_S (p q : Int) (g : Int → Bool) : ∀ (l : List (Int × Int)) (v : Int), Pos l → total l < 1152921504606846976 → 0 ≤ v → v < 1152921504606846976 → sumG g (claimS p q l v).1 = sumG g (claimK p q l v)
  | [], v, _, _, _, _ => by simp [claimS, claimK]
  | a :: l, v, hp, ht, hv, hv2 => by
    have h1 := hp a (by simp)
    rw [total_cons] at ht
    have hr0 : 0 ≤ total l := (sumG_range (fun _ => true) l hp.tail).1
    have e1 : wrap64 (v - min v a.2) = v - min v a.2 := by unfold wrap64; omega
    have e2 : wrap64 (a.2 - min v a.2) = a.2 - min v a.2 := by unfold wrap64; omega
    have ih := fun v' h h' => claimK_S p q g l v' hp.tail (by omega) h h'
    unfold claimS claimK
    rw [e1, e2]
    split
    · split
      · rename_i hz
        simp only [sumG]
        rw [ih _ (by omega) (by omega), hz]
        split <;> simp
      · simp only [sumG]
        rw [ih _ (by omega) (by omega)]
    · simp only [sumG]
      rw [ih _ hv hv2]
theorem claimK_one (p q c : Int) : ∀ (l : List (Int × Int)) (v : Int), Nn l → Wasc l → 0 ≤ v →
    sumG (one c) (claimK p q l v) = sumG (one c) l - (if validF p c q = true then min (sumG (one c) l) (max 0 (v - sumG (fun x => validF p x q && decide (x < c)) l)) else 0)
  | [], v, _, _, hv => by simp only [claimK, sumG]; split <;> omega
  | a :: l, v, hn, hw, hv => by
    obtain ⟨hw1, hw2⟩ := List.pairwise_cons.1 hw
    have h1 := hn a (by simp)
    have rT := sumN_range (one c) l hn.tail
    have rS := sumN_range (fun x => validF p x q && decide (x < c)) l hn.tail
    have ih := fun v' h => claimK_one p q c l v' hn.tail hw2 h
    have zS : c ≤ a.1 → sumG (fun x => validF p x q && decide (x < c)) l = 0 := by
      intro hc
      have : sumG (fun x => validF p x q && decide (x < c)) l = sumG (fun _ => false) l := sumG_congr _ _ l (fun b hb => by
        have := hw1 b hb
        have hd : decide (b.1 < c) = false := by simp; omega
        rw [hd, Bool.and_false])
      rw [this]
      clear this ih rS rT hw hw1 hw2 h1 hn hv
      induction l with
      | nil => rfl
      | cons b l ih => simp only [sumG]; rw [ih]; simp
    have zT : c < a.1 → sumG (one c) l = 0 := by
      intro hc
      have : sumG (one c) l = sumG (fun _ => false) l := sumG_congr _ _ l (fun b hb => by
        have := hw1 b hb
        simp [one]; omega)
      rw [this]
      clear this zS ih rS rT hw hw1 hw2 h1 hn hv
      induction l with
      | nil => rfl
      | cons b l ih => simp only [sumG]; rw [ih]; simp
    unfold claimK
    by_cases hva : validF p a.1 q = true
    · rw [if_pos hva]
      simp only [sumG]
      rw [ih _ (by omega)]
      by_cases c1 : a.1 = c
      · subst c1
        have e : one a.1 a.1 = true := by rw [one_true]
        have hz := zS (by omega)
        have hd : (validF p a.1 q && decide (a.1 < a.1)) = false := by simp
        simp only [e, hz, hva, Int.lt_irrefl, decide_false, Bool.and_false, if_true, if_false, Bool.false_eq_true]
        omega
      · have e : one c a.1 = false := by simpa [one] using c1
        by_cases c2 : a.1 < c
        · have hd : (validF p a.1 q && decide (a.1 < c)) = true := by rw [hva]; simpa using c2
          simp only [e, hd, if_true, if_false, Bool.false_eq_true]
          split <;> omega
        · have hz := zT (by omega)
          simp only [e, hz, if_true, if_false, Bool.false_eq_true]
          split <;> omega
    · rw [if_neg hva]
      simp only [sumG]
      rw [ih _ hv]
      have hd : (validF p a.1 q && decide (a.1 < c)) = false := by simp at hva; rw [hva]; rfl
      by_cases c1 : a.1 = c
      · have hvc : ¬ validF p c q = true := by rw [← c1]; exact hva
        rw [if_neg hvc, if_neg hvc]; omega
      · have e : one c a.1 = false := by simpa [one] using c1
        simp only [e, hd, if_false, Bool.false_eq_true]
        split <;> omega
theorem claimK_key (p q : Int) : ∀ (l : List (Int × Int)) (v : Int), (claimK p q l v).map (·.1) = l.map (·.1)
  | [], _ => rfl
  | a :: l, v => by
    unfold claimK
    split
    · rw [List.map_cons, List.map_cons, claimK_key p q l _]
    · rw [List.map_cons, List.map_cons, claimK_key p q l _]
theorem claimK_nn (p q : Int) : ∀ (l : List (Int × Int)) (v : Int), Nn l → Nn (claimK p q l v)
  | [], _, h => by simpa [claimK] using h
  | a :: l, v, h => by
    have h1 := h a (by simp)
    unfold claimK
    split
    · intro b hb
      rcases List.mem_cons.1 hb with rfl | hb
      · show 0 ≤ a.2 - min v a.2
        omega
      · exact claimK_nn p q l _ h.tail b hb
    · intro b hb
      rcases List.mem_cons.1 hb with rfl | hb
      · exact h1
      · exact claimK_nn p q l _ h.tail b hb
/-- Two lists with the same sums: the claims have the same sums. -/
theorem claim_sums (p q v : Int) {l m : List (Int × Int)} (hl : Pos l) (hal : Asc l) (ht : total l < 1152921504606846976) (hm : Nn m) (ham : Wasc m) (hv : 0 ≤ v ∧ v < 1152921504606846976) (h : ∀ c, sumG (one c) m = sumG (one c) l) (c : Int) :
    sumG (one c) (claimK p q m v) = sumG (one c) (claimS p q l v).1 := by
  rw [claimK_S p q (one c) l v hl ht hv.1 hv.2, claimK_one p q c m v hm ham hv.1, claimK_one p q c l v hl.nn hal.wasc hv.1, h c]
  rw [sums_ext _ m l (Nat.le_refl _) h]
end Go.Proofs.Ytmbelohcebfdcaa.Acc
