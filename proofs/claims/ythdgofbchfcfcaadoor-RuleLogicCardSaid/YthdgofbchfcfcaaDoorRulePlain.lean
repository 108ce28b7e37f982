/- The statements' limits: count comes to an end; what is small has few nodes, and no list in it is beyond any machine. No condition. What the printed functions come to, in plain words: the limits, the names, the reference's check. No condition. -/
import Derived.Test.YthdgofbchfcfcaaDoorRuleRefUses
import Derived.Test.YthdgofbchfcfcaaDoorPRux11
set_option linter.unusedVariables false
set_option linter.unusedSimpArgs false
namespace Go.Proofs.YthdgofbchfcfcaaDoor.PRu
open Go.RowKit Go.Proofs.YthdgofbchfcfcaaDoorW.PrintWords Go.Proofs.YthdgofbchfcfcaaDoorW.PrintLast Go.Proofs.YthdgofbchfcfcaaDoorW.PrintMore
theorem lift {α : Type} {f : Nat → Option α} (hm : ∀ k, LeO (f k) (f (k + 1))) {k : Nat} {r : α} (h : f k = some r) : ∀ j, f (k + j) = some r
  | 0 => h
  | j + 1 => hm (k + j) r (lift hm h j)
theorem lift_le {α : Type} {f : Nat → Option α} (hm : ∀ k, LeO (f k) (f (k + 1))) {k k' : Nat} {r : α} (h : f k = some r) (hk : k ≤ k') : f k' = some r := by
  have := lift hm h (k' - k)
  rwa [show k + (k' - k) = k' by omega] at this
mutual
def countF : Nat → S24 → Int → Int
  | 0, _, lim => lim + 1
  | L + 1, e, lim => if lim ≤ 0 then lim + 1 else if (e.f2.size : Int) > 100 then lim + 1 else countL L e.f3 1 lim
def countL : Nat → List S24 → Int → Int → Int
  | _, [], n, _ => n
  | L, a :: l, n, lim => if n ≤ lim then countL L l (n + countF L a (lim - n)) lim else n
end
theorem countL_range (L : Nat) (hF : ∀ e lim, 0 ≤ lim → 1 ≤ countF L e lim ∧ countF L e lim ≤ lim + 1) : ∀ (l : List S24) (n lim : Int), 1 ≤ n → n ≤ lim + 1 → 0 ≤ lim → n ≤ countL L l n lim ∧ countL L l n lim ≤ lim + 1
  | [], n, lim, h1, h2, h3 => by simp only [countL]; omega
  | a :: l, n, lim, h1, h2, h3 => by
    simp only [countL]
    by_cases h : n ≤ lim
    · rw [if_pos h]
      have := hF a (lim - n) (by omega)
      have ih := countL_range L hF l (n + countF L a (lim - n)) lim (by omega) (by omega) h3
      omega
    · rw [if_neg h]; omega
theorem countF_range : ∀ (L : Nat) (e : S24) (lim : Int), 0 ≤ lim → 1 ≤ countF L e lim ∧ countF L e lim ≤ lim + 1
  | 0, e, lim, h => by simp only [countF]; omega
  | L + 1, e, lim, h => by
    simp only [countF]
    by_cases h1 : lim ≤ 0
    · rw [if_pos h1]; omega
    · rw [if_neg h1]
      by_cases h2 : (e.f2.size : Int) > 100
      · rw [if_pos h2]; omega
      · rw [if_neg h2]
        have := countL_range L (countF_range L) e.f3 1 lim (by omega) (by omega) h
        omega
theorem count_up {k k' : Nat} {x0 x1 : Int} {x2 : ByteArray} {l : List S24} {a b r : Int} (h : sawmilllaw43_count.f k x0 x1 x2 l a b = some r) (hk : k ≤ k') : sawmilllaw43_count.f k' x0 x1 x2 l a b = some r :=
  lift_le (α := Int) (f := fun k => sawmilllaw43_count.f k x0 x1 x2 l a b) (fun k => (sawmilllaw43_count.mono_l k).1 x0 x1 x2 l a b) h hk
theorem count_upl {k k' : Nat} {y0 y1 y2 y3 x0 x1 : Int} {x2 : ByteArray} {l : List S24} {r : Int} (h : sawmilllaw43_count.l0 k y0 y1 y2 y3 x0 x1 x2 l = some r) (hk : k ≤ k') : sawmilllaw43_count.l0 k' y0 y1 y2 y3 x0 x1 x2 l = some r :=
  lift_le (α := Int) (f := fun k => sawmilllaw43_count.l0 k y0 y1 y2 y3 x0 x1 x2 l) (fun k => (sawmilllaw43_count.mono_l k).2.2 y0 y1 y2 y3 x0 x1 x2 l) h hk
theorem count_l0 (k : Nat) (x1 x2 x7 x8 y0 y1 : Int) (s : ByteArray) (l : List S24) : sawmilllaw43_count.l0 (k + 1) x1 x2 x7 x8 y0 y1 s l = if x8 < (l.length : Int) then (if x7 ≤ x2 then (if 0 ≤ x8 then ((sawmilllaw43_count.f k ((rd_T24 l x8).f0) ((rd_T24 l x8).f1) ((rd_T24 l x8).f2) ((rd_T24 l x8).f3) (wrap64 (x1 - 1)) (wrap64 (x2 - x7))).bind fun t103 => (sawmilllaw43_count.l0 k x1 x2 (wrap64 (x7 + t103)) (wrap64 (x8 + 1)) y0 y1 s l)) else (none)) else (if (s.size : Int) > 100 then (some (wrap64 (x2 + 1))) else (some x7))) else (if (s.size : Int) > 100 then (some (wrap64 (x2 + 1))) else (some x7)) := by
  simp only [sawmilllaw43_count.l0]
theorem count_j0 (k : Nat) (x1 x2 : Int) (b : Bool) (y0 y1 : Int) (s : ByteArray) (l : List S24) : sawmilllaw43_count.j0 (k + 1) x1 x2 b y0 y1 s l = if b = true then (some (wrap64 (x2 + 1))) else (sawmilllaw43_count.l0 k x1 x2 1 0 y0 y1 s l) := by
  simp only [sawmilllaw43_count.j0]
theorem count_f (k : Nat) (x1 x2 : Int) (y0 y1 : Int) (s : ByteArray) (l : List S24) : sawmilllaw43_count.f (k + 1) y0 y1 s l x1 x2 = if x1 = 0 then (sawmilllaw43_count.j0 k x1 x2 true y0 y1 s l) else (sawmilllaw43_count.j0 k x1 x2 (decide (x2 ≤ 0)) y0 y1 s l) := by
  simp only [sawmilllaw43_count.f]
attribute [local irreducible] sawmilllaw43_count.f sawmilllaw43_count.l0 sawmilllaw43_count.j0
theorem countL_nil (L : Nat) (n lim : Int) : countL L [] n lim = n := by unfold countL; rfl
theorem countL_cons (L : Nat) (a : S24) (l : List S24) (n lim : Int) : countL L (a :: l) n lim = if n ≤ lim then countL L l (n + countF L a (lim - n)) lim else n := by
  conv => lhs; unfold countL
theorem countF_zero (e : S24) (lim : Int) : countF 0 e lim = lim + 1 := by unfold countF; rfl
theorem countF_succ (L : Nat) (e : S24) (lim : Int) : countF (L + 1) e lim = if lim ≤ 0 then lim + 1 else if (e.f2.size : Int) > 100 then lim + 1 else countL L e.f3 1 lim := by
  conv => lhs; unfold countF
theorem wid {n : Int} (h : -9223372036854775808 ≤ n) (h2 : n ≤ 9223372036854775807) : wrap64 n = n := by unfold wrap64; omega
/-- The loop over the arguments, as printed. -/
theorem count_loop (L : Nat) (hL : (L : Int) ≤ 100) (ih : ∀ e lim, 0 ≤ lim → lim ≤ 1000 → ∃ k, sawmilllaw43_count.f k e.f0 e.f1 e.f2 e.f3 (L : Int) lim = some (countF L e lim)) (x0 x1 : Int) (x2 : ByteArray) (l : List S24) (lim : Int) (h0 : 0 ≤ lim) (h1 : lim ≤ 1000) :
    ∀ (m i : Nat) (n : Int), i + m = l.length → (i : Int) + 1 ≤ n → n ≤ lim + 1 → ∃ k, sawmilllaw43_count.l0 k ((L : Int) + 1) lim n (i : Int) x0 x1 x2 l = some (if (x2.size : Int) > 100 then lim + 1 else countL L (l.drop i) n lim)
  | 0, i, n, hi, hn, hn2 => by
    refine ⟨1, ?_⟩
    rw [count_l0, if_neg (by omega), List.drop_eq_nil_of_le (by omega), wid (n := lim + 1) (by omega) (by omega), countL_nil]
    by_cases hs : (x2.size : Int) > 100
    · rw [if_pos hs, if_pos hs]
    · rw [if_neg hs, if_neg hs]
  | m + 1, i, n, hi, hn, hn2 => by
    have hlt : i < l.length := by omega
    by_cases hc : n ≤ lim
    · obtain ⟨k1, hk1⟩ := ih l[i] (lim - n) (by omega) (by omega)
      have hr := countF_range L l[i] (lim - n) (by omega)
      obtain ⟨k2, hk2⟩ := count_loop L hL ih x0 x1 x2 l lim h0 h1 m (i + 1) (n + countF L l[i] (lim - n)) (by omega) (by omega) (by omega)
      have h1' := count_up hk1 (Nat.le_max_left k1 k2)
      have h2' := count_upl hk2 (Nat.le_max_right k1 k2)
      refine ⟨max k1 k2 + 1, ?_⟩
      rw [count_l0, if_pos (by omega), if_pos hc, if_pos (by omega), rd_at24 l i hlt, wid (n := (L : Int) + 1 - 1) (by omega) (by omega), wid (n := lim - n) (by omega) (by omega), show (L : Int) + 1 - 1 = (L : Int) by omega, h1', Option.bind_some, wid (n := n + countF L l[i] (lim - n)) (by omega) (by omega), wid (n := (i : Int) + 1) (by omega) (by omega), show (i : Int) + 1 = ((i + 1 : Nat) : Int) by omega, h2', List.drop_eq_getElem_cons hlt, countL_cons, if_pos hc]
    · refine ⟨1, ?_⟩
      rw [count_l0, if_pos (by omega), if_neg hc, wid (n := lim + 1) (by omega) (by omega), List.drop_eq_getElem_cons hlt, countL_cons, if_neg hc]
      by_cases hs : (x2.size : Int) > 100
      · rw [if_pos hs, if_pos hs]
      · rw [if_neg hs, if_neg hs]
theorem count_all : ∀ (L : Nat), (L : Int) ≤ 100 → ∀ (e : S24) (lim : Int), 0 ≤ lim → lim ≤ 1000 → ∃ k, sawmilllaw43_count.f k e.f0 e.f1 e.f2 e.f3 (L : Int) lim = some (countF L e lim)
  | 0, _, e, lim, h0, h1 => by
    refine ⟨2, ?_⟩
    rw [count_f, if_pos (by omega), count_j0, if_pos rfl, wid (by omega) (by omega), countF_zero]
  | L + 1, hL, e, lim, h0, h1 => by
    by_cases hz : lim ≤ 0
    · refine ⟨2, ?_⟩
      rw [count_f, if_neg (by omega), count_j0, if_pos (decide_eq_true hz), wid (by omega) (by omega), countF_succ, if_pos hz]
    · obtain ⟨k, hk⟩ := count_loop L (by omega) (fun e lim a b => count_all L (by omega) e lim a b) e.f0 e.f1 e.f2 e.f3 lim h0 h1 e.f3.length 0 1 (by omega) (by omega) (by omega)
      refine ⟨k + 2, ?_⟩
      rw [count_f, if_neg (by omega), count_j0, if_neg (by rw [decide_eq_false hz]; decide), countF_succ, if_neg hz]
      rw [show ((L + 1 : Nat) : Int) = (L : Int) + 1 by omega, show (0 : Int) = ((0 : Nat) : Int) by omega, hk, List.drop_zero]
/-- What the bound says. -/
theorem countL_all (L M : Nat) (hML : M ≤ L) (ih : ∀ e lim, 0 ≤ lim → lim ≤ 1000 → countF L e lim ≤ lim → limB M e = true ∧ ((usesN M e).length : Int) ≤ countF L e lim) : ∀ (l : List S24) (n lim : Int), 1 ≤ n → 0 ≤ lim → lim ≤ 1000 → n ≤ lim + 1 → countL L l n lim ≤ lim → n + (l.length : Int) ≤ countL L l n lim ∧ l.all (limB M) = true ∧ ((l.flatMap (usesN M)).length : Int) + n ≤ countL L l n lim
  | [], n, lim, h1, h2, hk, h2', h3 => by rw [countL_nil] at *; simp
  | a :: l, n, lim, h1, h2, hk, h2', h3 => by
    rw [countL_cons] at h3 ⊢
    by_cases hc : n ≤ lim
    · rw [if_pos hc] at h3 ⊢
      have hr := countF_range L a (lim - n) (by omega)
      have hl := countL_range L (countF_range L) l (n + countF L a (lim - n)) lim (by omega) (by omega) h2
      obtain ⟨a1, a2⟩ := ih a (lim - n) (by omega) (by omega) (by omega)
      obtain ⟨b1, b2, b3⟩ := countL_all L M hML ih l (n + countF L a (lim - n)) lim (by omega) h2 hk (by omega) h3
      refine ⟨?_, ?_, ?_⟩
      · rw [List.length_cons]; omega
      · rw [List.all_cons, a1, b2]; rfl
      · rw [List.flatMap_cons, List.length_append]; omega
    · rw [if_neg hc] at h3; omega
theorem countF_small : ∀ (L M : Nat), M ≤ L → ∀ (e : S24) (lim : Int), 0 ≤ lim → lim ≤ 1000 → countF L e lim ≤ lim → limB M e = true ∧ ((usesN M e).length : Int) ≤ countF L e lim
  | L, 0, _, e, lim, h0, hk, h => by
    have := countF_range L e lim h0
    refine ⟨by simp only [limB], ?_⟩
    simp only [usesN, List.length_nil]; omega
  | 0, M + 1, h, e, lim, _, _, _ => by omega
  | L + 1, M + 1, hML, e, lim, h0, hk, h => by
    rw [countF_succ] at h ⊢
    by_cases hz : lim ≤ 0
    · rw [if_pos hz] at h; omega
    · rw [if_neg hz] at h ⊢
      by_cases hs : (e.f2.size : Int) > 100
      · rw [if_pos hs] at h; omega
      · rw [if_neg hs] at h ⊢
        obtain ⟨a1, a2, a3⟩ := countL_all L M (by omega) (fun e l b0 b1 b2 => countF_small L M (by omega) e l b0 b1 b2) e.f3 1 lim (by omega) h0 hk (by omega) h
        refine ⟨?_, ?_⟩
        · have a4 : e.f3.length < 4611686018427387904 := by
            have := countL_range L (countF_range L) e.f3 1 lim (by omega) (by omega) h0
            omega
          simp only [limB, a2, Bool.and_true, decide_eq_true a4]
        · simp only [usesN, List.length_append]
          have : ((if e.f0 = 2 then [e.f2] else ([] : List ByteArray)).length : Int) ≤ 1 := by split <;> simp
          omega
theorem small_f (e : S24) : ∃ k, sawmilllaw43_small.f k e.f0 e.f1 e.f2 e.f3 = some (decide (countF 12 e 300 ≤ 300)) := by
  obtain ⟨k, hk⟩ := count_all 12 (by decide) e 300 (by decide) (by decide)
  refine ⟨k, ?_⟩
  unfold sawmilllaw43_small.f
  rw [show (12 : Int) = ((12 : Nat) : Int) by omega, hk, Option.bind_some]
theorem small_lim {e : S24} (h : countF 12 e 300 ≤ 300) : limB 8 e = true ∧ (usesN 8 e).length ≤ 300 := by
  obtain ⟨a, b⟩ := countF_small 12 8 (by decide) e 300 (by decide) (by decide) h
  exact ⟨a, by omega⟩
end Go.Proofs.YthdgofbchfcfcaaDoor.PRu

set_option linter.unusedVariables false
set_option linter.unusedSimpArgs false
namespace Go.Proofs.YthdgofbchfcfcaaDoor.PRu
open Go.RowKit Go.Proofs.YthdgofbchfcfcaaDoorW.PrintWords Go.Proofs.YthdgofbchfcfcaaDoorW.PrintLast Go.Proofs.YthdgofbchfcfcaaDoorW.PrintMore
/-- From some fuel on, a printed function answers so. -/
def Ev {α : Type} (f : Nat → Option α) (r : α) : Prop := ∃ k, ∀ j, k ≤ j → f j = some r
theorem Ev.up {α : Type} {f : Nat → Option α} (hm : ∀ k, LeO (f k) (f (k + 1))) {k : Nat} {r : α} (h : f k = some r) : Ev f r := ⟨k, fun j hj => lift_le hm h hj⟩
theorem Ev.one {α : Type} {f : Nat → Option α} {r : α} (h : ∀ k, f (k + 1) = some r) : Ev f r := ⟨1, fun j hj => by
  obtain ⟨j, rfl⟩ : ∃ i, j = i + 1 := ⟨j - 1, by omega⟩
  exact h j⟩
theorem Ev.step {α : Type} {f g : Nat → Option α} {r : α} (hg : Ev g r) (h : ∀ k, f (k + 1) = g k) : Ev f r := by
  obtain ⟨k, hk⟩ := hg
  refine ⟨k + 1, fun j hj => ?_⟩
  obtain ⟨j, rfl⟩ : ∃ i, j = i + 1 := ⟨j - 1, by omega⟩
  rw [h j, hk j (by omega)]
theorem Ev.same {α : Type} {f g : Nat → Option α} {r : α} (hg : Ev g r) (h : ∀ k, f k = g k) : Ev f r := by
  obtain ⟨k, hk⟩ := hg
  exact ⟨k, fun j hj => by rw [h j, hk j hj]⟩
theorem Ev.bind {α β : Type} {f : Nat → Option α} {g : Nat → α → Option β} {a : α} {b : β} (hf : Ev f a) (hg : Ev (fun k => g k a) b) : Ev (fun k => (f k).bind (g k)) b := by
  obtain ⟨k, hk⟩ := hf
  obtain ⟨m, hm⟩ := hg
  exact ⟨k + m, fun j hj => by show (f j).bind (g j) = some b; rw [hk j (by omega), Option.bind_some]; exact hm j (by omega)⟩
theorem Ev.const {α : Type} {r : α} : Ev (fun _ => some r) r := ⟨0, fun _ _ => rfl⟩
theorem small_ev (e : S24) : Ev (fun k => sawmilllaw43_small.f k e.f0 e.f1 e.f2 e.f3) (decide (countF 12 e 300 ≤ 300)) := by
  obtain ⟨k, hk⟩ := small_f e
  exact Ev.up (fun k => sawmilllaw43_small.mono _ _ _ _ k) hk
/-! short -/
def shortP (l : List S40) : Bool := l.all fun x => decide ((x.f0.size : Int) ≤ 100)
theorem short_loop (l : List S40) (hl : l.length ≤ 60) : ∀ (m i k : Nat), i + m = l.length → sawmilllaw43_short.l0 (m + 1 + k) l (i : Int) = some (shortP (l.drop i))
  | 0, i, k, hi => by
    rw [show 0 + 1 + k = k + 1 by omega, sawmilllaw43_short.l0, if_neg (by omega), List.drop_eq_nil_of_le (by omega)]
    rfl
  | m + 1, i, k, hi => by
    have hlt : i < l.length := by omega
    rw [show m + 1 + 1 + k = (m + 1 + k) + 1 by omega, sawmilllaw43_short.l0, if_pos (by omega), if_pos (by omega), rd_at40 l i hlt, wid (n := (i : Int) + 1) (by omega) (by omega), show (i : Int) + 1 = ((i + 1 : Nat) : Int) by omega, List.drop_eq_getElem_cons hlt]
    unfold shortP
    rw [List.all_cons]
    by_cases hx : (l[i].f0.size : Int) > 100
    · rw [if_pos hx, decide_eq_false (by omega), Bool.false_and]
    · rw [if_neg hx, decide_eq_true (by omega), Bool.true_and]
      exact short_loop l hl m (i + 1) k (by omega)
def shortF (l : List S40) : Bool := decide (l.length ≤ 60) && shortP l
theorem short_ev (l : List S40) : Ev (fun k => sawmilllaw43_short.f k l) (shortF l) := by
  unfold sawmilllaw43_short.f shortF
  by_cases h : (l.length : Int) > 60
  · refine ⟨0, fun j _ => ?_⟩
    simp only []
    rw [if_pos h, decide_eq_false (by omega), Bool.false_and]
  · refine ⟨l.length + 1, fun j hj => ?_⟩
    have := short_loop l (by omega) l.length 0 (j - (l.length + 1)) (by omega)
    rw [show l.length + 1 + (j - (l.length + 1)) = j by omega, List.drop_zero] at this
    simp only []
    rw [if_neg h, decide_eq_true (by omega), Bool.true_and, show (0 : Int) = ((0 : Nat) : Int) from rfl, this]
theorem shortF_len {l : List S40} (h : shortF l = true) : l.length ≤ 60 := by
  unfold shortF at h
  rw [Bool.and_eq_true] at h
  exact of_decide_eq_true h.1
/-! names -/
def namesF (l : List S40) : List ByteArray := l.map S40.f0
theorem names_loop (l : List S40) (hl : l.length ≤ 60) : ∀ (m i : Nat) (acc : List ByteArray) (k : Nat), i + m = l.length → acc.length = i → sawmillref43_Names.l0 (m + 1 + k) l acc (i : Int) = some (acc ++ namesF (l.drop i))
  | 0, i, acc, k, hi, ha => by
    rw [show 0 + 1 + k = k + 1 by omega, sawmillref43_Names.l0, if_neg (by omega), List.drop_eq_nil_of_le (by omega)]
    simp [namesF]
  | m + 1, i, acc, k, hi, ha => by
    have hlt : i < l.length := by omega
    rw [show m + 1 + 1 + k = (m + 1 + k) + 1 by omega, sawmillref43_Names.l0, if_pos (by omega), if_pos (by omega), if_pos (by omega), rd_at40 l i hlt, wid (n := (i : Int) + 1) (by omega) (by omega), show (i : Int) + 1 = ((i + 1 : Nat) : Int) by omega, names_loop l hl m (i + 1) _ k (by omega) (by simp; omega), List.drop_eq_getElem_cons hlt]
    show some (acc ++ [l[i].f0] ++ (l.drop (i + 1)).map S40.f0) = some (acc ++ (l[i] :: l.drop (i + 1)).map S40.f0)
    rw [List.map_cons, List.append_assoc]
    rfl
theorem names_ev {l : List S40} (hl : l.length ≤ 60) : Ev (fun k => sawmillref43_Names.f k l) (namesF l) := by
  refine ⟨l.length + 1, fun j hj => ?_⟩
  have := names_loop l hl l.length 0 [] (j - (l.length + 1)) (by omega) rfl
  rw [show l.length + 1 + (j - (l.length + 1)) = j by omega, List.drop_zero, List.nil_append] at this
  exact this
theorem hasN_names (l : List S40) : hasN (namesF l) = hasF l := by
  funext s
  unfold hasF getP
  rw [List.isSome_find?]
  unfold hasN namesF
  rw [List.any_map]
  congr 1
  funext x
  show (s.toList == x.f0.toList) = (x.f0.toList == s.toList)
  rw [Bool.eq_iff_iff, beq_iff_eq, beq_iff_eq]
  exact eq_comm
theorem namesF_len (l : List S40) : (namesF l).length = l.length := by simp [namesF]
theorem inS_hasN (l : List ByteArray) (s : ByteArray) : inS l s = hasN l s := by
  unfold inS hasN
  congr 1
  funext x
  rw [Bool.eq_iff_iff, decide_eq_true_eq, beq_iff_eq]
  exact eq_comm
theorem in_ev {l : List ByteArray} (s : ByteArray) (hl : l.length ≤ 60) : Ev (fun k => sawmillref43_in.f k l s) (hasN l s) := by
  refine ⟨l.length + 1, fun j hj => ?_⟩
  have := in_loop l s (by omega) l.length 0 (j - (l.length + 1)) (by omega)
  rw [show l.length + 1 + (j - (l.length + 1)) = j by omega, List.drop_zero, inS_hasN] at this
  exact this
/-! the reference's check -/
theorem condition_f (op : Int) : sawmillref43_condition.f op = some (condF op) := by
  unfold sawmillref43_condition.f condF knownF condT
  by_cases h : op ≥ 6
  · rw [if_pos h]
    by_cases h2 : op ≤ 11
    · simp [h2, show 1 ≤ op by omega, h]
    · simp [h2]
  · rw [if_neg h]
    simp [h]
theorem wants_f {op : Int} (h : knownF op = true) : sawmillref43_wants.f op = some (takesF op) := by
  unfold knownF at h
  rw [Bool.and_eq_true, decide_eq_true_eq, decide_eq_true_eq] at h
  have : op = 1 ∨ op = 2 ∨ op = 3 ∨ op = 4 ∨ op = 5 ∨ op = 6 ∨ op = 7 ∨ op = 8 ∨ op = 9 ∨ op = 10 ∨ op = 11 := by omega
  rcases this with rfl | rfl | rfl | rfl | rfl | rfl | rfl | rfl | rfl | rfl | rfl <;> rfl
theorem takes_ev (op : Int) : Ev (fun k => sawmillref43_takes.f k op) (if knownF op = true then argsF op else -1) := by
  refine Ev.one fun k => ?_
  by_cases h : knownF op = true
  · rw [if_pos h]
    unfold knownF at h
    rw [Bool.and_eq_true, decide_eq_true_eq, decide_eq_true_eq] at h
    have : op = 1 ∨ op = 2 ∨ op = 3 ∨ op = 4 ∨ op = 5 ∨ op = 6 ∨ op = 7 ∨ op = 8 ∨ op = 9 ∨ op = 10 ∨ op = 11 := by omega
    rcases this with rfl | rfl | rfl | rfl | rfl | rfl | rfl | rfl | rfl | rfl | rfl <;> rfl
  · rw [if_neg h]
    unfold knownF at h
    rw [Bool.and_eq_true, decide_eq_true_eq, decide_eq_true_eq] at h
    unfold sawmillref43_takes.f
    by_cases h1 : op < 1
    · rw [if_pos h1, sawmillref43_takes.j0, if_pos rfl]
    · rw [if_neg h1, sawmillref43_takes.j0, if_pos (decide_eq_true (by omega))]
theorem big_f (n : Int) : sawmillref43_big.f n = some (greatF n) := by
  unfold sawmillref43_big.f greatF
  by_cases h : n < -1099511627776
  · rw [if_pos h, decide_eq_true h, Bool.or_true]
  · rw [if_neg h, decide_eq_false h, Bool.or_false]
theorem great_f (n : Int) : rule_great.f n = some (greatF n) := by
  unfold rule_great.f greatF
  by_cases h : n > 1099511627776
  · rw [if_pos h, decide_eq_true h, Bool.true_or]
  · rw [if_neg h, decide_eq_false h, Bool.false_or]
theorem ck_l1 (k : Nat) (x10 op n : Int) (s : ByteArray) (l : List S24) : sawmillref43_check.l1 (k + 1) x10 op n s l = if x10 < (l.length : Int) then (if 0 ≤ x10 then ((sawmillref43_condition.f ((rd_T24 l x10).f0)).bind fun t289 => ((sawmillref43_wants.f op).bind fun t290 => (if (t289 != t290) = true then (some 27) else (sawmillref43_check.l1 k (wrap64 (x10 + 1)) op n s l)))) else (none)) else (some 0) := by
  simp only [sawmillref43_check.l1]
theorem ck_j3 (k : Nat) (b : Bool) (op n : Int) (s : ByteArray) (l : List S24) : sawmillref43_check.j3 (k + 1) b op n s l = if b = true then (some 9) else (sawmillref43_check.l1 k 0 op n s l) := by
  simp only [sawmillref43_check.j3]
theorem ck_j2 (k : Nat) (b : Bool) (op n : Int) (s : ByteArray) (l : List S24) : sawmillref43_check.j2 (k + 1) b op n s l = if b = true then (some 8) else (if op = 1 then ((sawmillref43_big.f n).bind fun t287 => (sawmillref43_check.j3 k t287 op n s l)) else (sawmillref43_check.j3 k false op n s l)) := by
  simp only [sawmillref43_check.j2]
theorem ck_j1 (k : Nat) (x1 : List ByteArray) (b : Bool) (op n : Int) (s : ByteArray) (l : List S24) : sawmillref43_check.j1 (k + 1) x1 b op n s l = if b = true then (some 5) else (if op = 2 then ((sawmillref43_in.f k x1 s).bind fun t286 => (sawmillref43_check.j2 k (!t286) op n s l)) else (sawmillref43_check.j2 k false op n s l)) := by
  simp only [sawmillref43_check.j1]
def ckEnd (k : Nat) (x1 : List ByteArray) (op n : Int) (s : ByteArray) (l : List S24) : Option Int := ((sawmillref43_takes.f k op).bind fun t285 => (if t285 < 0 then (some 10) else (if (l.length : Int) = t285 then (if n = 0 then (if s.toList = ([] : List UInt8) then (sawmillref43_check.j1 k x1 false op n s l) else (sawmillref43_check.j1 k x1 (op != 2) op n s l)) else (if op = 1 then (if s.toList = ([] : List UInt8) then (sawmillref43_check.j1 k x1 false op n s l) else (sawmillref43_check.j1 k x1 (op != 2) op n s l)) else (sawmillref43_check.j1 k x1 true op n s l))) else (sawmillref43_check.j1 k x1 true op n s l))))
theorem ck_l0 (k : Nat) (x1 : List ByteArray) (x2 x7 op n : Int) (s : ByteArray) (l : List S24) : sawmillref43_check.l0 (k + 1) x1 x2 x7 op n s l = if x7 < (l.length : Int) then (if 0 ≤ x7 then ((sawmillref43_check.f k ((rd_T24 l x7).f0) ((rd_T24 l x7).f1) ((rd_T24 l x7).f2) ((rd_T24 l x7).f3) x1 (wrap64 (x2 + 1))).bind fun t284 => (if t284 = 0 then (sawmillref43_check.l0 k x1 x2 (wrap64 (x7 + 1)) op n s l) else (some t284))) else (none)) else ckEnd k x1 op n s l := by
  unfold ckEnd
  simp only [sawmillref43_check.l0]
theorem ck_f (k : Nat) (op n : Int) (s : ByteArray) (l : List S24) (x1 : List ByteArray) (x2 : Int) : sawmillref43_check.f (k + 1) op n s l x1 x2 = if x2 > 8 then (some 28) else (sawmillref43_check.l0 k x1 x2 0 op n s l) := by
  simp only [sawmillref43_check.f]
theorem ck_types (op n : Int) (s : ByteArray) (l : List S24) (hop : knownF op = true) (hl : l.length < 4611686018427387904) : ∀ (m i : Nat), i + m = l.length → Ev (fun k => sawmillref43_check.l1 k (i : Int) op n s l) (if badArg (takesF op) (l.drop i) = true then 27 else 0)
  | 0, i, hi => by
    refine Ev.one fun k => ?_
    rw [ck_l1, if_neg (by omega), List.drop_eq_nil_of_le (by omega), if_neg (by simp [badArg])]
  | m + 1, i, hi => by
    have hlt : i < l.length := by omega
    refine Ev.step (g := fun k => if (condF l[i].f0 != takesF op) = true then some 27 else sawmillref43_check.l1 k ((i + 1 : Nat) : Int) op n s l) ?_ (fun k => ?_)
    · by_cases hx : (condF l[i].f0 != takesF op) = true
      · have hb : badArg (takesF op) (l.drop i) = true := by
          rw [List.drop_eq_getElem_cons hlt]
          simp only [badArg, hx, Bool.true_or]
        rw [if_pos hb]
        exact Ev.same Ev.const fun k => if_pos hx
      · have hb : badArg (takesF op) (l.drop i) = badArg (takesF op) (l.drop (i + 1)) := by
          rw [List.drop_eq_getElem_cons hlt]
          have hx2 : (condF l[i].f0 != takesF op) = false := by simpa using hx
          simp only [badArg, hx2, Bool.false_or]
        rw [hb]
        exact Ev.same (ck_types op n s l hop hl m (i + 1) (by omega)) fun k => if_neg hx
    · rw [ck_l1, if_pos (by omega), if_pos (by omega), rd_at24 l i hlt, condition_f, Option.bind_some, wants_f hop, Option.bind_some, wid (n := (i : Int) + 1) (by omega) (by omega), show (i : Int) + 1 = ((i + 1 : Nat) : Int) by omega]
theorem ck_j3e (op n : Int) (s : ByteArray) (l : List S24) (hop : knownF op = true) (hl : l.length < 4611686018427387904) (b : Bool) : Ev (fun k => sawmillref43_check.j3 k b op n s l) (if b = true then 9 else if badArg (takesF op) l = true then 27 else 0) := by
  have h := ck_types op n s l hop hl l.length 0 (by omega)
  rw [List.drop_zero] at h
  cases b
  · exact Ev.step h fun k => by rw [ck_j3, if_neg (by decide)]; rfl
  · exact Ev.one fun k => by rw [ck_j3, if_pos rfl]; rfl
theorem ck_j2e (op n : Int) (s : ByteArray) (l : List S24) (hop : knownF op = true) (hn : n = 0 ∨ op = 1) (hl : l.length < 4611686018427387904) (b : Bool) : Ev (fun k => sawmillref43_check.j2 k b op n s l) (if b = true then 8 else if greatF n = true then 9 else if badArg (takesF op) l = true then 27 else 0) := by
  cases b
  · by_cases h1 : op = 1
    · exact Ev.step (ck_j3e op n s l hop hl (greatF n)) fun k => by rw [ck_j2, if_neg (by decide), if_pos h1, big_f, Option.bind_some]
    · have hn0 : n = 0 := by rcases hn with h | h; exact h; exact absurd h h1
      have hg : greatF n = false := by rw [hn0]; rfl
      rw [hg]
      exact Ev.step (ck_j3e op n s l hop hl false) fun k => by rw [ck_j2, if_neg (by decide), if_neg h1]
  · exact Ev.one fun k => by rw [ck_j2, if_pos rfl]; rfl
theorem ck_j1e (names : List ByteArray) (hN : names.length ≤ 60) (op n : Int) (s : ByteArray) (l : List S24) (hop : knownF op = true) (hn : n = 0 ∨ op = 1) (hl : l.length < 4611686018427387904) : Ev (fun k => sawmillref43_check.j1 k names false op n s l) (if op = 2 ∧ hasN names s = false then 8 else if greatF n = true then 9 else if badArg (takesF op) l = true then 27 else 0) := by
  by_cases h2 : op = 2
  · refine Ev.step (g := fun k => (sawmillref43_in.f k names s).bind fun t286 => (sawmillref43_check.j2 k (!t286) op n s l)) ?_ (fun k => by rw [ck_j1, if_neg (by decide), if_pos h2])
    refine Ev.bind (in_ev s hN) ?_
    have := ck_j2e op n s l hop hn hl (!hasN names s)
    by_cases hh : hasN names s = false
    · rw [if_pos ⟨h2, hh⟩]; rw [hh] at this ⊢; exact this
    · rw [if_neg (fun h => hh h.2)]
      have hh2 : hasN names s = true := by simpa using hh
      rw [hh2] at this ⊢; exact this
  · rw [if_neg (fun h => h2 h.1)]
    exact Ev.step (ck_j2e op n s l hop hn hl false) fun k => by rw [ck_j1, if_neg (by decide), if_neg h2]
theorem ck_j1t (names : List ByteArray) (op n : Int) (s : ByteArray) (l : List S24) : Ev (fun k => sawmillref43_check.j1 k names true op n s l) 5 := Ev.one fun k => by rw [ck_j1, if_pos rfl]
theorem ck_end (names : List ByteArray) (hN : names.length ≤ 60) (op n : Int) (s : ByteArray) (l : List S24) (hl : l.length < 4611686018427387904) : Ev (fun k => ckEnd k names op n s l) (ownE (hasN names) op n s l) := by
  unfold ckEnd
  refine Ev.bind (takes_ev op) ?_
  unfold ownE
  by_cases hop : knownF op = true
  · rw [if_pos hop, if_pos hop]
    have ha : 0 ≤ argsF op := by unfold argsF; split; omega; split <;> omega
    simp only [if_neg (show ¬ argsF op < 0 by omega)]
    by_cases hlen : (l.length : Int) = argsF op
    · simp only [if_pos hlen]
      by_cases hn : n = 0
      · simp only [if_pos hn]
        by_cases hs : s.toList = []
        · simp only [if_pos hs]
          rw [if_neg (by rintro (h | h | h); exact h.1 hn; exact h.1 hs; exact h hlen)]
          exact ck_j1e names hN op n s l hop (.inl hn) hl
        · simp only [if_neg hs]
          by_cases h2 : op = 2
          · rw [if_neg (by rintro (h | h | h); exact h.1 hn; exact h.2 h2; exact h hlen), show (op != 2) = false by rw [h2]; rfl]
            exact ck_j1e names hN op n s l hop (.inl hn) hl
          · rw [if_pos (.inr (.inl ⟨hs, h2⟩)), show (op != 2) = true by simpa using h2]
            exact ck_j1t names op n s l
      · simp only [if_neg hn]
        by_cases h1 : op = 1
        · simp only [if_pos h1]
          by_cases hs : s.toList = []
          · simp only [if_pos hs]
            rw [if_neg (by rintro (h | h | h); exact h.2 h1; exact h.1 hs; exact h hlen)]
            exact ck_j1e names hN op n s l hop (.inr h1) hl
          · simp only [if_neg hs]
            have h2 : op ≠ 2 := by omega
            rw [if_pos (.inr (.inl ⟨hs, h2⟩)), show (op != 2) = true by simpa using h2]
            exact ck_j1t names op n s l
        · simp only [if_neg h1]
          rw [if_pos (.inl ⟨hn, h1⟩)]
          exact ck_j1t names op n s l
    · simp only [if_neg hlen]
      rw [if_pos (.inr (.inr hlen))]
      exact ck_j1t names op n s l
  · rw [if_neg hop, if_neg hop]
    exact Ev.const
theorem ck_args (names : List ByteArray) (hN : names.length ≤ 60) (n : Nat) (hn : n ≤ 7) (ih : ∀ e, limB n e = true → Ev (fun k => sawmillref43_check.f k e.f0 e.f1 e.f2 e.f3 names (9 - (n : Int))) (visitN (hasN names) n e)) (op m0 : Int) (s : ByteArray) (l : List S24) (hl : l.length < 4611686018427387904) (hall : ∀ a ∈ l, limB n a = true) : ∀ (m i : Nat), i + m = l.length → Ev (fun k => sawmillref43_check.l0 k names (8 - (n : Int)) (i : Int) op m0 s l) (if firstE (visitN (hasN names) n) (l.drop i) = 0 then ownE (hasN names) op m0 s l else firstE (visitN (hasN names) n) (l.drop i))
  | 0, i, hi => by
    rw [List.drop_eq_nil_of_le (by omega), firstE, if_pos rfl]
    exact Ev.step (ck_end names hN op m0 s l hl) fun k => by rw [ck_l0, if_neg (by omega)]
  | m + 1, i, hi => by
    have hlt : i < l.length := by omega
    refine Ev.step (g := fun k => (sawmillref43_check.f k l[i].f0 l[i].f1 l[i].f2 l[i].f3 names (9 - (n : Int))).bind fun t284 => (if t284 = 0 then (sawmillref43_check.l0 k names (8 - (n : Int)) ((i + 1 : Nat) : Int) op m0 s l) else (some t284))) ?_ (fun k => ?_)
    · refine Ev.bind (ih l[i] (hall _ (List.getElem_mem hlt))) ?_
      rw [List.drop_eq_getElem_cons hlt, firstE]
      by_cases hx : visitN (hasN names) n l[i] = 0
      · simp only [if_pos hx]
        exact ck_args names hN n hn ih op m0 s l hl hall m (i + 1) (by omega)
      · simp only [if_neg hx]
        exact Ev.const
    · rw [ck_l0, if_pos (by omega), if_pos (by omega), rd_at24 l i hlt, wid (n := (i : Int) + 1) (by omega) (by omega), show (i : Int) + 1 = ((i + 1 : Nat) : Int) by omega, wid (n := 8 - (n : Int) + 1) (by omega) (by omega), show (8 - (n : Int) + 1) = 9 - (n : Int) by omega]
theorem check_ev (names : List ByteArray) (hN : names.length ≤ 60) : ∀ (n : Nat), n ≤ 8 → ∀ e : S24, limB n e = true → Ev (fun k => sawmillref43_check.f k e.f0 e.f1 e.f2 e.f3 names (9 - (n : Int))) (visitN (hasN names) n e)
  | 0, _, e, _ => Ev.one fun k => by rw [ck_f, if_pos (by omega)]; rfl
  | n + 1, hn, e, hlim => by
    have hlen := limB_len hlim
    have hall : ∀ a ∈ e.f3, limB n a = true := by
      intro a ha
      simp only [limB, Bool.and_eq_true] at hlim
      exact List.all_eq_true.1 hlim.2 a ha
    have h := ck_args names hN n (by omega) (fun a ha => check_ev names hN n (by omega) a ha) e.f0 e.f1 e.f2 e.f3 hlen hall e.f3.length 0 (by omega)
    rw [List.drop_zero] at h
    refine Ev.step h fun k => ?_
    rw [ck_f, if_neg (by omega), show (9 - ((n + 1 : Nat) : Int)) = 8 - (n : Int) by omega]
    rfl
end Go.Proofs.YthdgofbchfcfcaaDoor.PRu
