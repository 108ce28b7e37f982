/- Negations, conjunctions, disjunctions and comparisons in plain words: what Eval gives for them. No condition. -/
import Derived.Test.YthdgofbchfcfcaaDoorRuleEvs
set_option linter.unusedVariables false
set_option linter.unusedSimpArgs false
namespace Go.Proofs.YthdgofbchfcfcaaDoor.PRu
open Go.RowKit Go.Proofs.YthdgofbchfcfcaaDoorW.PrintWords Go.Proofs.YthdgofbchfcfcaaDoorW.PrintLast Go.Proofs.YthdgofbchfcfcaaDoorW.PrintMore
/-- At most so many levels. -/
def dep : Nat → S24 → Bool
  | 0, _ => false
  | n + 1, e => e.f3.all (dep n)
theorem dep_up : ∀ (n : Nat) (e : S24), dep n e = true → dep (n + 1) e = true
  | 0, e, h => by simp [dep] at h
  | n + 1, e, h => by
    have h : e.f3.all (dep n) = true := h
    show e.f3.all (dep (n + 1)) = true
    exact List.all_eq_true.2 fun a ha => dep_up n a (List.all_eq_true.1 h a ha)
theorem countL_each (L : Nat) : ∀ (l : List S24) (n lim : Int), 1 ≤ n → 0 ≤ lim → lim ≤ 1000 → n ≤ lim + 1 → countL L l n lim ≤ lim → n + (l.length : Int) ≤ lim ∧ ∀ a ∈ l, ∃ m, 0 ≤ m ∧ m ≤ 1000 ∧ countF L a m ≤ m
  | [], n, lim, h1, h2, hk, h2', h3 => by
    rw [countL_nil] at h3
    exact ⟨by simpa using h3, by simp⟩
  | a :: l, n, lim, h1, h2, hk, h2', h3 => by
    rw [countL_cons] at h3
    by_cases hc : n ≤ lim
    · rw [if_pos hc] at h3
      have hr := countF_range L a (lim - n) (by omega)
      have hl := countL_range L (countF_range L) l (n + countF L a (lim - n)) lim (by omega) (by omega) h2
      obtain ⟨b1, b2⟩ := countL_each L l (n + countF L a (lim - n)) lim (by omega) h2 hk (by omega) h3
      refine ⟨by rw [List.length_cons]; omega, fun x hx => ?_⟩
      rcases List.mem_cons.1 hx with e | hx
      · exact ⟨lim - n, by omega, by omega, by rw [e]; omega⟩
      · exact b2 x hx
    · rw [if_neg hc] at h3; omega
theorem count_dep : ∀ (L : Nat) (e : S24) (lim : Int), 0 ≤ lim → lim ≤ 1000 → countF L e lim ≤ lim → dep L e = true ∧ ∀ M, limB M e = true
  | 0, e, lim, h0, hk, h => by rw [countF_zero] at h; omega
  | L + 1, e, lim, h0, hk, h => by
    rw [countF_succ] at h
    by_cases hz : lim ≤ 0
    · rw [if_pos hz] at h; omega
    · rw [if_neg hz] at h
      by_cases hs : (e.f2.size : Int) > 100
      · rw [if_pos hs] at h; omega
      · rw [if_neg hs] at h
        obtain ⟨b1, b2⟩ := countL_each L e.f3 1 lim (by omega) h0 hk (by omega) h
        have hall : ∀ a ∈ e.f3, dep L a = true ∧ ∀ M, limB M a = true := fun a ha => by
          obtain ⟨m, m0, m1, m2⟩ := b2 a ha
          exact count_dep L a m m0 m1 m2
        refine ⟨List.all_eq_true.2 fun a ha => (hall a ha).1, fun M => ?_⟩
        cases M with
        | zero => simp only [limB]
        | succ M =>
          simp only [limB, Bool.and_eq_true, decide_eq_true_eq]
          exact ⟨by omega, List.all_eq_true.2 fun a ha => (hall a ha).2 M⟩
theorem count_ev (e : S24) : Ev (fun k => sawmilllaw43_count.f k e.f0 e.f1 e.f2 e.f3 6 100) (countF 6 e 100) := by
  obtain ⟨k, hk⟩ := count_all 6 (by decide) e 100 (by decide) (by decide)
  exact ⟨k, fun j hj => count_up hk hj⟩
theorem firstE_cong {g g' : S24 → Int} : ∀ {l : List S24}, (∀ a ∈ l, g a = g' a) → firstE g l = firstE g' l
  | [], _ => rfl
  | a :: l, h => by
    unfold firstE
    rw [h a List.mem_cons_self, firstE_cong fun b hb => h b (List.mem_cons_of_mem _ hb)]
theorem vis_dep (has : ByteArray → Bool) : ∀ (L : Nat) (e : S24), dep L e = true → ∀ n, L ≤ n → visitN has n e = visitN has L e
  | 0, e, h, _, _ => by simp [dep] at h
  | L + 1, e, h, 0, hn => by omega
  | L + 1, e, h, n + 1, hn => by
    have h1 : firstE (visitN has n) e.f3 = firstE (visitN has L) e.f3 := firstE_cong fun a ha => vis_dep has L a (List.all_eq_true.1 h a ha) n (by omega)
    unfold visitN
    rw [h1]
theorem vn_dep (l : List S40) : ∀ (L : Nat) (e : S24), dep L e = true → ∀ n, L ≤ n → VN l n e = VN l L e
  | 0, e, h, _, _ => by simp [dep] at h
  | L + 1, e, h, 0, hn => by omega
  | L + 1, ⟨op, m, s, ar⟩, h, n + 1, hn => by
    have hu : ∀ a ∈ ar, VN l n a = VN l L a := fun a ha => vn_dep l L a (List.all_eq_true.1 h a ha) n (by omega)
    match ar, hu with
    | [], _ => rfl
    | [a], hu =>
      unfold VN
      simp only [hu a (by simp)]
    | a :: b :: r, hu =>
      unfold VN
      simp only [hu a (by simp), hu b (by simp)]
def E0 : ByteArray := ⟨#[]⟩
theorem own_ok (has : ByteArray → Bool) {op : Int} {l : List S24} (ho : 6 ≤ op ∧ op ≤ 11) (hl : (l.length : Int) = argsF op) : ownE has op 0 E0 l = if badArg (takesF op) l = true then 27 else 0 := by
  unfold ownE
  have hk : knownF op = true := by unfold knownF; rw [Bool.and_eq_true, decide_eq_true_eq, decide_eq_true_eq]; omega
  rw [if_pos hk, if_neg (by rintro (h | h | h); exact h.1 rfl; exact h.1 ((Lib.toList_data E0).trans rfl); exact h hl), if_neg (by rintro ⟨h, _⟩; omega), if_neg (by decide)]
/-- What is asked of an argument. -/
structure Arg (l : List S40) (a : S24) (x : Int) : Prop where
  d : dep 7 a = true
  v : visitN (hasF l) 8 a = 0
  n : VN l 8 a = some x
theorem Arg.v7 {l : List S40} {a : S24} {x : Int} (h : Arg l a x) : visitN (hasF l) 7 a = 0 := (vis_dep _ 7 a h.d 8 (by decide)).symm.trans h.v
theorem Arg.n7 {l : List S40} {a : S24} {x : Int} (h : Arg l a x) : VN l 7 a = some x := (vn_dep l 7 a h.d 8 (by decide)).symm.trans h.n
theorem bad_one {t : Bool} {a : S24} (h : condF a.f0 = t) : badArg t [a] = false := by simp [badArg, h]
theorem bad_two {t : Bool} {a b : S24} (h : condF a.f0 = t) (h2 : condF b.f0 = t) : badArg t [a, b] = false := by simp [badArg, h, h2]
theorem not_vis {l : List S40} {a : S24} {x : Int} (h : Arg l a x) (hc : condF a.f0 = true) : visitN (hasF l) 8 ⟨9, 0, E0, [a]⟩ = 0 := by
  show (if firstE (visitN (hasF l) 7) [a] = 0 then ownE (hasF l) 9 0 E0 [a] else firstE (visitN (hasF l) 7) [a]) = 0
  have h1 : firstE (visitN (hasF l) 7) [a] = 0 := by simp [firstE, h.v7]
  rw [if_pos h1, own_ok _ (by decide) rfl, if_neg (by rw [show takesF 9 = true from rfl, bad_one hc]; decide)]
theorem ev_not {l : List S40} {a : S24} {x : Int} (h : Arg l a x) (hc : condF a.f0 = true) : evR l ⟨9, 0, E0, [a]⟩ = (1 - x, 0) := by
  unfold evR
  rw [if_pos (not_vis h hc)]
  have : VN l 8 ⟨9, 0, E0, [a]⟩ = (VN l 7 a).bind fun x => some (1 - x) := rfl
  rw [this, h.n7]
  rfl
theorem two_first {l : List S40} {a b : S24} {x y : Int} (h : Arg l a x) (h2 : Arg l b y) : firstE (visitN (hasF l) 7) [a, b] = 0 := by simp [firstE, h.v7, h2.v7]
theorem two_vis {l : List S40} {a b : S24} {x y op : Int} (h : Arg l a x) (h2 : Arg l b y) (ho : 6 ≤ op ∧ op ≤ 11) (h9 : op ≠ 9) (hc : condF a.f0 = takesF op) (hc2 : condF b.f0 = takesF op) : visitN (hasF l) 8 ⟨op, 0, E0, [a, b]⟩ = 0 := by
  show (if firstE (visitN (hasF l) 7) [a, b] = 0 then ownE (hasF l) op 0 E0 [a, b] else firstE (visitN (hasF l) 7) [a, b]) = 0
  rw [if_pos (two_first h h2), own_ok _ ho (by unfold argsF; rw [if_neg (by omega), if_neg h9]; rfl), if_neg (by rw [bad_two hc hc2]; decide)]
theorem two_bad {l : List S40} {a b : S24} {x y op : Int} (h : Arg l a x) (h2 : Arg l b y) (ho : 6 ≤ op ∧ op ≤ 11) (h9 : op ≠ 9) (hc : badArg (takesF op) [a, b] = true) : evR l ⟨op, 0, E0, [a, b]⟩ = (0, 27) := by
  have hv : visitN (hasF l) 8 ⟨op, 0, E0, [a, b]⟩ = 27 := by
    show (if firstE (visitN (hasF l) 7) [a, b] = 0 then ownE (hasF l) op 0 E0 [a, b] else firstE (visitN (hasF l) 7) [a, b]) = 27
    rw [if_pos (two_first h h2), own_ok _ ho (by unfold argsF; rw [if_neg (by omega), if_neg h9]; rfl), if_pos hc]
  unfold evR
  rw [hv, if_neg (by decide)]
theorem two_n {l : List S40} {a b : S24} {x y op : Int} (h : Arg l a x) (h2 : Arg l b y) (ho : 6 ≤ op ∧ op ≤ 11) : VN l 8 ⟨op, 0, E0, [a, b]⟩ = if shortB op x = true then some x else opV op x y := by
  have hV : VN l 8 ⟨op, 0, E0, [a, b]⟩ = (VN l 7 a).bind fun x => if shortB op x = true then some x else (VN l 7 b).bind fun y => opV op x y := by
    rw [VN]
    rw [if_neg (show ¬ op = 1 by omega), if_neg (show ¬ op = 2 by omega)]
  rw [hV, h.n7, Option.bind_some, h2.n7, Option.bind_some]
theorem ev_two {l : List S40} {a b : S24} {x y z op : Int} (h : Arg l a x) (h2 : Arg l b y) (ho : 6 ≤ op ∧ op ≤ 11) (h9 : op ≠ 9) (hc : condF a.f0 = takesF op) (hc2 : condF b.f0 = takesF op) (hz : (if shortB op x = true then some x else opV op x y) = some z) : evR l ⟨op, 0, E0, [a, b]⟩ = (z, 0) := by
  unfold evR
  rw [if_pos (two_vis h h2 ho h9 hc hc2), two_n h h2 ho, hz]
  rfl
end Go.Proofs.YthdgofbchfcfcaaDoor.PRu
