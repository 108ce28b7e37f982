/- The value of an expression, in plain words: the program's and the reference's functions give it for what was checked. No condition. What was checked has the value VN, in the program and in the reference. No condition. -/
import Derived.Test.YthdgofbchfcfcaaDoorRulePlain
import Derived.Test.YthdgofbchfcfcaaDoorPRux15
set_option linter.unusedVariables false
set_option linter.unusedSimpArgs false
namespace Go.Proofs.YthdgofbchfcfcaaDoor.PRu
open Go.RowKit Go.Proofs.YthdgofbchfcfcaaDoorW.PrintWords Go.Proofs.YthdgofbchfcfcaaDoorW.PrintLast Go.Proofs.YthdgofbchfcfcaaDoorW.PrintMore
def numV (n : Int) : Option Int := if greatF n = true then none else some n
def bitV (b : Bool) : Int := if b = true then 1 else 0
def opV (op x y : Int) : Option Int :=
  if op = 3 then numV (x + y) else if op = 4 then numV (x - y) else if op = 5 then numV (x * y)
  else if op = 6 then some (bitV (x == y)) else if op = 7 then some (bitV (decide (x < y))) else if op = 8 then some (bitV (decide (x ≤ y))) else some y
def shortB (op x : Int) : Bool := (op == 10 && x == 0) || (op == 11 && x == 1)
def VN (l : List S40) : Nat → S24 → Option Int
  | 0, _ => none
  | n + 1, e => if e.f0 = 1 then some e.f1 else if e.f0 = 2 then numV (getR l e.f2).1 else
    match e.f3 with
    | [] => none
    | [a] => (VN l n a).bind fun x => some (1 - x)
    | a :: b :: _ => (VN l n a).bind fun x => if shortB e.f0 x = true then some x else (VN l n b).bind fun y => opV e.f0 x y
/-- What a checked expression's own parts are. -/
theorem own_cases {has : ByteArray → Bool} {op n : Int} {s : ByteArray} {l : List S24} (h : ownE has op n s l = 0) :
    (op = 1 ∧ l = [] ∧ s.toList = [] ∧ greatF n = false) ∨ (op = 2 ∧ n = 0 ∧ l = [] ∧ has s = true) ∨ (op = 9 ∧ n = 0 ∧ s.toList = [] ∧ ∃ a, l = [a] ∧ condF a.f0 = true) ∨
    ((op = 3 ∨ op = 4 ∨ op = 5 ∨ op = 6 ∨ op = 7 ∨ op = 8 ∨ op = 10 ∨ op = 11) ∧ n = 0 ∧ s.toList = [] ∧ ∃ a b, l = [a, b] ∧ condF a.f0 = takesF op ∧ condF b.f0 = takesF op) := by
  unfold ownE at h
  by_cases hop : knownF op = true
  · rw [if_pos hop] at h
    by_cases h5 : (n ≠ 0 ∧ op ≠ 1) ∨ (s.toList ≠ [] ∧ op ≠ 2) ∨ (l.length : Int) ≠ argsF op
    · rw [if_pos h5] at h; exact absurd h (by decide)
    · rw [if_neg h5] at h
      by_cases h8 : op = 2 ∧ has s = false
      · rw [if_pos h8] at h; exact absurd h (by decide)
      · rw [if_neg h8] at h
        by_cases h9 : greatF n = true
        · rw [if_pos h9] at h; exact absurd h (by decide)
        · rw [if_neg h9] at h
          by_cases hb : badArg (takesF op) l = true
          · rw [if_pos hb] at h; exact absurd h (by decide)
          · have hn : n = 0 ∨ op = 1 := by
              by_cases hn : n = 0
              · exact .inl hn
              · by_cases h1 : op = 1
                · exact .inr h1
                · exact absurd (.inl ⟨hn, h1⟩) h5
            have hs : s.toList = [] ∨ op = 2 := by
              by_cases hn : s.toList = []
              · exact .inl hn
              · by_cases h1 : op = 2
                · exact .inr h1
                · exact absurd (.inr (.inl ⟨hn, h1⟩)) h5
            have hl : (l.length : Int) = argsF op := by
              by_cases hl : (l.length : Int) = argsF op
              · exact hl
              · exact absurd (.inr (.inr hl)) h5
            have hg : greatF n = false := by simpa using h9
            unfold knownF at hop
            rw [Bool.and_eq_true, decide_eq_true_eq, decide_eq_true_eq] at hop
            unfold argsF at hl
            by_cases o1 : op = 1
            · left
              rw [if_pos (by omega)] at hl
              refine ⟨o1, List.length_eq_zero_iff.1 (by omega), ?_, hg⟩
              rcases hs with h | h; exact h; omega
            · have hn0 : n = 0 := by rcases hn with h | h; exact h; exact absurd h o1
              by_cases o2 : op = 2
              · right; left
                rw [if_pos (by omega)] at hl
                refine ⟨o2, hn0, List.length_eq_zero_iff.1 (by omega), ?_⟩
                by_cases hh : has s = false
                · exact absurd ⟨o2, hh⟩ h8
                · simpa using hh
              · have hs0 : s.toList = [] := by rcases hs with h | h; exact h; exact absurd h o2
                rw [if_neg (by omega)] at hl
                right; right
                by_cases o9 : op = 9
                · left
                  rw [if_pos o9] at hl
                  refine ⟨o9, hn0, hs0, ?_⟩
                  match l, hl with
                  | [a], _ =>
                    refine ⟨a, rfl, ?_⟩
                    subst o9
                    simp [badArg, takesF] at hb
                    exact hb
                  | [], hl => simp at hl
                  | _ :: _ :: _, hl => simp at hl; omega
                · right
                  rw [if_neg o9] at hl
                  refine ⟨by omega, hn0, hs0, ?_⟩
                  match l, hl with
                  | [a, b], _ =>
                    simp [badArg] at hb
                    exact ⟨a, b, rfl, hb.1, hb.2⟩
                  | [], hl => simp at hl
                  | [_], hl => simp at hl
                  | _ :: _ :: _ :: _, hl => simp at hl; omega
  · rw [if_neg hop] at h; exact absurd h (by decide)
theorem visit_parts {has : ByteArray → Bool} {n : Nat} {e : S24} (h : visitN has (n + 1) e = 0) : firstE (visitN has n) e.f3 = 0 ∧ ownE has e.f0 e.f1 e.f2 e.f3 = 0 := by
  rw [visitN] at h
  by_cases h1 : firstE (visitN has n) e.f3 = 0
  · rw [if_pos h1] at h; exact ⟨h1, h⟩
  · rw [if_neg h1] at h; exact absurd h h1
theorem firstE_all {g : S24 → Int} : ∀ {l : List S24}, firstE g l = 0 → ∀ a ∈ l, g a = 0
  | [], _, a, ha => by simp at ha
  | b :: l, h, a, ha => by
    rw [firstE] at h
    by_cases hb : g b = 0
    · rw [if_pos hb] at h
      rcases List.mem_cons.1 ha with rfl | ha
      · exact hb
      · exact firstE_all h a ha
    · rw [if_neg hb] at h; exact absurd h hb
/-! the arithmetic -/
theorem great_iff (n : Int) : greatF n = false ↔ -1099511627776 ≤ n ∧ n ≤ 1099511627776 := by
  unfold greatF
  rw [Bool.or_eq_false_iff, decide_eq_false_iff_not, decide_eq_false_iff_not]
  omega
theorem prodG {c : Int} (hc : 0 < c) (z : Int) : (1099511627776 / c < z → 1099511627776 < z * c) ∧ (z ≤ 1099511627776 / c → z * c ≤ 1099511627776) := by
  refine ⟨fun h => ?_, fun h => ?_⟩
  · have h1 := Int.lt_ediv_add_one_mul_self 1099511627776 hc
    have h2 := Int.mul_le_mul_of_nonneg_right (show 1099511627776 / c + 1 ≤ z by omega) (Int.le_of_lt hc)
    omega
  · have h1 := Int.ediv_mul_le 1099511627776 (show c ≠ 0 by omega)
    have h2 := Int.mul_le_mul_of_nonneg_right h (Int.le_of_lt hc)
    omega
theorem quoB {c : Int} (hc : 0 < c) : 0 ≤ (1099511627776 : Int) / c ∧ (1099511627776 : Int) / c ≤ 1099511627776 := by
  refine ⟨Int.ediv_nonneg (by decide) (Int.le_of_lt hc), ?_⟩
  have := (prodG hc (1099511627776 / c)).2 (Int.le_refl _)
  have h2 : (1099511627776 : Int) / c * 1 ≤ 1099511627776 / c * c := Int.mul_le_mul_of_nonneg_left (by omega) (Int.ediv_nonneg (by decide) (Int.le_of_lt hc))
  omega
theorem mx_abs {x : Int} (h0 : x ≠ 0) (hx : -1099511627776 ≤ x) (hx2 : x ≤ 1099511627776) : 0 < mx x (wrap64 (-x)) ∧ mx x (wrap64 (-x)) ≤ 1099511627776 ∧ (x = mx x (wrap64 (-x)) ∨ x = -mx x (wrap64 (-x))) := by
  rw [wid (by omega) (by omega)]
  unfold mx
  split <;> omega
/-- The program's test of a product. -/
theorem prod_rule {x y : Int} (h0 : x ≠ 0) (hx : -1099511627776 ≤ x ∧ x ≤ 1099511627776) (hy : -1099511627776 ≤ y ∧ y ≤ 1099511627776) :
    (y > wrap64 (Int.tdiv 1099511627776 (mx x (wrap64 (-x)))) ∨ y < wrap64 (-Int.tdiv 1099511627776 (mx x (wrap64 (-x)))) → greatF (x * y) = true) ∧
    (¬ y > wrap64 (Int.tdiv 1099511627776 (mx x (wrap64 (-x)))) → ¬ y < wrap64 (-Int.tdiv 1099511627776 (mx x (wrap64 (-x)))) → greatF (x * y) = false ∧ wrap64 (x * y) = x * y) := by
  obtain ⟨c0, c1, c2⟩ := mx_abs h0 hx.1 hx.2
  generalize mx x (wrap64 (-x)) = c at c0 c1 c2 ⊢
  obtain ⟨q0, q1⟩ := quoB c0
  rw [Int.tdiv_eq_ediv_of_nonneg (by decide)]
  rw [wid (n := (1099511627776 : Int) / c) (by omega) (by omega), wid (n := -((1099511627776 : Int) / c)) (by omega) (by omega)]
  obtain ⟨a1, a2⟩ := prodG c0 y
  obtain ⟨b1, b2⟩ := prodG c0 (-y)
  rw [Int.neg_mul] at b1 b2
  have hp : x * y = y * c ∨ x * y = -(y * c) := by
    rcases c2 with h | h
    · left; rw [Int.mul_comm y c, ← h]
    · right; rw [Int.mul_comm y c, ← Int.neg_mul, ← h]
  generalize x * y = p at hp ⊢
  generalize y * c = m at a1 a2 b1 b2 hp
  refine ⟨fun h => ?_, fun h1 h2 => ?_⟩
  · by_cases hg : greatF p = true
    · exact hg
    · have := (great_iff p).1 (by simpa using hg)
      rcases h with h | h
      · have := a1 h; omega
      · have := b1 (by omega); omega
  · have := a2 (by omega)
    have := b2 (by omega)
    refine ⟨(great_iff p).2 (by omega), wid (by omega) (by omega)⟩
/-- The reference's test of a product. -/
theorem prod_ref {x y : Int} (h0 : x ≠ 0) (h1 : y ≠ 0) (hx : -1099511627776 ≤ x ∧ x ≤ 1099511627776) (hy : -1099511627776 ≤ y ∧ y ≤ 1099511627776) :
    (mx x (wrap64 (-x)) > wrap64 (Int.tdiv 1099511627776 (mx y (wrap64 (-y)))) → greatF (x * y) = true) ∧
    (¬ mx x (wrap64 (-x)) > wrap64 (Int.tdiv 1099511627776 (mx y (wrap64 (-y)))) → greatF (x * y) = false ∧ wrap64 (x * y) = x * y) := by
  obtain ⟨c0, c1, c2⟩ := mx_abs h0 hx.1 hx.2
  obtain ⟨d0, d1, d2⟩ := mx_abs h1 hy.1 hy.2
  generalize mx x (wrap64 (-x)) = c at c0 c1 c2 ⊢
  generalize mx y (wrap64 (-y)) = d at d0 d1 d2 ⊢
  obtain ⟨q0, q1⟩ := quoB d0
  rw [Int.tdiv_eq_ediv_of_nonneg (by decide)]
  rw [wid (n := (1099511627776 : Int) / d) (by omega) (by omega)]
  obtain ⟨a1, a2⟩ := prodG d0 c
  have hcd : 0 ≤ c * d := Int.mul_nonneg (Int.le_of_lt c0) (Int.le_of_lt d0)
  have hp : x * y = c * d ∨ x * y = -(c * d) := by
    rcases c2 with h | h <;> rcases d2 with h' | h'
    · left; rw [← h, ← h']
    · right; rw [← Int.mul_neg, ← h, ← h']
    · right; rw [← Int.neg_mul, ← h, ← h']
    · left; rw [h, h', Int.neg_mul_neg]
  generalize x * y = p at hp ⊢
  generalize c * d = m at a1 a2 hcd hp
  refine ⟨fun h => ?_, fun h => ?_⟩
  · by_cases hg : greatF p = true
    · exact hg
    · have := (great_iff p).1 (by simpa using hg)
      have := a1 h; omega
  · have := a2 (by omega)
    exact ⟨(great_iff p).2 (by omega), wid (by omega) (by omega)⟩
/-! the functions -/
def Rul (o : Option Int) (r : Int × Bool) : Prop := r.2 = o.isSome ∧ ∀ y, o = some y → r.1 = y
def refR (o : Option Int) : Int × Int := match o with | some y => (y, 0) | none => (0, 9)
theorem Rul.num (n : Int) : Rul (numV n) (n, !greatF n) := by
  unfold numV
  cases h : greatF n
  · exact ⟨rfl, fun y hy => by simpa using hy⟩
  · exact ⟨rfl, fun y hy => by simp at hy⟩
theorem truth_f (b : Bool) : rule_truth.f b = some (bitV b) := by cases b <;> rfl
theorem bit_f (b : Bool) : sawmillref43_bit.f b = some (bitV b) := by cases b <;> rfl
theorem number_f (n : Int) : sawmillref43_number.f n = some (refR (numV n)) := by
  unfold sawmillref43_number.f numV
  rw [big_f, Option.bind_some]
  cases greatF n <;> rfl
theorem rv_j0 (k : Nat) (l : List S40) (x : Int) (b : Bool) (op n : Int) (s : ByteArray) (ar : List S24) : rule_value.j0 (k + 1) l x b op n s ar = if b = true then (if ((x == 1) == (op == 11)) = true then (some (x, true)) else (if 1 < (ar.length : Int) then ((rule_value.f k ((rd_T24 ar 1).f0) ((rd_T24 ar 1).f1) ((rd_T24 ar 1).f2) ((rd_T24 ar 1).f3) l).bind fun bt256 => (some (bt256.1, bt256.2))) else (none))) else (if 1 < (ar.length : Int) then ((rule_value.f k ((rd_T24 ar 1).f0) ((rd_T24 ar 1).f1) ((rd_T24 ar 1).f2) ((rd_T24 ar 1).f3) l).bind fun bt259 => (if bt259.2 = true then (if op = 6 then ((rule_truth.f (x == bt259.1)).bind fun t261 => (some (t261, true))) else (if op = 7 then ((rule_truth.f (decide (x < bt259.1))).bind fun t262 => (some (t262, true))) else (if op = 8 then ((rule_truth.f (decide (x ≤ bt259.1))).bind fun t263 => (some (t263, true))) else (if op = 3 then ((rule_great.f (wrap64 (x + bt259.1))).bind fun t264 => (some (wrap64 (x + bt259.1), !t264))) else (if op = 4 then ((rule_great.f (wrap64 (x - bt259.1))).bind fun t265 => (some (wrap64 (x - bt259.1), !t265))) else (if op = 5 then (if x = 0 then ((rule_great.f (wrap64 (x * bt259.1))).bind fun t266 => (some (wrap64 (x * bt259.1), !t266))) else (if (mx x (wrap64 (-x))) = 0 then (none) else (if bt259.1 > (wrap64 (Int.tdiv 1099511627776 (mx x (wrap64 (-x))))) then (some (0, false)) else (if bt259.1 < (wrap64 (-Int.tdiv 1099511627776 (mx x (wrap64 (-x))))) then (some (0, false)) else ((rule_great.f (wrap64 (x * bt259.1))).bind fun t267 => (some (wrap64 (x * bt259.1), !t267))))))) else ((rule_great.f x).bind fun t268 => (some (x, !t268))))))))) else (some (0, false)))) else (none)) := by
  simp only [rule_value.j0]
theorem rv_f (k : Nat) (op n : Int) (s : ByteArray) (ar : List S24) (l : List S40) : rule_value.f (k + 1) op n s ar l = if op = 1 then ((rule_great.f n).bind fun t248 => (some (n, !t248))) else (if op = 2 then ((feature_Get.f k l s).bind fun bt249 => ((rule_great.f bt249.1).bind fun t251 => (some (bt249.1, !t251)))) else (if 0 < (ar.length : Int) then ((rule_value.f k ((rd_T24 ar 0).f0) ((rd_T24 ar 0).f1) ((rd_T24 ar 0).f2) ((rd_T24 ar 0).f3) l).bind fun bt253 => (if bt253.2 = true then (if op = 9 then (some (wrap64 (1 - bt253.1), true)) else (if op = 10 then (rule_value.j0 k l bt253.1 (op == 10) op n s ar) else (rule_value.j0 k l bt253.1 (op == 11) op n s ar))) else (some (0, false)))) else (none))) := by
  simp only [rule_value.f]
theorem fv_j0 (k : Nat) (l : List S40) (x : Int) (b : Bool) (op n : Int) (s : ByteArray) (ar : List S24) : sawmillref43_value.j0 (k + 1) l x b op n s ar = if b = true then (some (x, 0)) else (if 1 < (ar.length : Int) then ((sawmillref43_value.f k ((rd_T24 ar 1).f0) ((rd_T24 ar 1).f1) ((rd_T24 ar 1).f2) ((rd_T24 ar 1).f3) l).bind fun bt350 => (if bt350.2 = 0 then (if op = 3 then ((sawmillref43_number.f (wrap64 (x + bt350.1))).bind fun bt352 => (some (bt352.1, bt352.2))) else (if op = 4 then ((sawmillref43_number.f (wrap64 (x - bt350.1))).bind fun bt354 => (some (bt354.1, bt354.2))) else (if op = 5 then ((sawmillref43_product.f k x bt350.1).bind fun bt356 => (if bt356.2 = true then (some (bt356.1, 0)) else (some (0, 9)))) else (if op = 6 then ((sawmillref43_bit.f (x == bt350.1)).bind fun t358 => (some (t358, 0))) else (if op = 7 then ((sawmillref43_bit.f (decide (x < bt350.1))).bind fun t359 => (some (t359, 0))) else (if op = 8 then ((sawmillref43_bit.f (decide (x ≤ bt350.1))).bind fun t360 => (some (t360, 0))) else (some (bt350.1, 0)))))))) else (some (0, bt350.2)))) else (none)) := by
  simp only [sawmillref43_value.j0]
theorem fv_f (k : Nat) (op n : Int) (s : ByteArray) (ar : List S24) (l : List S40) : sawmillref43_value.f (k + 1) op n s ar l = if op = 1 then (some (n, 0)) else (if op = 2 then ((sawmillref43_get.f k l s).bind fun t343 => ((sawmillref43_number.f t343).bind fun bt344 => (some (bt344.1, bt344.2)))) else (if 0 < (ar.length : Int) then ((sawmillref43_value.f k ((rd_T24 ar 0).f0) ((rd_T24 ar 0).f1) ((rd_T24 ar 0).f2) ((rd_T24 ar 0).f3) l).bind fun bt347 => (if bt347.2 = 0 then (if op = 9 then (some (wrap64 (1 - bt347.1), 0)) else (if op = 10 then (if bt347.1 = 0 then (sawmillref43_value.j0 k l bt347.1 true op n s ar) else (if op = 11 then (sawmillref43_value.j0 k l bt347.1 (bt347.1 == 1) op n s ar) else (sawmillref43_value.j0 k l bt347.1 false op n s ar))) else (if op = 11 then (sawmillref43_value.j0 k l bt347.1 (bt347.1 == 1) op n s ar) else (sawmillref43_value.j0 k l bt347.1 false op n s ar)))) else (some (0, bt347.2)))) else (none))) := by
  simp only [sawmillref43_value.f]
theorem get_ev {l : List S40} (s : ByteArray) (hl : l.length ≤ 1000) : Ev (fun k => feature_Get.f k l s) (getR l s) := by
  refine ⟨l.length + 1, fun j hj => ?_⟩
  have := get_f l s (by omega) (j - (l.length + 1))
  rwa [show l.length + 1 + (j - (l.length + 1)) = j by omega] at this
theorem rget_loop (l : List S40) (s : ByteArray) (hl : l.length ≤ 1000) : ∀ (m i k : Nat), i + m = l.length → sawmillref43_get.l0 (m + 1 + k) l s (i : Int) = some (getR (l.drop i) s).1
  | 0, i, k, hi => by
    rw [show 0 + 1 + k = k + 1 by omega, sawmillref43_get.l0, if_neg (by omega), List.drop_eq_nil_of_le (by omega)]
    rfl
  | m + 1, i, k, hi => by
    have hlt : i < l.length := by omega
    rw [show m + 1 + 1 + k = (m + 1 + k) + 1 by omega, sawmillref43_get.l0, if_pos (by omega), if_pos (by omega), rd_at40 l i hlt, wid (n := (i : Int) + 1) (by omega) (by omega), show (i : Int) + 1 = ((i + 1 : Nat) : Int) by omega, getP_drop hlt]
    by_cases hx : l[i].f0.toList = s.toList
    · rw [if_pos hx, if_pos hx]
    · rw [if_neg hx, if_neg hx]
      exact rget_loop l s hl m (i + 1) k (by omega)
theorem rget_ev {l : List S40} (s : ByteArray) (hl : l.length ≤ 1000) : Ev (fun k => sawmillref43_get.f k l s) (getR l s).1 := by
  refine ⟨l.length + 1, fun j hj => ?_⟩
  have := rget_loop l s hl l.length 0 (j - (l.length + 1)) (by omega)
  rw [show l.length + 1 + (j - (l.length + 1)) = j by omega, List.drop_zero] at this
  exact this
theorem product_ev {x y : Int} (hx : -1099511627776 ≤ x ∧ x ≤ 1099511627776) (hy : -1099511627776 ≤ y ∧ y ≤ 1099511627776) : ∃ r, Ev (fun k => sawmillref43_product.f k x y) r ∧ Rul (numV (x * y)) r := by
  by_cases h0 : x = 0
  · refine ⟨(0, true), Ev.one fun k => ?_, ?_⟩
    · unfold sawmillref43_product.f
      rw [if_pos h0, sawmillref43_product.j0, if_pos rfl]
    · rw [h0, Int.zero_mul]; exact ⟨rfl, fun y hy => by simpa [numV, greatF] using hy⟩
  · by_cases h1 : y = 0
    · refine ⟨(0, true), Ev.one fun k => ?_, ?_⟩
      · unfold sawmillref43_product.f
        rw [if_neg h0, sawmillref43_product.j0, if_pos (by simpa using h1)]
      · rw [h1, Int.mul_zero]; exact ⟨rfl, fun y hy => by simpa [numV, greatF] using hy⟩
    · obtain ⟨p1, p2⟩ := prod_ref h0 h1 hx hy
      obtain ⟨d0, d1, d2⟩ := mx_abs h1 hy.1 hy.2
      by_cases hc : mx x (wrap64 (-x)) > wrap64 (Int.tdiv 1099511627776 (mx y (wrap64 (-y))))
      · refine ⟨(0, false), Ev.one fun k => ?_, ?_⟩
        · unfold sawmillref43_product.f
          rw [if_neg h0, sawmillref43_product.j0, if_neg (by simpa using h1), if_neg (by omega), if_pos hc]
        · unfold numV; rw [if_pos (p1 hc)]; exact ⟨rfl, fun y hy => by simp at hy⟩
      · obtain ⟨g, hw⟩ := p2 hc
        refine ⟨(x * y, true), Ev.one fun k => ?_, ?_⟩
        · unfold sawmillref43_product.f
          rw [if_neg h0, sawmillref43_product.j0, if_neg (by simpa using h1), if_neg (by omega), if_neg hc, hw]
        · unfold numV; rw [if_neg (by rw [g]; decide)]; exact ⟨rfl, fun y hy => by simpa using hy⟩
end Go.Proofs.YthdgofbchfcfcaaDoor.PRu

set_option linter.unusedVariables false
set_option linter.unusedSimpArgs false
namespace Go.Proofs.YthdgofbchfcfcaaDoor.PRu
open Go.RowKit Go.Proofs.YthdgofbchfcfcaaDoorW.PrintWords Go.Proofs.YthdgofbchfcfcaaDoorW.PrintLast Go.Proofs.YthdgofbchfcfcaaDoorW.PrintMore
theorem rd1 (a b : S24) : rd_T24 [a, b] 1 = b := rfl
theorem rd0 (a : S24) (l : List S24) : rd_T24 (a :: l) 0 = a := rfl
theorem Ev.eq {α : Type} {f : Nat → Option α} {r r' : α} (h : Ev f r) (e : r = r') : Ev f r' := e ▸ h
def RuleVal (l : List S40) (e : S24) (o : Option Int) : Prop := ∃ r, Ev (fun k => rule_value.f k e.f0 e.f1 e.f2 e.f3 l) r ∧ Rul o r
def RefVal (l : List S40) (e : S24) (o : Option Int) : Prop := Ev (fun k => sawmillref43_value.f k e.f0 e.f1 e.f2 e.f3 l) (refR o)
def Within (x : Int) : Prop := -1099511627776 ≤ x ∧ x ≤ 1099511627776
theorem Rul.some (y : Int) : Rul (some y) (y, true) := ⟨rfl, fun z hz => by simpa using hz⟩
theorem Rul.none (y : Int) : Rul none (y, false) := ⟨rfl, fun z hz => by simp at hz⟩
theorem within_bit (b : Bool) : Within (bitV b) := by cases b <;> exact ⟨by decide, by decide⟩
theorem within_num {n y : Int} (h : numV n = some y) : Within y ∧ y = n := by
  unfold numV at h
  by_cases hg : greatF n = true
  · rw [if_pos hg] at h; exact absurd h (by simp)
  · rw [if_neg hg] at h
    have : n = y := by simpa using h
    exact ⟨this ▸ (great_iff n).1 (by simpa using hg), this.symm⟩
def opT (op x : Int) (bt259 : Int × Bool) : Option (Int × Bool) := (if bt259.2 = true then (if op = 6 then ((rule_truth.f (x == bt259.1)).bind fun t261 => (some (t261, true))) else (if op = 7 then ((rule_truth.f (decide (x < bt259.1))).bind fun t262 => (some (t262, true))) else (if op = 8 then ((rule_truth.f (decide (x ≤ bt259.1))).bind fun t263 => (some (t263, true))) else (if op = 3 then ((rule_great.f (wrap64 (x + bt259.1))).bind fun t264 => (some (wrap64 (x + bt259.1), !t264))) else (if op = 4 then ((rule_great.f (wrap64 (x - bt259.1))).bind fun t265 => (some (wrap64 (x - bt259.1), !t265))) else (if op = 5 then (if x = 0 then ((rule_great.f (wrap64 (x * bt259.1))).bind fun t266 => (some (wrap64 (x * bt259.1), !t266))) else (if (mx x (wrap64 (-x))) = 0 then (none) else (if bt259.1 > (wrap64 (Int.tdiv 1099511627776 (mx x (wrap64 (-x))))) then (some (0, false)) else (if bt259.1 < (wrap64 (-Int.tdiv 1099511627776 (mx x (wrap64 (-x))))) then (some (0, false)) else ((rule_great.f (wrap64 (x * bt259.1))).bind fun t267 => (some (wrap64 (x * bt259.1), !t267))))))) else ((rule_great.f x).bind fun t268 => (some (x, !t268))))))))) else (some (0, false)))
def opU (k : Nat) (op x : Int) (bt350 : Int × Int) : Option (Int × Int) := (if bt350.2 = 0 then (if op = 3 then ((sawmillref43_number.f (wrap64 (x + bt350.1))).bind fun bt352 => (some (bt352.1, bt352.2))) else (if op = 4 then ((sawmillref43_number.f (wrap64 (x - bt350.1))).bind fun bt354 => (some (bt354.1, bt354.2))) else (if op = 5 then ((sawmillref43_product.f k x bt350.1).bind fun bt356 => (if bt356.2 = true then (some (bt356.1, 0)) else (some (0, 9)))) else (if op = 6 then ((sawmillref43_bit.f (x == bt350.1)).bind fun t358 => (some (t358, 0))) else (if op = 7 then ((sawmillref43_bit.f (decide (x < bt350.1))).bind fun t359 => (some (t359, 0))) else (if op = 8 then ((sawmillref43_bit.f (decide (x ≤ bt350.1))).bind fun t360 => (some (t360, 0))) else (some (bt350.1, 0)))))))) else (some (0, bt350.2)))
theorem opT_none (op x y : Int) : opT op x (y, false) = some (0, false) := by
  unfold opT; rw [if_neg (by simp)]
theorem opT_some {op x y : Int} (hop : op = 3 ∨ op = 4 ∨ op = 5 ∨ op = 6 ∨ op = 7 ∨ op = 8) (hx : Within x) (hy : Within y) : ∃ r, opT op x (y, true) = some r ∧ Rul (opV op x y) r := by
  obtain ⟨x1, x2⟩ := id hx
  obtain ⟨y1, y2⟩ := id hy
  unfold opT
  rw [if_pos rfl]
  rcases hop with rfl | rfl | rfl | rfl | rfl | rfl
  · refine ⟨(x + y, !greatF (x + y)), ?_, Rul.num (x + y)⟩
    simp only [Int.reduceEq, if_false, if_true]
    rw [wid (by omega) (by omega), great_f, Option.bind_some]
  · refine ⟨(x - y, !greatF (x - y)), ?_, Rul.num (x - y)⟩
    simp only [Int.reduceEq, if_false, if_true]
    rw [wid (by omega) (by omega), great_f, Option.bind_some]
  · have hV : opV 5 x y = numV (x * y) := rfl
    rw [hV]
    simp only [Int.reduceEq, if_false, if_true]
    by_cases h0 : x = 0
    · rw [if_pos h0, h0, Int.zero_mul, wid (n := 0) (by omega) (by omega), great_f, Option.bind_some]
      exact ⟨_, rfl, Rul.num 0⟩
    · rw [if_neg h0]
      obtain ⟨c0, c1, c2⟩ := mx_abs h0 x1 x2
      rw [if_neg (by omega)]
      obtain ⟨p1, p2⟩ := prod_rule h0 hx hy
      by_cases ha : y > wrap64 (Int.tdiv 1099511627776 (mx x (wrap64 (-x))))
      · rw [if_pos ha]
        refine ⟨_, rfl, ?_⟩
        unfold numV; rw [if_pos (p1 (.inl ha))]; exact Rul.none 0
      · rw [if_neg ha]
        by_cases hb : y < wrap64 (-Int.tdiv 1099511627776 (mx x (wrap64 (-x))))
        · rw [if_pos hb]
          refine ⟨_, rfl, ?_⟩
          unfold numV; rw [if_pos (p1 (.inr hb))]; exact Rul.none 0
        · rw [if_neg hb]
          obtain ⟨g, hw⟩ := p2 ha hb
          rw [hw, great_f, Option.bind_some]
          exact ⟨_, rfl, Rul.num (x * y)⟩
  · exact ⟨(bitV (x == y), true), by simp only [Int.reduceEq, if_false, if_true, truth_f, Option.bind_some], Rul.some _⟩
  · exact ⟨(bitV (decide (x < y)), true), by simp only [Int.reduceEq, if_false, if_true, truth_f, Option.bind_some], Rul.some _⟩
  · exact ⟨(bitV (decide (x ≤ y)), true), by simp only [Int.reduceEq, if_false, if_true, truth_f, Option.bind_some], Rul.some _⟩
theorem refR_eta (o : Option Int) : some ((refR o).1, (refR o).2) = some (refR o) := rfl
theorem opU_some {op x y : Int} (hop : op = 3 ∨ op = 4 ∨ op = 5 ∨ op = 6 ∨ op = 7 ∨ op = 8 ∨ op = 10 ∨ op = 11) (hx : Within x) (hy : Within y) : Ev (fun k => opU k op x (y, 0)) (refR (opV op x y)) := by
  obtain ⟨x1, x2⟩ := id hx
  obtain ⟨y1, y2⟩ := id hy
  unfold opU
  simp only [if_true]
  rcases hop with rfl | rfl | rfl | rfl | rfl | rfl | rfl | rfl
  · simp only [Int.reduceEq, if_false, if_true]
    rw [wid (by omega) (by omega), number_f, Option.bind_some]
    exact Ev.const
  · simp only [Int.reduceEq, if_false, if_true]
    rw [wid (by omega) (by omega), number_f, Option.bind_some]
    exact Ev.const
  · have hV : opV 5 x y = numV (x * y) := rfl
    rw [hV]
    simp only [Int.reduceEq, if_false, if_true]
    obtain ⟨r, e, q1, q2⟩ := product_ev hx hy
    refine Ev.bind e ?_
    obtain ⟨r1, r2⟩ := r
    cases hn : numV (x * y) with
    | none =>
      rw [hn] at q1
      have q1 : r2 = false := q1
      subst q1
      exact Ev.const
    | some z =>
      rw [hn] at q1
      have q1 : r2 = true := q1
      have q3 : r1 = z := q2 z hn
      subst q1
      subst q3
      exact Ev.const
  · simp only [Int.reduceEq, if_false, if_true, bit_f, Option.bind_some]; exact Ev.const
  · simp only [Int.reduceEq, if_false, if_true, bit_f, Option.bind_some]; exact Ev.const
  · simp only [Int.reduceEq, if_false, if_true, bit_f, Option.bind_some]; exact Ev.const
  · simp only [Int.reduceEq, if_false]; exact Ev.const
  · simp only [Int.reduceEq, if_false]; exact Ev.const
theorem opV_within {op x y z : Int} (hop : op = 3 ∨ op = 4 ∨ op = 5 ∨ op = 6 ∨ op = 7 ∨ op = 8 ∨ op = 10 ∨ op = 11) (hy : Within y) (h : opV op x y = some z) : Within z := by
  rcases hop with rfl | rfl | rfl | rfl | rfl | rfl | rfl | rfl <;> simp only [opV, Int.reduceEq, if_false, if_true] at h
  · exact (within_num h).1
  · exact (within_num h).1
  · exact (within_num h).1
  · cases h; exact within_bit _
  · cases h; exact within_bit _
  · cases h; exact within_bit _
  · cases h; exact hy
  · cases h; exact hy
theorem bit_01 (b : Bool) : bitV b = 0 ∨ bitV b = 1 := by cases b; exact .inl rfl; exact .inr rfl
theorem j0_false (k : Nat) (l : List S40) (x op n : Int) (s : ByteArray) (a b : S24) : rule_value.j0 (k + 1) l x false op n s [a, b] = (rule_value.f k b.f0 b.f1 b.f2 b.f3 l).bind (opT op x) := by
  rw [rv_j0, if_neg (by decide), if_pos (by simp)]
  rfl
theorem j0_true (k : Nat) (l : List S40) (x op n : Int) (s : ByteArray) (a b : S24) : rule_value.j0 (k + 1) l x true op n s [a, b] = if ((x == 1) == (op == 11)) = true then (some (x, true)) else ((rule_value.f k b.f0 b.f1 b.f2 b.f3 l).bind fun bt256 => (some (bt256.1, bt256.2))) := by
  rw [rv_j0, if_pos rfl, if_pos (show (1 : Int) < (([a, b] : List S24).length : Int) by simp)]
  rfl
theorem f0_false (k : Nat) (l : List S40) (x op n : Int) (s : ByteArray) (a b : S24) : sawmillref43_value.j0 (k + 1) l x false op n s [a, b] = (sawmillref43_value.f k b.f0 b.f1 b.f2 b.f3 l).bind (opU k op x) := by
  rw [fv_j0, if_neg (by decide), if_pos (by simp)]
  rfl
theorem f0_true (k : Nat) (l : List S40) (x op n : Int) (s : ByteArray) (a b : S24) : sawmillref43_value.j0 (k + 1) l x true op n s [a, b] = some (x, 0) := by
  rw [fv_j0, if_pos rfl]
theorem bin_rule (l : List S40) (op : Int) (s : ByteArray) (a b : S24) (hop : op = 3 ∨ op = 4 ∨ op = 5 ∨ op = 6 ∨ op = 7 ∨ op = 8 ∨ op = 10 ∨ op = 11) (oa ob : Option Int) (ha : RuleVal l a oa) (hb : RuleVal l b ob) (wa : ∀ y, oa = some y → Within y) (wb : ∀ y, ob = some y → Within y) (ba : takesF op = true → ∀ y, oa = some y → y = 0 ∨ y = 1) :
    RuleVal l ⟨op, 0, s, [a, b]⟩ (oa.bind fun x => if shortB op x = true then some x else ob.bind fun y => opV op x y) := by
  obtain ⟨ra, ea, ua1, ua2⟩ := ha
  obtain ⟨rb, eb, ub1, ub2⟩ := hb
  have head : ∀ r, Ev (fun k => if ra.2 = true then rule_value.j0 k l ra.1 (op == 10 || op == 11) op 0 s [a, b] else some (0, false)) r → Ev (fun k => rule_value.f k op 0 s [a, b] l) r := by
    intro r hr
    refine Ev.step (g := fun k => (rule_value.f k a.f0 a.f1 a.f2 a.f3 l).bind fun bt253 => if bt253.2 = true then rule_value.j0 k l bt253.1 (op == 10 || op == 11) op 0 s [a, b] else some (0, false)) (Ev.bind ea hr) (fun k => ?_)
    rw [rv_f, if_neg (by omega), if_neg (by omega), if_pos (show (0 : Int) < (([a, b] : List S24).length : Int) by simp), rd0]
    congr 1
    funext bt
    rw [if_neg (show ¬ op = 9 by omega)]
    by_cases h10 : op = 10
    · subst h10; rfl
    · rw [if_neg h10, show (op == 10) = false by simpa using h10, Bool.false_or]
  obtain ⟨ra1, ra2⟩ := ra
  obtain ⟨rb1, rb2⟩ := rb
  cases oa with
  | none =>
    have q1 : ra2 = false := ua1
    subst q1
    exact ⟨(0, false), head _ Ev.const, Rul.none 0⟩
  | some x =>
    have q1 : ra2 = true := ua1
    have q3 : ra1 = x := ua2 x rfl
    subst q1
    subst q3
    have hwx := wa ra1 rfl
    have hbx := fun h => ba h ra1 rfl
    show RuleVal l ⟨op, 0, s, [a, b]⟩ (if shortB op ra1 = true then some ra1 else ob.bind fun y => opV op ra1 y)
    by_cases h8 : op ≤ 8
    · have hs : shortB op ra1 = false := by
        unfold shortB
        rw [show (op == 10) = false by simp; omega, show (op == 11) = false by simp; omega]; rfl
      have hj : (op == 10 || op == 11) = false := by
        rw [show (op == 10) = false by simp; omega, show (op == 11) = false by simp; omega]; rfl
      rw [if_neg (by rw [hs]; decide)]
      rw [hj] at head
      cases ob with
      | none =>
        have q1 : rb2 = false := ub1
        subst q1
        refine ⟨(0, false), head _ (Ev.step (g := fun k => (rule_value.f k b.f0 b.f1 b.f2 b.f3 l).bind (opT op ra1)) (Ev.bind eb ?_) (fun k => ?_)), Rul.none 0⟩
        · rw [opT_none]; exact Ev.const
        · simp only [if_true]; exact j0_false k l ra1 op 0 s a b
      | some y =>
        have q1 : rb2 = true := ub1
        have q3 : rb1 = y := ub2 y rfl
        subst q1
        subst q3
        obtain ⟨r, hr, hR⟩ := opT_some (op := op) (by omega) hwx (wb rb1 rfl)
        refine ⟨r, head _ (Ev.step (g := fun k => (rule_value.f k b.f0 b.f1 b.f2 b.f3 l).bind (opT op ra1)) (Ev.bind eb ?_) (fun k => ?_)), hR⟩
        · rw [hr]; exact Ev.const
        · simp only [if_true]; exact j0_false k l ra1 op 0 s a b
    · have hj : (op == 10 || op == 11) = true := by
        have : op = 10 ∨ op = 11 := by omega
        rcases this with h | h <;> subst h <;> rfl
      have h01 := hbx (by unfold takesF; exact decide_eq_true (by omega))
      have hs : shortB op ra1 = ((ra1 == 1) == (op == 11)) := by
        have : op = 10 ∨ op = 11 := by omega
        rcases this with h | h <;> rcases h01 with h' | h' <;> subst h <;> subst h' <;> rfl
      rw [hj] at head
      rw [hs]
      by_cases hc : ((ra1 == 1) == (op == 11)) = true
      · rw [if_pos hc]
        refine ⟨(ra1, true), head _ (Ev.one fun k => ?_), Rul.some _⟩
        simp only [if_true]
        rw [j0_true, if_pos hc]
      · rw [if_neg hc]
        have hob : (ob.bind fun y => opV op ra1 y) = ob := by
          have : ∀ y, opV op ra1 y = some y := by
            intro y
            have : op = 10 ∨ op = 11 := by omega
            rcases this with h | h <;> subst h <;> rfl
          cases ob with
          | none => rfl
          | some y => exact this y
        rw [hob]
        refine ⟨(rb1, rb2), head _ (Ev.step (g := fun k => (rule_value.f k b.f0 b.f1 b.f2 b.f3 l).bind fun bt256 => (some (bt256.1, bt256.2))) (Ev.bind eb Ev.const) (fun k => ?_)), ub1, ub2⟩
        simp only [if_true]
        rw [j0_true, if_neg hc]
theorem bin_ref (l : List S40) (op : Int) (s : ByteArray) (a b : S24) (hop : op = 3 ∨ op = 4 ∨ op = 5 ∨ op = 6 ∨ op = 7 ∨ op = 8 ∨ op = 10 ∨ op = 11) (oa ob : Option Int) (ha : RefVal l a oa) (hb : RefVal l b ob) (wa : ∀ y, oa = some y → Within y) (wb : ∀ y, ob = some y → Within y) :
    RefVal l ⟨op, 0, s, [a, b]⟩ (oa.bind fun x => if shortB op x = true then some x else ob.bind fun y => opV op x y) := by
  have head : ∀ r, Ev (fun k => if (refR oa).2 = 0 then sawmillref43_value.j0 k l (refR oa).1 (shortB op (refR oa).1) op 0 s [a, b] else some (0, (refR oa).2)) r → Ev (fun k => sawmillref43_value.f k op 0 s [a, b] l) r := by
    intro r hr
    refine Ev.step (g := fun k => (sawmillref43_value.f k a.f0 a.f1 a.f2 a.f3 l).bind fun bt => if bt.2 = 0 then sawmillref43_value.j0 k l bt.1 (shortB op bt.1) op 0 s [a, b] else some (0, bt.2)) (Ev.bind ha hr) (fun k => ?_)
    rw [fv_f, if_neg (by omega), if_neg (by omega), if_pos (show (0 : Int) < (([a, b] : List S24).length : Int) by simp), rd0]
    congr 1
    funext bt
    rw [if_neg (show ¬ op = 9 by omega)]
    unfold shortB
    by_cases h10 : op = 10
    · subst h10
      rw [if_pos rfl]
      by_cases hx : bt.1 = 0
      · rw [if_pos hx, hx]; rfl
      · rw [if_neg hx, if_neg (show ¬ (10 : Int) = 11 by decide), show (bt.1 == 0) = false by simpa using hx]; rfl
    · rw [if_neg h10, show (op == 10) = false by simpa using h10, Bool.false_and, Bool.false_or]
      by_cases h11 : op = 11
      · subst h11; rfl
      · rw [if_neg h11, show (op == 11) = false by simpa using h11, Bool.false_and]
  show Ev (fun k => sawmillref43_value.f k op 0 s [a, b] l) _
  apply head
  cases oa with
  | none => exact Ev.const
  | some x =>
    show Ev (fun k => sawmillref43_value.j0 k l x (shortB op x) op 0 s [a, b]) (refR (if shortB op x = true then some x else ob.bind fun y => opV op x y))
    by_cases hs : shortB op x = true
    · rw [if_pos hs, hs]
      exact Ev.one fun k => f0_true k l x op 0 s a b
    · rw [if_neg hs, show shortB op x = false by simpa using hs]
      refine Ev.step (g := fun k => (sawmillref43_value.f k b.f0 b.f1 b.f2 b.f3 l).bind (opU k op x)) (Ev.bind hb ?_) (fun k => f0_false k l x op 0 s a b)
      cases ob with
      | none => exact Ev.const
      | some y => exact opU_some hop (wa x rfl) (wb y rfl)
/-- The value of what was checked. -/
theorem val_all (l : List S40) (hl : l.length ≤ 1000) : ∀ (n : Nat) (e : S24), visitN (hasF l) n e = 0 →
    RuleVal l e (VN l n e) ∧ RefVal l e (VN l n e) ∧ ∀ y, VN l n e = some y → Within y ∧ (condF e.f0 = true → y = 0 ∨ y = 1)
  | 0, e, h => by simp [visitN] at h
  | n + 1, e, h => by
    obtain ⟨h1, h2⟩ := visit_parts h
    have hall := firstE_all h1
    obtain ⟨op, m, s, ar⟩ := e
    have hall : ∀ a ∈ ar, visitN (hasF l) n a = 0 := hall
    have h2 : ownE (hasF l) op m s ar = 0 := h2
    rcases own_cases h2 with ⟨rfl, rfl, hs, hg⟩ | ⟨rfl, rfl, rfl, hh⟩ | ⟨rfl, rfl, hs, a, rfl, hca⟩ | ⟨hop, rfl, hs, a, b, rfl, hca, hcb⟩
    · have hV : VN l (n + 1) ⟨1, m, s, []⟩ = some m := rfl
      rw [hV]
      refine ⟨⟨(m, true), Ev.one fun k => ?_, Rul.some m⟩, Ev.one fun k => ?_, fun y hy => ?_⟩
      · rw [rv_f, if_pos rfl, great_f, Option.bind_some]
        show some (m, !greatF m) = some (m, true)
        rw [hg]; rfl
      · rw [fv_f, if_pos rfl]; rfl
      · have : m = y := by simpa using hy
        exact ⟨this ▸ (great_iff m).1 hg, fun h => by simp [condF, knownF, condT] at h⟩
    · have hV : VN l (n + 1) ⟨2, 0, s, []⟩ = numV (getR l s).1 := rfl
      rw [hV]
      refine ⟨⟨((getR l s).1, !greatF (getR l s).1), ?_, Rul.num _⟩, ?_, fun y hy => ⟨(within_num hy).1, fun h => by simp [condF, knownF, condT] at h⟩⟩
      · refine Ev.step (g := fun k => (feature_Get.f k l s).bind fun bt249 => ((rule_great.f bt249.1).bind fun t251 => (some (bt249.1, !t251)))) (Ev.bind (get_ev s hl) ?_) (fun k => ?_)
        · rw [great_f, Option.bind_some]; exact Ev.const
        · rw [rv_f, if_neg (by show ¬ ((2 : Int) = 1); decide), if_pos rfl]
      · refine Ev.step (g := fun k => (sawmillref43_get.f k l s).bind fun t343 => ((sawmillref43_number.f t343).bind fun bt344 => (some (bt344.1, bt344.2)))) (Ev.bind (rget_ev s hl) ?_) (fun k => ?_)
        · rw [number_f, Option.bind_some]; exact Ev.const
        · rw [fv_f, if_neg (by show ¬ ((2 : Int) = 1); decide), if_pos rfl]
    · obtain ⟨⟨ra, ea, ua1, ua2⟩, fa, ya⟩ := val_all l hl n a (hall a (by simp))
      have hV : VN l (n + 1) ⟨9, 0, s, [a]⟩ = (VN l n a).bind fun x => some (1 - x) := rfl
      rw [hV]
      obtain ⟨ra1, ra2⟩ := ra
      cases hv : VN l n a with
      | none =>
        rw [hv] at ua1 fa
        have q1 : ra2 = false := ua1
        subst q1
        refine ⟨⟨(0, false), Ev.step (g := fun k => (rule_value.f k a.f0 a.f1 a.f2 a.f3 l).bind fun bt253 => if bt253.2 = true then (if (9 : Int) = 9 then (some (wrap64 (1 - bt253.1), true)) else none) else (some (0, false))) (Ev.bind ea ?_) (fun k => ?_), Rul.none 0⟩, Ev.step (g := fun k => (sawmillref43_value.f k a.f0 a.f1 a.f2 a.f3 l).bind fun bt347 => if bt347.2 = 0 then (if (9 : Int) = 9 then (some (wrap64 (1 - bt347.1), 0)) else none) else (some (0, bt347.2))) (Ev.bind fa ?_) (fun k => ?_), fun y hy => by simp at hy⟩
        · exact Ev.const
        · rw [rv_f, if_neg (by show ¬ ((9 : Int) = 1); decide), if_neg (by show ¬ ((9 : Int) = 2); decide), if_pos (by show (0 : Int) < (([a] : List S24).length : Int); simp), rd0]
          rfl
        · exact Ev.const
        · rw [fv_f, if_neg (by show ¬ ((9 : Int) = 1); decide), if_neg (by show ¬ ((9 : Int) = 2); decide), if_pos (by show (0 : Int) < (([a] : List S24).length : Int); simp), rd0]
          rfl
      | some x =>
        rw [hv] at ua1 fa
        have q1 : ra2 = true := ua1
        have q3 : ra1 = x := ua2 x hv
        subst q1
        subst q3
        have h01 := (ya ra1 hv).2 hca
        have hw : wrap64 (1 - ra1) = 1 - ra1 := wid (by omega) (by omega)
        refine ⟨⟨(1 - ra1, true), Ev.step (g := fun k => (rule_value.f k a.f0 a.f1 a.f2 a.f3 l).bind fun bt253 => if bt253.2 = true then (if (9 : Int) = 9 then (some (wrap64 (1 - bt253.1), true)) else none) else (some (0, false))) (Ev.bind ea ?_) (fun k => ?_), Rul.some _⟩, Ev.step (g := fun k => (sawmillref43_value.f k a.f0 a.f1 a.f2 a.f3 l).bind fun bt347 => if bt347.2 = 0 then (if (9 : Int) = 9 then (some (wrap64 (1 - bt347.1), 0)) else none) else (some (0, bt347.2))) (Ev.bind fa ?_) (fun k => ?_), fun y hy => ?_⟩
        · simp only [if_true, hw]; exact Ev.const
        · rw [rv_f, if_neg (by show ¬ ((9 : Int) = 1); decide), if_neg (by show ¬ ((9 : Int) = 2); decide), if_pos (by show (0 : Int) < (([a] : List S24).length : Int); simp), rd0]
          rfl
        · simp only [refR, if_true, hw]; exact Ev.const
        · rw [fv_f, if_neg (by show ¬ ((9 : Int) = 1); decide), if_neg (by show ¬ ((9 : Int) = 2); decide), if_pos (by show (0 : Int) < (([a] : List S24).length : Int); simp), rd0]
          rfl
        · have : 1 - ra1 = y := by simpa using hy
          unfold Within
          exact ⟨by omega, fun _ => by omega⟩
    · have ha := val_all l hl n a (hall a (by simp))
      have hb := val_all l hl n b (hall b (by simp))
      have hV : VN l (n + 1) ⟨op, 0, s, [a, b]⟩ = (VN l n a).bind fun x => if shortB op x = true then some x else (VN l n b).bind fun y => opV op x y := by
        rw [VN]
        rw [if_neg (show ¬ op = 1 by omega), if_neg (show ¬ op = 2 by omega)]
      rw [hV]
      refine ⟨bin_rule l op s a b hop _ _ ha.1 hb.1 (fun y hy => (ha.2.2 y hy).1) (fun y hy => (hb.2.2 y hy).1) (fun ht y hy => (ha.2.2 y hy).2 (hca.trans ht)), bin_ref l op s a b hop _ _ ha.2.1 hb.2.1 (fun y hy => (ha.2.2 y hy).1) (fun y hy => (hb.2.2 y hy).1), fun y hy => ?_⟩
      cases hva : VN l n a with
      | none => rw [hva] at hy; exact absurd hy (by simp)
      | some x =>
        rw [hva] at hy
        have hy : (if shortB op x = true then some x else (VN l n b).bind fun y => opV op x y) = some y := hy
        by_cases hs : shortB op x = true
        · rw [if_pos hs] at hy
          cases hy
          refine ⟨(ha.2.2 y hva).1, fun _ => (ha.2.2 y hva).2 (hca.trans ?_)⟩
          unfold shortB at hs
          simp only [Bool.or_eq_true, Bool.and_eq_true, beq_iff_eq] at hs
          unfold takesF
          exact decide_eq_true (by omega)
        · rw [if_neg hs] at hy
          cases hvb : VN l n b with
          | none => rw [hvb] at hy; exact absurd hy (by simp)
          | some z =>
            rw [hvb] at hy
            have hy : opV op x z = some y := hy
            refine ⟨opV_within hop (hb.2.2 z hvb).1 hy, fun hc => ?_⟩
            have hc : condF op = true := hc
            rcases hop with h | h | h | h | h | h | h | h <;> subst h <;> simp only [opV, Int.reduceEq, if_false, if_true] at hy
            · simp [condF, knownF, condT] at hc
            · simp [condF, knownF, condT] at hc
            · simp [condF, knownF, condT] at hc
            · cases hy; exact bit_01 _
            · cases hy; exact bit_01 _
            · cases hy; exact bit_01 _
            · cases hy; exact (hb.2.2 _ hvb).2 (hcb.trans rfl)
            · cases hy; exact (hb.2.2 _ hvb).2 (hcb.trans rfl)
end Go.Proofs.YthdgofbchfcfcaaDoor.PRu
