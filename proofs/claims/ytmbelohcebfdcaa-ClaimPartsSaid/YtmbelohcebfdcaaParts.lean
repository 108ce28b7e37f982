/- ClaimParts: its law and its walk. -/
import Derived.Test.YtmbelohcebfdcaaLeft
set_option linter.unusedVariables false
set_option linter.unusedSimpArgs false
namespace Go.Proofs.Ytmbelohcebfdcaa.Acc
open Go.RowKit Go.Maps
theorem claimS_two (p q : Int) : ∀ (l : List (Int × Int)) (v w : Int), Pos l → total l < 1152921504606846976 → 0 ≤ v → v < 576460752303423488 → 0 ≤ w → w < 576460752303423488 →
    (claimS p q (claimS p q l v).1 w).1 = (claimS p q l (v + w)).1
  | [], v, w, _, _, _, _, _, _ => by simp [claimS]
  | a :: l, v, w, hp, ht, hv, hv2, hw, hw2 => by
    have h1 := hp a (by simp)
    rw [total_cons] at ht
    have hr0 : 0 ≤ total l := (sumG_range (fun _ => true) l hp.tail).1
    have ih := fun v w => claimS_two p q l v w hp.tail (by omega)
    by_cases hva : validF p a.1 q = true
    · by_cases c1 : a.2 ≤ v
      · have m1 : min v a.2 = a.2 := by omega
        have m2 : min (v + w) a.2 = a.2 := by omega
        have e1 : wrap64 (a.2 - a.2) = 0 := by unfold wrap64; omega
        have e2 : wrap64 (v - a.2) = v - a.2 := by unfold wrap64; omega
        have e3 : wrap64 (v + w - a.2) = v - a.2 + w := by unfold wrap64; omega
        rw [show claimS p q (a :: l) v = claimS p q l (v - a.2) by rw [claimS, if_pos hva, m1, if_pos e1, e2]]
        rw [show claimS p q (a :: l) (v + w) = claimS p q l (v - a.2 + w) by rw [claimS, if_pos hva, m2, if_pos e1, e3]]
        exact ih (v - a.2) w (by omega) (by omega) hw hw2
      · have m1 : min v a.2 = v := by omega
        have e1 : wrap64 (a.2 - v) = a.2 - v := by unfold wrap64; omega
        have e2 : wrap64 (v - v) = 0 := by unfold wrap64; omega
        have n1 : ¬ a.2 - v = 0 := by omega
        rw [show (claimS p q (a :: l) v).1 = (a.1, a.2 - v) :: (claimS p q l 0).1 by rw [claimS, if_pos hva, m1, e1, if_neg n1, e2]]
        by_cases c2 : a.2 - v ≤ w
        · have m2 : min w (a.2 - v) = a.2 - v := by omega
          have m3 : min (v + w) a.2 = a.2 := by omega
          have e3 : wrap64 (a.2 - v - (a.2 - v)) = 0 := by unfold wrap64; omega
          have e4 : wrap64 (w - (a.2 - v)) = w - (a.2 - v) := by unfold wrap64; omega
          have e5 : wrap64 (a.2 - a.2) = 0 := by unfold wrap64; omega
          have e6 : wrap64 (v + w - a.2) = 0 + (w - (a.2 - v)) := by unfold wrap64; omega
          rw [show claimS p q ((a.1, a.2 - v) :: (claimS p q l 0).1) w = claimS p q (claimS p q l 0).1 (w - (a.2 - v)) by rw [claimS, if_pos hva, m2, if_pos e3, e4]]
          rw [show claimS p q (a :: l) (v + w) = claimS p q l (0 + (w - (a.2 - v))) by rw [claimS, if_pos hva, m3, if_pos e5, e6]]
          exact ih 0 (w - (a.2 - v)) (by omega) (by omega) (by omega) (by omega)
        · have m2 : min w (a.2 - v) = w := by omega
          have m3 : min (v + w) a.2 = v + w := by omega
          have e3 : wrap64 (a.2 - v - w) = a.2 - v - w := by unfold wrap64; omega
          have e4 : wrap64 (w - w) = 0 := by unfold wrap64; omega
          have e5 : wrap64 (a.2 - (v + w)) = a.2 - v - w := by unfold wrap64; omega
          have e6 : wrap64 (v + w - (v + w)) = 0 + 0 := by unfold wrap64; omega
          have n2 : ¬ a.2 - v - w = 0 := by omega
          rw [show (claimS p q ((a.1, a.2 - v) :: (claimS p q l 0).1) w).1 = (a.1, a.2 - v - w) :: (claimS p q (claimS p q l 0).1 0).1 by rw [claimS, if_pos hva, m2, e3, if_neg n2, e4]]
          rw [show (claimS p q (a :: l) (v + w)).1 = (a.1, a.2 - v - w) :: (claimS p q l (0 + 0)).1 by rw [claimS, if_pos hva, m3, e5, if_neg n2, e6]]
          rw [ih 0 0 (by omega) (by omega) (by omega) (by omega)]
    · rw [show (claimS p q (a :: l) v).1 = a :: (claimS p q l v).1 by rw [claimS, if_neg hva]]
      rw [show (claimS p q (a :: (claimS p q l v).1) w).1 = a :: (claimS p q (claimS p q l v).1 w).1 by rw [claimS, if_neg hva]]
      rw [show (claimS p q (a :: l) (v + w)).1 = a :: (claimS p q l (v + w)).1 by rw [claimS, if_neg hva]]
      rw [ih v w hv hv2 hw hw2]
theorem getV_putL (q x : Int) : ∀ l : List (Int × Int), getV (putL l q x) q = some x
  | [] => by simp [putL, getV]
  | a :: l => by
    unfold putL
    by_cases c1 : q < a.1
    · rw [if_pos c1]; simp [getV]
    · rw [if_neg c1]
      by_cases c2 : q = a.1
      · rw [if_pos c2]; simp [getV, c2]
      · rw [if_neg c2]
        have e : (a.1 == q) = false := by simp; omega
        have ih := getV_putL q x l
        unfold getV at ih ⊢
        rw [List.find?_cons, e]
        exact ih
theorem putL_putL (q x y : Int) : ∀ l : List (Int × Int), putL (putL l q x) q y = putL l q y
  | [] => by simp [putL]
  | a :: l => by
    by_cases c1 : q < a.1
    · simp [putL, c1]
    · by_cases c2 : q = a.1
      · subst c2
        simp [putL]
      · simp only [putL, if_neg c1, if_neg c2]
        rw [putL_putL q x y l]
theorem credit_mul {f v : Int} (hf : 0 ≤ f ∧ f ≤ 1000) (hv : 0 ≤ v ∧ v ≤ 549755813888) : creditN f (1000 * v) = v * f := by
  obtain ⟨_, _, e⟩ := creditN_eq (v := 1000 * v) hf ⟨by omega, by omega⟩
  rw [e, Int.mul_assoc]
  exact Int.mul_tdiv_cancel_left _ (by decide)
theorem ref_ok {la q v : Int} (h1 : betw q (if 0 < la then la else 0) 1000000 = true) (hv : 0 ≤ v ∧ v ≤ 1125899906842624) : refusedF la q v = 0 := by
  unfold refusedF
  rw [if_pos h1, if_pos (by unfold betw; simp; omega)]
theorem ref_betw {la q v : Int} (h : refusedF la q v = 0) : betw q (if 0 < la then la else 0) 1000000 = true := by
  unfold refusedF at h
  by_cases h1 : betw q (if 0 < la then la else 0) 1000000 = true
  · exact h1
  · rw [if_neg h1] at h; cases h
theorem betw_self {q : Int} (h : 0 ≤ q ∧ q ≤ 1000000) : betw q (if 0 < q then q else 0) 1000000 = true := by
  unfold betw
  split <;> simp <;> omega
theorem cred_two {n : Nat} {s : St} (h : Inv n s) (hn : n ≤ 100) {q v w : Int} (hv : 0 ≤ v ∧ v ≤ 274877906944) (hw : 0 ≤ w ∧ w ≤ 274877906944) (hr : refusedF s.la q (1000 * v) = 0) :
    refusedF (credS s q (1000 * v)).la q (1000 * w) = 0 ∧ refusedF s.la q (1000 * (v + w)) = 0 ∧ credS (credS s q (1000 * v)) q (1000 * w) = credS s q (1000 * (v + w)) := by
  have hq := refused_q hr
  have hb := ref_betw hr
  obtain ⟨e1, e2, e3, e4, e5, e6, e7⟩ := h.cred_eq (by omega) hr
  have hr2 : refusedF (credS s q (1000 * v)).la q (1000 * w) = 0 := by
    rw [e1]; exact ref_ok (betw_self ⟨hq.1, hq.2.1⟩) ⟨by omega, by omega⟩
  have hr3 : refusedF s.la q (1000 * (v + w)) = 0 := ref_ok hb ⟨by omega, by omega⟩
  refine ⟨hr2, hr3, ?_⟩
  have m1 := credit_mul h.f (v := v) ⟨by omega, by omega⟩
  have m2 := credit_mul h.f (v := w) ⟨by omega, by omega⟩
  have m3 := credit_mul h.f (v := v + w) ⟨by omega, by omega⟩
  have p1 : 0 ≤ v * s.f := Int.mul_nonneg hv.1 h.f.1
  have p2 : 0 ≤ w * s.f := Int.mul_nonneg hw.1 h.f.1
  have p3 : v * s.f ≤ 274877906944 * 1000 := Int.mul_le_mul hv.2 h.f.2 h.f.1 (by omega)
  have p4 : w * s.f ≤ 274877906944 * 1000 := Int.mul_le_mul hw.2 h.f.2 h.f.1 (by omega)
  rw [Int.add_mul] at m3
  obtain ⟨t1, t2, t3, t4, t5⟩ := h.tot (by omega)
  obtain ⟨d1, d2⟩ := getD_range h.pos q
  generalize hV : v * s.f = V at *
  generalize hW : w * s.f = W at *
  have key : credS (credS s q (1000 * v)) q (1000 * w) = (if 0 < creditN (credS s q (1000 * v)).f (1000 * w) then { credS s q (1000 * v) with la := q, l := putL (credS s q (1000 * v)).l q (wrap64 ((getV (credS s q (1000 * v)).l q).getD 0 + creditN (credS s q (1000 * v)).f (1000 * w))), cr := wrap64 ((credS s q (1000 * v)).cr + creditN (credS s q (1000 * v)).f (1000 * w)) } else { credS s q (1000 * v) with la := q }) := by
    rw [show credS (credS s q (1000 * v)) q (1000 * w) = _ from rfl, credS, if_pos hr2]
  rw [key, e4, m2]
  have k1 : credS s q (1000 * v) = (if 0 < V then { s with la := q, l := putL s.l q (wrap64 ((getV s.l q).getD 0 + V)), cr := wrap64 (s.cr + V) } else { s with la := q }) := by
    rw [credS, if_pos hr, m1]
  have k3 : credS s q (1000 * (v + w)) = (if 0 < V + W then { s with la := q, l := putL s.l q (wrap64 ((getV s.l q).getD 0 + (V + W))), cr := wrap64 (s.cr + (V + W)) } else { s with la := q }) := by
    rw [credS, if_pos hr3, m3]
  rw [k1, k3]
  by_cases c1 : 0 < V
  · by_cases c2 : 0 < W
    · simp only [if_pos c1, if_pos c2, if_pos (show 0 < V + W by omega), getV_putL, putL_putL, Option.getD_some]
      have w1 : wrap64 (wrap64 ((getV s.l q).getD 0 + V) + W) = wrap64 ((getV s.l q).getD 0 + (V + W)) := by unfold wrap64; omega
      have w2 : wrap64 (wrap64 (s.cr + V) + W) = wrap64 (s.cr + (V + W)) := by unfold wrap64; omega
      rw [w1, w2]
    · have : W = 0 := by omega
      subst this
      simp only [if_pos c1, if_neg c2, Int.add_zero]
  · have : V = 0 := by omega
    rw [this]
    by_cases c2 : 0 < W
    · simp [c2]
    · simp [c2]
/-- How two claims of a period go, and the one of both volumes. -/
theorem claim_two {n : Nat} {s : St} (h : Inv n s) (hn : n ≤ 100) {q v w : Int} (hq : 0 ≤ q ∧ q ≤ 1000000) (hla : s.la = q) (hv : 0 ≤ v ∧ v ≤ 274877906944) (hw : 0 ≤ w ∧ w ≤ 274877906944) :
    (claimC s q v ≠ 0 → claimC s q (v + w) = 23) ∧ (claimC s q v = 0 → claimC (claimT s q v) q w ≠ 0 → claimC s q (v + w) = 23) ∧
    (claimC s q v = 0 → claimC (claimT s q v) q w = 0 → claimC s q (v + w) = 0 ∧ claimT (claimT s q v) q w = claimT s q (v + w)) := by
  have rf : ∀ u, 0 ≤ u → u ≤ 1125899906842624 → refusedF s.la q u = 0 := fun u h1 h2 => by rw [hla]; exact ref_ok (betw_self hq) ⟨h1, h2⟩
  have hb : betw q 0 1000000 = true := by unfold betw; simp; omega
  have c1 : claimC s q v = if leftF s.p q s.l < v then 23 else 0 := by unfold claimC; rw [if_pos (rf v hv.1 (by omega))]
  have c3 : claimC s q (v + w) = if leftF s.p q s.l < v + w then 23 else 0 := by unfold claimC; rw [if_pos (rf (v + w) (by omega) (by omega))]
  refine ⟨fun h1 => ?_, fun h1 h2 => ?_, fun h1 h2 => ?_⟩
  · rw [c1] at h1
    rw [c3]
    by_cases hl : leftF s.p q s.l < v
    · rw [if_pos (by omega)]
    · rw [if_neg hl] at h1; exact absurd rfl h1
  · obtain ⟨e1, e2, e3, e4, e5, e6, e7, e8, e9, e10⟩ := h.claim_eq (by omega) h1
    have hI2 : Inv (n + 1) (claimT s q v) := by have := h.step (by omega) true q v; simpa [doS] using this
    have c2 : claimC (claimT s q v) q w = if leftF (claimT s q v).p q (claimT s q v).l < w then 23 else 0 := by unfold claimC; rw [e1, if_pos (ref_ok (betw_self hq) ⟨hw.1, by omega⟩)]
    rw [c2, leftF_eq hI2 (by omega), if_pos hb, e5, e9] at h2
    rw [c3, leftF_eq h (by omega), if_pos hb]
    by_cases hl : sumG (fun c => validF s.p c q) s.l - v < w
    · rw [if_pos (by omega)]
    · rw [if_neg hl] at h2; exact absurd rfl h2
  · obtain ⟨e1, e2, e3, e4, e5, e6, e7, e8, e9, e10⟩ := h.claim_eq (by omega) h1
    have hI2 : Inv (n + 1) (claimT s q v) := by have := h.step (by omega) true q v; simpa [doS] using this
    have hle : w ≤ sumG (fun c => validF s.p c q) s.l - v := by
      have c2 : claimC (claimT s q v) q w = if leftF (claimT s q v).p q (claimT s q v).l < w then 23 else 0 := by unfold claimC; rw [e1, if_pos (ref_ok (betw_self hq) ⟨hw.1, by omega⟩)]
      rw [c2, leftF_eq hI2 (by omega), if_pos hb, e5, e9] at h2
      by_cases hl : sumG (fun c => validF s.p c q) s.l - v < w
      · rw [if_pos hl] at h2; cases h2
      · omega
    have c4 : claimC s q (v + w) = 0 := by
      rw [c3, leftF_eq h (by omega), if_pos hb, if_neg (by omega)]
    obtain ⟨t1, t2, t3, t4, t5⟩ := h.tot (by omega)
    refine ⟨c4, ?_⟩
    have k2 : claimT (claimT s q v) q w = { claimT s q v with la := q, l := (claimS (claimT s q v).p q (claimT s q v).l w).1, cl := wrap64 ((claimT s q v).cl + w) } := by
      rw [show claimT (claimT s q v) q w = _ from rfl, claimT, if_pos h2]
    have k1 : claimT s q v = { s with la := q, l := (claimS s.p q s.l v).1, cl := wrap64 (s.cl + v) } := by
      rw [claimT, if_pos h1]
    have k3 : claimT s q (v + w) = { s with la := q, l := (claimS s.p q s.l (v + w)).1, cl := wrap64 (s.cl + (v + w)) } := by
      rw [claimT, if_pos c4]
    rw [k2, k1, k3]
    simp only
    rw [claimS_two s.p q s.l v w h.pos (by omega) hv.1 (by omega) hw.1 (by omega)]
    have w2 : wrap64 (wrap64 (s.cl + v) + w) = wrap64 (s.cl + (v + w)) := by unfold wrap64; omega
    rw [w2]
theorem blk1 (w : World) (a b : Obj) : ((w.alloc a).alloc b).heap[w.heap.size]? = some a := by
  have hb := (Below.refl (w.alloc a).heap.size (w.alloc a)).alloc (Nat.le_refl _) b
  exact (hb.block w.heap.size (by simp)).trans (MapKept.heap_alloc w a).1
theorem blk2 (w : World) (a b : Obj) : ((w.alloc a).alloc b).heap[w.heap.size + 1]? = some b := by
  have h := (MapKept.heap_alloc (w.alloc a) b).1
  simpa using h
theorem dist {wa : World} {sb bm sc cm : Nat} {s : St} (h : AccS wa sb bm s) (h1 : wa.heap.size ≤ sc) (h2 : wa.heap.size ≤ cm) : sb ≠ sc ∧ sb ≠ cm ∧ bm ≠ sc ∧ bm ≠ cm := by
  have := Acc.lt h
  omega
theorem AccS.other {w w' : World} {sb bm sc cm : Nat} {s : St} (h : AccS w sb bm s) (hk : Kept2 sc cm w w') (h1 : sb ≠ sc) (h2 : sb ≠ cm) (h3 : bm ≠ sc) (h4 : bm ≠ cm) : AccS w' sb bm s := Acc.other h hk h1 h2 h3 h4
theorem belowN {B : Nat} {a w : World} (h : Below B a w) (k : Nat) : Below B a (w.drewN k) := ⟨h.os, h.tape, h.output, h.size, h.block⟩
set_option maxRecDepth 100000 in
theorem parts_bad (n0 n1 p v u2 : Int) (A : Option Addr) (len cap : Nat) (w : World) (hbad : (betw n0 0 1000 && betw n1 1 24) = false) :
    Calls Try.prog 6 #[.agg #[.int .i64 n0, .int .i64 n1], .slice A len cap, .agg #[.int .i64 p, .int .i64 v, .int .i64 u2]] w fun e w' => e = .returned (.bool true) ∧ Below w.heap.size w w' := by
  obtain ⟨W0, hW0⟩ : ∃ W0, W0 = (w.alloc (.cells #[.int .i64 n0, .int .i64 n1] 40)).alloc (.cells #[.int .i64 p, .int .i64 v, .int .i64 u2] 22) := ⟨_, rfl⟩
  have HW0 := Lib.hid (show Below w.heap.size w W0 from hW0 ▸ ((Below.refl w.heap.size w).alloc (Nat.le_refl _) _).alloc (by simp) _)
  have hbk1 : W0.heap[w.heap.size]? = some (.cells #[.int .i64 n0, .int .i64 n1] 40) := by rw [hW0]; exact blk1 _ _ _
  have hbk2 : W0.heap[w.heap.size + 1]? = some (.cells #[.int .i64 p, .int .i64 v, .int .i64 u2] 22) := by rw [hW0]; exact blk2 _ _ _
  have HN0 := Lib.hid (show W0.cell? ⟨w.heap.size, 0, none⟩ = some (.int .i64 n0) by simp only [World.cell?, hbk1]; rfl)
  have HN1 := Lib.hid (show W0.cell? ⟨w.heap.size, 1, none⟩ = some (.int .i64 n1) by simp only [World.cell?, hbk1]; rfl)
  have HX0 := Lib.hid (show W0.cell? ⟨w.heap.size + 1, 0, none⟩ = some (.int .i64 p) by simp only [World.cell?, hbk2]; rfl)
  have HX1 := Lib.hid (show W0.cell? ⟨w.heap.size + 1, 1, none⟩ = some (.int .i64 v) by simp only [World.cell?, hbk2]; rfl)
  have HX2 := Lib.hid (show W0.cell? ⟨w.heap.size + 1, 2, none⟩ = some (.int .i64 u2) by simp only [World.cell?, hbk2]; rfl)
  have HSZ := Lib.hid (show w.heap.size + 1 < W0.heap.size by rw [hW0]; simp)
  have HWW := Lib.hid hW0
  clear hW0 hbk1 hbk2
  go_enter Try.func6, Try.ntmps6
  go_wp2_with (first
    | (go_at_call 8; rw [← HWW.out]; (with_reducible refine (new_calls n0 n1 W0).mono ?_); intro e wa hx; rw [hbad] at hx; rw [if_neg (by decide)] at hx; obtain ⟨rfl, rfl⟩ := hx; have y0 := HN0.out; have y1 := HN1.out)
    | (go_at_call 8; (with_reducible refine (new_calls n0 n1 wa).mono ?_); intro e wb hx; rw [hbad] at hx; rw [if_neg (by decide)] at hx; obtain ⟨rfl, rfl⟩ := hx)
    | (go_at_call 10; (with_reducible refine (awake_calls _).mono ?_); rintro e wc ⟨rfl, hb⟩; have HB3 := Lib.hid (HW0.out.trans (hb.mono HW0.out.size)); clear hb))
  go_ret
  exact ⟨rfl, HB3.out⟩
set_option maxRecDepth 100000 in
theorem parts_guard (n0 n1 p v u2 : Int) (A : Option Addr) (len cap : Nat) (w : World) (hok : (betw n0 0 1000 && betw n1 1 24) = true)
    (hg : decide (50 < (len : Int)) = true ∨ (decide (50 < (len : Int)) = false ∧ decide (v < 0) = true) ∨ (decide (50 < (len : Int)) = false ∧ decide (v < 0) = false ∧ decide (u2 < 0) = true) ∨ (decide (50 < (len : Int)) = false ∧ decide (v < 0) = false ∧ decide (u2 < 0) = false ∧ decide (274877906944 < v) = true) ∨ (decide (50 < (len : Int)) = false ∧ decide (v < 0) = false ∧ decide (u2 < 0) = false ∧ decide (274877906944 < v) = false ∧ decide (274877906944 < u2) = true)) :
    Calls Try.prog 6 #[.agg #[.int .i64 n0, .int .i64 n1], .slice A len cap, .agg #[.int .i64 p, .int .i64 v, .int .i64 u2]] w fun e w' => e = .returned (.bool true) ∧ Below w.heap.size w w' := by
  obtain ⟨W0, hW0⟩ : ∃ W0, W0 = (w.alloc (.cells #[.int .i64 n0, .int .i64 n1] 40)).alloc (.cells #[.int .i64 p, .int .i64 v, .int .i64 u2] 22) := ⟨_, rfl⟩
  have HW0 := Lib.hid (show Below w.heap.size w W0 from hW0 ▸ ((Below.refl w.heap.size w).alloc (Nat.le_refl _) _).alloc (by simp) _)
  have hbk1 : W0.heap[w.heap.size]? = some (.cells #[.int .i64 n0, .int .i64 n1] 40) := by rw [hW0]; exact blk1 _ _ _
  have hbk2 : W0.heap[w.heap.size + 1]? = some (.cells #[.int .i64 p, .int .i64 v, .int .i64 u2] 22) := by rw [hW0]; exact blk2 _ _ _
  have HN0 := Lib.hid (show W0.cell? ⟨w.heap.size, 0, none⟩ = some (.int .i64 n0) by simp only [World.cell?, hbk1]; rfl)
  have HN1 := Lib.hid (show W0.cell? ⟨w.heap.size, 1, none⟩ = some (.int .i64 n1) by simp only [World.cell?, hbk1]; rfl)
  have HX0 := Lib.hid (show W0.cell? ⟨w.heap.size + 1, 0, none⟩ = some (.int .i64 p) by simp only [World.cell?, hbk2]; rfl)
  have HX1 := Lib.hid (show W0.cell? ⟨w.heap.size + 1, 1, none⟩ = some (.int .i64 v) by simp only [World.cell?, hbk2]; rfl)
  have HX2 := Lib.hid (show W0.cell? ⟨w.heap.size + 1, 2, none⟩ = some (.int .i64 u2) by simp only [World.cell?, hbk2]; rfl)
  have HSZ := Lib.hid (show w.heap.size + 1 < W0.heap.size by rw [hW0]; simp)
  have HWW := Lib.hid hW0
  clear hW0 hbk1 hbk2
  rcases hg with g1 | ⟨g1, g2⟩ | ⟨g1, g2, g3⟩ | ⟨g1, g2, g3, g4⟩ | ⟨g1, g2, g3, g4, g5⟩
  all_goals (
    go_enter Try.func6, Try.ntmps6
    go_wp2_with (first
      | (go_at_call 8; rw [← HWW.out]; (with_reducible refine (new_calls n0 n1 W0).mono ?_); intro e wa hx; rw [hok, if_pos rfl] at hx; obtain ⟨sb, bm, rfl, ha, h1, h2, hb⟩ := hx; have HA0 := Lib.hid (show AccS wa sb bm ⟨n0, n1, -1, [], 0, 0⟩ from ha); have H1 := Lib.hid h1; have H2 := Lib.hid h2; have HB0 := Lib.hid hb; have y0 : wa.cell? ⟨w.heap.size, 0, none⟩ = some (.int .i64 n0) := (hb.cell (by have := HSZ.out; show w.heap.size < _; omega)).trans HN0.out; have y1 : wa.cell? ⟨w.heap.size, 1, none⟩ = some (.int .i64 n1) := (hb.cell (by have := HSZ.out; show w.heap.size < _; omega)).trans HN1.out; clear ha h1 h2 hb)
      | (go_at_call 8; (with_reducible refine (new_calls n0 n1 wa).mono ?_); intro e wb hx; rw [hok, if_pos rfl] at hx; obtain ⟨sc, cm, rfl, ha, h1, h2, hb⟩ := hx; have HA1 := Lib.hid (HA0.out.below hb); have HC1 := Lib.hid (show AccS wb sc cm ⟨n0, n1, -1, [], 0, 0⟩ from ha); have HD := Lib.hid (dist HA0.out h1 h2); have H3 := Lib.hid (Nat.le_trans HB0.out.size h1); have H4 := Lib.hid (Nat.le_trans HB0.out.size h2); have HB1 := Lib.hid (HB0.out.trans (hb.mono HB0.out.size)); clear y0 y1; have x1 : wb.cell? ⟨w.heap.size + 1, 1, none⟩ = some (.int .i64 v) := (HB1.out.cell (by exact HSZ.out)).trans HX1.out; have x2 : wb.cell? ⟨w.heap.size + 1, 2, none⟩ = some (.int .i64 u2) := (HB1.out.cell (by exact HSZ.out)).trans HX2.out; clear ha h1 h2 hb)
      | (go_at_call 10; (with_reducible refine (awake_calls _).mono ?_); rintro e wc ⟨rfl, hb⟩; have HB2 := Lib.hid (HB1.out.trans (hb.mono HB1.out.size)); clear hb))
    go_ret
    exact ⟨rfl, HW0.out.trans (HB2.out.mono HW0.out.size)⟩)
theorem w64 {x : Int} (h : -9223372036854775808 ≤ x ∧ x ≤ 9223372036854775807) : wrap64 x = x := by unfold wrap64; omega
set_option maxRecDepth 100000 in
set_option maxHeartbeats 4000000 in
theorem parts_good (n0 n1 p v u2 : Int) (A : Option Addr) (zs : List (Bool × Int × Int)) (cap : Nat) (w : World) (hok : (betw n0 0 1000 && betw n1 1 24) = true) (g1 : decide (50 < (zs.length : Int)) = false) (g2 : decide (v < 0) = false) (g3 : decide (u2 < 0) = false) (g4 : decide (274877906944 < v) = false) (g5 : decide (274877906944 < u2) = false) (hz : Steps w A zs) :
    Calls Try.prog 6 #[.agg #[.int .i64 n0, .int .i64 n1], .slice A zs.length cap, .agg #[.int .i64 p, .int .i64 v, .int .i64 u2]] w fun e w' => e = .returned (.bool true) ∧ Below w.heap.size w w' := by
  have HZ := Lib.hid hz
  have hl50 : zs.length ≤ 50 := by simp at g1; omega
  have HV := Lib.hid (show 0 ≤ v ∧ v ≤ 274877906944 by simp at g2 g4; omega)
  have HU := Lib.hid (show 0 ≤ u2 ∧ u2 ≤ 274877906944 by simp at g3 g5; omega)
  have E1 := Lib.hid (show wrap64 (1000 * v) = 1000 * v from w64 (by have := HV.out; omega))
  have E2 := Lib.hid (show wrap64 (1000 * u2) = 1000 * u2 from w64 (by have := HU.out; omega))
  have E3 := Lib.hid (show wrap64 (v + u2) = v + u2 from w64 (by have := HU.out; have := HV.out; omega))
  have E4 := Lib.hid (show wrap64 (1000 * (v + u2)) = 1000 * (v + u2) from w64 (by have := HU.out; have := HV.out; omega))
  clear hz
  obtain ⟨W0, hW0⟩ : ∃ W0, W0 = (w.alloc (.cells #[.int .i64 n0, .int .i64 n1] 40)).alloc (.cells #[.int .i64 p, .int .i64 v, .int .i64 u2] 22) := ⟨_, rfl⟩
  have HW0 := Lib.hid (show Below w.heap.size w W0 from hW0 ▸ ((Below.refl w.heap.size w).alloc (Nat.le_refl _) _).alloc (by simp) _)
  have hbk1 : W0.heap[w.heap.size]? = some (.cells #[.int .i64 n0, .int .i64 n1] 40) := by rw [hW0]; exact blk1 _ _ _
  have hbk2 : W0.heap[w.heap.size + 1]? = some (.cells #[.int .i64 p, .int .i64 v, .int .i64 u2] 22) := by rw [hW0]; exact blk2 _ _ _
  have HN0 := Lib.hid (show W0.cell? ⟨w.heap.size, 0, none⟩ = some (.int .i64 n0) by simp only [World.cell?, hbk1]; rfl)
  have HN1 := Lib.hid (show W0.cell? ⟨w.heap.size, 1, none⟩ = some (.int .i64 n1) by simp only [World.cell?, hbk1]; rfl)
  have HX0 := Lib.hid (show W0.cell? ⟨w.heap.size + 1, 0, none⟩ = some (.int .i64 p) by simp only [World.cell?, hbk2]; rfl)
  have HX1 := Lib.hid (show W0.cell? ⟨w.heap.size + 1, 1, none⟩ = some (.int .i64 v) by simp only [World.cell?, hbk2]; rfl)
  have HX2 := Lib.hid (show W0.cell? ⟨w.heap.size + 1, 2, none⟩ = some (.int .i64 u2) by simp only [World.cell?, hbk2]; rfl)
  have HSZ := Lib.hid (show w.heap.size + 1 < W0.heap.size by rw [hW0]; simp)
  have HWW := Lib.hid hW0
  clear hW0 hbk1 hbk2
  go_enter Try.func6, Try.ntmps6
  go_wp2_with (first
    | (go_at_call 8; rw [← HWW.out]; (with_reducible refine (new_calls n0 n1 W0).mono ?_); intro e wa hx; rw [hok, if_pos rfl] at hx; obtain ⟨sb, bm, rfl, ha, h1, h2, hb⟩ := hx; have HA0 := Lib.hid (show AccS wa sb bm ⟨n0, n1, -1, [], 0, 0⟩ from ha); have H1 := Lib.hid h1; have H2 := Lib.hid h2; have HB0 := Lib.hid hb; have y0 : wa.cell? ⟨w.heap.size, 0, none⟩ = some (.int .i64 n0) := (hb.cell (by have := HSZ.out; show w.heap.size < _; omega)).trans HN0.out; have y1 : wa.cell? ⟨w.heap.size, 1, none⟩ = some (.int .i64 n1) := (hb.cell (by have := HSZ.out; show w.heap.size < _; omega)).trans HN1.out; clear ha h1 h2 hb)
    | (go_at_call 8; (with_reducible refine (new_calls n0 n1 wa).mono ?_); intro e wb hx; rw [hok, if_pos rfl] at hx; obtain ⟨sc, cm, rfl, ha, h1, h2, hb⟩ := hx; have HA1 := Lib.hid (HA0.out.below hb); have HC1 := Lib.hid (show AccS wb sc cm ⟨n0, n1, -1, [], 0, 0⟩ from ha); have HD := Lib.hid (dist HA0.out h1 h2); have H3 := Lib.hid (Nat.le_trans HB0.out.size h1); have H4 := Lib.hid (Nat.le_trans HB0.out.size h2); have HB1 := Lib.hid (HB0.out.trans (hb.mono HB0.out.size)); clear y0 y1; have x1 : wb.cell? ⟨w.heap.size + 1, 1, none⟩ = some (.int .i64 v) := (HB1.out.cell (by exact HSZ.out)).trans HX1.out; have x2 : wb.cell? ⟨w.heap.size + 1, 2, none⟩ = some (.int .i64 u2) := (HB1.out.cell (by exact HSZ.out)).trans HX2.out; clear ha h1 h2 hb))
  clear g1 g2 g3 g4 g5 x1 x2
  go_loopw [11] (fun i wr => ∃ (k : Nat) (s : St), i = .int .i64 (k : Int) ∧ k ≤ zs.length ∧ AccS wr sb bm s ∧ AccS wr sc cm s ∧ Inv k s ∧ Below W0.heap.size W0 wr) (fun i _ => zs.length - (intOf i).toNat)
  case atStart => exact ⟨0, _, rfl, Nat.zero_le _, HA1.out, HC1.out, inv_new hok, HB1.out⟩
  case round =>
    clear HA1 HC1 HB1 HA0 HB0
    obtain ⟨k, s, rfl, hk, hacc, hcc, hinv, hbel⟩ := hrel
    have HA1 := Lib.hid hacc
    have HC1 := Lib.hid hcc
    have HI := Lib.hid hinv
    have HB1 := Lib.hid hbel
    clear hacc hcc hinv hbel
    by_cases hlt : k < zs.length
    · obtain ⟨ad, rfl, hadl, x0, x1, x2⟩ := (HZ.out.below (HW0.out.trans (HB1.out.mono HW0.out.size)) (Nat.le_refl _)) k hlt
      obtain ⟨c, q, u, hz3⟩ : ∃ c q u, zs[k] = (c, q, u) := ⟨_, _, _, rfl⟩
      rw [hz3] at x0 x1 x2
      simp only at x0 x1 x2
      have HZ3 := Lib.hid hz3
      obtain ⟨s5, hs5⟩ : ∃ s5, s5 = doS s c q u := ⟨_, rfl⟩
      have HS5 := Lib.hid hs5
      have HI5 := Lib.hid (show Inv (k + 1) s5 from hs5 ▸ HI.out.step (by omega) c q u)
      clear hz3 hs5
      go_wp2_with (first
          | (go_at_call 12; (with_reducible refine (do_calls k sb bm s c q u _ HI.out.good (by omega) HA1.out).mono ?_); rintro e wx1 ⟨rfl, hkp, ha⟩; have HA2 := Lib.hid (show AccS wx1 sb bm s5 from HS5.out ▸ ha); have HC2 := Lib.hid (AccS.other HC1.out hkp HD.out.1.symm HD.out.2.2.1.symm HD.out.2.1.symm HD.out.2.2.2.symm); have HB2 := Lib.hid (HB1.out.trans (hkp.below HB1.out.size H1.out H2.out)); clear x0 x1 x2; obtain ⟨ad2, e2, _, x0, x1, x2⟩ := (HZ.out.below (HW0.out.trans (HB2.out.mono HW0.out.size)) (Nat.le_refl _)) k hlt; cases e2; rw [HZ3.out] at x0 x1 x2; simp only at x0 x1 x2; clear hkp ha)
          | (go_at_call 12; (with_reducible refine (do_calls k sc cm s c q u _ HI.out.good (by omega) HC2.out).mono ?_); rintro e wx2 ⟨rfl, hkp, ha⟩; have HC3 := Lib.hid (show AccS wx2 sc cm s5 from HS5.out ▸ ha); have HA3 := Lib.hid (AccS.other HA2.out hkp HD.out.1 HD.out.2.1 HD.out.2.2.1 HD.out.2.2.2); have HB3 := Lib.hid (HB2.out.trans (hkp.below HB2.out.size H3.out H4.out)); clear hkp ha))
      exact ⟨⟨k + 1, s5, congrArg _ (by omega), by omega, HA3.out, HC3.out, HI5.out, HB3.out⟩, by simp [intOf]; omega⟩
    · have x0 : wr.cell? ⟨w.heap.size + 1, 0, none⟩ = some (.int .i64 p) := (HB1.out.cell HSZ.out).trans HX0.out
      have x1 : wr.cell? ⟨w.heap.size + 1, 1, none⟩ = some (.int .i64 v) := (HB1.out.cell HSZ.out).trans HX1.out
      have x2 : wr.cell? ⟨w.heap.size + 1, 2, none⟩ = some (.int .i64 u2) := (HB1.out.cell HSZ.out).trans HX2.out
      have HK := Lib.hid (show k ≤ 50 by omega)
      go_wp2
      go_quiet (fail)
      obtain ⟨wq, hwq⟩ : ∃ wq, wq = wr.drewN nq := ⟨_, rfl⟩
      replace HA1 := Lib.hid (show AccS wq sb bm s from hwq ▸ HA1.out.drewN nq)
      replace HC1 := Lib.hid (show AccS wq sc cm s from hwq ▸ HC1.out.drewN nq)
      replace HB1 := Lib.hid (show Below W0.heap.size W0 wq from hwq ▸ belowN HB1.out nq)
      rw [← hwq]
      clear hwq x0 x1 x2
      by_cases hc : refusedF s.la p (1000 * v) = 0
      · have hq := refused_q hc
        obtain ⟨f2, f3, f4⟩ := cred_two HI.out (by omega) HV.out HU.out hc
        obtain ⟨e1, e2, e3, e4, e5, e6, e7⟩ := HI.out.cred_eq (q := p) (v := 1000 * (v + u2)) (by omega) f3
        obtain ⟨t1, ht1⟩ : ∃ t1, t1 = credS s p (1000 * v) := ⟨_, rfl⟩
        obtain ⟨t2, ht2⟩ : ∃ t2, t2 = credS s p (1000 * (v + u2)) := ⟨_, rfl⟩
        have I1 := Lib.hid (show Inv (k + 1) t1 by have := HI.out.step (by omega) false p (1000 * v); simpa [doS, ← ht1] using this)
        have I2 := Lib.hid (show Inv (k + 1) t2 by have := HI.out.step (by omega) false p (1000 * (v + u2)); simpa [doS, ← ht2] using this)
        have T1 := Lib.hid ht1
        have T3 := Lib.hid ht2
        have T2 := Lib.hid (show t2 = credS t1 p (1000 * u2) by rw [ht2, ht1, f4])
        have g1 : (credC s p (1000 * v) != 0) = false := by unfold credC; rw [hc]; rfl
        have g2 : (credC t1 p (1000 * u2) != 0) = false := by unfold credC; rw [ht1, f2]; rfl
        have g3 : (credC s p (1000 * (v + u2)) != 0) = false := by unfold credC; rw [f3]; rfl
        rw [← ht2] at e1
        obtain ⟨k1, k2, k3⟩ := claim_two I2.out (by omega) ⟨hq.1, hq.2.1⟩ e1 HV.out HU.out
        clear ht1 ht2 f2 f3 f4 e1 e2 e3 e4 e5 e6 e7 hq hc
        by_cases h1 : claimC t2 p v = 0
        · obtain ⟨t3, ht3⟩ : ∃ t3, t3 = claimT t2 p v := ⟨_, rfl⟩
          have T4 := Lib.hid ht3
          have I3 := Lib.hid (show Inv (k + 2) t3 by have := I2.out.step (by omega) true p v; simpa [doS, ← ht3] using this)
          rw [← ht3] at k2 k3
          by_cases h2 : claimC t3 p u2 = 0
          · obtain ⟨k4, k5⟩ := k3 h1 h2
            obtain ⟨t4, ht4⟩ : ∃ t4, t4 = claimT t2 p (v + u2) := ⟨_, rfl⟩
            have T6 := Lib.hid ht4
            have T5 := Lib.hid (show t4 = claimT t3 p u2 by rw [ht4, k5])
            have I4 := Lib.hid (show Inv (k + 2) t4 by have := I2.out.step (by omega) true p (v + u2); simpa [doS, ← ht4] using this)
            have g4 : (claimC t2 p v != 0) = false := by rw [h1]; rfl
            have g5 : (claimC t3 p u2 != 0) = false := by rw [h2]; rfl
            have g6 : (claimC t2 p (v + u2) == 0) = true := by rw [k4]; rfl
            clear ht3 ht4 k1 k2 k3 k4 k5 h1 h2
            go_wp2_with (first
              | (go_at_call 17; (try rw [E1.out]); (with_reducible refine (cred_st k sb bm s p (1000 * v) _ HI.out.good (by omega) HA1.out).mono ?_); rintro e wx1 ⟨rfl, hkp, ha⟩; have HA2 := Lib.hid (show AccS wx1 sb bm t1 from T1.out ▸ ha); have HC2 := Lib.hid (AccS.other HC1.out hkp HD.out.1.symm HD.out.2.2.1.symm HD.out.2.1.symm HD.out.2.2.2.symm); have HB2 := Lib.hid (HB1.out.trans (hkp.below HB1.out.size H1.out H2.out)); clear hkp ha)
              | (go_at_call 17; (try rw [E2.out]); (with_reducible refine (cred_st (k + 1) sb bm t1 p (1000 * u2) _ I1.out.good (by omega) HA2.out).mono ?_); rintro e wx2 ⟨rfl, hkp, ha⟩; have HA3 := Lib.hid (show AccS wx2 sb bm t2 from T2.out ▸ ha); have HC3 := Lib.hid (AccS.other HC2.out hkp HD.out.1.symm HD.out.2.2.1.symm HD.out.2.1.symm HD.out.2.2.2.symm); have HB3 := Lib.hid (HB2.out.trans (hkp.below HB2.out.size H1.out H2.out)); clear hkp ha)
              | (go_at_call 17; (try rw [E3.out, E4.out]); (with_reducible refine (cred_st k sc cm s p (1000 * (v + u2)) _ HI.out.good (by omega) HC3.out).mono ?_); rintro e wx3 ⟨rfl, hkp, ha⟩; have HC4 := Lib.hid (show AccS wx3 sc cm t2 from T3.out ▸ ha); have HA4 := Lib.hid (AccS.other HA3.out hkp HD.out.1 HD.out.2.1 HD.out.2.2.1 HD.out.2.2.2); have HB4 := Lib.hid (HB3.out.trans (hkp.below HB3.out.size H3.out H4.out)); clear hkp ha)
              | (go_at_call 15; (with_reducible refine (left_st (k + 1) sb bm t2 p _ I2.out.good HA4.out).mono ?_); rintro e wx4 ⟨rfl, hb⟩; have HA5 := Lib.hid (HA4.out.below hb); have HC5 := Lib.hid (HC4.out.below hb); have HB5 := Lib.hid (HB4.out.trans (hb.mono HB4.out.size)); clear hb)
              | (go_at_call 15; (with_reducible refine (left_st (k + 1) sc cm t2 p _ I2.out.good HC5.out).mono ?_); rintro e wx5 ⟨rfl, hb⟩; have HA6 := Lib.hid (HA5.out.below hb); have HC6 := Lib.hid (HC5.out.below hb); have HB6 := Lib.hid (HB5.out.trans (hb.mono HB5.out.size)); clear hb)
              | (go_at_call 18; (with_reducible refine (claim_st (k + 1) sb bm t2 p (v) _ I2.out.good (by omega) HA6.out).mono ?_); rintro e wx6 ⟨rfl, hkp, ha⟩; have HA7 := Lib.hid (show AccS wx6 sb bm t3 from T4.out ▸ ha); have HC7 := Lib.hid (AccS.other HC6.out hkp HD.out.1.symm HD.out.2.2.1.symm HD.out.2.1.symm HD.out.2.2.2.symm); have HB7 := Lib.hid (HB6.out.trans (hkp.below HB6.out.size H1.out H2.out)); clear hkp ha)
              | (go_at_call 18; (with_reducible refine (claim_st (k + 2) sb bm t3 p (u2) _ I3.out.good (by omega) HA7.out).mono ?_); rintro e wx7 ⟨rfl, hkp, ha⟩; have HA8 := Lib.hid (show AccS wx7 sb bm t4 from T5.out ▸ ha); have HC8 := Lib.hid (AccS.other HC7.out hkp HD.out.1.symm HD.out.2.2.1.symm HD.out.2.1.symm HD.out.2.2.2.symm); have HB8 := Lib.hid (HB7.out.trans (hkp.below HB7.out.size H1.out H2.out)); clear hkp ha)
              | (go_at_call 18; (try rw [E3.out]); (with_reducible refine (claim_st (k + 1) sc cm t2 p (v + u2) _ I2.out.good (by omega) HC8.out).mono ?_); rintro e wx8 ⟨rfl, hkp, ha⟩; have HC9 := Lib.hid (show AccS wx8 sc cm t4 from T6.out ▸ ha); have HA9 := Lib.hid (AccS.other HA8.out hkp HD.out.1 HD.out.2.1 HD.out.2.2.1 HD.out.2.2.2); have HB9 := Lib.hid (HB8.out.trans (hkp.below HB8.out.size H3.out H4.out)); clear hkp ha))
            go_loopw [18] (fun i wr => ∃ (j : Nat), i = .int .i64 (j : Int) ∧ j ≤ 30 ∧ AccS wr sb bm t4 ∧ AccS wr sc cm t4 ∧ Below W0.heap.size W0 wr) (fun i _ => 30 - (intOf i).toNat)
            case atStart => exact ⟨0, rfl, Nat.zero_le _, HA9.out, HC9.out, HB9.out⟩
            case round =>
              obtain ⟨j, rfl, hj, hacc, hcc, hbel⟩ := hrel
              have HA50 := Lib.hid hacc
              have HC50 := Lib.hid hcc
              have HB50 := Lib.hid hbel
              clear hacc hcc hbel
              by_cases hjt : j < 30
              · have hj1 : decide ((j : Int) < 30) = true := by simp; omega
                go_wp2_with (first
                  | (go_at_call 15; (with_reducible refine (left_st (k + 2) sb bm t4 (wrap64 (p + (j : Int))) _ I4.out.good HA50.out).mono ?_); rintro e wx50 ⟨rfl, hb⟩; have HA51 := Lib.hid (HA50.out.below hb); have HC51 := Lib.hid (HC50.out.below hb); have HB51 := Lib.hid (HB50.out.trans (hb.mono HB50.out.size)); clear hb)
                  | (go_at_call 15; (with_reducible refine (left_st (k + 2) sc cm t4 (wrap64 (p + (j : Int))) _ I4.out.good HC51.out).mono ?_); rintro e wx51 ⟨rfl, hb⟩; have HA52 := Lib.hid (HA51.out.below hb); have HC52 := Lib.hid (HC51.out.below hb); have HB52 := Lib.hid (HB51.out.trans (hb.mono HB51.out.size)); clear hb)
                  | (go_at_call 16; (with_reducible refine (gone_st (k + 2) sb bm t4 (wrap64 (p + (j : Int))) _ I4.out.good HA52.out).mono ?_); rintro e wx52 ⟨rfl, hb⟩; have HA53 := Lib.hid (HA52.out.below hb); have HC53 := Lib.hid (HC52.out.below hb); have HB53 := Lib.hid (HB52.out.trans (hb.mono HB52.out.size)); clear hb)
                  | (go_at_call 16; (with_reducible refine (gone_st (k + 2) sc cm t4 (wrap64 (p + (j : Int))) _ I4.out.good HC53.out).mono ?_); rintro e wx53 ⟨rfl, hb⟩; have HA54 := Lib.hid (HA53.out.below hb); have HC54 := Lib.hid (HC53.out.below hb); have HB54 := Lib.hid (HB53.out.trans (hb.mono HB53.out.size)); clear hb))
                exact ⟨⟨j + 1, congrArg _ (by omega), by omega, HA54.out, HC54.out, HB54.out⟩, by simp [intOf]; omega⟩
              · have hj1 : decide ((j : Int) < 30) = false := by simp; omega
                go_wp2_with (go_at_call 10; (with_reducible refine (awake_calls _).mono ?_); rintro e wc ⟨rfl, hb⟩; have HB51 := Lib.hid (HB50.out.trans (hb.mono HB50.out.size)); clear hb)
                go_ret
                exact ⟨rfl, HW0.out.trans (HB51.out.mono HW0.out.size)⟩
          · have k4 := k2 h1 h2
            have g4 : (claimC t2 p v != 0) = false := by rw [h1]; rfl
            have g5 : (claimC t3 p u2 != 0) = true := by simpa using h2
            have g6 : (claimC t2 p (v + u2) == 23) = true := by rw [k4]; rfl
            clear ht3 k1 k2 k3 k4 h1 h2
            go_wp2_with (first
              | (go_at_call 17; (try rw [E1.out]); (with_reducible refine (cred_st k sb bm s p (1000 * v) _ HI.out.good (by omega) HA1.out).mono ?_); rintro e wx1 ⟨rfl, hkp, ha⟩; have HA2 := Lib.hid (show AccS wx1 sb bm t1 from T1.out ▸ ha); have HC2 := Lib.hid (AccS.other HC1.out hkp HD.out.1.symm HD.out.2.2.1.symm HD.out.2.1.symm HD.out.2.2.2.symm); have HB2 := Lib.hid (HB1.out.trans (hkp.below HB1.out.size H1.out H2.out)); clear hkp ha)
              | (go_at_call 17; (try rw [E2.out]); (with_reducible refine (cred_st (k + 1) sb bm t1 p (1000 * u2) _ I1.out.good (by omega) HA2.out).mono ?_); rintro e wx2 ⟨rfl, hkp, ha⟩; have HA3 := Lib.hid (show AccS wx2 sb bm t2 from T2.out ▸ ha); have HC3 := Lib.hid (AccS.other HC2.out hkp HD.out.1.symm HD.out.2.2.1.symm HD.out.2.1.symm HD.out.2.2.2.symm); have HB3 := Lib.hid (HB2.out.trans (hkp.below HB2.out.size H1.out H2.out)); clear hkp ha)
              | (go_at_call 17; (try rw [E3.out, E4.out]); (with_reducible refine (cred_st k sc cm s p (1000 * (v + u2)) _ HI.out.good (by omega) HC3.out).mono ?_); rintro e wx3 ⟨rfl, hkp, ha⟩; have HC4 := Lib.hid (show AccS wx3 sc cm t2 from T3.out ▸ ha); have HA4 := Lib.hid (AccS.other HA3.out hkp HD.out.1 HD.out.2.1 HD.out.2.2.1 HD.out.2.2.2); have HB4 := Lib.hid (HB3.out.trans (hkp.below HB3.out.size H3.out H4.out)); clear hkp ha)
              | (go_at_call 15; (with_reducible refine (left_st (k + 1) sb bm t2 p _ I2.out.good HA4.out).mono ?_); rintro e wx4 ⟨rfl, hb⟩; have HA5 := Lib.hid (HA4.out.below hb); have HC5 := Lib.hid (HC4.out.below hb); have HB5 := Lib.hid (HB4.out.trans (hb.mono HB4.out.size)); clear hb)
              | (go_at_call 15; (with_reducible refine (left_st (k + 1) sc cm t2 p _ I2.out.good HC5.out).mono ?_); rintro e wx5 ⟨rfl, hb⟩; have HA6 := Lib.hid (HA5.out.below hb); have HC6 := Lib.hid (HC5.out.below hb); have HB6 := Lib.hid (HB5.out.trans (hb.mono HB5.out.size)); clear hb)
              | (go_at_call 18; (with_reducible refine (claim_st (k + 1) sb bm t2 p (v) _ I2.out.good (by omega) HA6.out).mono ?_); rintro e wx6 ⟨rfl, hkp, ha⟩; have HA7 := Lib.hid (show AccS wx6 sb bm t3 from T4.out ▸ ha); have HC7 := Lib.hid (AccS.other HC6.out hkp HD.out.1.symm HD.out.2.2.1.symm HD.out.2.1.symm HD.out.2.2.2.symm); have HB7 := Lib.hid (HB6.out.trans (hkp.below HB6.out.size H1.out H2.out)); clear hkp ha)
              | (go_at_call 18; (with_reducible refine (claim_st (k + 2) sb bm t3 p (u2) _ I3.out.good (by omega) HA7.out).mono ?_); rintro e wx7 ⟨rfl, hkp, ha⟩; have HA8 := Lib.hid (show AccS wx7 sb bm (claimT t3 p u2) from ha); have HC8 := Lib.hid (AccS.other HC7.out hkp HD.out.1.symm HD.out.2.2.1.symm HD.out.2.1.symm HD.out.2.2.2.symm); have HB8 := Lib.hid (HB7.out.trans (hkp.below HB7.out.size H1.out H2.out)); clear hkp ha)
              | (go_at_call 18; (try rw [E3.out]); (with_reducible refine (claim_st (k + 1) sc cm t2 p (v + u2) _ I2.out.good (by omega) HC8.out).mono ?_); rintro e wx8 ⟨rfl, hkp, ha⟩; have HC9 := Lib.hid (show AccS wx8 sc cm (claimT t2 p (v + u2)) from ha); have HA9 := Lib.hid (AccS.other HA8.out hkp HD.out.1 HD.out.2.1 HD.out.2.2.1 HD.out.2.2.2); have HB9 := Lib.hid (HB8.out.trans (hkp.below HB8.out.size H3.out H4.out)); clear hkp ha)
              | (go_at_call 10; (with_reducible refine (awake_calls _).mono ?_); rintro e wx9 ⟨rfl, hb⟩; have HB10 := Lib.hid (HB9.out.trans (hb.mono HB9.out.size)); clear hb))
            go_ret
            exact ⟨rfl, HW0.out.trans (HB10.out.mono HW0.out.size)⟩
        · have k4 := k1 h1
          have g4 : (claimC t2 p v != 0) = true := by simpa using h1
          have g6 : (claimC t2 p (v + u2) == 23) = true := by rw [k4]; rfl
          have T4 := Lib.hid (show t2 = claimT t2 p v from (Inv.claim_ne (n := 0) h1).symm)
          clear k1 k2 k3 k4 h1
          go_wp2_with (first
            | (go_at_call 17; (try rw [E1.out]); (with_reducible refine (cred_st k sb bm s p (1000 * v) _ HI.out.good (by omega) HA1.out).mono ?_); rintro e wx1 ⟨rfl, hkp, ha⟩; have HA2 := Lib.hid (show AccS wx1 sb bm t1 from T1.out ▸ ha); have HC2 := Lib.hid (AccS.other HC1.out hkp HD.out.1.symm HD.out.2.2.1.symm HD.out.2.1.symm HD.out.2.2.2.symm); have HB2 := Lib.hid (HB1.out.trans (hkp.below HB1.out.size H1.out H2.out)); clear hkp ha)
            | (go_at_call 17; (try rw [E2.out]); (with_reducible refine (cred_st (k + 1) sb bm t1 p (1000 * u2) _ I1.out.good (by omega) HA2.out).mono ?_); rintro e wx2 ⟨rfl, hkp, ha⟩; have HA3 := Lib.hid (show AccS wx2 sb bm t2 from T2.out ▸ ha); have HC3 := Lib.hid (AccS.other HC2.out hkp HD.out.1.symm HD.out.2.2.1.symm HD.out.2.1.symm HD.out.2.2.2.symm); have HB3 := Lib.hid (HB2.out.trans (hkp.below HB2.out.size H1.out H2.out)); clear hkp ha)
            | (go_at_call 17; (try rw [E3.out, E4.out]); (with_reducible refine (cred_st k sc cm s p (1000 * (v + u2)) _ HI.out.good (by omega) HC3.out).mono ?_); rintro e wx3 ⟨rfl, hkp, ha⟩; have HC4 := Lib.hid (show AccS wx3 sc cm t2 from T3.out ▸ ha); have HA4 := Lib.hid (AccS.other HA3.out hkp HD.out.1 HD.out.2.1 HD.out.2.2.1 HD.out.2.2.2); have HB4 := Lib.hid (HB3.out.trans (hkp.below HB3.out.size H3.out H4.out)); clear hkp ha)
            | (go_at_call 15; (with_reducible refine (left_st (k + 1) sb bm t2 p _ I2.out.good HA4.out).mono ?_); rintro e wx4 ⟨rfl, hb⟩; have HA5 := Lib.hid (HA4.out.below hb); have HC5 := Lib.hid (HC4.out.below hb); have HB5 := Lib.hid (HB4.out.trans (hb.mono HB4.out.size)); clear hb)
            | (go_at_call 15; (with_reducible refine (left_st (k + 1) sc cm t2 p _ I2.out.good HC5.out).mono ?_); rintro e wx5 ⟨rfl, hb⟩; have HA6 := Lib.hid (HA5.out.below hb); have HC6 := Lib.hid (HC5.out.below hb); have HB6 := Lib.hid (HB5.out.trans (hb.mono HB5.out.size)); clear hb)
            | (go_at_call 18; (with_reducible refine (claim_st (k + 1) sb bm t2 p (v) _ I2.out.good (by omega) HA6.out).mono ?_); rintro e wx6 ⟨rfl, hkp, ha⟩; have HA7 := Lib.hid (show AccS wx6 sb bm t2 from T4.out ▸ ha); have HC7 := Lib.hid (AccS.other HC6.out hkp HD.out.1.symm HD.out.2.2.1.symm HD.out.2.1.symm HD.out.2.2.2.symm); have HB7 := Lib.hid (HB6.out.trans (hkp.below HB6.out.size H1.out H2.out)); clear hkp ha)
            | (go_at_call 18; (with_reducible refine (claim_st (k + 1) sb bm t2 p (u2) _ I2.out.good (by omega) HA7.out).mono ?_); rintro e wx7 ⟨rfl, hkp, ha⟩; have HA8 := Lib.hid (show AccS wx7 sb bm (claimT t2 p u2) from ha); have HC8 := Lib.hid (AccS.other HC7.out hkp HD.out.1.symm HD.out.2.2.1.symm HD.out.2.1.symm HD.out.2.2.2.symm); have HB8 := Lib.hid (HB7.out.trans (hkp.below HB7.out.size H1.out H2.out)); clear hkp ha)
            | (go_at_call 18; (try rw [E3.out]); (with_reducible refine (claim_st (k + 1) sc cm t2 p (v + u2) _ I2.out.good (by omega) HC8.out).mono ?_); rintro e wx8 ⟨rfl, hkp, ha⟩; have HC9 := Lib.hid (show AccS wx8 sc cm (claimT t2 p (v + u2)) from ha); have HA9 := Lib.hid (AccS.other HA8.out hkp HD.out.1 HD.out.2.1 HD.out.2.2.1 HD.out.2.2.2); have HB9 := Lib.hid (HB8.out.trans (hkp.below HB8.out.size H3.out H4.out)); clear hkp ha)
            | (go_at_call 10; (with_reducible refine (awake_calls _).mono ?_); rintro e wx9 ⟨rfl, hb⟩; have HB10 := Lib.hid (HB9.out.trans (hb.mono HB9.out.size)); clear hb))
          go_ret
          exact ⟨rfl, HW0.out.trans (HB10.out.mono HW0.out.size)⟩
      · have g1 : (credC s p (1000 * v) != 0) = true := by unfold credC; simpa using hc
        clear hc
        go_wp2_with (first
          | (go_at_call 17; (try rw [E1.out]); (with_reducible refine (cred_st k sb bm s p (1000 * v) _ HI.out.good (by omega) HA1.out).mono ?_); rintro e wx1 ⟨rfl, hkp, ha⟩; have HA2 := Lib.hid (show AccS wx1 sb bm (credS s p (1000 * v)) from ha); have HC2 := Lib.hid (AccS.other HC1.out hkp HD.out.1.symm HD.out.2.2.1.symm HD.out.2.1.symm HD.out.2.2.2.symm); have HB2 := Lib.hid (HB1.out.trans (hkp.below HB1.out.size H1.out H2.out)); clear hkp ha)
          | (go_at_call 10; (with_reducible refine (awake_calls _).mono ?_); rintro e wx2 ⟨rfl, hb⟩; have HB3 := Lib.hid (HB2.out.trans (hb.mono HB2.out.size)); clear hb))
        go_ret
        exact ⟨rfl, HW0.out.trans (HB3.out.mono HW0.out.size)⟩
theorem partsWalk (n0 n1 : Int) (A : Option Addr) (cap : Nat) (zs : List (Bool × Int × Int)) (p v u2 : Int) (w : World) (hz : Steps w A zs) :
    Calls Try.prog 6 #[.agg #[.int .i64 n0, .int .i64 n1], .slice A zs.length cap, .agg #[.int .i64 p, .int .i64 v, .int .i64 u2]] w fun e w' => e = .returned (.bool true) ∧ Below w.heap.size w w' := by
  cases hok : (betw n0 0 1000 && betw n1 1 24)
  · exact parts_bad n0 n1 p v u2 A zs.length cap w hok
  · cases g1 : decide (50 < (zs.length : Int))
    · cases g2 : decide (v < 0)
      · cases g3 : decide (u2 < 0)
        · cases g4 : decide (274877906944 < v)
          · cases g5 : decide (274877906944 < u2)
            · exact parts_good n0 n1 p v u2 A zs cap w hok g1 g2 g3 g4 g5 hz
            · exact parts_guard n0 n1 p v u2 A zs.length cap w hok (.inr (.inr (.inr (.inr ⟨g1, g2, g3, g4, g5⟩))))
          · exact parts_guard n0 n1 p v u2 A zs.length cap w hok (.inr (.inr (.inr (.inl ⟨g1, g2, g3, g4⟩))))
        · exact parts_guard n0 n1 p v u2 A zs.length cap w hok (.inr (.inr (.inl ⟨g1, g2, g3⟩)))
      · exact parts_guard n0 n1 p v u2 A zs.length cap w hok (.inr (.inl ⟨g1, g2⟩))
    · exact parts_guard n0 n1 p v u2 A zs.length cap w hok (.inl g1)
end Go.Proofs.Ytmbelohcebfdcaa.Acc
