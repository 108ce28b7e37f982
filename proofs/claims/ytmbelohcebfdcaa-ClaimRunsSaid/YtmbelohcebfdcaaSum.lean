/- The account's sum: a range over its map in whatever order, with a closure asked at each entry: the sum of the entries that the closure takes. Printed by a program of this session, once for each closure. -/
import Derived.Test.YtmbelohcebfdcaaAcc
set_option linter.unusedVariables false
set_option linter.unusedSimpArgs false
namespace Go.Proofs.Ytmbelohcebfdcaa.Acc
open Go.RowKit Go.Maps
/-- Ascending, no period twice. -/
def Asc (l : List (Int × Int)) : Prop := l.Pairwise (fun a b => a.1 < b.1)
def getV (l : List (Int × Int)) (x : Int) : Option Int := (l.find? (fun q => q.1 == x)).map (·.2)
theorem find_toD (l : List (Int × Int)) (x : Int) : (l.map fun y => ((Lit.int .i64 y.1 : Lit), (DataW.lit (.int .i64 y.2) : DataW Unit))).find? (fun q => q.1.sameKey (.int .i64 x)) = (l.find? (fun q => q.1 == x)).map fun y => (.int .i64 y.1, .lit (.int .i64 y.2)) := by
  induction l with
  | nil => rfl
  | cons a l ih =>
    simp only [List.map_cons, List.find?_cons, Lit.sameKey, true_and]
    by_cases h : a.1 = x
    · simp [h]
    · have h2 : (a.1 == x) = false := by simp [h]
      simp only [h, h2, decide_false]
      exact ih
theorem atKey_toD (l : List (Int × Int)) (x : Int) (z : DataW Unit) : (toD l).atKey (.int .i64 x) z = match getV l x with | some v => .lit (.int .i64 v) | none => z := by
  unfold toD DataW.atKey getV
  simp only [find_toD]
  cases l.find? (fun q => q.1 == x) <;> rfl
theorem getV_of_at {l : List (Int × Int)} {x c : Int} (h : ∀ zd, (toD l).atKey (.int .i64 x) zd = .lit (.int .i64 c)) : getV l x = some c := by
  have h1 := h (.agg [])
  rw [atKey_toD] at h1
  cases hg : getV l x with
  | none => rw [hg] at h1; cases h1
  | some v => rw [hg] at h1; simp at h1; rw [h1]
theorem has_toD (l : List (Int × Int)) (x : Int) : Maps.has (toD l) (.int .i64 x) = (getV l x).isSome := by
  unfold toD getV Maps.has
  induction l with
  | nil => rfl
  | cons a l ih =>
    simp only [List.map_cons, List.any_cons, List.find?_cons, Lit.sameKey, true_and]
    by_cases h : a.1 = x
    · simp [h]
    · have h2 : (a.1 == x) = false := by simp [h]
      simp only [h, h2, decide_false, Bool.false_or]
      exact ih
/-- The sum of the entries that g takes. -/
def sumG (g : Int → Bool) : List (Int × Int) → Int
  | [] => 0
  | a :: l => (if g a.1 = true then a.2 else 0) + sumG g l
/-- .. of those that are no longer to come. -/
def partS (g : Int → Bool) (left : Lit → Bool) : List (Int × Int) → Int
  | [] => 0
  | a :: l => (if left (.int .i64 a.1) = false ∧ g a.1 = true then a.2 else 0) + partS g left l
theorem partS_start (g : Int → Bool) (D : List (Int × Int)) : ∀ l : List (Int × Int), (∀ a ∈ l, (getV D a.1).isSome = true) → partS g (Maps.has (toD D)) l = 0
  | [], _ => rfl
  | a :: l, h => by
    have h1 := h a (by simp)
    simp only [partS, has_toD, h1]
    rw [partS_start g D l (fun b hb => h b (by simp [hb]))]
    simp
theorem mem_getV (l : List (Int × Int)) (a : Int × Int) (h : a ∈ l) : (getV l a.1).isSome = true := by
  unfold getV
  cases hf : l.find? (fun q => q.1 == a.1) with
  | none => have := List.find?_eq_none.1 hf a h; simp at this
  | some b => rfl
theorem partS_end (g : Int → Bool) (left : Lit → Bool) (h : ∀ kl, left kl = false) : ∀ l, partS g left l = sumG g l
  | [] => rfl
  | a :: l => by simp only [partS, sumG, h, true_and, partS_end g left h l]
theorem partS_other (g : Int → Bool) (left : Lit → Bool) (x : Int) : ∀ l : List (Int × Int), (∀ a ∈ l, a.1 ≠ x) → partS g (fun z => left z && !z.sameKey (.int .i64 x)) l = partS g left l
  | [], _ => rfl
  | a :: l, h => by
    have h1 : (Lit.int .i64 a.1).sameKey (.int .i64 x) = false := by simp [Lit.sameKey, h a (by simp)]
    simp only [partS, h1, Bool.not_false, Bool.and_true]
    rw [partS_other g left x l (fun b hb => h b (by simp [hb]))]
theorem partS_step (g : Int → Bool) (left : Lit → Bool) (x c : Int) (hx : left (.int .i64 x) = true) : ∀ l : List (Int × Int), Asc l → getV l x = some c → partS g (fun z => left z && !z.sameKey (.int .i64 x)) l = partS g left l + (if g x = true then c else 0)
  | [], _, h => by cases h
  | a :: l, hA, h => by
    obtain ⟨h1, h2⟩ := List.pairwise_cons.1 hA
    by_cases e : a.1 = x
    · subst e
      have hc : a.2 = c := by simpa [getV] using h
      have h3 : (Lit.int .i64 a.1).sameKey (.int .i64 a.1) = true := by simp [Lit.sameKey]
      simp only [partS, h3, hx, Bool.not_true, Bool.and_false, true_and, reduceCtorEq, false_and, if_false]
      rw [partS_other g left a.1 l (fun b hb => by have := h1 b hb; omega), hc]
      omega
    · have e2 : (a.1 == x) = false := by simp [e]
      have hg : getV l x = some c := by simpa [getV, List.find?_cons, e2] using h
      have h3 : (Lit.int .i64 a.1).sameKey (.int .i64 x) = false := by simp [Lit.sameKey, e]
      simp only [partS, h3, Bool.not_false, Bool.and_true]
      rw [partS_step g left x c hx l h2 hg]
      omega
theorem ranges_drewN {H : Type} {P : Program} {k : TypeId} {R : Value → Option (DataW H × List MemPlace)} {w : World} {b r n : Nat} {D : DataW H} {left : Lit → Bool} {cnt : Nat} (h : w.ranges P k R b r n D left cnt) (m : Nat) : (w.drewN m).ranges P k R b r n D left cnt := by
  have e : (w.drewN m).heap = w.heap := rfl
  unfold World.ranges at h ⊢
  rw [e]
  exact h
theorem grown_drewN {a w : World} {row : Option Nat} (h : a.grownBy w row) (m : Nat) : a.grownBy (w.drewN m) row := ⟨h.os, h.tape, h.output, h.size, h.block⟩
theorem wrap_add (a b : Int) : wrap64 (wrap64 a + b) = wrap64 (a + b) := by unfold wrap64; omega
theorem sum_left (sb bm b1 b2 : Nat) (q f p la cr cl : Int) (l : List (Int × Int)) (w : World) (hA : Acc w sb bm f p la l cr cl) (hl : Asc l) (hq : betw q 0 1000000 = true)
    (hb1 : w.cell? ⟨b1, 0, none⟩ = some (.pointer (some ⟨sb, 0, none⟩))) (hb2 : w.cell? ⟨b2, 0, none⟩ = some (.int .i64 q)) (l1 : b1 < w.heap.size) (l2 : b2 < w.heap.size) :
    Calls Try.prog 24 #[.pointer (some ⟨sb, 0, none⟩), .int .i64 q, .func (.func 25) #[] #[.pointer (some ⟨b1, 0, none⟩), .pointer (some ⟨b2, 0, none⟩)]] w fun e w' => e = .returned (.int .i64 (wrap64 (sumG (fun c => validF p c q) l))) ∧ Below w.heap.size w w' := by
  have h3 := hA.blk.c3
  have hown := hA.map
  have HA := Lib.hid hA
  have HQ := Lib.hid hl
  clear hA hl
  go_enter Try.func24, Try.ntmps24
  go_wp2_with (first
    | (go_at_call 19; refine (between_calls _ _ _ _).mono ?_; rintro e w' ⟨rfl, rfl⟩)
    | (at_range; refine wpList_range_own _ rfl _ 49 rfl 3 3 law Try.underlying49 _ bm l.length (toD l) rfl hown ?_; intro w0 hrg0 hg0 hs0))
  go_frame
  go_loopw [7] (fun v wr => ∃ left cnt, wr.ranges Try.prog 3 (plainElem Try.prog 3) bm w'.heap.size l.length (toD l) left cnt ∧ v = .int .i64 (wrap64 (partS (fun c => validF p c q) left l)) ∧ Below w'.heap.size w' wr) (fun v wr => wr.rangeLeft bm w'.heap.size)
  case atStart =>
    refine ⟨_, _, hrg0, ?_, (Below.refl _ _).grown hg0 (Nat.le_refl _) (by simp)⟩
    rw [partS_start _ _ l (fun a ha => mem_getV l a ha)]
    exact congrArg _ (by unfold wrap64; omega)
  case round =>
    obtain ⟨left, cnt, hrg, rfl, hB⟩ := hrel
    have HB := Lib.hid hB
    clear hB
    have hsr := Nat.le_of_lt hrg.lt
    go_wp2_with (first
      | (at_next; refine wpList_next_ranges_ii _ rfl _ rfl 3 3 .i64 .i64 law Try.underlying3 Try.underlying3 bm w'.heap.size l.length _ _ _ rfl hrg (fun hc0 hl0 => ?_) (fun x c w1 cnt1 hwx hwc hlx hat hrg1 hlt hg1 hs1 hen => ?_))
      | (go_at_call 25; refine (left1_calls _ q p b1 b2 sb _ ?_ ?_ ?_).mono ?_; exact (Below.cell (HB.out.grown hg1 hsr (fun j hj => by cases hj; exact Nat.le_refl _)) l1).trans hb1; exact (Below.cell (HB.out.grown hg1 hsr (fun j hj => by cases hj; exact Nat.le_refl _)) l2).trans hb2; exact (Below.cell (HB.out.grown hg1 hsr (fun j hj => by cases hj; exact Nat.le_refl _)) HA.out.lt.1).trans HA.out.blk.c1; rintro e w2 ⟨rfl, rfl⟩))
    · go_ret
      exact ⟨congrArg (fun z => Ending.returned (Value.int .i64 (wrap64 z))) (partS_end _ left hl0 l), HB.out⟩
    skip
    all_goals refine ⟨⟨_, _, hrg1, ?_, HB.out.grown hg1 hsr (fun j hj => by cases hj; exact Nat.le_refl _)⟩, ?_⟩
    all_goals first | (exact Nat.lt_of_le_of_lt (Nat.le_of_eq (World.ranges.left_eq hrg1)) (by rw [World.ranges.left_eq hrg]; exact hlt)) | skip
    all_goals rename_i hv
    all_goals rw [partS_step _ left x c hlx l HQ.out (getV_of_at hat)]
    · rw [if_pos hv, wrap_add]
    · rw [if_neg (by rw [hv]; simp), Int.add_zero]
theorem sum_gone (sb bm b1 b2 : Nat) (q f p la cr cl : Int) (l : List (Int × Int)) (w : World) (hA : Acc w sb bm f p la l cr cl) (hl : Asc l) (hq : betw q 0 1000000 = true)
    (hb1 : w.cell? ⟨b1, 0, none⟩ = some (.pointer (some ⟨sb, 0, none⟩))) (hb2 : w.cell? ⟨b2, 0, none⟩ = some (.int .i64 q)) (l1 : b1 < w.heap.size) (l2 : b2 < w.heap.size) :
    Calls Try.prog 24 #[.pointer (some ⟨sb, 0, none⟩), .int .i64 q, .func (.func 27) #[] #[.pointer (some ⟨b2, 0, none⟩), .pointer (some ⟨b1, 0, none⟩)]] w fun e w' => e = .returned (.int .i64 (wrap64 (sumG (fun c => goneF p c q) l))) ∧ Below w.heap.size w w' := by
  have h3 := hA.blk.c3
  have hown := hA.map
  have HA := Lib.hid hA
  have HQ := Lib.hid hl
  clear hA hl
  go_enter Try.func24, Try.ntmps24
  go_wp2_with (first
    | (go_at_call 19; refine (between_calls _ _ _ _).mono ?_; rintro e w' ⟨rfl, rfl⟩)
    | (at_range; refine wpList_range_own _ rfl _ 49 rfl 3 3 law Try.underlying49 _ bm l.length (toD l) rfl hown ?_; intro w0 hrg0 hg0 hs0))
  go_frame
  go_loopw [7] (fun v wr => ∃ left cnt, wr.ranges Try.prog 3 (plainElem Try.prog 3) bm w'.heap.size l.length (toD l) left cnt ∧ v = .int .i64 (wrap64 (partS (fun c => goneF p c q) left l)) ∧ Below w'.heap.size w' wr) (fun v wr => wr.rangeLeft bm w'.heap.size)
  case atStart =>
    refine ⟨_, _, hrg0, ?_, (Below.refl _ _).grown hg0 (Nat.le_refl _) (by simp)⟩
    rw [partS_start _ _ l (fun a ha => mem_getV l a ha)]
    exact congrArg _ (by unfold wrap64; omega)
  case round =>
    obtain ⟨left, cnt, hrg, rfl, hB⟩ := hrel
    have HB := Lib.hid hB
    clear hB
    have hsr := Nat.le_of_lt hrg.lt
    go_wp2_with (first
      | (at_next; refine wpList_next_ranges_ii _ rfl _ rfl 3 3 .i64 .i64 law Try.underlying3 Try.underlying3 bm w'.heap.size l.length _ _ _ rfl hrg (fun hc0 hl0 => ?_) (fun x c w1 cnt1 hwx hwc hlx hat hrg1 hlt hg1 hs1 hen => ?_))
      | (go_at_call 27; refine (gone1_calls _ q p b1 b2 sb _ ?_ ?_ ?_).mono ?_; exact (Below.cell (HB.out.grown hg1 hsr (fun j hj => by cases hj; exact Nat.le_refl _)) l1).trans hb1; exact (Below.cell (HB.out.grown hg1 hsr (fun j hj => by cases hj; exact Nat.le_refl _)) l2).trans hb2; exact (Below.cell (HB.out.grown hg1 hsr (fun j hj => by cases hj; exact Nat.le_refl _)) HA.out.lt.1).trans HA.out.blk.c1; rintro e w2 ⟨k2, rfl, rfl⟩))
    · go_ret
      exact ⟨congrArg (fun z => Ending.returned (Value.int .i64 (wrap64 z))) (partS_end _ left hl0 l), HB.out⟩
    all_goals (replace hrg1 := ranges_drewN hrg1 k2; replace hg1 := grown_drewN hg1 k2)
    all_goals refine ⟨⟨_, _, hrg1, ?_, HB.out.grown hg1 hsr (fun j hj => by cases hj; exact Nat.le_refl _)⟩, ?_⟩
    all_goals first | (exact Nat.lt_of_le_of_lt (Nat.le_of_eq (World.ranges.left_eq hrg1)) (by rw [World.ranges.left_eq hrg]; exact hlt)) | skip
    all_goals rename_i hv
    all_goals rw [partS_step _ left x c hlx l HQ.out (getV_of_at hat)]
    · rw [if_pos hv, wrap_add]
    · rw [if_neg (by rw [hv]; simp), Int.add_zero]
theorem cell_new1 (w : World) (v : Value) (t : TypeId) : (w.alloc (.cells #[v] t)).cell? ⟨w.heap.size, 0, none⟩ = some v := by
  simp only [World.cell?, (MapKept.heap_alloc w _).1]
  rfl
theorem cell_new2 (w : World) (o : Obj) (v : Value) (t : TypeId) : ((w.alloc o).alloc (.cells #[v] t)).cell? ⟨w.heap.size + 1, 0, none⟩ = some v := by
  have e : (w.alloc o).heap.size = w.heap.size + 1 := by simp
  rw [← e]
  exact cell_new1 _ _ _
theorem sum_nil (q : Int) (fv : Value) (w : World) : Calls Try.prog 24 #[.pointer none, .int .i64 q, fv] w fun e w' => e = .returned (.int .i64 0) ∧ w' = w := by
  go_enter Try.func24, Try.ntmps24
  go_wp2
  go_ret
  exact ⟨rfl, rfl⟩
theorem sum_out (sb : Nat) (q : Int) (fv : Value) (hq : betw q 0 1000000 = false) (w : World) : Calls Try.prog 24 #[.pointer (some ⟨sb, 0, none⟩), .int .i64 q, fv] w fun e w' => e = .returned (.int .i64 0) ∧ w' = w := by
  go_enter Try.func24, Try.ntmps24
  go_wp2_with (go_at_call 19; refine (between_calls _ _ _ _).mono ?_; rintro e w' ⟨rfl, rfl⟩)
  go_ret
  exact ⟨rfl, rfl⟩
def leftF (p q : Int) (l : List (Int × Int)) : Int := if betw q 0 1000000 = true then wrap64 (sumG (fun c => validF p c q) l) else 0
def goneS (p q : Int) (l : List (Int × Int)) : Int := if betw q 0 1000000 = true then wrap64 (sumG (fun c => goneF p c q) l) else 0
theorem left_calls (sb bm : Nat) (q f p la cr cl : Int) (l : List (Int × Int)) (w : World) (hA : Acc w sb bm f p la l cr cl) (hl : Asc l) :
    Calls Try.prog 15 #[.pointer (some ⟨sb, 0, none⟩), .int .i64 q] w fun e w' => e = .returned (.int .i64 (leftF p q l)) ∧ Below w.heap.size w w' := by
  have HB := Lib.hid (((Below.refl w.heap.size w).alloc (Nat.le_refl _) (.cells #[.pointer (some ⟨sb, 0, none⟩)] 24)).alloc (by simp) (.cells #[.int .i64 q] 3))
  have HA := Lib.hid hA
  have HQ := Lib.hid hl
  clear hA hl
  have hlt := HA.out.lt
  unfold leftF
  cases hq : betw q 0 1000000
  · go_enter Try.func15, Try.ntmps15
    go_wp2_with (go_at_call 24; refine (sum_out _ _ _ hq _).mono ?_; rintro e w' ⟨rfl, rfl⟩)
    go_ret
    exact ⟨rfl, HB.out⟩
  · go_enter Try.func15, Try.ntmps15
    go_wp2_with (go_at_call 24; refine (sum_left sb bm w.heap.size (w.heap.size + 1) q f p la cr cl l _ (HA.out.below HB.out (Nat.le_refl _)) HQ.out hq ?_ ?_ ?_ ?_).mono ?_)
    · exact (World.cell?_alloc_lt _ _ _ (by simp)).trans (cell_new1 _ _ _)
    · exact cell_new2 _ _ _ _
    · rw [World.size_alloc, World.size_alloc]; omega
    · rw [World.size_alloc, World.size_alloc]; omega
    · rintro e w2 ⟨rfl, hb⟩
      have HB2 := Lib.hid (HB.out.trans (hb.mono (by rw [World.size_alloc, World.size_alloc]; omega)))
      clear hb
      go_wp2
      go_ret
      exact ⟨rfl, HB2.out⟩
theorem gone_calls (sb bm : Nat) (q f p la cr cl : Int) (l : List (Int × Int)) (w : World) (hA : Acc w sb bm f p la l cr cl) (hl : Asc l) :
    Calls Try.prog 16 #[.pointer (some ⟨sb, 0, none⟩), .int .i64 q] w fun e w' => e = .returned (.int .i64 (goneS p q l)) ∧ Below w.heap.size w w' := by
  have HB := Lib.hid (((Below.refl w.heap.size w).alloc (Nat.le_refl _) (.cells #[.pointer (some ⟨sb, 0, none⟩)] 24)).alloc (by simp) (.cells #[.int .i64 q] 3))
  have HA := Lib.hid hA
  have HQ := Lib.hid hl
  clear hA hl
  have hlt := HA.out.lt
  unfold goneS
  cases hq : betw q 0 1000000
  · go_enter Try.func16, Try.ntmps16
    go_wp2_with (go_at_call 24; refine (sum_out _ _ _ hq _).mono ?_; rintro e w' ⟨rfl, rfl⟩)
    go_ret
    exact ⟨rfl, HB.out⟩
  · go_enter Try.func16, Try.ntmps16
    go_wp2_with (go_at_call 24; refine (sum_gone sb bm w.heap.size (w.heap.size + 1) q f p la cr cl l _ (HA.out.below HB.out (Nat.le_refl _)) HQ.out hq ?_ ?_ ?_ ?_).mono ?_)
    · exact (World.cell?_alloc_lt _ _ _ (by simp)).trans (cell_new1 _ _ _)
    · exact cell_new2 _ _ _ _
    · rw [World.size_alloc, World.size_alloc]; omega
    · rw [World.size_alloc, World.size_alloc]; omega
    · rintro e w2 ⟨rfl, hb⟩
      have HB2 := Lib.hid (HB.out.trans (hb.mono (by rw [World.size_alloc, World.size_alloc]; omega)))
      clear hb
      go_wp2
      go_ret
      exact ⟨rfl, HB2.out⟩
theorem left_nil (q : Int) (w : World) : Calls Try.prog 15 #[.pointer none, .int .i64 q] w fun e w' => e = .returned (.int .i64 0) ∧ Below w.heap.size w w' := by
  have HB := Lib.hid (((Below.refl w.heap.size w).alloc (Nat.le_refl _) (.cells #[.pointer none] 24)).alloc (by simp) (.cells #[.int .i64 q] 3))
  go_enter Try.func15, Try.ntmps15
  go_wp2_with (go_at_call 24; refine (sum_nil _ _ _).mono ?_; rintro e w' ⟨rfl, rfl⟩)
  go_ret
  exact ⟨rfl, HB.out⟩
theorem gone_nil (q : Int) (w : World) : Calls Try.prog 16 #[.pointer none, .int .i64 q] w fun e w' => e = .returned (.int .i64 0) ∧ Below w.heap.size w w' := by
  have HB := Lib.hid (((Below.refl w.heap.size w).alloc (Nat.le_refl _) (.cells #[.pointer none] 24)).alloc (by simp) (.cells #[.int .i64 q] 3))
  go_enter Try.func16, Try.ntmps16
  go_wp2_with (go_at_call 24; refine (sum_nil _ _ _).mono ?_; rintro e w' ⟨rfl, rfl⟩)
  go_ret
  exact ⟨rfl, HB.out⟩
end Go.Proofs.Ytmbelohcebfdcaa.Acc
