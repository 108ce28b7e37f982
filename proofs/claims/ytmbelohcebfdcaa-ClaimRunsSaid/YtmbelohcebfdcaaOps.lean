/- The account's Credit and Claim: what they do to its two blocks. -/
import Derived.Test.YtmbelohcebfdcaaSum
set_option linter.unusedVariables false
set_option linter.unusedSimpArgs false
namespace Go.Proofs.Ytmbelohcebfdcaa.Acc
open Go.RowKit Go.Maps
def putL : List (Int × Int) → Int → Int → List (Int × Int)
  | [], x, v => [(x, v)]
  | a :: l, x, v => if x < a.1 then (x, v) :: a :: l else if x = a.1 then (x, v) :: l else a :: putL l x v
def delL (l : List (Int × Int)) (x : Int) : List (Int × Int) := l.filter fun a => !(a.1 == x)
theorem del_toD (l : List (Int × Int)) (x : Int) : (toD l).del (.int .i64 x) = toD (delL l x) := by
  unfold toD DataW.del delL
  simp only [List.filter_map]
  congr 2
  apply List.filter_congr
  intro a _
  simp only [Function.comp_apply, Lit.sameKey, true_and]
  by_cases h : a.1 = x <;> simp [h]
theorem filter_none (l : List (Int × Int)) (x : Int) (h : ∀ a ∈ l, a.1 ≠ x) : (l.map fun y => ((Lit.int .i64 y.1 : Lit), (DataW.lit (.int .i64 y.2) : DataW Unit))).filter (fun p => !p.1.sameKey (.int .i64 x)) = l.map fun y => (.int .i64 y.1, .lit (.int .i64 y.2)) := by
  rw [List.filter_eq_self]
  intro p hp
  obtain ⟨a, ha, rfl⟩ := List.mem_map.1 hp
  simp [Lit.sameKey, h a ha]
theorem insert_front (l : List (Int × Int)) (x v : Int) (h : ∀ a ∈ l, x < a.1) : DataW.insert (.int .i64 x, (.lit (.int .i64 v) : DataW Unit)) (l.map fun y => (.int .i64 y.1, .lit (.int .i64 y.2))) = (.int .i64 x, .lit (.int .i64 v)) :: (l.map fun y => (.int .i64 y.1, .lit (.int .i64 y.2))) := by
  cases l with
  | nil => rfl
  | cons a l =>
    have := h a (by simp)
    simp [DataW.insert, Lit.before, this]
theorem put_toD (x v : Int) : ∀ (l : List (Int × Int)), Asc l → (toD l).put (.int .i64 x) (.lit (.int .i64 v)) = toD (putL l x v)
  | [], _ => rfl
  | a :: l, hA => by
    obtain ⟨h1, h2⟩ := List.pairwise_cons.1 hA
    have ih := put_toD x v l h2
    unfold toD DataW.put at ih ⊢
    simp only [DataW.map.injEq] at ih ⊢
    unfold putL
    by_cases c1 : x < a.1
    · rw [if_pos c1, filter_none (a :: l) x (by
        intro b hb
        rcases List.mem_cons.1 hb with rfl | hb
        · omega
        · have := h1 b hb; omega)]
      exact insert_front (a :: l) x v (by
        intro b hb
        rcases List.mem_cons.1 hb with rfl | hb
        · omega
        · have := h1 b hb; omega)
    · rw [if_neg c1]
      by_cases c2 : x = a.1
      · rw [if_pos c2]
        subst c2
        have e : (Lit.int .i64 a.1).sameKey (.int .i64 a.1) = true := by simp [Lit.sameKey]
        simp only [List.map_cons, List.filter_cons, e, Bool.not_true, Bool.false_eq_true, if_false]
        rw [filter_none l a.1 (fun b hb => by have := h1 b hb; omega)]
        exact insert_front l a.1 v h1
      · rw [if_neg c2]
        have e : (Lit.int .i64 a.1).sameKey (.int .i64 x) = false := by simp [Lit.sameKey]; omega
        simp only [List.map_cons, List.filter_cons, e, Bool.not_false, if_true]
        have e2 : (Lit.int .i64 x).before (.int .i64 a.1) = false := by simp [Lit.before]; omega
        rw [DataW.insert]
        simp only [e2, Bool.false_eq_true, if_false, ih]
theorem putL_length (x v : Int) : ∀ l, (putL l x v).length ≤ l.length + 1
  | [] => by simp [putL]
  | a :: l => by
    unfold putL
    split
    · simp
    · split
      · simp
      · have := putL_length x v l; simp; omega
def creditN (f v : Int) : Int := wrap64 ((wrap64 (v * f)).tdiv 1000)
theorem Blk.set2 {w : World} {sb bm : Nat} {f p la cr cl : Int} (h : Blk w sb bm f p la cr cl) (x : Int) : Blk (w.setCell ⟨sb, 2, none⟩ (.int .i64 x)) sb bm f p x cr cl := by
  unfold Blk at h ⊢
  simp [World.setCell, Array.getElem?_modify, h]
theorem Blk.set4 {w : World} {sb bm : Nat} {f p la cr cl : Int} (h : Blk w sb bm f p la cr cl) (x : Int) : Blk (w.setCell ⟨sb, 4, none⟩ (.int .i64 x)) sb bm f p la x cl := by
  unfold Blk at h ⊢
  simp [World.setCell, Array.getElem?_modify, h]
theorem Blk.set5 {w : World} {sb bm : Nat} {f p la cr cl : Int} (h : Blk w sb bm f p la cr cl) (x : Int) : Blk (w.setCell ⟨sb, 5, none⟩ (.int .i64 x)) sb bm f p la cr x := by
  unfold Blk at h ⊢
  simp [World.setCell, Array.getElem?_modify, h]
theorem getD_of_at {l : List (Int × Int)} {q c : Int} (h : (toD l).atKey (.int .i64 q) (.lit (.int .i64 0)) = .lit (.int .i64 c)) : c = (getV l q).getD 0 := by
  rw [atKey_toD] at h
  cases hg : getV l q with
  | none => rw [hg] at h; simp at h; simp [← h]
  | some v => rw [hg] at h; simp at h; simp [← h]
theorem owns_toD {w : World} {b n : Nat} {D : DataW Unit} {l : List (Int × Int)} (h : w.ownsMap Try.prog 3 (plainElem Try.prog 3) b n D) (e : D = toD l) : w.ownsMap Try.prog 3 (plainElem Try.prog 3) b l.length (toD l) := by
  subst e
  have := owns_fit h
  rwa [size_toD] at this
theorem credit_bad (sb : Nat) (q v la : Int) (w : World) (c2 : w.cell? ⟨sb, 2, none⟩ = some (.int .i64 la)) (hr : refusedF la q v ≠ 0) :
    Calls Try.prog 17 #[.pointer (some ⟨sb, 0, none⟩), .int .i64 q, .int .i64 v] w fun e w' => e = .returned (.int .i64 (refusedF la q v)) ∧ w' = w := by
  have hb : (refusedF la q v != 0) = true := by simpa using hr
  clear hr
  go_enter Try.func17, Try.ntmps17
  go_wp2_with (go_at_call 28; refine (refused_calls _ _ _ la _ ?_).mono ?_; assumption; rintro e w' ⟨rfl, rfl⟩)
  go_ret
  exact ⟨rfl, rfl⟩
theorem credit_nil (q v : Int) (w : World) :
    Calls Try.prog 17 #[.pointer none, .int .i64 q, .int .i64 v] w fun e w' => e = .returned (.int .i64 1) ∧ w' = w := by
  go_enter Try.func17, Try.ntmps17
  go_wp2_with (go_at_call 28; refine (refused_nil _ _ _).mono ?_; rintro e w' ⟨rfl, rfl⟩)
  go_ret
  exact ⟨rfl, rfl⟩
theorem credit_zero (sb bm : Nat) (q v f p la cr cl : Int) (l : List (Int × Int)) (w : World) (hA : Acc w sb bm f p la l cr cl) (hr : refusedF la q v = 0) (hc : ¬ 0 < creditN f v) :
    Calls Try.prog 17 #[.pointer (some ⟨sb, 0, none⟩), .int .i64 q, .int .i64 v] w fun e w' => e = .returned (.int .i64 0) ∧ Kept2 sb bm w w' ∧ Acc w' sb bm f p q l cr cl := by
  have c0 := hA.blk.c0
  have c2 := hA.blk.c2
  have f2 := hA.blk.fr 2
  have HA := Lib.hid hA
  have hc2 : decide (0 < creditN f v) = false := by simpa using hc
  unfold creditN at hc2
  clear hA hc
  go_enter Try.func17, Try.ntmps17
  go_wp2_with (go_at_call 28; refine (refused_calls _ _ _ la _ ?_).mono ?_; assumption; rintro e w' ⟨rfl, rfl⟩; rw [hr])
  go_ret
  exact ⟨rfl, (Kept2.refl _ _ _).setCell _ _, HA.out.blk.set2 _, HA.out.map.setCell (Ne.symm HA.out.ne) _, HA.out.ne⟩
theorem credit_pos (sb bm : Nat) (q v f p la cr cl : Int) (l : List (Int × Int)) (w : World) (hA : Acc w sb bm f p la l cr cl) (hl : Asc l) (hn : l.length < 1000) (hq : I64 q) (hr : refusedF la q v = 0) (hc : 0 < creditN f v) :
    Calls Try.prog 17 #[.pointer (some ⟨sb, 0, none⟩), .int .i64 q, .int .i64 v] w fun e w' => e = .returned (.int .i64 0) ∧ Kept2 sb bm w w' ∧ Acc w' sb bm f p q (putL l q (wrap64 ((getV l q).getD 0 + creditN f v))) (wrap64 (cr + creditN f v)) cl := by
  have c0 := hA.blk.c0
  have c2 := hA.blk.c2
  have c3 := hA.blk.c3
  have c4 := hA.blk.c4
  have f2 := hA.blk.fr 2
  have f4 := hA.blk.fr 4
  have hown := hA.map
  have HA := Lib.hid hA
  have HQ := Lib.hid hl
  have hc2 : decide (0 < creditN f v) = true := by simpa using hc
  unfold creditN at hc2
  have hkey : keyOf Try.prog 3 (.int .i64 q) = some (.int .i64 q) := keyOf_int_mk Try.underlying3 (by unfold I64 at hq; simp [Lit.wf, IntKind.min, IntKind.max, IntKind.signed, IntKind.bits]; omega)
  clear hA hl hc
  go_enter Try.func17, Try.ntmps17
  go_wp2_with (first
    | (go_at_call 28; refine (refused_calls _ _ _ la _ ?_).mono ?_; assumption; rintro e w' ⟨rfl, rfl⟩; rw [hr])
    | (at_lookup; refine wpList_lookup_own_int _ rfl _ _ 49 rfl 3 3 .i64 law Try.underlying49 Try.underlying3 (zeroI _) bm l.length _ rfl hown _ _ rfl hkey ?_; intro c hat hwc)
    | (at_mapUpdate; refine wpList_mapUpdate_own _ rfl _ _ _ 49 rfl 3 3 law Try.underlying49 _ bm l.length _ rfl hown (by unfold maxLen; omega) _ _ _ rfl rfl hkey _ [] (plainElem_int Try.underlying3 (wrap64_wf _)) ?_; intro w1 hown1 hgrow1; have hB1 := HA.out.blk.of (hgrow1.block sb HA.out.lt.1 (fun e => HA.out.ne (Option.some.inj e))); have d2 := hB1.c2; have d4 := hB1.c4; have g2 := hB1.fr 2; have g4 := hB1.fr 4; have HB1 := Lib.hid hB1; have HG1 := Lib.hid hgrow1; have HO1 := Lib.hid hown1; clear hB1 hgrow1 hown1 c0 c2 c3 c4 f2 f4 hown))
  go_ret
  refine ⟨rfl, (((Kept2.refl sb bm w').grown HG1.out (fun k hk => by cases hk; exact Or.inl rfl)).setCell _ _).setCell _ _, (HB1.out.set4 _).set2 _, ?_, HA.out.ne⟩
  have e := getD_of_at hat
  subst e
  exact ((owns_toD HO1.out (put_toD _ _ l HQ.out)).setCell (Ne.symm HA.out.ne) _).setCell (Ne.symm HA.out.ne) _
end Go.Proofs.Ytmbelohcebfdcaa.Acc
