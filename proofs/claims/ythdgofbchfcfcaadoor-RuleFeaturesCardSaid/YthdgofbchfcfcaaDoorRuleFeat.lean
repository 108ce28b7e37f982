/- The statement about features that are not used, as a printed function: it answers true. No condition. -/
import Derived.Test.YthdgofbchfcfcaaDoorRuleEvs
import Derived.Test.YthdgofbchfcfcaaDoorRuleUse
import Derived.Test.YthdgofbchfcfcaaDoorPRux20
set_option linter.unusedVariables false
set_option linter.unusedSimpArgs false
namespace Go.Proofs.YthdgofbchfcfcaaDoor.PRu
open Go.RowKit Go.Proofs.YthdgofbchfcfcaaDoorW.PrintWords Go.Proofs.YthdgofbchfcfcaaDoorW.PrintLast Go.Proofs.YthdgofbchfcfcaaDoorW.PrintMore
theorem firstE_congr {g g' : S24 → Int} : ∀ {l : List S24}, (∀ a ∈ l, g a = g' a) → firstE g l = firstE g' l
  | [], _ => rfl
  | a :: l, h => by
    unfold firstE
    rw [h a List.mem_cons_self, firstE_congr fun b hb => h b (List.mem_cons_of_mem _ hb)]
theorem vis_congr {has has' : ByteArray → Bool} : ∀ (n : Nat) (e : S24), (∀ s ∈ usesN n e, has s = has' s) → visitN has n e = visitN has' n e
  | 0, e, _ => rfl
  | n + 1, e, h => by
    have h1 : firstE (visitN has n) e.f3 = firstE (visitN has' n) e.f3 := firstE_congr fun a ha => vis_congr n a fun s hs => h s (by
      simp only [usesN, List.mem_append, List.mem_flatMap]
      exact .inr ⟨a, ha, hs⟩)
    have h2 : ownE has e.f0 e.f1 e.f2 e.f3 = ownE has' e.f0 e.f1 e.f2 e.f3 := by
      unfold ownE
      by_cases h2 : e.f0 = 2
      · rw [h e.f2 (by simp [usesN, h2])]
      · simp only [h2, false_and]
    unfold visitN
    rw [h1, h2]
theorem vis_has {has : ByteArray → Bool} : ∀ (n : Nat) (e : S24), visitN has n e = 0 → ∀ s ∈ usesN n e, has s = true
  | 0, e, h, s, hs => by simp [usesN] at hs
  | n + 1, e, h, s, hs => by
    obtain ⟨h1, h2⟩ := visit_parts h
    have hall := firstE_all h1
    simp only [usesN, List.mem_append, List.mem_flatMap] at hs
    rcases hs with hs | ⟨a, ha, hs⟩
    · by_cases h0 : e.f0 = 2
      · rw [if_pos h0, List.mem_singleton] at hs
        subst hs
        obtain ⟨op, m, t, ar⟩ := e
        have h0 : op = 2 := h0
        subst h0
        show has t = true
        have h2 : ownE has 2 m t ar = 0 := h2
        rcases own_cases h2 with ⟨h, _⟩ | ⟨_, _, _, hh⟩ | ⟨h, _⟩ | ⟨h, _⟩
        · exact absurd h (by decide)
        · exact hh
        · exact absurd h (by decide)
        · exact absurd h (by decide)
      · rw [if_neg h0] at hs; simp at hs
    · exact vis_has n a (hall a ha) s hs
theorem vn_congr {l l' : List S40} : ∀ (n : Nat) (e : S24), visitN (hasF l) n e = 0 → (∀ s ∈ usesN n e, getP l s = getP l' s) → VN l n e = VN l' n e
  | 0, e, _, _ => rfl
  | n + 1, e, h, hg => by
    obtain ⟨h1, h2⟩ := visit_parts h
    have hall := firstE_all h1
    obtain ⟨op, m, s, ar⟩ := e
    have hall : ∀ a ∈ ar, visitN (hasF l) n a = 0 := hall
    have h2 : ownE (hasF l) op m s ar = 0 := h2
    have hu : ∀ a ∈ ar, VN l n a = VN l' n a := fun a ha => vn_congr n a (hall a ha) fun s hs => hg s (by
      simp only [usesN, List.mem_append, List.mem_flatMap]
      exact .inr ⟨a, ha, hs⟩)
    rcases own_cases h2 with ⟨rfl, rfl, hs, hg1⟩ | ⟨rfl, rfl, rfl, hh⟩ | ⟨rfl, rfl, hs, a, rfl, hca⟩ | ⟨hop2, rfl, hs, a, b, rfl, hca, hcb⟩
    · rfl
    · show numV (getR l s).1 = numV (getR l' s).1
      unfold getR
      rw [hg s (by simp [usesN])]
    · show ((VN l n a).bind fun x => some (1 - x)) = ((VN l' n a).bind fun x => some (1 - x))
      rw [hu a (by simp)]
    · have hV : ∀ l : List S40, VN l (n + 1) ⟨op, 0, s, [a, b]⟩ = (VN l n a).bind fun x => if shortB op x = true then some x else (VN l n b).bind fun y => opV op x y := by
        intro l
        rw [VN]
        rw [if_neg (show ¬ op = 1 by omega), if_neg (show ¬ op = 2 by omega)]
      rw [hV, hV, hu a (by simp), hu b (by simp)]
def usedB (u : List ByteArray) (s : ByteArray) : Bool := u.any fun y => y.toList == s.toList
def someL (u : List ByteArray) (l : List S40) : List S40 := l.filter fun y => usedB u y.f0
def otherL (u : List ByteArray) (n : Int) (l : List S40) : List S40 := l.map fun y => if usedB u y.f0 = true then y else ⟨y.f0, n⟩
theorem used_eq {u : List ByteArray} {s t : ByteArray} (h : s.toList = t.toList) : usedB u s = usedB u t := by unfold usedB; rw [h]
theorem get_cons (y : S40) (l : List S40) (s : ByteArray) : getP (y :: l) s = if (y.f0.toList == s.toList) = true then some y else getP l s := by
  unfold getP
  rw [List.find?_cons]
  cases (y.f0.toList == s.toList) <;> rfl
theorem get_some {u : List ByteArray} {s : ByteArray} (hu : usedB u s = true) : ∀ l : List S40, getP (someL u l) s = getP l s
  | [] => rfl
  | y :: l => by
    have ih := get_some hu l
    by_cases hy : (y.f0.toList == s.toList) = true
    · have hk : usedB u y.f0 = true := (used_eq (eq_of_beq hy)).trans hu
      have : someL u (y :: l) = y :: someL u l := by unfold someL; rw [List.filter_cons, if_pos hk]
      rw [this, get_cons, get_cons, if_pos hy, if_pos hy]
    · rw [get_cons, if_neg hy, ← ih]
      unfold someL
      rw [List.filter_cons]
      split
      · rw [get_cons, if_neg hy]
      · rfl
theorem get_other {u : List ByteArray} {s : ByteArray} (hu : usedB u s = true) (n : Int) (x : S40) : ∀ l : List S40, hasF l s = true → getP (otherL u n l ++ [x]) s = getP l s
  | [], h => by simp [hasF, getP] at h
  | y :: l, h => by
    have hc : otherL u n (y :: l) ++ [x] = (if usedB u y.f0 = true then y else ⟨y.f0, n⟩) :: (otherL u n l ++ [x]) := rfl
    by_cases hy : (y.f0.toList == s.toList) = true
    · have hk : usedB u y.f0 = true := (used_eq (eq_of_beq hy)).trans hu
      rw [hc, if_pos hk, get_cons, get_cons, if_pos hy, if_pos hy]
    · have ih := get_other hu n x l (by
        unfold hasF at h ⊢
        rw [get_cons, if_neg hy] at h
        exact h)
      rw [hc, get_cons, get_cons, if_neg hy, ih]
      by_cases hk : usedB u y.f0 = true
      · rw [if_pos hk, if_neg hy]
      · rw [if_neg hk]
        exact if_neg hy
/-- What Eval gives with other features, the used ones alike. -/
theorem evR_same {l l' : List S40} {e : S24} (h : visitN (hasF l) 8 e = 0) (hg : ∀ s ∈ usesN 8 e, getP l' s = getP l s) : evR l' e = evR l e := by
  have hv : visitN (hasF l') 8 e = visitN (hasF l) 8 e := vis_congr 8 e fun s hs => by unfold hasF; rw [hg s hs]
  have hn : VN l 8 e = VN l' 8 e := vn_congr 8 e h fun s hs => (hg s hs).symm
  unfold evR
  rw [hv, hn]
theorem used_of {e : S24} {s : ByteArray} (h : s ∈ usesN 8 e) : usedB (usesF e) s = true := by
  unfold usedB
  rw [List.any_eq_true]
  exact ⟨s, (usesF_mem e s).2 h, by simp⟩
def ftEnd (k : Nat) (n : Int) (sm ot : List S40) (op m : Int) (s : ByteArray) (ar : List S24) (xs : ByteArray) (xn : Int) : Option Bool := ((rule_Eval.f k op m s ar sm).bind fun bt440 => (if ot.length < 5864062014805 then ((rule_Eval.f k op m s ar (ot ++ [(⟨xs, xn⟩ : S40)])).bind fun bt445 => (if bt440.1 = n then (if bt440.2 = 0 then (if bt445.1 = n then (if bt445.2 = 0 then ((sawmilllaw43_awake.f).bind fun t447 => (some t447)) else (some false)) else (some false)) else (some false)) else (some false))) else (none)))
def ftNext (k : Nat) (l : List S40) (n : Int) (u : List ByteArray) (sm ot : List S40) (i : Int) (b : Bool) (op m : Int) (s : ByteArray) (ar : List S24) (xs : ByteArray) (xn : Int) : Option Bool := (if 0 ≤ i then (if i < (l.length : Int) then (if b = true then (if sm.length < 5864062014805 then (if ot.length < 5864062014805 then (sawmilllaw43_RuleFeatures.l0 k l n u (sm ++ [(⟨(rd_T40 l i).f0, (rd_T40 l i).f1⟩ : S40)]) (ot ++ [(⟨(rd_T40 l i).f0, (rd_T40 l i).f1⟩ : S40)]) (wrap64 (i + 1)) op m s ar xs xn) else (none)) else (none)) else (if ot.length < 5864062014805 then (sawmilllaw43_RuleFeatures.l0 k l n u sm (ot ++ [(⟨(rd_T40 l i).f0, xn⟩ : S40)]) (wrap64 (i + 1)) op m s ar xs xn) else (none))) else (none)) else (none))
theorem ft_l0 (k : Nat) (l : List S40) (n : Int) (u : List ByteArray) (sm ot : List S40) (i : Int) (op m : Int) (s : ByteArray) (ar : List S24) (xs : ByteArray) (xn : Int) : sawmilllaw43_RuleFeatures.l0 (k + 1) l n u sm ot i op m s ar xs xn = if i < (l.length : Int) then (sawmilllaw43_RuleFeatures.l1 k l n u sm ot i false 0 op m s ar xs xn) else ftEnd k n sm ot op m s ar xs xn := by
  unfold ftEnd
  simp only [sawmilllaw43_RuleFeatures.l0]
theorem ft_l1 (k : Nat) (l : List S40) (n : Int) (u : List ByteArray) (sm ot : List S40) (i : Int) (b : Bool) (j : Int) (op m : Int) (s : ByteArray) (ar : List S24) (xs : ByteArray) (xn : Int) : sawmilllaw43_RuleFeatures.l1 (k + 1) l n u sm ot i b j op m s ar xs xn = if j < (u.length : Int) then (if b = true then (sawmilllaw43_RuleFeatures.l1 k l n u sm ot i true (wrap64 (j + 1)) op m s ar xs xn) else (if 0 ≤ j then (if 0 ≤ i then (if i < (l.length : Int) then (sawmilllaw43_RuleFeatures.l1 k l n u sm ot i ((rdOf ByteArray.empty u j).toList == ((rd_T40 l i).f0).toList) (wrap64 (j + 1)) op m s ar xs xn) else (none)) else (none)) else (none))) else ftNext k l n u sm ot i b op m s ar xs xn := by
  unfold ftNext
  simp only [sawmilllaw43_RuleFeatures.l1]
theorem ft_used (l : List S40) (n : Int) (u : List ByteArray) (sm ot : List S40) (i : Nat) (hi : i < l.length) (hu : u.length ≤ 1000) (op m : Int) (s : ByteArray) (ar : List S24) (xs : ByteArray) (xn : Int) : ∀ (d j : Nat) (b : Bool), j + d = u.length →
    Ev (fun k => ftNext k l n u sm ot (i : Int) (b || usedB (u.drop j) l[i].f0) op m s ar xs xn) true → Ev (fun k => sawmilllaw43_RuleFeatures.l1 k l n u sm ot (i : Int) b (j : Int) op m s ar xs xn) true
  | 0, j, b, hj, h => by
    rw [List.drop_eq_nil_of_le (by omega), show usedB [] l[i].f0 = false from rfl, Bool.or_false] at h
    exact Ev.step h fun k => by rw [ft_l1, if_neg (by omega)]
  | d + 1, j, b, hj, h => by
    have hlt : j < u.length := by omega
    have hd : usedB (u.drop j) l[i].f0 = ((u[j].toList == l[i].f0.toList) || usedB (u.drop (j + 1)) l[i].f0) := by
      rw [List.drop_eq_getElem_cons hlt]
      rfl
    rw [hd] at h
    cases b with
    | true =>
      refine Ev.step (ft_used l n u sm ot i hi hu op m s ar xs xn d (j + 1) true (by omega) (by rw [Bool.true_or] at h ⊢; exact h)) fun k => ?_
      rw [ft_l1, if_pos (by omega), if_pos rfl, wid (n := (j : Int) + 1) (by omega) (by omega), show (j : Int) + 1 = ((j + 1 : Nat) : Int) by omega]
    | false =>
      rw [Bool.false_or] at h
      refine Ev.step (ft_used l n u sm ot i hi hu op m s ar xs xn d (j + 1) (u[j].toList == l[i].f0.toList) (by omega) h) fun k => ?_
      rw [ft_l1, if_pos (by omega), if_neg (by decide), if_pos (by omega), if_pos (by omega), if_pos (by omega), rd_at40 l i hi, rd_str u j hlt, wid (n := (j : Int) + 1) (by omega) (by omega), show (j : Int) + 1 = ((j + 1 : Nat) : Int) by omega]
theorem ft_loop (l : List S40) (hl : l.length ≤ 60) (n : Int) (u : List ByteArray) (hu : u.length ≤ 1000) (op m : Int) (s : ByteArray) (ar : List S24) (xs : ByteArray) (xn : Int) : ∀ (d i : Nat) (sm ot : List S40), i + d = l.length → sm.length ≤ i → ot.length ≤ i →
    Ev (fun k => ftEnd k n (sm ++ someL u (l.drop i)) (ot ++ otherL u xn (l.drop i)) op m s ar xs xn) true → Ev (fun k => sawmilllaw43_RuleFeatures.l0 k l n u sm ot (i : Int) op m s ar xs xn) true
  | 0, i, sm, ot, hi, h1, h2, h => by
    rw [List.drop_eq_nil_of_le (by omega), show someL u [] = [] from rfl, show otherL u xn [] = [] from rfl, List.append_nil, List.append_nil] at h
    exact Ev.step h fun k => by rw [ft_l0, if_neg (by omega)]
  | d + 1, i, sm, ot, hi, h1, h2, h => by
    have hlt : i < l.length := by omega
    refine Ev.step (g := fun k => sawmilllaw43_RuleFeatures.l1 k l n u sm ot (i : Int) false ((0 : Nat) : Int) op m s ar xs xn) (ft_used l n u sm ot i hlt hu op m s ar xs xn u.length 0 false (by omega) ?_) fun k => by rw [ft_l0, if_pos (by omega)]; rfl
    rw [List.drop_zero, Bool.false_or]
    rw [List.drop_eq_getElem_cons hlt] at h
    unfold ftNext
    by_cases hk : usedB u l[i].f0 = true
    · have e1 : someL u (l[i] :: l.drop (i + 1)) = l[i] :: someL u (l.drop (i + 1)) := by unfold someL; rw [List.filter_cons, if_pos hk]
      have e2 : otherL u xn (l[i] :: l.drop (i + 1)) = l[i] :: otherL u xn (l.drop (i + 1)) := by unfold otherL; rw [List.map_cons, if_pos hk]
      rw [e1, e2] at h
      refine Ev.same (ft_loop l hl n u hu op m s ar xs xn d (i + 1) (sm ++ [l[i]]) (ot ++ [l[i]]) (by omega) (by simp; omega) (by simp; omega) ?_) fun k => ?_
      · rw [List.append_assoc, List.append_assoc]
        exact h
      · rw [if_pos (by omega), if_pos (by omega), if_pos hk, if_pos (by omega), if_pos (by omega), rd_at40 l i hlt, wid (n := (i : Int) + 1) (by omega) (by omega), show (i : Int) + 1 = ((i + 1 : Nat) : Int) by omega]
    · have e1 : someL u (l[i] :: l.drop (i + 1)) = someL u (l.drop (i + 1)) := by unfold someL; rw [List.filter_cons, if_neg hk]
      have e2 : otherL u xn (l[i] :: l.drop (i + 1)) = ⟨l[i].f0, xn⟩ :: otherL u xn (l.drop (i + 1)) := by unfold otherL; rw [List.map_cons, if_neg hk]
      rw [e1, e2] at h
      refine Ev.same (ft_loop l hl n u hu op m s ar xs xn d (i + 1) sm (ot ++ [⟨l[i].f0, xn⟩]) (by omega) (by omega) (by simp; omega) ?_) fun k => ?_
      · rw [List.append_assoc]
        exact h
      · rw [if_pos (by omega), if_pos (by omega), if_neg hk, if_pos (by omega), rd_at40 l i hlt, wid (n := (i : Int) + 1) (by omega) (by omega), show (i : Int) + 1 = ((i + 1 : Nat) : Int) by omega]
theorem ft_j0 (k : Nat) (l : List S40) (op m : Int) (s : ByteArray) (ar : List S24) (xs : ByteArray) (xn : Int) : sawmilllaw43_RuleFeatures.j0 (k + 1) l false op m s ar xs xn = (rule_Eval.f k op m s ar l).bind fun bt434 => (if bt434.2 = 0 then ((rule_Uses.f op m s ar).bind fun t437 => (sawmilllaw43_RuleFeatures.l0 k l bt434.1 t437 ([] : List (S40)) ([] : List (S40)) 0 op m s ar xs xn)) else (if bt434.1 = 0 then ((sawmilllaw43_awake.f).bind fun t436 => (some t436)) else (some false))) := by
  simp only [sawmilllaw43_RuleFeatures.j0]
  rfl
theorem someL_len (u : List ByteArray) (l : List S40) : (someL u l).length ≤ l.length := List.length_filter_le _ _
theorem features_true (e : S24) (l : List S40) (x : S40) : Ev (fun k => sawmilllaw43_RuleFeatures.f k e.f0 e.f1 e.f2 e.f3 l x.f0 x.f1) true := by
  unfold sawmilllaw43_RuleFeatures.f
  have hj : Ev (fun k => sawmilllaw43_RuleFeatures.j0 k l true e.f0 e.f1 e.f2 e.f3 x.f0 x.f1) true := Ev.one fun k => by rw [sawmilllaw43_RuleFeatures.j0, if_pos rfl]; rfl
  refine Ev.bind (small_ev e) ?_
  by_cases hs : countF 12 e 300 ≤ 300
  · rw [decide_eq_true hs]
    simp only [if_true]
    refine Ev.bind (short_ev l) ?_
    by_cases hl : shortF l = true
    · rw [hl]
      simp only [if_true]
      by_cases hx : (x.f0.size : Int) > 100
      · rw [decide_eq_true hx]; exact hj
      · rw [decide_eq_false hx]
        have hlen := shortF_len hl
        have hlim := (small_lim hs).1
        refine Ev.step (Ev.bind (eval_ev (by omega) hlim) ?_) (fun k => ft_j0 k l _ _ _ _ _ _)
        by_cases hv : visitN (hasF l) 8 e = 0
        · have hR : evR l e = refR (VN l 8 e) := by unfold evR; rw [if_pos hv]
          cases ho : VN l 8 e with
          | none =>
            rw [hR, ho]
            exact awake_ev
          | some y =>
            have hR2 : evR l e = (y, 0) := by rw [hR, ho]; rfl
            rw [hR2]
            simp only [if_true, (uses_f hs).1, Option.bind_some]
            have hul : (usesF e).length ≤ 1000 := Nat.le_trans (usesF_len (small_lim hs).2) (by decide)
            refine ft_loop l hlen y (usesF e) hul _ _ _ _ _ _ l.length 0 [] [] (by omega) (by simp) (by simp) ?_
            rw [List.drop_zero, List.nil_append, List.nil_append]
            have hsl := someL_len (usesF e) l
            have hol : (otherL (usesF e) x.f1 l).length = l.length := by unfold otherL; rw [List.length_map]
            have r1 : evR (someL (usesF e) l) e = (y, 0) := (evR_same hv fun s hs => get_some (used_of hs) l).trans hR2
            have r2 : evR (otherL (usesF e) x.f1 l ++ [⟨x.f0, x.f1⟩]) e = (y, 0) := (evR_same hv fun s hs => get_other (used_of hs) x.f1 _ l (vis_has 8 e hv s hs)).trans hR2
            unfold ftEnd
            refine Ev.bind (eval_ev (by omega) hlim) ?_
            simp only [if_pos (show (otherL (usesF e) x.f1 l).length < 5864062014805 by omega)]
            refine Ev.bind (eval_ev (by simp; omega) hlim) ?_
            rw [r1, r2]
            simp only [if_true]
            exact awake_ev
        · have hR : evR l e = (0, visitN (hasF l) 8 e) := by unfold evR; rw [if_neg hv]
          rw [hR]
          simp only [if_neg hv, if_true]
          exact awake_ev
    · rw [show shortF l = false by simpa using hl]
      exact hj
  · rw [decide_eq_false hs]
    simp only [Bool.false_eq_true, if_false]
    exact hj
end Go.Proofs.YthdgofbchfcfcaaDoor.PRu
