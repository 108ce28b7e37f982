/- The statement about the values of what Check accepts, as a printed function: it answers true. No condition. -/
import Derived.Test.YthdgofbchfcfcaaDoorRuleEvs
import Derived.Test.YthdgofbchfcfcaaDoorRuleUse
import Derived.Test.YthdgofbchfcfcaaDoorPRux19
set_option linter.unusedVariables false
set_option linter.unusedSimpArgs false
namespace Go.Proofs.YthdgofbchfcfcaaDoor.PRu
open Go.RowKit Go.Proofs.YthdgofbchfcfcaaDoorW.PrintWords Go.Proofs.YthdgofbchfcfcaaDoorW.PrintLast Go.Proofs.YthdgofbchfcfcaaDoorW.PrintMore
/-- No sums, differences and products. -/
def plainP : Nat → S24 → Bool
  | 0, _ => true
  | n + 1, e => e.f3.all (plainP n) && (decide (e.f0 < 3) || decide (5 < e.f0))
theorem pl_f (k : Nat) (op n : Int) (s : ByteArray) (l : List S24) (a : Int) : sawmilllaw43_plain.f (k + 1) op n s l a = if a = 0 then (some true) else (sawmilllaw43_plain.l0 k a 0 op n s l) := by
  simp only [sawmilllaw43_plain.f]
theorem pl_l0 (k : Nat) (a i op n : Int) (s : ByteArray) (l : List S24) : sawmilllaw43_plain.l0 (k + 1) a i op n s l = if i < (l.length : Int) then (if 0 ≤ i then ((sawmilllaw43_plain.f k ((rd_T24 l i).f0) ((rd_T24 l i).f1) ((rd_T24 l i).f2) ((rd_T24 l i).f3) (wrap64 (a - 1))).bind fun t408 => (if t408 = true then (sawmilllaw43_plain.l0 k a (wrap64 (i + 1)) op n s l) else (some false))) else (none)) else (if op < 3 then (some true) else (some (decide (op > 5)))) := by
  simp only [sawmilllaw43_plain.l0]
theorem pl_loop (n : Nat) (hn : n ≤ 7) (ih : ∀ e, limB n e = true → Ev (fun k => sawmilllaw43_plain.f k e.f0 e.f1 e.f2 e.f3 (n : Int)) (plainP n e)) (op m0 : Int) (s : ByteArray) (l : List S24) (hl : l.length < 4611686018427387904) (hall : ∀ a ∈ l, limB n a = true) : ∀ (m i : Nat), i + m = l.length →
    Ev (fun k => sawmilllaw43_plain.l0 k ((n : Int) + 1) (i : Int) op m0 s l) ((l.drop i).all (plainP n) && (decide (op < 3) || decide (5 < op)))
  | 0, i, hi => by
    refine Ev.one fun k => ?_
    rw [pl_l0, if_neg (by omega), List.drop_eq_nil_of_le (by omega), List.all_nil, Bool.true_and]
    by_cases h : op < 3
    · rw [if_pos h, decide_eq_true h, Bool.true_or]
    · rw [if_neg h, decide_eq_false h, Bool.false_or]
  | m + 1, i, hi => by
    have hlt : i < l.length := by omega
    refine Ev.step (g := fun k => (sawmilllaw43_plain.f k l[i].f0 l[i].f1 l[i].f2 l[i].f3 (n : Int)).bind fun t408 => (if t408 = true then (sawmilllaw43_plain.l0 k ((n : Int) + 1) ((i + 1 : Nat) : Int) op m0 s l) else (some false))) (Ev.bind (ih l[i] (hall _ (List.getElem_mem hlt))) ?_) (fun k => ?_)
    · rw [List.drop_eq_getElem_cons hlt, List.all_cons]
      cases hx : plainP n l[i]
      · exact Ev.const
      · rw [Bool.true_and]
        exact pl_loop n hn ih op m0 s l hl hall m (i + 1) (by omega)
    · rw [pl_l0, if_pos (by omega), if_pos (by omega), rd_at24 l i hlt, wid (n := (i : Int) + 1) (by omega) (by omega), show (i : Int) + 1 = ((i + 1 : Nat) : Int) by omega, wid (n := (n : Int) + 1 - 1) (by omega) (by omega), show (n : Int) + 1 - 1 = (n : Int) by omega]
theorem plain_ev : ∀ (n : Nat), n ≤ 8 → ∀ e : S24, limB n e = true → Ev (fun k => sawmilllaw43_plain.f k e.f0 e.f1 e.f2 e.f3 (n : Int)) (plainP n e)
  | 0, _, e, _ => Ev.one fun k => by rw [pl_f, if_pos (by omega)]; rfl
  | n + 1, hn, e, hlim => by
    have hlen := limB_len hlim
    have hall : ∀ a ∈ e.f3, limB n a = true := by
      intro a ha
      simp only [limB, Bool.and_eq_true] at hlim
      exact List.all_eq_true.1 hlim.2 a ha
    have h := pl_loop n (by omega) (fun a ha => plain_ev n (by omega) a ha) e.f0 e.f1 e.f2 e.f3 hlen hall e.f3.length 0 (by omega)
    rw [List.drop_zero] at h
    refine Ev.step h fun k => ?_
    rw [pl_f, if_neg (by omega), show ((n + 1 : Nat) : Int) = (n : Int) + 1 by omega]
    rfl
/-- Without arithmetic, and with features within the limits, what was checked has a value. -/
theorem plain_some (l : List S40) (hw : ∀ x ∈ l, Within x.f1) : ∀ (n : Nat) (e : S24), visitN (hasF l) n e = 0 → plainP n e = true → ∃ y, VN l n e = some y
  | 0, e, h, _ => by simp [visitN] at h
  | n + 1, e, h, hp => by
    obtain ⟨h1, h2⟩ := visit_parts h
    have hall := firstE_all h1
    obtain ⟨op, m, s, ar⟩ := e
    have hall : ∀ a ∈ ar, visitN (hasF l) n a = 0 := hall
    have h2 : ownE (hasF l) op m s ar = 0 := h2
    simp only [plainP, Bool.and_eq_true] at hp
    have hpa : ∀ a ∈ ar, plainP n a = true := List.all_eq_true.1 hp.1
    have hop : op < 3 ∨ 5 < op := by
      have := hp.2
      rw [Bool.or_eq_true, decide_eq_true_eq, decide_eq_true_eq] at this
      exact this
    rcases own_cases h2 with ⟨rfl, rfl, hs, hg⟩ | ⟨rfl, rfl, rfl, hh⟩ | ⟨rfl, rfl, hs, a, rfl, hca⟩ | ⟨hop2, rfl, hs, a, b, rfl, hca, hcb⟩
    · exact ⟨m, rfl⟩
    · have hV : VN l (n + 1) ⟨2, 0, s, []⟩ = numV (getR l s).1 := rfl
      rw [hV]
      have hg : greatF (getR l s).1 = false := by
        rw [great_iff]
        unfold getR
        cases hf : getP l s with
        | none => exact ⟨by decide, by decide⟩
        | some x => exact hw x (List.mem_of_find?_eq_some hf)
      unfold numV
      rw [if_neg (by rw [hg]; decide)]
      exact ⟨_, rfl⟩
    · obtain ⟨y, hy⟩ := plain_some l hw n a (hall a (by simp)) (hpa a (by simp))
      have hV : VN l (n + 1) ⟨9, 0, s, [a]⟩ = (VN l n a).bind fun x => some (1 - x) := rfl
      rw [hV, hy]
      exact ⟨_, rfl⟩
    · obtain ⟨y, hy⟩ := plain_some l hw n a (hall a (by simp)) (hpa a (by simp))
      obtain ⟨z, hz⟩ := plain_some l hw n b (hall b (by simp)) (hpa b (by simp))
      have hV : VN l (n + 1) ⟨op, 0, s, [a, b]⟩ = (VN l n a).bind fun x => if shortB op x = true then some x else (VN l n b).bind fun y => opV op x y := by
        rw [VN]
        rw [if_neg (show ¬ op = 1 by omega), if_neg (show ¬ op = 2 by omega)]
      rw [hV, hy, Option.bind_some, hz]
      by_cases hsh : shortB op y = true
      · rw [if_pos hsh]; exact ⟨_, rfl⟩
      · rw [if_neg hsh, Option.bind_some]
        have : op = 6 ∨ op = 7 ∨ op = 8 ∨ op = 10 ∨ op = 11 := by omega
        rcases this with h | h | h | h | h <;> subst h <;> exact ⟨_, rfl⟩
def withinB (x : S40) : Bool := decide (-1099511627776 ≤ x.f1) && decide (x.f1 ≤ 1099511627776)
def tyEnd (n g : Int) (fit : Bool) : Option Bool := (if g = 9 then (if n = 0 then (if fit = true then (some false) else ((sawmilllaw43_awake.f).bind fun t426 => (some t426))) else (some false)) else (if g = 0 then (if n = 0 then ((sawmilllaw43_awake.f).bind fun t427 => (some t427)) else (if n = 1 then ((sawmilllaw43_awake.f).bind fun t428 => (some t428)) else (some false))) else (some false)))
theorem ty_l0 (k : Nat) (l : List S40) (n g : Int) (fit : Bool) (i : Int) : sawmilllaw43_RuleTypes.l0 (k + 1) l n g fit i = if i < (l.length : Int) then (if fit = true then (if 0 ≤ i then (if ((rd_T40 l i).f1) ≥ (-1099511627776) then (sawmilllaw43_RuleTypes.l0 k l n g (decide (((rd_T40 l i).f1) ≤ 1099511627776)) (wrap64 (i + 1))) else (sawmilllaw43_RuleTypes.l0 k l n g false (wrap64 (i + 1)))) else (none)) else (sawmilllaw43_RuleTypes.l0 k l n g false (wrap64 (i + 1)))) else tyEnd n g fit := by
  unfold tyEnd
  simp only [sawmilllaw43_RuleTypes.l0]
theorem ty_loop (l : List S40) (hl : l.length ≤ 60) (n g : Int) : ∀ (m i : Nat) (fit : Bool), i + m = l.length → tyEnd n g (fit && (l.drop i).all withinB) = some true → Ev (fun k => sawmilllaw43_RuleTypes.l0 k l n g fit (i : Int)) true
  | 0, i, fit, hi, he => by
    refine Ev.one fun k => ?_
    rw [List.drop_eq_nil_of_le (by omega), List.all_nil, Bool.and_true] at he
    rw [ty_l0, if_neg (by omega), he]
  | m + 1, i, fit, hi, he => by
    have hlt : i < l.length := by omega
    rw [List.drop_eq_getElem_cons hlt, List.all_cons] at he
    cases fit with
    | false =>
      refine Ev.step (ty_loop l hl n g m (i + 1) false (by omega) (by rw [Bool.false_and] at he ⊢; exact he)) fun k => ?_
      rw [ty_l0, if_pos (by omega), if_neg (by decide), wid (n := (i : Int) + 1) (by omega) (by omega), show (i : Int) + 1 = ((i + 1 : Nat) : Int) by omega]
    | true =>
      rw [Bool.true_and] at he
      by_cases h1 : l[i].f1 ≥ -1099511627776
      · refine Ev.step (ty_loop l hl n g m (i + 1) (decide (l[i].f1 ≤ 1099511627776)) (by omega) ?_) fun k => ?_
        · have : withinB l[i] = decide (l[i].f1 ≤ 1099511627776) := by unfold withinB; rw [decide_eq_true h1, Bool.true_and]
          rw [← this]; exact he
        · rw [ty_l0, if_pos (by omega), if_pos rfl, if_pos (by omega), rd_at40 l i hlt, if_pos h1, wid (n := (i : Int) + 1) (by omega) (by omega), show (i : Int) + 1 = ((i + 1 : Nat) : Int) by omega]
      · refine Ev.step (ty_loop l hl n g m (i + 1) false (by omega) ?_) fun k => ?_
        · have : withinB l[i] = false := by unfold withinB; rw [decide_eq_false h1, Bool.false_and]
          rw [← this]; exact he
        · rw [ty_l0, if_pos (by omega), if_pos rfl, if_pos (by omega), rd_at40 l i hlt, if_neg h1, wid (n := (i : Int) + 1) (by omega) (by omega), show (i : Int) + 1 = ((i + 1 : Nat) : Int) by omega]
theorem ty_j0 (k : Nat) (l : List S40) (op n : Int) (s : ByteArray) (ar : List S24) : sawmilllaw43_RuleTypes.j0 (k + 1) l false op n s ar = (sawmillref43_Names.f k l).bind fun t413 => ((rule_Check.f op n s ar t413).bind fun t416 => ((rule_Eval.f k op n s ar l).bind fun bt417 => (if t416 = 0 then ((sawmilllaw43_plain.f k op n s ar 8).bind fun t423 => (sawmilllaw43_RuleTypes.l0 k l bt417.1 bt417.2 t423 0)) else (if bt417.2 = t416 then (if bt417.2 = 0 then ((sawmilllaw43_awake.f).bind fun t419 => (some t419)) else (if bt417.1 = 0 then ((sawmilllaw43_awake.f).bind fun t420 => (some t420)) else (some false))) else (if t416 = 27 then (if bt417.2 = 0 then ((sawmilllaw43_awake.f).bind fun t421 => (some t421)) else (if bt417.1 = 0 then ((sawmilllaw43_awake.f).bind fun t422 => (some t422)) else (some false))) else (some false)))))) := by
  simp only [sawmilllaw43_RuleTypes.j0]
  rfl
theorem types_true (e : S24) (l : List S40) : Ev (fun k => sawmilllaw43_RuleTypes.f k e.f0 e.f1 e.f2 e.f3 l) true := by
  unfold sawmilllaw43_RuleTypes.f
  have hj : Ev (fun k => sawmilllaw43_RuleTypes.j0 k l true e.f0 e.f1 e.f2 e.f3) true := Ev.one fun k => by rw [sawmilllaw43_RuleTypes.j0, if_pos rfl]; rfl
  refine Ev.bind (small_ev e) ?_
  by_cases hs : countF 12 e 300 ≤ 300
  · rw [decide_eq_true hs]
    simp only [if_true]
    refine Ev.bind (short_ev l) ?_
    by_cases hl : shortF l = true
    · rw [hl]
      have hlen := shortF_len hl
      have hlim := (small_lim hs).1
      have hN : (namesF l).length ≤ 60 := by rw [namesF_len]; exact hlen
      refine Ev.step (Ev.bind (names_ev hlen) ?_) (fun k => ty_j0 k l _ _ _ _)
      simp only [check_f hlim hN, Option.bind_some]
      refine Ev.bind (eval_ev (by omega) hlim) ?_
      have hC : checkF e (namesF l) = if visitN (hasF l) 8 e = 0 then (if condF e.f0 = true then 0 else 27) else visitN (hasF l) 8 e := by
        unfold checkF
        rw [hasN_names]
      by_cases hv : visitN (hasF l) 8 e = 0
      · obtain ⟨-, -, hb⟩ := val_all l (by omega) 8 e hv
        rw [if_pos hv] at hC
        have hR : evR l e = refR (VN l 8 e) := by unfold evR; rw [if_pos hv]
        by_cases hc : condF e.f0 = true
        · rw [if_pos hc] at hC
          simp only [hC, if_true]
          refine Ev.bind (plain_ev 8 (by decide) e hlim) ?_
          refine ty_loop l hlen _ _ l.length 0 _ (by omega) ?_
          rw [List.drop_zero, hR]
          cases ho : VN l 8 e with
          | some y =>
            rcases (hb y ho).2 hc with rfl | rfl <;> rfl
          | none =>
            have hfit : (plainP 8 e && l.all withinB) = false := by
              cases hp : plainP 8 e
              · rfl
              · rw [Bool.true_and]
                cases hw : l.all withinB
                · rfl
                · obtain ⟨y, hy⟩ := plain_some l (fun x hx => by
                    have := List.all_eq_true.1 hw x hx
                    unfold withinB at this
                    rw [Bool.and_eq_true] at this
                    exact ⟨of_decide_eq_true this.1, of_decide_eq_true this.2⟩) 8 e hv hp
                  rw [hy] at ho
                  cases ho
            rw [hfit]
            rfl
        · rw [if_neg hc] at hC
          have h27 : ¬ ((27 : Int) = 0) := by decide
          simp only [hC, if_neg h27, hR, if_true]
          cases ho : VN l 8 e with
          | some y => exact awake_ev
          | none => exact awake_ev
      · rw [if_neg hv] at hC
        have hR : evR l e = (0, visitN (hasF l) 8 e) := by unfold evR; rw [if_neg hv]
        simp only [hC, if_neg hv, hR, if_true]
        exact awake_ev
    · rw [show shortF l = false by simpa using hl]
      exact hj
  · rw [decide_eq_false hs]
    simp only [Bool.false_eq_true, if_false]
    exact hj
end Go.Proofs.YthdgofbchfcfcaaDoor.PRu
