/- The tables of rules that the statements let in, in plain words. No condition. Eval in plain words, and the statement about it as a printed function: it answers true. No condition. -/
import Derived.Test.YthdgofbchfcfcaaDoorRulePlain
import Derived.Test.YthdgofbchfcfcaaDoorRuleGrade
import Derived.Test.YthdgofbchfcfcaaDoorPRux16
import Derived.Test.YthdgofbchfcfcaaDoorRuleValue
set_option linter.unusedVariables false
set_option linter.unusedSimpArgs false
namespace Go.Proofs.YthdgofbchfcfcaaDoor.PRu
open Go.RowKit Go.Proofs.YthdgofbchfcfcaaDoorW.PrintWords Go.Proofs.YthdgofbchfcfcaaDoorW.PrintLast Go.Proofs.YthdgofbchfcfcaaDoorW.PrintMore
/-! table -/
def tableP (l : List S47) : Bool := l.all fun x => decide (countF 12 x.f1 300 ≤ 300)
theorem table_ev_loop (l : List S47) (hl : l.length ≤ 40) : ∀ (m i : Nat), i + m = l.length → Ev (fun k => sawmilllaw43_table.l0 k l (i : Int)) (tableP (l.drop i))
  | 0, i, hi => by
    refine Ev.one fun k => ?_
    rw [sawmilllaw43_table.l0, if_neg (by omega), List.drop_eq_nil_of_le (by omega)]
    rfl
  | m + 1, i, hi => by
    have hlt : i < l.length := by omega
    refine Ev.step (g := fun k => (sawmilllaw43_small.f k l[i].f1.f0 l[i].f1.f1 l[i].f1.f2 l[i].f1.f3).bind fun t378 => (if t378 = true then (sawmilllaw43_table.l0 k l ((i + 1 : Nat) : Int)) else (some false))) ?_ (fun k => ?_)
    · refine Ev.bind (small_ev l[i].f1) ?_
      rw [List.drop_eq_getElem_cons hlt]
      unfold tableP
      rw [List.all_cons]
      by_cases hx : countF 12 l[i].f1 300 ≤ 300
      · rw [decide_eq_true hx, Bool.true_and]
        exact table_ev_loop l hl m (i + 1) (by omega)
      · rw [decide_eq_false hx, Bool.false_and]
        exact Ev.const
    · rw [sawmilllaw43_table.l0, if_pos (by omega), if_pos (by omega), rd_at47 l i hlt, wid (n := (i : Int) + 1) (by omega) (by omega), show (i : Int) + 1 = ((i + 1 : Nat) : Int) by omega]
def tableF (l : List S47) : Bool := decide (l.length ≤ 40) && tableP l
theorem table_ev (l : List S47) : Ev (fun k => sawmilllaw43_table.f k l) (tableF l) := by
  unfold sawmilllaw43_table.f tableF
  by_cases h : (l.length : Int) > 40
  · refine ⟨0, fun j _ => ?_⟩
    simp only []
    rw [if_pos h, decide_eq_false (by omega), Bool.false_and]
  · have := table_ev_loop l (by omega) l.length 0 (by omega)
    rw [List.drop_zero] at this
    rw [decide_eq_true (by omega), Bool.true_and]
    exact this.same fun k => by rw [if_neg h]; rfl
theorem tableF_len {l : List S47} (h : tableF l = true) : l.length ≤ 40 := by
  unfold tableF at h
  rw [Bool.and_eq_true] at h
  exact of_decide_eq_true h.1
theorem tableF_at {l : List S47} (h : tableF l = true) {x : S47} (hx : x ∈ l) : countF 12 x.f1 300 ≤ 300 := by
  unfold tableF at h
  rw [Bool.and_eq_true] at h
  exact of_decide_eq_true (List.all_eq_true.1 h.2 x hx)
theorem tableF_limR {l : List S47} (h : tableF l = true) : limR l = true := by
  have := tableF_len h
  unfold limR limL
  rw [Bool.and_eq_true]
  refine ⟨decide_eq_true (by omega), List.all_eq_true.2 fun x hx => ?_⟩
  exact (small_lim (tableF_at h hx)).1
end Go.Proofs.YthdgofbchfcfcaaDoor.PRu

set_option linter.unusedVariables false
set_option linter.unusedSimpArgs false
namespace Go.Proofs.YthdgofbchfcfcaaDoor.PRu
open Go.RowKit Go.Proofs.YthdgofbchfcfcaaDoorW.PrintWords Go.Proofs.YthdgofbchfcfcaaDoorW.PrintLast Go.Proofs.YthdgofbchfcfcaaDoorW.PrintMore
theorem S24_eta (e : S24) : (⟨e.f0, e.f1, e.f2, e.f3⟩ : S24) = e := by obtain ⟨a, b, c, d⟩ := e; rfl
def evR (l : List S40) (e : S24) : Int × Int := if visitN (hasF l) 8 e = 0 then refR (VN l 8 e) else (0, visitN (hasF l) 8 e)
theorem eval_ev {l : List S40} {e : S24} (hl : l.length ≤ 1000) (he : limB 8 e = true) : Ev (fun k => rule_Eval.f k e.f0 e.f1 e.f2 e.f3 l) (evR l e) := by
  have hc : (limB 8 ⟨e.f0, e.f1, e.f2, e.f3⟩ && limL l.length) = true := by
    rw [S24_eta, he, Bool.true_and]; exact decide_eq_true (by omega)
  refine Ev.same (g := fun k => evalF k e l) ?_ (fun k => by unfold rule_Eval.f; rw [if_pos hc, S24_eta])
  unfold evalF evR
  by_cases hv : visitN (hasF l) 8 e = 0
  · simp only [if_pos hv]
    obtain ⟨⟨r, e1, r1, r2⟩, -, -⟩ := val_all l hl 8 e hv
    refine Ev.bind e1 ?_
    obtain ⟨x, b⟩ := r
    cases ho : VN l 8 e with
    | none =>
      rw [ho] at r1
      have q1 : b = false := r1
      subst q1
      exact Ev.const
    | some y =>
      rw [ho] at r1
      have q1 : b = true := r1
      have q3 : x = y := r2 y ho
      subst q1
      subst q3
      exact Ev.const
  · simp only [if_neg hv]
    exact Ev.const
theorem ref_check_ev {l : List S40} {e : S24} (hl : l.length ≤ 60) (he : limB 8 e = true) : Ev (fun k => sawmillref43_check.f k e.f0 e.f1 e.f2 e.f3 (namesF l) 1) (visitN (hasF l) 8 e) := by
  have := check_ev (namesF l) (by rw [namesF_len]; exact hl) 8 (by decide) e he
  rw [hasN_names] at this
  exact this
theorem ref_eval_ev {l : List S40} {e : S24} (hl : l.length ≤ 60) (he : limB 8 e = true) : Ev (fun k => sawmillref43_Eval.f k e.f0 e.f1 e.f2 e.f3 l) (evR l e) := by
  unfold sawmillref43_Eval.f evR
  refine Ev.bind (names_ev hl) (Ev.bind (ref_check_ev hl he) ?_)
  by_cases hv : visitN (hasF l) 8 e = 0
  · simp only [if_pos hv]
    obtain ⟨-, hr, -⟩ := val_all l (by omega) 8 e hv
    exact Ev.bind hr Ev.const
  · simp only [if_neg hv]
    exact Ev.const
theorem awake_ev : Ev (fun _ : Nat => (sawmilllaw43_awake.f).bind fun t => some t) true := Ev.const
theorem evals_true (e : S24) (l : List S40) : Ev (fun k => sawmilllaw43_RuleEvals.f k e.f0 e.f1 e.f2 e.f3 l) true := by
  unfold sawmilllaw43_RuleEvals.f
  have hj : Ev (fun k => sawmilllaw43_RuleEvals.j0 k l true e.f0 e.f1 e.f2 e.f3) true := Ev.one fun k => by rw [sawmilllaw43_RuleEvals.j0, if_pos rfl]; rfl
  refine Ev.bind (small_ev e) ?_
  by_cases hs : countF 12 e 300 ≤ 300
  · rw [decide_eq_true hs]
    simp only [if_true]
    refine Ev.bind (short_ev l) ?_
    by_cases hl : shortF l = true
    · rw [hl]
      have hlen := shortF_len hl
      have hlim := (small_lim hs).1
      refine Ev.step (g := fun k => (rule_Eval.f k e.f0 e.f1 e.f2 e.f3 l).bind fun bt372 => ((sawmillref43_Eval.f k e.f0 e.f1 e.f2 e.f3 l).bind fun bt374 => (if bt372.1 = bt374.1 then (if bt372.2 = bt374.2 then ((sawmilllaw43_awake.f).bind fun t376 => (some t376)) else (some false)) else (some false)))) ?_ (fun k => ?_)
      · refine Ev.bind (eval_ev (by omega) hlim) (Ev.bind (ref_eval_ev hlen hlim) ?_)
        simp only [if_true]
        exact awake_ev
      · rw [sawmilllaw43_RuleEvals.j0, if_neg (by decide)]
    · rw [show shortF l = false by simpa using hl]
      exact hj
  · rw [decide_eq_false hs]
    simp only [Bool.false_eq_true, if_false]
    exact hj
end Go.Proofs.YthdgofbchfcfcaaDoor.PRu
