/- CheckRules and Grade of the reference are the program's, for what the statements let in; and the statement about them as a printed function: it answers true. No condition. -/
import Derived.Test.YthdgofbchfcfcaaDoorRuleGrd
import Derived.Test.YthdgofbchfcfcaaDoorRuleUse
import Derived.Test.YthdgofbchfcfcaaDoorPRux17
set_option linter.unusedVariables false
set_option linter.unusedSimpArgs false
namespace Go.Proofs.YthdgofbchfcfcaaDoor.PRu
open Go.RowKit Go.Proofs.YthdgofbchfcfcaaDoorW.PrintWords Go.Proofs.YthdgofbchfcfcaaDoorW.PrintLast Go.Proofs.YthdgofbchfcfcaaDoorW.PrintMore
theorem cr_l0 (k : Nat) (l : List S47) (names : List ByteArray) (i : Int) : sawmillref43_CheckRules.l0 (k + 1) l names i = if i < (l.length : Int) then (if 0 ≤ i then (if ((rd_T47 l i).f0) < 0 then (sawmillref43_CheckRules.j1 k l names i true) else (sawmillref43_CheckRules.j1 k l names i (decide (((rd_T47 l i).f0) > 9)))) else (none)) else (some 0) := by
  simp only [sawmillref43_CheckRules.l0]
theorem cr_j1 (k : Nat) (l : List S47) (names : List ByteArray) (i : Int) (b : Bool) : sawmillref43_CheckRules.j1 (k + 1) l names i b = if b = true then (some 26) else (if 0 ≤ i then (if i < (l.length : Int) then ((sawmillref43_Check.f k ((rd_T47 l i).f1.f0) ((rd_T47 l i).f1.f1) ((rd_T47 l i).f1.f2) ((rd_T47 l i).f1.f3) names).bind fun t382 => (if t382 = 0 then (sawmillref43_CheckRules.l0 k l names (wrap64 (i + 1))) else (some t382))) else (none)) else (none)) := by
  simp only [sawmillref43_CheckRules.j1]
theorem cr_loop (l : List S47) (names : List ByteArray) (hn : names.length ≤ 60) (hl : l.length ≤ 1000) (hlim : ∀ r ∈ l, limB 8 r.f1 = true) : ∀ (m i : Nat), i + m = l.length → Ev (fun k => sawmillref43_CheckRules.l0 k l names (i : Int)) (firstR (ruleE (hasN names)) (l.drop i))
  | 0, i, hi => by
    refine Ev.one fun k => ?_
    rw [cr_l0, if_neg (by omega), List.drop_eq_nil_of_le (by omega)]
    rfl
  | m + 1, i, hi => by
    have hlt : i < l.length := by omega
    have ih := cr_loop l names hn hl hlim m (i + 1) (by omega)
    rw [List.drop_eq_getElem_cons hlt, firstR]
    have hJ : ∀ b : Bool, Ev (fun k => sawmillref43_CheckRules.j1 k l names (i : Int) b) (if b = true then 26 else if checkF l[i].f1 names = 0 then firstR (ruleE (hasN names)) (l.drop (i + 1)) else checkF l[i].f1 names) := by
      intro b
      cases b
      · refine Ev.step (g := fun k => (sawmillref43_Check.f k l[i].f1.f0 l[i].f1.f1 l[i].f1.f2 l[i].f1.f3 names).bind fun t382 => (if t382 = 0 then (sawmillref43_CheckRules.l0 k l names ((i + 1 : Nat) : Int)) else (some t382))) ?_ (fun k => ?_)
        · refine Ev.bind (ref_Check_ev (hlim _ (List.getElem_mem hlt)) hn) ?_
          rw [if_neg (by decide)]
          by_cases hc : checkF l[i].f1 names = 0
          · simp only [if_pos hc]; exact ih
          · simp only [if_neg hc]; exact Ev.const
        · rw [cr_j1, if_neg (by decide), if_pos (by omega), if_pos (by omega), rd_at47 l i hlt, wid (n := (i : Int) + 1) (by omega) (by omega), show (i : Int) + 1 = ((i + 1 : Nat) : Int) by omega]
      · exact Ev.one fun k => by rw [cr_j1, if_pos rfl, if_pos rfl]
    have hE : ruleE (hasN names) l[i] = if l[i].f0 < 0 then 26 else if 9 < l[i].f0 then 26 else checkF l[i].f1 names := rfl
    by_cases h0 : l[i].f0 < 0
    · rw [if_pos h0] at hE
      rw [hE, if_neg (by decide)]
      refine Ev.step (hJ true) fun k => ?_
      rw [cr_l0, if_pos (by omega), if_pos (by omega), rd_at47 l i hlt, if_pos h0]
    · rw [if_neg h0] at hE
      by_cases h9 : 9 < l[i].f0
      · rw [if_pos h9] at hE
        rw [hE, if_neg (by decide)]
        refine Ev.step (hJ true) fun k => ?_
        rw [cr_l0, if_pos (by omega), if_pos (by omega), rd_at47 l i hlt, if_neg h0, decide_eq_true h9]
      · rw [if_neg h9] at hE
        rw [hE]
        refine Ev.step (hJ false) fun k => ?_
        rw [cr_l0, if_pos (by omega), if_pos (by omega), rd_at47 l i hlt, if_neg h0, decide_eq_false h9]
theorem cr_ev {l : List S47} {names : List ByteArray} (hn : names.length ≤ 60) (hlim : ∀ r ∈ l, limB 8 r.f1 = true) : Ev (fun k => sawmillref43_CheckRules.f k l names) (rulesF (hasN names) l) := by
  unfold sawmillref43_CheckRules.f rulesF
  by_cases h : (l.length : Int) > 32
  · simp only [if_pos h]; exact Ev.const
  · simp only [if_neg h]
    have := cr_loop l names hn (by omega) hlim l.length 0 (by omega)
    rw [List.drop_zero] at this
    exact this
theorem rg_l0 (k : Nat) (l : List S47) (f : List S40) (i : Int) : sawmillref43_Grade.l0 (k + 1) l f i = if i < (l.length : Int) then (if 0 ≤ i then ((sawmillref43_value.f k ((rd_T47 l i).f1.f0) ((rd_T47 l i).f1.f1) ((rd_T47 l i).f1.f2) ((rd_T47 l i).f1.f3) f).bind fun bt388 => (if bt388.2 = 0 then (if bt388.1 = 1 then (some ((rd_T47 l i).f0, i, 0)) else (sawmillref43_Grade.l0 k l f (wrap64 (i + 1)))) else (some (0, 0, bt388.2)))) else (none)) else (some (0, (-1), 0)) := by
  simp only [sawmillref43_Grade.l0]
theorem rg_loop (l : List S47) (f : List S40) (hf : f.length ≤ 1000) (hl : l.length ≤ 1000) (hv : ∀ r ∈ l, visitN (hasF f) 8 r.f1 = 0) : ∀ (m i : Nat), i + m = l.length → Ev (fun k => sawmillref43_Grade.l0 k l f (i : Int)) (gradeP f (l.drop i) (i : Int))
  | 0, i, hi => by
    refine Ev.one fun k => ?_
    rw [rg_l0, if_neg (by omega), List.drop_eq_nil_of_le (by omega)]
    rfl
  | m + 1, i, hi => by
    have hlt : i < l.length := by omega
    have ih := rg_loop l f hf hl hv m (i + 1) (by omega)
    rw [List.drop_eq_getElem_cons hlt]
    obtain ⟨-, hr, -⟩ := val_all f hf 8 l[i].f1 (hv _ (List.getElem_mem hlt))
    unfold gradeP
    refine Ev.step (g := fun k => (sawmillref43_value.f k l[i].f1.f0 l[i].f1.f1 l[i].f1.f2 l[i].f1.f3 f).bind fun bt388 => (if bt388.2 = 0 then (if bt388.1 = 1 then (some (l[i].f0, (i : Int), 0)) else (sawmillref43_Grade.l0 k l f ((i + 1 : Nat) : Int))) else (some (0, 0, bt388.2)))) (Ev.bind hr ?_) (fun k => ?_)
    · cases ho : VN f 8 l[i].f1 with
      | none => exact Ev.const
      | some y =>
        show Ev (fun k => if y = 1 then some (l[i].f0, (i : Int), 0) else sawmillref43_Grade.l0 k l f ((i + 1 : Nat) : Int)) (if y = 1 then (l[i].f0, (i : Int), 0) else gradeP f (l.drop (i + 1)) ((i : Int) + 1))
        by_cases h1 : y = 1
        · simp only [if_pos h1]; exact Ev.const
        · simp only [if_neg h1]
          rw [show (i : Int) + 1 = ((i + 1 : Nat) : Int) by omega]
          exact ih
    · rw [rg_l0, if_pos (by omega), if_pos (by omega), rd_at47 l i hlt, wid (n := (i : Int) + 1) (by omega) (by omega), show (i : Int) + 1 = ((i + 1 : Nat) : Int) by omega]
theorem ref_grade_ev {l : List S47} {f : List S40} (hf : f.length ≤ 60) (hlim : ∀ r ∈ l, limB 8 r.f1 = true) : Ev (fun k => sawmillref43_Grade.f k l f) (gradeAll f l) := by
  unfold sawmillref43_Grade.f gradeAll
  have hc := cr_ev (l := l) (names := namesF f) (by rw [namesF_len]; exact hf) hlim
  rw [hasN_names] at hc
  refine Ev.bind (names_ev hf) (Ev.bind hc ?_)
  by_cases hv : rulesF (hasF f) l = 0
  · simp only [if_pos hv]
    have := rg_loop l f (by omega) (by have := (rules_zero.1 hv).1; omega) (fun r hr => (ruleE_zero ((rules_zero.1 hv).2 r hr)).1) l.length 0 (by omega)
    rw [List.drop_zero] at this
    exact this
  · simp only [if_neg hv]
    exact Ev.const
theorem crules_f {l : List S47} {names : List ByteArray} (hl : limR l = true) (hn : names.length ≤ 60) : rule_CheckRules.f l names = some (rulesF (hasN names) l) := by
  unfold rule_CheckRules.f
  rw [if_pos (by rw [hl, Bool.true_and]; exact decide_eq_true (by omega))]
theorem grades_true (l : List S47) (f : List S40) : Ev (fun k => sawmilllaw43_RuleGrades.f k l f) true := by
  unfold sawmilllaw43_RuleGrades.f
  have hj : Ev (fun k => sawmilllaw43_RuleGrades.j0 k l f true) true := Ev.one fun k => by rw [sawmilllaw43_RuleGrades.j0, if_pos rfl]; rfl
  refine Ev.bind (table_ev l) ?_
  by_cases hs : tableF l = true
  · rw [hs]
    simp only [if_true]
    refine Ev.bind (short_ev f) ?_
    by_cases hl : shortF f = true
    · rw [hl]
      have hlen := shortF_len hl
      have hlim := tableF_limR hs
      have hall : ∀ r ∈ l, limB 8 r.f1 = true := fun r hr => (small_lim (tableF_at hs hr)).1
      have hN : (namesF f).length ≤ 60 := by rw [namesF_len]; exact hlen
      refine Ev.step (g := fun k => (sawmillref43_Names.f k f).bind fun t394 => ((rule_Grade.f k l f).bind fun bt397 => ((sawmillref43_Grade.f k l f).bind fun bt400 => ((rule_CheckRules.f l t394).bind fun t403 => ((sawmillref43_CheckRules.f k l t394).bind fun t404 => (if t403 = t404 then (if bt397.1 = bt400.1 then (if bt397.2.1 = bt400.2.1 then (if bt397.2.2 = bt400.2.2 then ((sawmilllaw43_awake.f).bind fun t405 => (some t405)) else (some false)) else (some false)) else (some false)) else (some false))))))) ?_ (fun k => ?_)
      · refine Ev.bind (names_ev hlen) (Ev.bind (grade_ev (by omega) hlim) (Ev.bind (ref_grade_ev hlen hall) ?_))
        simp only [crules_f hlim hN, Option.bind_some]
        refine Ev.bind (cr_ev hN hall) ?_
        simp only [if_true]
        exact awake_ev
      · rw [sawmilllaw43_RuleGrades.j0, if_neg (by decide)]
    · rw [show shortF f = false by simpa using hl]
      exact hj
  · rw [show tableF l = false by simpa using hs]
    simp only [Bool.false_eq_true, if_false]
    exact hj
end Go.Proofs.YthdgofbchfcfcaaDoor.PRu
