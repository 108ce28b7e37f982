/- The statement about Check and Uses as a printed function: it answers true. No condition. -/
import Derived.Test.YthdgofbchfcfcaaDoorRuleUse
import Derived.Test.YthdgofbchfcfcaaDoorPRux13
set_option linter.unusedVariables false
set_option linter.unusedSimpArgs false
namespace Go.Proofs.YthdgofbchfcfcaaDoor.PRu
open Go.RowKit Go.Proofs.YthdgofbchfcfcaaDoorW.PrintWords Go.Proofs.YthdgofbchfcfcaaDoorW.PrintLast Go.Proofs.YthdgofbchfcfcaaDoorW.PrintMore
theorem awake_s : Ev (fun _ : Nat => (sawmilllaw43_awake.f).bind fun t => some t) true := Ev.const
theorem checks_true (e : S24) (l : List S40) : Ev (fun k => sawmilllaw43_RuleChecks.f k e.f0 e.f1 e.f2 e.f3 l) true := by
  unfold sawmilllaw43_RuleChecks.f
  have hj : Ev (fun k => sawmilllaw43_RuleChecks.j0 k l true e.f0 e.f1 e.f2 e.f3) true := Ev.one fun k => by rw [sawmilllaw43_RuleChecks.j0, if_pos rfl]; rfl
  refine Ev.bind (small_ev e) ?_
  by_cases hs : countF 12 e 300 ≤ 300
  · rw [decide_eq_true hs]
    simp only [if_true]
    refine Ev.bind (short_ev l) ?_
    by_cases hl : shortF l = true
    · rw [hl]
      have hlen := shortF_len hl
      have hlim := (small_lim hs).1
      have hN : (namesF l).length ≤ 60 := by rw [namesF_len]; exact hlen
      obtain ⟨u1, u2⟩ := uses_f hs
      refine Ev.step (g := fun k => (sawmillref43_Names.f k l).bind fun t326 => ((rule_Check.f e.f0 e.f1 e.f2 e.f3 t326).bind fun t329 => ((sawmillref43_Check.f k e.f0 e.f1 e.f2 e.f3 t326).bind fun t330 => (if t329 = t330 then ((rule_Uses.f e.f0 e.f1 e.f2 e.f3).bind fun t331 => ((sawmillref43_Uses.f e.f0 e.f1 e.f2 e.f3).bind fun t334 => ((sawmillref43_Same.f k t331 t334).bind fun t337 => (if t337 = true then ((sawmilllaw43_awake.f).bind fun t338 => (some t338)) else (some false))))) else (some false))))) ?_ (fun k => ?_)
      · refine Ev.bind (names_ev hlen) ?_
        simp only [check_f hlim hN, Option.bind_some]
        refine Ev.bind (ref_Check_ev hlim hN) ?_
        simp only [if_true, u1, u2, Option.bind_some]
        refine Ev.bind (same_ev (Nat.le_trans (usesF_len (small_lim hs).2) (by decide))) ?_
        simp only [if_true]
        exact awake_s
      · rw [sawmilllaw43_RuleChecks.j0, if_neg (by decide)]
    · rw [show shortF l = false by simpa using hl]
      exact hj
  · rw [decide_eq_false hs]
    simp only [Bool.false_eq_true, if_false]
    exact hj
end Go.Proofs.YthdgofbchfcfcaaDoor.PRu
