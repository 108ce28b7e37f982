/- The grade of a table of rules, in plain words: what Grade of the program returns for what the statements let in. No condition. -/
import Derived.Test.YthdgofbchfcfcaaDoorRuleEvs
set_option linter.unusedVariables false
set_option linter.unusedSimpArgs false
namespace Go.Proofs.YthdgofbchfcfcaaDoor.PRu
open Go.RowKit Go.Proofs.YthdgofbchfcfcaaDoorW.PrintWords Go.Proofs.YthdgofbchfcfcaaDoorW.PrintLast Go.Proofs.YthdgofbchfcfcaaDoorW.PrintMore
def gradeP (f : List S40) : List S47 → Int → Int × Int × Int
  | [], _ => (0, -1, 0)
  | r :: l, i => match VN f 8 r.f1 with
    | some y => if y = 1 then (r.f0, i, 0) else gradeP f l (i + 1)
    | none => (0, 0, 9)
def gradeAll (f : List S40) (l : List S47) : Int × Int × Int := if rulesF (hasF f) l = 0 then gradeP f l 0 else (0, 0, rulesF (hasF f) l)
theorem firstR_all {g : S47 → Int} : ∀ {l : List S47}, firstR g l = 0 ↔ ∀ a ∈ l, g a = 0
  | [] => by simp [firstR]
  | a :: l => by
    unfold firstR
    by_cases h : g a = 0
    · rw [if_pos h, firstR_all]
      simp [h]
    · rw [if_neg h]
      simp [h]
theorem ruleE_zero {has : ByteArray → Bool} {r : S47} (h : ruleE has r = 0) : visitN has 8 r.f1 = 0 ∧ condF r.f1.f0 = true := by
  unfold ruleE at h
  by_cases h1 : r.f0 < 0
  · rw [if_pos h1] at h; omega
  · rw [if_neg h1] at h
    by_cases h2 : 9 < r.f0
    · rw [if_pos h2] at h; omega
    · rw [if_neg h2] at h
      by_cases h3 : visitN has 8 r.f1 = 0
      · rw [if_pos h3] at h
        by_cases h4 : condF r.f1.f0 = true
        · exact ⟨h3, h4⟩
        · rw [if_neg h4] at h; omega
      · rw [if_neg h3] at h; exact absurd h h3
theorem rules_zero {has : ByteArray → Bool} {l : List S47} : rulesF has l = 0 ↔ l.length ≤ 32 ∧ ∀ r ∈ l, ruleE has r = 0 := by
  unfold rulesF
  by_cases h : 32 < (l.length : Int)
  · rw [if_pos h]
    constructor
    · intro h; omega
    · intro h; omega
  · rw [if_neg h, firstR_all]
    exact ⟨fun h2 => ⟨by omega, h2⟩, fun h2 => h2.2⟩
theorem gradeL_ev {f : List S40} (hf : f.length ≤ 1000) : ∀ (l : List S47) (i : Int), (∀ r ∈ l, visitN (hasF f) 8 r.f1 = 0) → Ev (fun k => gradeL k f l i) (gradeP f l i)
  | [], i, _ => Ev.const
  | r :: l, i, h => by
    obtain ⟨⟨v, e1, r1, r2⟩, -, -⟩ := val_all f hf 8 r.f1 (h r List.mem_cons_self)
    have ih := gradeL_ev hf l (i + 1) fun r hr => h r (List.mem_cons_of_mem _ hr)
    unfold gradeL gradeP
    refine Ev.bind e1 ?_
    obtain ⟨x, b⟩ := v
    cases ho : VN f 8 r.f1 with
    | none =>
      rw [ho] at r1
      have q1 : b = false := r1
      subst q1
      exact Ev.const
    | some y =>
      rw [ho] at r1
      have q1 : b = true := r1
      have q3 : x = y := r2 y ho
      subst q1
      subst q3
      simp only [if_true]
      by_cases h1 : x = 1
      · simp only [if_pos h1]; exact Ev.const
      · simp only [if_neg h1]; exact ih
theorem grade_ev {l : List S47} {f : List S40} (hf : f.length ≤ 1000) (hl : limR l = true) : Ev (fun k => rule_Grade.f k l f) (gradeAll f l) := by
  have hc : (limR l && limL f.length) = true := by
    rw [hl, Bool.true_and]; exact decide_eq_true (by omega)
  refine Ev.same (g := fun k => gradeF k l f) ?_ (fun k => by unfold rule_Grade.f; rw [if_pos hc])
  unfold gradeF gradeAll
  by_cases hv : rulesF (hasF f) l = 0
  · simp only [if_pos hv]
    exact gradeL_ev hf l 0 fun r hr => (ruleE_zero ((rules_zero.1 hv).2 r hr)).1
  · simp only [if_neg hv]
    exact Ev.const
end Go.Proofs.YthdgofbchfcfcaaDoor.PRu
