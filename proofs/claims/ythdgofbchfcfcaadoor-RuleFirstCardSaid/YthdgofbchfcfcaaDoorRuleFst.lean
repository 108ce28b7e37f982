/- The statement about the first rule whose condition holds, as a printed function: it answers true. No condition. -/
import Derived.Test.YthdgofbchfcfcaaDoorRuleGrd
import Derived.Test.YthdgofbchfcfcaaDoorPRux21
set_option linter.unusedVariables false
set_option linter.unusedSimpArgs false
namespace Go.Proofs.YthdgofbchfcfcaaDoor.PRu
open Go.RowKit Go.Proofs.YthdgofbchfcfcaaDoorW.PrintWords Go.Proofs.YthdgofbchfcfcaaDoorW.PrintLast Go.Proofs.YthdgofbchfcfcaaDoorW.PrintMore
/-- The rule m is the first whose condition holds. -/
def Hit (f : List S40) (l : List S47) (m : Nat) : Prop := ∃ h : m < l.length, (∀ j (hj : j < m), VN f 8 (l[j]'(by omega)).f1 = some 0) ∧ VN f 8 l[m].f1 = some 1
theorem Hit.grade {f : List S40} : ∀ {l : List S47} {m : Nat} (h : Hit f l m) (i : Int), gradeP f l i = ((l[m]'(h.1)).f0, i + m, 0)
  | [], m, h, i => by obtain ⟨h, _⟩ := h; simp at h
  | r :: l, 0, h, i => by
    obtain ⟨h0, -, h2⟩ := h
    have h2 : VN f 8 r.f1 = some 1 := h2
    simp only [gradeP, h2, if_true, List.getElem_cons_zero]
    simp
  | r :: l, m + 1, h, i => by
    obtain ⟨h0, h1, h2⟩ := h
    have hr : VN f 8 r.f1 = some 0 := h1 0 (by omega)
    have hm : Hit f l m := ⟨by simpa using h0, fun j hj => by have := h1 (j + 1) (by omega); simpa using this, by simpa using h2⟩
    have ih := hm.grade (i + 1)
    unfold gradeP
    rw [hr]
    show (if (0 : Int) = 1 then (r.f0, i, 0) else gradeP f l (i + 1)) = _
    rw [if_neg (by decide), ih, List.getElem_cons_succ]
    rw [show i + 1 + (m : Int) = i + ((m + 1 : Nat) : Int) by omega]
/-- What Grade may come to. -/
theorem grade_shape (f : List S40) : ∀ (l : List S47) (i : Int), (∀ r ∈ l, ∀ y, VN f 8 r.f1 = some y → y = 0 ∨ y = 1) →
    (∃ m, Hit f l m) ∨ (gradeP f l i = (0, -1, 0) ∧ ∀ r ∈ l, VN f 8 r.f1 = some 0) ∨ gradeP f l i = (0, 0, 9)
  | [], i, _ => .inr (.inl ⟨rfl, by simp⟩)
  | r :: l, i, h => by
    cases hv : VN f 8 r.f1 with
    | none =>
      refine .inr (.inr ?_)
      unfold gradeP
      rw [hv]
    | some y =>
      rcases h r List.mem_cons_self y hv with e | e
      · subst e
        have hg : gradeP f (r :: l) i = gradeP f l (i + 1) := by
          unfold gradeP
          rw [hv]
          show (if (0 : Int) = 1 then (r.f0, i, 0) else gradeP f l (i + 1)) = _
          rw [if_neg (by decide)]
          cases l <;> rfl
        rcases grade_shape f l (i + 1) fun r hr => h r (List.mem_cons_of_mem _ hr) with ⟨m, hm⟩ | ⟨h1, h2⟩ | h1
        · refine .inl ⟨m + 1, ?_⟩
          obtain ⟨a, b, c⟩ := hm
          refine ⟨by simpa using a, fun j hj => ?_, by simpa using c⟩
          cases j with
          | zero => exact hv
          | succ j => simpa using b j (by omega)
        · refine .inr (.inl ⟨hg.trans h1, fun x hx => ?_⟩)
          rcases List.mem_cons.1 hx with e | hx
          · exact e ▸ hv
          · exact h2 x hx
        · exact .inr (.inr (hg.trans h1))
      · subst e
        exact .inl ⟨0, ⟨by simp, fun j hj => by omega, hv⟩⟩
theorem fi_j0 (k : Nat) (l : List S47) (f : List S40) : sawmilllaw43_RuleFirst.j0 (k + 1) l f false = (rule_Grade.f k l f).bind fun bt464 => (if bt464.2.2 = 0 then (if bt464.2.1 < (-1) then (sawmilllaw43_RuleFirst.j1 k l f bt464.1 bt464.2.1 true) else (sawmilllaw43_RuleFirst.j1 k l f bt464.1 bt464.2.1 (decide (bt464.2.1 ≥ (l.length : Int))))) else (if bt464.1 = 0 then (if bt464.2.1 = 0 then ((sawmilllaw43_awake.f).bind fun t467 => (some t467)) else (some false)) else (some false))) := by
  simp only [sawmilllaw43_RuleFirst.j0]
  rfl
theorem fi_j1 (k : Nat) (l : List S47) (f : List S40) (g a : Int) : sawmilllaw43_RuleFirst.j1 (k + 1) l f g a false = if a < 0 then (sawmilllaw43_RuleFirst.j2 k l f g a (l.length : Int)) else (sawmilllaw43_RuleFirst.j2 k l f g a a) := by
  simp only [sawmilllaw43_RuleFirst.j1]
  rfl
theorem fi_j2 (k : Nat) (l : List S47) (f : List S40) (g a m : Int) : sawmilllaw43_RuleFirst.j2 (k + 1) l f g a m = sawmilllaw43_RuleFirst.l0 k l f g a m 0 := by
  simp only [sawmilllaw43_RuleFirst.j2]
def fiEnd (k : Nat) (l : List S47) (f : List S40) (g a : Int) : Option Bool := if a < 0 then (if g = 0 then ((sawmilllaw43_awake.f).bind fun t471 => (some t471)) else (some false)) else (if 0 ≤ a then (if a < (l.length : Int) then ((rule_Eval.f k ((rd_T47 l a).f1.f0) ((rd_T47 l a).f1.f1) ((rd_T47 l a).f1.f2) ((rd_T47 l a).f1.f3) f).bind fun bt473 => (if 0 ≤ (wrap64 (a + 1)) then (if (wrap64 (a + 1)) ≤ (l.length : Int) then ((rule_Grade.f k (l.take ((wrap64 (a + 1)) : Int).toNat) f).bind fun bt479 => (if a ≤ (l.length : Int) then ((rule_Grade.f k (l.drop (a : Int).toNat) f).bind fun bt486 => (if g = ((rd_T47 l a).f0) then (if bt473.1 = 1 then (if bt473.2 = 0 then (if bt479.1 = g then (if bt479.2.1 = a then (if bt479.2.2 = 0 then (if bt486.1 = g then (if bt486.2.1 = 0 then (if bt486.2.2 = 0 then ((sawmilllaw43_awake.f).bind fun t490 => (some t490)) else (some false)) else (some false)) else (some false)) else (some false)) else (some false)) else (some false)) else (some false)) else (some false)) else (some false))) else (none))) else (none)) else (none))) else (none)) else (none))
theorem fi_l0 (k : Nat) (l : List S47) (f : List S40) (g a m i : Int) : sawmilllaw43_RuleFirst.l0 (k + 1) l f g a m i = if i < m then (if 0 ≤ i then (if i < (l.length : Int) then ((rule_Eval.f k ((rd_T47 l i).f1.f0) ((rd_T47 l i).f1.f1) ((rd_T47 l i).f1.f2) ((rd_T47 l i).f1.f3) f).bind fun bt469 => (if bt469.1 = 0 then (if bt469.2 = 0 then (sawmilllaw43_RuleFirst.l0 k l f g a m (wrap64 (i + 1))) else (some false)) else (some false))) else (none)) else (none)) else fiEnd k l f g a := by
  unfold fiEnd
  simp only [sawmilllaw43_RuleFirst.l0]
theorem fi_loop (l : List S47) (f : List S40) (hf : f.length ≤ 60) (hl : l.length ≤ 1000) (hlim : ∀ r ∈ l, limB 8 r.f1 = true) (g a : Int) (m : Nat) (hm : m ≤ l.length) (h0 : ∀ j (hj : j < m), evR f (l[j]'(by omega)).f1 = (0, 0)) (he : Ev (fun k => fiEnd k l f g a) true) :
    ∀ (d i : Nat), i + d = m → Ev (fun k => sawmilllaw43_RuleFirst.l0 k l f g a (m : Int) (i : Int)) true
  | 0, i, hi => Ev.step he fun k => by rw [fi_l0, if_neg (by omega)]
  | d + 1, i, hi => by
    have hlt : i < l.length := by omega
    have ih := fi_loop l f hf hl hlim g a m hm h0 he d (i + 1) (by omega)
    refine Ev.step (g := fun k => (rule_Eval.f k l[i].f1.f0 l[i].f1.f1 l[i].f1.f2 l[i].f1.f3 f).bind fun bt469 => (if bt469.1 = 0 then (if bt469.2 = 0 then (sawmilllaw43_RuleFirst.l0 k l f g a (m : Int) ((i + 1 : Nat) : Int)) else (some false)) else (some false))) (Ev.bind (eval_ev (by omega) (hlim _ (List.getElem_mem hlt))) ?_) (fun k => ?_)
    · rw [h0 i (by omega)]
      simp only [if_true]
      exact ih
    · rw [fi_l0, if_pos (by omega), if_pos (by omega), if_pos (by omega), rd_at47 l i hlt, wid (n := (i : Int) + 1) (by omega) (by omega), show (i : Int) + 1 = ((i + 1 : Nat) : Int) by omega]
theorem rules_sub {has : ByteArray → Bool} {l l' : List S47} (h : rulesF has l = 0) (hs : ∀ r ∈ l', r ∈ l) (hn : l'.length ≤ l.length) : rulesF has l' = 0 :=
  rules_zero.2 ⟨by have := (rules_zero.1 h).1; omega, fun r hr => (rules_zero.1 h).2 r (hs r hr)⟩
theorem limR_sub {l l' : List S47} (h : limR l = true) (hs : ∀ r ∈ l', r ∈ l) (hn : l'.length ≤ l.length) : limR l' = true := by
  unfold limR limL at *
  rw [Bool.and_eq_true] at h ⊢
  refine ⟨decide_eq_true (by have := of_decide_eq_true h.1; omega), List.all_eq_true.2 fun x hx => List.all_eq_true.1 h.2 x (hs x hx)⟩
theorem evR_of {f : List S40} {e : S24} {y : Int} (h : visitN (hasF f) 8 e = 0) (hv : VN f 8 e = some y) : evR f e = (y, 0) := by
  unfold evR
  rw [if_pos h, hv]
  rfl
theorem first_true (l : List S47) (f : List S40) : Ev (fun k => sawmilllaw43_RuleFirst.f k l f) true := by
  unfold sawmilllaw43_RuleFirst.f
  have hj : Ev (fun k => sawmilllaw43_RuleFirst.j0 k l f true) true := Ev.one fun k => by rw [sawmilllaw43_RuleFirst.j0, if_pos rfl]; rfl
  refine Ev.bind (table_ev l) ?_
  by_cases hs : tableF l = true
  · rw [hs]
    simp only [if_true]
    refine Ev.bind (short_ev f) ?_
    by_cases hl : shortF f = true
    · rw [hl]
      have hlen := shortF_len hl
      have hlim := tableF_limR hs
      have hn := tableF_len hs
      have hall : ∀ r ∈ l, limB 8 r.f1 = true := fun r hr => (small_lim (tableF_at hs hr)).1
      refine Ev.step (Ev.bind (grade_ev (by omega) hlim) ?_) (fun k => fi_j0 k l f)
      by_cases hr : rulesF (hasF f) l = 0
      · have hz := (rules_zero.1 hr).2
        have hb : ∀ r ∈ l, ∀ y, VN f 8 r.f1 = some y → y = 0 ∨ y = 1 := fun r h1 y hy => by
          obtain ⟨-, -, h3⟩ := val_all f (by omega) 8 r.f1 (ruleE_zero (hz r h1)).1
          exact (h3 y hy).2 (ruleE_zero (hz r h1)).2
        have hG : gradeAll f l = gradeP f l 0 := by unfold gradeAll; rw [if_pos hr]
        rcases grade_shape f l 0 hb with ⟨m, hm⟩ | ⟨h1, h2⟩ | h1
        · have hg := hm.grade 0
          rw [show (0 : Int) + (m : Int) = (m : Int) by omega] at hg
          obtain ⟨hml, hm1, hm2⟩ := id hm
          rw [hG, hg]
          simp only [if_true, if_neg (show ¬ (m : Int) < -1 by omega), show decide ((m : Int) ≥ (l.length : Int)) = false from decide_eq_false (by omega)]
          refine Ev.step ?_ (fun k => fi_j1 k l f _ _)
          simp only [if_neg (show ¬ (m : Int) < 0 by omega)]
          refine Ev.step ?_ (fun k => fi_j2 k l f _ _ _)
          have hT : Hit f (l.take (m + 1)) m := ⟨by simp; omega, fun j hj => by simpa using hm1 j hj, by simpa using hm2⟩
          have hD : Hit f (l.drop m) 0 := ⟨by simp; omega, fun j hj => by omega, by simpa using hm2⟩
          have gT : gradeAll f (l.take (m + 1)) = (l[m].f0, (m : Int), 0) := by
            unfold gradeAll
            rw [if_pos (rules_sub hr (fun r h => List.mem_of_mem_take h) (by simp; omega)), hT.grade 0, List.getElem_take]
            simp
          have gD : gradeAll f (l.drop m) = (l[m].f0, 0, 0) := by
            unfold gradeAll
            rw [if_pos (rules_sub hr (fun r h => List.mem_of_mem_drop h) (by simp)), hD.grade 0, List.getElem_drop]
            simp
          have key := fi_loop l f hlen (by omega) hall l[m].f0 (m : Int) m (by omega) (fun j hj => evR_of (ruleE_zero (hz _ (List.getElem_mem (by omega)))).1 (hm1 j hj)) ?_ m 0 (by omega)
          · exact key
          · unfold fiEnd
            refine Ev.same (g := fun k => (rule_Eval.f k l[m].f1.f0 l[m].f1.f1 l[m].f1.f2 l[m].f1.f3 f).bind fun bt473 => ((rule_Grade.f k (l.take (m + 1)) f).bind fun bt479 => ((rule_Grade.f k (l.drop m) f).bind fun bt486 => (if l[m].f0 = l[m].f0 then (if bt473.1 = 1 then (if bt473.2 = 0 then (if bt479.1 = l[m].f0 then (if bt479.2.1 = (m : Int) then (if bt479.2.2 = 0 then (if bt486.1 = l[m].f0 then (if bt486.2.1 = 0 then (if bt486.2.2 = 0 then ((sawmilllaw43_awake.f).bind fun t490 => (some t490)) else (some false)) else (some false)) else (some false)) else (some false)) else (some false)) else (some false)) else (some false)) else (some false)) else (some false))))) ?_ (fun k => ?_)
            · refine Ev.bind (eval_ev (by omega) (hall _ (List.getElem_mem hml))) (Ev.bind (grade_ev (by omega) (limR_sub hlim (fun r h => List.mem_of_mem_take h) (by simp; omega))) (Ev.bind (grade_ev (by omega) (limR_sub hlim (fun r h => List.mem_of_mem_drop h) (by simp))) ?_))
              rw [evR_of (ruleE_zero (hz _ (List.getElem_mem hml))).1 hm2, gT, gD]
              simp only [if_true]
              exact awake_ev
            · rw [if_neg (by omega), if_pos (by omega), if_pos (by omega), rd_at47 l m hml, wid (n := (m : Int) + 1) (by omega) (by omega)]
              simp only [if_pos (show 0 ≤ (m : Int) + 1 by omega), if_pos (show (m : Int) + 1 ≤ (l.length : Int) by omega), if_pos (show (m : Int) ≤ (l.length : Int) by omega), show ((m : Int) + 1).toNat = m + 1 by omega, show ((m : Int)).toNat = m by omega]
        · rw [hG, h1]
          simp only [if_true, if_neg (show ¬ (-1 : Int) < -1 by decide), show decide ((-1 : Int) ≥ (l.length : Int)) = false from decide_eq_false (by omega)]
          refine Ev.step ?_ (fun k => fi_j1 k l f _ _)
          simp only [if_pos (show (-1 : Int) < 0 by decide)]
          refine Ev.step ?_ (fun k => fi_j2 k l f _ _ _)
          refine fi_loop l f hlen (by omega) hall 0 (-1) l.length (Nat.le_refl _) (fun j hj => evR_of (ruleE_zero (hz _ (List.getElem_mem (by omega)))).1 (h2 _ (List.getElem_mem (by omega)))) ?_ l.length 0 (by omega)
          unfold fiEnd
          refine Ev.same awake_ev fun k => ?_
          rw [if_pos (by decide), if_pos rfl]
        · rw [hG, h1]
          exact awake_ev
      · have hG : gradeAll f l = (0, 0, rulesF (hasF f) l) := by unfold gradeAll; rw [if_neg hr]
        rw [hG]
        simp only [if_neg hr, if_true]
        exact awake_ev
    · rw [show shortF f = false by simpa using hl]
      exact hj
  · rw [show tableF l = false by simpa using hs]
    simp only [Bool.false_eq_true, if_false]
    exact hj
end Go.Proofs.YthdgofbchfcfcaaDoor.PRu
