/- The walk of RuleLogic, joined with its law: it returns true. The table's fact is the row's; no other condition. -/
import Derived.Test.YthdgofbchfcfcaaDoorRuleRow
import Derived.Test.YthdgofbchfcfcaaDoorRuleLogic
import Derived.Test.YthdgofbchfcfcaaDoorRuleLgc
import Derived.Test.YthdgofbchfcfcaaDoorRuleUse
set_option linter.unusedVariables false
set_option linter.unusedSimpArgs false
namespace Go.Proofs.YthdgofbchfcfcaaDoor.PRu
open Go.RowKit Go.Proofs.YthdgofbchfcfcaaDoorW.PrintWords Go.Proofs.YthdgofbchfcfcaaDoorW.PrintLast Go.Proofs.YthdgofbchfcfcaaDoorW.PrintMore
theorem ev_arg {l : List S40} {a : S24} {x : Int} (hd : dep 6 a = true) (h : evR l a = (x, 0)) : Arg l a x := by
  unfold evR at h
  by_cases hv : visitN (hasF l) 8 a = 0
  · rw [if_pos hv] at h
    refine ⟨dep_up 6 a hd, hv, ?_⟩
    cases hn : VN l 8 a with
    | none => rw [hn] at h; cases h
    | some y => rw [hn] at h; cases h; rfl
  · rw [if_neg hv] at h
    exact absurd (Prod.mk.inj h).2 hv
theorem chk_arg {l : List S40} {a : S24} {x : Int} (h : Arg l a x) : checkF a (namesF l) = if condF a.f0 = true then 0 else 27 := by
  unfold checkF
  rw [hasN_names, if_pos h.v]
theorem lim_of {op n : Int} {s : ByteArray} {ar : List S24} {M : Nat} (hl : ar.length ≤ 2) (h : ∀ a ∈ ar, limB M a = true) : limB (M + 1) ⟨op, n, s, ar⟩ = true := by
  simp only [limB, Bool.and_eq_true, decide_eq_true_eq]
  exact ⟨by omega, List.all_eq_true.2 h⟩
theorem bad_mix {t : Bool} {a b : S24} (h : condF a.f0 = !condF b.f0) : badArg t [a, b] = true := by
  simp only [badArg, h]
  cases t <;> cases condF b.f0 <;> rfl
theorem and_min {x y : Int} (hx : x = 0 ∨ x = 1) (hy : y = 0 ∨ y = 1) : (if shortB 10 x = true then some x else opV 10 x y) = some (if y < x then y else x) := by
  rcases hx with rfl | rfl <;> rcases hy with rfl | rfl <;> rfl
theorem or_max {x y : Int} (hx : x = 0 ∨ x = 1) (hy : y = 0 ∨ y = 1) : (if shortB 11 x = true then some x else opV 11 x y) = some (if x < y then y else x) := by
  rcases hx with rfl | rfl <;> rcases hy with rfl | rfl <;> rfl
theorem bit_is (b : Bool) : ((bitV b == 1) == b) = true := by cases b <;> rfl
theorem lt_le (x y : Int) : (bitV (decide (x < y)) == 1 - bitV (decide (y ≤ x))) = true := by
  by_cases h : x < y
  · rw [decide_eq_true h, decide_eq_false (by omega)]; rfl
  · rw [decide_eq_false h, decide_eq_true (by omega)]; rfl
theorem logic_walk (W : World) (x : S24) (A : Option Addr) (c : Nat) (y : S24) (A1 : Option Addr) (c1 : Nat) (l : List S40) (A2 : Option Addr) (c2 : Nat) (hl : x.f3.length ≤ c) (hC : k24.C W A x.f3.length x.f3) (hl1 : y.f3.length ≤ c1) (hC1 : k24.C W A1 y.f3.length y.f3) (hl2 : l.length ≤ c2) (hC2 : k40.C W A2 l.length l) (hG : GlobG W) :
    Calls Tryd.prog 8 #[.agg #[.int .i64 x.f0, .int .i64 x.f1, .string x.f2, .slice A x.f3.length c], .agg #[.int .i64 y.f0, .int .i64 y.f1, .string y.f2, .slice A1 y.f3.length c1], .slice A2 l.length c2] W fun e w' => e = .returned (.bool true) ∧ Below W.heap.size W w' := by
  obtain ⟨k1, h1⟩ := count_ev x
  obtain ⟨k2, h2⟩ := count_ev y
  by_cases q1 : 100 < countF 6 x 100
  · exact way_1 _ _ _ _ _ _ _ _ _ _ _ _ _ _ _ _ hl hl1 hl2 hC hC1 hC2 hG k1 _ (h1 _ (by omega)) (decide_eq_true q1)
  by_cases q2 : 100 < countF 6 y 100
  · exact way_2 _ _ _ _ _ _ _ _ _ _ _ _ _ _ _ _ hl hl1 hl2 hC hC1 hC2 hG (k1 + k2) _ _ (h1 _ (by omega)) (h2 _ (by omega)) (decide_eq_false q1) (decide_eq_true q2)
  obtain ⟨k3, h3⟩ := short_ev l
  by_cases hs : shortF l = true
  case neg =>
    rw [show shortF l = false by simpa using hs] at h3
    exact way_3 _ _ _ _ _ _ _ _ _ _ _ _ _ _ _ _ hl hl1 hl2 hC hC1 hC2 hG (k1 + k2 + k3) _ _ (h1 _ (by omega)) (h2 _ (by omega)) (decide_eq_false q1) (decide_eq_false q2) (h3 _ (by omega))
  rw [hs] at h3
  have hlen := shortF_len hs
  obtain ⟨dx, lx⟩ := count_dep 6 x 100 (by decide) (by decide) (by omega)
  obtain ⟨dy, ly⟩ := count_dep 6 y 100 (by decide) (by decide) (by omega)
  obtain ⟨k4, h4⟩ := eval_ev (l := l) (e := x) (by omega) (lx 8)
  obtain ⟨k5, h5⟩ := eval_ev (l := l) (e := y) (by omega) (ly 8)
  obtain ⟨xa, ea, hxa⟩ : ∃ xa ea, evR l x = (xa, ea) := ⟨_, _, rfl⟩
  obtain ⟨xb, eb, hxb⟩ : ∃ xb eb, evR l y = (xb, eb) := ⟨_, _, rfl⟩
  rw [hxa] at h4
  rw [hxb] at h5
  by_cases e1 : ea = 0
  case neg =>
    exact way_4 _ _ _ _ _ _ _ _ _ _ _ _ _ _ _ _ hl hl1 hl2 hC hC1 hC2 hG (k1 + k2 + k3 + k4 + k5) _ _ (h1 _ (by omega)) (h2 _ (by omega)) (decide_eq_false q1) (decide_eq_false q2) (h3 _ (by omega)) xa ea xb eb (h4 _ (by omega)) (h5 _ (by omega)) (bne_iff_ne.2 e1)
  subst e1
  by_cases e2 : eb = 0
  case neg =>
    exact way_5 _ _ _ _ _ _ _ _ _ _ _ _ _ _ _ _ hl hl1 hl2 hC hC1 hC2 hG (k1 + k2 + k3 + k4 + k5) _ _ (h1 _ (by omega)) (h2 _ (by omega)) (decide_eq_false q1) (decide_eq_false q2) (h3 _ (by omega)) xa xb eb (h4 _ (by omega)) (h5 _ (by omega)) (bne_iff_ne.2 e2)
  subst e2
  have ax := ev_arg dx hxa
  have ay := ev_arg dy hxb
  obtain ⟨k6, h6⟩ := names_ev hlen
  have hN : (namesF l).length ≤ 60 := by rw [namesF_len]; exact hlen
  have cx := check_f (lx 8) hN
  have cy := check_f (ly 8) hN
  rw [chk_arg ax] at cx
  rw [chk_arg ay] at cy
  have mx2 : ∀ (op : Int), Ev (fun k => rule_Eval.f k op 0 E0 [x, y] l) (evR l ⟨op, 0, E0, [x, y]⟩) := fun op => eval_ev (l := l) (e := ⟨op, 0, E0, [x, y]⟩) (by omega) (lim_of (by simp) (by intro a ha; rcases List.mem_cons.1 ha with h | h; exact h ▸ lx 7; rw [List.mem_singleton.1 h]; exact ly 7))
  have ex : (⟨x.f0, x.f1, x.f2, x.f3⟩ : S24) = x := eta24 x
  have ey : (⟨y.f0, y.f1, y.f2, y.f3⟩ : S24) = y := eta24 y
  cases hcx : condF x.f0 <;> cases hcy : condF y.f0
  · -- numbers
    rw [hcx] at cx
    rw [hcy] at cy
    have a8 : Arg l ⟨8, 0, E0, [y, x]⟩ (bitV (decide (xb ≤ xa))) := ⟨by show [y, x].all (dep 6) = true; simp [dx, dy], two_vis ay ax (by decide) (by decide) (by rw [hcy]; rfl) (by rw [hcx]; rfl), by rw [two_n ay ax (by decide)]; rfl⟩
    obtain ⟨k7, h7⟩ := mx2 7
    obtain ⟨k8, h8⟩ := eval_ev (l := l) (e := ⟨9, 0, E0, [⟨8, 0, E0, [y, x]⟩]⟩) (by omega) (lim_of (by simp) (by intro a ha; rw [List.mem_singleton.1 ha]; exact lim_of (by simp) (by intro a ha; rcases List.mem_cons.1 ha with h | h; exact h ▸ ly 6; rw [List.mem_singleton.1 h]; exact lx 6)))
    obtain ⟨k9, h9⟩ := mx2 6
    rw [ev_two ax ay (by decide) (by decide) (by rw [hcx]; rfl) (by rw [hcy]; rfl) (z := bitV (decide (xa < xb))) rfl] at h7
    rw [ev_not a8 rfl] at h8
    rw [ev_two ax ay (by decide) (by decide) (by rw [hcx]; rfl) (by rw [hcy]; rfl) (z := bitV (xa == xb)) rfl] at h9
    exact way_9 _ _ _ _ _ _ _ _ _ _ _ _ _ _ _ _ hl hl1 hl2 hC hC1 hC2 hG (k1 + k2 + k3 + k4 + k5 + k6 + k7 + k8 + k9) _ _ (h1 _ (by omega)) (h2 _ (by omega)) (decide_eq_false q1) (decide_eq_false q2) (h3 _ (by omega)) xa xb _ (h4 _ (by omega)) (h5 _ (by omega)) (h6 _ (by omega)) 27 27 cx cy rfl rfl _ _ _
      (by rw [ex, ey]; exact h7 _ (by omega)) (by rw [ex, ey]; exact h8 _ (by omega)) (by rw [ex, ey]; exact h9 _ (by omega)) (lt_le xa xb) (bit_is _) (bit_is _)
  · rw [hcx] at cx
    rw [hcy] at cy
    obtain ⟨k7, h7⟩ := mx2 10
    obtain ⟨k8, h8⟩ := mx2 7
    rw [two_bad ax ay (by decide) (by decide) (bad_mix (by rw [hcx, hcy]; rfl))] at h7 h8
    exact way_8 _ _ _ _ _ _ _ _ _ _ _ _ _ _ _ _ hl hl1 hl2 hC hC1 hC2 hG (k1 + k2 + k3 + k4 + k5 + k6 + k7 + k8) _ _ (h1 _ (by omega)) (h2 _ (by omega)) (decide_eq_false q1) (decide_eq_false q2) (h3 _ (by omega)) xa xb _ (h4 _ (by omega)) (h5 _ (by omega)) (h6 _ (by omega)) 27 cx cy rfl _ _
      (by rw [ex, ey]; exact h7 _ (by omega)) (by rw [ex, ey]; exact h8 _ (by omega))
  · rw [hcx] at cx
    rw [hcy] at cy
    obtain ⟨k7, h7⟩ := mx2 10
    obtain ⟨k8, h8⟩ := mx2 7
    rw [two_bad ax ay (by decide) (by decide) (bad_mix (by rw [hcx, hcy]; rfl))] at h7 h8
    exact way_7 _ _ _ _ _ _ _ _ _ _ _ _ _ _ _ _ hl hl1 hl2 hC hC1 hC2 hG (k1 + k2 + k3 + k4 + k5 + k6 + k7 + k8) _ _ (h1 _ (by omega)) (h2 _ (by omega)) (decide_eq_false q1) (decide_eq_false q2) (h3 _ (by omega)) xa xb _ (h4 _ (by omega)) (h5 _ (by omega)) (h6 _ (by omega)) 27 cx cy rfl _ _
      (by rw [ex, ey]; exact h7 _ (by omega)) (by rw [ex, ey]; exact h8 _ (by omega))
  · -- conditions
    rw [hcx] at cx
    rw [hcy] at cy
    obtain ⟨-, -, bx⟩ := val_all l (by omega) 8 x ax.v
    obtain ⟨-, -, by'⟩ := val_all l (by omega) 8 y ay.v
    have bx := (bx xa ax.n).2 hcx
    have by' := (by' xb ay.n).2 hcy
    obtain ⟨k7, h7⟩ := eval_ev (l := l) (e := ⟨9, 0, E0, [x]⟩) (by omega) (lim_of (by simp) (by intro a ha; rw [List.mem_singleton.1 ha]; exact lx 7))
    obtain ⟨k8, h8⟩ := mx2 10
    obtain ⟨k9, h9⟩ := mx2 11
    rw [ev_not ax hcx] at h7
    rw [ev_two ax ay (by decide) (by decide) (by rw [hcx]; rfl) (by rw [hcy]; rfl) (and_min bx by')] at h8
    rw [ev_two ax ay (by decide) (by decide) (by rw [hcx]; rfl) (by rw [hcy]; rfl) (or_max bx by')] at h9
    have q5 : (1 - xa == wrap64 (1 - xa)) = true := by
      rw [wid (n := 1 - xa) (by omega) (by omega)]
      exact beq_self_eq_true _
    exact way_6 _ _ _ _ _ _ _ _ _ _ _ _ _ _ _ _ hl hl1 hl2 hC hC1 hC2 hG (k1 + k2 + k3 + k4 + k5 + k6 + k7 + k8 + k9) _ _ (h1 _ (by omega)) (h2 _ (by omega)) (decide_eq_false q1) (decide_eq_false q2) (h3 _ (by omega)) xa xb _ (h4 _ (by omega)) (h5 _ (by omega)) (h6 _ (by omega)) cx cy _ _ _
      (by rw [ex]; exact h7 _ (by omega)) (by rw [ex, ey]; exact h8 _ (by omega)) (by rw [ex, ey]; exact h9 _ (by omega)) q5 rfl rfl
end Go.Proofs.YthdgofbchfcfcaaDoor.PRu
namespace Go.Proofs.YthdgofbchfcfcaaDoor.RuleRow
open Go.Proofs.YthdgofbchfcfcaaDoor.PRu
theorem logicWalk (x : S24) (A : Option Addr) (c : Nat) (y : S24) (A1 : Option Addr) (c1 : Nat) (l : List S40) (A2 : Option Addr) (c2 : Nat) (W : World) (hl : x.f3.length ≤ c) (hC : k24.C W A x.f3.length x.f3) (hl1 : y.f3.length ≤ c1) (hC1 : k24.C W A1 y.f3.length y.f3) (hl2 : l.length ≤ c2) (hC2 : k40.C W A2 l.length l) (hG : GlobG W) :
    Calls Tryd.prog 8 #[.agg #[.int .i64 x.f0, .int .i64 x.f1, .string x.f2, .slice A x.f3.length c], .agg #[.int .i64 y.f0, .int .i64 y.f1, .string y.f2, .slice A1 y.f3.length c1], .slice A2 l.length c2] W fun e w' => e = .returned (.bool true) ∧ RowKit.Below W.heap.size W w' := logic_walk W x A c y A1 c1 l A2 c2 hl hC hl1 hC1 hl2 hC2 hG
end Go.Proofs.YthdgofbchfcfcaaDoor.RuleRow
