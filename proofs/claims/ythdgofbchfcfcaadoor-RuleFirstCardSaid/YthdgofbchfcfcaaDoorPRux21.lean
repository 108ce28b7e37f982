/- What the functions of the package rule, of its reference and of the statements return, as Lean functions, and the walks that show it. No condition but those that each theorem names. Written by a program of this session. -/
import Derived.Test.YthdgofbchfcfcaaDoorPRux0
import Derived.Test.YthdgofbchfcfcaaDoorPRux1
import Derived.Test.YthdgofbchfcfcaaDoorPRux16
import Derived.Test.YthdgofbchfcfcaaDoorRuleHand
namespace Go.Proofs.YthdgofbchfcfcaaDoor.PRu
open Go.RowKit Go.Proofs.YthdgofbchfcfcaaDoorW.PrintWords Go.Proofs.YthdgofbchfcfcaaDoorW.PrintLast Go.Proofs.YthdgofbchfcfcaaDoorW.PrintMore
attribute [local go_sem] binOp_string_gtr2 max2_int min2_int max_two min_two max_three min_three max_four min_four   -- for this text's walks alone
set_option linter.unusedVariables false
set_option linter.unusedSimpArgs false

/-! ### sawmilllaw43_RuleFirst: function 7 -/
mutual
def sawmilllaw43_RuleFirst.j0 : Nat → List (S47) → List (S40) → Bool → Option (Bool)
  | 0, _, _, _ => none
  | k + 1, x0, x1, x27 => if x27 = true then ((sawmilllaw43_awake.f).bind fun t463 => (some t463)) else ((rule_Grade.f k x0 x1).bind fun bt464 => (if bt464.2.2 = 0 then (if bt464.2.1 < (-1) then (sawmilllaw43_RuleFirst.j1 k x0 x1 bt464.1 bt464.2.1 true) else (sawmilllaw43_RuleFirst.j1 k x0 x1 bt464.1 bt464.2.1 (decide (bt464.2.1 ≥ (x0.length : Int))))) else (if bt464.1 = 0 then (if bt464.2.1 = 0 then ((sawmilllaw43_awake.f).bind fun t467 => (some t467)) else (some false)) else (some false))))
def sawmilllaw43_RuleFirst.j1 : Nat → List (S47) → List (S40) → Int → Int → Bool → Option (Bool)
  | 0, _, _, _, _, _ => none
  | k + 1, x0, x1, x5, x6, x54 => if x54 = true then (some false) else (if x6 < 0 then (sawmilllaw43_RuleFirst.j2 k x0 x1 x5 x6 (x0.length : Int)) else (sawmilllaw43_RuleFirst.j2 k x0 x1 x5 x6 x6))
def sawmilllaw43_RuleFirst.j2 : Nat → List (S47) → List (S40) → Int → Int → Int → Option (Bool)
  | 0, _, _, _, _, _ => none
  | k + 1, x0, x1, x5, x6, x8 => sawmilllaw43_RuleFirst.l0 k x0 x1 x5 x6 x8 0
def sawmilllaw43_RuleFirst.l0 : Nat → List (S47) → List (S40) → Int → Int → Int → Int → Option (Bool)
  | 0, _, _, _, _, _, _ => none
  | k + 1, x0, x1, x5, x6, x8, x9 => if x9 < x8 then (if 0 ≤ x9 then (if x9 < (x0.length : Int) then ((rule_Eval.f k ((rd_T47 x0 x9).f1.f0) ((rd_T47 x0 x9).f1.f1) ((rd_T47 x0 x9).f1.f2) ((rd_T47 x0 x9).f1.f3) x1).bind fun bt469 => (if bt469.1 = 0 then (if bt469.2 = 0 then (sawmilllaw43_RuleFirst.l0 k x0 x1 x5 x6 x8 (wrap64 (x9 + 1))) else (some false)) else (some false))) else (none)) else (none)) else (if x6 < 0 then (if x5 = 0 then ((sawmilllaw43_awake.f).bind fun t471 => (some t471)) else (some false)) else (if 0 ≤ x6 then (if x6 < (x0.length : Int) then ((rule_Eval.f k ((rd_T47 x0 x6).f1.f0) ((rd_T47 x0 x6).f1.f1) ((rd_T47 x0 x6).f1.f2) ((rd_T47 x0 x6).f1.f3) x1).bind fun bt473 => (if 0 ≤ (wrap64 (x6 + 1)) then (if (wrap64 (x6 + 1)) ≤ (x0.length : Int) then ((rule_Grade.f k (x0.take ((wrap64 (x6 + 1)) : Int).toNat) x1).bind fun bt479 => (if x6 ≤ (x0.length : Int) then ((rule_Grade.f k (x0.drop (x6 : Int).toNat) x1).bind fun bt486 => (if x5 = ((rd_T47 x0 x6).f0) then (if bt473.1 = 1 then (if bt473.2 = 0 then (if bt479.1 = x5 then (if bt479.2.1 = x6 then (if bt479.2.2 = 0 then (if bt486.1 = x5 then (if bt486.2.1 = 0 then (if bt486.2.2 = 0 then ((sawmilllaw43_awake.f).bind fun t490 => (some t490)) else (some false)) else (some false)) else (some false)) else (some false)) else (some false)) else (some false)) else (some false)) else (some false)) else (some false))) else (none))) else (none)) else (none))) else (none)) else (none)))
end
def sawmilllaw43_RuleFirst.f (k : Nat) (l0 : List (S47)) (l1 : List (S40)) : Option (Bool) := (sawmilllaw43_table.f k l0).bind fun t461 => (if t461 = true then ((sawmilllaw43_short.f k l1).bind fun t462 => (sawmilllaw43_RuleFirst.j0 k l0 l1 (!t462))) else (sawmilllaw43_RuleFirst.j0 k l0 l1 true))
theorem sawmilllaw43_RuleFirst.mono_l : ∀ k, (∀ y0 y1 y2, LeO (sawmilllaw43_RuleFirst.j0 k y0 y1 y2) (sawmilllaw43_RuleFirst.j0 (k + 1) y0 y1 y2)) ∧ (∀ y0 y1 y2 y3 y4, LeO (sawmilllaw43_RuleFirst.j1 k y0 y1 y2 y3 y4) (sawmilllaw43_RuleFirst.j1 (k + 1) y0 y1 y2 y3 y4)) ∧ (∀ y0 y1 y2 y3 y4, LeO (sawmilllaw43_RuleFirst.j2 k y0 y1 y2 y3 y4) (sawmilllaw43_RuleFirst.j2 (k + 1) y0 y1 y2 y3 y4)) ∧ (∀ y0 y1 y2 y3 y4 y5, LeO (sawmilllaw43_RuleFirst.l0 k y0 y1 y2 y3 y4 y5) (sawmilllaw43_RuleFirst.l0 (k + 1) y0 y1 y2 y3 y4 y5))
  | 0 => ⟨fun _ _ _ r h => by simp [sawmilllaw43_RuleFirst.j0] at h, fun _ _ _ _ _ r h => by simp [sawmilllaw43_RuleFirst.j1] at h, fun _ _ _ _ _ r h => by simp [sawmilllaw43_RuleFirst.j2] at h, fun _ _ _ _ _ _ r h => by simp [sawmilllaw43_RuleFirst.l0] at h⟩
  | k + 1 => by
    obtain ⟨ih0, ih1, ih2, ih3⟩ := sawmilllaw43_RuleFirst.mono_l k
    refine ⟨?_, ?_, ?_, ?_⟩
    · intro y0 y1 y2
      unfold sawmilllaw43_RuleFirst.j0
      repeat' first
      | (with_reducible exact ih0 _ _ _)
      | (with_reducible exact ih1 _ _ _ _ _)
      | (with_reducible exact ih2 _ _ _ _ _)
      | (with_reducible exact ih3 _ _ _ _ _ _)
      | (with_reducible exact rule_Eval.mono _ _ _ _ _ _)
      | (with_reducible exact rule_Grade.mono _ _ _)
      | (with_reducible exact sawmilllaw43_short.mono _ _)
      | (with_reducible exact sawmilllaw43_table.mono _ _)
      | (with_reducible exact LeO.refl _)
      | (with_reducible exact LeO.none _)
      | (with_reducible refine LeO.ite ?_ ?_)
      | (with_reducible refine LeO.bind ?_ (fun _ => ?_))
      | exact ih0 _ _ _
      | exact ih1 _ _ _ _ _
      | exact ih2 _ _ _ _ _
      | exact ih3 _ _ _ _ _ _
      | exact rule_Eval.mono _ _ _ _ _ _
      | exact rule_Grade.mono _ _ _
      | exact sawmilllaw43_short.mono _ _
      | exact sawmilllaw43_table.mono _ _
      | exact LeO.none _
      | refine LeO.ite ?_ ?_
      | refine LeO.bind ?_ (fun _ => ?_)
    · intro y0 y1 y2 y3 y4
      unfold sawmilllaw43_RuleFirst.j1
      repeat' first
      | (with_reducible exact ih0 _ _ _)
      | (with_reducible exact ih1 _ _ _ _ _)
      | (with_reducible exact ih2 _ _ _ _ _)
      | (with_reducible exact ih3 _ _ _ _ _ _)
      | (with_reducible exact rule_Eval.mono _ _ _ _ _ _)
      | (with_reducible exact rule_Grade.mono _ _ _)
      | (with_reducible exact sawmilllaw43_short.mono _ _)
      | (with_reducible exact sawmilllaw43_table.mono _ _)
      | (with_reducible exact LeO.refl _)
      | (with_reducible exact LeO.none _)
      | (with_reducible refine LeO.ite ?_ ?_)
      | (with_reducible refine LeO.bind ?_ (fun _ => ?_))
      | exact ih0 _ _ _
      | exact ih1 _ _ _ _ _
      | exact ih2 _ _ _ _ _
      | exact ih3 _ _ _ _ _ _
      | exact rule_Eval.mono _ _ _ _ _ _
      | exact rule_Grade.mono _ _ _
      | exact sawmilllaw43_short.mono _ _
      | exact sawmilllaw43_table.mono _ _
      | exact LeO.none _
      | refine LeO.ite ?_ ?_
      | refine LeO.bind ?_ (fun _ => ?_)
    · intro y0 y1 y2 y3 y4
      unfold sawmilllaw43_RuleFirst.j2
      repeat' first
      | (with_reducible exact ih0 _ _ _)
      | (with_reducible exact ih1 _ _ _ _ _)
      | (with_reducible exact ih2 _ _ _ _ _)
      | (with_reducible exact ih3 _ _ _ _ _ _)
      | (with_reducible exact rule_Eval.mono _ _ _ _ _ _)
      | (with_reducible exact rule_Grade.mono _ _ _)
      | (with_reducible exact sawmilllaw43_short.mono _ _)
      | (with_reducible exact sawmilllaw43_table.mono _ _)
      | (with_reducible exact LeO.refl _)
      | (with_reducible exact LeO.none _)
      | (with_reducible refine LeO.ite ?_ ?_)
      | (with_reducible refine LeO.bind ?_ (fun _ => ?_))
      | exact ih0 _ _ _
      | exact ih1 _ _ _ _ _
      | exact ih2 _ _ _ _ _
      | exact ih3 _ _ _ _ _ _
      | exact rule_Eval.mono _ _ _ _ _ _
      | exact rule_Grade.mono _ _ _
      | exact sawmilllaw43_short.mono _ _
      | exact sawmilllaw43_table.mono _ _
      | exact LeO.none _
      | refine LeO.ite ?_ ?_
      | refine LeO.bind ?_ (fun _ => ?_)
    · intro y0 y1 y2 y3 y4 y5
      unfold sawmilllaw43_RuleFirst.l0
      repeat' first
      | (with_reducible exact ih0 _ _ _)
      | (with_reducible exact ih1 _ _ _ _ _)
      | (with_reducible exact ih2 _ _ _ _ _)
      | (with_reducible exact ih3 _ _ _ _ _ _)
      | (with_reducible exact rule_Eval.mono _ _ _ _ _ _)
      | (with_reducible exact rule_Grade.mono _ _ _)
      | (with_reducible exact sawmilllaw43_short.mono _ _)
      | (with_reducible exact sawmilllaw43_table.mono _ _)
      | (with_reducible exact LeO.refl _)
      | (with_reducible exact LeO.none _)
      | (with_reducible refine LeO.ite ?_ ?_)
      | (with_reducible refine LeO.bind ?_ (fun _ => ?_))
      | exact ih0 _ _ _
      | exact ih1 _ _ _ _ _
      | exact ih2 _ _ _ _ _
      | exact ih3 _ _ _ _ _ _
      | exact rule_Eval.mono _ _ _ _ _ _
      | exact rule_Grade.mono _ _ _
      | exact sawmilllaw43_short.mono _ _
      | exact sawmilllaw43_table.mono _ _
      | exact LeO.none _
      | refine LeO.ite ?_ ?_
      | refine LeO.bind ?_ (fun _ => ?_)
theorem sawmilllaw43_RuleFirst.mono : ∀ a0 a1 k, LeO (sawmilllaw43_RuleFirst.f k a0 a1) (sawmilllaw43_RuleFirst.f (k + 1) a0 a1) := by
  intro a0 a1 k
  obtain ⟨ih0, ih1, ih2, ih3⟩ := sawmilllaw43_RuleFirst.mono_l k
  unfold sawmilllaw43_RuleFirst.f
  repeat' first
      | (with_reducible exact ih0 _ _ _)
      | (with_reducible exact ih1 _ _ _ _ _)
      | (with_reducible exact ih2 _ _ _ _ _)
      | (with_reducible exact ih3 _ _ _ _ _ _)
      | (with_reducible exact rule_Eval.mono _ _ _ _ _ _)
      | (with_reducible exact rule_Grade.mono _ _ _)
      | (with_reducible exact sawmilllaw43_short.mono _ _)
      | (with_reducible exact sawmilllaw43_table.mono _ _)
      | (with_reducible exact LeO.refl _)
      | (with_reducible exact LeO.none _)
      | (with_reducible refine LeO.ite ?_ ?_)
      | (with_reducible refine LeO.bind ?_ (fun _ => ?_))
      | exact ih0 _ _ _
      | exact ih1 _ _ _ _ _
      | exact ih2 _ _ _ _ _
      | exact ih3 _ _ _ _ _ _
      | exact rule_Eval.mono _ _ _ _ _ _
      | exact rule_Grade.mono _ _ _
      | exact sawmilllaw43_short.mono _ _
      | exact sawmilllaw43_table.mono _ _
      | exact LeO.none _
      | refine LeO.ite ?_ ?_
      | refine LeO.bind ?_ (fun _ => ?_)
set_option maxHeartbeats 8000000 in
set_option maxRecDepth 100000 in
theorem sawmilllaw43_RuleFirst.calls (k : Nat) (A0 : Option Addr) (c0 : Nat) (l0 : List (S47)) (A1 : Option Addr) (c1 : Nat) (l1 : List (S40)) (r : Bool) (w : World) (hr0 : Kd.C k47 w A0 l0.length l0) (hc0 : l0.length ≤ c0) (hr1 : Kd.C k40 w A1 l1.length l1) (hc1 : l1.length ≤ c1) (hG : GlobG w) (h : sawmilllaw43_RuleFirst.f k l0 l1 = some r) :
    Calls Tryd.prog 7 #[.slice A0 l0.length c0, .slice A1 l1.length c1] w fun e w' => e = .returned (.bool r) ∧ Below w.heap.size w w' := by
  have hu24 := Tryd.underlying24
  have HG := Aside0.mk hG
  clear hG
  have HR0 := Aside0.mk hr0
  have HC0 := Aside0.mk hc0
  clear hr0 hc0
  have HR1 := Aside0.mk hr1
  have HC1 := Aside0.mk hc1
  clear hr1 hc1
  have HB := Aside0.mk (Below.refl w.heap.size w)
  have H : ((sawmilllaw43_table.f k l0).bind fun t461 => (if t461 = true then ((sawmilllaw43_short.f k l1).bind fun t462 => (sawmilllaw43_RuleFirst.j0 k l0 l1 (!t462))) else (sawmilllaw43_RuleFirst.j0 k l0 l1 true))) = some r := h
  clear h
  have HC3 := Aside0.mk H
  clear H
  go_enter Tryd.func7, Tryd.ntmps7
  go_upto_region 1 with (fail)
  go_cut [27] (fun v27 wc => ∃ (kq : Nat) (x27_2 : Bool), v27 = .bool x27_2 ∧ Aside0 (sawmilllaw43_RuleFirst.j0 kq l0 l1 x27_2 = some r) ∧ Aside0 (kq ≤ k) ∧ Aside0 (Below w.heap.size w wc))
  case first =>
    have H := HC3.out
    clear HC3
    replace H := Option.bind_eq_some_iff.mp H
    obtain ⟨t461, A40, H⟩ := H
    replace H : (if t461 = true then ((sawmilllaw43_short.f k l1).bind fun t462 => (sawmilllaw43_RuleFirst.j0 k l0 l1 (!t462))) else (sawmilllaw43_RuleFirst.j0 k l0 l1 true)) = some r := H
    have A4 := Aside0.mk A40
    clear A40
    by_cases c5 : t461 = true
    · subst c5
      have H1 : ((sawmilllaw43_short.f k l1).bind fun t462 => (sawmilllaw43_RuleFirst.j0 k l0 l1 (!t462))) = some r := by rw [if_pos rfl] at H; exact H
      clear H
      have H := H1
      clear H1
      replace H := Option.bind_eq_some_iff.mp H
      obtain ⟨t462, A60, H⟩ := H
      replace H : (sawmilllaw43_RuleFirst.j0 k l0 l1 (!t462)) = some r := H
      have A6 := Aside0.mk A60
      clear A60
      have H' := Aside0.mk H
      clear H
      go_wp2_with (first | ((with_reducible refine gate_callee (f := 22) rfl ?_); refine goesL_ (some 21) rfl rfl Tryd.func22 (by kernel_rfl) rfl #[.slice A0 l0.length c0] rfl (by (try simp only [List.map_toArray, List.map_cons, List.map_nil]); first | done | rfl | (simp only [List.length_drop, List.length_take]; rfl)) ?_; (with_reducible refine (sawmilllaw43_table.calls k _ _ l0 true _ ?side1 ?side2 A4.out).mono ?_); (case side1 => repeat (first | exact (Kd.C_below HR0.out HB.out) | (with_reducible refine Kd.C_alloc ?_ _) | (with_reducible refine Kd.C_drewN ?_ _) | (with_reducible refine Kd.C_drew ?_))); (case side2 => exact HC0.out); rintro e w7 ⟨rfl, hb⟩; refine ⟨_, rfl, ?_⟩; have n0_ := Aside0.mk (below_step (by repeat (first | (with_reducible first | exact HB.out | apply below_alloc | apply pw_below_drewN | apply below_drew1) | exact HB.out)) hb); clear HB; have HB := n0_; clear n0_; (try clear hb); (try clear hb2); (try clear hk); (try clear hi)) | (go_at_call 11; (with_reducible refine (sawmilllaw43_short.calls k _ _ l1 t462 _ ?side1 ?side2 A6.out).mono ?_); (case side1 => repeat (first | exact (Kd.C_below HR1.out HB.out) | (with_reducible refine Kd.C_alloc ?_ _) | (with_reducible refine Kd.C_drewN ?_ _) | (with_reducible refine Kd.C_drew ?_))); (case side2 => exact HC1.out); rintro e w' ⟨rfl, ⟨nd, rfl⟩⟩))
      go_meet
      case rel => exact ⟨_, (!t462), (by first | rfl | (simp; done) | (simp [*]; done)), H', ⟨by first | omega | exact Nat.le_refl _⟩, ⟨by repeat (first | (with_reducible first | exact HB.out | apply below_alloc | apply pw_below_drewN | apply below_drew1) | exact HB.out)⟩⟩
    · replace c5 := Bool.eq_false_iff.mpr c5
      subst c5
      have H1 : (sawmilllaw43_RuleFirst.j0 k l0 l1 true) = some r := by rw [if_neg (show ¬ (false = true) by decide)] at H; exact H
      clear H
      have H := H1
      clear H1
      have H' := Aside0.mk H
      clear H
      go_wp2_with (first | ((with_reducible refine gate_callee (f := 22) rfl ?_); refine goesL_ (some 21) rfl rfl Tryd.func22 (by kernel_rfl) rfl #[.slice A0 l0.length c0] rfl (by (try simp only [List.map_toArray, List.map_cons, List.map_nil]); first | done | rfl | (simp only [List.length_drop, List.length_take]; rfl)) ?_; (with_reducible refine (sawmilllaw43_table.calls k _ _ l0 false _ ?side1 ?side2 A4.out).mono ?_); (case side1 => repeat (first | exact (Kd.C_below HR0.out HB.out) | (with_reducible refine Kd.C_alloc ?_ _) | (with_reducible refine Kd.C_drewN ?_ _) | (with_reducible refine Kd.C_drew ?_))); (case side2 => exact HC0.out); rintro e w8 ⟨rfl, hb⟩; refine ⟨_, rfl, ?_⟩; have n0_ := Aside0.mk (below_step (by repeat (first | (with_reducible first | exact HB.out | apply below_alloc | apply pw_below_drewN | apply below_drew1) | exact HB.out)) hb); clear HB; have HB := n0_; clear n0_; (try clear hb); (try clear hb2); (try clear hk); (try clear hi)))
      go_meet
      case rel => exact ⟨_, (true), (by first | rfl | (simp; done) | (simp [*]; done)), H', ⟨by first | omega | exact Nat.le_refl _⟩, ⟨by repeat (first | (with_reducible first | exact HB.out | apply below_alloc | apply pw_below_drewN | apply below_drew1) | exact HB.out)⟩⟩
  case rest =>
    clear HC3
    try clear c1
    try clear c2
    try clear p2
    try clear c5
    try clear c7
    obtain ⟨kq, x27_2, rfl, HA, HJ2, HB⟩ := hcut
    cases kq with
    | zero => exact absurd HA.out (by simp [sawmilllaw43_RuleFirst.j0])
    | succ kj2 =>
      have H := HA.out
      clear HA
      simp only [sawmilllaw43_RuleFirst.j0] at H
      by_cases c9 : x27_2 = true
      · subst c9
        have H1 : ((sawmilllaw43_awake.f).bind fun t463 => (some t463)) = some r := by rw [if_pos rfl] at H; exact H
        clear H
        have H := H1
        clear H1
        replace H := Option.bind_eq_some_iff.mp H
        obtain ⟨t463, A100, H⟩ := H
        replace H : (some t463) = some r := H
        have A10 := Aside0.mk A100
        clear A100
        obtain rfl := Option.some.inj H
        go_wp2_with (first | ((with_reducible refine gate_callee (f := 12) rfl ?_); refine goesL_ (some 28) rfl rfl Tryd.func12 (by kernel_rfl) rfl #[] rfl (by (try simp only [List.map_toArray, List.map_cons, List.map_nil]); first | done | rfl | (simp only [List.length_drop, List.length_take]; rfl)) ?_; (with_reducible refine (sawmilllaw43_awake.calls  t463 _ ?side1 A10.out).mono ?_); (case side1 => first | exact HG.out | exact GlobG.drewN HG.out _ | exact GlobG.below HG.out (by repeat (first | (with_reducible first | exact HB.out | apply below_alloc | apply pw_below_drewN | apply below_drew1) | exact HB.out))); rintro e w11 ⟨rfl, hb⟩; refine ⟨_, rfl, ?_⟩; have n0_ := Aside0.mk (below_step (by repeat (first | (with_reducible first | exact HB.out | apply below_alloc | apply pw_below_drewN | apply below_drew1) | exact HB.out)) hb); clear HB; have HB := n0_; clear n0_; (try clear hb); (try clear hb2); (try clear hk); (try clear hi)))
        go_ret
        exact ⟨by first | rfl | (simp [errW_none, errW_some] <;> rfl) | (simp [*, errW_none, errW_some] <;> rfl), by repeat (first | (with_reducible first | exact HB.out | apply below_alloc | apply pw_below_drewN | apply below_drew1) | exact HB.out)⟩
      · replace c9 := Bool.eq_false_iff.mpr c9
        subst c9
        have H1 : ((rule_Grade.f kj2 l0 l1).bind fun bt464 => (if bt464.2.2 = 0 then (if bt464.2.1 < (-1) then (sawmilllaw43_RuleFirst.j1 kj2 l0 l1 bt464.1 bt464.2.1 true) else (sawmilllaw43_RuleFirst.j1 kj2 l0 l1 bt464.1 bt464.2.1 (decide (bt464.2.1 ≥ (l0.length : Int))))) else (if bt464.1 = 0 then (if bt464.2.1 = 0 then ((sawmilllaw43_awake.f).bind fun t467 => (some t467)) else (some false)) else (some false)))) = some r := by rw [if_neg (show ¬ (false = true) by decide)] at H; exact H
        clear H
        have H := H1
        clear H1
        replace H := Option.bind_eq_some_iff.mp H
        obtain ⟨⟨t464, t465, t466⟩, A120, H⟩ := H
        replace H : (if t466 = 0 then (if t465 < (-1) then (sawmilllaw43_RuleFirst.j1 kj2 l0 l1 t464 t465 true) else (sawmilllaw43_RuleFirst.j1 kj2 l0 l1 t464 t465 (decide (t465 ≥ (l0.length : Int))))) else (if t464 = 0 then (if t465 = 0 then ((sawmilllaw43_awake.f).bind fun t467 => (some t467)) else (some false)) else (some false))) = some r := H
        have A12 := Aside0.mk A120
        clear A120
        by_cases c13 : t466 = 0
        · rw [if_pos c13] at H
          have c13b0 : (t466 == 0) = true := beq_iff_eq.mpr c13
          have c13b1 : (t466 != 0) = false := bne_eq_false_iff_eq.mpr c13
          clear c13
          have HC14 := Aside0.mk H
          clear H
          go_upto_region 6 with (first | ((with_reducible refine gate_callee (f := 23) rfl ?_); refine goesL_ (some 32) rfl rfl Tryd.func23 (by kernel_rfl) rfl #[.slice A0 l0.length c0, .slice A1 l1.length c1] rfl (by (try simp only [List.map_toArray, List.map_cons, List.map_nil]); first | done | rfl | (simp only [List.length_drop, List.length_take]; rfl)) ?_; (with_reducible refine (rule_Grade.calls kj2 _ _ l0 _ _ l1 t464 t465 t466 _ ?side1 ?side2 ?side3 ?side4 ?side5 A12.out).mono ?_); (case side1 => repeat (first | exact (Kd.C_below HR0.out HB.out) | (with_reducible refine Kd.C_alloc ?_ _) | (with_reducible refine Kd.C_drewN ?_ _) | (with_reducible refine Kd.C_drew ?_))); (case side2 => exact HC0.out); (case side3 => repeat (first | exact (Kd.C_below HR1.out HB.out) | (with_reducible refine Kd.C_alloc ?_ _) | (with_reducible refine Kd.C_drewN ?_ _) | (with_reducible refine Kd.C_drew ?_))); (case side4 => exact HC1.out); (case side5 => first | exact HG.out | exact GlobG.drewN HG.out _ | exact GlobG.below HG.out (by repeat (first | (with_reducible first | exact HB.out | apply below_alloc | apply pw_below_drewN | apply below_drew1) | exact HB.out))); rintro e w15 ⟨rfl, hb⟩; refine ⟨_, rfl, ?_⟩; have n0_ := Aside0.mk (below_step (by repeat (first | (with_reducible first | exact HB.out | apply below_alloc | apply pw_below_drewN | apply below_drew1) | exact HB.out)) hb); clear HB; have HB := n0_; clear n0_; (try clear hb); (try clear hb2); (try clear hk); (try clear hi)))
          (try simp only [Act.put, List.setIfInBounds_toArray, List.set_cons_zero, List.set_cons_succ])
          go_cut [54] (fun v54 wc => ∃ (kq : Nat) (x54_13 : Bool), v54 = .bool x54_13 ∧ Aside0 (sawmilllaw43_RuleFirst.j1 kq l0 l1 t464 t465 x54_13 = some r) ∧ Aside0 (kq ≤ kj2) ∧ Aside0 (Below w.heap.size w wc))
          case first =>
            have H := HC14.out
            clear HC14
            by_cases c16 : t465 < (-1)
            · rw [if_pos c16] at H
              have c16b0 : decide (t465 < (-1)) = true := decide_eq_true c16
              clear c16
              (first | rw [c16b0] | (simp only [i64_w, i32_w]; rw [c16b0]) | skip)
              have H' := Aside0.mk H
              clear H
              go_wp2
              go_meet
              case rel => exact ⟨_, (true), (by first | rfl | (simp; done) | (simp [*]; done)), H', ⟨by have := HJ2.out; first | omega | exact Nat.le_refl _⟩, ⟨by repeat (first | (with_reducible first | exact HB.out | apply below_alloc | apply pw_below_drewN | apply below_drew1) | exact HB.out)⟩⟩
            · rw [if_neg c16] at H
              have c16b0 : decide (t465 < (-1)) = false := decide_eq_false c16
              clear c16
              (first | rw [c16b0] | (simp only [i64_w, i32_w]; rw [c16b0]) | skip)
              have H' := Aside0.mk H
              clear H
              go_wp2
              go_meet
              case rel => exact ⟨_, (decide (t465 ≥ (l0.length : Int))), (by first | rfl | (simp; done) | (simp [*]; done)), H', ⟨by have := HJ2.out; first | omega | exact Nat.le_refl _⟩, ⟨by repeat (first | (with_reducible first | exact HB.out | apply below_alloc | apply pw_below_drewN | apply below_drew1) | exact HB.out)⟩⟩
          case rest =>
            clear HC14
            try clear c1
            try clear c2
            try clear p2
            try clear c5
            try clear c7
            try clear c9
            try clear c12
            try clear c13
            try clear c13b0
            try clear c13b1
            try clear c16
            try clear c16b0
            try clear p2
            obtain ⟨kq, x54_13, rfl, HA, HJ13, HB⟩ := hcut
            cases kq with
            | zero => exact absurd HA.out (by simp [sawmilllaw43_RuleFirst.j1])
            | succ kj13 =>
              have H := HA.out
              clear HA
              simp only [sawmilllaw43_RuleFirst.j1] at H
              by_cases c17 : x54_13 = true
              · subst c17
                have H1 : (some false) = some r := by rw [if_pos rfl] at H; exact H
                clear H
                have H := H1
                clear H1
                obtain rfl := Option.some.inj H
                go_wp2
                go_ret
                exact ⟨by first | rfl | (simp [errW_none, errW_some] <;> rfl) | (simp [*, errW_none, errW_some] <;> rfl), by repeat (first | (with_reducible first | exact HB.out | apply below_alloc | apply pw_below_drewN | apply below_drew1) | exact HB.out)⟩
              · replace c17 := Bool.eq_false_iff.mpr c17
                subst c17
                have H1 : (if t465 < 0 then (sawmilllaw43_RuleFirst.j2 kj13 l0 l1 t464 t465 (l0.length : Int)) else (sawmilllaw43_RuleFirst.j2 kj13 l0 l1 t464 t465 t465)) = some r := by rw [if_neg (show ¬ (false = true) by decide)] at H; exact H
                clear H
                have H := H1
                clear H1
                have HC18 := Aside0.mk H
                clear H
                go_upto_if 57 with (fail)
                go_cut [8] (fun v8 wc => ∃ (kq : Nat) (x8_17 : Int), v8 = .int .i64 x8_17 ∧ Aside0 (sawmilllaw43_RuleFirst.j2 kq l0 l1 t464 t465 x8_17 = some r) ∧ Aside0 (kq ≤ kj13) ∧ Aside0 (Below w.heap.size w wc))
                case first =>
                  have H := HC18.out
                  clear HC18
                  by_cases c19 : t465 < 0
                  · rw [if_pos c19] at H
                    have c19b0 : decide (t465 < 0) = true := decide_eq_true c19
                    clear c19
                    (first | rw [c19b0] | (simp only [i64_w, i32_w]; rw [c19b0]) | skip)
                    have H' := Aside0.mk H
                    clear H
                    go_wp2
                    go_meet
                    case rel => exact ⟨_, ((l0.length : Int)), (by first | rfl | (simp; done) | (simp [*]; done)), H', ⟨by have := HJ2.out; have := HJ13.out; first | omega | exact Nat.le_refl _⟩, ⟨by repeat (first | (with_reducible first | exact HB.out | apply below_alloc | apply pw_below_drewN | apply below_drew1) | exact HB.out)⟩⟩
                  · rw [if_neg c19] at H
                    have c19b0 : decide (t465 < 0) = false := decide_eq_false c19
                    clear c19
                    (first | rw [c19b0] | (simp only [i64_w, i32_w]; rw [c19b0]) | skip)
                    have H' := Aside0.mk H
                    clear H
                    go_wp2
                    go_meet
                    case rel => exact ⟨_, (t465), (by first | rfl | (simp; done) | (simp [*]; done)), H', ⟨by have := HJ2.out; have := HJ13.out; first | omega | exact Nat.le_refl _⟩, ⟨by repeat (first | (with_reducible first | exact HB.out | apply below_alloc | apply pw_below_drewN | apply below_drew1) | exact HB.out)⟩⟩
                case rest =>
                  clear HC18
                  try clear c1
                  try clear c2
                  try clear p2
                  try clear c5
                  try clear c7
                  try clear c9
                  try clear c12
                  try clear c13
                  try clear c13b0
                  try clear c13b1
                  try clear c16
                  try clear c16b0
                  try clear c17
                  try clear c19
                  try clear c19b0
                  try clear p2
                  obtain ⟨kq, x8_17, rfl, HA, HJ17, HB⟩ := hcut
                  cases kq with
                  | zero => exact absurd HA.out (by simp [sawmilllaw43_RuleFirst.j2])
                  | succ kj17 =>
                    have H := HA.out
                    clear HA
                    simp only [sawmilllaw43_RuleFirst.j2] at H
                    have H' := Aside0.mk H
                    clear H
                    go_wp2
                    go_loopg [9] kj17 (fun kq v9 w' => ∃ (x9_4 : Int), v9 = .int .i64 x9_4 ∧ Aside0 (sawmilllaw43_RuleFirst.l0 kq l0 l1 t464 t465 x8_17 x9_4 = some r) ∧ Aside0 (kq ≤ kj17) ∧ Aside0 (Below w.heap.size w w'))
                    case atStart => exact ⟨(0), (by first | rfl | (simp; done) | (simp [*]; done)), H', ⟨Nat.le_refl _⟩, ⟨by repeat (first | (with_reducible first | exact HB.out | apply below_alloc | apply pw_below_drewN | apply below_drew1) | exact HB.out)⟩⟩
                    case round =>
                      clear H'
                      try clear c1
                      try clear c2
                      try clear p2
                      try clear c5
                      try clear c7
                      try clear c9
                      try clear c12
                      try clear c13
                      try clear c13b0
                      try clear c13b1
                      try clear c16
                      try clear c16b0
                      try clear c17
                      try clear c19
                      try clear c19b0
                      try clear p2
                      obtain ⟨x9_4, rfl, HA, HK4, HB⟩ := hrel
                      cases gk with
                      | zero => exact absurd HA.out (by simp [sawmilllaw43_RuleFirst.l0])
                      | succ k4 =>
                        have H := HA.out
                        clear HA
                        simp only [sawmilllaw43_RuleFirst.l0] at H
                        by_cases c20 : x9_4 < x8_17
                        · rw [if_pos c20] at H
                          have c20b0 : decide (x9_4 < x8_17) = true := decide_eq_true c20
                          clear c20
                          by_cases c21 : 0 ≤ x9_4
                          · rw [if_pos c21] at H
                            have c21b0 : decide (0 ≤ x9_4) = true := decide_eq_true c21
                            clear c21
                            by_cases c22 : x9_4 < (l0.length : Int)
                            · rw [if_pos c22] at H
                              have c22b0 : decide (x9_4 < (l0.length : Int)) = true := decide_eq_true c22
                              clear c22
                              replace H := Option.bind_eq_some_iff.mp H
                              obtain ⟨⟨t469, t470⟩, A230, H⟩ := H
                              replace H : (if t469 = 0 then (if t470 = 0 then (sawmilllaw43_RuleFirst.l0 k4 l0 l1 t464 t465 x8_17 (wrap64 (x9_4 + 1))) else (some false)) else (some false)) = some r := H
                              have A23 := Aside0.mk A230
                              clear A230
                              by_cases c24 : t469 = 0
                              · rw [if_pos c24] at H
                                have c24b0 : (t469 == 0) = true := beq_iff_eq.mpr c24
                                have c24b1 : (t469 != 0) = false := bne_eq_false_iff_eq.mpr c24
                                clear c24
                                by_cases c25 : t470 = 0
                                · rw [if_pos c25] at H
                                  have c25b0 : (t470 == 0) = true := beq_iff_eq.mpr c25
                                  have c25b1 : (t470 != 0) = false := bne_eq_false_iff_eq.mpr c25
                                  clear c25
                                  have H' := Aside0.mk H
                                  clear H
                                  have p468 : 0 ≤ (x9_4 : Int) := of_decide_eq_true (by first | (with_reducible assumption) | assumption)
                                  have q468 : x9_4 < (l0.length : Int) := of_decide_eq_true (by first | (with_reducible assumption) | assumption)
                                  obtain ⟨ad468, A468_4, c468_4, e468, hx468_0, hx468_1, hx468_2, hx468_3, hx468_4, hl468_4, hi468_4⟩ := at_T47 HR0.out x9_4 p468 q468
                                  cases e468
                                  replace hx468_0 := (HB.out.cell (World.block_lt_of_cell? w _ hx468_0)).trans hx468_0
                                  replace hx468_1 := (HB.out.cell (World.block_lt_of_cell? w _ hx468_1)).trans hx468_1
                                  replace hx468_2 := (HB.out.cell (World.block_lt_of_cell? w _ hx468_2)).trans hx468_2
                                  replace hx468_3 := (HB.out.cell (World.block_lt_of_cell? w _ hx468_3)).trans hx468_3
                                  replace hx468_4 := (HB.out.cell (World.block_lt_of_cell? w _ hx468_4)).trans hx468_4
                                  have HR468_4 := Aside0.mk hi468_4
                                  have HC468_4 := Aside0.mk hl468_4
                                  clear hi468_4 hl468_4
                                  replace p468 := eq_true p468
                                  replace q468 := eq_true q468
                                  go_wp2_with (first | ((with_reducible refine gate_callee (f := 19) rfl ?_); refine goesL_ (some 72) rfl rfl Tryd.func19 (by kernel_rfl) rfl #[.agg #[.int .i64 ((rd_T47 l0 x9_4).f1.f0), .int .i64 ((rd_T47 l0 x9_4).f1.f1), .string ((rd_T47 l0 x9_4).f1.f2), .slice A468_4 ((rd_T47 l0 x9_4).f1.f3).length c468_4], .slice A1 l1.length c1] rfl (by (try simp only [List.map_toArray, List.map_cons, List.map_nil]); first | done | rfl | (simp only [List.length_drop, List.length_take]; rfl)) ?_; (with_reducible refine (rule_Eval.calls k4 ((rd_T47 l0 x9_4).f1.f0) ((rd_T47 l0 x9_4).f1.f1) ((rd_T47 l0 x9_4).f1.f2) _ _ ((rd_T47 l0 x9_4).f1.f3) _ _ l1 t469 t470 _ ?side1 ?side2 ?side3 ?side4 ?side5 A23.out).mono ?_); (case side1 => repeat (first | exact (Kd.C_below HR468_4.out HB.out) | (with_reducible refine Kd.C_alloc ?_ _) | (with_reducible refine Kd.C_drewN ?_ _) | (with_reducible refine Kd.C_drew ?_))); (case side2 => exact HC468_4.out); (case side3 => repeat (first | exact (Kd.C_below HR1.out HB.out) | (with_reducible refine Kd.C_alloc ?_ _) | (with_reducible refine Kd.C_drewN ?_ _) | (with_reducible refine Kd.C_drew ?_))); (case side4 => exact HC1.out); (case side5 => first | exact HG.out | exact GlobG.drewN HG.out _ | exact GlobG.below HG.out (by repeat (first | (with_reducible first | exact HB.out | apply below_alloc | apply pw_below_drewN | apply below_drew1) | exact HB.out))); rintro e w26 ⟨rfl, hb⟩; refine ⟨_, rfl, ?_⟩; have n0_ := Aside0.mk (below_step (by repeat (first | (with_reducible first | exact HB.out | apply below_alloc | apply pw_below_drewN | apply below_drew1) | exact HB.out)) hb); clear HB; have HB := n0_; clear n0_; (try clear hb); (try clear hb2); (try clear hk); (try clear hi)))
                                  go_roundg k4
                                  case measure => have := HJ2.out; have := HJ13.out; have := HJ17.out; have := HK4.out; omega
                                  case rel => exact ⟨(wrap64 (x9_4 + 1)), (by first | rfl | (simp; done) | (simp [*]; done)), H', ⟨by have := HJ2.out; have := HJ13.out; have := HJ17.out; have := HK4.out; omega⟩, ⟨by repeat (first | (with_reducible first | exact HB.out | apply below_alloc | apply pw_below_drewN | apply below_drew1) | exact HB.out)⟩⟩
                                · rw [if_neg c25] at H
                                  have c25b0 : (t470 == 0) = false := beq_eq_false_iff_ne.mpr c25
                                  have c25b1 : (t470 != 0) = true := bne_iff_ne.mpr c25
                                  obtain rfl := Option.some.inj H
                                  have p468 : 0 ≤ (x9_4 : Int) := of_decide_eq_true (by first | (with_reducible assumption) | assumption)
                                  have q468 : x9_4 < (l0.length : Int) := of_decide_eq_true (by first | (with_reducible assumption) | assumption)
                                  obtain ⟨ad468, A468_4, c468_4, e468, hx468_0, hx468_1, hx468_2, hx468_3, hx468_4, hl468_4, hi468_4⟩ := at_T47 HR0.out x9_4 p468 q468
                                  cases e468
                                  replace hx468_0 := (HB.out.cell (World.block_lt_of_cell? w _ hx468_0)).trans hx468_0
                                  replace hx468_1 := (HB.out.cell (World.block_lt_of_cell? w _ hx468_1)).trans hx468_1
                                  replace hx468_2 := (HB.out.cell (World.block_lt_of_cell? w _ hx468_2)).trans hx468_2
                                  replace hx468_3 := (HB.out.cell (World.block_lt_of_cell? w _ hx468_3)).trans hx468_3
                                  replace hx468_4 := (HB.out.cell (World.block_lt_of_cell? w _ hx468_4)).trans hx468_4
                                  have HR468_4 := Aside0.mk hi468_4
                                  have HC468_4 := Aside0.mk hl468_4
                                  clear hi468_4 hl468_4
                                  replace p468 := eq_true p468
                                  replace q468 := eq_true q468
                                  go_wp2_with (first | ((with_reducible refine gate_callee (f := 19) rfl ?_); refine goesL_ (some 72) rfl rfl Tryd.func19 (by kernel_rfl) rfl #[.agg #[.int .i64 ((rd_T47 l0 x9_4).f1.f0), .int .i64 ((rd_T47 l0 x9_4).f1.f1), .string ((rd_T47 l0 x9_4).f1.f2), .slice A468_4 ((rd_T47 l0 x9_4).f1.f3).length c468_4], .slice A1 l1.length c1] rfl (by (try simp only [List.map_toArray, List.map_cons, List.map_nil]); first | done | rfl | (simp only [List.length_drop, List.length_take]; rfl)) ?_; (with_reducible refine (rule_Eval.calls k4 ((rd_T47 l0 x9_4).f1.f0) ((rd_T47 l0 x9_4).f1.f1) ((rd_T47 l0 x9_4).f1.f2) _ _ ((rd_T47 l0 x9_4).f1.f3) _ _ l1 t469 t470 _ ?side1 ?side2 ?side3 ?side4 ?side5 A23.out).mono ?_); (case side1 => repeat (first | exact (Kd.C_below HR468_4.out HB.out) | (with_reducible refine Kd.C_alloc ?_ _) | (with_reducible refine Kd.C_drewN ?_ _) | (with_reducible refine Kd.C_drew ?_))); (case side2 => exact HC468_4.out); (case side3 => repeat (first | exact (Kd.C_below HR1.out HB.out) | (with_reducible refine Kd.C_alloc ?_ _) | (with_reducible refine Kd.C_drewN ?_ _) | (with_reducible refine Kd.C_drew ?_))); (case side4 => exact HC1.out); (case side5 => first | exact HG.out | exact GlobG.drewN HG.out _ | exact GlobG.below HG.out (by repeat (first | (with_reducible first | exact HB.out | apply below_alloc | apply pw_below_drewN | apply below_drew1) | exact HB.out))); rintro e w27 ⟨rfl, hb⟩; refine ⟨_, rfl, ?_⟩; have n0_ := Aside0.mk (below_step (by repeat (first | (with_reducible first | exact HB.out | apply below_alloc | apply pw_below_drewN | apply below_drew1) | exact HB.out)) hb); clear HB; have HB := n0_; clear n0_; (try clear hb); (try clear hb2); (try clear hk); (try clear hi)))
                                  go_ret
                                  exact ⟨by first | rfl | (simp [errW_none, errW_some] <;> rfl) | (simp [*, errW_none, errW_some] <;> rfl), by repeat (first | (with_reducible first | exact HB.out | apply below_alloc | apply pw_below_drewN | apply below_drew1) | exact HB.out)⟩
                              · rw [if_neg c24] at H
                                have c24b0 : (t469 == 0) = false := beq_eq_false_iff_ne.mpr c24
                                have c24b1 : (t469 != 0) = true := bne_iff_ne.mpr c24
                                obtain rfl := Option.some.inj H
                                have p468 : 0 ≤ (x9_4 : Int) := of_decide_eq_true (by first | (with_reducible assumption) | assumption)
                                have q468 : x9_4 < (l0.length : Int) := of_decide_eq_true (by first | (with_reducible assumption) | assumption)
                                obtain ⟨ad468, A468_4, c468_4, e468, hx468_0, hx468_1, hx468_2, hx468_3, hx468_4, hl468_4, hi468_4⟩ := at_T47 HR0.out x9_4 p468 q468
                                cases e468
                                replace hx468_0 := (HB.out.cell (World.block_lt_of_cell? w _ hx468_0)).trans hx468_0
                                replace hx468_1 := (HB.out.cell (World.block_lt_of_cell? w _ hx468_1)).trans hx468_1
                                replace hx468_2 := (HB.out.cell (World.block_lt_of_cell? w _ hx468_2)).trans hx468_2
                                replace hx468_3 := (HB.out.cell (World.block_lt_of_cell? w _ hx468_3)).trans hx468_3
                                replace hx468_4 := (HB.out.cell (World.block_lt_of_cell? w _ hx468_4)).trans hx468_4
                                have HR468_4 := Aside0.mk hi468_4
                                have HC468_4 := Aside0.mk hl468_4
                                clear hi468_4 hl468_4
                                replace p468 := eq_true p468
                                replace q468 := eq_true q468
                                go_wp2_with (first | ((with_reducible refine gate_callee (f := 19) rfl ?_); refine goesL_ (some 72) rfl rfl Tryd.func19 (by kernel_rfl) rfl #[.agg #[.int .i64 ((rd_T47 l0 x9_4).f1.f0), .int .i64 ((rd_T47 l0 x9_4).f1.f1), .string ((rd_T47 l0 x9_4).f1.f2), .slice A468_4 ((rd_T47 l0 x9_4).f1.f3).length c468_4], .slice A1 l1.length c1] rfl (by (try simp only [List.map_toArray, List.map_cons, List.map_nil]); first | done | rfl | (simp only [List.length_drop, List.length_take]; rfl)) ?_; (with_reducible refine (rule_Eval.calls k4 ((rd_T47 l0 x9_4).f1.f0) ((rd_T47 l0 x9_4).f1.f1) ((rd_T47 l0 x9_4).f1.f2) _ _ ((rd_T47 l0 x9_4).f1.f3) _ _ l1 t469 t470 _ ?side1 ?side2 ?side3 ?side4 ?side5 A23.out).mono ?_); (case side1 => repeat (first | exact (Kd.C_below HR468_4.out HB.out) | (with_reducible refine Kd.C_alloc ?_ _) | (with_reducible refine Kd.C_drewN ?_ _) | (with_reducible refine Kd.C_drew ?_))); (case side2 => exact HC468_4.out); (case side3 => repeat (first | exact (Kd.C_below HR1.out HB.out) | (with_reducible refine Kd.C_alloc ?_ _) | (with_reducible refine Kd.C_drewN ?_ _) | (with_reducible refine Kd.C_drew ?_))); (case side4 => exact HC1.out); (case side5 => first | exact HG.out | exact GlobG.drewN HG.out _ | exact GlobG.below HG.out (by repeat (first | (with_reducible first | exact HB.out | apply below_alloc | apply pw_below_drewN | apply below_drew1) | exact HB.out))); rintro e w28 ⟨rfl, hb⟩; refine ⟨_, rfl, ?_⟩; have n0_ := Aside0.mk (below_step (by repeat (first | (with_reducible first | exact HB.out | apply below_alloc | apply pw_below_drewN | apply below_drew1) | exact HB.out)) hb); clear HB; have HB := n0_; clear n0_; (try clear hb); (try clear hb2); (try clear hk); (try clear hi)))
                                go_ret
                                exact ⟨by first | rfl | (simp [errW_none, errW_some] <;> rfl) | (simp [*, errW_none, errW_some] <;> rfl), by repeat (first | (with_reducible first | exact HB.out | apply below_alloc | apply pw_below_drewN | apply below_drew1) | exact HB.out)⟩
                            · rw [if_neg c22] at H
                              exact absurd H (by simp)
                          · rw [if_neg c21] at H
                            exact absurd H (by simp)
                        · rw [if_neg c20] at H
                          have c20b0 : decide (x9_4 < x8_17) = false := decide_eq_false c20
                          clear c20
                          by_cases c29 : t465 < 0
                          · rw [if_pos c29] at H
                            have c29b0 : decide (t465 < 0) = true := decide_eq_true c29
                            clear c29
                            by_cases c30 : t464 = 0
                            · rw [if_pos c30] at H
                              have c30b0 : (t464 == 0) = true := beq_iff_eq.mpr c30
                              have c30b1 : (t464 != 0) = false := bne_eq_false_iff_eq.mpr c30
                              clear c30
                              replace H := Option.bind_eq_some_iff.mp H
                              obtain ⟨t471, A310, H⟩ := H
                              replace H : (some t471) = some r := H
                              have A31 := Aside0.mk A310
                              clear A310
                              obtain rfl := Option.some.inj H
                              go_wp2_with (first | (go_at_call 12; (with_reducible refine (sawmilllaw43_awake.calls  t471 _ ?side1 A31.out).mono ?_); (case side1 => first | exact HG.out | exact GlobG.drewN HG.out _ | exact GlobG.below HG.out (by repeat (first | (with_reducible first | exact HB.out | apply below_alloc | apply pw_below_drewN | apply below_drew1) | exact HB.out))); rintro e w32 ⟨rfl, hb⟩; have n0_ := Aside0.mk (below_step (by repeat (first | (with_reducible first | exact HB.out | apply below_alloc | apply pw_below_drewN | apply below_drew1) | exact HB.out)) hb); clear HB; have HB := n0_; clear n0_; (try clear hb); (try clear hb2); (try clear hk); (try clear hi)))
                              go_ret
                              exact ⟨by first | rfl | (simp [errW_none, errW_some] <;> rfl) | (simp [*, errW_none, errW_some] <;> rfl), by repeat (first | (with_reducible first | exact HB.out | apply below_alloc | apply pw_below_drewN | apply below_drew1) | exact HB.out)⟩
                            · rw [if_neg c30] at H
                              have c30b0 : (t464 == 0) = false := beq_eq_false_iff_ne.mpr c30
                              have c30b1 : (t464 != 0) = true := bne_iff_ne.mpr c30
                              obtain rfl := Option.some.inj H
                              go_wp2
                              go_ret
                              exact ⟨by first | rfl | (simp [errW_none, errW_some] <;> rfl) | (simp [*, errW_none, errW_some] <;> rfl), by repeat (first | (with_reducible first | exact HB.out | apply below_alloc | apply pw_below_drewN | apply below_drew1) | exact HB.out)⟩
                          · rw [if_neg c29] at H
                            have c29b0 : decide (t465 < 0) = false := decide_eq_false c29
                            clear c29
                            by_cases c33 : 0 ≤ t465
                            · rw [if_pos c33] at H
                              have c33b0 : decide (0 ≤ t465) = true := decide_eq_true c33
                              clear c33
                              by_cases c34 : t465 < (l0.length : Int)
                              · rw [if_pos c34] at H
                                have c34b0 : decide (t465 < (l0.length : Int)) = true := decide_eq_true c34
                                clear c34
                                replace H := Option.bind_eq_some_iff.mp H
                                obtain ⟨⟨t473, t474⟩, A350, H⟩ := H
                                replace H : (if 0 ≤ (wrap64 (t465 + 1)) then (if (wrap64 (t465 + 1)) ≤ (l0.length : Int) then ((rule_Grade.f k4 (l0.take ((wrap64 (t465 + 1)) : Int).toNat) l1).bind fun bt479 => (if t465 ≤ (l0.length : Int) then ((rule_Grade.f k4 (l0.drop (t465 : Int).toNat) l1).bind fun bt486 => (if t464 = ((rd_T47 l0 t465).f0) then (if t473 = 1 then (if t474 = 0 then (if bt479.1 = t464 then (if bt479.2.1 = t465 then (if bt479.2.2 = 0 then (if bt486.1 = t464 then (if bt486.2.1 = 0 then (if bt486.2.2 = 0 then ((sawmilllaw43_awake.f).bind fun t490 => (some t490)) else (some false)) else (some false)) else (some false)) else (some false)) else (some false)) else (some false)) else (some false)) else (some false)) else (some false))) else (none))) else (none)) else (none)) = some r := H
                                have A35 := Aside0.mk A350
                                clear A350
                                obtain ⟨ji36, hji36⟩ : ∃ j_ : Int, (wrap64 (t465 + 1)) = j_ := ⟨_, rfl⟩
                                replace H : (if 0 ≤ (ji36) then (if (ji36) ≤ (l0.length : Int) then ((rule_Grade.f k4 (l0.take ((ji36) : Int).toNat) l1).bind fun bt479 => (if t465 ≤ (l0.length : Int) then ((rule_Grade.f k4 (l0.drop (t465 : Int).toNat) l1).bind fun bt486 => (if t464 = ((rd_T47 l0 t465).f0) then (if t473 = 1 then (if t474 = 0 then (if bt479.1 = t464 then (if bt479.2.1 = t465 then (if bt479.2.2 = 0 then (if bt486.1 = t464 then (if bt486.2.1 = 0 then (if bt486.2.2 = 0 then ((sawmilllaw43_awake.f).bind fun t490 => (some t490)) else (some false)) else (some false)) else (some false)) else (some false)) else (some false)) else (some false)) else (some false)) else (some false)) else (some false))) else (none))) else (none)) else (none)) = some r := by first | (rw [hji36] at H; exact H) | (simp only [hji36] at H ⊢; exact H)
                                (try rw [hji36] at A35)
                                have hji36w : (IntKind.i64.wrap (t465 + 1)) = ji36 := (i64_w _).trans hji36
                                by_cases c37 : 0 ≤ (ji36)
                                · rw [if_pos c37] at H
                                  have c37b0 := eq_true c37
                                  have c37b1 : decide (0 ≤ (ji36)) = true := decide_eq_true c37
                                  clear c37
                                  by_cases c38 : (ji36) ≤ (l0.length : Int)
                                  · rw [if_pos c38] at H
                                    have c38b0 := eq_true c38
                                    have c38b1 : decide ((ji36) ≤ (l0.length : Int)) = true := decide_eq_true c38
                                    clear c38
                                    obtain ⟨y475, hy475⟩ : ∃ y_ : List (S47), y_ = (l0.take ((ji36) : Int).toNat) := ⟨_, rfl⟩
                                    replace H : ((rule_Grade.f k4 y475 l1).bind fun bt479 => (if t465 ≤ (l0.length : Int) then ((rule_Grade.f k4 (l0.drop (t465 : Int).toNat) l1).bind fun bt486 => (if t464 = ((rd_T47 l0 t465).f0) then (if t473 = 1 then (if t474 = 0 then (if bt479.1 = t464 then (if bt479.2.1 = t465 then (if bt479.2.2 = 0 then (if bt486.1 = t464 then (if bt486.2.1 = 0 then (if bt486.2.2 = 0 then ((sawmilllaw43_awake.f).bind fun t490 => (some t490)) else (some false)) else (some false)) else (some false)) else (some false)) else (some false)) else (some false)) else (some false)) else (some false)) else (some false))) else (none))) = some r := by first | (rw [hy475]; with_reducible exact H) | (have H2_ := (Option.bind_some _ _).symm.trans H; rw [hy475]; with_reducible exact H2_) | (have H2_ := (Option.bind_some _ _).symm.trans H; with_reducible exact H2_) | with_reducible exact H | (rw [hy475]; exact H) | exact H
                                    have Ny475 := Aside0.mk hy475
                                    clear hy475
                                    replace H := Option.bind_eq_some_iff.mp H
                                    obtain ⟨⟨t479, t480, t481⟩, A390, H⟩ := H
                                    replace H : (if t465 ≤ (l0.length : Int) then ((rule_Grade.f k4 (l0.drop (t465 : Int).toNat) l1).bind fun bt486 => (if t464 = ((rd_T47 l0 t465).f0) then (if t473 = 1 then (if t474 = 0 then (if t479 = t464 then (if t480 = t465 then (if t481 = 0 then (if bt486.1 = t464 then (if bt486.2.1 = 0 then (if bt486.2.2 = 0 then ((sawmilllaw43_awake.f).bind fun t490 => (some t490)) else (some false)) else (some false)) else (some false)) else (some false)) else (some false)) else (some false)) else (some false)) else (some false)) else (some false))) else (none)) = some r := H
                                    have A39 := Aside0.mk A390
                                    clear A390
                                    have c40b0 := eq_true (of_decide_eq_true (by first | (with_reducible assumption) | assumption) : 0 ≤ t465)
                                    by_cases c41 : t465 ≤ (l0.length : Int)
                                    · rw [if_pos c41] at H
                                      have c41b0 := eq_true c41
                                      have c41b1 : decide (t465 ≤ (l0.length : Int)) = true := decide_eq_true c41
                                      clear c41
                                      obtain ⟨y482, hy482⟩ : ∃ y_ : List (S47), y_ = (l0.drop (t465 : Int).toNat) := ⟨_, rfl⟩
                                      replace H : ((rule_Grade.f k4 y482 l1).bind fun bt486 => (if t464 = ((rd_T47 l0 t465).f0) then (if t473 = 1 then (if t474 = 0 then (if t479 = t464 then (if t480 = t465 then (if t481 = 0 then (if bt486.1 = t464 then (if bt486.2.1 = 0 then (if bt486.2.2 = 0 then ((sawmilllaw43_awake.f).bind fun t490 => (some t490)) else (some false)) else (some false)) else (some false)) else (some false)) else (some false)) else (some false)) else (some false)) else (some false)) else (some false))) = some r := by first | (rw [hy482]; with_reducible exact H) | (have H2_ := (Option.bind_some _ _).symm.trans H; rw [hy482]; with_reducible exact H2_) | (have H2_ := (Option.bind_some _ _).symm.trans H; with_reducible exact H2_) | with_reducible exact H | (rw [hy482]; exact H) | exact H
                                      have Ny482 := Aside0.mk hy482
                                      clear hy482
                                      replace H := Option.bind_eq_some_iff.mp H
                                      obtain ⟨⟨t486, t487, t488⟩, A420, H⟩ := H
                                      replace H : (if t464 = ((rd_T47 l0 t465).f0) then (if t473 = 1 then (if t474 = 0 then (if t479 = t464 then (if t480 = t465 then (if t481 = 0 then (if t486 = t464 then (if t487 = 0 then (if t488 = 0 then ((sawmilllaw43_awake.f).bind fun t490 => (some t490)) else (some false)) else (some false)) else (some false)) else (some false)) else (some false)) else (some false)) else (some false)) else (some false)) else (some false)) = some r := H
                                      have A42 := Aside0.mk A420
                                      clear A420
                                      by_cases c43 : t464 = ((rd_T47 l0 t465).f0)
                                      · rw [if_pos c43] at H
                                        have c43b0 : (t464 == ((rd_T47 l0 t465).f0)) = true := beq_iff_eq.mpr c43
                                        have c43b1 : (t464 != ((rd_T47 l0 t465).f0)) = false := bne_eq_false_iff_eq.mpr c43
                                        clear c43
                                        by_cases c44 : t473 = 1
                                        · rw [if_pos c44] at H
                                          have c44b0 : (t473 == 1) = true := beq_iff_eq.mpr c44
                                          have c44b1 : (t473 != 1) = false := bne_eq_false_iff_eq.mpr c44
                                          clear c44
                                          by_cases c45 : t474 = 0
                                          · rw [if_pos c45] at H
                                            have c45b0 : (t474 == 0) = true := beq_iff_eq.mpr c45
                                            have c45b1 : (t474 != 0) = false := bne_eq_false_iff_eq.mpr c45
                                            clear c45
                                            by_cases c46 : t479 = t464
                                            · rw [if_pos c46] at H
                                              have c46b0 : (t479 == t464) = true := beq_iff_eq.mpr c46
                                              have c46b1 : (t479 != t464) = false := bne_eq_false_iff_eq.mpr c46
                                              clear c46
                                              by_cases c47 : t480 = t465
                                              · rw [if_pos c47] at H
                                                have c47b0 : (t480 == t465) = true := beq_iff_eq.mpr c47
                                                have c47b1 : (t480 != t465) = false := bne_eq_false_iff_eq.mpr c47
                                                clear c47
                                                by_cases c48 : t481 = 0
                                                · rw [if_pos c48] at H
                                                  have c48b0 : (t481 == 0) = true := beq_iff_eq.mpr c48
                                                  have c48b1 : (t481 != 0) = false := bne_eq_false_iff_eq.mpr c48
                                                  clear c48
                                                  by_cases c49 : t486 = t464
                                                  · rw [if_pos c49] at H
                                                    have c49b0 : (t486 == t464) = true := beq_iff_eq.mpr c49
                                                    have c49b1 : (t486 != t464) = false := bne_eq_false_iff_eq.mpr c49
                                                    clear c49
                                                    by_cases c50 : t487 = 0
                                                    · rw [if_pos c50] at H
                                                      have c50b0 : (t487 == 0) = true := beq_iff_eq.mpr c50
                                                      have c50b1 : (t487 != 0) = false := bne_eq_false_iff_eq.mpr c50
                                                      clear c50
                                                      by_cases c51 : t488 = 0
                                                      · rw [if_pos c51] at H
                                                        have c51b0 : (t488 == 0) = true := beq_iff_eq.mpr c51
                                                        have c51b1 : (t488 != 0) = false := bne_eq_false_iff_eq.mpr c51
                                                        clear c51
                                                        replace H := Option.bind_eq_some_iff.mp H
                                                        obtain ⟨t490, A520, H⟩ := H
                                                        replace H : (some t490) = some r := H
                                                        have A52 := Aside0.mk A520
                                                        clear A520
                                                        obtain rfl := Option.some.inj H
                                                        have p472 : 0 ≤ (t465 : Int) := of_decide_eq_true (by first | (with_reducible assumption) | assumption)
                                                        have q472 : t465 < (l0.length : Int) := of_decide_eq_true (by first | (with_reducible assumption) | assumption)
                                                        obtain ⟨ad472, A472_4, c472_4, e472, hx472_0, hx472_1, hx472_2, hx472_3, hx472_4, hl472_4, hi472_4⟩ := at_T47 HR0.out t465 p472 q472
                                                        cases e472
                                                        replace hx472_0 := (HB.out.cell (World.block_lt_of_cell? w _ hx472_0)).trans hx472_0
                                                        replace hx472_1 := (HB.out.cell (World.block_lt_of_cell? w _ hx472_1)).trans hx472_1
                                                        replace hx472_2 := (HB.out.cell (World.block_lt_of_cell? w _ hx472_2)).trans hx472_2
                                                        replace hx472_3 := (HB.out.cell (World.block_lt_of_cell? w _ hx472_3)).trans hx472_3
                                                        replace hx472_4 := (HB.out.cell (World.block_lt_of_cell? w _ hx472_4)).trans hx472_4
                                                        have HR472_4 := Aside0.mk hi472_4
                                                        have HC472_4 := Aside0.mk hl472_4
                                                        clear hi472_4 hl472_4
                                                        replace p472 := eq_true p472
                                                        replace q472 := eq_true q472
                                                        go_wp2_with (first | ((with_reducible refine gate_callee (f := 19) rfl ?_); refine goesL_ (some 95) rfl rfl Tryd.func19 (by kernel_rfl) rfl #[.agg #[.int .i64 ((rd_T47 l0 t465).f1.f0), .int .i64 ((rd_T47 l0 t465).f1.f1), .string ((rd_T47 l0 t465).f1.f2), .slice A472_4 ((rd_T47 l0 t465).f1.f3).length c472_4], .slice A1 l1.length c1] rfl (by (try simp only [List.map_toArray, List.map_cons, List.map_nil]); first | done | rfl | (simp only [List.length_drop, List.length_take]; rfl)) ?_; (with_reducible refine (rule_Eval.calls k4 ((rd_T47 l0 t465).f1.f0) ((rd_T47 l0 t465).f1.f1) ((rd_T47 l0 t465).f1.f2) _ _ ((rd_T47 l0 t465).f1.f3) _ _ l1 t473 t474 _ ?side1 ?side2 ?side3 ?side4 ?side5 A35.out).mono ?_); (case side1 => repeat (first | exact (Kd.C_below HR472_4.out HB.out) | (with_reducible refine Kd.C_alloc ?_ _) | (with_reducible refine Kd.C_drewN ?_ _) | (with_reducible refine Kd.C_drew ?_))); (case side2 => exact HC472_4.out); (case side3 => repeat (first | exact (Kd.C_below HR1.out HB.out) | (with_reducible refine Kd.C_alloc ?_ _) | (with_reducible refine Kd.C_drewN ?_ _) | (with_reducible refine Kd.C_drew ?_))); (case side4 => exact HC1.out); (case side5 => first | exact HG.out | exact GlobG.drewN HG.out _ | exact GlobG.below HG.out (by repeat (first | (with_reducible first | exact HB.out | apply below_alloc | apply pw_below_drewN | apply below_drew1) | exact HB.out))); rintro e w53 ⟨rfl, hb⟩; refine ⟨_, rfl, ?_⟩; have n0_ := Aside0.mk (below_step (by repeat (first | (with_reducible first | exact HB.out | apply below_alloc | apply pw_below_drewN | apply below_drew1) | exact HB.out)) hb); clear HB; have HB := n0_; clear n0_; (try clear hb); (try clear hb2); (try clear hk); (try clear hi); have q54 : ((ji36) : Int) ≤ ((l0.length : Int) : Int) := of_decide_eq_true (by first | (with_reducible assumption) | assumption); obtain ⟨i054, hi054, _, hsz54, _⟩ := info_parts info47; have hroom54 : l0.length ≤ c0 := HC0.out; have hC54 : Kd.C k47 _ (some ad472) l0.length l0 := HR0.out; have hcut54 := cut_to (P := Tryd.prog) 42 47 .i64 Tryd.underlying42 hi054 (some ad472) l0.length c0 (ji36) (of_decide_eq_true (by first | (with_reducible assumption) | assumption)) q54 hroom54; have hr54 := Kd.C_take (m := ((ji36) : Int).toNat) hC54 (by omega); have hy54 : y475.length = ((ji36) : Int).toNat := (by rw [Ny475.out, List.length_take]; omega); rw [← Ny475.out] at hr54; rw [← hy54] at hcut54; have HR478 := Aside0.mk hr54; have HC478 := Aside0.mk (show y475.length ≤ c0 from by omega); clear hr54 hC54 hroom54 hi054 hsz54; have KY54 := Aside0.mk hy54; clear hy54; replace q54 := eq_true q54) | ((with_reducible refine gate_callee (f := 23) rfl ?_); refine goesL_ (some 104) rfl rfl Tryd.func23 (by kernel_rfl) rfl #[.slice (some ad472) y475.length c0, .slice A1 l1.length c1] rfl (by (try simp only [List.map_toArray, List.map_cons, List.map_nil]); first | done | rfl | (simp only [List.length_drop, List.length_take]; rfl)) ?_; (with_reducible refine (rule_Grade.calls k4 _ _ y475 _ _ l1 t479 t480 t481 _ ?side1 ?side2 ?side3 ?side4 ?side5 A39.out).mono ?_); (case side1 => repeat (first | exact (Kd.C_below HR478.out HB.out) | (with_reducible refine Kd.C_alloc ?_ _) | (with_reducible refine Kd.C_drewN ?_ _) | (with_reducible refine Kd.C_drew ?_))); (case side2 => exact HC478.out); (case side3 => repeat (first | exact (Kd.C_below HR1.out HB.out) | (with_reducible refine Kd.C_alloc ?_ _) | (with_reducible refine Kd.C_drewN ?_ _) | (with_reducible refine Kd.C_drew ?_))); (case side4 => exact HC1.out); (case side5 => first | exact HG.out | exact GlobG.drewN HG.out _ | exact GlobG.below HG.out (by repeat (first | (with_reducible first | exact HB.out | apply below_alloc | apply pw_below_drewN | apply below_drew1) | exact HB.out))); rintro e w55 ⟨rfl, hb⟩; refine ⟨_, rfl, ?_⟩; have n0_ := Aside0.mk (below_step (by repeat (first | (with_reducible first | exact HB.out | apply below_alloc | apply pw_below_drewN | apply below_drew1) | exact HB.out)) hb); clear HB; have HB := n0_; clear n0_; (try clear hb); (try clear hb2); (try clear hk); (try clear hi); have q56 : (t465 : Int) ≤ ((l0.length : Int) : Int) := of_decide_eq_true (by first | (with_reducible assumption) | assumption); obtain ⟨i056, hi056, _, hsz56, _⟩ := info_parts info47; have hroom56 : l0.length ≤ c0 := HC0.out; have hC56 : Kd.C k47 _ (some ad472) l0.length l0 := HR0.out; have q056 : (0 : Int) ≤ (t465 : Int) := of_decide_eq_true (by first | (with_reducible assumption) | assumption); have hcut56 := cut_from (P := Tryd.prog) 42 47 .i64 Tryd.underlying42 hi056 5 hsz56 (some ad472) l0.length c0 t465 q056 q56; have hr56 := Kd.C_drop (m := (t465 : Int).toNat) (c := c0) hC56 (by omega) hroom56; obtain ⟨A56, hA56⟩ : ∃ A1, A1 = (if c0 = (t465 : Int).toNat then (some ad472) else ((some ad472) : Option Addr).map (·.add ((t465 : Int).toNat * 5))) := ⟨_, rfl⟩; obtain ⟨c56, hc56⟩ : ∃ c1, c1 = c0 - (t465 : Int).toNat := ⟨_, rfl⟩; have hy56 : y482.length = l0.length - (t465 : Int).toNat := (by rw [Ny482.out, List.length_drop] <;> omega); rw [show (l0).drop (t465 : Int).toNat = y482 from Ny482.out.symm] at hr56; replace hr56 : Kd.C k47 _ A56 y482.length y482 := (by rw [hA56]; exact hr56); rw [← hy56, ← hA56, ← hc56] at hcut56; have HR485 := Aside0.mk hr56; have HC485 := Aside0.mk (show y482.length ≤ c56 from by rw [hy56, hc56]; exact Nat.sub_le_sub_right hroom56 _); clear hr56 hC56 hroom56 hi056 hsz56 hc56; have KY56 := Aside0.mk hy56; have KA56 := Aside0.mk hA56; clear hy56 hA56; replace q56 := eq_true q56) | ((with_reducible refine gate_callee (f := 23) rfl ?_); refine goesL_ (some 113) rfl rfl Tryd.func23 (by kernel_rfl) rfl #[.slice A56 y482.length c56, .slice A1 l1.length c1] rfl (by (try simp only [List.map_toArray, List.map_cons, List.map_nil]); first | done | rfl | (simp only [List.length_drop, List.length_take]; rfl)) ?_; (with_reducible refine (rule_Grade.calls k4 _ _ y482 _ _ l1 t486 t487 t488 _ ?side1 ?side2 ?side3 ?side4 ?side5 A42.out).mono ?_); (case side1 => repeat (first | exact (Kd.C_below HR485.out HB.out) | (with_reducible refine Kd.C_alloc ?_ _) | (with_reducible refine Kd.C_drewN ?_ _) | (with_reducible refine Kd.C_drew ?_))); (case side2 => exact HC485.out); (case side3 => repeat (first | exact (Kd.C_below HR1.out HB.out) | (with_reducible refine Kd.C_alloc ?_ _) | (with_reducible refine Kd.C_drewN ?_ _) | (with_reducible refine Kd.C_drew ?_))); (case side4 => exact HC1.out); (case side5 => first | exact HG.out | exact GlobG.drewN HG.out _ | exact GlobG.below HG.out (by repeat (first | (with_reducible first | exact HB.out | apply below_alloc | apply pw_below_drewN | apply below_drew1) | exact HB.out))); rintro e w57 ⟨rfl, hb⟩; refine ⟨_, rfl, ?_⟩; have n0_ := Aside0.mk (below_step (by repeat (first | (with_reducible first | exact HB.out | apply below_alloc | apply pw_below_drewN | apply below_drew1) | exact HB.out)) hb); clear HB; have HB := n0_; clear n0_; (try clear hb); (try clear hb2); (try clear hk); (try clear hi); have p489 : 0 ≤ (t465 : Int) := of_decide_eq_true (by first | (with_reducible assumption) | assumption); have q489 : t465 < (l0.length : Int) := of_decide_eq_true (by first | (with_reducible assumption) | assumption); obtain ⟨ad489, A489_4, c489_4, e489, hx489_0, hx489_1, hx489_2, hx489_3, hx489_4, hl489_4, hi489_4⟩ := at_T47 HR0.out t465 p489 q489; obtain rfl : ad472 = ad489 := (by injection e489); replace hx489_0 := (HB.out.cell (World.block_lt_of_cell? w _ hx489_0)).trans hx489_0; replace hx489_1 := (HB.out.cell (World.block_lt_of_cell? w _ hx489_1)).trans hx489_1; replace hx489_2 := (HB.out.cell (World.block_lt_of_cell? w _ hx489_2)).trans hx489_2; replace hx489_3 := (HB.out.cell (World.block_lt_of_cell? w _ hx489_3)).trans hx489_3; replace hx489_4 := (HB.out.cell (World.block_lt_of_cell? w _ hx489_4)).trans hx489_4; have HR489_4 := Aside0.mk hi489_4; have HC489_4 := Aside0.mk hl489_4; clear hi489_4 hl489_4; replace p489 := eq_true p489; replace q489 := eq_true q489) | (go_at_call 12; (with_reducible refine (sawmilllaw43_awake.calls  t490 _ ?side1 A52.out).mono ?_); (case side1 => first | exact HG.out | exact GlobG.drewN HG.out _ | exact GlobG.below HG.out (by repeat (first | (with_reducible first | exact HB.out | apply below_alloc | apply pw_below_drewN | apply below_drew1) | exact HB.out))); rintro e w58 ⟨rfl, hb⟩; have n0_ := Aside0.mk (below_step (by repeat (first | (with_reducible first | exact HB.out | apply below_alloc | apply pw_below_drewN | apply below_drew1) | exact HB.out)) hb); clear HB; have HB := n0_; clear n0_; (try clear hb); (try clear hb2); (try clear hk); (try clear hi)))
                                                        go_ret
                                                        exact ⟨by first | rfl | (simp [errW_none, errW_some] <;> rfl) | (simp only [← hji36]; first | rfl | (simp [errW_none, errW_some] <;> rfl)) | (simp [*, errW_none, errW_some] <;> rfl), by repeat (first | (with_reducible first | exact HB.out | apply below_alloc | apply pw_below_drewN | apply below_drew1) | exact HB.out)⟩
                                                      · rw [if_neg c51] at H
                                                        have c51b0 : (t488 == 0) = false := beq_eq_false_iff_ne.mpr c51
                                                        have c51b1 : (t488 != 0) = true := bne_iff_ne.mpr c51
                                                        obtain rfl := Option.some.inj H
                                                        have p472 : 0 ≤ (t465 : Int) := of_decide_eq_true (by first | (with_reducible assumption) | assumption)
                                                        have q472 : t465 < (l0.length : Int) := of_decide_eq_true (by first | (with_reducible assumption) | assumption)
                                                        obtain ⟨ad472, A472_4, c472_4, e472, hx472_0, hx472_1, hx472_2, hx472_3, hx472_4, hl472_4, hi472_4⟩ := at_T47 HR0.out t465 p472 q472
                                                        cases e472
                                                        replace hx472_0 := (HB.out.cell (World.block_lt_of_cell? w _ hx472_0)).trans hx472_0
                                                        replace hx472_1 := (HB.out.cell (World.block_lt_of_cell? w _ hx472_1)).trans hx472_1
                                                        replace hx472_2 := (HB.out.cell (World.block_lt_of_cell? w _ hx472_2)).trans hx472_2
                                                        replace hx472_3 := (HB.out.cell (World.block_lt_of_cell? w _ hx472_3)).trans hx472_3
                                                        replace hx472_4 := (HB.out.cell (World.block_lt_of_cell? w _ hx472_4)).trans hx472_4
                                                        have HR472_4 := Aside0.mk hi472_4
                                                        have HC472_4 := Aside0.mk hl472_4
                                                        clear hi472_4 hl472_4
                                                        replace p472 := eq_true p472
                                                        replace q472 := eq_true q472
                                                        go_wp2_with (first | ((with_reducible refine gate_callee (f := 19) rfl ?_); refine goesL_ (some 95) rfl rfl Tryd.func19 (by kernel_rfl) rfl #[.agg #[.int .i64 ((rd_T47 l0 t465).f1.f0), .int .i64 ((rd_T47 l0 t465).f1.f1), .string ((rd_T47 l0 t465).f1.f2), .slice A472_4 ((rd_T47 l0 t465).f1.f3).length c472_4], .slice A1 l1.length c1] rfl (by (try simp only [List.map_toArray, List.map_cons, List.map_nil]); first | done | rfl | (simp only [List.length_drop, List.length_take]; rfl)) ?_; (with_reducible refine (rule_Eval.calls k4 ((rd_T47 l0 t465).f1.f0) ((rd_T47 l0 t465).f1.f1) ((rd_T47 l0 t465).f1.f2) _ _ ((rd_T47 l0 t465).f1.f3) _ _ l1 t473 t474 _ ?side1 ?side2 ?side3 ?side4 ?side5 A35.out).mono ?_); (case side1 => repeat (first | exact (Kd.C_below HR472_4.out HB.out) | (with_reducible refine Kd.C_alloc ?_ _) | (with_reducible refine Kd.C_drewN ?_ _) | (with_reducible refine Kd.C_drew ?_))); (case side2 => exact HC472_4.out); (case side3 => repeat (first | exact (Kd.C_below HR1.out HB.out) | (with_reducible refine Kd.C_alloc ?_ _) | (with_reducible refine Kd.C_drewN ?_ _) | (with_reducible refine Kd.C_drew ?_))); (case side4 => exact HC1.out); (case side5 => first | exact HG.out | exact GlobG.drewN HG.out _ | exact GlobG.below HG.out (by repeat (first | (with_reducible first | exact HB.out | apply below_alloc | apply pw_below_drewN | apply below_drew1) | exact HB.out))); rintro e w59 ⟨rfl, hb⟩; refine ⟨_, rfl, ?_⟩; have n0_ := Aside0.mk (below_step (by repeat (first | (with_reducible first | exact HB.out | apply below_alloc | apply pw_below_drewN | apply below_drew1) | exact HB.out)) hb); clear HB; have HB := n0_; clear n0_; (try clear hb); (try clear hb2); (try clear hk); (try clear hi); have q60 : ((ji36) : Int) ≤ ((l0.length : Int) : Int) := of_decide_eq_true (by first | (with_reducible assumption) | assumption); obtain ⟨i060, hi060, _, hsz60, _⟩ := info_parts info47; have hroom60 : l0.length ≤ c0 := HC0.out; have hC60 : Kd.C k47 _ (some ad472) l0.length l0 := HR0.out; have hcut60 := cut_to (P := Tryd.prog) 42 47 .i64 Tryd.underlying42 hi060 (some ad472) l0.length c0 (ji36) (of_decide_eq_true (by first | (with_reducible assumption) | assumption)) q60 hroom60; have hr60 := Kd.C_take (m := ((ji36) : Int).toNat) hC60 (by omega); have hy60 : y475.length = ((ji36) : Int).toNat := (by rw [Ny475.out, List.length_take]; omega); rw [← Ny475.out] at hr60; rw [← hy60] at hcut60; have HR478 := Aside0.mk hr60; have HC478 := Aside0.mk (show y475.length ≤ c0 from by omega); clear hr60 hC60 hroom60 hi060 hsz60; have KY60 := Aside0.mk hy60; clear hy60; replace q60 := eq_true q60) | ((with_reducible refine gate_callee (f := 23) rfl ?_); refine goesL_ (some 104) rfl rfl Tryd.func23 (by kernel_rfl) rfl #[.slice (some ad472) y475.length c0, .slice A1 l1.length c1] rfl (by (try simp only [List.map_toArray, List.map_cons, List.map_nil]); first | done | rfl | (simp only [List.length_drop, List.length_take]; rfl)) ?_; (with_reducible refine (rule_Grade.calls k4 _ _ y475 _ _ l1 t479 t480 t481 _ ?side1 ?side2 ?side3 ?side4 ?side5 A39.out).mono ?_); (case side1 => repeat (first | exact (Kd.C_below HR478.out HB.out) | (with_reducible refine Kd.C_alloc ?_ _) | (with_reducible refine Kd.C_drewN ?_ _) | (with_reducible refine Kd.C_drew ?_))); (case side2 => exact HC478.out); (case side3 => repeat (first | exact (Kd.C_below HR1.out HB.out) | (with_reducible refine Kd.C_alloc ?_ _) | (with_reducible refine Kd.C_drewN ?_ _) | (with_reducible refine Kd.C_drew ?_))); (case side4 => exact HC1.out); (case side5 => first | exact HG.out | exact GlobG.drewN HG.out _ | exact GlobG.below HG.out (by repeat (first | (with_reducible first | exact HB.out | apply below_alloc | apply pw_below_drewN | apply below_drew1) | exact HB.out))); rintro e w61 ⟨rfl, hb⟩; refine ⟨_, rfl, ?_⟩; have n0_ := Aside0.mk (below_step (by repeat (first | (with_reducible first | exact HB.out | apply below_alloc | apply pw_below_drewN | apply below_drew1) | exact HB.out)) hb); clear HB; have HB := n0_; clear n0_; (try clear hb); (try clear hb2); (try clear hk); (try clear hi); have q62 : (t465 : Int) ≤ ((l0.length : Int) : Int) := of_decide_eq_true (by first | (with_reducible assumption) | assumption); obtain ⟨i062, hi062, _, hsz62, _⟩ := info_parts info47; have hroom62 : l0.length ≤ c0 := HC0.out; have hC62 : Kd.C k47 _ (some ad472) l0.length l0 := HR0.out; have q062 : (0 : Int) ≤ (t465 : Int) := of_decide_eq_true (by first | (with_reducible assumption) | assumption); have hcut62 := cut_from (P := Tryd.prog) 42 47 .i64 Tryd.underlying42 hi062 5 hsz62 (some ad472) l0.length c0 t465 q062 q62; have hr62 := Kd.C_drop (m := (t465 : Int).toNat) (c := c0) hC62 (by omega) hroom62; obtain ⟨A62, hA62⟩ : ∃ A1, A1 = (if c0 = (t465 : Int).toNat then (some ad472) else ((some ad472) : Option Addr).map (·.add ((t465 : Int).toNat * 5))) := ⟨_, rfl⟩; obtain ⟨c62, hc62⟩ : ∃ c1, c1 = c0 - (t465 : Int).toNat := ⟨_, rfl⟩; have hy62 : y482.length = l0.length - (t465 : Int).toNat := (by rw [Ny482.out, List.length_drop] <;> omega); rw [show (l0).drop (t465 : Int).toNat = y482 from Ny482.out.symm] at hr62; replace hr62 : Kd.C k47 _ A62 y482.length y482 := (by rw [hA62]; exact hr62); rw [← hy62, ← hA62, ← hc62] at hcut62; have HR485 := Aside0.mk hr62; have HC485 := Aside0.mk (show y482.length ≤ c62 from by rw [hy62, hc62]; exact Nat.sub_le_sub_right hroom62 _); clear hr62 hC62 hroom62 hi062 hsz62 hc62; have KY62 := Aside0.mk hy62; have KA62 := Aside0.mk hA62; clear hy62 hA62; replace q62 := eq_true q62) | ((with_reducible refine gate_callee (f := 23) rfl ?_); refine goesL_ (some 113) rfl rfl Tryd.func23 (by kernel_rfl) rfl #[.slice A62 y482.length c62, .slice A1 l1.length c1] rfl (by (try simp only [List.map_toArray, List.map_cons, List.map_nil]); first | done | rfl | (simp only [List.length_drop, List.length_take]; rfl)) ?_; (with_reducible refine (rule_Grade.calls k4 _ _ y482 _ _ l1 t486 t487 t488 _ ?side1 ?side2 ?side3 ?side4 ?side5 A42.out).mono ?_); (case side1 => repeat (first | exact (Kd.C_below HR485.out HB.out) | (with_reducible refine Kd.C_alloc ?_ _) | (with_reducible refine Kd.C_drewN ?_ _) | (with_reducible refine Kd.C_drew ?_))); (case side2 => exact HC485.out); (case side3 => repeat (first | exact (Kd.C_below HR1.out HB.out) | (with_reducible refine Kd.C_alloc ?_ _) | (with_reducible refine Kd.C_drewN ?_ _) | (with_reducible refine Kd.C_drew ?_))); (case side4 => exact HC1.out); (case side5 => first | exact HG.out | exact GlobG.drewN HG.out _ | exact GlobG.below HG.out (by repeat (first | (with_reducible first | exact HB.out | apply below_alloc | apply pw_below_drewN | apply below_drew1) | exact HB.out))); rintro e w63 ⟨rfl, hb⟩; refine ⟨_, rfl, ?_⟩; have n0_ := Aside0.mk (below_step (by repeat (first | (with_reducible first | exact HB.out | apply below_alloc | apply pw_below_drewN | apply below_drew1) | exact HB.out)) hb); clear HB; have HB := n0_; clear n0_; (try clear hb); (try clear hb2); (try clear hk); (try clear hi); have p489 : 0 ≤ (t465 : Int) := of_decide_eq_true (by first | (with_reducible assumption) | assumption); have q489 : t465 < (l0.length : Int) := of_decide_eq_true (by first | (with_reducible assumption) | assumption); obtain ⟨ad489, A489_4, c489_4, e489, hx489_0, hx489_1, hx489_2, hx489_3, hx489_4, hl489_4, hi489_4⟩ := at_T47 HR0.out t465 p489 q489; obtain rfl : ad472 = ad489 := (by injection e489); replace hx489_0 := (HB.out.cell (World.block_lt_of_cell? w _ hx489_0)).trans hx489_0; replace hx489_1 := (HB.out.cell (World.block_lt_of_cell? w _ hx489_1)).trans hx489_1; replace hx489_2 := (HB.out.cell (World.block_lt_of_cell? w _ hx489_2)).trans hx489_2; replace hx489_3 := (HB.out.cell (World.block_lt_of_cell? w _ hx489_3)).trans hx489_3; replace hx489_4 := (HB.out.cell (World.block_lt_of_cell? w _ hx489_4)).trans hx489_4; have HR489_4 := Aside0.mk hi489_4; have HC489_4 := Aside0.mk hl489_4; clear hi489_4 hl489_4; replace p489 := eq_true p489; replace q489 := eq_true q489))
                                                        go_ret
                                                        exact ⟨by first | rfl | (simp [errW_none, errW_some] <;> rfl) | (simp only [← hji36]; first | rfl | (simp [errW_none, errW_some] <;> rfl)) | (simp [*, errW_none, errW_some] <;> rfl), by repeat (first | (with_reducible first | exact HB.out | apply below_alloc | apply pw_below_drewN | apply below_drew1) | exact HB.out)⟩
                                                    · rw [if_neg c50] at H
                                                      have c50b0 : (t487 == 0) = false := beq_eq_false_iff_ne.mpr c50
                                                      have c50b1 : (t487 != 0) = true := bne_iff_ne.mpr c50
                                                      obtain rfl := Option.some.inj H
                                                      have p472 : 0 ≤ (t465 : Int) := of_decide_eq_true (by first | (with_reducible assumption) | assumption)
                                                      have q472 : t465 < (l0.length : Int) := of_decide_eq_true (by first | (with_reducible assumption) | assumption)
                                                      obtain ⟨ad472, A472_4, c472_4, e472, hx472_0, hx472_1, hx472_2, hx472_3, hx472_4, hl472_4, hi472_4⟩ := at_T47 HR0.out t465 p472 q472
                                                      cases e472
                                                      replace hx472_0 := (HB.out.cell (World.block_lt_of_cell? w _ hx472_0)).trans hx472_0
                                                      replace hx472_1 := (HB.out.cell (World.block_lt_of_cell? w _ hx472_1)).trans hx472_1
                                                      replace hx472_2 := (HB.out.cell (World.block_lt_of_cell? w _ hx472_2)).trans hx472_2
                                                      replace hx472_3 := (HB.out.cell (World.block_lt_of_cell? w _ hx472_3)).trans hx472_3
                                                      replace hx472_4 := (HB.out.cell (World.block_lt_of_cell? w _ hx472_4)).trans hx472_4
                                                      have HR472_4 := Aside0.mk hi472_4
                                                      have HC472_4 := Aside0.mk hl472_4
                                                      clear hi472_4 hl472_4
                                                      replace p472 := eq_true p472
                                                      replace q472 := eq_true q472
                                                      go_wp2_with (first | ((with_reducible refine gate_callee (f := 19) rfl ?_); refine goesL_ (some 95) rfl rfl Tryd.func19 (by kernel_rfl) rfl #[.agg #[.int .i64 ((rd_T47 l0 t465).f1.f0), .int .i64 ((rd_T47 l0 t465).f1.f1), .string ((rd_T47 l0 t465).f1.f2), .slice A472_4 ((rd_T47 l0 t465).f1.f3).length c472_4], .slice A1 l1.length c1] rfl (by (try simp only [List.map_toArray, List.map_cons, List.map_nil]); first | done | rfl | (simp only [List.length_drop, List.length_take]; rfl)) ?_; (with_reducible refine (rule_Eval.calls k4 ((rd_T47 l0 t465).f1.f0) ((rd_T47 l0 t465).f1.f1) ((rd_T47 l0 t465).f1.f2) _ _ ((rd_T47 l0 t465).f1.f3) _ _ l1 t473 t474 _ ?side1 ?side2 ?side3 ?side4 ?side5 A35.out).mono ?_); (case side1 => repeat (first | exact (Kd.C_below HR472_4.out HB.out) | (with_reducible refine Kd.C_alloc ?_ _) | (with_reducible refine Kd.C_drewN ?_ _) | (with_reducible refine Kd.C_drew ?_))); (case side2 => exact HC472_4.out); (case side3 => repeat (first | exact (Kd.C_below HR1.out HB.out) | (with_reducible refine Kd.C_alloc ?_ _) | (with_reducible refine Kd.C_drewN ?_ _) | (with_reducible refine Kd.C_drew ?_))); (case side4 => exact HC1.out); (case side5 => first | exact HG.out | exact GlobG.drewN HG.out _ | exact GlobG.below HG.out (by repeat (first | (with_reducible first | exact HB.out | apply below_alloc | apply pw_below_drewN | apply below_drew1) | exact HB.out))); rintro e w64 ⟨rfl, hb⟩; refine ⟨_, rfl, ?_⟩; have n0_ := Aside0.mk (below_step (by repeat (first | (with_reducible first | exact HB.out | apply below_alloc | apply pw_below_drewN | apply below_drew1) | exact HB.out)) hb); clear HB; have HB := n0_; clear n0_; (try clear hb); (try clear hb2); (try clear hk); (try clear hi); have q65 : ((ji36) : Int) ≤ ((l0.length : Int) : Int) := of_decide_eq_true (by first | (with_reducible assumption) | assumption); obtain ⟨i065, hi065, _, hsz65, _⟩ := info_parts info47; have hroom65 : l0.length ≤ c0 := HC0.out; have hC65 : Kd.C k47 _ (some ad472) l0.length l0 := HR0.out; have hcut65 := cut_to (P := Tryd.prog) 42 47 .i64 Tryd.underlying42 hi065 (some ad472) l0.length c0 (ji36) (of_decide_eq_true (by first | (with_reducible assumption) | assumption)) q65 hroom65; have hr65 := Kd.C_take (m := ((ji36) : Int).toNat) hC65 (by omega); have hy65 : y475.length = ((ji36) : Int).toNat := (by rw [Ny475.out, List.length_take]; omega); rw [← Ny475.out] at hr65; rw [← hy65] at hcut65; have HR478 := Aside0.mk hr65; have HC478 := Aside0.mk (show y475.length ≤ c0 from by omega); clear hr65 hC65 hroom65 hi065 hsz65; have KY65 := Aside0.mk hy65; clear hy65; replace q65 := eq_true q65) | ((with_reducible refine gate_callee (f := 23) rfl ?_); refine goesL_ (some 104) rfl rfl Tryd.func23 (by kernel_rfl) rfl #[.slice (some ad472) y475.length c0, .slice A1 l1.length c1] rfl (by (try simp only [List.map_toArray, List.map_cons, List.map_nil]); first | done | rfl | (simp only [List.length_drop, List.length_take]; rfl)) ?_; (with_reducible refine (rule_Grade.calls k4 _ _ y475 _ _ l1 t479 t480 t481 _ ?side1 ?side2 ?side3 ?side4 ?side5 A39.out).mono ?_); (case side1 => repeat (first | exact (Kd.C_below HR478.out HB.out) | (with_reducible refine Kd.C_alloc ?_ _) | (with_reducible refine Kd.C_drewN ?_ _) | (with_reducible refine Kd.C_drew ?_))); (case side2 => exact HC478.out); (case side3 => repeat (first | exact (Kd.C_below HR1.out HB.out) | (with_reducible refine Kd.C_alloc ?_ _) | (with_reducible refine Kd.C_drewN ?_ _) | (with_reducible refine Kd.C_drew ?_))); (case side4 => exact HC1.out); (case side5 => first | exact HG.out | exact GlobG.drewN HG.out _ | exact GlobG.below HG.out (by repeat (first | (with_reducible first | exact HB.out | apply below_alloc | apply pw_below_drewN | apply below_drew1) | exact HB.out))); rintro e w66 ⟨rfl, hb⟩; refine ⟨_, rfl, ?_⟩; have n0_ := Aside0.mk (below_step (by repeat (first | (with_reducible first | exact HB.out | apply below_alloc | apply pw_below_drewN | apply below_drew1) | exact HB.out)) hb); clear HB; have HB := n0_; clear n0_; (try clear hb); (try clear hb2); (try clear hk); (try clear hi); have q67 : (t465 : Int) ≤ ((l0.length : Int) : Int) := of_decide_eq_true (by first | (with_reducible assumption) | assumption); obtain ⟨i067, hi067, _, hsz67, _⟩ := info_parts info47; have hroom67 : l0.length ≤ c0 := HC0.out; have hC67 : Kd.C k47 _ (some ad472) l0.length l0 := HR0.out; have q067 : (0 : Int) ≤ (t465 : Int) := of_decide_eq_true (by first | (with_reducible assumption) | assumption); have hcut67 := cut_from (P := Tryd.prog) 42 47 .i64 Tryd.underlying42 hi067 5 hsz67 (some ad472) l0.length c0 t465 q067 q67; have hr67 := Kd.C_drop (m := (t465 : Int).toNat) (c := c0) hC67 (by omega) hroom67; obtain ⟨A67, hA67⟩ : ∃ A1, A1 = (if c0 = (t465 : Int).toNat then (some ad472) else ((some ad472) : Option Addr).map (·.add ((t465 : Int).toNat * 5))) := ⟨_, rfl⟩; obtain ⟨c67, hc67⟩ : ∃ c1, c1 = c0 - (t465 : Int).toNat := ⟨_, rfl⟩; have hy67 : y482.length = l0.length - (t465 : Int).toNat := (by rw [Ny482.out, List.length_drop] <;> omega); rw [show (l0).drop (t465 : Int).toNat = y482 from Ny482.out.symm] at hr67; replace hr67 : Kd.C k47 _ A67 y482.length y482 := (by rw [hA67]; exact hr67); rw [← hy67, ← hA67, ← hc67] at hcut67; have HR485 := Aside0.mk hr67; have HC485 := Aside0.mk (show y482.length ≤ c67 from by rw [hy67, hc67]; exact Nat.sub_le_sub_right hroom67 _); clear hr67 hC67 hroom67 hi067 hsz67 hc67; have KY67 := Aside0.mk hy67; have KA67 := Aside0.mk hA67; clear hy67 hA67; replace q67 := eq_true q67) | ((with_reducible refine gate_callee (f := 23) rfl ?_); refine goesL_ (some 113) rfl rfl Tryd.func23 (by kernel_rfl) rfl #[.slice A67 y482.length c67, .slice A1 l1.length c1] rfl (by (try simp only [List.map_toArray, List.map_cons, List.map_nil]); first | done | rfl | (simp only [List.length_drop, List.length_take]; rfl)) ?_; (with_reducible refine (rule_Grade.calls k4 _ _ y482 _ _ l1 t486 t487 t488 _ ?side1 ?side2 ?side3 ?side4 ?side5 A42.out).mono ?_); (case side1 => repeat (first | exact (Kd.C_below HR485.out HB.out) | (with_reducible refine Kd.C_alloc ?_ _) | (with_reducible refine Kd.C_drewN ?_ _) | (with_reducible refine Kd.C_drew ?_))); (case side2 => exact HC485.out); (case side3 => repeat (first | exact (Kd.C_below HR1.out HB.out) | (with_reducible refine Kd.C_alloc ?_ _) | (with_reducible refine Kd.C_drewN ?_ _) | (with_reducible refine Kd.C_drew ?_))); (case side4 => exact HC1.out); (case side5 => first | exact HG.out | exact GlobG.drewN HG.out _ | exact GlobG.below HG.out (by repeat (first | (with_reducible first | exact HB.out | apply below_alloc | apply pw_below_drewN | apply below_drew1) | exact HB.out))); rintro e w68 ⟨rfl, hb⟩; refine ⟨_, rfl, ?_⟩; have n0_ := Aside0.mk (below_step (by repeat (first | (with_reducible first | exact HB.out | apply below_alloc | apply pw_below_drewN | apply below_drew1) | exact HB.out)) hb); clear HB; have HB := n0_; clear n0_; (try clear hb); (try clear hb2); (try clear hk); (try clear hi); have p489 : 0 ≤ (t465 : Int) := of_decide_eq_true (by first | (with_reducible assumption) | assumption); have q489 : t465 < (l0.length : Int) := of_decide_eq_true (by first | (with_reducible assumption) | assumption); obtain ⟨ad489, A489_4, c489_4, e489, hx489_0, hx489_1, hx489_2, hx489_3, hx489_4, hl489_4, hi489_4⟩ := at_T47 HR0.out t465 p489 q489; obtain rfl : ad472 = ad489 := (by injection e489); replace hx489_0 := (HB.out.cell (World.block_lt_of_cell? w _ hx489_0)).trans hx489_0; replace hx489_1 := (HB.out.cell (World.block_lt_of_cell? w _ hx489_1)).trans hx489_1; replace hx489_2 := (HB.out.cell (World.block_lt_of_cell? w _ hx489_2)).trans hx489_2; replace hx489_3 := (HB.out.cell (World.block_lt_of_cell? w _ hx489_3)).trans hx489_3; replace hx489_4 := (HB.out.cell (World.block_lt_of_cell? w _ hx489_4)).trans hx489_4; have HR489_4 := Aside0.mk hi489_4; have HC489_4 := Aside0.mk hl489_4; clear hi489_4 hl489_4; replace p489 := eq_true p489; replace q489 := eq_true q489))
                                                      go_ret
                                                      exact ⟨by first | rfl | (simp [errW_none, errW_some] <;> rfl) | (simp only [← hji36]; first | rfl | (simp [errW_none, errW_some] <;> rfl)) | (simp [*, errW_none, errW_some] <;> rfl), by repeat (first | (with_reducible first | exact HB.out | apply below_alloc | apply pw_below_drewN | apply below_drew1) | exact HB.out)⟩
                                                  · rw [if_neg c49] at H
                                                    have c49b0 : (t486 == t464) = false := beq_eq_false_iff_ne.mpr c49
                                                    have c49b1 : (t486 != t464) = true := bne_iff_ne.mpr c49
                                                    obtain rfl := Option.some.inj H
                                                    have p472 : 0 ≤ (t465 : Int) := of_decide_eq_true (by first | (with_reducible assumption) | assumption)
                                                    have q472 : t465 < (l0.length : Int) := of_decide_eq_true (by first | (with_reducible assumption) | assumption)
                                                    obtain ⟨ad472, A472_4, c472_4, e472, hx472_0, hx472_1, hx472_2, hx472_3, hx472_4, hl472_4, hi472_4⟩ := at_T47 HR0.out t465 p472 q472
                                                    cases e472
                                                    replace hx472_0 := (HB.out.cell (World.block_lt_of_cell? w _ hx472_0)).trans hx472_0
                                                    replace hx472_1 := (HB.out.cell (World.block_lt_of_cell? w _ hx472_1)).trans hx472_1
                                                    replace hx472_2 := (HB.out.cell (World.block_lt_of_cell? w _ hx472_2)).trans hx472_2
                                                    replace hx472_3 := (HB.out.cell (World.block_lt_of_cell? w _ hx472_3)).trans hx472_3
                                                    replace hx472_4 := (HB.out.cell (World.block_lt_of_cell? w _ hx472_4)).trans hx472_4
                                                    have HR472_4 := Aside0.mk hi472_4
                                                    have HC472_4 := Aside0.mk hl472_4
                                                    clear hi472_4 hl472_4
                                                    replace p472 := eq_true p472
                                                    replace q472 := eq_true q472
                                                    go_wp2_with (first | ((with_reducible refine gate_callee (f := 19) rfl ?_); refine goesL_ (some 95) rfl rfl Tryd.func19 (by kernel_rfl) rfl #[.agg #[.int .i64 ((rd_T47 l0 t465).f1.f0), .int .i64 ((rd_T47 l0 t465).f1.f1), .string ((rd_T47 l0 t465).f1.f2), .slice A472_4 ((rd_T47 l0 t465).f1.f3).length c472_4], .slice A1 l1.length c1] rfl (by (try simp only [List.map_toArray, List.map_cons, List.map_nil]); first | done | rfl | (simp only [List.length_drop, List.length_take]; rfl)) ?_; (with_reducible refine (rule_Eval.calls k4 ((rd_T47 l0 t465).f1.f0) ((rd_T47 l0 t465).f1.f1) ((rd_T47 l0 t465).f1.f2) _ _ ((rd_T47 l0 t465).f1.f3) _ _ l1 t473 t474 _ ?side1 ?side2 ?side3 ?side4 ?side5 A35.out).mono ?_); (case side1 => repeat (first | exact (Kd.C_below HR472_4.out HB.out) | (with_reducible refine Kd.C_alloc ?_ _) | (with_reducible refine Kd.C_drewN ?_ _) | (with_reducible refine Kd.C_drew ?_))); (case side2 => exact HC472_4.out); (case side3 => repeat (first | exact (Kd.C_below HR1.out HB.out) | (with_reducible refine Kd.C_alloc ?_ _) | (with_reducible refine Kd.C_drewN ?_ _) | (with_reducible refine Kd.C_drew ?_))); (case side4 => exact HC1.out); (case side5 => first | exact HG.out | exact GlobG.drewN HG.out _ | exact GlobG.below HG.out (by repeat (first | (with_reducible first | exact HB.out | apply below_alloc | apply pw_below_drewN | apply below_drew1) | exact HB.out))); rintro e w69 ⟨rfl, hb⟩; refine ⟨_, rfl, ?_⟩; have n0_ := Aside0.mk (below_step (by repeat (first | (with_reducible first | exact HB.out | apply below_alloc | apply pw_below_drewN | apply below_drew1) | exact HB.out)) hb); clear HB; have HB := n0_; clear n0_; (try clear hb); (try clear hb2); (try clear hk); (try clear hi); have q70 : ((ji36) : Int) ≤ ((l0.length : Int) : Int) := of_decide_eq_true (by first | (with_reducible assumption) | assumption); obtain ⟨i070, hi070, _, hsz70, _⟩ := info_parts info47; have hroom70 : l0.length ≤ c0 := HC0.out; have hC70 : Kd.C k47 _ (some ad472) l0.length l0 := HR0.out; have hcut70 := cut_to (P := Tryd.prog) 42 47 .i64 Tryd.underlying42 hi070 (some ad472) l0.length c0 (ji36) (of_decide_eq_true (by first | (with_reducible assumption) | assumption)) q70 hroom70; have hr70 := Kd.C_take (m := ((ji36) : Int).toNat) hC70 (by omega); have hy70 : y475.length = ((ji36) : Int).toNat := (by rw [Ny475.out, List.length_take]; omega); rw [← Ny475.out] at hr70; rw [← hy70] at hcut70; have HR478 := Aside0.mk hr70; have HC478 := Aside0.mk (show y475.length ≤ c0 from by omega); clear hr70 hC70 hroom70 hi070 hsz70; have KY70 := Aside0.mk hy70; clear hy70; replace q70 := eq_true q70) | ((with_reducible refine gate_callee (f := 23) rfl ?_); refine goesL_ (some 104) rfl rfl Tryd.func23 (by kernel_rfl) rfl #[.slice (some ad472) y475.length c0, .slice A1 l1.length c1] rfl (by (try simp only [List.map_toArray, List.map_cons, List.map_nil]); first | done | rfl | (simp only [List.length_drop, List.length_take]; rfl)) ?_; (with_reducible refine (rule_Grade.calls k4 _ _ y475 _ _ l1 t479 t480 t481 _ ?side1 ?side2 ?side3 ?side4 ?side5 A39.out).mono ?_); (case side1 => repeat (first | exact (Kd.C_below HR478.out HB.out) | (with_reducible refine Kd.C_alloc ?_ _) | (with_reducible refine Kd.C_drewN ?_ _) | (with_reducible refine Kd.C_drew ?_))); (case side2 => exact HC478.out); (case side3 => repeat (first | exact (Kd.C_below HR1.out HB.out) | (with_reducible refine Kd.C_alloc ?_ _) | (with_reducible refine Kd.C_drewN ?_ _) | (with_reducible refine Kd.C_drew ?_))); (case side4 => exact HC1.out); (case side5 => first | exact HG.out | exact GlobG.drewN HG.out _ | exact GlobG.below HG.out (by repeat (first | (with_reducible first | exact HB.out | apply below_alloc | apply pw_below_drewN | apply below_drew1) | exact HB.out))); rintro e w71 ⟨rfl, hb⟩; refine ⟨_, rfl, ?_⟩; have n0_ := Aside0.mk (below_step (by repeat (first | (with_reducible first | exact HB.out | apply below_alloc | apply pw_below_drewN | apply below_drew1) | exact HB.out)) hb); clear HB; have HB := n0_; clear n0_; (try clear hb); (try clear hb2); (try clear hk); (try clear hi); have q72 : (t465 : Int) ≤ ((l0.length : Int) : Int) := of_decide_eq_true (by first | (with_reducible assumption) | assumption); obtain ⟨i072, hi072, _, hsz72, _⟩ := info_parts info47; have hroom72 : l0.length ≤ c0 := HC0.out; have hC72 : Kd.C k47 _ (some ad472) l0.length l0 := HR0.out; have q072 : (0 : Int) ≤ (t465 : Int) := of_decide_eq_true (by first | (with_reducible assumption) | assumption); have hcut72 := cut_from (P := Tryd.prog) 42 47 .i64 Tryd.underlying42 hi072 5 hsz72 (some ad472) l0.length c0 t465 q072 q72; have hr72 := Kd.C_drop (m := (t465 : Int).toNat) (c := c0) hC72 (by omega) hroom72; obtain ⟨A72, hA72⟩ : ∃ A1, A1 = (if c0 = (t465 : Int).toNat then (some ad472) else ((some ad472) : Option Addr).map (·.add ((t465 : Int).toNat * 5))) := ⟨_, rfl⟩; obtain ⟨c72, hc72⟩ : ∃ c1, c1 = c0 - (t465 : Int).toNat := ⟨_, rfl⟩; have hy72 : y482.length = l0.length - (t465 : Int).toNat := (by rw [Ny482.out, List.length_drop] <;> omega); rw [show (l0).drop (t465 : Int).toNat = y482 from Ny482.out.symm] at hr72; replace hr72 : Kd.C k47 _ A72 y482.length y482 := (by rw [hA72]; exact hr72); rw [← hy72, ← hA72, ← hc72] at hcut72; have HR485 := Aside0.mk hr72; have HC485 := Aside0.mk (show y482.length ≤ c72 from by rw [hy72, hc72]; exact Nat.sub_le_sub_right hroom72 _); clear hr72 hC72 hroom72 hi072 hsz72 hc72; have KY72 := Aside0.mk hy72; have KA72 := Aside0.mk hA72; clear hy72 hA72; replace q72 := eq_true q72) | ((with_reducible refine gate_callee (f := 23) rfl ?_); refine goesL_ (some 113) rfl rfl Tryd.func23 (by kernel_rfl) rfl #[.slice A72 y482.length c72, .slice A1 l1.length c1] rfl (by (try simp only [List.map_toArray, List.map_cons, List.map_nil]); first | done | rfl | (simp only [List.length_drop, List.length_take]; rfl)) ?_; (with_reducible refine (rule_Grade.calls k4 _ _ y482 _ _ l1 t486 t487 t488 _ ?side1 ?side2 ?side3 ?side4 ?side5 A42.out).mono ?_); (case side1 => repeat (first | exact (Kd.C_below HR485.out HB.out) | (with_reducible refine Kd.C_alloc ?_ _) | (with_reducible refine Kd.C_drewN ?_ _) | (with_reducible refine Kd.C_drew ?_))); (case side2 => exact HC485.out); (case side3 => repeat (first | exact (Kd.C_below HR1.out HB.out) | (with_reducible refine Kd.C_alloc ?_ _) | (with_reducible refine Kd.C_drewN ?_ _) | (with_reducible refine Kd.C_drew ?_))); (case side4 => exact HC1.out); (case side5 => first | exact HG.out | exact GlobG.drewN HG.out _ | exact GlobG.below HG.out (by repeat (first | (with_reducible first | exact HB.out | apply below_alloc | apply pw_below_drewN | apply below_drew1) | exact HB.out))); rintro e w73 ⟨rfl, hb⟩; refine ⟨_, rfl, ?_⟩; have n0_ := Aside0.mk (below_step (by repeat (first | (with_reducible first | exact HB.out | apply below_alloc | apply pw_below_drewN | apply below_drew1) | exact HB.out)) hb); clear HB; have HB := n0_; clear n0_; (try clear hb); (try clear hb2); (try clear hk); (try clear hi); have p489 : 0 ≤ (t465 : Int) := of_decide_eq_true (by first | (with_reducible assumption) | assumption); have q489 : t465 < (l0.length : Int) := of_decide_eq_true (by first | (with_reducible assumption) | assumption); obtain ⟨ad489, A489_4, c489_4, e489, hx489_0, hx489_1, hx489_2, hx489_3, hx489_4, hl489_4, hi489_4⟩ := at_T47 HR0.out t465 p489 q489; obtain rfl : ad472 = ad489 := (by injection e489); replace hx489_0 := (HB.out.cell (World.block_lt_of_cell? w _ hx489_0)).trans hx489_0; replace hx489_1 := (HB.out.cell (World.block_lt_of_cell? w _ hx489_1)).trans hx489_1; replace hx489_2 := (HB.out.cell (World.block_lt_of_cell? w _ hx489_2)).trans hx489_2; replace hx489_3 := (HB.out.cell (World.block_lt_of_cell? w _ hx489_3)).trans hx489_3; replace hx489_4 := (HB.out.cell (World.block_lt_of_cell? w _ hx489_4)).trans hx489_4; have HR489_4 := Aside0.mk hi489_4; have HC489_4 := Aside0.mk hl489_4; clear hi489_4 hl489_4; replace p489 := eq_true p489; replace q489 := eq_true q489))
                                                    go_ret
                                                    exact ⟨by first | rfl | (simp [errW_none, errW_some] <;> rfl) | (simp only [← hji36]; first | rfl | (simp [errW_none, errW_some] <;> rfl)) | (simp [*, errW_none, errW_some] <;> rfl), by repeat (first | (with_reducible first | exact HB.out | apply below_alloc | apply pw_below_drewN | apply below_drew1) | exact HB.out)⟩
                                                · rw [if_neg c48] at H
                                                  have c48b0 : (t481 == 0) = false := beq_eq_false_iff_ne.mpr c48
                                                  have c48b1 : (t481 != 0) = true := bne_iff_ne.mpr c48
                                                  obtain rfl := Option.some.inj H
                                                  have p472 : 0 ≤ (t465 : Int) := of_decide_eq_true (by first | (with_reducible assumption) | assumption)
                                                  have q472 : t465 < (l0.length : Int) := of_decide_eq_true (by first | (with_reducible assumption) | assumption)
                                                  obtain ⟨ad472, A472_4, c472_4, e472, hx472_0, hx472_1, hx472_2, hx472_3, hx472_4, hl472_4, hi472_4⟩ := at_T47 HR0.out t465 p472 q472
                                                  cases e472
                                                  replace hx472_0 := (HB.out.cell (World.block_lt_of_cell? w _ hx472_0)).trans hx472_0
                                                  replace hx472_1 := (HB.out.cell (World.block_lt_of_cell? w _ hx472_1)).trans hx472_1
                                                  replace hx472_2 := (HB.out.cell (World.block_lt_of_cell? w _ hx472_2)).trans hx472_2
                                                  replace hx472_3 := (HB.out.cell (World.block_lt_of_cell? w _ hx472_3)).trans hx472_3
                                                  replace hx472_4 := (HB.out.cell (World.block_lt_of_cell? w _ hx472_4)).trans hx472_4
                                                  have HR472_4 := Aside0.mk hi472_4
                                                  have HC472_4 := Aside0.mk hl472_4
                                                  clear hi472_4 hl472_4
                                                  replace p472 := eq_true p472
                                                  replace q472 := eq_true q472
                                                  go_wp2_with (first | ((with_reducible refine gate_callee (f := 19) rfl ?_); refine goesL_ (some 95) rfl rfl Tryd.func19 (by kernel_rfl) rfl #[.agg #[.int .i64 ((rd_T47 l0 t465).f1.f0), .int .i64 ((rd_T47 l0 t465).f1.f1), .string ((rd_T47 l0 t465).f1.f2), .slice A472_4 ((rd_T47 l0 t465).f1.f3).length c472_4], .slice A1 l1.length c1] rfl (by (try simp only [List.map_toArray, List.map_cons, List.map_nil]); first | done | rfl | (simp only [List.length_drop, List.length_take]; rfl)) ?_; (with_reducible refine (rule_Eval.calls k4 ((rd_T47 l0 t465).f1.f0) ((rd_T47 l0 t465).f1.f1) ((rd_T47 l0 t465).f1.f2) _ _ ((rd_T47 l0 t465).f1.f3) _ _ l1 t473 t474 _ ?side1 ?side2 ?side3 ?side4 ?side5 A35.out).mono ?_); (case side1 => repeat (first | exact (Kd.C_below HR472_4.out HB.out) | (with_reducible refine Kd.C_alloc ?_ _) | (with_reducible refine Kd.C_drewN ?_ _) | (with_reducible refine Kd.C_drew ?_))); (case side2 => exact HC472_4.out); (case side3 => repeat (first | exact (Kd.C_below HR1.out HB.out) | (with_reducible refine Kd.C_alloc ?_ _) | (with_reducible refine Kd.C_drewN ?_ _) | (with_reducible refine Kd.C_drew ?_))); (case side4 => exact HC1.out); (case side5 => first | exact HG.out | exact GlobG.drewN HG.out _ | exact GlobG.below HG.out (by repeat (first | (with_reducible first | exact HB.out | apply below_alloc | apply pw_below_drewN | apply below_drew1) | exact HB.out))); rintro e w74 ⟨rfl, hb⟩; refine ⟨_, rfl, ?_⟩; have n0_ := Aside0.mk (below_step (by repeat (first | (with_reducible first | exact HB.out | apply below_alloc | apply pw_below_drewN | apply below_drew1) | exact HB.out)) hb); clear HB; have HB := n0_; clear n0_; (try clear hb); (try clear hb2); (try clear hk); (try clear hi); have q75 : ((ji36) : Int) ≤ ((l0.length : Int) : Int) := of_decide_eq_true (by first | (with_reducible assumption) | assumption); obtain ⟨i075, hi075, _, hsz75, _⟩ := info_parts info47; have hroom75 : l0.length ≤ c0 := HC0.out; have hC75 : Kd.C k47 _ (some ad472) l0.length l0 := HR0.out; have hcut75 := cut_to (P := Tryd.prog) 42 47 .i64 Tryd.underlying42 hi075 (some ad472) l0.length c0 (ji36) (of_decide_eq_true (by first | (with_reducible assumption) | assumption)) q75 hroom75; have hr75 := Kd.C_take (m := ((ji36) : Int).toNat) hC75 (by omega); have hy75 : y475.length = ((ji36) : Int).toNat := (by rw [Ny475.out, List.length_take]; omega); rw [← Ny475.out] at hr75; rw [← hy75] at hcut75; have HR478 := Aside0.mk hr75; have HC478 := Aside0.mk (show y475.length ≤ c0 from by omega); clear hr75 hC75 hroom75 hi075 hsz75; have KY75 := Aside0.mk hy75; clear hy75; replace q75 := eq_true q75) | ((with_reducible refine gate_callee (f := 23) rfl ?_); refine goesL_ (some 104) rfl rfl Tryd.func23 (by kernel_rfl) rfl #[.slice (some ad472) y475.length c0, .slice A1 l1.length c1] rfl (by (try simp only [List.map_toArray, List.map_cons, List.map_nil]); first | done | rfl | (simp only [List.length_drop, List.length_take]; rfl)) ?_; (with_reducible refine (rule_Grade.calls k4 _ _ y475 _ _ l1 t479 t480 t481 _ ?side1 ?side2 ?side3 ?side4 ?side5 A39.out).mono ?_); (case side1 => repeat (first | exact (Kd.C_below HR478.out HB.out) | (with_reducible refine Kd.C_alloc ?_ _) | (with_reducible refine Kd.C_drewN ?_ _) | (with_reducible refine Kd.C_drew ?_))); (case side2 => exact HC478.out); (case side3 => repeat (first | exact (Kd.C_below HR1.out HB.out) | (with_reducible refine Kd.C_alloc ?_ _) | (with_reducible refine Kd.C_drewN ?_ _) | (with_reducible refine Kd.C_drew ?_))); (case side4 => exact HC1.out); (case side5 => first | exact HG.out | exact GlobG.drewN HG.out _ | exact GlobG.below HG.out (by repeat (first | (with_reducible first | exact HB.out | apply below_alloc | apply pw_below_drewN | apply below_drew1) | exact HB.out))); rintro e w76 ⟨rfl, hb⟩; refine ⟨_, rfl, ?_⟩; have n0_ := Aside0.mk (below_step (by repeat (first | (with_reducible first | exact HB.out | apply below_alloc | apply pw_below_drewN | apply below_drew1) | exact HB.out)) hb); clear HB; have HB := n0_; clear n0_; (try clear hb); (try clear hb2); (try clear hk); (try clear hi); have q77 : (t465 : Int) ≤ ((l0.length : Int) : Int) := of_decide_eq_true (by first | (with_reducible assumption) | assumption); obtain ⟨i077, hi077, _, hsz77, _⟩ := info_parts info47; have hroom77 : l0.length ≤ c0 := HC0.out; have hC77 : Kd.C k47 _ (some ad472) l0.length l0 := HR0.out; have q077 : (0 : Int) ≤ (t465 : Int) := of_decide_eq_true (by first | (with_reducible assumption) | assumption); have hcut77 := cut_from (P := Tryd.prog) 42 47 .i64 Tryd.underlying42 hi077 5 hsz77 (some ad472) l0.length c0 t465 q077 q77; have hr77 := Kd.C_drop (m := (t465 : Int).toNat) (c := c0) hC77 (by omega) hroom77; obtain ⟨A77, hA77⟩ : ∃ A1, A1 = (if c0 = (t465 : Int).toNat then (some ad472) else ((some ad472) : Option Addr).map (·.add ((t465 : Int).toNat * 5))) := ⟨_, rfl⟩; obtain ⟨c77, hc77⟩ : ∃ c1, c1 = c0 - (t465 : Int).toNat := ⟨_, rfl⟩; have hy77 : y482.length = l0.length - (t465 : Int).toNat := (by rw [Ny482.out, List.length_drop] <;> omega); rw [show (l0).drop (t465 : Int).toNat = y482 from Ny482.out.symm] at hr77; replace hr77 : Kd.C k47 _ A77 y482.length y482 := (by rw [hA77]; exact hr77); rw [← hy77, ← hA77, ← hc77] at hcut77; have HR485 := Aside0.mk hr77; have HC485 := Aside0.mk (show y482.length ≤ c77 from by rw [hy77, hc77]; exact Nat.sub_le_sub_right hroom77 _); clear hr77 hC77 hroom77 hi077 hsz77 hc77; have KY77 := Aside0.mk hy77; have KA77 := Aside0.mk hA77; clear hy77 hA77; replace q77 := eq_true q77) | ((with_reducible refine gate_callee (f := 23) rfl ?_); refine goesL_ (some 113) rfl rfl Tryd.func23 (by kernel_rfl) rfl #[.slice A77 y482.length c77, .slice A1 l1.length c1] rfl (by (try simp only [List.map_toArray, List.map_cons, List.map_nil]); first | done | rfl | (simp only [List.length_drop, List.length_take]; rfl)) ?_; (with_reducible refine (rule_Grade.calls k4 _ _ y482 _ _ l1 t486 t487 t488 _ ?side1 ?side2 ?side3 ?side4 ?side5 A42.out).mono ?_); (case side1 => repeat (first | exact (Kd.C_below HR485.out HB.out) | (with_reducible refine Kd.C_alloc ?_ _) | (with_reducible refine Kd.C_drewN ?_ _) | (with_reducible refine Kd.C_drew ?_))); (case side2 => exact HC485.out); (case side3 => repeat (first | exact (Kd.C_below HR1.out HB.out) | (with_reducible refine Kd.C_alloc ?_ _) | (with_reducible refine Kd.C_drewN ?_ _) | (with_reducible refine Kd.C_drew ?_))); (case side4 => exact HC1.out); (case side5 => first | exact HG.out | exact GlobG.drewN HG.out _ | exact GlobG.below HG.out (by repeat (first | (with_reducible first | exact HB.out | apply below_alloc | apply pw_below_drewN | apply below_drew1) | exact HB.out))); rintro e w78 ⟨rfl, hb⟩; refine ⟨_, rfl, ?_⟩; have n0_ := Aside0.mk (below_step (by repeat (first | (with_reducible first | exact HB.out | apply below_alloc | apply pw_below_drewN | apply below_drew1) | exact HB.out)) hb); clear HB; have HB := n0_; clear n0_; (try clear hb); (try clear hb2); (try clear hk); (try clear hi); have p489 : 0 ≤ (t465 : Int) := of_decide_eq_true (by first | (with_reducible assumption) | assumption); have q489 : t465 < (l0.length : Int) := of_decide_eq_true (by first | (with_reducible assumption) | assumption); obtain ⟨ad489, A489_4, c489_4, e489, hx489_0, hx489_1, hx489_2, hx489_3, hx489_4, hl489_4, hi489_4⟩ := at_T47 HR0.out t465 p489 q489; obtain rfl : ad472 = ad489 := (by injection e489); replace hx489_0 := (HB.out.cell (World.block_lt_of_cell? w _ hx489_0)).trans hx489_0; replace hx489_1 := (HB.out.cell (World.block_lt_of_cell? w _ hx489_1)).trans hx489_1; replace hx489_2 := (HB.out.cell (World.block_lt_of_cell? w _ hx489_2)).trans hx489_2; replace hx489_3 := (HB.out.cell (World.block_lt_of_cell? w _ hx489_3)).trans hx489_3; replace hx489_4 := (HB.out.cell (World.block_lt_of_cell? w _ hx489_4)).trans hx489_4; have HR489_4 := Aside0.mk hi489_4; have HC489_4 := Aside0.mk hl489_4; clear hi489_4 hl489_4; replace p489 := eq_true p489; replace q489 := eq_true q489))
                                                  go_ret
                                                  exact ⟨by first | rfl | (simp [errW_none, errW_some] <;> rfl) | (simp only [← hji36]; first | rfl | (simp [errW_none, errW_some] <;> rfl)) | (simp [*, errW_none, errW_some] <;> rfl), by repeat (first | (with_reducible first | exact HB.out | apply below_alloc | apply pw_below_drewN | apply below_drew1) | exact HB.out)⟩
                                              · rw [if_neg c47] at H
                                                have c47b0 : (t480 == t465) = false := beq_eq_false_iff_ne.mpr c47
                                                have c47b1 : (t480 != t465) = true := bne_iff_ne.mpr c47
                                                obtain rfl := Option.some.inj H
                                                have p472 : 0 ≤ (t465 : Int) := of_decide_eq_true (by first | (with_reducible assumption) | assumption)
                                                have q472 : t465 < (l0.length : Int) := of_decide_eq_true (by first | (with_reducible assumption) | assumption)
                                                obtain ⟨ad472, A472_4, c472_4, e472, hx472_0, hx472_1, hx472_2, hx472_3, hx472_4, hl472_4, hi472_4⟩ := at_T47 HR0.out t465 p472 q472
                                                cases e472
                                                replace hx472_0 := (HB.out.cell (World.block_lt_of_cell? w _ hx472_0)).trans hx472_0
                                                replace hx472_1 := (HB.out.cell (World.block_lt_of_cell? w _ hx472_1)).trans hx472_1
                                                replace hx472_2 := (HB.out.cell (World.block_lt_of_cell? w _ hx472_2)).trans hx472_2
                                                replace hx472_3 := (HB.out.cell (World.block_lt_of_cell? w _ hx472_3)).trans hx472_3
                                                replace hx472_4 := (HB.out.cell (World.block_lt_of_cell? w _ hx472_4)).trans hx472_4
                                                have HR472_4 := Aside0.mk hi472_4
                                                have HC472_4 := Aside0.mk hl472_4
                                                clear hi472_4 hl472_4
                                                replace p472 := eq_true p472
                                                replace q472 := eq_true q472
                                                go_wp2_with (first | ((with_reducible refine gate_callee (f := 19) rfl ?_); refine goesL_ (some 95) rfl rfl Tryd.func19 (by kernel_rfl) rfl #[.agg #[.int .i64 ((rd_T47 l0 t465).f1.f0), .int .i64 ((rd_T47 l0 t465).f1.f1), .string ((rd_T47 l0 t465).f1.f2), .slice A472_4 ((rd_T47 l0 t465).f1.f3).length c472_4], .slice A1 l1.length c1] rfl (by (try simp only [List.map_toArray, List.map_cons, List.map_nil]); first | done | rfl | (simp only [List.length_drop, List.length_take]; rfl)) ?_; (with_reducible refine (rule_Eval.calls k4 ((rd_T47 l0 t465).f1.f0) ((rd_T47 l0 t465).f1.f1) ((rd_T47 l0 t465).f1.f2) _ _ ((rd_T47 l0 t465).f1.f3) _ _ l1 t473 t474 _ ?side1 ?side2 ?side3 ?side4 ?side5 A35.out).mono ?_); (case side1 => repeat (first | exact (Kd.C_below HR472_4.out HB.out) | (with_reducible refine Kd.C_alloc ?_ _) | (with_reducible refine Kd.C_drewN ?_ _) | (with_reducible refine Kd.C_drew ?_))); (case side2 => exact HC472_4.out); (case side3 => repeat (first | exact (Kd.C_below HR1.out HB.out) | (with_reducible refine Kd.C_alloc ?_ _) | (with_reducible refine Kd.C_drewN ?_ _) | (with_reducible refine Kd.C_drew ?_))); (case side4 => exact HC1.out); (case side5 => first | exact HG.out | exact GlobG.drewN HG.out _ | exact GlobG.below HG.out (by repeat (first | (with_reducible first | exact HB.out | apply below_alloc | apply pw_below_drewN | apply below_drew1) | exact HB.out))); rintro e w79 ⟨rfl, hb⟩; refine ⟨_, rfl, ?_⟩; have n0_ := Aside0.mk (below_step (by repeat (first | (with_reducible first | exact HB.out | apply below_alloc | apply pw_below_drewN | apply below_drew1) | exact HB.out)) hb); clear HB; have HB := n0_; clear n0_; (try clear hb); (try clear hb2); (try clear hk); (try clear hi); have q80 : ((ji36) : Int) ≤ ((l0.length : Int) : Int) := of_decide_eq_true (by first | (with_reducible assumption) | assumption); obtain ⟨i080, hi080, _, hsz80, _⟩ := info_parts info47; have hroom80 : l0.length ≤ c0 := HC0.out; have hC80 : Kd.C k47 _ (some ad472) l0.length l0 := HR0.out; have hcut80 := cut_to (P := Tryd.prog) 42 47 .i64 Tryd.underlying42 hi080 (some ad472) l0.length c0 (ji36) (of_decide_eq_true (by first | (with_reducible assumption) | assumption)) q80 hroom80; have hr80 := Kd.C_take (m := ((ji36) : Int).toNat) hC80 (by omega); have hy80 : y475.length = ((ji36) : Int).toNat := (by rw [Ny475.out, List.length_take]; omega); rw [← Ny475.out] at hr80; rw [← hy80] at hcut80; have HR478 := Aside0.mk hr80; have HC478 := Aside0.mk (show y475.length ≤ c0 from by omega); clear hr80 hC80 hroom80 hi080 hsz80; have KY80 := Aside0.mk hy80; clear hy80; replace q80 := eq_true q80) | ((with_reducible refine gate_callee (f := 23) rfl ?_); refine goesL_ (some 104) rfl rfl Tryd.func23 (by kernel_rfl) rfl #[.slice (some ad472) y475.length c0, .slice A1 l1.length c1] rfl (by (try simp only [List.map_toArray, List.map_cons, List.map_nil]); first | done | rfl | (simp only [List.length_drop, List.length_take]; rfl)) ?_; (with_reducible refine (rule_Grade.calls k4 _ _ y475 _ _ l1 t479 t480 t481 _ ?side1 ?side2 ?side3 ?side4 ?side5 A39.out).mono ?_); (case side1 => repeat (first | exact (Kd.C_below HR478.out HB.out) | (with_reducible refine Kd.C_alloc ?_ _) | (with_reducible refine Kd.C_drewN ?_ _) | (with_reducible refine Kd.C_drew ?_))); (case side2 => exact HC478.out); (case side3 => repeat (first | exact (Kd.C_below HR1.out HB.out) | (with_reducible refine Kd.C_alloc ?_ _) | (with_reducible refine Kd.C_drewN ?_ _) | (with_reducible refine Kd.C_drew ?_))); (case side4 => exact HC1.out); (case side5 => first | exact HG.out | exact GlobG.drewN HG.out _ | exact GlobG.below HG.out (by repeat (first | (with_reducible first | exact HB.out | apply below_alloc | apply pw_below_drewN | apply below_drew1) | exact HB.out))); rintro e w81 ⟨rfl, hb⟩; refine ⟨_, rfl, ?_⟩; have n0_ := Aside0.mk (below_step (by repeat (first | (with_reducible first | exact HB.out | apply below_alloc | apply pw_below_drewN | apply below_drew1) | exact HB.out)) hb); clear HB; have HB := n0_; clear n0_; (try clear hb); (try clear hb2); (try clear hk); (try clear hi); have q82 : (t465 : Int) ≤ ((l0.length : Int) : Int) := of_decide_eq_true (by first | (with_reducible assumption) | assumption); obtain ⟨i082, hi082, _, hsz82, _⟩ := info_parts info47; have hroom82 : l0.length ≤ c0 := HC0.out; have hC82 : Kd.C k47 _ (some ad472) l0.length l0 := HR0.out; have q082 : (0 : Int) ≤ (t465 : Int) := of_decide_eq_true (by first | (with_reducible assumption) | assumption); have hcut82 := cut_from (P := Tryd.prog) 42 47 .i64 Tryd.underlying42 hi082 5 hsz82 (some ad472) l0.length c0 t465 q082 q82; have hr82 := Kd.C_drop (m := (t465 : Int).toNat) (c := c0) hC82 (by omega) hroom82; obtain ⟨A82, hA82⟩ : ∃ A1, A1 = (if c0 = (t465 : Int).toNat then (some ad472) else ((some ad472) : Option Addr).map (·.add ((t465 : Int).toNat * 5))) := ⟨_, rfl⟩; obtain ⟨c82, hc82⟩ : ∃ c1, c1 = c0 - (t465 : Int).toNat := ⟨_, rfl⟩; have hy82 : y482.length = l0.length - (t465 : Int).toNat := (by rw [Ny482.out, List.length_drop] <;> omega); rw [show (l0).drop (t465 : Int).toNat = y482 from Ny482.out.symm] at hr82; replace hr82 : Kd.C k47 _ A82 y482.length y482 := (by rw [hA82]; exact hr82); rw [← hy82, ← hA82, ← hc82] at hcut82; have HR485 := Aside0.mk hr82; have HC485 := Aside0.mk (show y482.length ≤ c82 from by rw [hy82, hc82]; exact Nat.sub_le_sub_right hroom82 _); clear hr82 hC82 hroom82 hi082 hsz82 hc82; have KY82 := Aside0.mk hy82; have KA82 := Aside0.mk hA82; clear hy82 hA82; replace q82 := eq_true q82) | ((with_reducible refine gate_callee (f := 23) rfl ?_); refine goesL_ (some 113) rfl rfl Tryd.func23 (by kernel_rfl) rfl #[.slice A82 y482.length c82, .slice A1 l1.length c1] rfl (by (try simp only [List.map_toArray, List.map_cons, List.map_nil]); first | done | rfl | (simp only [List.length_drop, List.length_take]; rfl)) ?_; (with_reducible refine (rule_Grade.calls k4 _ _ y482 _ _ l1 t486 t487 t488 _ ?side1 ?side2 ?side3 ?side4 ?side5 A42.out).mono ?_); (case side1 => repeat (first | exact (Kd.C_below HR485.out HB.out) | (with_reducible refine Kd.C_alloc ?_ _) | (with_reducible refine Kd.C_drewN ?_ _) | (with_reducible refine Kd.C_drew ?_))); (case side2 => exact HC485.out); (case side3 => repeat (first | exact (Kd.C_below HR1.out HB.out) | (with_reducible refine Kd.C_alloc ?_ _) | (with_reducible refine Kd.C_drewN ?_ _) | (with_reducible refine Kd.C_drew ?_))); (case side4 => exact HC1.out); (case side5 => first | exact HG.out | exact GlobG.drewN HG.out _ | exact GlobG.below HG.out (by repeat (first | (with_reducible first | exact HB.out | apply below_alloc | apply pw_below_drewN | apply below_drew1) | exact HB.out))); rintro e w83 ⟨rfl, hb⟩; refine ⟨_, rfl, ?_⟩; have n0_ := Aside0.mk (below_step (by repeat (first | (with_reducible first | exact HB.out | apply below_alloc | apply pw_below_drewN | apply below_drew1) | exact HB.out)) hb); clear HB; have HB := n0_; clear n0_; (try clear hb); (try clear hb2); (try clear hk); (try clear hi); have p489 : 0 ≤ (t465 : Int) := of_decide_eq_true (by first | (with_reducible assumption) | assumption); have q489 : t465 < (l0.length : Int) := of_decide_eq_true (by first | (with_reducible assumption) | assumption); obtain ⟨ad489, A489_4, c489_4, e489, hx489_0, hx489_1, hx489_2, hx489_3, hx489_4, hl489_4, hi489_4⟩ := at_T47 HR0.out t465 p489 q489; obtain rfl : ad472 = ad489 := (by injection e489); replace hx489_0 := (HB.out.cell (World.block_lt_of_cell? w _ hx489_0)).trans hx489_0; replace hx489_1 := (HB.out.cell (World.block_lt_of_cell? w _ hx489_1)).trans hx489_1; replace hx489_2 := (HB.out.cell (World.block_lt_of_cell? w _ hx489_2)).trans hx489_2; replace hx489_3 := (HB.out.cell (World.block_lt_of_cell? w _ hx489_3)).trans hx489_3; replace hx489_4 := (HB.out.cell (World.block_lt_of_cell? w _ hx489_4)).trans hx489_4; have HR489_4 := Aside0.mk hi489_4; have HC489_4 := Aside0.mk hl489_4; clear hi489_4 hl489_4; replace p489 := eq_true p489; replace q489 := eq_true q489))
                                                go_ret
                                                exact ⟨by first | rfl | (simp [errW_none, errW_some] <;> rfl) | (simp only [← hji36]; first | rfl | (simp [errW_none, errW_some] <;> rfl)) | (simp [*, errW_none, errW_some] <;> rfl), by repeat (first | (with_reducible first | exact HB.out | apply below_alloc | apply pw_below_drewN | apply below_drew1) | exact HB.out)⟩
                                            · rw [if_neg c46] at H
                                              have c46b0 : (t479 == t464) = false := beq_eq_false_iff_ne.mpr c46
                                              have c46b1 : (t479 != t464) = true := bne_iff_ne.mpr c46
                                              obtain rfl := Option.some.inj H
                                              have p472 : 0 ≤ (t465 : Int) := of_decide_eq_true (by first | (with_reducible assumption) | assumption)
                                              have q472 : t465 < (l0.length : Int) := of_decide_eq_true (by first | (with_reducible assumption) | assumption)
                                              obtain ⟨ad472, A472_4, c472_4, e472, hx472_0, hx472_1, hx472_2, hx472_3, hx472_4, hl472_4, hi472_4⟩ := at_T47 HR0.out t465 p472 q472
                                              cases e472
                                              replace hx472_0 := (HB.out.cell (World.block_lt_of_cell? w _ hx472_0)).trans hx472_0
                                              replace hx472_1 := (HB.out.cell (World.block_lt_of_cell? w _ hx472_1)).trans hx472_1
                                              replace hx472_2 := (HB.out.cell (World.block_lt_of_cell? w _ hx472_2)).trans hx472_2
                                              replace hx472_3 := (HB.out.cell (World.block_lt_of_cell? w _ hx472_3)).trans hx472_3
                                              replace hx472_4 := (HB.out.cell (World.block_lt_of_cell? w _ hx472_4)).trans hx472_4
                                              have HR472_4 := Aside0.mk hi472_4
                                              have HC472_4 := Aside0.mk hl472_4
                                              clear hi472_4 hl472_4
                                              replace p472 := eq_true p472
                                              replace q472 := eq_true q472
                                              go_wp2_with (first | ((with_reducible refine gate_callee (f := 19) rfl ?_); refine goesL_ (some 95) rfl rfl Tryd.func19 (by kernel_rfl) rfl #[.agg #[.int .i64 ((rd_T47 l0 t465).f1.f0), .int .i64 ((rd_T47 l0 t465).f1.f1), .string ((rd_T47 l0 t465).f1.f2), .slice A472_4 ((rd_T47 l0 t465).f1.f3).length c472_4], .slice A1 l1.length c1] rfl (by (try simp only [List.map_toArray, List.map_cons, List.map_nil]); first | done | rfl | (simp only [List.length_drop, List.length_take]; rfl)) ?_; (with_reducible refine (rule_Eval.calls k4 ((rd_T47 l0 t465).f1.f0) ((rd_T47 l0 t465).f1.f1) ((rd_T47 l0 t465).f1.f2) _ _ ((rd_T47 l0 t465).f1.f3) _ _ l1 t473 t474 _ ?side1 ?side2 ?side3 ?side4 ?side5 A35.out).mono ?_); (case side1 => repeat (first | exact (Kd.C_below HR472_4.out HB.out) | (with_reducible refine Kd.C_alloc ?_ _) | (with_reducible refine Kd.C_drewN ?_ _) | (with_reducible refine Kd.C_drew ?_))); (case side2 => exact HC472_4.out); (case side3 => repeat (first | exact (Kd.C_below HR1.out HB.out) | (with_reducible refine Kd.C_alloc ?_ _) | (with_reducible refine Kd.C_drewN ?_ _) | (with_reducible refine Kd.C_drew ?_))); (case side4 => exact HC1.out); (case side5 => first | exact HG.out | exact GlobG.drewN HG.out _ | exact GlobG.below HG.out (by repeat (first | (with_reducible first | exact HB.out | apply below_alloc | apply pw_below_drewN | apply below_drew1) | exact HB.out))); rintro e w84 ⟨rfl, hb⟩; refine ⟨_, rfl, ?_⟩; have n0_ := Aside0.mk (below_step (by repeat (first | (with_reducible first | exact HB.out | apply below_alloc | apply pw_below_drewN | apply below_drew1) | exact HB.out)) hb); clear HB; have HB := n0_; clear n0_; (try clear hb); (try clear hb2); (try clear hk); (try clear hi); have q85 : ((ji36) : Int) ≤ ((l0.length : Int) : Int) := of_decide_eq_true (by first | (with_reducible assumption) | assumption); obtain ⟨i085, hi085, _, hsz85, _⟩ := info_parts info47; have hroom85 : l0.length ≤ c0 := HC0.out; have hC85 : Kd.C k47 _ (some ad472) l0.length l0 := HR0.out; have hcut85 := cut_to (P := Tryd.prog) 42 47 .i64 Tryd.underlying42 hi085 (some ad472) l0.length c0 (ji36) (of_decide_eq_true (by first | (with_reducible assumption) | assumption)) q85 hroom85; have hr85 := Kd.C_take (m := ((ji36) : Int).toNat) hC85 (by omega); have hy85 : y475.length = ((ji36) : Int).toNat := (by rw [Ny475.out, List.length_take]; omega); rw [← Ny475.out] at hr85; rw [← hy85] at hcut85; have HR478 := Aside0.mk hr85; have HC478 := Aside0.mk (show y475.length ≤ c0 from by omega); clear hr85 hC85 hroom85 hi085 hsz85; have KY85 := Aside0.mk hy85; clear hy85; replace q85 := eq_true q85) | ((with_reducible refine gate_callee (f := 23) rfl ?_); refine goesL_ (some 104) rfl rfl Tryd.func23 (by kernel_rfl) rfl #[.slice (some ad472) y475.length c0, .slice A1 l1.length c1] rfl (by (try simp only [List.map_toArray, List.map_cons, List.map_nil]); first | done | rfl | (simp only [List.length_drop, List.length_take]; rfl)) ?_; (with_reducible refine (rule_Grade.calls k4 _ _ y475 _ _ l1 t479 t480 t481 _ ?side1 ?side2 ?side3 ?side4 ?side5 A39.out).mono ?_); (case side1 => repeat (first | exact (Kd.C_below HR478.out HB.out) | (with_reducible refine Kd.C_alloc ?_ _) | (with_reducible refine Kd.C_drewN ?_ _) | (with_reducible refine Kd.C_drew ?_))); (case side2 => exact HC478.out); (case side3 => repeat (first | exact (Kd.C_below HR1.out HB.out) | (with_reducible refine Kd.C_alloc ?_ _) | (with_reducible refine Kd.C_drewN ?_ _) | (with_reducible refine Kd.C_drew ?_))); (case side4 => exact HC1.out); (case side5 => first | exact HG.out | exact GlobG.drewN HG.out _ | exact GlobG.below HG.out (by repeat (first | (with_reducible first | exact HB.out | apply below_alloc | apply pw_below_drewN | apply below_drew1) | exact HB.out))); rintro e w86 ⟨rfl, hb⟩; refine ⟨_, rfl, ?_⟩; have n0_ := Aside0.mk (below_step (by repeat (first | (with_reducible first | exact HB.out | apply below_alloc | apply pw_below_drewN | apply below_drew1) | exact HB.out)) hb); clear HB; have HB := n0_; clear n0_; (try clear hb); (try clear hb2); (try clear hk); (try clear hi); have q87 : (t465 : Int) ≤ ((l0.length : Int) : Int) := of_decide_eq_true (by first | (with_reducible assumption) | assumption); obtain ⟨i087, hi087, _, hsz87, _⟩ := info_parts info47; have hroom87 : l0.length ≤ c0 := HC0.out; have hC87 : Kd.C k47 _ (some ad472) l0.length l0 := HR0.out; have q087 : (0 : Int) ≤ (t465 : Int) := of_decide_eq_true (by first | (with_reducible assumption) | assumption); have hcut87 := cut_from (P := Tryd.prog) 42 47 .i64 Tryd.underlying42 hi087 5 hsz87 (some ad472) l0.length c0 t465 q087 q87; have hr87 := Kd.C_drop (m := (t465 : Int).toNat) (c := c0) hC87 (by omega) hroom87; obtain ⟨A87, hA87⟩ : ∃ A1, A1 = (if c0 = (t465 : Int).toNat then (some ad472) else ((some ad472) : Option Addr).map (·.add ((t465 : Int).toNat * 5))) := ⟨_, rfl⟩; obtain ⟨c87, hc87⟩ : ∃ c1, c1 = c0 - (t465 : Int).toNat := ⟨_, rfl⟩; have hy87 : y482.length = l0.length - (t465 : Int).toNat := (by rw [Ny482.out, List.length_drop] <;> omega); rw [show (l0).drop (t465 : Int).toNat = y482 from Ny482.out.symm] at hr87; replace hr87 : Kd.C k47 _ A87 y482.length y482 := (by rw [hA87]; exact hr87); rw [← hy87, ← hA87, ← hc87] at hcut87; have HR485 := Aside0.mk hr87; have HC485 := Aside0.mk (show y482.length ≤ c87 from by rw [hy87, hc87]; exact Nat.sub_le_sub_right hroom87 _); clear hr87 hC87 hroom87 hi087 hsz87 hc87; have KY87 := Aside0.mk hy87; have KA87 := Aside0.mk hA87; clear hy87 hA87; replace q87 := eq_true q87) | ((with_reducible refine gate_callee (f := 23) rfl ?_); refine goesL_ (some 113) rfl rfl Tryd.func23 (by kernel_rfl) rfl #[.slice A87 y482.length c87, .slice A1 l1.length c1] rfl (by (try simp only [List.map_toArray, List.map_cons, List.map_nil]); first | done | rfl | (simp only [List.length_drop, List.length_take]; rfl)) ?_; (with_reducible refine (rule_Grade.calls k4 _ _ y482 _ _ l1 t486 t487 t488 _ ?side1 ?side2 ?side3 ?side4 ?side5 A42.out).mono ?_); (case side1 => repeat (first | exact (Kd.C_below HR485.out HB.out) | (with_reducible refine Kd.C_alloc ?_ _) | (with_reducible refine Kd.C_drewN ?_ _) | (with_reducible refine Kd.C_drew ?_))); (case side2 => exact HC485.out); (case side3 => repeat (first | exact (Kd.C_below HR1.out HB.out) | (with_reducible refine Kd.C_alloc ?_ _) | (with_reducible refine Kd.C_drewN ?_ _) | (with_reducible refine Kd.C_drew ?_))); (case side4 => exact HC1.out); (case side5 => first | exact HG.out | exact GlobG.drewN HG.out _ | exact GlobG.below HG.out (by repeat (first | (with_reducible first | exact HB.out | apply below_alloc | apply pw_below_drewN | apply below_drew1) | exact HB.out))); rintro e w88 ⟨rfl, hb⟩; refine ⟨_, rfl, ?_⟩; have n0_ := Aside0.mk (below_step (by repeat (first | (with_reducible first | exact HB.out | apply below_alloc | apply pw_below_drewN | apply below_drew1) | exact HB.out)) hb); clear HB; have HB := n0_; clear n0_; (try clear hb); (try clear hb2); (try clear hk); (try clear hi); have p489 : 0 ≤ (t465 : Int) := of_decide_eq_true (by first | (with_reducible assumption) | assumption); have q489 : t465 < (l0.length : Int) := of_decide_eq_true (by first | (with_reducible assumption) | assumption); obtain ⟨ad489, A489_4, c489_4, e489, hx489_0, hx489_1, hx489_2, hx489_3, hx489_4, hl489_4, hi489_4⟩ := at_T47 HR0.out t465 p489 q489; obtain rfl : ad472 = ad489 := (by injection e489); replace hx489_0 := (HB.out.cell (World.block_lt_of_cell? w _ hx489_0)).trans hx489_0; replace hx489_1 := (HB.out.cell (World.block_lt_of_cell? w _ hx489_1)).trans hx489_1; replace hx489_2 := (HB.out.cell (World.block_lt_of_cell? w _ hx489_2)).trans hx489_2; replace hx489_3 := (HB.out.cell (World.block_lt_of_cell? w _ hx489_3)).trans hx489_3; replace hx489_4 := (HB.out.cell (World.block_lt_of_cell? w _ hx489_4)).trans hx489_4; have HR489_4 := Aside0.mk hi489_4; have HC489_4 := Aside0.mk hl489_4; clear hi489_4 hl489_4; replace p489 := eq_true p489; replace q489 := eq_true q489))
                                              go_ret
                                              exact ⟨by first | rfl | (simp [errW_none, errW_some] <;> rfl) | (simp only [← hji36]; first | rfl | (simp [errW_none, errW_some] <;> rfl)) | (simp [*, errW_none, errW_some] <;> rfl), by repeat (first | (with_reducible first | exact HB.out | apply below_alloc | apply pw_below_drewN | apply below_drew1) | exact HB.out)⟩
                                          · rw [if_neg c45] at H
                                            have c45b0 : (t474 == 0) = false := beq_eq_false_iff_ne.mpr c45
                                            have c45b1 : (t474 != 0) = true := bne_iff_ne.mpr c45
                                            obtain rfl := Option.some.inj H
                                            have p472 : 0 ≤ (t465 : Int) := of_decide_eq_true (by first | (with_reducible assumption) | assumption)
                                            have q472 : t465 < (l0.length : Int) := of_decide_eq_true (by first | (with_reducible assumption) | assumption)
                                            obtain ⟨ad472, A472_4, c472_4, e472, hx472_0, hx472_1, hx472_2, hx472_3, hx472_4, hl472_4, hi472_4⟩ := at_T47 HR0.out t465 p472 q472
                                            cases e472
                                            replace hx472_0 := (HB.out.cell (World.block_lt_of_cell? w _ hx472_0)).trans hx472_0
                                            replace hx472_1 := (HB.out.cell (World.block_lt_of_cell? w _ hx472_1)).trans hx472_1
                                            replace hx472_2 := (HB.out.cell (World.block_lt_of_cell? w _ hx472_2)).trans hx472_2
                                            replace hx472_3 := (HB.out.cell (World.block_lt_of_cell? w _ hx472_3)).trans hx472_3
                                            replace hx472_4 := (HB.out.cell (World.block_lt_of_cell? w _ hx472_4)).trans hx472_4
                                            have HR472_4 := Aside0.mk hi472_4
                                            have HC472_4 := Aside0.mk hl472_4
                                            clear hi472_4 hl472_4
                                            replace p472 := eq_true p472
                                            replace q472 := eq_true q472
                                            go_wp2_with (first | ((with_reducible refine gate_callee (f := 19) rfl ?_); refine goesL_ (some 95) rfl rfl Tryd.func19 (by kernel_rfl) rfl #[.agg #[.int .i64 ((rd_T47 l0 t465).f1.f0), .int .i64 ((rd_T47 l0 t465).f1.f1), .string ((rd_T47 l0 t465).f1.f2), .slice A472_4 ((rd_T47 l0 t465).f1.f3).length c472_4], .slice A1 l1.length c1] rfl (by (try simp only [List.map_toArray, List.map_cons, List.map_nil]); first | done | rfl | (simp only [List.length_drop, List.length_take]; rfl)) ?_; (with_reducible refine (rule_Eval.calls k4 ((rd_T47 l0 t465).f1.f0) ((rd_T47 l0 t465).f1.f1) ((rd_T47 l0 t465).f1.f2) _ _ ((rd_T47 l0 t465).f1.f3) _ _ l1 t473 t474 _ ?side1 ?side2 ?side3 ?side4 ?side5 A35.out).mono ?_); (case side1 => repeat (first | exact (Kd.C_below HR472_4.out HB.out) | (with_reducible refine Kd.C_alloc ?_ _) | (with_reducible refine Kd.C_drewN ?_ _) | (with_reducible refine Kd.C_drew ?_))); (case side2 => exact HC472_4.out); (case side3 => repeat (first | exact (Kd.C_below HR1.out HB.out) | (with_reducible refine Kd.C_alloc ?_ _) | (with_reducible refine Kd.C_drewN ?_ _) | (with_reducible refine Kd.C_drew ?_))); (case side4 => exact HC1.out); (case side5 => first | exact HG.out | exact GlobG.drewN HG.out _ | exact GlobG.below HG.out (by repeat (first | (with_reducible first | exact HB.out | apply below_alloc | apply pw_below_drewN | apply below_drew1) | exact HB.out))); rintro e w89 ⟨rfl, hb⟩; refine ⟨_, rfl, ?_⟩; have n0_ := Aside0.mk (below_step (by repeat (first | (with_reducible first | exact HB.out | apply below_alloc | apply pw_below_drewN | apply below_drew1) | exact HB.out)) hb); clear HB; have HB := n0_; clear n0_; (try clear hb); (try clear hb2); (try clear hk); (try clear hi); have q90 : ((ji36) : Int) ≤ ((l0.length : Int) : Int) := of_decide_eq_true (by first | (with_reducible assumption) | assumption); obtain ⟨i090, hi090, _, hsz90, _⟩ := info_parts info47; have hroom90 : l0.length ≤ c0 := HC0.out; have hC90 : Kd.C k47 _ (some ad472) l0.length l0 := HR0.out; have hcut90 := cut_to (P := Tryd.prog) 42 47 .i64 Tryd.underlying42 hi090 (some ad472) l0.length c0 (ji36) (of_decide_eq_true (by first | (with_reducible assumption) | assumption)) q90 hroom90; have hr90 := Kd.C_take (m := ((ji36) : Int).toNat) hC90 (by omega); have hy90 : y475.length = ((ji36) : Int).toNat := (by rw [Ny475.out, List.length_take]; omega); rw [← Ny475.out] at hr90; rw [← hy90] at hcut90; have HR478 := Aside0.mk hr90; have HC478 := Aside0.mk (show y475.length ≤ c0 from by omega); clear hr90 hC90 hroom90 hi090 hsz90; have KY90 := Aside0.mk hy90; clear hy90; replace q90 := eq_true q90) | ((with_reducible refine gate_callee (f := 23) rfl ?_); refine goesL_ (some 104) rfl rfl Tryd.func23 (by kernel_rfl) rfl #[.slice (some ad472) y475.length c0, .slice A1 l1.length c1] rfl (by (try simp only [List.map_toArray, List.map_cons, List.map_nil]); first | done | rfl | (simp only [List.length_drop, List.length_take]; rfl)) ?_; (with_reducible refine (rule_Grade.calls k4 _ _ y475 _ _ l1 t479 t480 t481 _ ?side1 ?side2 ?side3 ?side4 ?side5 A39.out).mono ?_); (case side1 => repeat (first | exact (Kd.C_below HR478.out HB.out) | (with_reducible refine Kd.C_alloc ?_ _) | (with_reducible refine Kd.C_drewN ?_ _) | (with_reducible refine Kd.C_drew ?_))); (case side2 => exact HC478.out); (case side3 => repeat (first | exact (Kd.C_below HR1.out HB.out) | (with_reducible refine Kd.C_alloc ?_ _) | (with_reducible refine Kd.C_drewN ?_ _) | (with_reducible refine Kd.C_drew ?_))); (case side4 => exact HC1.out); (case side5 => first | exact HG.out | exact GlobG.drewN HG.out _ | exact GlobG.below HG.out (by repeat (first | (with_reducible first | exact HB.out | apply below_alloc | apply pw_below_drewN | apply below_drew1) | exact HB.out))); rintro e w91 ⟨rfl, hb⟩; refine ⟨_, rfl, ?_⟩; have n0_ := Aside0.mk (below_step (by repeat (first | (with_reducible first | exact HB.out | apply below_alloc | apply pw_below_drewN | apply below_drew1) | exact HB.out)) hb); clear HB; have HB := n0_; clear n0_; (try clear hb); (try clear hb2); (try clear hk); (try clear hi); have q92 : (t465 : Int) ≤ ((l0.length : Int) : Int) := of_decide_eq_true (by first | (with_reducible assumption) | assumption); obtain ⟨i092, hi092, _, hsz92, _⟩ := info_parts info47; have hroom92 : l0.length ≤ c0 := HC0.out; have hC92 : Kd.C k47 _ (some ad472) l0.length l0 := HR0.out; have q092 : (0 : Int) ≤ (t465 : Int) := of_decide_eq_true (by first | (with_reducible assumption) | assumption); have hcut92 := cut_from (P := Tryd.prog) 42 47 .i64 Tryd.underlying42 hi092 5 hsz92 (some ad472) l0.length c0 t465 q092 q92; have hr92 := Kd.C_drop (m := (t465 : Int).toNat) (c := c0) hC92 (by omega) hroom92; obtain ⟨A92, hA92⟩ : ∃ A1, A1 = (if c0 = (t465 : Int).toNat then (some ad472) else ((some ad472) : Option Addr).map (·.add ((t465 : Int).toNat * 5))) := ⟨_, rfl⟩; obtain ⟨c92, hc92⟩ : ∃ c1, c1 = c0 - (t465 : Int).toNat := ⟨_, rfl⟩; have hy92 : y482.length = l0.length - (t465 : Int).toNat := (by rw [Ny482.out, List.length_drop] <;> omega); rw [show (l0).drop (t465 : Int).toNat = y482 from Ny482.out.symm] at hr92; replace hr92 : Kd.C k47 _ A92 y482.length y482 := (by rw [hA92]; exact hr92); rw [← hy92, ← hA92, ← hc92] at hcut92; have HR485 := Aside0.mk hr92; have HC485 := Aside0.mk (show y482.length ≤ c92 from by rw [hy92, hc92]; exact Nat.sub_le_sub_right hroom92 _); clear hr92 hC92 hroom92 hi092 hsz92 hc92; have KY92 := Aside0.mk hy92; have KA92 := Aside0.mk hA92; clear hy92 hA92; replace q92 := eq_true q92) | ((with_reducible refine gate_callee (f := 23) rfl ?_); refine goesL_ (some 113) rfl rfl Tryd.func23 (by kernel_rfl) rfl #[.slice A92 y482.length c92, .slice A1 l1.length c1] rfl (by (try simp only [List.map_toArray, List.map_cons, List.map_nil]); first | done | rfl | (simp only [List.length_drop, List.length_take]; rfl)) ?_; (with_reducible refine (rule_Grade.calls k4 _ _ y482 _ _ l1 t486 t487 t488 _ ?side1 ?side2 ?side3 ?side4 ?side5 A42.out).mono ?_); (case side1 => repeat (first | exact (Kd.C_below HR485.out HB.out) | (with_reducible refine Kd.C_alloc ?_ _) | (with_reducible refine Kd.C_drewN ?_ _) | (with_reducible refine Kd.C_drew ?_))); (case side2 => exact HC485.out); (case side3 => repeat (first | exact (Kd.C_below HR1.out HB.out) | (with_reducible refine Kd.C_alloc ?_ _) | (with_reducible refine Kd.C_drewN ?_ _) | (with_reducible refine Kd.C_drew ?_))); (case side4 => exact HC1.out); (case side5 => first | exact HG.out | exact GlobG.drewN HG.out _ | exact GlobG.below HG.out (by repeat (first | (with_reducible first | exact HB.out | apply below_alloc | apply pw_below_drewN | apply below_drew1) | exact HB.out))); rintro e w93 ⟨rfl, hb⟩; refine ⟨_, rfl, ?_⟩; have n0_ := Aside0.mk (below_step (by repeat (first | (with_reducible first | exact HB.out | apply below_alloc | apply pw_below_drewN | apply below_drew1) | exact HB.out)) hb); clear HB; have HB := n0_; clear n0_; (try clear hb); (try clear hb2); (try clear hk); (try clear hi); have p489 : 0 ≤ (t465 : Int) := of_decide_eq_true (by first | (with_reducible assumption) | assumption); have q489 : t465 < (l0.length : Int) := of_decide_eq_true (by first | (with_reducible assumption) | assumption); obtain ⟨ad489, A489_4, c489_4, e489, hx489_0, hx489_1, hx489_2, hx489_3, hx489_4, hl489_4, hi489_4⟩ := at_T47 HR0.out t465 p489 q489; obtain rfl : ad472 = ad489 := (by injection e489); replace hx489_0 := (HB.out.cell (World.block_lt_of_cell? w _ hx489_0)).trans hx489_0; replace hx489_1 := (HB.out.cell (World.block_lt_of_cell? w _ hx489_1)).trans hx489_1; replace hx489_2 := (HB.out.cell (World.block_lt_of_cell? w _ hx489_2)).trans hx489_2; replace hx489_3 := (HB.out.cell (World.block_lt_of_cell? w _ hx489_3)).trans hx489_3; replace hx489_4 := (HB.out.cell (World.block_lt_of_cell? w _ hx489_4)).trans hx489_4; have HR489_4 := Aside0.mk hi489_4; have HC489_4 := Aside0.mk hl489_4; clear hi489_4 hl489_4; replace p489 := eq_true p489; replace q489 := eq_true q489))
                                            go_ret
                                            exact ⟨by first | rfl | (simp [errW_none, errW_some] <;> rfl) | (simp only [← hji36]; first | rfl | (simp [errW_none, errW_some] <;> rfl)) | (simp [*, errW_none, errW_some] <;> rfl), by repeat (first | (with_reducible first | exact HB.out | apply below_alloc | apply pw_below_drewN | apply below_drew1) | exact HB.out)⟩
                                        · rw [if_neg c44] at H
                                          have c44b0 : (t473 == 1) = false := beq_eq_false_iff_ne.mpr c44
                                          have c44b1 : (t473 != 1) = true := bne_iff_ne.mpr c44
                                          obtain rfl := Option.some.inj H
                                          have p472 : 0 ≤ (t465 : Int) := of_decide_eq_true (by first | (with_reducible assumption) | assumption)
                                          have q472 : t465 < (l0.length : Int) := of_decide_eq_true (by first | (with_reducible assumption) | assumption)
                                          obtain ⟨ad472, A472_4, c472_4, e472, hx472_0, hx472_1, hx472_2, hx472_3, hx472_4, hl472_4, hi472_4⟩ := at_T47 HR0.out t465 p472 q472
                                          cases e472
                                          replace hx472_0 := (HB.out.cell (World.block_lt_of_cell? w _ hx472_0)).trans hx472_0
                                          replace hx472_1 := (HB.out.cell (World.block_lt_of_cell? w _ hx472_1)).trans hx472_1
                                          replace hx472_2 := (HB.out.cell (World.block_lt_of_cell? w _ hx472_2)).trans hx472_2
                                          replace hx472_3 := (HB.out.cell (World.block_lt_of_cell? w _ hx472_3)).trans hx472_3
                                          replace hx472_4 := (HB.out.cell (World.block_lt_of_cell? w _ hx472_4)).trans hx472_4
                                          have HR472_4 := Aside0.mk hi472_4
                                          have HC472_4 := Aside0.mk hl472_4
                                          clear hi472_4 hl472_4
                                          replace p472 := eq_true p472
                                          replace q472 := eq_true q472
                                          go_wp2_with (first | ((with_reducible refine gate_callee (f := 19) rfl ?_); refine goesL_ (some 95) rfl rfl Tryd.func19 (by kernel_rfl) rfl #[.agg #[.int .i64 ((rd_T47 l0 t465).f1.f0), .int .i64 ((rd_T47 l0 t465).f1.f1), .string ((rd_T47 l0 t465).f1.f2), .slice A472_4 ((rd_T47 l0 t465).f1.f3).length c472_4], .slice A1 l1.length c1] rfl (by (try simp only [List.map_toArray, List.map_cons, List.map_nil]); first | done | rfl | (simp only [List.length_drop, List.length_take]; rfl)) ?_; (with_reducible refine (rule_Eval.calls k4 ((rd_T47 l0 t465).f1.f0) ((rd_T47 l0 t465).f1.f1) ((rd_T47 l0 t465).f1.f2) _ _ ((rd_T47 l0 t465).f1.f3) _ _ l1 t473 t474 _ ?side1 ?side2 ?side3 ?side4 ?side5 A35.out).mono ?_); (case side1 => repeat (first | exact (Kd.C_below HR472_4.out HB.out) | (with_reducible refine Kd.C_alloc ?_ _) | (with_reducible refine Kd.C_drewN ?_ _) | (with_reducible refine Kd.C_drew ?_))); (case side2 => exact HC472_4.out); (case side3 => repeat (first | exact (Kd.C_below HR1.out HB.out) | (with_reducible refine Kd.C_alloc ?_ _) | (with_reducible refine Kd.C_drewN ?_ _) | (with_reducible refine Kd.C_drew ?_))); (case side4 => exact HC1.out); (case side5 => first | exact HG.out | exact GlobG.drewN HG.out _ | exact GlobG.below HG.out (by repeat (first | (with_reducible first | exact HB.out | apply below_alloc | apply pw_below_drewN | apply below_drew1) | exact HB.out))); rintro e w94 ⟨rfl, hb⟩; refine ⟨_, rfl, ?_⟩; have n0_ := Aside0.mk (below_step (by repeat (first | (with_reducible first | exact HB.out | apply below_alloc | apply pw_below_drewN | apply below_drew1) | exact HB.out)) hb); clear HB; have HB := n0_; clear n0_; (try clear hb); (try clear hb2); (try clear hk); (try clear hi); have q95 : ((ji36) : Int) ≤ ((l0.length : Int) : Int) := of_decide_eq_true (by first | (with_reducible assumption) | assumption); obtain ⟨i095, hi095, _, hsz95, _⟩ := info_parts info47; have hroom95 : l0.length ≤ c0 := HC0.out; have hC95 : Kd.C k47 _ (some ad472) l0.length l0 := HR0.out; have hcut95 := cut_to (P := Tryd.prog) 42 47 .i64 Tryd.underlying42 hi095 (some ad472) l0.length c0 (ji36) (of_decide_eq_true (by first | (with_reducible assumption) | assumption)) q95 hroom95; have hr95 := Kd.C_take (m := ((ji36) : Int).toNat) hC95 (by omega); have hy95 : y475.length = ((ji36) : Int).toNat := (by rw [Ny475.out, List.length_take]; omega); rw [← Ny475.out] at hr95; rw [← hy95] at hcut95; have HR478 := Aside0.mk hr95; have HC478 := Aside0.mk (show y475.length ≤ c0 from by omega); clear hr95 hC95 hroom95 hi095 hsz95; have KY95 := Aside0.mk hy95; clear hy95; replace q95 := eq_true q95) | ((with_reducible refine gate_callee (f := 23) rfl ?_); refine goesL_ (some 104) rfl rfl Tryd.func23 (by kernel_rfl) rfl #[.slice (some ad472) y475.length c0, .slice A1 l1.length c1] rfl (by (try simp only [List.map_toArray, List.map_cons, List.map_nil]); first | done | rfl | (simp only [List.length_drop, List.length_take]; rfl)) ?_; (with_reducible refine (rule_Grade.calls k4 _ _ y475 _ _ l1 t479 t480 t481 _ ?side1 ?side2 ?side3 ?side4 ?side5 A39.out).mono ?_); (case side1 => repeat (first | exact (Kd.C_below HR478.out HB.out) | (with_reducible refine Kd.C_alloc ?_ _) | (with_reducible refine Kd.C_drewN ?_ _) | (with_reducible refine Kd.C_drew ?_))); (case side2 => exact HC478.out); (case side3 => repeat (first | exact (Kd.C_below HR1.out HB.out) | (with_reducible refine Kd.C_alloc ?_ _) | (with_reducible refine Kd.C_drewN ?_ _) | (with_reducible refine Kd.C_drew ?_))); (case side4 => exact HC1.out); (case side5 => first | exact HG.out | exact GlobG.drewN HG.out _ | exact GlobG.below HG.out (by repeat (first | (with_reducible first | exact HB.out | apply below_alloc | apply pw_below_drewN | apply below_drew1) | exact HB.out))); rintro e w96 ⟨rfl, hb⟩; refine ⟨_, rfl, ?_⟩; have n0_ := Aside0.mk (below_step (by repeat (first | (with_reducible first | exact HB.out | apply below_alloc | apply pw_below_drewN | apply below_drew1) | exact HB.out)) hb); clear HB; have HB := n0_; clear n0_; (try clear hb); (try clear hb2); (try clear hk); (try clear hi); have q97 : (t465 : Int) ≤ ((l0.length : Int) : Int) := of_decide_eq_true (by first | (with_reducible assumption) | assumption); obtain ⟨i097, hi097, _, hsz97, _⟩ := info_parts info47; have hroom97 : l0.length ≤ c0 := HC0.out; have hC97 : Kd.C k47 _ (some ad472) l0.length l0 := HR0.out; have q097 : (0 : Int) ≤ (t465 : Int) := of_decide_eq_true (by first | (with_reducible assumption) | assumption); have hcut97 := cut_from (P := Tryd.prog) 42 47 .i64 Tryd.underlying42 hi097 5 hsz97 (some ad472) l0.length c0 t465 q097 q97; have hr97 := Kd.C_drop (m := (t465 : Int).toNat) (c := c0) hC97 (by omega) hroom97; obtain ⟨A97, hA97⟩ : ∃ A1, A1 = (if c0 = (t465 : Int).toNat then (some ad472) else ((some ad472) : Option Addr).map (·.add ((t465 : Int).toNat * 5))) := ⟨_, rfl⟩; obtain ⟨c97, hc97⟩ : ∃ c1, c1 = c0 - (t465 : Int).toNat := ⟨_, rfl⟩; have hy97 : y482.length = l0.length - (t465 : Int).toNat := (by rw [Ny482.out, List.length_drop] <;> omega); rw [show (l0).drop (t465 : Int).toNat = y482 from Ny482.out.symm] at hr97; replace hr97 : Kd.C k47 _ A97 y482.length y482 := (by rw [hA97]; exact hr97); rw [← hy97, ← hA97, ← hc97] at hcut97; have HR485 := Aside0.mk hr97; have HC485 := Aside0.mk (show y482.length ≤ c97 from by rw [hy97, hc97]; exact Nat.sub_le_sub_right hroom97 _); clear hr97 hC97 hroom97 hi097 hsz97 hc97; have KY97 := Aside0.mk hy97; have KA97 := Aside0.mk hA97; clear hy97 hA97; replace q97 := eq_true q97) | ((with_reducible refine gate_callee (f := 23) rfl ?_); refine goesL_ (some 113) rfl rfl Tryd.func23 (by kernel_rfl) rfl #[.slice A97 y482.length c97, .slice A1 l1.length c1] rfl (by (try simp only [List.map_toArray, List.map_cons, List.map_nil]); first | done | rfl | (simp only [List.length_drop, List.length_take]; rfl)) ?_; (with_reducible refine (rule_Grade.calls k4 _ _ y482 _ _ l1 t486 t487 t488 _ ?side1 ?side2 ?side3 ?side4 ?side5 A42.out).mono ?_); (case side1 => repeat (first | exact (Kd.C_below HR485.out HB.out) | (with_reducible refine Kd.C_alloc ?_ _) | (with_reducible refine Kd.C_drewN ?_ _) | (with_reducible refine Kd.C_drew ?_))); (case side2 => exact HC485.out); (case side3 => repeat (first | exact (Kd.C_below HR1.out HB.out) | (with_reducible refine Kd.C_alloc ?_ _) | (with_reducible refine Kd.C_drewN ?_ _) | (with_reducible refine Kd.C_drew ?_))); (case side4 => exact HC1.out); (case side5 => first | exact HG.out | exact GlobG.drewN HG.out _ | exact GlobG.below HG.out (by repeat (first | (with_reducible first | exact HB.out | apply below_alloc | apply pw_below_drewN | apply below_drew1) | exact HB.out))); rintro e w98 ⟨rfl, hb⟩; refine ⟨_, rfl, ?_⟩; have n0_ := Aside0.mk (below_step (by repeat (first | (with_reducible first | exact HB.out | apply below_alloc | apply pw_below_drewN | apply below_drew1) | exact HB.out)) hb); clear HB; have HB := n0_; clear n0_; (try clear hb); (try clear hb2); (try clear hk); (try clear hi); have p489 : 0 ≤ (t465 : Int) := of_decide_eq_true (by first | (with_reducible assumption) | assumption); have q489 : t465 < (l0.length : Int) := of_decide_eq_true (by first | (with_reducible assumption) | assumption); obtain ⟨ad489, A489_4, c489_4, e489, hx489_0, hx489_1, hx489_2, hx489_3, hx489_4, hl489_4, hi489_4⟩ := at_T47 HR0.out t465 p489 q489; obtain rfl : ad472 = ad489 := (by injection e489); replace hx489_0 := (HB.out.cell (World.block_lt_of_cell? w _ hx489_0)).trans hx489_0; replace hx489_1 := (HB.out.cell (World.block_lt_of_cell? w _ hx489_1)).trans hx489_1; replace hx489_2 := (HB.out.cell (World.block_lt_of_cell? w _ hx489_2)).trans hx489_2; replace hx489_3 := (HB.out.cell (World.block_lt_of_cell? w _ hx489_3)).trans hx489_3; replace hx489_4 := (HB.out.cell (World.block_lt_of_cell? w _ hx489_4)).trans hx489_4; have HR489_4 := Aside0.mk hi489_4; have HC489_4 := Aside0.mk hl489_4; clear hi489_4 hl489_4; replace p489 := eq_true p489; replace q489 := eq_true q489))
                                          go_ret
                                          exact ⟨by first | rfl | (simp [errW_none, errW_some] <;> rfl) | (simp only [← hji36]; first | rfl | (simp [errW_none, errW_some] <;> rfl)) | (simp [*, errW_none, errW_some] <;> rfl), by repeat (first | (with_reducible first | exact HB.out | apply below_alloc | apply pw_below_drewN | apply below_drew1) | exact HB.out)⟩
                                      · rw [if_neg c43] at H
                                        have c43b0 : (t464 == ((rd_T47 l0 t465).f0)) = false := beq_eq_false_iff_ne.mpr c43
                                        have c43b1 : (t464 != ((rd_T47 l0 t465).f0)) = true := bne_iff_ne.mpr c43
                                        obtain rfl := Option.some.inj H
                                        have p472 : 0 ≤ (t465 : Int) := of_decide_eq_true (by first | (with_reducible assumption) | assumption)
                                        have q472 : t465 < (l0.length : Int) := of_decide_eq_true (by first | (with_reducible assumption) | assumption)
                                        obtain ⟨ad472, A472_4, c472_4, e472, hx472_0, hx472_1, hx472_2, hx472_3, hx472_4, hl472_4, hi472_4⟩ := at_T47 HR0.out t465 p472 q472
                                        cases e472
                                        replace hx472_0 := (HB.out.cell (World.block_lt_of_cell? w _ hx472_0)).trans hx472_0
                                        replace hx472_1 := (HB.out.cell (World.block_lt_of_cell? w _ hx472_1)).trans hx472_1
                                        replace hx472_2 := (HB.out.cell (World.block_lt_of_cell? w _ hx472_2)).trans hx472_2
                                        replace hx472_3 := (HB.out.cell (World.block_lt_of_cell? w _ hx472_3)).trans hx472_3
                                        replace hx472_4 := (HB.out.cell (World.block_lt_of_cell? w _ hx472_4)).trans hx472_4
                                        have HR472_4 := Aside0.mk hi472_4
                                        have HC472_4 := Aside0.mk hl472_4
                                        clear hi472_4 hl472_4
                                        replace p472 := eq_true p472
                                        replace q472 := eq_true q472
                                        go_wp2_with (first | ((with_reducible refine gate_callee (f := 19) rfl ?_); refine goesL_ (some 95) rfl rfl Tryd.func19 (by kernel_rfl) rfl #[.agg #[.int .i64 ((rd_T47 l0 t465).f1.f0), .int .i64 ((rd_T47 l0 t465).f1.f1), .string ((rd_T47 l0 t465).f1.f2), .slice A472_4 ((rd_T47 l0 t465).f1.f3).length c472_4], .slice A1 l1.length c1] rfl (by (try simp only [List.map_toArray, List.map_cons, List.map_nil]); first | done | rfl | (simp only [List.length_drop, List.length_take]; rfl)) ?_; (with_reducible refine (rule_Eval.calls k4 ((rd_T47 l0 t465).f1.f0) ((rd_T47 l0 t465).f1.f1) ((rd_T47 l0 t465).f1.f2) _ _ ((rd_T47 l0 t465).f1.f3) _ _ l1 t473 t474 _ ?side1 ?side2 ?side3 ?side4 ?side5 A35.out).mono ?_); (case side1 => repeat (first | exact (Kd.C_below HR472_4.out HB.out) | (with_reducible refine Kd.C_alloc ?_ _) | (with_reducible refine Kd.C_drewN ?_ _) | (with_reducible refine Kd.C_drew ?_))); (case side2 => exact HC472_4.out); (case side3 => repeat (first | exact (Kd.C_below HR1.out HB.out) | (with_reducible refine Kd.C_alloc ?_ _) | (with_reducible refine Kd.C_drewN ?_ _) | (with_reducible refine Kd.C_drew ?_))); (case side4 => exact HC1.out); (case side5 => first | exact HG.out | exact GlobG.drewN HG.out _ | exact GlobG.below HG.out (by repeat (first | (with_reducible first | exact HB.out | apply below_alloc | apply pw_below_drewN | apply below_drew1) | exact HB.out))); rintro e w99 ⟨rfl, hb⟩; refine ⟨_, rfl, ?_⟩; have n0_ := Aside0.mk (below_step (by repeat (first | (with_reducible first | exact HB.out | apply below_alloc | apply pw_below_drewN | apply below_drew1) | exact HB.out)) hb); clear HB; have HB := n0_; clear n0_; (try clear hb); (try clear hb2); (try clear hk); (try clear hi); have q100 : ((ji36) : Int) ≤ ((l0.length : Int) : Int) := of_decide_eq_true (by first | (with_reducible assumption) | assumption); obtain ⟨i0100, hi0100, _, hsz100, _⟩ := info_parts info47; have hroom100 : l0.length ≤ c0 := HC0.out; have hC100 : Kd.C k47 _ (some ad472) l0.length l0 := HR0.out; have hcut100 := cut_to (P := Tryd.prog) 42 47 .i64 Tryd.underlying42 hi0100 (some ad472) l0.length c0 (ji36) (of_decide_eq_true (by first | (with_reducible assumption) | assumption)) q100 hroom100; have hr100 := Kd.C_take (m := ((ji36) : Int).toNat) hC100 (by omega); have hy100 : y475.length = ((ji36) : Int).toNat := (by rw [Ny475.out, List.length_take]; omega); rw [← Ny475.out] at hr100; rw [← hy100] at hcut100; have HR478 := Aside0.mk hr100; have HC478 := Aside0.mk (show y475.length ≤ c0 from by omega); clear hr100 hC100 hroom100 hi0100 hsz100; have KY100 := Aside0.mk hy100; clear hy100; replace q100 := eq_true q100) | ((with_reducible refine gate_callee (f := 23) rfl ?_); refine goesL_ (some 104) rfl rfl Tryd.func23 (by kernel_rfl) rfl #[.slice (some ad472) y475.length c0, .slice A1 l1.length c1] rfl (by (try simp only [List.map_toArray, List.map_cons, List.map_nil]); first | done | rfl | (simp only [List.length_drop, List.length_take]; rfl)) ?_; (with_reducible refine (rule_Grade.calls k4 _ _ y475 _ _ l1 t479 t480 t481 _ ?side1 ?side2 ?side3 ?side4 ?side5 A39.out).mono ?_); (case side1 => repeat (first | exact (Kd.C_below HR478.out HB.out) | (with_reducible refine Kd.C_alloc ?_ _) | (with_reducible refine Kd.C_drewN ?_ _) | (with_reducible refine Kd.C_drew ?_))); (case side2 => exact HC478.out); (case side3 => repeat (first | exact (Kd.C_below HR1.out HB.out) | (with_reducible refine Kd.C_alloc ?_ _) | (with_reducible refine Kd.C_drewN ?_ _) | (with_reducible refine Kd.C_drew ?_))); (case side4 => exact HC1.out); (case side5 => first | exact HG.out | exact GlobG.drewN HG.out _ | exact GlobG.below HG.out (by repeat (first | (with_reducible first | exact HB.out | apply below_alloc | apply pw_below_drewN | apply below_drew1) | exact HB.out))); rintro e w101 ⟨rfl, hb⟩; refine ⟨_, rfl, ?_⟩; have n0_ := Aside0.mk (below_step (by repeat (first | (with_reducible first | exact HB.out | apply below_alloc | apply pw_below_drewN | apply below_drew1) | exact HB.out)) hb); clear HB; have HB := n0_; clear n0_; (try clear hb); (try clear hb2); (try clear hk); (try clear hi); have q102 : (t465 : Int) ≤ ((l0.length : Int) : Int) := of_decide_eq_true (by first | (with_reducible assumption) | assumption); obtain ⟨i0102, hi0102, _, hsz102, _⟩ := info_parts info47; have hroom102 : l0.length ≤ c0 := HC0.out; have hC102 : Kd.C k47 _ (some ad472) l0.length l0 := HR0.out; have q0102 : (0 : Int) ≤ (t465 : Int) := of_decide_eq_true (by first | (with_reducible assumption) | assumption); have hcut102 := cut_from (P := Tryd.prog) 42 47 .i64 Tryd.underlying42 hi0102 5 hsz102 (some ad472) l0.length c0 t465 q0102 q102; have hr102 := Kd.C_drop (m := (t465 : Int).toNat) (c := c0) hC102 (by omega) hroom102; obtain ⟨A102, hA102⟩ : ∃ A1, A1 = (if c0 = (t465 : Int).toNat then (some ad472) else ((some ad472) : Option Addr).map (·.add ((t465 : Int).toNat * 5))) := ⟨_, rfl⟩; obtain ⟨c102, hc102⟩ : ∃ c1, c1 = c0 - (t465 : Int).toNat := ⟨_, rfl⟩; have hy102 : y482.length = l0.length - (t465 : Int).toNat := (by rw [Ny482.out, List.length_drop] <;> omega); rw [show (l0).drop (t465 : Int).toNat = y482 from Ny482.out.symm] at hr102; replace hr102 : Kd.C k47 _ A102 y482.length y482 := (by rw [hA102]; exact hr102); rw [← hy102, ← hA102, ← hc102] at hcut102; have HR485 := Aside0.mk hr102; have HC485 := Aside0.mk (show y482.length ≤ c102 from by rw [hy102, hc102]; exact Nat.sub_le_sub_right hroom102 _); clear hr102 hC102 hroom102 hi0102 hsz102 hc102; have KY102 := Aside0.mk hy102; have KA102 := Aside0.mk hA102; clear hy102 hA102; replace q102 := eq_true q102) | ((with_reducible refine gate_callee (f := 23) rfl ?_); refine goesL_ (some 113) rfl rfl Tryd.func23 (by kernel_rfl) rfl #[.slice A102 y482.length c102, .slice A1 l1.length c1] rfl (by (try simp only [List.map_toArray, List.map_cons, List.map_nil]); first | done | rfl | (simp only [List.length_drop, List.length_take]; rfl)) ?_; (with_reducible refine (rule_Grade.calls k4 _ _ y482 _ _ l1 t486 t487 t488 _ ?side1 ?side2 ?side3 ?side4 ?side5 A42.out).mono ?_); (case side1 => repeat (first | exact (Kd.C_below HR485.out HB.out) | (with_reducible refine Kd.C_alloc ?_ _) | (with_reducible refine Kd.C_drewN ?_ _) | (with_reducible refine Kd.C_drew ?_))); (case side2 => exact HC485.out); (case side3 => repeat (first | exact (Kd.C_below HR1.out HB.out) | (with_reducible refine Kd.C_alloc ?_ _) | (with_reducible refine Kd.C_drewN ?_ _) | (with_reducible refine Kd.C_drew ?_))); (case side4 => exact HC1.out); (case side5 => first | exact HG.out | exact GlobG.drewN HG.out _ | exact GlobG.below HG.out (by repeat (first | (with_reducible first | exact HB.out | apply below_alloc | apply pw_below_drewN | apply below_drew1) | exact HB.out))); rintro e w103 ⟨rfl, hb⟩; refine ⟨_, rfl, ?_⟩; have n0_ := Aside0.mk (below_step (by repeat (first | (with_reducible first | exact HB.out | apply below_alloc | apply pw_below_drewN | apply below_drew1) | exact HB.out)) hb); clear HB; have HB := n0_; clear n0_; (try clear hb); (try clear hb2); (try clear hk); (try clear hi); have p489 : 0 ≤ (t465 : Int) := of_decide_eq_true (by first | (with_reducible assumption) | assumption); have q489 : t465 < (l0.length : Int) := of_decide_eq_true (by first | (with_reducible assumption) | assumption); obtain ⟨ad489, A489_4, c489_4, e489, hx489_0, hx489_1, hx489_2, hx489_3, hx489_4, hl489_4, hi489_4⟩ := at_T47 HR0.out t465 p489 q489; obtain rfl : ad472 = ad489 := (by injection e489); replace hx489_0 := (HB.out.cell (World.block_lt_of_cell? w _ hx489_0)).trans hx489_0; replace hx489_1 := (HB.out.cell (World.block_lt_of_cell? w _ hx489_1)).trans hx489_1; replace hx489_2 := (HB.out.cell (World.block_lt_of_cell? w _ hx489_2)).trans hx489_2; replace hx489_3 := (HB.out.cell (World.block_lt_of_cell? w _ hx489_3)).trans hx489_3; replace hx489_4 := (HB.out.cell (World.block_lt_of_cell? w _ hx489_4)).trans hx489_4; have HR489_4 := Aside0.mk hi489_4; have HC489_4 := Aside0.mk hl489_4; clear hi489_4 hl489_4; replace p489 := eq_true p489; replace q489 := eq_true q489))
                                        go_ret
                                        exact ⟨by first | rfl | (simp [errW_none, errW_some] <;> rfl) | (simp only [← hji36]; first | rfl | (simp [errW_none, errW_some] <;> rfl)) | (simp [*, errW_none, errW_some] <;> rfl), by repeat (first | (with_reducible first | exact HB.out | apply below_alloc | apply pw_below_drewN | apply below_drew1) | exact HB.out)⟩
                                    · rw [if_neg c41] at H
                                      exact absurd H (by simp)
                                  · rw [if_neg c38] at H
                                    exact absurd H (by simp)
                                · rw [if_neg c37] at H
                                  exact absurd H (by simp)
                              · rw [if_neg c34] at H
                                exact absurd H (by simp)
                            · rw [if_neg c33] at H
                              exact absurd H (by simp)
        · rw [if_neg c13] at H
          have c13b0 : (t466 == 0) = false := beq_eq_false_iff_ne.mpr c13
          have c13b1 : (t466 != 0) = true := bne_iff_ne.mpr c13
          by_cases c104 : t464 = 0
          · rw [if_pos c104] at H
            have c104b0 : (t464 == 0) = true := beq_iff_eq.mpr c104
            have c104b1 : (t464 != 0) = false := bne_eq_false_iff_eq.mpr c104
            clear c104
            by_cases c105 : t465 = 0
            · rw [if_pos c105] at H
              have c105b0 : (t465 == 0) = true := beq_iff_eq.mpr c105
              have c105b1 : (t465 != 0) = false := bne_eq_false_iff_eq.mpr c105
              clear c105
              replace H := Option.bind_eq_some_iff.mp H
              obtain ⟨t467, A1060, H⟩ := H
              replace H : (some t467) = some r := H
              have A106 := Aside0.mk A1060
              clear A1060
              obtain rfl := Option.some.inj H
              go_wp2_with (first | ((with_reducible refine gate_callee (f := 23) rfl ?_); refine goesL_ (some 32) rfl rfl Tryd.func23 (by kernel_rfl) rfl #[.slice A0 l0.length c0, .slice A1 l1.length c1] rfl (by (try simp only [List.map_toArray, List.map_cons, List.map_nil]); first | done | rfl | (simp only [List.length_drop, List.length_take]; rfl)) ?_; (with_reducible refine (rule_Grade.calls kj2 _ _ l0 _ _ l1 t464 t465 t466 _ ?side1 ?side2 ?side3 ?side4 ?side5 A12.out).mono ?_); (case side1 => repeat (first | exact (Kd.C_below HR0.out HB.out) | (with_reducible refine Kd.C_alloc ?_ _) | (with_reducible refine Kd.C_drewN ?_ _) | (with_reducible refine Kd.C_drew ?_))); (case side2 => exact HC0.out); (case side3 => repeat (first | exact (Kd.C_below HR1.out HB.out) | (with_reducible refine Kd.C_alloc ?_ _) | (with_reducible refine Kd.C_drewN ?_ _) | (with_reducible refine Kd.C_drew ?_))); (case side4 => exact HC1.out); (case side5 => first | exact HG.out | exact GlobG.drewN HG.out _ | exact GlobG.below HG.out (by repeat (first | (with_reducible first | exact HB.out | apply below_alloc | apply pw_below_drewN | apply below_drew1) | exact HB.out))); rintro e w107 ⟨rfl, hb⟩; refine ⟨_, rfl, ?_⟩; have n0_ := Aside0.mk (below_step (by repeat (first | (with_reducible first | exact HB.out | apply below_alloc | apply pw_below_drewN | apply below_drew1) | exact HB.out)) hb); clear HB; have HB := n0_; clear n0_; (try clear hb); (try clear hb2); (try clear hk); (try clear hi)) | (go_at_call 12; (with_reducible refine (sawmilllaw43_awake.calls  t467 _ ?side1 A106.out).mono ?_); (case side1 => first | exact HG.out | exact GlobG.drewN HG.out _ | exact GlobG.below HG.out (by repeat (first | (with_reducible first | exact HB.out | apply below_alloc | apply pw_below_drewN | apply below_drew1) | exact HB.out))); rintro e w108 ⟨rfl, hb⟩; have n0_ := Aside0.mk (below_step (by repeat (first | (with_reducible first | exact HB.out | apply below_alloc | apply pw_below_drewN | apply below_drew1) | exact HB.out)) hb); clear HB; have HB := n0_; clear n0_; (try clear hb); (try clear hb2); (try clear hk); (try clear hi)))
              go_ret
              exact ⟨by first | rfl | (simp [errW_none, errW_some] <;> rfl) | (simp [*, errW_none, errW_some] <;> rfl), by repeat (first | (with_reducible first | exact HB.out | apply below_alloc | apply pw_below_drewN | apply below_drew1) | exact HB.out)⟩
            · rw [if_neg c105] at H
              have c105b0 : (t465 == 0) = false := beq_eq_false_iff_ne.mpr c105
              have c105b1 : (t465 != 0) = true := bne_iff_ne.mpr c105
              obtain rfl := Option.some.inj H
              go_wp2_with (first | ((with_reducible refine gate_callee (f := 23) rfl ?_); refine goesL_ (some 32) rfl rfl Tryd.func23 (by kernel_rfl) rfl #[.slice A0 l0.length c0, .slice A1 l1.length c1] rfl (by (try simp only [List.map_toArray, List.map_cons, List.map_nil]); first | done | rfl | (simp only [List.length_drop, List.length_take]; rfl)) ?_; (with_reducible refine (rule_Grade.calls kj2 _ _ l0 _ _ l1 t464 t465 t466 _ ?side1 ?side2 ?side3 ?side4 ?side5 A12.out).mono ?_); (case side1 => repeat (first | exact (Kd.C_below HR0.out HB.out) | (with_reducible refine Kd.C_alloc ?_ _) | (with_reducible refine Kd.C_drewN ?_ _) | (with_reducible refine Kd.C_drew ?_))); (case side2 => exact HC0.out); (case side3 => repeat (first | exact (Kd.C_below HR1.out HB.out) | (with_reducible refine Kd.C_alloc ?_ _) | (with_reducible refine Kd.C_drewN ?_ _) | (with_reducible refine Kd.C_drew ?_))); (case side4 => exact HC1.out); (case side5 => first | exact HG.out | exact GlobG.drewN HG.out _ | exact GlobG.below HG.out (by repeat (first | (with_reducible first | exact HB.out | apply below_alloc | apply pw_below_drewN | apply below_drew1) | exact HB.out))); rintro e w109 ⟨rfl, hb⟩; refine ⟨_, rfl, ?_⟩; have n0_ := Aside0.mk (below_step (by repeat (first | (with_reducible first | exact HB.out | apply below_alloc | apply pw_below_drewN | apply below_drew1) | exact HB.out)) hb); clear HB; have HB := n0_; clear n0_; (try clear hb); (try clear hb2); (try clear hk); (try clear hi)))
              go_ret
              exact ⟨by first | rfl | (simp [errW_none, errW_some] <;> rfl) | (simp [*, errW_none, errW_some] <;> rfl), by repeat (first | (with_reducible first | exact HB.out | apply below_alloc | apply pw_below_drewN | apply below_drew1) | exact HB.out)⟩
          · rw [if_neg c104] at H
            have c104b0 : (t464 == 0) = false := beq_eq_false_iff_ne.mpr c104
            have c104b1 : (t464 != 0) = true := bne_iff_ne.mpr c104
            obtain rfl := Option.some.inj H
            go_wp2_with (first | ((with_reducible refine gate_callee (f := 23) rfl ?_); refine goesL_ (some 32) rfl rfl Tryd.func23 (by kernel_rfl) rfl #[.slice A0 l0.length c0, .slice A1 l1.length c1] rfl (by (try simp only [List.map_toArray, List.map_cons, List.map_nil]); first | done | rfl | (simp only [List.length_drop, List.length_take]; rfl)) ?_; (with_reducible refine (rule_Grade.calls kj2 _ _ l0 _ _ l1 t464 t465 t466 _ ?side1 ?side2 ?side3 ?side4 ?side5 A12.out).mono ?_); (case side1 => repeat (first | exact (Kd.C_below HR0.out HB.out) | (with_reducible refine Kd.C_alloc ?_ _) | (with_reducible refine Kd.C_drewN ?_ _) | (with_reducible refine Kd.C_drew ?_))); (case side2 => exact HC0.out); (case side3 => repeat (first | exact (Kd.C_below HR1.out HB.out) | (with_reducible refine Kd.C_alloc ?_ _) | (with_reducible refine Kd.C_drewN ?_ _) | (with_reducible refine Kd.C_drew ?_))); (case side4 => exact HC1.out); (case side5 => first | exact HG.out | exact GlobG.drewN HG.out _ | exact GlobG.below HG.out (by repeat (first | (with_reducible first | exact HB.out | apply below_alloc | apply pw_below_drewN | apply below_drew1) | exact HB.out))); rintro e w110 ⟨rfl, hb⟩; refine ⟨_, rfl, ?_⟩; have n0_ := Aside0.mk (below_step (by repeat (first | (with_reducible first | exact HB.out | apply below_alloc | apply pw_below_drewN | apply below_drew1) | exact HB.out)) hb); clear HB; have HB := n0_; clear n0_; (try clear hb); (try clear hb2); (try clear hk); (try clear hi)))
            go_ret
            exact ⟨by first | rfl | (simp [errW_none, errW_some] <;> rfl) | (simp [*, errW_none, errW_some] <;> rfl), by repeat (first | (with_reducible first | exact HB.out | apply below_alloc | apply pw_below_drewN | apply below_drew1) | exact HB.out)⟩

/-! ### sawmilllaw43_not: function 25 -/
def sawmilllaw43_not.f (a0_0 : Int) (a0_1 : Int) (a0_2 : ByteArray) (l0_3 : List (S24)) : Option (Int × Int × ByteArray × (List (S24))) := some (9, 0, (⟨#[]⟩ : ByteArray), (([(⟨a0_0, a0_1, a0_2, l0_3⟩ : S24)] : List (S24))))
set_option maxHeartbeats 8000000 in
set_option maxRecDepth 100000 in
theorem sawmilllaw43_not.calls (a0_0 : Int) (a0_1 : Int) (a0_2 : ByteArray) (P0_3_ : Nat → Prop) (A0_3 : Option Addr) (c0_3 : Nat) (l0_3 : List (S24)) (r1 : Int) (r2 : Int) (r3 : ByteArray) (r4 : List (S24)) (w : World) (hs0_3 : Kd.V k24 24 w w.heap.size (fun k_ => P0_3_ k_) (.slice A0_3 l0_3.length c0_3) l0_3) (h : sawmilllaw43_not.f a0_0 a0_1 a0_2 l0_3 = some (r1, r2, r3, r4)) :
    Calls Tryd.prog 25 #[.agg #[.int .i64 a0_0, .int .i64 a0_1, .string a0_2, .slice A0_3 l0_3.length c0_3]] w fun e w' => ∃ v3_ : Value, e = .returned (.agg #[.int .i64 r1, .int .i64 r2, .string r3, v3_]) ∧ Kd.N k24 24 w' w.heap.size (fun k_ => (P0_3_ k_ ∨ w.heap.size ≤ k_)) v3_ r4 ∧ Below w.heap.size w w' := by
  have hu24 := Tryd.underlying24
  have HO0_3 := Aside0.mk (show Kd.V k24 24 w w.heap.size (fun k_ => (P0_3_ k_ ∨ w.heap.size ≤ k_)) (.slice A0_3 l0_3.length c0_3) l0_3 from Kd.V_mono hs0_3 (fun k_ hk => .inl hk))
  have HB := Aside0.mk (Below.refl w.heap.size w)
  have H : (some (9, 0, (⟨#[]⟩ : ByteArray), (([(⟨a0_0, a0_1, a0_2, l0_3⟩ : S24)] : List (S24))))) = some (r1, r2, r3, r4) := h
  clear h
  obtain ⟨y493, hy493⟩ : ∃ y_ : List (S24), y_ = (([(⟨a0_0, a0_1, a0_2, l0_3⟩ : S24)] : List (S24))) := ⟨_, rfl⟩
  replace H : (some (9, 0, (⟨#[]⟩ : ByteArray), y493)) = some (r1, r2, r3, r4) := by first | (rw [hy493]; with_reducible exact H) | (have H2_ := (Option.bind_some _ _).symm.trans H; rw [hy493]; with_reducible exact H2_) | (have H2_ := (Option.bind_some _ _).symm.trans H; with_reducible exact H2_) | with_reducible exact H | (rw [hy493]; exact H) | exact H
  have Ny493 := Aside0.mk hy493
  clear hy493
  simp only [Option.some.injEq, Prod.mk.injEq] at H
  obtain ⟨rfl, rfl, rfl, rfl⟩ := H
  go_enter Tryd.func25, Tryd.ntmps25
  go_wp2_with (first | ((with_reducible refine gate_dst (N := 1) rfl ?_); refine box_event ?hg (N := 1) ?hd (cs := #[.int .i64 a0_0, .int .i64 a0_1, .string a0_2, .slice A0_3 l0_3.length c0_3]) (t := 24) ?hr ?_; (case hd => rfl); (case hg => rfl); (case hr => first | (go_simp; done) | (go_simp; rfl)); intro gb491 hg w2 hbox hb; have n0_ := Aside0.mk (Kd.V_below (Kd.V_elderB (by (with_reducible repeat (first | apply Kd.V_alloc | apply Kd.V_drewN | apply Kd.V_drew)); exact HO0_3.out) gb491 (Nat.le_of_eq hg.symm)) hb); have n1_ := Aside0.mk (below_step (by repeat (first | (with_reducible first | exact HB.out | apply below_alloc | apply pw_below_drewN | apply below_drew1) | exact HB.out)) hb); have n2_ := Aside0.mk (hbox); have n3_ := Aside0.mk ((by rw [hg]; exact (below_size (by repeat (first | (with_reducible first | exact HB.out | apply below_alloc | apply pw_below_drewN | apply below_drew1) | exact HB.out))) : w.heap.size ≤ gb491)); have n4_ := Aside0.mk ((by rw [hg]; exact (below_size (by repeat (first | (with_reducible first | exact HB.out | apply below_alloc | apply pw_below_drewN | apply below_drew1) | exact HB.out))) : w.heap.size ≤ gb491)); clear HO0_3; clear HB; have HO0_3 := n0_; have HB := n1_; have BK491 := n2_; have GW491 := n3_; have GE491 := n4_; clear n0_ n1_ n2_ n3_ n4_; clear hb hbox hg) | ((with_reducible refine gate_dst (N := 2) rfl ?_); refine box_event ?hg (N := 2) ?hd (cs := #[.int .i64 0, .int .i64 0, .string (⟨#[]⟩ : ByteArray), .slice none 0 0]) (t := 24) ?hr ?_; (case hd => rfl); (case hg => rfl); (case hr => first | (go_simp; done) | (go_simp; rfl)); intro gb492 hg w3 hbox hb; have n0_ := Aside0.mk (Kd.V_below (Kd.V_elderB (by (with_reducible repeat (first | apply Kd.V_alloc | apply Kd.V_drewN | apply Kd.V_drew)); exact HO0_3.out) gb492 (Nat.le_of_eq hg.symm)) hb); have n1_ := Aside0.mk (blk_below (g := gb491) (o := .cells #[.int .i64 a0_0, .int .i64 a0_1, .string a0_2, .slice A0_3 l0_3.length c0_3] 24 (0, 0)) (by (with_reducible repeat (first | refine blk_drewN ?_ _ | refine blk_drew ?_ | refine blk_alloc ?_ _)); exact BK491.out) hb); have n2_ := Aside0.mk (below_step (by repeat (first | (with_reducible first | exact HB.out | apply below_alloc | apply pw_below_drewN | apply below_drew1 | refine below_set ?_ GE491.out) | exact HB.out)) hb); have n3_ := Aside0.mk (hbox); have n4_ := Aside0.mk ((by rw [hg]; exact (below_size (by repeat (first | (with_reducible first | exact HB.out | apply below_alloc | apply pw_below_drewN | apply below_drew1 | refine below_set ?_ GE491.out) | exact HB.out))) : w.heap.size ≤ gb492)); have n5_ := Aside0.mk ((by rw [hg]; exact (below_size (by repeat (first | (with_reducible first | exact HB.out | apply below_alloc | apply pw_below_drewN | apply below_drew1 | refine below_set ?_ GE491.out) | exact HB.out))) : w.heap.size ≤ gb492)); have n6_ := Aside0.mk ((by rw [hg]; exact Nat.ne_of_lt (blk_lt (g := gb491) (o := .cells #[.int .i64 a0_0, .int .i64 a0_1, .string a0_2, .slice A0_3 l0_3.length c0_3] 24 (0, 0)) (by (with_reducible repeat (first | refine blk_drewN ?_ _ | refine blk_drew ?_ | refine blk_alloc ?_ _)); exact BK491.out)) : gb491 ≠ gb492)); have n7_ := Aside0.mk ((by rw [hg]; exact Nat.ne_of_gt (blk_lt (g := gb491) (o := .cells #[.int .i64 a0_0, .int .i64 a0_1, .string a0_2, .slice A0_3 l0_3.length c0_3] 24 (0, 0)) (by (with_reducible repeat (first | refine blk_drewN ?_ _ | refine blk_drew ?_ | refine blk_alloc ?_ _)); exact BK491.out)) : gb492 ≠ gb491)); clear HO0_3; clear BK491; clear HB; have HO0_3 := n0_; have BK491 := n1_; have HB := n2_; have BK492 := n3_; have GW492 := n4_; have GE492 := n5_; have NB491_492 := n6_; have NB492_491 := n7_; clear n0_ n1_ n2_ n3_ n4_ n5_ n6_ n7_; clear hb hbox hg; have hnb4 := NB491_492.out; have hnc4 := NB492_491.out; have hcz5_0 : w3.cell? ⟨gb491, 0, none⟩ = some (.int .i64 a0_0) := (blk_cell BK491.out 0).trans rfl; have hcz5_1 : w3.cell? ⟨gb491, 1, none⟩ = some (.int .i64 a0_1) := (blk_cell BK491.out 1).trans rfl; have hcz5_2 : w3.cell? ⟨gb491, 2, none⟩ = some (.string a0_2) := (blk_cell BK491.out 2).trans rfl; have hcz5_3 : w3.cell? ⟨gb491, 3, none⟩ = some (.slice A0_3 l0_3.length c0_3) := (blk_cell BK491.out 3).trans rfl; have hfz5_0 := blk_frozen BK491.out 0; have hfz5_1 := blk_frozen BK491.out 1; have hfz5_2 := blk_frozen BK491.out 2; have hfz5_3 := blk_frozen BK491.out 3) | ((with_reducible refine gate_dst (N := 4) rfl ?_); refine Kd.N_lit k24 _ 24 ?hg (N' := 4) ?hd (xs := ([(⟨a0_0, a0_1, a0_2, l0_3⟩ : S24)] : List (S24))) (inner := [.int .i64 a0_0, .int .i64 a0_1, .string a0_2, .slice A0_3 l0_3.length c0_3]) (ok := (fun k_ => (P0_3_ k_ ∨ w.heap.size ≤ k_) ∧ k_ ≠ gb491 ∧ k_ ≠ gb492)) (okp := (fun k_ => (P0_3_ k_ ∨ w.heap.size ≤ k_) ∧ k_ ≠ gb491 ∧ k_ ≠ gb492)) ?hr ?hp (fun _ hk => hk) ((show ∀ k_, w3.heap.size ≤ k_ → (fun k_ => (P0_3_ k_ ∨ w.heap.size ≤ k_) ∧ k_ ≠ gb491 ∧ k_ ≠ gb492) k_ from fun k_ hk => ⟨(.inr (Nat.le_trans (below_size (by repeat (first | (with_reducible first | exact HB.out | apply below_alloc | apply pw_below_drewN | apply below_drew1 | refine below_set ?_ GE491.out | refine below_set ?_ GE492.out) | exact HB.out))) hk)), Kd.freshB (g := gb491) (o := .cells #[.int .i64 a0_0, .int .i64 a0_1, .string a0_2, .slice A0_3 l0_3.length c0_3] 24 (0, 0)) (by (with_reducible repeat (first | refine blk_drewN ?_ _ | refine blk_drew ?_ | refine blk_alloc ?_ _)); exact BK491.out) k_ hk, Kd.freshB (g := gb492) (o := .cells #[.int .i64 0, .int .i64 0, .string (⟨#[]⟩ : ByteArray), .slice none 0 0] 24 (0, 0)) (by (with_reducible repeat (first | refine blk_drewN ?_ _ | refine blk_drew ?_ | refine blk_alloc ?_ _)); exact BK492.out) k_ hk⟩) _ (Nat.le_refl _)) (Below.refl _ _) (Nat.le_refl _) (by simp) ?_; (case hd => rfl); (case hg => rfl); (case hr => first | (go_simp; done) | (go_simp; rfl)); (case hp => exact (Reps.c4 (show Kd.FK k24 _ _ (⟨a0_0, a0_1, a0_2, l0_3⟩ : S24) [.int .i64 a0_0, .int .i64 a0_1, .string a0_2, .slice A0_3 l0_3.length c0_3] from (k24_mkF _ _ (⟨a0_0, a0_1, a0_2, l0_3⟩ : S24) (Kd.V_reads' (Kd.V_mono (ok' := (fun k_ => (P0_3_ k_ ∨ w.heap.size ≤ k_) ∧ k_ ≠ gb491 ∧ k_ ≠ gb492)) (HO0_3.out) (fun k_ hk => ⟨hk.1.1, ⟨hk.1.2, hk.2⟩⟩))).2.1 (Kd.V_F (Kd.V_mono (ok' := (fun k_ => (P0_3_ k_ ∨ w.heap.size ≤ k_) ∧ k_ ≠ gb491 ∧ k_ ≠ gb492)) (HO0_3.out) (fun k_ hk => ⟨hk.1.1, ⟨hk.1.2, hk.2⟩⟩))))) (Reps.none _ _))); intro v494 w6 ho7 hb hg_ hnew_; clear hg_ hnew_; (first | rw [← Ny493.out] at ho7 | (simp only [Int.reduceToNat] at ho7; rw [← Ny493.out] at ho7)); have n0_ := Aside0.mk (Kd.V_elder' (by (with_reducible repeat (first | apply Kd.V_alloc | apply Kd.V_drewN | apply Kd.V_drew)); exact HO0_3.out) (Kd.N_base ho7) hb); have n1_ := Aside0.mk (Kd.N_lower ho7 (below_size (by repeat (first | (with_reducible first | exact HB.out | apply below_alloc | apply pw_below_drewN | apply below_drew1 | refine below_set ?_ GE491.out | refine below_set ?_ GE492.out) | exact HB.out)))); have n2_ := Aside0.mk (blk_below (g := gb491) (o := .cells #[.int .i64 a0_0, .int .i64 a0_1, .string a0_2, .slice A0_3 l0_3.length c0_3] 24 (0, 0)) (by (with_reducible repeat (first | refine blk_drewN ?_ _ | refine blk_drew ?_ | refine blk_alloc ?_ _)); exact BK491.out) hb); have n3_ := Aside0.mk (blk_below (g := gb492) (o := .cells #[.int .i64 0, .int .i64 0, .string (⟨#[]⟩ : ByteArray), .slice none 0 0] 24 (0, 0)) (by (with_reducible repeat (first | refine blk_drewN ?_ _ | refine blk_drew ?_ | refine blk_alloc ?_ _)); exact BK492.out) hb); have n4_ := Aside0.mk (below_step (by repeat (first | (with_reducible first | exact HB.out | apply below_alloc | apply pw_below_drewN | apply below_drew1 | refine below_set ?_ GE491.out | refine below_set ?_ GE492.out) | exact HB.out)) hb); clear HO0_3; clear BK491; clear BK492; clear HB; have HO0_3 := n0_; have HO495 := n1_; have BK491 := n2_; have BK492 := n3_; have HB := n4_; clear n0_ n1_ n2_ n3_ n4_; clear hb ho7; obtain ⟨Ao8, co8, eo8⟩ := Kd.N_slice HO495.out; subst eo8; have hcz9_0 : w6.cell? ⟨gb492, 0, none⟩ = some (.int .i64 0) := (blk_cell BK492.out 0).trans rfl; have hcz9_1 : w6.cell? ⟨gb492, 1, none⟩ = some (.int .i64 0) := (blk_cell BK492.out 1).trans rfl; have hcz9_2 : w6.cell? ⟨gb492, 2, none⟩ = some (.string (⟨#[]⟩ : ByteArray)) := (blk_cell BK492.out 2).trans rfl; have hcz9_3 : w6.cell? ⟨gb492, 3, none⟩ = some (.slice none 0 0) := (blk_cell BK492.out 3).trans rfl; have hfz9_0 := blk_frozen BK492.out 0; have hfz9_1 := blk_frozen BK492.out 1; have hfz9_2 := blk_frozen BK492.out 2; have hfz9_3 := blk_frozen BK492.out 3))
  refine bodyPost_ret (results_cell_row rfl _ _ gb492 24 #[.int .i64 9, .int .i64 0, .string (⟨#[]⟩ : ByteArray), .slice Ao8 y493.length co8] (0, 0) _ rfl (by (with_reducible repeat (first | refine blk_drewN ?_ _ | refine blk_drew ?_ | refine blk_alloc ?_ _)); refine blk_put (cs := #[.int .i64 9, .int .i64 0, .string (⟨#[]⟩ : ByteArray), .slice none 0 0]) ?_ 3 _ rfl; (with_reducible repeat (first | refine blk_drewN ?_ _ | refine blk_drew ?_ | refine blk_alloc ?_ _)); refine blk_put (cs := #[.int .i64 9, .int .i64 0, .string (⟨#[]⟩ : ByteArray), .slice none 0 0]) ?_ 2 _ rfl; (with_reducible repeat (first | refine blk_drewN ?_ _ | refine blk_drew ?_ | refine blk_alloc ?_ _)); refine blk_put (cs := #[.int .i64 9, .int .i64 0, .string (⟨#[]⟩ : ByteArray), .slice none 0 0]) ?_ 1 _ rfl; (with_reducible repeat (first | refine blk_drewN ?_ _ | refine blk_drew ?_ | refine blk_alloc ?_ _)); refine blk_put (cs := #[.int .i64 0, .int .i64 0, .string (⟨#[]⟩ : ByteArray), .slice none 0 0]) ?_ 0 _ rfl; (with_reducible repeat (first | refine blk_drewN ?_ _ | refine blk_drew ?_ | refine blk_alloc ?_ _)); exact BK492.out) Tryd.underlying24 rfl (by kernel_rfl)) rfl ?_
  exact ⟨_, by first | rfl | (simp [errW_none, errW_some] <;> rfl) | (simp [*, errW_none, errW_some] <;> rfl), by (with_reducible repeat (first | apply Kd.N_alloc | apply Kd.N_drewN | apply Kd.N_drew)); exact Kd.N_mono (Kd.N_far (p := ⟨gb492, 3, none⟩) (Kd.N_far (p := ⟨gb492, 2, none⟩) (Kd.N_far (p := ⟨gb492, 1, none⟩) (Kd.N_far (p := ⟨gb492, 0, none⟩) (Kd.N_mono HO495.out (fun k_ hk => (⟨hk, hk.2.2⟩ : _ ∧ k_ ≠ gb492))) (fun _ hk => hk.2) (.int .i64 9)) (fun _ hk => hk.2) (.int .i64 0)) (fun _ hk => hk.2) (.string (⟨#[]⟩ : ByteArray))) (fun _ hk => hk.2) (.slice Ao8 y493.length co8)) (fun _ hk => hk.1.1), by repeat (first | (with_reducible first | exact HB.out | apply below_alloc | apply pw_below_drewN | apply below_drew1 | refine below_set ?_ GE491.out | refine below_set ?_ GE492.out) | exact HB.out)⟩

-- NOT PRINTED: function 8 (sawmilllaw43_RuleLogic)

end Go.Proofs.YthdgofbchfcfcaaDoor.PRu
