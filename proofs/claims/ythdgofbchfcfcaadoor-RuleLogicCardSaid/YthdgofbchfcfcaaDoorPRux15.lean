/- What the functions of the package rule, of its reference and of the statements return, as Lean functions, and the walks that show it. No condition but those that each theorem names. Written by a program of this session. -/
import Derived.Test.YthdgofbchfcfcaaDoorPRux0
import Derived.Test.YthdgofbchfcfcaaDoorPRux14
namespace Go.Proofs.YthdgofbchfcfcaaDoor.PRu
open Go.RowKit Go.Proofs.YthdgofbchfcfcaaDoorW.PrintWords Go.Proofs.YthdgofbchfcfcaaDoorW.PrintLast Go.Proofs.YthdgofbchfcfcaaDoorW.PrintMore
attribute [local go_sem] binOp_string_gtr2 max2_int min2_int max_two min_two max_three min_three max_four min_four   -- for this text's walks alone
set_option linter.unusedVariables false
set_option linter.unusedSimpArgs false

/-! ### sawmillref43_value: function 44 -/
mutual
def sawmillref43_value.j0 : Nat → List (S40) → Int → Bool → Int → Int → ByteArray → List (S24) → Option (Int × Int)
  | 0, _, _, _, _, _, _, _ => none
  | k + 1, x1, x6, x58, x343000, x343001, x343002, x343003 => if x58 = true then (some (x6, 0)) else (if 1 < (x343003.length : Int) then ((sawmillref43_value.f k ((rd_T24 x343003 1).f0) ((rd_T24 x343003 1).f1) ((rd_T24 x343003 1).f2) ((rd_T24 x343003 1).f3) x1).bind fun bt350 => (if bt350.2 = 0 then (if x343000 = 3 then ((sawmillref43_number.f (wrap64 (x6 + bt350.1))).bind fun bt352 => (some (bt352.1, bt352.2))) else (if x343000 = 4 then ((sawmillref43_number.f (wrap64 (x6 - bt350.1))).bind fun bt354 => (some (bt354.1, bt354.2))) else (if x343000 = 5 then ((sawmillref43_product.f k x6 bt350.1).bind fun bt356 => (if bt356.2 = true then (some (bt356.1, 0)) else (some (0, 9)))) else (if x343000 = 6 then ((sawmillref43_bit.f (x6 == bt350.1)).bind fun t358 => (some (t358, 0))) else (if x343000 = 7 then ((sawmillref43_bit.f (decide (x6 < bt350.1))).bind fun t359 => (some (t359, 0))) else (if x343000 = 8 then ((sawmillref43_bit.f (decide (x6 ≤ bt350.1))).bind fun t360 => (some (t360, 0))) else (some (bt350.1, 0)))))))) else (some (0, bt350.2)))) else (none))
def sawmillref43_value.f : Nat → Int → Int → ByteArray → List (S24) → List (S40) → Option (Int × Int)
  | 0, _, _, _, _, _ => none
  | k + 1, a0_0, a0_1, a0_2, l0_3, l1 => if a0_0 = 1 then (some (a0_1, 0)) else (if a0_0 = 2 then ((sawmillref43_get.f k l1 a0_2).bind fun t343 => ((sawmillref43_number.f t343).bind fun bt344 => (some (bt344.1, bt344.2)))) else (if 0 < (l0_3.length : Int) then ((sawmillref43_value.f k ((rd_T24 l0_3 0).f0) ((rd_T24 l0_3 0).f1) ((rd_T24 l0_3 0).f2) ((rd_T24 l0_3 0).f3) l1).bind fun bt347 => (if bt347.2 = 0 then (if a0_0 = 9 then (some (wrap64 (1 - bt347.1), 0)) else (if a0_0 = 10 then (if bt347.1 = 0 then (sawmillref43_value.j0 k l1 bt347.1 true a0_0 a0_1 a0_2 l0_3) else (if a0_0 = 11 then (sawmillref43_value.j0 k l1 bt347.1 (bt347.1 == 1) a0_0 a0_1 a0_2 l0_3) else (sawmillref43_value.j0 k l1 bt347.1 false a0_0 a0_1 a0_2 l0_3))) else (if a0_0 = 11 then (sawmillref43_value.j0 k l1 bt347.1 (bt347.1 == 1) a0_0 a0_1 a0_2 l0_3) else (sawmillref43_value.j0 k l1 bt347.1 false a0_0 a0_1 a0_2 l0_3)))) else (some (0, bt347.2)))) else (none)))
end
theorem sawmillref43_value.mono_l : ∀ k, (∀ y0 y1 y2 y3 y4, LeO (sawmillref43_value.f k y0 y1 y2 y3 y4) (sawmillref43_value.f (k + 1) y0 y1 y2 y3 y4)) ∧ (∀ y0 y1 y2 y3 y4 y5 y6, LeO (sawmillref43_value.j0 k y0 y1 y2 y3 y4 y5 y6) (sawmillref43_value.j0 (k + 1) y0 y1 y2 y3 y4 y5 y6))
  | 0 => ⟨fun _ _ _ _ _ r h => by simp [sawmillref43_value.f] at h, fun _ _ _ _ _ _ _ r h => by simp [sawmillref43_value.j0] at h⟩
  | k + 1 => by
    obtain ⟨ih0, ih1⟩ := sawmillref43_value.mono_l k
    refine ⟨?_, ?_⟩
    · intro y0 y1 y2 y3 y4
      unfold sawmillref43_value.f
      repeat' first
      | (with_reducible exact ih0 _ _ _ _ _)
      | (with_reducible exact ih1 _ _ _ _ _ _ _)
      | (with_reducible exact sawmillref43_get.mono _ _ _)
      | (with_reducible exact sawmillref43_product.mono _ _ _)
      | (with_reducible exact LeO.refl _)
      | (with_reducible exact LeO.none _)
      | (with_reducible refine LeO.ite ?_ ?_)
      | (with_reducible refine LeO.bind ?_ (fun _ => ?_))
      | exact ih0 _ _ _ _ _
      | exact ih1 _ _ _ _ _ _ _
      | exact sawmillref43_get.mono _ _ _
      | exact sawmillref43_product.mono _ _ _
      | exact LeO.none _
      | refine LeO.ite ?_ ?_
      | refine LeO.bind ?_ (fun _ => ?_)
    · intro y0 y1 y2 y3 y4 y5 y6
      unfold sawmillref43_value.j0
      repeat' first
      | (with_reducible exact ih0 _ _ _ _ _)
      | (with_reducible exact ih1 _ _ _ _ _ _ _)
      | (with_reducible exact sawmillref43_get.mono _ _ _)
      | (with_reducible exact sawmillref43_product.mono _ _ _)
      | (with_reducible exact LeO.refl _)
      | (with_reducible exact LeO.none _)
      | (with_reducible refine LeO.ite ?_ ?_)
      | (with_reducible refine LeO.bind ?_ (fun _ => ?_))
      | exact ih0 _ _ _ _ _
      | exact ih1 _ _ _ _ _ _ _
      | exact sawmillref43_get.mono _ _ _
      | exact sawmillref43_product.mono _ _ _
      | exact LeO.none _
      | refine LeO.ite ?_ ?_
      | refine LeO.bind ?_ (fun _ => ?_)
theorem sawmillref43_value.mono : ∀ a0 a1 a2 a3 a4 k, LeO (sawmillref43_value.f k a0 a1 a2 a3 a4) (sawmillref43_value.f (k + 1) a0 a1 a2 a3 a4) := by
  intro a0 a1 a2 a3 a4 k
  obtain ⟨ih0, ih1⟩ := sawmillref43_value.mono_l k
  exact ih0 a0 a1 a2 a3 a4
set_option maxHeartbeats 8000000 in
set_option maxRecDepth 100000 in
theorem sawmillref43_value.calls (k : Nat) : ∀ (a0_0 : Int) (a0_1 : Int) (a0_2 : ByteArray) (A0_3 : Option Addr) (c0_3 : Nat) (l0_3 : List (S24)) (A1 : Option Addr) (c1 : Nat) (l1 : List (S40)) (r1 : Int) (r2 : Int) (w : World) (hr0_3 : Kd.C k24 w A0_3 l0_3.length l0_3) (hc0_3 : l0_3.length ≤ c0_3) (hr1 : Kd.C k40 w A1 l1.length l1) (hc1 : l1.length ≤ c1) (h : sawmillref43_value.f k a0_0 a0_1 a0_2 l0_3 l1 = some (r1, r2)),
    Calls Tryd.prog 44 #[.agg #[.int .i64 a0_0, .int .i64 a0_1, .string a0_2, .slice A0_3 l0_3.length c0_3], .slice A1 l1.length c1] w fun e w' => e = .returned (.tuple #[.int .i64 r1, .int .i64 r2]) ∧ Below w.heap.size w w' := by
  induction k using Nat.strongRecOn with
  | _ k ih =>
  intro a0_0 a0_1 a0_2 A0_3 c0_3 l0_3 A1 c1 l1 r1 r2 w hr0_3 hc0_3 hr1 hc1 h
  cases k with
  | zero => exact absurd h (by simp [sawmillref43_value.f])
  | succ k =>
  simp only [sawmillref43_value.f] at h
  have hu24 := Tryd.underlying24
  have HR0_3 := Aside0.mk hr0_3
  have HC0_3 := Aside0.mk hc0_3
  clear hr0_3 hc0_3
  have HR1 := Aside0.mk hr1
  have HC1 := Aside0.mk hc1
  clear hr1 hc1
  have HB := Aside0.mk (Below.refl w.heap.size w)
  have H : (if a0_0 = 1 then (some (a0_1, 0)) else (if a0_0 = 2 then ((sawmillref43_get.f k l1 a0_2).bind fun t343 => ((sawmillref43_number.f t343).bind fun bt344 => (some (bt344.1, bt344.2)))) else (if 0 < (l0_3.length : Int) then ((sawmillref43_value.f k ((rd_T24 l0_3 0).f0) ((rd_T24 l0_3 0).f1) ((rd_T24 l0_3 0).f2) ((rd_T24 l0_3 0).f3) l1).bind fun bt347 => (if bt347.2 = 0 then (if a0_0 = 9 then (some (wrap64 (1 - bt347.1), 0)) else (if a0_0 = 10 then (if bt347.1 = 0 then (sawmillref43_value.j0 k l1 bt347.1 true a0_0 a0_1 a0_2 l0_3) else (if a0_0 = 11 then (sawmillref43_value.j0 k l1 bt347.1 (bt347.1 == 1) a0_0 a0_1 a0_2 l0_3) else (sawmillref43_value.j0 k l1 bt347.1 false a0_0 a0_1 a0_2 l0_3))) else (if a0_0 = 11 then (sawmillref43_value.j0 k l1 bt347.1 (bt347.1 == 1) a0_0 a0_1 a0_2 l0_3) else (sawmillref43_value.j0 k l1 bt347.1 false a0_0 a0_1 a0_2 l0_3)))) else (some (0, bt347.2)))) else (none)))) = some (r1, r2) := h
  clear h
  by_cases c3 : a0_0 = 1
  · rw [if_pos c3] at H
    have c3b0 : (a0_0 == 1) = true := beq_iff_eq.mpr c3
    have c3b1 : (a0_0 != 1) = false := bne_eq_false_iff_eq.mpr c3
    clear c3
    simp only [Option.some.injEq, Prod.mk.injEq] at H
    obtain ⟨rfl, rfl⟩ := H
    go_enter Tryd.func44, Tryd.ntmps44
    go_wp2_with (first | ((with_reducible refine gate_dst (N := 2) rfl ?_); refine box_event ?hg (N := 2) ?hd (cs := #[.int .i64 a0_0, .int .i64 a0_1, .string a0_2, .slice A0_3 l0_3.length c0_3]) (t := 24) ?hr ?_; (case hd => rfl); (case hg => rfl); (case hr => first | (go_simp; done) | (go_simp; rfl)); intro gb342 hg w4 hbox hb; have n0_ := Aside0.mk (below_step (by repeat (first | (with_reducible first | exact HB.out | apply below_alloc | apply pw_below_drewN | apply below_drew1) | exact HB.out)) hb); have n1_ := Aside0.mk (hbox); have n2_ := Aside0.mk ((by rw [hg]; exact (below_size (by repeat (first | (with_reducible first | exact HB.out | apply below_alloc | apply pw_below_drewN | apply below_drew1) | exact HB.out))) : w.heap.size ≤ gb342)); have n3_ := Aside0.mk ((by rw [hg]; exact (below_size (by repeat (first | (with_reducible first | exact HB.out | apply below_alloc | apply pw_below_drewN | apply below_drew1) | exact HB.out))) : w.heap.size ≤ gb342)); clear HB; have HB := n0_; have BK342 := n1_; have GW342 := n2_; have GE342 := n3_; clear n0_ n1_ n2_ n3_; clear hb hbox hg; have hcz5_0 : w4.cell? ⟨gb342, 0, none⟩ = some (.int .i64 a0_0) := (blk_cell BK342.out 0).trans rfl; have hcz5_1 : w4.cell? ⟨gb342, 1, none⟩ = some (.int .i64 a0_1) := (blk_cell BK342.out 1).trans rfl; have hcz5_2 : w4.cell? ⟨gb342, 2, none⟩ = some (.string a0_2) := (blk_cell BK342.out 2).trans rfl; have hcz5_3 : w4.cell? ⟨gb342, 3, none⟩ = some (.slice A0_3 l0_3.length c0_3) := (blk_cell BK342.out 3).trans rfl; have hfz5_0 := blk_frozen BK342.out 0; have hfz5_1 := blk_frozen BK342.out 1; have hfz5_2 := blk_frozen BK342.out 2; have hfz5_3 := blk_frozen BK342.out 3))
    go_ret2
    exact ⟨by first | rfl | (simp [errW_none, errW_some] <;> rfl) | (simp [*, errW_none, errW_some] <;> rfl), by repeat (first | (with_reducible first | exact HB.out | apply below_alloc | apply pw_below_drewN | apply below_drew1 | refine below_set ?_ GE342.out) | exact HB.out)⟩
  · rw [if_neg c3] at H
    have c3b0 : (a0_0 == 1) = false := beq_eq_false_iff_ne.mpr c3
    have c3b1 : (a0_0 != 1) = true := bne_iff_ne.mpr c3
    by_cases c6 : a0_0 = 2
    · rw [if_pos c6] at H
      have c6b0 : (a0_0 == 2) = true := beq_iff_eq.mpr c6
      have c6b1 : (a0_0 != 2) = false := bne_eq_false_iff_eq.mpr c6
      clear c6
      replace H := Option.bind_eq_some_iff.mp H
      obtain ⟨t343, A70, H⟩ := H
      replace H : ((sawmillref43_number.f t343).bind fun bt344 => (some (bt344.1, bt344.2))) = some (r1, r2) := H
      have A7 := Aside0.mk A70
      clear A70
      replace H := Option.bind_eq_some_iff.mp H
      obtain ⟨⟨t344, t345⟩, A80, H⟩ := H
      replace H : (some (t344, t345)) = some (r1, r2) := H
      have A8 := Aside0.mk A80
      clear A80
      simp only [Option.some.injEq, Prod.mk.injEq] at H
      obtain ⟨rfl, rfl⟩ := H
      go_enter Tryd.func44, Tryd.ntmps44
      go_wp2_with (first | ((with_reducible refine gate_dst (N := 2) rfl ?_); refine box_event ?hg (N := 2) ?hd (cs := #[.int .i64 a0_0, .int .i64 a0_1, .string a0_2, .slice A0_3 l0_3.length c0_3]) (t := 24) ?hr ?_; (case hd => rfl); (case hg => rfl); (case hr => first | (go_simp; done) | (go_simp; rfl)); intro gb342 hg w9 hbox hb; have n0_ := Aside0.mk (below_step (by repeat (first | (with_reducible first | exact HB.out | apply below_alloc | apply pw_below_drewN | apply below_drew1) | exact HB.out)) hb); have n1_ := Aside0.mk (hbox); have n2_ := Aside0.mk ((by rw [hg]; exact (below_size (by repeat (first | (with_reducible first | exact HB.out | apply below_alloc | apply pw_below_drewN | apply below_drew1) | exact HB.out))) : w.heap.size ≤ gb342)); have n3_ := Aside0.mk ((by rw [hg]; exact (below_size (by repeat (first | (with_reducible first | exact HB.out | apply below_alloc | apply pw_below_drewN | apply below_drew1) | exact HB.out))) : w.heap.size ≤ gb342)); clear HB; have HB := n0_; have BK342 := n1_; have GW342 := n2_; have GE342 := n3_; clear n0_ n1_ n2_ n3_; clear hb hbox hg; have hcz10_0 : w9.cell? ⟨gb342, 0, none⟩ = some (.int .i64 a0_0) := (blk_cell BK342.out 0).trans rfl; have hcz10_1 : w9.cell? ⟨gb342, 1, none⟩ = some (.int .i64 a0_1) := (blk_cell BK342.out 1).trans rfl; have hcz10_2 : w9.cell? ⟨gb342, 2, none⟩ = some (.string a0_2) := (blk_cell BK342.out 2).trans rfl; have hcz10_3 : w9.cell? ⟨gb342, 3, none⟩ = some (.slice A0_3 l0_3.length c0_3) := (blk_cell BK342.out 3).trans rfl; have hfz10_0 := blk_frozen BK342.out 0; have hfz10_1 := blk_frozen BK342.out 1; have hfz10_2 := blk_frozen BK342.out 2; have hfz10_3 := blk_frozen BK342.out 3) | ((with_reducible refine gate_callee (f := 61) rfl ?_); refine goesL_ (some 22) rfl rfl Tryd.func61 (by kernel_rfl) rfl #[.slice A1 l1.length c1, .string a0_2] rfl (by (try simp only [List.map_toArray, List.map_cons, List.map_nil]); first | done | rfl | (simp only [List.length_drop, List.length_take]; rfl)) ?_; (with_reducible refine (sawmillref43_get.calls k _ _ l1 a0_2 t343 _ ?side1 ?side2 A7.out).mono ?_); (case side1 => repeat (first | exact (Kd.C_below HR1.out HB.out) | (with_reducible refine Kd.C_alloc ?_ _) | (with_reducible refine Kd.C_drewN ?_ _) | (with_reducible refine Kd.C_drew ?_))); (case side2 => exact HC1.out); rintro e w' ⟨rfl, ⟨nd, rfl⟩⟩; refine ⟨_, rfl, ?_⟩) | ((with_reducible refine gate_callee (f := 60) rfl ?_); refine goesL_ (some 23) rfl rfl Tryd.func60 (by kernel_rfl) rfl #[.int .i64 t343] rfl (by (try simp only [List.map_toArray, List.map_cons, List.map_nil]); first | done | rfl | (simp only [List.length_drop, List.length_take]; rfl)) ?_; (with_reducible refine (sawmillref43_number.calls t343 t344 t345 _ A8.out).mono ?_); rintro e w' ⟨rfl, ⟨nd, rfl⟩⟩; refine ⟨_, rfl, ?_⟩))
      go_ret2
      exact ⟨by first | rfl | (simp [errW_none, errW_some] <;> rfl) | (simp [*, errW_none, errW_some] <;> rfl), by repeat (first | (with_reducible first | exact HB.out | apply below_alloc | apply pw_below_drewN | apply below_drew1 | refine below_set ?_ GE342.out) | exact HB.out)⟩
    · rw [if_neg c6] at H
      have c6b0 : (a0_0 == 2) = false := beq_eq_false_iff_ne.mpr c6
      have c6b1 : (a0_0 != 2) = true := bne_iff_ne.mpr c6
      by_cases c11 : 0 < (l0_3.length : Int)
      · rw [if_pos c11] at H
        have c11b0 : decide (0 < (l0_3.length : Int)) = true := decide_eq_true c11
        have c11b1 : decide (0 < l0_3.length) = true := decide_eq_true (by omega)
        clear c11
        replace H := Option.bind_eq_some_iff.mp H
        obtain ⟨⟨t347, t348⟩, A120, H⟩ := H
        replace H : (if t348 = 0 then (if a0_0 = 9 then (some (wrap64 (1 - t347), 0)) else (if a0_0 = 10 then (if t347 = 0 then (sawmillref43_value.j0 k l1 t347 true a0_0 a0_1 a0_2 l0_3) else (if a0_0 = 11 then (sawmillref43_value.j0 k l1 t347 (t347 == 1) a0_0 a0_1 a0_2 l0_3) else (sawmillref43_value.j0 k l1 t347 false a0_0 a0_1 a0_2 l0_3))) else (if a0_0 = 11 then (sawmillref43_value.j0 k l1 t347 (t347 == 1) a0_0 a0_1 a0_2 l0_3) else (sawmillref43_value.j0 k l1 t347 false a0_0 a0_1 a0_2 l0_3)))) else (some (0, t348))) = some (r1, r2) := H
        have A12 := Aside0.mk A120
        clear A120
        by_cases c13 : t348 = 0
        · rw [if_pos c13] at H
          have c13b0 : (t348 == 0) = true := beq_iff_eq.mpr c13
          have c13b1 : (t348 != 0) = false := bne_eq_false_iff_eq.mpr c13
          clear c13
          by_cases c14 : a0_0 = 9
          · rw [if_pos c14] at H
            have c14b0 : (a0_0 == 9) = true := beq_iff_eq.mpr c14
            have c14b1 : (a0_0 != 9) = false := bne_eq_false_iff_eq.mpr c14
            clear c14
            simp only [Option.some.injEq, Prod.mk.injEq] at H
            obtain ⟨rfl, rfl⟩ := H
            go_enter Tryd.func44, Tryd.ntmps44
            go_wp2_with (first | ((with_reducible refine gate_dst (N := 2) rfl ?_); refine box_event ?hg (N := 2) ?hd (cs := #[.int .i64 a0_0, .int .i64 a0_1, .string a0_2, .slice A0_3 l0_3.length c0_3]) (t := 24) ?hr ?_; (case hd => rfl); (case hg => rfl); (case hr => first | (go_simp; done) | (go_simp; rfl)); intro gb342 hg w15 hbox hb; have n0_ := Aside0.mk (below_step (by repeat (first | (with_reducible first | exact HB.out | apply below_alloc | apply pw_below_drewN | apply below_drew1) | exact HB.out)) hb); have n1_ := Aside0.mk (hbox); have n2_ := Aside0.mk ((by rw [hg]; exact (below_size (by repeat (first | (with_reducible first | exact HB.out | apply below_alloc | apply pw_below_drewN | apply below_drew1) | exact HB.out))) : w.heap.size ≤ gb342)); have n3_ := Aside0.mk ((by rw [hg]; exact (below_size (by repeat (first | (with_reducible first | exact HB.out | apply below_alloc | apply pw_below_drewN | apply below_drew1) | exact HB.out))) : w.heap.size ≤ gb342)); clear HB; have HB := n0_; have BK342 := n1_; have GW342 := n2_; have GE342 := n3_; clear n0_ n1_ n2_ n3_; clear hb hbox hg; have hcz16_0 : w15.cell? ⟨gb342, 0, none⟩ = some (.int .i64 a0_0) := (blk_cell BK342.out 0).trans rfl; have hcz16_1 : w15.cell? ⟨gb342, 1, none⟩ = some (.int .i64 a0_1) := (blk_cell BK342.out 1).trans rfl; have hcz16_2 : w15.cell? ⟨gb342, 2, none⟩ = some (.string a0_2) := (blk_cell BK342.out 2).trans rfl; have hcz16_3 : w15.cell? ⟨gb342, 3, none⟩ = some (.slice A0_3 l0_3.length c0_3) := (blk_cell BK342.out 3).trans rfl; have hfz16_0 := blk_frozen BK342.out 0; have hfz16_1 := blk_frozen BK342.out 1; have hfz16_2 := blk_frozen BK342.out 2; have hfz16_3 := blk_frozen BK342.out 3; have p346 : 0 ≤ (0 : Int) := (by omega); have q346 : 0 < (l0_3.length : Int) := of_decide_eq_true (by first | (with_reducible assumption) | assumption); obtain ⟨ad346, A346_3, c346_3, e346, hx346_0, hx346_1, hx346_2, hx346_3, hl346_3, hi346_3⟩ := at_T24 HR0_3.out 0 p346 q346; cases e346; have qi346 : (0 < l0_3.length) = True := eq_true (by omega); (try rw [show ((0 : Int)).toNat = 0 from rfl] at hx346_0); (try rw [show 0 * 4 = 0 from rfl] at hx346_0); (try rw [Addr.add_zero'] at hx346_0); (try rw [show ((0 : Int)).toNat = 0 from rfl] at hx346_1); (try rw [show 0 * 4 = 0 from rfl] at hx346_1); (try rw [Addr.add_zero'] at hx346_1); (try rw [show ((0 : Int)).toNat = 0 from rfl] at hx346_2); (try rw [show 0 * 4 = 0 from rfl] at hx346_2); (try rw [Addr.add_zero'] at hx346_2); (try rw [show ((0 : Int)).toNat = 0 from rfl] at hx346_3); (try rw [show 0 * 4 = 0 from rfl] at hx346_3); (try rw [Addr.add_zero'] at hx346_3); replace hx346_0 := (HB.out.cell (World.block_lt_of_cell? w _ hx346_0)).trans hx346_0; replace hx346_1 := (HB.out.cell (World.block_lt_of_cell? w _ hx346_1)).trans hx346_1; replace hx346_2 := (HB.out.cell (World.block_lt_of_cell? w _ hx346_2)).trans hx346_2; replace hx346_3 := (HB.out.cell (World.block_lt_of_cell? w _ hx346_3)).trans hx346_3; have HR346_3 := Aside0.mk hi346_3; have HC346_3 := Aside0.mk hl346_3; clear hi346_3 hl346_3; replace p346 := eq_true p346; replace q346 := eq_true q346) | ((with_reducible refine gate_callee (f := 44) rfl ?_); refine goesL_ (some 32) rfl rfl Tryd.func44 (by kernel_rfl) rfl #[.agg #[.int .i64 ((rd_T24 l0_3 0).f0), .int .i64 ((rd_T24 l0_3 0).f1), .string ((rd_T24 l0_3 0).f2), .slice A346_3 ((rd_T24 l0_3 0).f3).length c346_3], .slice A1 l1.length c1] rfl (by (try simp only [List.map_toArray, List.map_cons, List.map_nil]); first | done | rfl | (simp only [List.length_drop, List.length_take]; rfl)) ?_; (with_reducible refine (ih k (by omega) ((rd_T24 l0_3 0).f0) ((rd_T24 l0_3 0).f1) ((rd_T24 l0_3 0).f2) _ _ ((rd_T24 l0_3 0).f3) _ _ l1 t347 t348 _ ?side1 ?side2 ?side3 ?side4 A12.out).mono ?_); (case side1 => repeat (first | exact (Kd.C_below HR346_3.out HB.out) | (with_reducible refine Kd.C_alloc ?_ _) | (with_reducible refine Kd.C_drewN ?_ _) | (with_reducible refine Kd.C_drew ?_))); (case side2 => exact HC346_3.out); (case side3 => repeat (first | exact (Kd.C_below HR1.out HB.out) | (with_reducible refine Kd.C_alloc ?_ _) | (with_reducible refine Kd.C_drewN ?_ _) | (with_reducible refine Kd.C_drew ?_))); (case side4 => exact HC1.out); rintro e w17 ⟨rfl, hb⟩; refine ⟨_, rfl, ?_⟩; have n0_ := Aside0.mk (blk_below (g := gb342) (o := .cells #[.int .i64 a0_0, .int .i64 a0_1, .string a0_2, .slice (some ad346) l0_3.length c0_3] 24 (0, 0)) (by (with_reducible repeat (first | refine blk_drewN ?_ _ | refine blk_drew ?_ | refine blk_alloc ?_ _)); exact BK342.out) hb); have n1_ := Aside0.mk (below_step (by repeat (first | (with_reducible first | exact HB.out | apply below_alloc | apply pw_below_drewN | apply below_drew1 | refine below_set ?_ GE342.out) | exact HB.out)) hb); clear BK342; clear HB; have BK342 := n0_; have HB := n1_; clear n0_ n1_; (try clear hb); (try clear hb2); (try clear hk); (try clear hi); have hcz18_0 : w17.cell? ⟨gb342, 0, none⟩ = some (.int .i64 a0_0) := (blk_cell BK342.out 0).trans rfl; have hcz18_1 : w17.cell? ⟨gb342, 1, none⟩ = some (.int .i64 a0_1) := (blk_cell BK342.out 1).trans rfl; have hcz18_2 : w17.cell? ⟨gb342, 2, none⟩ = some (.string a0_2) := (blk_cell BK342.out 2).trans rfl; have hcz18_3 : w17.cell? ⟨gb342, 3, none⟩ = some (.slice (some ad346) l0_3.length c0_3) := (blk_cell BK342.out 3).trans rfl; have hfz18_0 := blk_frozen BK342.out 0; have hfz18_1 := blk_frozen BK342.out 1; have hfz18_2 := blk_frozen BK342.out 2; have hfz18_3 := blk_frozen BK342.out 3))
            go_ret2
            exact ⟨by first | rfl | (simp [errW_none, errW_some] <;> rfl) | (simp [*, errW_none, errW_some] <;> rfl), by repeat (first | (with_reducible first | exact HB.out | apply below_alloc | apply pw_below_drewN | apply below_drew1 | refine below_set ?_ GE342.out) | exact HB.out)⟩
          · rw [if_neg c14] at H
            have c14b0 : (a0_0 == 9) = false := beq_eq_false_iff_ne.mpr c14
            have c14b1 : (a0_0 != 9) = true := bne_iff_ne.mpr c14
            have HC19 := Aside0.mk H
            clear H
            go_enter Tryd.func44, Tryd.ntmps44
            go_upto_region 11 with (first | ((with_reducible refine gate_dst (N := 2) rfl ?_); refine box_event ?hg (N := 2) ?hd (cs := #[.int .i64 a0_0, .int .i64 a0_1, .string a0_2, .slice A0_3 l0_3.length c0_3]) (t := 24) ?hr ?_; (case hd => rfl); (case hg => rfl); (case hr => first | (go_simp; done) | (go_simp; rfl)); intro gb342 hg w20 hbox hb; have n0_ := Aside0.mk (below_step (by repeat (first | (with_reducible first | exact HB.out | apply below_alloc | apply pw_below_drewN | apply below_drew1) | exact HB.out)) hb); have n1_ := Aside0.mk (hbox); have n2_ := Aside0.mk ((by rw [hg]; exact (below_size (by repeat (first | (with_reducible first | exact HB.out | apply below_alloc | apply pw_below_drewN | apply below_drew1) | exact HB.out))) : w.heap.size ≤ gb342)); have n3_ := Aside0.mk ((by rw [hg]; exact (below_size (by repeat (first | (with_reducible first | exact HB.out | apply below_alloc | apply pw_below_drewN | apply below_drew1) | exact HB.out))) : w.heap.size ≤ gb342)); clear HB; have HB := n0_; have BK342 := n1_; have GW342 := n2_; have GE342 := n3_; clear n0_ n1_ n2_ n3_; clear hb hbox hg; have hcz21_0 : w20.cell? ⟨gb342, 0, none⟩ = some (.int .i64 a0_0) := (blk_cell BK342.out 0).trans rfl; have hcz21_1 : w20.cell? ⟨gb342, 1, none⟩ = some (.int .i64 a0_1) := (blk_cell BK342.out 1).trans rfl; have hcz21_2 : w20.cell? ⟨gb342, 2, none⟩ = some (.string a0_2) := (blk_cell BK342.out 2).trans rfl; have hcz21_3 : w20.cell? ⟨gb342, 3, none⟩ = some (.slice A0_3 l0_3.length c0_3) := (blk_cell BK342.out 3).trans rfl; have hfz21_0 := blk_frozen BK342.out 0; have hfz21_1 := blk_frozen BK342.out 1; have hfz21_2 := blk_frozen BK342.out 2; have hfz21_3 := blk_frozen BK342.out 3; have p346 : 0 ≤ (0 : Int) := (by omega); have q346 : 0 < (l0_3.length : Int) := of_decide_eq_true (by first | (with_reducible assumption) | assumption); obtain ⟨ad346, A346_3, c346_3, e346, hx346_0, hx346_1, hx346_2, hx346_3, hl346_3, hi346_3⟩ := at_T24 HR0_3.out 0 p346 q346; cases e346; have qi346 : (0 < l0_3.length) = True := eq_true (by omega); (try rw [show ((0 : Int)).toNat = 0 from rfl] at hx346_0); (try rw [show 0 * 4 = 0 from rfl] at hx346_0); (try rw [Addr.add_zero'] at hx346_0); (try rw [show ((0 : Int)).toNat = 0 from rfl] at hx346_1); (try rw [show 0 * 4 = 0 from rfl] at hx346_1); (try rw [Addr.add_zero'] at hx346_1); (try rw [show ((0 : Int)).toNat = 0 from rfl] at hx346_2); (try rw [show 0 * 4 = 0 from rfl] at hx346_2); (try rw [Addr.add_zero'] at hx346_2); (try rw [show ((0 : Int)).toNat = 0 from rfl] at hx346_3); (try rw [show 0 * 4 = 0 from rfl] at hx346_3); (try rw [Addr.add_zero'] at hx346_3); replace hx346_0 := (HB.out.cell (World.block_lt_of_cell? w _ hx346_0)).trans hx346_0; replace hx346_1 := (HB.out.cell (World.block_lt_of_cell? w _ hx346_1)).trans hx346_1; replace hx346_2 := (HB.out.cell (World.block_lt_of_cell? w _ hx346_2)).trans hx346_2; replace hx346_3 := (HB.out.cell (World.block_lt_of_cell? w _ hx346_3)).trans hx346_3; have HR346_3 := Aside0.mk hi346_3; have HC346_3 := Aside0.mk hl346_3; clear hi346_3 hl346_3; replace p346 := eq_true p346; replace q346 := eq_true q346) | ((with_reducible refine gate_callee (f := 44) rfl ?_); refine goesL_ (some 32) rfl rfl Tryd.func44 (by kernel_rfl) rfl #[.agg #[.int .i64 ((rd_T24 l0_3 0).f0), .int .i64 ((rd_T24 l0_3 0).f1), .string ((rd_T24 l0_3 0).f2), .slice A346_3 ((rd_T24 l0_3 0).f3).length c346_3], .slice A1 l1.length c1] rfl (by (try simp only [List.map_toArray, List.map_cons, List.map_nil]); first | done | rfl | (simp only [List.length_drop, List.length_take]; rfl)) ?_; (with_reducible refine (ih k (by omega) ((rd_T24 l0_3 0).f0) ((rd_T24 l0_3 0).f1) ((rd_T24 l0_3 0).f2) _ _ ((rd_T24 l0_3 0).f3) _ _ l1 t347 t348 _ ?side1 ?side2 ?side3 ?side4 A12.out).mono ?_); (case side1 => repeat (first | exact (Kd.C_below HR346_3.out HB.out) | (with_reducible refine Kd.C_alloc ?_ _) | (with_reducible refine Kd.C_drewN ?_ _) | (with_reducible refine Kd.C_drew ?_))); (case side2 => exact HC346_3.out); (case side3 => repeat (first | exact (Kd.C_below HR1.out HB.out) | (with_reducible refine Kd.C_alloc ?_ _) | (with_reducible refine Kd.C_drewN ?_ _) | (with_reducible refine Kd.C_drew ?_))); (case side4 => exact HC1.out); rintro e w22 ⟨rfl, hb⟩; refine ⟨_, rfl, ?_⟩; have n0_ := Aside0.mk (blk_below (g := gb342) (o := .cells #[.int .i64 a0_0, .int .i64 a0_1, .string a0_2, .slice (some ad346) l0_3.length c0_3] 24 (0, 0)) (by (with_reducible repeat (first | refine blk_drewN ?_ _ | refine blk_drew ?_ | refine blk_alloc ?_ _)); exact BK342.out) hb); have n1_ := Aside0.mk (below_step (by repeat (first | (with_reducible first | exact HB.out | apply below_alloc | apply pw_below_drewN | apply below_drew1 | refine below_set ?_ GE342.out) | exact HB.out)) hb); clear BK342; clear HB; have BK342 := n0_; have HB := n1_; clear n0_ n1_; (try clear hb); (try clear hb2); (try clear hk); (try clear hi); have hcz23_0 : w22.cell? ⟨gb342, 0, none⟩ = some (.int .i64 a0_0) := (blk_cell BK342.out 0).trans rfl; have hcz23_1 : w22.cell? ⟨gb342, 1, none⟩ = some (.int .i64 a0_1) := (blk_cell BK342.out 1).trans rfl; have hcz23_2 : w22.cell? ⟨gb342, 2, none⟩ = some (.string a0_2) := (blk_cell BK342.out 2).trans rfl; have hcz23_3 : w22.cell? ⟨gb342, 3, none⟩ = some (.slice (some ad346) l0_3.length c0_3) := (blk_cell BK342.out 3).trans rfl; have hfz23_0 := blk_frozen BK342.out 0; have hfz23_1 := blk_frozen BK342.out 1; have hfz23_2 := blk_frozen BK342.out 2; have hfz23_3 := blk_frozen BK342.out 3))
            (try simp only [Act.put, List.setIfInBounds_toArray, List.set_cons_zero, List.set_cons_succ])
            go_cut [58] (fun v58 wc => ∃ (kq : Nat) (x58_18 : Bool), v58 = .bool x58_18 ∧ Aside0 (sawmillref43_value.j0 kq l1 t347 x58_18 a0_0 a0_1 a0_2 l0_3 = some (r1, r2)) ∧ Aside0 (kq ≤ k) ∧ Aside0 (wc.heap[gb342]? = some (.cells #[.int .i64 a0_0, .int .i64 a0_1, .string a0_2, (.slice (some ad346) l0_3.length c0_3)] 24 (0, 0))) ∧ Aside0 (Below w.heap.size w wc))
            case first =>
              have H := HC19.out
              clear HC19
              by_cases c24 : a0_0 = 10
              · rw [if_pos c24] at H
                have c24b0 : (a0_0 == 10) = true := beq_iff_eq.mpr c24
                have c24b1 : (a0_0 != 10) = false := bne_eq_false_iff_eq.mpr c24
                clear c24
                (first | rw [c24b0] | (simp only [i64_w, i32_w]; rw [c24b0]) | skip)
                by_cases c25 : t347 = 0
                · rw [if_pos c25] at H
                  have c25b0 : (t347 == 0) = true := beq_iff_eq.mpr c25
                  have c25b1 : (t347 != 0) = false := bne_eq_false_iff_eq.mpr c25
                  clear c25
                  have H' := Aside0.mk H
                  clear H
                  have hcz26_0 : w22.cell? ⟨gb342, 0, none⟩ = some (.int .i64 a0_0) := (blk_cell BK342.out 0).trans rfl
                  have hcz26_1 : w22.cell? ⟨gb342, 1, none⟩ = some (.int .i64 a0_1) := (blk_cell BK342.out 1).trans rfl
                  have hcz26_2 : w22.cell? ⟨gb342, 2, none⟩ = some (.string a0_2) := (blk_cell BK342.out 2).trans rfl
                  have hcz26_3 : w22.cell? ⟨gb342, 3, none⟩ = some (.slice (some ad346) l0_3.length c0_3) := (blk_cell BK342.out 3).trans rfl
                  have hfz26_0 := blk_frozen BK342.out 0
                  have hfz26_1 := blk_frozen BK342.out 1
                  have hfz26_2 := blk_frozen BK342.out 2
                  have hfz26_3 := blk_frozen BK342.out 3
                  go_wp2
                  go_meet
                  case rel => exact ⟨_, (true), (by first | rfl | (simp; done) | (simp [*]; done)), H', ⟨by first | omega | exact Nat.le_refl _⟩, ⟨by (with_reducible repeat (first | refine blk_drewN ?_ _ | refine blk_drew ?_ | refine blk_alloc ?_ _)); exact BK342.out⟩, ⟨by repeat (first | (with_reducible first | exact HB.out | apply below_alloc | apply pw_below_drewN | apply below_drew1 | refine below_set ?_ GE342.out) | exact HB.out)⟩⟩
                · rw [if_neg c25] at H
                  have c25b0 : (t347 == 0) = false := beq_eq_false_iff_ne.mpr c25
                  have c25b1 : (t347 != 0) = true := bne_iff_ne.mpr c25
                  by_cases c27 : a0_0 = 11
                  · rw [if_pos c27] at H
                    have c27b0 : (a0_0 == 11) = true := beq_iff_eq.mpr c27
                    have c27b1 : (a0_0 != 11) = false := bne_eq_false_iff_eq.mpr c27
                    clear c27
                    have H' := Aside0.mk H
                    clear H
                    have hcz28_0 : w22.cell? ⟨gb342, 0, none⟩ = some (.int .i64 a0_0) := (blk_cell BK342.out 0).trans rfl
                    have hcz28_1 : w22.cell? ⟨gb342, 1, none⟩ = some (.int .i64 a0_1) := (blk_cell BK342.out 1).trans rfl
                    have hcz28_2 : w22.cell? ⟨gb342, 2, none⟩ = some (.string a0_2) := (blk_cell BK342.out 2).trans rfl
                    have hcz28_3 : w22.cell? ⟨gb342, 3, none⟩ = some (.slice (some ad346) l0_3.length c0_3) := (blk_cell BK342.out 3).trans rfl
                    have hfz28_0 := blk_frozen BK342.out 0
                    have hfz28_1 := blk_frozen BK342.out 1
                    have hfz28_2 := blk_frozen BK342.out 2
                    have hfz28_3 := blk_frozen BK342.out 3
                    go_wp2
                    go_meet
                    case rel => exact ⟨_, ((t347 == 1)), (by first | rfl | (simp; done) | (simp [*]; done)), H', ⟨by first | omega | exact Nat.le_refl _⟩, ⟨by (with_reducible repeat (first | refine blk_drewN ?_ _ | refine blk_drew ?_ | refine blk_alloc ?_ _)); exact BK342.out⟩, ⟨by repeat (first | (with_reducible first | exact HB.out | apply below_alloc | apply pw_below_drewN | apply below_drew1 | refine below_set ?_ GE342.out) | exact HB.out)⟩⟩
                  · rw [if_neg c27] at H
                    have c27b0 : (a0_0 == 11) = false := beq_eq_false_iff_ne.mpr c27
                    have c27b1 : (a0_0 != 11) = true := bne_iff_ne.mpr c27
                    have H' := Aside0.mk H
                    clear H
                    have hcz29_0 : w22.cell? ⟨gb342, 0, none⟩ = some (.int .i64 a0_0) := (blk_cell BK342.out 0).trans rfl
                    have hcz29_1 : w22.cell? ⟨gb342, 1, none⟩ = some (.int .i64 a0_1) := (blk_cell BK342.out 1).trans rfl
                    have hcz29_2 : w22.cell? ⟨gb342, 2, none⟩ = some (.string a0_2) := (blk_cell BK342.out 2).trans rfl
                    have hcz29_3 : w22.cell? ⟨gb342, 3, none⟩ = some (.slice (some ad346) l0_3.length c0_3) := (blk_cell BK342.out 3).trans rfl
                    have hfz29_0 := blk_frozen BK342.out 0
                    have hfz29_1 := blk_frozen BK342.out 1
                    have hfz29_2 := blk_frozen BK342.out 2
                    have hfz29_3 := blk_frozen BK342.out 3
                    go_wp2
                    go_meet
                    case rel => exact ⟨_, (false), (by first | rfl | (simp; done) | (simp [*]; done)), H', ⟨by first | omega | exact Nat.le_refl _⟩, ⟨by (with_reducible repeat (first | refine blk_drewN ?_ _ | refine blk_drew ?_ | refine blk_alloc ?_ _)); exact BK342.out⟩, ⟨by repeat (first | (with_reducible first | exact HB.out | apply below_alloc | apply pw_below_drewN | apply below_drew1 | refine below_set ?_ GE342.out) | exact HB.out)⟩⟩
              · rw [if_neg c24] at H
                have c24b0 : (a0_0 == 10) = false := beq_eq_false_iff_ne.mpr c24
                have c24b1 : (a0_0 != 10) = true := bne_iff_ne.mpr c24
                (first | rw [c24b0] | (simp only [i64_w, i32_w]; rw [c24b0]) | skip)
                by_cases c30 : a0_0 = 11
                · rw [if_pos c30] at H
                  have c30b0 : (a0_0 == 11) = true := beq_iff_eq.mpr c30
                  have c30b1 : (a0_0 != 11) = false := bne_eq_false_iff_eq.mpr c30
                  clear c30
                  have H' := Aside0.mk H
                  clear H
                  have hcz31_0 : w22.cell? ⟨gb342, 0, none⟩ = some (.int .i64 a0_0) := (blk_cell BK342.out 0).trans rfl
                  have hcz31_1 : w22.cell? ⟨gb342, 1, none⟩ = some (.int .i64 a0_1) := (blk_cell BK342.out 1).trans rfl
                  have hcz31_2 : w22.cell? ⟨gb342, 2, none⟩ = some (.string a0_2) := (blk_cell BK342.out 2).trans rfl
                  have hcz31_3 : w22.cell? ⟨gb342, 3, none⟩ = some (.slice (some ad346) l0_3.length c0_3) := (blk_cell BK342.out 3).trans rfl
                  have hfz31_0 := blk_frozen BK342.out 0
                  have hfz31_1 := blk_frozen BK342.out 1
                  have hfz31_2 := blk_frozen BK342.out 2
                  have hfz31_3 := blk_frozen BK342.out 3
                  go_wp2
                  go_meet
                  case rel => exact ⟨_, ((t347 == 1)), (by first | rfl | (simp; done) | (simp [*]; done)), H', ⟨by first | omega | exact Nat.le_refl _⟩, ⟨by (with_reducible repeat (first | refine blk_drewN ?_ _ | refine blk_drew ?_ | refine blk_alloc ?_ _)); exact BK342.out⟩, ⟨by repeat (first | (with_reducible first | exact HB.out | apply below_alloc | apply pw_below_drewN | apply below_drew1 | refine below_set ?_ GE342.out) | exact HB.out)⟩⟩
                · rw [if_neg c30] at H
                  have c30b0 : (a0_0 == 11) = false := beq_eq_false_iff_ne.mpr c30
                  have c30b1 : (a0_0 != 11) = true := bne_iff_ne.mpr c30
                  have H' := Aside0.mk H
                  clear H
                  have hcz32_0 : w22.cell? ⟨gb342, 0, none⟩ = some (.int .i64 a0_0) := (blk_cell BK342.out 0).trans rfl
                  have hcz32_1 : w22.cell? ⟨gb342, 1, none⟩ = some (.int .i64 a0_1) := (blk_cell BK342.out 1).trans rfl
                  have hcz32_2 : w22.cell? ⟨gb342, 2, none⟩ = some (.string a0_2) := (blk_cell BK342.out 2).trans rfl
                  have hcz32_3 : w22.cell? ⟨gb342, 3, none⟩ = some (.slice (some ad346) l0_3.length c0_3) := (blk_cell BK342.out 3).trans rfl
                  have hfz32_0 := blk_frozen BK342.out 0
                  have hfz32_1 := blk_frozen BK342.out 1
                  have hfz32_2 := blk_frozen BK342.out 2
                  have hfz32_3 := blk_frozen BK342.out 3
                  go_wp2
                  go_meet
                  case rel => exact ⟨_, (false), (by first | rfl | (simp; done) | (simp [*]; done)), H', ⟨by first | omega | exact Nat.le_refl _⟩, ⟨by (with_reducible repeat (first | refine blk_drewN ?_ _ | refine blk_drew ?_ | refine blk_alloc ?_ _)); exact BK342.out⟩, ⟨by repeat (first | (with_reducible first | exact HB.out | apply below_alloc | apply pw_below_drewN | apply below_drew1 | refine below_set ?_ GE342.out) | exact HB.out)⟩⟩
            case rest =>
              clear HC19
              try clear c1
              try clear c2
              try clear p2
              try clear c3
              try clear c3b0
              try clear c3b1
              try clear p3
              try clear q3
              try clear hx3
              try clear qi3
              try clear c4
              try clear c6
              try clear c6b0
              try clear c6b1
              try clear p6
              try clear c11
              try clear c11b0
              try clear c11b1
              try clear c13
              try clear c13b0
              try clear c13b1
              try clear c14
              try clear c14b0
              try clear c14b1
              try clear c24
              try clear c24b0
              try clear c24b1
              try clear c25
              try clear c25b0
              try clear c25b1
              try clear c27
              try clear c27b0
              try clear c27b1
              try clear c30
              try clear c30b0
              try clear c30b1
              try clear hcz10_0
              try clear hcz10_1
              try clear hcz10_2
              try clear hcz10_3
              try clear hcz16_0
              try clear hcz16_1
              try clear hcz16_2
              try clear hcz16_3
              try clear hcz18_0
              try clear hcz18_1
              try clear hcz18_2
              try clear hcz18_3
              try clear hcz21_0
              try clear hcz21_1
              try clear hcz21_2
              try clear hcz21_3
              try clear hcz23_0
              try clear hcz23_1
              try clear hcz23_2
              try clear hcz23_3
              try clear hcz26_0
              try clear hcz26_1
              try clear hcz26_2
              try clear hcz26_3
              try clear hcz28_0
              try clear hcz28_1
              try clear hcz28_2
              try clear hcz28_3
              try clear hcz29_0
              try clear hcz29_1
              try clear hcz29_2
              try clear hcz29_3
              try clear hcz31_0
              try clear hcz31_1
              try clear hcz31_2
              try clear hcz31_3
              try clear hcz32_0
              try clear hcz32_1
              try clear hcz32_2
              try clear hcz32_3
              try clear hcz5_0
              try clear hcz5_1
              try clear hcz5_2
              try clear hcz5_3
              try clear hfz10_0
              try clear hfz10_1
              try clear hfz10_2
              try clear hfz10_3
              try clear hfz16_0
              try clear hfz16_1
              try clear hfz16_2
              try clear hfz16_3
              try clear hfz18_0
              try clear hfz18_1
              try clear hfz18_2
              try clear hfz18_3
              try clear hfz21_0
              try clear hfz21_1
              try clear hfz21_2
              try clear hfz21_3
              try clear hfz23_0
              try clear hfz23_1
              try clear hfz23_2
              try clear hfz23_3
              try clear hfz26_0
              try clear hfz26_1
              try clear hfz26_2
              try clear hfz26_3
              try clear hfz28_0
              try clear hfz28_1
              try clear hfz28_2
              try clear hfz28_3
              try clear hfz29_0
              try clear hfz29_1
              try clear hfz29_2
              try clear hfz29_3
              try clear hfz31_0
              try clear hfz31_1
              try clear hfz31_2
              try clear hfz31_3
              try clear hfz32_0
              try clear hfz32_1
              try clear hfz32_2
              try clear hfz32_3
              try clear hfz5_0
              try clear hfz5_1
              try clear hfz5_2
              try clear hfz5_3
              try clear hx346_0
              try clear hx346_1
              try clear hx346_2
              try clear hx346_3
              try clear p346
              try clear q346
              obtain ⟨kq, x58_18, rfl, HA, HJ18, BK342, HB⟩ := hcut
              cases kq with
              | zero => exact absurd HA.out (by simp [sawmillref43_value.j0])
              | succ kj18 =>
                have H := HA.out
                clear HA
                simp only [sawmillref43_value.j0] at H
                by_cases c33 : x58_18 = true
                · subst c33
                  have H1 : (some (t347, 0)) = some (r1, r2) := by rw [if_pos rfl] at H; exact H
                  clear H
                  have H := H1
                  clear H1
                  simp only [Option.some.injEq, Prod.mk.injEq] at H
                  obtain ⟨rfl, rfl⟩ := H
                  go_wp2
                  go_ret2
                  exact ⟨by first | rfl | (simp [errW_none, errW_some] <;> rfl) | (simp [*, errW_none, errW_some] <;> rfl), by repeat (first | (with_reducible first | exact HB.out | apply below_alloc | apply pw_below_drewN | apply below_drew1 | refine below_set ?_ GE342.out) | exact HB.out)⟩
                · replace c33 := Bool.eq_false_iff.mpr c33
                  subst c33
                  have H1 : (if 1 < (l0_3.length : Int) then ((sawmillref43_value.f kj18 ((rd_T24 l0_3 1).f0) ((rd_T24 l0_3 1).f1) ((rd_T24 l0_3 1).f2) ((rd_T24 l0_3 1).f3) l1).bind fun bt350 => (if bt350.2 = 0 then (if a0_0 = 3 then ((sawmillref43_number.f (wrap64 (t347 + bt350.1))).bind fun bt352 => (some (bt352.1, bt352.2))) else (if a0_0 = 4 then ((sawmillref43_number.f (wrap64 (t347 - bt350.1))).bind fun bt354 => (some (bt354.1, bt354.2))) else (if a0_0 = 5 then ((sawmillref43_product.f kj18 t347 bt350.1).bind fun bt356 => (if bt356.2 = true then (some (bt356.1, 0)) else (some (0, 9)))) else (if a0_0 = 6 then ((sawmillref43_bit.f (t347 == bt350.1)).bind fun t358 => (some (t358, 0))) else (if a0_0 = 7 then ((sawmillref43_bit.f (decide (t347 < bt350.1))).bind fun t359 => (some (t359, 0))) else (if a0_0 = 8 then ((sawmillref43_bit.f (decide (t347 ≤ bt350.1))).bind fun t360 => (some (t360, 0))) else (some (bt350.1, 0)))))))) else (some (0, bt350.2)))) else (none)) = some (r1, r2) := by rw [if_neg (show ¬ (false = true) by decide)] at H; exact H
                  clear H
                  have H := H1
                  clear H1
                  by_cases c34 : 1 < (l0_3.length : Int)
                  · rw [if_pos c34] at H
                    have c34b0 : decide (1 < (l0_3.length : Int)) = true := decide_eq_true c34
                    have c34b1 : decide (1 < l0_3.length) = true := decide_eq_true (by omega)
                    clear c34
                    replace H := Option.bind_eq_some_iff.mp H
                    obtain ⟨⟨t350, t351⟩, A350, H⟩ := H
                    replace H : (if t351 = 0 then (if a0_0 = 3 then ((sawmillref43_number.f (wrap64 (t347 + t350))).bind fun bt352 => (some (bt352.1, bt352.2))) else (if a0_0 = 4 then ((sawmillref43_number.f (wrap64 (t347 - t350))).bind fun bt354 => (some (bt354.1, bt354.2))) else (if a0_0 = 5 then ((sawmillref43_product.f kj18 t347 t350).bind fun bt356 => (if bt356.2 = true then (some (bt356.1, 0)) else (some (0, 9)))) else (if a0_0 = 6 then ((sawmillref43_bit.f (t347 == t350)).bind fun t358 => (some (t358, 0))) else (if a0_0 = 7 then ((sawmillref43_bit.f (decide (t347 < t350))).bind fun t359 => (some (t359, 0))) else (if a0_0 = 8 then ((sawmillref43_bit.f (decide (t347 ≤ t350))).bind fun t360 => (some (t360, 0))) else (some (t350, 0)))))))) else (some (0, t351))) = some (r1, r2) := H
                    have A35 := Aside0.mk A350
                    clear A350
                    by_cases c36 : t351 = 0
                    · rw [if_pos c36] at H
                      have c36b0 : (t351 == 0) = true := beq_iff_eq.mpr c36
                      have c36b1 : (t351 != 0) = false := bne_eq_false_iff_eq.mpr c36
                      clear c36
                      by_cases c37 : a0_0 = 3
                      · rw [if_pos c37] at H
                        have c37b0 : (a0_0 == 3) = true := beq_iff_eq.mpr c37
                        have c37b1 : (a0_0 != 3) = false := bne_eq_false_iff_eq.mpr c37
                        clear c37
                        replace H := Option.bind_eq_some_iff.mp H
                        obtain ⟨⟨t352, t353⟩, A380, H⟩ := H
                        replace H : (some (t352, t353)) = some (r1, r2) := H
                        have A38 := Aside0.mk A380
                        clear A380
                        simp only [Option.some.injEq, Prod.mk.injEq] at H
                        obtain ⟨rfl, rfl⟩ := H
                        have hcz39_0 : wc.cell? ⟨gb342, 0, none⟩ = some (.int .i64 a0_0) := (blk_cell BK342.out 0).trans rfl
                        have hcz39_1 : wc.cell? ⟨gb342, 1, none⟩ = some (.int .i64 a0_1) := (blk_cell BK342.out 1).trans rfl
                        have hcz39_2 : wc.cell? ⟨gb342, 2, none⟩ = some (.string a0_2) := (blk_cell BK342.out 2).trans rfl
                        have hcz39_3 : wc.cell? ⟨gb342, 3, none⟩ = some (.slice (some ad346) l0_3.length c0_3) := (blk_cell BK342.out 3).trans rfl
                        have hfz39_0 := blk_frozen BK342.out 0
                        have hfz39_1 := blk_frozen BK342.out 1
                        have hfz39_2 := blk_frozen BK342.out 2
                        have hfz39_3 := blk_frozen BK342.out 3
                        have p349 : 0 ≤ (1 : Int) := (by omega)
                        have q349 : 1 < (l0_3.length : Int) := of_decide_eq_true (by first | (with_reducible assumption) | assumption)
                        obtain ⟨ad349, A349_3, c349_3, e349, hx349_0, hx349_1, hx349_2, hx349_3, hl349_3, hi349_3⟩ := at_T24 HR0_3.out 1 p349 q349
                        obtain rfl : ad346 = ad349 := (by injection e349)
                        (try simp only [show (1 : Int).toNat = 1 from rfl, Nat.reduceMul, Nat.reduceEqDiff, Go.Addr.add, ↓reduceIte] at hx349_0)
                        (try simp only [show (1 : Int).toNat = 1 from rfl, Nat.reduceMul, Nat.reduceEqDiff, Go.Addr.add, ↓reduceIte] at hx349_1)
                        (try simp only [show (1 : Int).toNat = 1 from rfl, Nat.reduceMul, Nat.reduceEqDiff, Go.Addr.add, ↓reduceIte] at hx349_2)
                        (try simp only [show (1 : Int).toNat = 1 from rfl, Nat.reduceMul, Nat.reduceEqDiff, Go.Addr.add, ↓reduceIte] at hx349_3)
                        have qi349 : (1 < l0_3.length) = True := eq_true (by omega)
                        (try rw [show ((1 : Int)).toNat = 1 from rfl] at hx349_0)
                        (try rw [show 1 * 4 = 4 from rfl] at hx349_0)
                        (try rw [show ((1 : Int)).toNat = 1 from rfl] at hx349_1)
                        (try rw [show 1 * 4 = 4 from rfl] at hx349_1)
                        (try rw [show ((1 : Int)).toNat = 1 from rfl] at hx349_2)
                        (try rw [show 1 * 4 = 4 from rfl] at hx349_2)
                        (try rw [show ((1 : Int)).toNat = 1 from rfl] at hx349_3)
                        (try rw [show 1 * 4 = 4 from rfl] at hx349_3)
                        replace hx349_0 := (HB.out.cell (World.block_lt_of_cell? w _ hx349_0)).trans hx349_0
                        replace hx349_1 := (HB.out.cell (World.block_lt_of_cell? w _ hx349_1)).trans hx349_1
                        replace hx349_2 := (HB.out.cell (World.block_lt_of_cell? w _ hx349_2)).trans hx349_2
                        replace hx349_3 := (HB.out.cell (World.block_lt_of_cell? w _ hx349_3)).trans hx349_3
                        have HR349_3 := Aside0.mk hi349_3
                        have HC349_3 := Aside0.mk hl349_3
                        clear hi349_3 hl349_3
                        replace p349 := eq_true p349
                        replace q349 := eq_true q349
                        go_wp2_with (first | ((with_reducible refine gate_callee (f := 44) rfl ?_); refine goesL_ (some 66) rfl rfl Tryd.func44 (by kernel_rfl) rfl #[.agg #[.int .i64 ((rd_T24 l0_3 1).f0), .int .i64 ((rd_T24 l0_3 1).f1), .string ((rd_T24 l0_3 1).f2), .slice A349_3 ((rd_T24 l0_3 1).f3).length c349_3], .slice A1 l1.length c1] rfl (by (try simp only [List.map_toArray, List.map_cons, List.map_nil]); first | done | rfl | (simp only [List.length_drop, List.length_take]; rfl)) ?_; (with_reducible refine (ih kj18 (by have := HJ18.out; omega) ((rd_T24 l0_3 1).f0) ((rd_T24 l0_3 1).f1) ((rd_T24 l0_3 1).f2) _ _ ((rd_T24 l0_3 1).f3) _ _ l1 t350 t351 _ ?side1 ?side2 ?side3 ?side4 A35.out).mono ?_); (case side1 => repeat (first | exact (Kd.C_below HR349_3.out HB.out) | (with_reducible refine Kd.C_alloc ?_ _) | (with_reducible refine Kd.C_drewN ?_ _) | (with_reducible refine Kd.C_drew ?_))); (case side2 => exact HC349_3.out); (case side3 => repeat (first | exact (Kd.C_below HR1.out HB.out) | (with_reducible refine Kd.C_alloc ?_ _) | (with_reducible refine Kd.C_drewN ?_ _) | (with_reducible refine Kd.C_drew ?_))); (case side4 => exact HC1.out); rintro e w40 ⟨rfl, hb⟩; refine ⟨_, rfl, ?_⟩; have n0_ := Aside0.mk (blk_below (g := gb342) (o := .cells #[.int .i64 a0_0, .int .i64 a0_1, .string a0_2, .slice (some ad346) l0_3.length c0_3] 24 (0, 0)) (by (with_reducible repeat (first | refine blk_drewN ?_ _ | refine blk_drew ?_ | refine blk_alloc ?_ _)); exact BK342.out) hb); have n1_ := Aside0.mk (below_step (by repeat (first | (with_reducible first | exact HB.out | apply below_alloc | apply pw_below_drewN | apply below_drew1 | refine below_set ?_ GE342.out) | exact HB.out)) hb); clear BK342; clear HB; have BK342 := n0_; have HB := n1_; clear n0_ n1_; (try clear hb); (try clear hb2); (try clear hk); (try clear hi); have hcz41_0 : w40.cell? ⟨gb342, 0, none⟩ = some (.int .i64 a0_0) := (blk_cell BK342.out 0).trans rfl; have hcz41_1 : w40.cell? ⟨gb342, 1, none⟩ = some (.int .i64 a0_1) := (blk_cell BK342.out 1).trans rfl; have hcz41_2 : w40.cell? ⟨gb342, 2, none⟩ = some (.string a0_2) := (blk_cell BK342.out 2).trans rfl; have hcz41_3 : w40.cell? ⟨gb342, 3, none⟩ = some (.slice (some ad346) l0_3.length c0_3) := (blk_cell BK342.out 3).trans rfl; have hfz41_0 := blk_frozen BK342.out 0; have hfz41_1 := blk_frozen BK342.out 1; have hfz41_2 := blk_frozen BK342.out 2; have hfz41_3 := blk_frozen BK342.out 3) | ((with_reducible refine gate_callee (f := 60) rfl ?_); refine goesL_ (some 79) rfl rfl Tryd.func60 (by kernel_rfl) rfl #[.int .i64 (wrap64 (t347 + t350))] rfl (by (try simp only [List.map_toArray, List.map_cons, List.map_nil]); first | done | rfl | (simp only [List.length_drop, List.length_take]; rfl)) ?_; (with_reducible refine (sawmillref43_number.calls (wrap64 (t347 + t350)) t352 t353 _ A38.out).mono ?_); rintro e w' ⟨rfl, ⟨nd, rfl⟩⟩; refine ⟨_, rfl, ?_⟩))
                        go_ret2
                        exact ⟨by first | rfl | (simp [errW_none, errW_some] <;> rfl) | (simp [*, errW_none, errW_some] <;> rfl), by repeat (first | (with_reducible first | exact HB.out | apply below_alloc | apply pw_below_drewN | apply below_drew1 | refine below_set ?_ GE342.out) | exact HB.out)⟩
                      · rw [if_neg c37] at H
                        have c37b0 : (a0_0 == 3) = false := beq_eq_false_iff_ne.mpr c37
                        have c37b1 : (a0_0 != 3) = true := bne_iff_ne.mpr c37
                        by_cases c42 : a0_0 = 4
                        · rw [if_pos c42] at H
                          have c42b0 : (a0_0 == 4) = true := beq_iff_eq.mpr c42
                          have c42b1 : (a0_0 != 4) = false := bne_eq_false_iff_eq.mpr c42
                          clear c42
                          replace H := Option.bind_eq_some_iff.mp H
                          obtain ⟨⟨t354, t355⟩, A430, H⟩ := H
                          replace H : (some (t354, t355)) = some (r1, r2) := H
                          have A43 := Aside0.mk A430
                          clear A430
                          simp only [Option.some.injEq, Prod.mk.injEq] at H
                          obtain ⟨rfl, rfl⟩ := H
                          have hcz44_0 : wc.cell? ⟨gb342, 0, none⟩ = some (.int .i64 a0_0) := (blk_cell BK342.out 0).trans rfl
                          have hcz44_1 : wc.cell? ⟨gb342, 1, none⟩ = some (.int .i64 a0_1) := (blk_cell BK342.out 1).trans rfl
                          have hcz44_2 : wc.cell? ⟨gb342, 2, none⟩ = some (.string a0_2) := (blk_cell BK342.out 2).trans rfl
                          have hcz44_3 : wc.cell? ⟨gb342, 3, none⟩ = some (.slice (some ad346) l0_3.length c0_3) := (blk_cell BK342.out 3).trans rfl
                          have hfz44_0 := blk_frozen BK342.out 0
                          have hfz44_1 := blk_frozen BK342.out 1
                          have hfz44_2 := blk_frozen BK342.out 2
                          have hfz44_3 := blk_frozen BK342.out 3
                          have p349 : 0 ≤ (1 : Int) := (by omega)
                          have q349 : 1 < (l0_3.length : Int) := of_decide_eq_true (by first | (with_reducible assumption) | assumption)
                          obtain ⟨ad349, A349_3, c349_3, e349, hx349_0, hx349_1, hx349_2, hx349_3, hl349_3, hi349_3⟩ := at_T24 HR0_3.out 1 p349 q349
                          obtain rfl : ad346 = ad349 := (by injection e349)
                          (try simp only [show (1 : Int).toNat = 1 from rfl, Nat.reduceMul, Nat.reduceEqDiff, Go.Addr.add, ↓reduceIte] at hx349_0)
                          (try simp only [show (1 : Int).toNat = 1 from rfl, Nat.reduceMul, Nat.reduceEqDiff, Go.Addr.add, ↓reduceIte] at hx349_1)
                          (try simp only [show (1 : Int).toNat = 1 from rfl, Nat.reduceMul, Nat.reduceEqDiff, Go.Addr.add, ↓reduceIte] at hx349_2)
                          (try simp only [show (1 : Int).toNat = 1 from rfl, Nat.reduceMul, Nat.reduceEqDiff, Go.Addr.add, ↓reduceIte] at hx349_3)
                          have qi349 : (1 < l0_3.length) = True := eq_true (by omega)
                          (try rw [show ((1 : Int)).toNat = 1 from rfl] at hx349_0)
                          (try rw [show 1 * 4 = 4 from rfl] at hx349_0)
                          (try rw [show ((1 : Int)).toNat = 1 from rfl] at hx349_1)
                          (try rw [show 1 * 4 = 4 from rfl] at hx349_1)
                          (try rw [show ((1 : Int)).toNat = 1 from rfl] at hx349_2)
                          (try rw [show 1 * 4 = 4 from rfl] at hx349_2)
                          (try rw [show ((1 : Int)).toNat = 1 from rfl] at hx349_3)
                          (try rw [show 1 * 4 = 4 from rfl] at hx349_3)
                          replace hx349_0 := (HB.out.cell (World.block_lt_of_cell? w _ hx349_0)).trans hx349_0
                          replace hx349_1 := (HB.out.cell (World.block_lt_of_cell? w _ hx349_1)).trans hx349_1
                          replace hx349_2 := (HB.out.cell (World.block_lt_of_cell? w _ hx349_2)).trans hx349_2
                          replace hx349_3 := (HB.out.cell (World.block_lt_of_cell? w _ hx349_3)).trans hx349_3
                          have HR349_3 := Aside0.mk hi349_3
                          have HC349_3 := Aside0.mk hl349_3
                          clear hi349_3 hl349_3
                          replace p349 := eq_true p349
                          replace q349 := eq_true q349
                          go_wp2_with (first | ((with_reducible refine gate_callee (f := 44) rfl ?_); refine goesL_ (some 66) rfl rfl Tryd.func44 (by kernel_rfl) rfl #[.agg #[.int .i64 ((rd_T24 l0_3 1).f0), .int .i64 ((rd_T24 l0_3 1).f1), .string ((rd_T24 l0_3 1).f2), .slice A349_3 ((rd_T24 l0_3 1).f3).length c349_3], .slice A1 l1.length c1] rfl (by (try simp only [List.map_toArray, List.map_cons, List.map_nil]); first | done | rfl | (simp only [List.length_drop, List.length_take]; rfl)) ?_; (with_reducible refine (ih kj18 (by have := HJ18.out; omega) ((rd_T24 l0_3 1).f0) ((rd_T24 l0_3 1).f1) ((rd_T24 l0_3 1).f2) _ _ ((rd_T24 l0_3 1).f3) _ _ l1 t350 t351 _ ?side1 ?side2 ?side3 ?side4 A35.out).mono ?_); (case side1 => repeat (first | exact (Kd.C_below HR349_3.out HB.out) | (with_reducible refine Kd.C_alloc ?_ _) | (with_reducible refine Kd.C_drewN ?_ _) | (with_reducible refine Kd.C_drew ?_))); (case side2 => exact HC349_3.out); (case side3 => repeat (first | exact (Kd.C_below HR1.out HB.out) | (with_reducible refine Kd.C_alloc ?_ _) | (with_reducible refine Kd.C_drewN ?_ _) | (with_reducible refine Kd.C_drew ?_))); (case side4 => exact HC1.out); rintro e w45 ⟨rfl, hb⟩; refine ⟨_, rfl, ?_⟩; have n0_ := Aside0.mk (blk_below (g := gb342) (o := .cells #[.int .i64 a0_0, .int .i64 a0_1, .string a0_2, .slice (some ad346) l0_3.length c0_3] 24 (0, 0)) (by (with_reducible repeat (first | refine blk_drewN ?_ _ | refine blk_drew ?_ | refine blk_alloc ?_ _)); exact BK342.out) hb); have n1_ := Aside0.mk (below_step (by repeat (first | (with_reducible first | exact HB.out | apply below_alloc | apply pw_below_drewN | apply below_drew1 | refine below_set ?_ GE342.out) | exact HB.out)) hb); clear BK342; clear HB; have BK342 := n0_; have HB := n1_; clear n0_ n1_; (try clear hb); (try clear hb2); (try clear hk); (try clear hi); have hcz46_0 : w45.cell? ⟨gb342, 0, none⟩ = some (.int .i64 a0_0) := (blk_cell BK342.out 0).trans rfl; have hcz46_1 : w45.cell? ⟨gb342, 1, none⟩ = some (.int .i64 a0_1) := (blk_cell BK342.out 1).trans rfl; have hcz46_2 : w45.cell? ⟨gb342, 2, none⟩ = some (.string a0_2) := (blk_cell BK342.out 2).trans rfl; have hcz46_3 : w45.cell? ⟨gb342, 3, none⟩ = some (.slice (some ad346) l0_3.length c0_3) := (blk_cell BK342.out 3).trans rfl; have hfz46_0 := blk_frozen BK342.out 0; have hfz46_1 := blk_frozen BK342.out 1; have hfz46_2 := blk_frozen BK342.out 2; have hfz46_3 := blk_frozen BK342.out 3) | ((with_reducible refine gate_callee (f := 60) rfl ?_); refine goesL_ (some 87) rfl rfl Tryd.func60 (by kernel_rfl) rfl #[.int .i64 (wrap64 (t347 - t350))] rfl (by (try simp only [List.map_toArray, List.map_cons, List.map_nil]); first | done | rfl | (simp only [List.length_drop, List.length_take]; rfl)) ?_; (with_reducible refine (sawmillref43_number.calls (wrap64 (t347 - t350)) t354 t355 _ A43.out).mono ?_); rintro e w' ⟨rfl, ⟨nd, rfl⟩⟩; refine ⟨_, rfl, ?_⟩))
                          go_ret2
                          exact ⟨by first | rfl | (simp [errW_none, errW_some] <;> rfl) | (simp [*, errW_none, errW_some] <;> rfl), by repeat (first | (with_reducible first | exact HB.out | apply below_alloc | apply pw_below_drewN | apply below_drew1 | refine below_set ?_ GE342.out) | exact HB.out)⟩
                        · rw [if_neg c42] at H
                          have c42b0 : (a0_0 == 4) = false := beq_eq_false_iff_ne.mpr c42
                          have c42b1 : (a0_0 != 4) = true := bne_iff_ne.mpr c42
                          by_cases c47 : a0_0 = 5
                          · rw [if_pos c47] at H
                            have c47b0 : (a0_0 == 5) = true := beq_iff_eq.mpr c47
                            have c47b1 : (a0_0 != 5) = false := bne_eq_false_iff_eq.mpr c47
                            clear c47
                            replace H := Option.bind_eq_some_iff.mp H
                            obtain ⟨⟨t356, t357⟩, A480, H⟩ := H
                            replace H : (if t357 = true then (some (t356, 0)) else (some (0, 9))) = some (r1, r2) := H
                            have A48 := Aside0.mk A480
                            clear A480
                            by_cases c49 : t357 = true
                            · subst c49
                              have H1 : (some (t356, 0)) = some (r1, r2) := by rw [if_pos rfl] at H; exact H
                              clear H
                              have H := H1
                              clear H1
                              simp only [Option.some.injEq, Prod.mk.injEq] at H
                              obtain ⟨rfl, rfl⟩ := H
                              have hcz50_0 : wc.cell? ⟨gb342, 0, none⟩ = some (.int .i64 a0_0) := (blk_cell BK342.out 0).trans rfl
                              have hcz50_1 : wc.cell? ⟨gb342, 1, none⟩ = some (.int .i64 a0_1) := (blk_cell BK342.out 1).trans rfl
                              have hcz50_2 : wc.cell? ⟨gb342, 2, none⟩ = some (.string a0_2) := (blk_cell BK342.out 2).trans rfl
                              have hcz50_3 : wc.cell? ⟨gb342, 3, none⟩ = some (.slice (some ad346) l0_3.length c0_3) := (blk_cell BK342.out 3).trans rfl
                              have hfz50_0 := blk_frozen BK342.out 0
                              have hfz50_1 := blk_frozen BK342.out 1
                              have hfz50_2 := blk_frozen BK342.out 2
                              have hfz50_3 := blk_frozen BK342.out 3
                              have p349 : 0 ≤ (1 : Int) := (by omega)
                              have q349 : 1 < (l0_3.length : Int) := of_decide_eq_true (by first | (with_reducible assumption) | assumption)
                              obtain ⟨ad349, A349_3, c349_3, e349, hx349_0, hx349_1, hx349_2, hx349_3, hl349_3, hi349_3⟩ := at_T24 HR0_3.out 1 p349 q349
                              obtain rfl : ad346 = ad349 := (by injection e349)
                              (try simp only [show (1 : Int).toNat = 1 from rfl, Nat.reduceMul, Nat.reduceEqDiff, Go.Addr.add, ↓reduceIte] at hx349_0)
                              (try simp only [show (1 : Int).toNat = 1 from rfl, Nat.reduceMul, Nat.reduceEqDiff, Go.Addr.add, ↓reduceIte] at hx349_1)
                              (try simp only [show (1 : Int).toNat = 1 from rfl, Nat.reduceMul, Nat.reduceEqDiff, Go.Addr.add, ↓reduceIte] at hx349_2)
                              (try simp only [show (1 : Int).toNat = 1 from rfl, Nat.reduceMul, Nat.reduceEqDiff, Go.Addr.add, ↓reduceIte] at hx349_3)
                              have qi349 : (1 < l0_3.length) = True := eq_true (by omega)
                              (try rw [show ((1 : Int)).toNat = 1 from rfl] at hx349_0)
                              (try rw [show 1 * 4 = 4 from rfl] at hx349_0)
                              (try rw [show ((1 : Int)).toNat = 1 from rfl] at hx349_1)
                              (try rw [show 1 * 4 = 4 from rfl] at hx349_1)
                              (try rw [show ((1 : Int)).toNat = 1 from rfl] at hx349_2)
                              (try rw [show 1 * 4 = 4 from rfl] at hx349_2)
                              (try rw [show ((1 : Int)).toNat = 1 from rfl] at hx349_3)
                              (try rw [show 1 * 4 = 4 from rfl] at hx349_3)
                              replace hx349_0 := (HB.out.cell (World.block_lt_of_cell? w _ hx349_0)).trans hx349_0
                              replace hx349_1 := (HB.out.cell (World.block_lt_of_cell? w _ hx349_1)).trans hx349_1
                              replace hx349_2 := (HB.out.cell (World.block_lt_of_cell? w _ hx349_2)).trans hx349_2
                              replace hx349_3 := (HB.out.cell (World.block_lt_of_cell? w _ hx349_3)).trans hx349_3
                              have HR349_3 := Aside0.mk hi349_3
                              have HC349_3 := Aside0.mk hl349_3
                              clear hi349_3 hl349_3
                              replace p349 := eq_true p349
                              replace q349 := eq_true q349
                              go_wp2_with (first | ((with_reducible refine gate_callee (f := 44) rfl ?_); refine goesL_ (some 66) rfl rfl Tryd.func44 (by kernel_rfl) rfl #[.agg #[.int .i64 ((rd_T24 l0_3 1).f0), .int .i64 ((rd_T24 l0_3 1).f1), .string ((rd_T24 l0_3 1).f2), .slice A349_3 ((rd_T24 l0_3 1).f3).length c349_3], .slice A1 l1.length c1] rfl (by (try simp only [List.map_toArray, List.map_cons, List.map_nil]); first | done | rfl | (simp only [List.length_drop, List.length_take]; rfl)) ?_; (with_reducible refine (ih kj18 (by have := HJ18.out; omega) ((rd_T24 l0_3 1).f0) ((rd_T24 l0_3 1).f1) ((rd_T24 l0_3 1).f2) _ _ ((rd_T24 l0_3 1).f3) _ _ l1 t350 t351 _ ?side1 ?side2 ?side3 ?side4 A35.out).mono ?_); (case side1 => repeat (first | exact (Kd.C_below HR349_3.out HB.out) | (with_reducible refine Kd.C_alloc ?_ _) | (with_reducible refine Kd.C_drewN ?_ _) | (with_reducible refine Kd.C_drew ?_))); (case side2 => exact HC349_3.out); (case side3 => repeat (first | exact (Kd.C_below HR1.out HB.out) | (with_reducible refine Kd.C_alloc ?_ _) | (with_reducible refine Kd.C_drewN ?_ _) | (with_reducible refine Kd.C_drew ?_))); (case side4 => exact HC1.out); rintro e w51 ⟨rfl, hb⟩; refine ⟨_, rfl, ?_⟩; have n0_ := Aside0.mk (blk_below (g := gb342) (o := .cells #[.int .i64 a0_0, .int .i64 a0_1, .string a0_2, .slice (some ad346) l0_3.length c0_3] 24 (0, 0)) (by (with_reducible repeat (first | refine blk_drewN ?_ _ | refine blk_drew ?_ | refine blk_alloc ?_ _)); exact BK342.out) hb); have n1_ := Aside0.mk (below_step (by repeat (first | (with_reducible first | exact HB.out | apply below_alloc | apply pw_below_drewN | apply below_drew1 | refine below_set ?_ GE342.out) | exact HB.out)) hb); clear BK342; clear HB; have BK342 := n0_; have HB := n1_; clear n0_ n1_; (try clear hb); (try clear hb2); (try clear hk); (try clear hi); have hcz52_0 : w51.cell? ⟨gb342, 0, none⟩ = some (.int .i64 a0_0) := (blk_cell BK342.out 0).trans rfl; have hcz52_1 : w51.cell? ⟨gb342, 1, none⟩ = some (.int .i64 a0_1) := (blk_cell BK342.out 1).trans rfl; have hcz52_2 : w51.cell? ⟨gb342, 2, none⟩ = some (.string a0_2) := (blk_cell BK342.out 2).trans rfl; have hcz52_3 : w51.cell? ⟨gb342, 3, none⟩ = some (.slice (some ad346) l0_3.length c0_3) := (blk_cell BK342.out 3).trans rfl; have hfz52_0 := blk_frozen BK342.out 0; have hfz52_1 := blk_frozen BK342.out 1; have hfz52_2 := blk_frozen BK342.out 2; have hfz52_3 := blk_frozen BK342.out 3) | ((with_reducible refine gate_callee (f := 62) rfl ?_); refine goesL_ (some 95) rfl rfl Tryd.func62 (by kernel_rfl) rfl #[.int .i64 t347, .int .i64 t350] rfl (by (try simp only [List.map_toArray, List.map_cons, List.map_nil]); first | done | rfl | (simp only [List.length_drop, List.length_take]; rfl)) ?_; (with_reducible refine (sawmillref43_product.calls kj18 t347 t350 t356 true _ A48.out).mono ?_); rintro e w53 ⟨rfl, hb⟩; refine ⟨_, rfl, ?_⟩; have n0_ := Aside0.mk (blk_below (g := gb342) (o := .cells #[.int .i64 a0_0, .int .i64 a0_1, .string a0_2, .slice (some ad346) l0_3.length c0_3] 24 (0, 0)) (by (with_reducible repeat (first | refine blk_drewN ?_ _ | refine blk_drew ?_ | refine blk_alloc ?_ _)); exact BK342.out) hb); have n1_ := Aside0.mk (below_step (by repeat (first | (with_reducible first | exact HB.out | apply below_alloc | apply pw_below_drewN | apply below_drew1 | refine below_set ?_ GE342.out) | exact HB.out)) hb); clear BK342; clear HB; have BK342 := n0_; have HB := n1_; clear n0_ n1_; (try clear hb); (try clear hb2); (try clear hk); (try clear hi)))
                              go_ret2
                              exact ⟨by first | rfl | (simp [errW_none, errW_some] <;> rfl) | (simp [*, errW_none, errW_some] <;> rfl), by repeat (first | (with_reducible first | exact HB.out | apply below_alloc | apply pw_below_drewN | apply below_drew1 | refine below_set ?_ GE342.out) | exact HB.out)⟩
                            · replace c49 := Bool.eq_false_iff.mpr c49
                              subst c49
                              have H1 : (some (0, 9)) = some (r1, r2) := by rw [if_neg (show ¬ (false = true) by decide)] at H; exact H
                              clear H
                              have H := H1
                              clear H1
                              simp only [Option.some.injEq, Prod.mk.injEq] at H
                              obtain ⟨rfl, rfl⟩ := H
                              have hcz54_0 : wc.cell? ⟨gb342, 0, none⟩ = some (.int .i64 a0_0) := (blk_cell BK342.out 0).trans rfl
                              have hcz54_1 : wc.cell? ⟨gb342, 1, none⟩ = some (.int .i64 a0_1) := (blk_cell BK342.out 1).trans rfl
                              have hcz54_2 : wc.cell? ⟨gb342, 2, none⟩ = some (.string a0_2) := (blk_cell BK342.out 2).trans rfl
                              have hcz54_3 : wc.cell? ⟨gb342, 3, none⟩ = some (.slice (some ad346) l0_3.length c0_3) := (blk_cell BK342.out 3).trans rfl
                              have hfz54_0 := blk_frozen BK342.out 0
                              have hfz54_1 := blk_frozen BK342.out 1
                              have hfz54_2 := blk_frozen BK342.out 2
                              have hfz54_3 := blk_frozen BK342.out 3
                              have p349 : 0 ≤ (1 : Int) := (by omega)
                              have q349 : 1 < (l0_3.length : Int) := of_decide_eq_true (by first | (with_reducible assumption) | assumption)
                              obtain ⟨ad349, A349_3, c349_3, e349, hx349_0, hx349_1, hx349_2, hx349_3, hl349_3, hi349_3⟩ := at_T24 HR0_3.out 1 p349 q349
                              obtain rfl : ad346 = ad349 := (by injection e349)
                              (try simp only [show (1 : Int).toNat = 1 from rfl, Nat.reduceMul, Nat.reduceEqDiff, Go.Addr.add, ↓reduceIte] at hx349_0)
                              (try simp only [show (1 : Int).toNat = 1 from rfl, Nat.reduceMul, Nat.reduceEqDiff, Go.Addr.add, ↓reduceIte] at hx349_1)
                              (try simp only [show (1 : Int).toNat = 1 from rfl, Nat.reduceMul, Nat.reduceEqDiff, Go.Addr.add, ↓reduceIte] at hx349_2)
                              (try simp only [show (1 : Int).toNat = 1 from rfl, Nat.reduceMul, Nat.reduceEqDiff, Go.Addr.add, ↓reduceIte] at hx349_3)
                              have qi349 : (1 < l0_3.length) = True := eq_true (by omega)
                              (try rw [show ((1 : Int)).toNat = 1 from rfl] at hx349_0)
                              (try rw [show 1 * 4 = 4 from rfl] at hx349_0)
                              (try rw [show ((1 : Int)).toNat = 1 from rfl] at hx349_1)
                              (try rw [show 1 * 4 = 4 from rfl] at hx349_1)
                              (try rw [show ((1 : Int)).toNat = 1 from rfl] at hx349_2)
                              (try rw [show 1 * 4 = 4 from rfl] at hx349_2)
                              (try rw [show ((1 : Int)).toNat = 1 from rfl] at hx349_3)
                              (try rw [show 1 * 4 = 4 from rfl] at hx349_3)
                              replace hx349_0 := (HB.out.cell (World.block_lt_of_cell? w _ hx349_0)).trans hx349_0
                              replace hx349_1 := (HB.out.cell (World.block_lt_of_cell? w _ hx349_1)).trans hx349_1
                              replace hx349_2 := (HB.out.cell (World.block_lt_of_cell? w _ hx349_2)).trans hx349_2
                              replace hx349_3 := (HB.out.cell (World.block_lt_of_cell? w _ hx349_3)).trans hx349_3
                              have HR349_3 := Aside0.mk hi349_3
                              have HC349_3 := Aside0.mk hl349_3
                              clear hi349_3 hl349_3
                              replace p349 := eq_true p349
                              replace q349 := eq_true q349
                              go_wp2_with (first | ((with_reducible refine gate_callee (f := 44) rfl ?_); refine goesL_ (some 66) rfl rfl Tryd.func44 (by kernel_rfl) rfl #[.agg #[.int .i64 ((rd_T24 l0_3 1).f0), .int .i64 ((rd_T24 l0_3 1).f1), .string ((rd_T24 l0_3 1).f2), .slice A349_3 ((rd_T24 l0_3 1).f3).length c349_3], .slice A1 l1.length c1] rfl (by (try simp only [List.map_toArray, List.map_cons, List.map_nil]); first | done | rfl | (simp only [List.length_drop, List.length_take]; rfl)) ?_; (with_reducible refine (ih kj18 (by have := HJ18.out; omega) ((rd_T24 l0_3 1).f0) ((rd_T24 l0_3 1).f1) ((rd_T24 l0_3 1).f2) _ _ ((rd_T24 l0_3 1).f3) _ _ l1 t350 t351 _ ?side1 ?side2 ?side3 ?side4 A35.out).mono ?_); (case side1 => repeat (first | exact (Kd.C_below HR349_3.out HB.out) | (with_reducible refine Kd.C_alloc ?_ _) | (with_reducible refine Kd.C_drewN ?_ _) | (with_reducible refine Kd.C_drew ?_))); (case side2 => exact HC349_3.out); (case side3 => repeat (first | exact (Kd.C_below HR1.out HB.out) | (with_reducible refine Kd.C_alloc ?_ _) | (with_reducible refine Kd.C_drewN ?_ _) | (with_reducible refine Kd.C_drew ?_))); (case side4 => exact HC1.out); rintro e w55 ⟨rfl, hb⟩; refine ⟨_, rfl, ?_⟩; have n0_ := Aside0.mk (blk_below (g := gb342) (o := .cells #[.int .i64 a0_0, .int .i64 a0_1, .string a0_2, .slice (some ad346) l0_3.length c0_3] 24 (0, 0)) (by (with_reducible repeat (first | refine blk_drewN ?_ _ | refine blk_drew ?_ | refine blk_alloc ?_ _)); exact BK342.out) hb); have n1_ := Aside0.mk (below_step (by repeat (first | (with_reducible first | exact HB.out | apply below_alloc | apply pw_below_drewN | apply below_drew1 | refine below_set ?_ GE342.out) | exact HB.out)) hb); clear BK342; clear HB; have BK342 := n0_; have HB := n1_; clear n0_ n1_; (try clear hb); (try clear hb2); (try clear hk); (try clear hi); have hcz56_0 : w55.cell? ⟨gb342, 0, none⟩ = some (.int .i64 a0_0) := (blk_cell BK342.out 0).trans rfl; have hcz56_1 : w55.cell? ⟨gb342, 1, none⟩ = some (.int .i64 a0_1) := (blk_cell BK342.out 1).trans rfl; have hcz56_2 : w55.cell? ⟨gb342, 2, none⟩ = some (.string a0_2) := (blk_cell BK342.out 2).trans rfl; have hcz56_3 : w55.cell? ⟨gb342, 3, none⟩ = some (.slice (some ad346) l0_3.length c0_3) := (blk_cell BK342.out 3).trans rfl; have hfz56_0 := blk_frozen BK342.out 0; have hfz56_1 := blk_frozen BK342.out 1; have hfz56_2 := blk_frozen BK342.out 2; have hfz56_3 := blk_frozen BK342.out 3) | ((with_reducible refine gate_callee (f := 62) rfl ?_); refine goesL_ (some 95) rfl rfl Tryd.func62 (by kernel_rfl) rfl #[.int .i64 t347, .int .i64 t350] rfl (by (try simp only [List.map_toArray, List.map_cons, List.map_nil]); first | done | rfl | (simp only [List.length_drop, List.length_take]; rfl)) ?_; (with_reducible refine (sawmillref43_product.calls kj18 t347 t350 t356 false _ A48.out).mono ?_); rintro e w57 ⟨rfl, hb⟩; refine ⟨_, rfl, ?_⟩; have n0_ := Aside0.mk (blk_below (g := gb342) (o := .cells #[.int .i64 a0_0, .int .i64 a0_1, .string a0_2, .slice (some ad346) l0_3.length c0_3] 24 (0, 0)) (by (with_reducible repeat (first | refine blk_drewN ?_ _ | refine blk_drew ?_ | refine blk_alloc ?_ _)); exact BK342.out) hb); have n1_ := Aside0.mk (below_step (by repeat (first | (with_reducible first | exact HB.out | apply below_alloc | apply pw_below_drewN | apply below_drew1 | refine below_set ?_ GE342.out) | exact HB.out)) hb); clear BK342; clear HB; have BK342 := n0_; have HB := n1_; clear n0_ n1_; (try clear hb); (try clear hb2); (try clear hk); (try clear hi)))
                              go_ret2
                              exact ⟨by first | rfl | (simp [errW_none, errW_some] <;> rfl) | (simp [*, errW_none, errW_some] <;> rfl), by repeat (first | (with_reducible first | exact HB.out | apply below_alloc | apply pw_below_drewN | apply below_drew1 | refine below_set ?_ GE342.out) | exact HB.out)⟩
                          · rw [if_neg c47] at H
                            have c47b0 : (a0_0 == 5) = false := beq_eq_false_iff_ne.mpr c47
                            have c47b1 : (a0_0 != 5) = true := bne_iff_ne.mpr c47
                            by_cases c58 : a0_0 = 6
                            · rw [if_pos c58] at H
                              have c58b0 : (a0_0 == 6) = true := beq_iff_eq.mpr c58
                              have c58b1 : (a0_0 != 6) = false := bne_eq_false_iff_eq.mpr c58
                              clear c58
                              replace H := Option.bind_eq_some_iff.mp H
                              obtain ⟨t358, A590, H⟩ := H
                              replace H : (some (t358, 0)) = some (r1, r2) := H
                              have A59 := Aside0.mk A590
                              clear A590
                              simp only [Option.some.injEq, Prod.mk.injEq] at H
                              obtain ⟨rfl, rfl⟩ := H
                              have hcz60_0 : wc.cell? ⟨gb342, 0, none⟩ = some (.int .i64 a0_0) := (blk_cell BK342.out 0).trans rfl
                              have hcz60_1 : wc.cell? ⟨gb342, 1, none⟩ = some (.int .i64 a0_1) := (blk_cell BK342.out 1).trans rfl
                              have hcz60_2 : wc.cell? ⟨gb342, 2, none⟩ = some (.string a0_2) := (blk_cell BK342.out 2).trans rfl
                              have hcz60_3 : wc.cell? ⟨gb342, 3, none⟩ = some (.slice (some ad346) l0_3.length c0_3) := (blk_cell BK342.out 3).trans rfl
                              have hfz60_0 := blk_frozen BK342.out 0
                              have hfz60_1 := blk_frozen BK342.out 1
                              have hfz60_2 := blk_frozen BK342.out 2
                              have hfz60_3 := blk_frozen BK342.out 3
                              have p349 : 0 ≤ (1 : Int) := (by omega)
                              have q349 : 1 < (l0_3.length : Int) := of_decide_eq_true (by first | (with_reducible assumption) | assumption)
                              obtain ⟨ad349, A349_3, c349_3, e349, hx349_0, hx349_1, hx349_2, hx349_3, hl349_3, hi349_3⟩ := at_T24 HR0_3.out 1 p349 q349
                              obtain rfl : ad346 = ad349 := (by injection e349)
                              (try simp only [show (1 : Int).toNat = 1 from rfl, Nat.reduceMul, Nat.reduceEqDiff, Go.Addr.add, ↓reduceIte] at hx349_0)
                              (try simp only [show (1 : Int).toNat = 1 from rfl, Nat.reduceMul, Nat.reduceEqDiff, Go.Addr.add, ↓reduceIte] at hx349_1)
                              (try simp only [show (1 : Int).toNat = 1 from rfl, Nat.reduceMul, Nat.reduceEqDiff, Go.Addr.add, ↓reduceIte] at hx349_2)
                              (try simp only [show (1 : Int).toNat = 1 from rfl, Nat.reduceMul, Nat.reduceEqDiff, Go.Addr.add, ↓reduceIte] at hx349_3)
                              have qi349 : (1 < l0_3.length) = True := eq_true (by omega)
                              (try rw [show ((1 : Int)).toNat = 1 from rfl] at hx349_0)
                              (try rw [show 1 * 4 = 4 from rfl] at hx349_0)
                              (try rw [show ((1 : Int)).toNat = 1 from rfl] at hx349_1)
                              (try rw [show 1 * 4 = 4 from rfl] at hx349_1)
                              (try rw [show ((1 : Int)).toNat = 1 from rfl] at hx349_2)
                              (try rw [show 1 * 4 = 4 from rfl] at hx349_2)
                              (try rw [show ((1 : Int)).toNat = 1 from rfl] at hx349_3)
                              (try rw [show 1 * 4 = 4 from rfl] at hx349_3)
                              replace hx349_0 := (HB.out.cell (World.block_lt_of_cell? w _ hx349_0)).trans hx349_0
                              replace hx349_1 := (HB.out.cell (World.block_lt_of_cell? w _ hx349_1)).trans hx349_1
                              replace hx349_2 := (HB.out.cell (World.block_lt_of_cell? w _ hx349_2)).trans hx349_2
                              replace hx349_3 := (HB.out.cell (World.block_lt_of_cell? w _ hx349_3)).trans hx349_3
                              have HR349_3 := Aside0.mk hi349_3
                              have HC349_3 := Aside0.mk hl349_3
                              clear hi349_3 hl349_3
                              replace p349 := eq_true p349
                              replace q349 := eq_true q349
                              go_wp2_with (first | ((with_reducible refine gate_callee (f := 44) rfl ?_); refine goesL_ (some 66) rfl rfl Tryd.func44 (by kernel_rfl) rfl #[.agg #[.int .i64 ((rd_T24 l0_3 1).f0), .int .i64 ((rd_T24 l0_3 1).f1), .string ((rd_T24 l0_3 1).f2), .slice A349_3 ((rd_T24 l0_3 1).f3).length c349_3], .slice A1 l1.length c1] rfl (by (try simp only [List.map_toArray, List.map_cons, List.map_nil]); first | done | rfl | (simp only [List.length_drop, List.length_take]; rfl)) ?_; (with_reducible refine (ih kj18 (by have := HJ18.out; omega) ((rd_T24 l0_3 1).f0) ((rd_T24 l0_3 1).f1) ((rd_T24 l0_3 1).f2) _ _ ((rd_T24 l0_3 1).f3) _ _ l1 t350 t351 _ ?side1 ?side2 ?side3 ?side4 A35.out).mono ?_); (case side1 => repeat (first | exact (Kd.C_below HR349_3.out HB.out) | (with_reducible refine Kd.C_alloc ?_ _) | (with_reducible refine Kd.C_drewN ?_ _) | (with_reducible refine Kd.C_drew ?_))); (case side2 => exact HC349_3.out); (case side3 => repeat (first | exact (Kd.C_below HR1.out HB.out) | (with_reducible refine Kd.C_alloc ?_ _) | (with_reducible refine Kd.C_drewN ?_ _) | (with_reducible refine Kd.C_drew ?_))); (case side4 => exact HC1.out); rintro e w61 ⟨rfl, hb⟩; refine ⟨_, rfl, ?_⟩; have n0_ := Aside0.mk (blk_below (g := gb342) (o := .cells #[.int .i64 a0_0, .int .i64 a0_1, .string a0_2, .slice (some ad346) l0_3.length c0_3] 24 (0, 0)) (by (with_reducible repeat (first | refine blk_drewN ?_ _ | refine blk_drew ?_ | refine blk_alloc ?_ _)); exact BK342.out) hb); have n1_ := Aside0.mk (below_step (by repeat (first | (with_reducible first | exact HB.out | apply below_alloc | apply pw_below_drewN | apply below_drew1 | refine below_set ?_ GE342.out) | exact HB.out)) hb); clear BK342; clear HB; have BK342 := n0_; have HB := n1_; clear n0_ n1_; (try clear hb); (try clear hb2); (try clear hk); (try clear hi); have hcz62_0 : w61.cell? ⟨gb342, 0, none⟩ = some (.int .i64 a0_0) := (blk_cell BK342.out 0).trans rfl; have hcz62_1 : w61.cell? ⟨gb342, 1, none⟩ = some (.int .i64 a0_1) := (blk_cell BK342.out 1).trans rfl; have hcz62_2 : w61.cell? ⟨gb342, 2, none⟩ = some (.string a0_2) := (blk_cell BK342.out 2).trans rfl; have hcz62_3 : w61.cell? ⟨gb342, 3, none⟩ = some (.slice (some ad346) l0_3.length c0_3) := (blk_cell BK342.out 3).trans rfl; have hfz62_0 := blk_frozen BK342.out 0; have hfz62_1 := blk_frozen BK342.out 1; have hfz62_2 := blk_frozen BK342.out 2; have hfz62_3 := blk_frozen BK342.out 3) | ((with_reducible refine gate_callee (f := 63) rfl ?_); refine goesL_ (some 106) rfl rfl Tryd.func63 (by kernel_rfl) rfl #[.bool (t347 == t350)] rfl (by (try simp only [List.map_toArray, List.map_cons, List.map_nil]); first | done | rfl | (simp only [List.length_drop, List.length_take]; rfl)) ?_; (with_reducible refine (sawmillref43_bit.calls (t347 == t350) t358 _ A59.out).mono ?_); rintro e w' ⟨rfl, ⟨nd, rfl⟩⟩; refine ⟨_, rfl, ?_⟩))
                              go_ret2
                              exact ⟨by first | rfl | (simp [errW_none, errW_some] <;> rfl) | (simp [*, errW_none, errW_some] <;> rfl), by repeat (first | (with_reducible first | exact HB.out | apply below_alloc | apply pw_below_drewN | apply below_drew1 | refine below_set ?_ GE342.out) | exact HB.out)⟩
                            · rw [if_neg c58] at H
                              have c58b0 : (a0_0 == 6) = false := beq_eq_false_iff_ne.mpr c58
                              have c58b1 : (a0_0 != 6) = true := bne_iff_ne.mpr c58
                              by_cases c63 : a0_0 = 7
                              · rw [if_pos c63] at H
                                have c63b0 : (a0_0 == 7) = true := beq_iff_eq.mpr c63
                                have c63b1 : (a0_0 != 7) = false := bne_eq_false_iff_eq.mpr c63
                                clear c63
                                replace H := Option.bind_eq_some_iff.mp H
                                obtain ⟨t359, A640, H⟩ := H
                                replace H : (some (t359, 0)) = some (r1, r2) := H
                                have A64 := Aside0.mk A640
                                clear A640
                                simp only [Option.some.injEq, Prod.mk.injEq] at H
                                obtain ⟨rfl, rfl⟩ := H
                                have hcz65_0 : wc.cell? ⟨gb342, 0, none⟩ = some (.int .i64 a0_0) := (blk_cell BK342.out 0).trans rfl
                                have hcz65_1 : wc.cell? ⟨gb342, 1, none⟩ = some (.int .i64 a0_1) := (blk_cell BK342.out 1).trans rfl
                                have hcz65_2 : wc.cell? ⟨gb342, 2, none⟩ = some (.string a0_2) := (blk_cell BK342.out 2).trans rfl
                                have hcz65_3 : wc.cell? ⟨gb342, 3, none⟩ = some (.slice (some ad346) l0_3.length c0_3) := (blk_cell BK342.out 3).trans rfl
                                have hfz65_0 := blk_frozen BK342.out 0
                                have hfz65_1 := blk_frozen BK342.out 1
                                have hfz65_2 := blk_frozen BK342.out 2
                                have hfz65_3 := blk_frozen BK342.out 3
                                have p349 : 0 ≤ (1 : Int) := (by omega)
                                have q349 : 1 < (l0_3.length : Int) := of_decide_eq_true (by first | (with_reducible assumption) | assumption)
                                obtain ⟨ad349, A349_3, c349_3, e349, hx349_0, hx349_1, hx349_2, hx349_3, hl349_3, hi349_3⟩ := at_T24 HR0_3.out 1 p349 q349
                                obtain rfl : ad346 = ad349 := (by injection e349)
                                (try simp only [show (1 : Int).toNat = 1 from rfl, Nat.reduceMul, Nat.reduceEqDiff, Go.Addr.add, ↓reduceIte] at hx349_0)
                                (try simp only [show (1 : Int).toNat = 1 from rfl, Nat.reduceMul, Nat.reduceEqDiff, Go.Addr.add, ↓reduceIte] at hx349_1)
                                (try simp only [show (1 : Int).toNat = 1 from rfl, Nat.reduceMul, Nat.reduceEqDiff, Go.Addr.add, ↓reduceIte] at hx349_2)
                                (try simp only [show (1 : Int).toNat = 1 from rfl, Nat.reduceMul, Nat.reduceEqDiff, Go.Addr.add, ↓reduceIte] at hx349_3)
                                have qi349 : (1 < l0_3.length) = True := eq_true (by omega)
                                (try rw [show ((1 : Int)).toNat = 1 from rfl] at hx349_0)
                                (try rw [show 1 * 4 = 4 from rfl] at hx349_0)
                                (try rw [show ((1 : Int)).toNat = 1 from rfl] at hx349_1)
                                (try rw [show 1 * 4 = 4 from rfl] at hx349_1)
                                (try rw [show ((1 : Int)).toNat = 1 from rfl] at hx349_2)
                                (try rw [show 1 * 4 = 4 from rfl] at hx349_2)
                                (try rw [show ((1 : Int)).toNat = 1 from rfl] at hx349_3)
                                (try rw [show 1 * 4 = 4 from rfl] at hx349_3)
                                replace hx349_0 := (HB.out.cell (World.block_lt_of_cell? w _ hx349_0)).trans hx349_0
                                replace hx349_1 := (HB.out.cell (World.block_lt_of_cell? w _ hx349_1)).trans hx349_1
                                replace hx349_2 := (HB.out.cell (World.block_lt_of_cell? w _ hx349_2)).trans hx349_2
                                replace hx349_3 := (HB.out.cell (World.block_lt_of_cell? w _ hx349_3)).trans hx349_3
                                have HR349_3 := Aside0.mk hi349_3
                                have HC349_3 := Aside0.mk hl349_3
                                clear hi349_3 hl349_3
                                replace p349 := eq_true p349
                                replace q349 := eq_true q349
                                go_wp2_with (first | ((with_reducible refine gate_callee (f := 44) rfl ?_); refine goesL_ (some 66) rfl rfl Tryd.func44 (by kernel_rfl) rfl #[.agg #[.int .i64 ((rd_T24 l0_3 1).f0), .int .i64 ((rd_T24 l0_3 1).f1), .string ((rd_T24 l0_3 1).f2), .slice A349_3 ((rd_T24 l0_3 1).f3).length c349_3], .slice A1 l1.length c1] rfl (by (try simp only [List.map_toArray, List.map_cons, List.map_nil]); first | done | rfl | (simp only [List.length_drop, List.length_take]; rfl)) ?_; (with_reducible refine (ih kj18 (by have := HJ18.out; omega) ((rd_T24 l0_3 1).f0) ((rd_T24 l0_3 1).f1) ((rd_T24 l0_3 1).f2) _ _ ((rd_T24 l0_3 1).f3) _ _ l1 t350 t351 _ ?side1 ?side2 ?side3 ?side4 A35.out).mono ?_); (case side1 => repeat (first | exact (Kd.C_below HR349_3.out HB.out) | (with_reducible refine Kd.C_alloc ?_ _) | (with_reducible refine Kd.C_drewN ?_ _) | (with_reducible refine Kd.C_drew ?_))); (case side2 => exact HC349_3.out); (case side3 => repeat (first | exact (Kd.C_below HR1.out HB.out) | (with_reducible refine Kd.C_alloc ?_ _) | (with_reducible refine Kd.C_drewN ?_ _) | (with_reducible refine Kd.C_drew ?_))); (case side4 => exact HC1.out); rintro e w66 ⟨rfl, hb⟩; refine ⟨_, rfl, ?_⟩; have n0_ := Aside0.mk (blk_below (g := gb342) (o := .cells #[.int .i64 a0_0, .int .i64 a0_1, .string a0_2, .slice (some ad346) l0_3.length c0_3] 24 (0, 0)) (by (with_reducible repeat (first | refine blk_drewN ?_ _ | refine blk_drew ?_ | refine blk_alloc ?_ _)); exact BK342.out) hb); have n1_ := Aside0.mk (below_step (by repeat (first | (with_reducible first | exact HB.out | apply below_alloc | apply pw_below_drewN | apply below_drew1 | refine below_set ?_ GE342.out) | exact HB.out)) hb); clear BK342; clear HB; have BK342 := n0_; have HB := n1_; clear n0_ n1_; (try clear hb); (try clear hb2); (try clear hk); (try clear hi); have hcz67_0 : w66.cell? ⟨gb342, 0, none⟩ = some (.int .i64 a0_0) := (blk_cell BK342.out 0).trans rfl; have hcz67_1 : w66.cell? ⟨gb342, 1, none⟩ = some (.int .i64 a0_1) := (blk_cell BK342.out 1).trans rfl; have hcz67_2 : w66.cell? ⟨gb342, 2, none⟩ = some (.string a0_2) := (blk_cell BK342.out 2).trans rfl; have hcz67_3 : w66.cell? ⟨gb342, 3, none⟩ = some (.slice (some ad346) l0_3.length c0_3) := (blk_cell BK342.out 3).trans rfl; have hfz67_0 := blk_frozen BK342.out 0; have hfz67_1 := blk_frozen BK342.out 1; have hfz67_2 := blk_frozen BK342.out 2; have hfz67_3 := blk_frozen BK342.out 3) | ((with_reducible refine gate_callee (f := 63) rfl ?_); refine goesL_ (some 112) rfl rfl Tryd.func63 (by kernel_rfl) rfl #[.bool (decide (t347 < t350))] rfl (by (try simp only [List.map_toArray, List.map_cons, List.map_nil]); first | done | rfl | (simp only [List.length_drop, List.length_take]; rfl)) ?_; (with_reducible refine (sawmillref43_bit.calls (decide (t347 < t350)) t359 _ A64.out).mono ?_); rintro e w' ⟨rfl, ⟨nd, rfl⟩⟩; refine ⟨_, rfl, ?_⟩))
                                go_ret2
                                exact ⟨by first | rfl | (simp [errW_none, errW_some] <;> rfl) | (simp [*, errW_none, errW_some] <;> rfl), by repeat (first | (with_reducible first | exact HB.out | apply below_alloc | apply pw_below_drewN | apply below_drew1 | refine below_set ?_ GE342.out) | exact HB.out)⟩
                              · rw [if_neg c63] at H
                                have c63b0 : (a0_0 == 7) = false := beq_eq_false_iff_ne.mpr c63
                                have c63b1 : (a0_0 != 7) = true := bne_iff_ne.mpr c63
                                by_cases c68 : a0_0 = 8
                                · rw [if_pos c68] at H
                                  have c68b0 : (a0_0 == 8) = true := beq_iff_eq.mpr c68
                                  have c68b1 : (a0_0 != 8) = false := bne_eq_false_iff_eq.mpr c68
                                  clear c68
                                  replace H := Option.bind_eq_some_iff.mp H
                                  obtain ⟨t360, A690, H⟩ := H
                                  replace H : (some (t360, 0)) = some (r1, r2) := H
                                  have A69 := Aside0.mk A690
                                  clear A690
                                  simp only [Option.some.injEq, Prod.mk.injEq] at H
                                  obtain ⟨rfl, rfl⟩ := H
                                  have hcz70_0 : wc.cell? ⟨gb342, 0, none⟩ = some (.int .i64 a0_0) := (blk_cell BK342.out 0).trans rfl
                                  have hcz70_1 : wc.cell? ⟨gb342, 1, none⟩ = some (.int .i64 a0_1) := (blk_cell BK342.out 1).trans rfl
                                  have hcz70_2 : wc.cell? ⟨gb342, 2, none⟩ = some (.string a0_2) := (blk_cell BK342.out 2).trans rfl
                                  have hcz70_3 : wc.cell? ⟨gb342, 3, none⟩ = some (.slice (some ad346) l0_3.length c0_3) := (blk_cell BK342.out 3).trans rfl
                                  have hfz70_0 := blk_frozen BK342.out 0
                                  have hfz70_1 := blk_frozen BK342.out 1
                                  have hfz70_2 := blk_frozen BK342.out 2
                                  have hfz70_3 := blk_frozen BK342.out 3
                                  have p349 : 0 ≤ (1 : Int) := (by omega)
                                  have q349 : 1 < (l0_3.length : Int) := of_decide_eq_true (by first | (with_reducible assumption) | assumption)
                                  obtain ⟨ad349, A349_3, c349_3, e349, hx349_0, hx349_1, hx349_2, hx349_3, hl349_3, hi349_3⟩ := at_T24 HR0_3.out 1 p349 q349
                                  obtain rfl : ad346 = ad349 := (by injection e349)
                                  (try simp only [show (1 : Int).toNat = 1 from rfl, Nat.reduceMul, Nat.reduceEqDiff, Go.Addr.add, ↓reduceIte] at hx349_0)
                                  (try simp only [show (1 : Int).toNat = 1 from rfl, Nat.reduceMul, Nat.reduceEqDiff, Go.Addr.add, ↓reduceIte] at hx349_1)
                                  (try simp only [show (1 : Int).toNat = 1 from rfl, Nat.reduceMul, Nat.reduceEqDiff, Go.Addr.add, ↓reduceIte] at hx349_2)
                                  (try simp only [show (1 : Int).toNat = 1 from rfl, Nat.reduceMul, Nat.reduceEqDiff, Go.Addr.add, ↓reduceIte] at hx349_3)
                                  have qi349 : (1 < l0_3.length) = True := eq_true (by omega)
                                  (try rw [show ((1 : Int)).toNat = 1 from rfl] at hx349_0)
                                  (try rw [show 1 * 4 = 4 from rfl] at hx349_0)
                                  (try rw [show ((1 : Int)).toNat = 1 from rfl] at hx349_1)
                                  (try rw [show 1 * 4 = 4 from rfl] at hx349_1)
                                  (try rw [show ((1 : Int)).toNat = 1 from rfl] at hx349_2)
                                  (try rw [show 1 * 4 = 4 from rfl] at hx349_2)
                                  (try rw [show ((1 : Int)).toNat = 1 from rfl] at hx349_3)
                                  (try rw [show 1 * 4 = 4 from rfl] at hx349_3)
                                  replace hx349_0 := (HB.out.cell (World.block_lt_of_cell? w _ hx349_0)).trans hx349_0
                                  replace hx349_1 := (HB.out.cell (World.block_lt_of_cell? w _ hx349_1)).trans hx349_1
                                  replace hx349_2 := (HB.out.cell (World.block_lt_of_cell? w _ hx349_2)).trans hx349_2
                                  replace hx349_3 := (HB.out.cell (World.block_lt_of_cell? w _ hx349_3)).trans hx349_3
                                  have HR349_3 := Aside0.mk hi349_3
                                  have HC349_3 := Aside0.mk hl349_3
                                  clear hi349_3 hl349_3
                                  replace p349 := eq_true p349
                                  replace q349 := eq_true q349
                                  go_wp2_with (first | ((with_reducible refine gate_callee (f := 44) rfl ?_); refine goesL_ (some 66) rfl rfl Tryd.func44 (by kernel_rfl) rfl #[.agg #[.int .i64 ((rd_T24 l0_3 1).f0), .int .i64 ((rd_T24 l0_3 1).f1), .string ((rd_T24 l0_3 1).f2), .slice A349_3 ((rd_T24 l0_3 1).f3).length c349_3], .slice A1 l1.length c1] rfl (by (try simp only [List.map_toArray, List.map_cons, List.map_nil]); first | done | rfl | (simp only [List.length_drop, List.length_take]; rfl)) ?_; (with_reducible refine (ih kj18 (by have := HJ18.out; omega) ((rd_T24 l0_3 1).f0) ((rd_T24 l0_3 1).f1) ((rd_T24 l0_3 1).f2) _ _ ((rd_T24 l0_3 1).f3) _ _ l1 t350 t351 _ ?side1 ?side2 ?side3 ?side4 A35.out).mono ?_); (case side1 => repeat (first | exact (Kd.C_below HR349_3.out HB.out) | (with_reducible refine Kd.C_alloc ?_ _) | (with_reducible refine Kd.C_drewN ?_ _) | (with_reducible refine Kd.C_drew ?_))); (case side2 => exact HC349_3.out); (case side3 => repeat (first | exact (Kd.C_below HR1.out HB.out) | (with_reducible refine Kd.C_alloc ?_ _) | (with_reducible refine Kd.C_drewN ?_ _) | (with_reducible refine Kd.C_drew ?_))); (case side4 => exact HC1.out); rintro e w71 ⟨rfl, hb⟩; refine ⟨_, rfl, ?_⟩; have n0_ := Aside0.mk (blk_below (g := gb342) (o := .cells #[.int .i64 a0_0, .int .i64 a0_1, .string a0_2, .slice (some ad346) l0_3.length c0_3] 24 (0, 0)) (by (with_reducible repeat (first | refine blk_drewN ?_ _ | refine blk_drew ?_ | refine blk_alloc ?_ _)); exact BK342.out) hb); have n1_ := Aside0.mk (below_step (by repeat (first | (with_reducible first | exact HB.out | apply below_alloc | apply pw_below_drewN | apply below_drew1 | refine below_set ?_ GE342.out) | exact HB.out)) hb); clear BK342; clear HB; have BK342 := n0_; have HB := n1_; clear n0_ n1_; (try clear hb); (try clear hb2); (try clear hk); (try clear hi); have hcz72_0 : w71.cell? ⟨gb342, 0, none⟩ = some (.int .i64 a0_0) := (blk_cell BK342.out 0).trans rfl; have hcz72_1 : w71.cell? ⟨gb342, 1, none⟩ = some (.int .i64 a0_1) := (blk_cell BK342.out 1).trans rfl; have hcz72_2 : w71.cell? ⟨gb342, 2, none⟩ = some (.string a0_2) := (blk_cell BK342.out 2).trans rfl; have hcz72_3 : w71.cell? ⟨gb342, 3, none⟩ = some (.slice (some ad346) l0_3.length c0_3) := (blk_cell BK342.out 3).trans rfl; have hfz72_0 := blk_frozen BK342.out 0; have hfz72_1 := blk_frozen BK342.out 1; have hfz72_2 := blk_frozen BK342.out 2; have hfz72_3 := blk_frozen BK342.out 3) | ((with_reducible refine gate_callee (f := 63) rfl ?_); refine goesL_ (some 118) rfl rfl Tryd.func63 (by kernel_rfl) rfl #[.bool (decide (t347 ≤ t350))] rfl (by (try simp only [List.map_toArray, List.map_cons, List.map_nil]); first | done | rfl | (simp only [List.length_drop, List.length_take]; rfl)) ?_; (with_reducible refine (sawmillref43_bit.calls (decide (t347 ≤ t350)) t360 _ A69.out).mono ?_); rintro e w' ⟨rfl, ⟨nd, rfl⟩⟩; refine ⟨_, rfl, ?_⟩))
                                  go_ret2
                                  exact ⟨by first | rfl | (simp [errW_none, errW_some] <;> rfl) | (simp [*, errW_none, errW_some] <;> rfl), by repeat (first | (with_reducible first | exact HB.out | apply below_alloc | apply pw_below_drewN | apply below_drew1 | refine below_set ?_ GE342.out) | exact HB.out)⟩
                                · rw [if_neg c68] at H
                                  have c68b0 : (a0_0 == 8) = false := beq_eq_false_iff_ne.mpr c68
                                  have c68b1 : (a0_0 != 8) = true := bne_iff_ne.mpr c68
                                  simp only [Option.some.injEq, Prod.mk.injEq] at H
                                  obtain ⟨rfl, rfl⟩ := H
                                  have hcz73_0 : wc.cell? ⟨gb342, 0, none⟩ = some (.int .i64 a0_0) := (blk_cell BK342.out 0).trans rfl
                                  have hcz73_1 : wc.cell? ⟨gb342, 1, none⟩ = some (.int .i64 a0_1) := (blk_cell BK342.out 1).trans rfl
                                  have hcz73_2 : wc.cell? ⟨gb342, 2, none⟩ = some (.string a0_2) := (blk_cell BK342.out 2).trans rfl
                                  have hcz73_3 : wc.cell? ⟨gb342, 3, none⟩ = some (.slice (some ad346) l0_3.length c0_3) := (blk_cell BK342.out 3).trans rfl
                                  have hfz73_0 := blk_frozen BK342.out 0
                                  have hfz73_1 := blk_frozen BK342.out 1
                                  have hfz73_2 := blk_frozen BK342.out 2
                                  have hfz73_3 := blk_frozen BK342.out 3
                                  have p349 : 0 ≤ (1 : Int) := (by omega)
                                  have q349 : 1 < (l0_3.length : Int) := of_decide_eq_true (by first | (with_reducible assumption) | assumption)
                                  obtain ⟨ad349, A349_3, c349_3, e349, hx349_0, hx349_1, hx349_2, hx349_3, hl349_3, hi349_3⟩ := at_T24 HR0_3.out 1 p349 q349
                                  obtain rfl : ad346 = ad349 := (by injection e349)
                                  (try simp only [show (1 : Int).toNat = 1 from rfl, Nat.reduceMul, Nat.reduceEqDiff, Go.Addr.add, ↓reduceIte] at hx349_0)
                                  (try simp only [show (1 : Int).toNat = 1 from rfl, Nat.reduceMul, Nat.reduceEqDiff, Go.Addr.add, ↓reduceIte] at hx349_1)
                                  (try simp only [show (1 : Int).toNat = 1 from rfl, Nat.reduceMul, Nat.reduceEqDiff, Go.Addr.add, ↓reduceIte] at hx349_2)
                                  (try simp only [show (1 : Int).toNat = 1 from rfl, Nat.reduceMul, Nat.reduceEqDiff, Go.Addr.add, ↓reduceIte] at hx349_3)
                                  have qi349 : (1 < l0_3.length) = True := eq_true (by omega)
                                  (try rw [show ((1 : Int)).toNat = 1 from rfl] at hx349_0)
                                  (try rw [show 1 * 4 = 4 from rfl] at hx349_0)
                                  (try rw [show ((1 : Int)).toNat = 1 from rfl] at hx349_1)
                                  (try rw [show 1 * 4 = 4 from rfl] at hx349_1)
                                  (try rw [show ((1 : Int)).toNat = 1 from rfl] at hx349_2)
                                  (try rw [show 1 * 4 = 4 from rfl] at hx349_2)
                                  (try rw [show ((1 : Int)).toNat = 1 from rfl] at hx349_3)
                                  (try rw [show 1 * 4 = 4 from rfl] at hx349_3)
                                  replace hx349_0 := (HB.out.cell (World.block_lt_of_cell? w _ hx349_0)).trans hx349_0
                                  replace hx349_1 := (HB.out.cell (World.block_lt_of_cell? w _ hx349_1)).trans hx349_1
                                  replace hx349_2 := (HB.out.cell (World.block_lt_of_cell? w _ hx349_2)).trans hx349_2
                                  replace hx349_3 := (HB.out.cell (World.block_lt_of_cell? w _ hx349_3)).trans hx349_3
                                  have HR349_3 := Aside0.mk hi349_3
                                  have HC349_3 := Aside0.mk hl349_3
                                  clear hi349_3 hl349_3
                                  replace p349 := eq_true p349
                                  replace q349 := eq_true q349
                                  go_wp2_with (first | ((with_reducible refine gate_callee (f := 44) rfl ?_); refine goesL_ (some 66) rfl rfl Tryd.func44 (by kernel_rfl) rfl #[.agg #[.int .i64 ((rd_T24 l0_3 1).f0), .int .i64 ((rd_T24 l0_3 1).f1), .string ((rd_T24 l0_3 1).f2), .slice A349_3 ((rd_T24 l0_3 1).f3).length c349_3], .slice A1 l1.length c1] rfl (by (try simp only [List.map_toArray, List.map_cons, List.map_nil]); first | done | rfl | (simp only [List.length_drop, List.length_take]; rfl)) ?_; (with_reducible refine (ih kj18 (by have := HJ18.out; omega) ((rd_T24 l0_3 1).f0) ((rd_T24 l0_3 1).f1) ((rd_T24 l0_3 1).f2) _ _ ((rd_T24 l0_3 1).f3) _ _ l1 t350 t351 _ ?side1 ?side2 ?side3 ?side4 A35.out).mono ?_); (case side1 => repeat (first | exact (Kd.C_below HR349_3.out HB.out) | (with_reducible refine Kd.C_alloc ?_ _) | (with_reducible refine Kd.C_drewN ?_ _) | (with_reducible refine Kd.C_drew ?_))); (case side2 => exact HC349_3.out); (case side3 => repeat (first | exact (Kd.C_below HR1.out HB.out) | (with_reducible refine Kd.C_alloc ?_ _) | (with_reducible refine Kd.C_drewN ?_ _) | (with_reducible refine Kd.C_drew ?_))); (case side4 => exact HC1.out); rintro e w74 ⟨rfl, hb⟩; refine ⟨_, rfl, ?_⟩; have n0_ := Aside0.mk (blk_below (g := gb342) (o := .cells #[.int .i64 a0_0, .int .i64 a0_1, .string a0_2, .slice (some ad346) l0_3.length c0_3] 24 (0, 0)) (by (with_reducible repeat (first | refine blk_drewN ?_ _ | refine blk_drew ?_ | refine blk_alloc ?_ _)); exact BK342.out) hb); have n1_ := Aside0.mk (below_step (by repeat (first | (with_reducible first | exact HB.out | apply below_alloc | apply pw_below_drewN | apply below_drew1 | refine below_set ?_ GE342.out) | exact HB.out)) hb); clear BK342; clear HB; have BK342 := n0_; have HB := n1_; clear n0_ n1_; (try clear hb); (try clear hb2); (try clear hk); (try clear hi); have hcz75_0 : w74.cell? ⟨gb342, 0, none⟩ = some (.int .i64 a0_0) := (blk_cell BK342.out 0).trans rfl; have hcz75_1 : w74.cell? ⟨gb342, 1, none⟩ = some (.int .i64 a0_1) := (blk_cell BK342.out 1).trans rfl; have hcz75_2 : w74.cell? ⟨gb342, 2, none⟩ = some (.string a0_2) := (blk_cell BK342.out 2).trans rfl; have hcz75_3 : w74.cell? ⟨gb342, 3, none⟩ = some (.slice (some ad346) l0_3.length c0_3) := (blk_cell BK342.out 3).trans rfl; have hfz75_0 := blk_frozen BK342.out 0; have hfz75_1 := blk_frozen BK342.out 1; have hfz75_2 := blk_frozen BK342.out 2; have hfz75_3 := blk_frozen BK342.out 3))
                                  go_ret2
                                  exact ⟨by first | rfl | (simp [errW_none, errW_some] <;> rfl) | (simp [*, errW_none, errW_some] <;> rfl), by repeat (first | (with_reducible first | exact HB.out | apply below_alloc | apply pw_below_drewN | apply below_drew1 | refine below_set ?_ GE342.out) | exact HB.out)⟩
                    · rw [if_neg c36] at H
                      have c36b0 : (t351 == 0) = false := beq_eq_false_iff_ne.mpr c36
                      have c36b1 : (t351 != 0) = true := bne_iff_ne.mpr c36
                      simp only [Option.some.injEq, Prod.mk.injEq] at H
                      obtain ⟨rfl, rfl⟩ := H
                      have hcz76_0 : wc.cell? ⟨gb342, 0, none⟩ = some (.int .i64 a0_0) := (blk_cell BK342.out 0).trans rfl
                      have hcz76_1 : wc.cell? ⟨gb342, 1, none⟩ = some (.int .i64 a0_1) := (blk_cell BK342.out 1).trans rfl
                      have hcz76_2 : wc.cell? ⟨gb342, 2, none⟩ = some (.string a0_2) := (blk_cell BK342.out 2).trans rfl
                      have hcz76_3 : wc.cell? ⟨gb342, 3, none⟩ = some (.slice (some ad346) l0_3.length c0_3) := (blk_cell BK342.out 3).trans rfl
                      have hfz76_0 := blk_frozen BK342.out 0
                      have hfz76_1 := blk_frozen BK342.out 1
                      have hfz76_2 := blk_frozen BK342.out 2
                      have hfz76_3 := blk_frozen BK342.out 3
                      have p349 : 0 ≤ (1 : Int) := (by omega)
                      have q349 : 1 < (l0_3.length : Int) := of_decide_eq_true (by first | (with_reducible assumption) | assumption)
                      obtain ⟨ad349, A349_3, c349_3, e349, hx349_0, hx349_1, hx349_2, hx349_3, hl349_3, hi349_3⟩ := at_T24 HR0_3.out 1 p349 q349
                      obtain rfl : ad346 = ad349 := (by injection e349)
                      (try simp only [show (1 : Int).toNat = 1 from rfl, Nat.reduceMul, Nat.reduceEqDiff, Go.Addr.add, ↓reduceIte] at hx349_0)
                      (try simp only [show (1 : Int).toNat = 1 from rfl, Nat.reduceMul, Nat.reduceEqDiff, Go.Addr.add, ↓reduceIte] at hx349_1)
                      (try simp only [show (1 : Int).toNat = 1 from rfl, Nat.reduceMul, Nat.reduceEqDiff, Go.Addr.add, ↓reduceIte] at hx349_2)
                      (try simp only [show (1 : Int).toNat = 1 from rfl, Nat.reduceMul, Nat.reduceEqDiff, Go.Addr.add, ↓reduceIte] at hx349_3)
                      have qi349 : (1 < l0_3.length) = True := eq_true (by omega)
                      (try rw [show ((1 : Int)).toNat = 1 from rfl] at hx349_0)
                      (try rw [show 1 * 4 = 4 from rfl] at hx349_0)
                      (try rw [show ((1 : Int)).toNat = 1 from rfl] at hx349_1)
                      (try rw [show 1 * 4 = 4 from rfl] at hx349_1)
                      (try rw [show ((1 : Int)).toNat = 1 from rfl] at hx349_2)
                      (try rw [show 1 * 4 = 4 from rfl] at hx349_2)
                      (try rw [show ((1 : Int)).toNat = 1 from rfl] at hx349_3)
                      (try rw [show 1 * 4 = 4 from rfl] at hx349_3)
                      replace hx349_0 := (HB.out.cell (World.block_lt_of_cell? w _ hx349_0)).trans hx349_0
                      replace hx349_1 := (HB.out.cell (World.block_lt_of_cell? w _ hx349_1)).trans hx349_1
                      replace hx349_2 := (HB.out.cell (World.block_lt_of_cell? w _ hx349_2)).trans hx349_2
                      replace hx349_3 := (HB.out.cell (World.block_lt_of_cell? w _ hx349_3)).trans hx349_3
                      have HR349_3 := Aside0.mk hi349_3
                      have HC349_3 := Aside0.mk hl349_3
                      clear hi349_3 hl349_3
                      replace p349 := eq_true p349
                      replace q349 := eq_true q349
                      go_wp2_with (first | ((with_reducible refine gate_callee (f := 44) rfl ?_); refine goesL_ (some 66) rfl rfl Tryd.func44 (by kernel_rfl) rfl #[.agg #[.int .i64 ((rd_T24 l0_3 1).f0), .int .i64 ((rd_T24 l0_3 1).f1), .string ((rd_T24 l0_3 1).f2), .slice A349_3 ((rd_T24 l0_3 1).f3).length c349_3], .slice A1 l1.length c1] rfl (by (try simp only [List.map_toArray, List.map_cons, List.map_nil]); first | done | rfl | (simp only [List.length_drop, List.length_take]; rfl)) ?_; (with_reducible refine (ih kj18 (by have := HJ18.out; omega) ((rd_T24 l0_3 1).f0) ((rd_T24 l0_3 1).f1) ((rd_T24 l0_3 1).f2) _ _ ((rd_T24 l0_3 1).f3) _ _ l1 t350 t351 _ ?side1 ?side2 ?side3 ?side4 A35.out).mono ?_); (case side1 => repeat (first | exact (Kd.C_below HR349_3.out HB.out) | (with_reducible refine Kd.C_alloc ?_ _) | (with_reducible refine Kd.C_drewN ?_ _) | (with_reducible refine Kd.C_drew ?_))); (case side2 => exact HC349_3.out); (case side3 => repeat (first | exact (Kd.C_below HR1.out HB.out) | (with_reducible refine Kd.C_alloc ?_ _) | (with_reducible refine Kd.C_drewN ?_ _) | (with_reducible refine Kd.C_drew ?_))); (case side4 => exact HC1.out); rintro e w77 ⟨rfl, hb⟩; refine ⟨_, rfl, ?_⟩; have n0_ := Aside0.mk (blk_below (g := gb342) (o := .cells #[.int .i64 a0_0, .int .i64 a0_1, .string a0_2, .slice (some ad346) l0_3.length c0_3] 24 (0, 0)) (by (with_reducible repeat (first | refine blk_drewN ?_ _ | refine blk_drew ?_ | refine blk_alloc ?_ _)); exact BK342.out) hb); have n1_ := Aside0.mk (below_step (by repeat (first | (with_reducible first | exact HB.out | apply below_alloc | apply pw_below_drewN | apply below_drew1 | refine below_set ?_ GE342.out) | exact HB.out)) hb); clear BK342; clear HB; have BK342 := n0_; have HB := n1_; clear n0_ n1_; (try clear hb); (try clear hb2); (try clear hk); (try clear hi)))
                      go_ret2
                      exact ⟨by first | rfl | (simp [errW_none, errW_some] <;> rfl) | (simp [*, errW_none, errW_some] <;> rfl), by repeat (first | (with_reducible first | exact HB.out | apply below_alloc | apply pw_below_drewN | apply below_drew1 | refine below_set ?_ GE342.out) | exact HB.out)⟩
                  · rw [if_neg c34] at H
                    exact absurd H (by simp)
        · rw [if_neg c13] at H
          have c13b0 : (t348 == 0) = false := beq_eq_false_iff_ne.mpr c13
          have c13b1 : (t348 != 0) = true := bne_iff_ne.mpr c13
          simp only [Option.some.injEq, Prod.mk.injEq] at H
          obtain ⟨rfl, rfl⟩ := H
          go_enter Tryd.func44, Tryd.ntmps44
          go_wp2_with (first | ((with_reducible refine gate_dst (N := 2) rfl ?_); refine box_event ?hg (N := 2) ?hd (cs := #[.int .i64 a0_0, .int .i64 a0_1, .string a0_2, .slice A0_3 l0_3.length c0_3]) (t := 24) ?hr ?_; (case hd => rfl); (case hg => rfl); (case hr => first | (go_simp; done) | (go_simp; rfl)); intro gb342 hg w78 hbox hb; have n0_ := Aside0.mk (below_step (by repeat (first | (with_reducible first | exact HB.out | apply below_alloc | apply pw_below_drewN | apply below_drew1) | exact HB.out)) hb); have n1_ := Aside0.mk (hbox); have n2_ := Aside0.mk ((by rw [hg]; exact (below_size (by repeat (first | (with_reducible first | exact HB.out | apply below_alloc | apply pw_below_drewN | apply below_drew1) | exact HB.out))) : w.heap.size ≤ gb342)); have n3_ := Aside0.mk ((by rw [hg]; exact (below_size (by repeat (first | (with_reducible first | exact HB.out | apply below_alloc | apply pw_below_drewN | apply below_drew1) | exact HB.out))) : w.heap.size ≤ gb342)); clear HB; have HB := n0_; have BK342 := n1_; have GW342 := n2_; have GE342 := n3_; clear n0_ n1_ n2_ n3_; clear hb hbox hg; have hcz79_0 : w78.cell? ⟨gb342, 0, none⟩ = some (.int .i64 a0_0) := (blk_cell BK342.out 0).trans rfl; have hcz79_1 : w78.cell? ⟨gb342, 1, none⟩ = some (.int .i64 a0_1) := (blk_cell BK342.out 1).trans rfl; have hcz79_2 : w78.cell? ⟨gb342, 2, none⟩ = some (.string a0_2) := (blk_cell BK342.out 2).trans rfl; have hcz79_3 : w78.cell? ⟨gb342, 3, none⟩ = some (.slice A0_3 l0_3.length c0_3) := (blk_cell BK342.out 3).trans rfl; have hfz79_0 := blk_frozen BK342.out 0; have hfz79_1 := blk_frozen BK342.out 1; have hfz79_2 := blk_frozen BK342.out 2; have hfz79_3 := blk_frozen BK342.out 3; have p346 : 0 ≤ (0 : Int) := (by omega); have q346 : 0 < (l0_3.length : Int) := of_decide_eq_true (by first | (with_reducible assumption) | assumption); obtain ⟨ad346, A346_3, c346_3, e346, hx346_0, hx346_1, hx346_2, hx346_3, hl346_3, hi346_3⟩ := at_T24 HR0_3.out 0 p346 q346; cases e346; have qi346 : (0 < l0_3.length) = True := eq_true (by omega); (try rw [show ((0 : Int)).toNat = 0 from rfl] at hx346_0); (try rw [show 0 * 4 = 0 from rfl] at hx346_0); (try rw [Addr.add_zero'] at hx346_0); (try rw [show ((0 : Int)).toNat = 0 from rfl] at hx346_1); (try rw [show 0 * 4 = 0 from rfl] at hx346_1); (try rw [Addr.add_zero'] at hx346_1); (try rw [show ((0 : Int)).toNat = 0 from rfl] at hx346_2); (try rw [show 0 * 4 = 0 from rfl] at hx346_2); (try rw [Addr.add_zero'] at hx346_2); (try rw [show ((0 : Int)).toNat = 0 from rfl] at hx346_3); (try rw [show 0 * 4 = 0 from rfl] at hx346_3); (try rw [Addr.add_zero'] at hx346_3); replace hx346_0 := (HB.out.cell (World.block_lt_of_cell? w _ hx346_0)).trans hx346_0; replace hx346_1 := (HB.out.cell (World.block_lt_of_cell? w _ hx346_1)).trans hx346_1; replace hx346_2 := (HB.out.cell (World.block_lt_of_cell? w _ hx346_2)).trans hx346_2; replace hx346_3 := (HB.out.cell (World.block_lt_of_cell? w _ hx346_3)).trans hx346_3; have HR346_3 := Aside0.mk hi346_3; have HC346_3 := Aside0.mk hl346_3; clear hi346_3 hl346_3; replace p346 := eq_true p346; replace q346 := eq_true q346) | ((with_reducible refine gate_callee (f := 44) rfl ?_); refine goesL_ (some 32) rfl rfl Tryd.func44 (by kernel_rfl) rfl #[.agg #[.int .i64 ((rd_T24 l0_3 0).f0), .int .i64 ((rd_T24 l0_3 0).f1), .string ((rd_T24 l0_3 0).f2), .slice A346_3 ((rd_T24 l0_3 0).f3).length c346_3], .slice A1 l1.length c1] rfl (by (try simp only [List.map_toArray, List.map_cons, List.map_nil]); first | done | rfl | (simp only [List.length_drop, List.length_take]; rfl)) ?_; (with_reducible refine (ih k (by omega) ((rd_T24 l0_3 0).f0) ((rd_T24 l0_3 0).f1) ((rd_T24 l0_3 0).f2) _ _ ((rd_T24 l0_3 0).f3) _ _ l1 t347 t348 _ ?side1 ?side2 ?side3 ?side4 A12.out).mono ?_); (case side1 => repeat (first | exact (Kd.C_below HR346_3.out HB.out) | (with_reducible refine Kd.C_alloc ?_ _) | (with_reducible refine Kd.C_drewN ?_ _) | (with_reducible refine Kd.C_drew ?_))); (case side2 => exact HC346_3.out); (case side3 => repeat (first | exact (Kd.C_below HR1.out HB.out) | (with_reducible refine Kd.C_alloc ?_ _) | (with_reducible refine Kd.C_drewN ?_ _) | (with_reducible refine Kd.C_drew ?_))); (case side4 => exact HC1.out); rintro e w80 ⟨rfl, hb⟩; refine ⟨_, rfl, ?_⟩; have n0_ := Aside0.mk (blk_below (g := gb342) (o := .cells #[.int .i64 a0_0, .int .i64 a0_1, .string a0_2, .slice (some ad346) l0_3.length c0_3] 24 (0, 0)) (by (with_reducible repeat (first | refine blk_drewN ?_ _ | refine blk_drew ?_ | refine blk_alloc ?_ _)); exact BK342.out) hb); have n1_ := Aside0.mk (below_step (by repeat (first | (with_reducible first | exact HB.out | apply below_alloc | apply pw_below_drewN | apply below_drew1 | refine below_set ?_ GE342.out) | exact HB.out)) hb); clear BK342; clear HB; have BK342 := n0_; have HB := n1_; clear n0_ n1_; (try clear hb); (try clear hb2); (try clear hk); (try clear hi)))
          go_ret2
          exact ⟨by first | rfl | (simp [errW_none, errW_some] <;> rfl) | (simp [*, errW_none, errW_some] <;> rfl), by repeat (first | (with_reducible first | exact HB.out | apply below_alloc | apply pw_below_drewN | apply below_drew1 | refine below_set ?_ GE342.out) | exact HB.out)⟩
      · rw [if_neg c11] at H
        exact absurd H (by simp)

end Go.Proofs.YthdgofbchfcfcaaDoor.PRu
