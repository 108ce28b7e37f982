/- The walk of rule.visit: the first error of an expression, for each closure that asks for a name. The table's fact is the row's; the closure's contract is asked; no other condition. -/
import Derived.Test.YthdgofbchfcfcaaDoorRuleVisit
import Derived.Deep.RegionHeld3
set_option linter.unusedVariables false
set_option linter.unusedSimpArgs false
namespace Go.Proofs.YthdgofbchfcfcaaDoor.PRu
open Go.RowKit Go.Proofs.YthdgofbchfcfcaaDoorW.PrintWords Go.Proofs.YthdgofbchfcfcaaDoorW.PrintLast Go.Proofs.YthdgofbchfcfcaaDoorW.PrintMore
set_option maxRecDepth 100000 in
set_option maxHeartbeats 1000000 in
theorem visit_F (F : Nat) (HCF : Hid (∀ (args : Array Value) (w : World), (callFunc F args).run Tryd.prog w = .ok (.enter F args) w)) (has : ByteArray → Bool) (b : Nat) : ∀ (n : Nat), n ≤ 8 → ∀ (op nn : Int) (nm : ByteArray) (ar : List S24), limB n ⟨op, nn, nm, ar⟩ = true → ∀ (A : Option Addr) (c : Nat) (L : Int) (w : World), L = 9 - (n : Int) → GlobG w → HasOK F b has w → Kd.C k24 w A ar.length ar → ar.length ≤ c →
    Calls Tryd.prog 32 #[.agg #[.int .i64 op, .int .i64 nn, .string nm, .slice A ar.length c], .int .i64 L, .func (.func F) #[] #[.pointer (some ⟨b, 0, none⟩)]] w fun e' w' => e' = .returned (.int .i64 (visitN has n ⟨op, nn, nm, ar⟩)) ∧ Below w.heap.size w w' := by
  intro n
  induction n with
  | zero =>
    intro _ op nn nm ar _ A c L w hL hG hH hC hc
    have hbel : Below w.heap.size w (w.alloc (.cells #[.int .i64 op, .int .i64 nn, .string nm, .slice A ar.length c] 24)) := (Below.refl _ _).alloc (Nat.le_refl _) _
    have HB := Lib.hid hbel
    clear hbel hG hH hC
    obtain rfl : L = 9 := by omega
    clear hL
    go_enter Tryd.func32, Tryd.ntmps32
    go_wp2
    go_ret
    exact ⟨rfl, HB.out⟩
  | succ n ih =>
    intro hn op nn nm ar hlim A c L w hL hG hH hC hc
    have HLM := Lib.hid hlim
    have hlen := limB_len hlim
    clear hlim
    obtain ⟨W0, hW0⟩ : ∃ W0, W0 = w.alloc (.cells #[.int .i64 op, .int .i64 nn, .string nm, .slice A ar.length c] 24) := ⟨_, rfl⟩
    have hbel : Below w.heap.size w W0 := hW0 ▸ (Below.refl _ _).alloc (Nat.le_refl _) _
    have HW0 := Lib.hid hbel
    have HG := Lib.hid (hG.below hbel)
    have HH := Lib.hid (hH.below hbel)
    have HC := Lib.hid (Kd.C_below hC hbel)
    have HBK := Lib.hid (show W0.heap[w.heap.size]? = some (.cells #[.int .i64 op, .int .i64 nn, .string nm, .slice A ar.length c] 24) by rw [hW0]; exact (MapKept.heap_alloc w _).1)
    have HSZ := Lib.hid (show w.heap.size < W0.heap.size by rw [hW0]; simp)
    have HWW := Lib.hid hW0
    have IH := Lib.hid (show ∀ a : S24, limB n a = true → ∀ (A : Option Addr) (c : Nat) (L : Int) (w : World), L = 9 - (n : Int) → GlobG w → HasOK F b has w → Kd.C k24 w A a.f3.length a.f3 → a.f3.length ≤ c →
    Calls Tryd.prog 32 #[.agg #[.int .i64 a.f0, .int .i64 a.f1, .string a.f2, .slice A a.f3.length c], .int .i64 L, .func (.func F) #[] #[.pointer (some ⟨b, 0, none⟩)]] w fun e' w' => e' = .returned (.int .i64 (visitN has n a)) ∧ Below w.heap.size w w' from fun a => by obtain ⟨x0, x1, x2, x3⟩ := a; exact ih (by omega) x0 x1 x2 x3)
    have hL1 : decide (8 < L) = false := by simp; omega
    have hL2 : wrap64 (L + 1) = L + 1 := by unfold wrap64; omega
    have HL := Lib.hid (show L + 1 = 9 - (n : Int) by omega)
    have HCL := Lib.hid hc
    clear hbel hG hH hC hW0 ih hL hn hc
    go_enter Tryd.func32, Tryd.ntmps32
    go_wp2
    rw [← HWW.out]
    go_loopw [18] (fun i wr => ∃ (k : Nat), i = .int .i64 (k : Int) ∧ k ≤ ar.length ∧ firstE (visitN has n) (ar.take k) = 0 ∧ Below W0.heap.size W0 wr) (fun i _ => ar.length - (intOf i).toNat)
    case atStart => exact ⟨0, rfl, Nat.zero_le _, rfl, Below.refl _ _⟩
    case round =>
      obtain ⟨k, rfl, hk, hfk, hbw⟩ := hrel
      have HB1 := Lib.hid hbw
      have HFK := Lib.hid hfk
      obtain ⟨y0, y1, y2, y3⟩ := four ((hbw.block _ HSZ.out).trans HBK.out)
      clear hbw hfk
      by_cases hlt : k < ar.length
      · have hlt2 : (k : Int) < (ar.length : Int) := by omega
        obtain ⟨ad, A3, c3, rfl, x0, x1, x2, x3, hc3, hC3⟩ := at_T24 (Kd.C_below HC.out HB1.out) (k : Int) (by omega) hlt2
        rw [rd_at24 _ _ hlt] at x0 x1 x2 x3 hc3 hC3
        rw [Int.toNat_natCast] at x0 x1 x2 x3
        obtain ⟨a, ha⟩ : ∃ a, a = ar[k] := ⟨_, rfl⟩
        rw [← ha] at x0 x1 x2 x3 hc3 hC3
        have HA := Lib.hid ha
        have HLA := Lib.hid (show limB n a = true by rw [ha]; exact limB_at HLM.out k hlt)
        have HC3 := Lib.hid hC3
        have HC4 := Lib.hid hc3
        obtain ⟨wy, hwy⟩ : ∃ wy, wy = wr.alloc (.cells #[.int .i64 a.f0, .int .i64 a.f1, .string a.f2, .slice A3 a.f3.length c3] 24) := ⟨_, rfl⟩
        have hbel2 : Below wr.heap.size wr wy := hwy ▸ (Below.refl _ _).alloc (Nat.le_refl _) _
        have HB2 := Lib.hid (HB1.out.trans (hbel2.mono HB1.out.size))
        have HC5 := Lib.hid (Kd.C_below HC3.out hbel2)
        have HWY := Lib.hid hwy
        clear ha hC3 hc3 hbel2 hwy
        by_cases hz : visitN has n a = 0
        · have hz1 : (visitN has n a != 0) = false := by rw [hz]; rfl
          have HZ := Lib.hid hz
          clear hz
          go_wp2_with (go_at_call 32; rw [← HWY.out]; (with_reducible refine (IH.out a HLA.out A3 c3 (L + 1) wy HL.out (HG.out.below HB2.out) (HH.out.below HB2.out) HC5.out HC4.out).mono ?_); rintro e' wz ⟨rfl, hb⟩; have HB3 := Lib.hid (HB2.out.trans (hb.mono HB2.out.size)); clear hb)
          exact ⟨⟨k + 1, congrArg _ (by omega), by omega, firstE_next _ k HFK.out hlt (by rw [← HA.out]; exact HZ.out), HB3.out⟩, by simp [intOf]; omega⟩
        · have hz1 : (visitN has n a != 0) = true := by simpa using hz
          have HZ := Lib.hid hz
          clear hz
          go_wp2_with (go_at_call 32; rw [← HWY.out]; (with_reducible refine (IH.out a HLA.out A3 c3 (L + 1) wy HL.out (HG.out.below HB2.out) (HH.out.below HB2.out) HC5.out HC4.out).mono ?_); rintro e' wz ⟨rfl, hb⟩; have HB3 := Lib.hid (HB2.out.trans (hb.mono HB2.out.size)); clear hb)
          go_ret
          refine ⟨?_, HW0.out.trans (HB3.out.mono HW0.out.size)⟩
          have h1 := firstE_take ar k HFK.out hlt
          rw [← HA.out, if_neg HZ.out] at h1
          rw [visitN, h1, if_neg HZ.out]; rfl
      · have hkl : k = ar.length := by omega
        have HF := Lib.hid (show visitN has (n + 1) ⟨op, nn, nm, ar⟩ = ownE has op nn nm ar by
          have h1 := HFK.out
          rw [hkl, List.take_length] at h1
          rw [visitN, if_pos h1])
        have HG1 := Lib.hid (HG.out.below HB1.out)
        have HH1 := Lib.hid (HH.out.below HB1.out)
        have HC1 := Lib.hid (Kd.C_below HC.out HB1.out)
        clear hkl HFK
        obtain ⟨wo, hwo⟩ : ∃ wo, wo = wr := ⟨_, rfl⟩
        subst hwo
        by_cases hk : knownF op = true
        · have hk2 : 1 ≤ op ∧ op ≤ 11 := by simpa [knownF] using hk
          obtain ⟨g0, g1, g2⟩ := HG1.out.at hk2.1 hk2.2
          have hi : op < 12 := by omega
          have hi0 : 0 ≤ op := by omega
          have HK := Lib.hid hk
          obtain ⟨wt, hwt⟩ : ∃ wt, wt = (wo.alloc (.cells #[.int .i64 (argsF op), .bool (takesF op), .bool (condT op)] 70)) := ⟨_, rfl⟩
          have hbt : Below wo.heap.size wo wt := hwt ▸ (Below.refl _ _).alloc (Nat.le_refl _) _
          have HB4 := Lib.hid (HB1.out.trans (hbt.mono HB1.out.size))
          have HWT := Lib.hid hwt
          have HTB := Lib.hid (show wt.heap[wo.heap.size]? = some (.cells #[.int .i64 (argsF op), .bool (takesF op), .bool (condT op)] 70) by rw [hwt]; exact (MapKept.heap_alloc wo _).1)
          have HSX := Lib.hid (show w.heap.size < wt.heap.size ∧ wo.heap.size < wt.heap.size from ⟨Nat.lt_of_lt_of_le HSZ.out HB4.out.size, (Array.getElem?_eq_some_iff.1 HTB.out).1⟩)
          have HEB := Lib.hid (show wt.heap[w.heap.size]? = some (.cells #[.int .i64 op, .int .i64 nn, .string nm, .slice A ar.length c] 24) from (HB4.out.block _ HSZ.out).trans HBK.out)
          have HH2 := Lib.hid (HH1.out.below hbt)
          obtain ⟨v0, v1, v2, v3⟩ := four HEB.out
          obtain ⟨t0, t1, t2⟩ := three HTB.out
          rw [hwt] at v0 v1 v2 v3 t0 t1 t2
          clear hwt hbt
          cases hb1 : (nn != 0)
          case true =>
            cases hb2 : (op != 1)
            case true =>
              go_wp2_with (go_at_call 47; (with_reducible refine (known_calls _ _).mono ?_); rintro e' wk ⟨rfl, hw⟩; rw [hw]; clear hw)
              go_ret
              exact ⟨by rw [HF.out, (show ownE has op nn nm ar = 5 from by unfold ownE; rw [if_pos HK.out, if_pos (Or.inl ⟨bne_iff_ne.1 hb1, bne_iff_ne.1 hb2⟩)])]; rfl, HW0.out.trans ((show Below W0.heap.size W0 (wo.alloc (.cells #[.int .i64 (argsF op), .bool (takesF op), .bool (condT op)] 70)) from HWT.out ▸ HB4.out).mono HW0.out.size)⟩
            case false =>
              obtain rfl : op = 1 := by simpa using hb2
              replace g0 : wo.cell? ⟨0, 3, none⟩ = some (.int .i64 (argsF 1)) := g0
              replace g1 : wo.cell? ⟨0, 4, none⟩ = some (.bool (takesF 1)) := g1
              replace g2 : wo.cell? ⟨0, 5, none⟩ = some (.bool (condT 1)) := g2
              have HB12 := Lib.hid (show ((nn != 0) && ((1 : Int) != 1)) = false by rw [hb2, Bool.and_false])
              cases hb3 : (nm.toList != ([] : List UInt8))
              case true =>
                have hb3b : (nm.toList == ([] : List UInt8)) = false := by simpa using hb3
                cases hb4 : ((1 : Int) != 2)
                case true =>
                  go_wp2_with (go_at_call 47; (with_reducible refine (known_calls _ _).mono ?_); rintro e' wk ⟨rfl, hw⟩; rw [hw]; clear hw)
                  go_ret
                  exact ⟨by rw [HF.out, (show ownE has (1 : Int) nn nm ar = 5 from by unfold ownE; rw [if_pos HK.out, if_pos (Or.inr (Or.inl ⟨bne_iff_ne.1 hb3, bne_iff_ne.1 hb4⟩))])]; rfl, HW0.out.trans ((show Below W0.heap.size W0 (wo.alloc (.cells #[.int .i64 (argsF (1 : Int)), .bool (takesF (1 : Int)), .bool (condT (1 : Int))] 70)) from HWT.out ▸ HB4.out).mono HW0.out.size)⟩
                case false =>
                  exact absurd hb4 (by decide)
              case false =>
                have hb3b : (nm.toList == ([] : List UInt8)) = true := by simpa using hb3
                have HB34 := Lib.hid (show ((nm.toList != ([] : List UInt8)) && ((1 : Int) != 2)) = false by rw [hb3]; rfl)
                cases hb5 : ((ar.length : Int) != argsF (1 : Int))
                case true =>
                  go_wp2_with (go_at_call 47; (with_reducible refine (known_calls _ _).mono ?_); rintro e' wk ⟨rfl, hw⟩; rw [hw]; clear hw)
                  go_ret
                  exact ⟨by rw [HF.out, (show ownE has (1 : Int) nn nm ar = 5 from by unfold ownE; rw [if_pos HK.out, if_pos (Or.inr (Or.inr (bne_iff_ne.1 hb5)))])]; rfl, HW0.out.trans ((show Below W0.heap.size W0 (wo.alloc (.cells #[.int .i64 (argsF (1 : Int)), .bool (takesF (1 : Int)), .bool (condT (1 : Int))] 70)) from HWT.out ▸ HB4.out).mono HW0.out.size)⟩
                case false =>
                  have HB5 := Lib.hid hb5
                  have h2 : ((1 : Int) : Int) ≠ 2 := by decide
                  have h2b : ((1 : Int) == 2) = false := beq_eq_false_iff_ne.2 h2
                  have H2 := Lib.hid h2
                  clear h2
                  cases hg : greatF nn
                  case true =>
                    go_wp2_with (first
                      | (go_at_call 47; (with_reducible refine (known_calls _ _).mono ?_); rintro e' wk ⟨rfl, hw⟩; rw [hw]; clear hw)
                      | (go_at_call 48; (with_reducible refine (great_calls _ _).mono ?_); rintro e' wk2 ⟨rfl, hw⟩; rw [hw]; clear hw))
                    go_ret
                    exact ⟨by rw [HF.out, (show ownE has (1 : Int) nn nm ar = 9 from by unfold ownE; rw [if_pos HK.out, if_neg (not5 HB12.out HB34.out HB5.out), if_neg (fun h => H2.out h.1), if_pos hg])]; rfl, HW0.out.trans ((show Below W0.heap.size W0 (wo.alloc (.cells #[.int .i64 (argsF (1 : Int)), .bool (takesF (1 : Int)), .bool (condT (1 : Int))] 70)) from HWT.out ▸ HB4.out).mono HW0.out.size)⟩
                  case false =>
                    have HGR := Lib.hid hg
                    go_wp2_with (first
                      | (go_at_call 47; (with_reducible refine (known_calls _ _).mono ?_); rintro e' wk ⟨rfl, hw⟩; rw [hw]; clear hw)
                      | (go_at_call 48; (with_reducible refine (great_calls _ _).mono ?_); rintro e' wk2 ⟨rfl, hw⟩; rw [hw]; clear hw))
                    have HBX := Lib.hid (show Below W0.heap.size W0 (wo.alloc (.cells #[.int .i64 (argsF (1 : Int)), .bool (takesF (1 : Int)), .bool (condT (1 : Int))] 70)) from HWT.out ▸ HB4.out)
                    have HTX := Lib.hid (show (wo.alloc (.cells #[.int .i64 (argsF (1 : Int)), .bool (takesF (1 : Int)), .bool (condT (1 : Int))] 70)).heap[wo.heap.size]? = some (.cells #[.int .i64 (argsF (1 : Int)), .bool (takesF (1 : Int)), .bool (condT (1 : Int))] 70) from HWT.out ▸ HTB.out)
                    obtain ⟨wb, hwb⟩ : ∃ wb, wb = (wo.alloc (.cells #[.int .i64 (argsF (1 : Int)), .bool (takesF (1 : Int)), .bool (condT (1 : Int))] 70)) := ⟨_, rfl⟩
                    rw [← hwb]
                    have HBW := Lib.hid (show Below W0.heap.size W0 wb from hwb ▸ HBX.out)
                    have HTBW := Lib.hid (show wb.heap[wo.heap.size]? = some (.cells #[.int .i64 (argsF (1 : Int)), .bool (takesF (1 : Int)), .bool (condT (1 : Int))] 70) from hwb ▸ HTX.out)
                    have HSB := Lib.hid (show wo.heap.size < wb.heap.size from (Array.getElem?_eq_some_iff.1 HTBW.out).1)
                    clear hwb y0 y1 y2 y3 t0 t1 t2
                    go_loopw [81] (fun i wr => ∃ (j : Nat), i = .int .i64 (j : Int) ∧ j ≤ ar.length ∧ badArg (takesF (1 : Int)) (ar.take j) = false ∧ Below wb.heap.size wb wr) (fun i _ => ar.length - (intOf i).toNat)
                    case atStart => exact ⟨0, rfl, Nat.zero_le _, rfl, Below.refl _ _⟩
                    case round =>
                      obtain ⟨j, rfl, hj, hfj, hbv⟩ := hrel
                      have HFJ := Lib.hid hfj
                      have HBU := Lib.hid hbv
                      obtain ⟨t0, t1, t2⟩ := three ((hbv.block _ HSB.out).trans HTBW.out)
                      have HTV := Lib.hid (show wo.heap.size < wr.heap.size from Nat.lt_of_lt_of_le HSB.out hbv.size)
                      have HGV := Lib.hid (HG.out.below (HBW.out.trans (hbv.mono HBW.out.size)))
                      clear hbv hfj
                      by_cases hjt : j < ar.length
                      · have hjt2 : (j : Int) < (ar.length : Int) := by omega
                        obtain ⟨ad, A3, c3, rfl, x0, x1, x2, x3, hc3, hC3⟩ := at_T24 (Kd.C_below HC.out (HBW.out.trans (HBU.out.mono HBW.out.size))) (j : Int) (by omega) hjt2
                        rw [rd_at24 _ _ hjt] at x0 x1 x2 x3
                        rw [Int.toNat_natCast] at x0 x1 x2 x3
                        obtain ⟨a, ha⟩ : ∃ a, a = ar[j] := ⟨_, rfl⟩
                        have hl3 : (rd_T24 ar (j : Int)).f3.length = a.f3.length := by rw [rd_at24 _ _ hjt, ha]
                        rw [← ha] at x0 x1 x2 x3
                        have HA := Lib.hid ha
                        clear ha hC3 hc3 hl3
                        have HBV := Lib.hid ((Below.refl wr.heap.size wr).alloc (Nat.le_refl _) (.cells #[.int .i64 a.f0, .int .i64 a.f1, .string a.f2, .slice A3 a.f3.length c3] 24))
                        obtain ⟨z0, z1, z2, z3⟩ := four (MapKept.heap_alloc wr (.cells #[.int .i64 a.f0, .int .i64 a.f1, .string a.f2, .slice A3 a.f3.length c3] 24)).1
                        replace t1 := (HBV.out.cell (p := ⟨wo.heap.size, 1, none⟩) HTV.out).trans t1
                        cases hcd : (condF a.f0 != takesF (1 : Int))
                        case false =>
                          have hcd2 : (condF a.f0 ^^ takesF (1 : Int)) = false := by revert hcd; cases condF a.f0 <;> cases takesF (1 : Int) <;> decide
                          have hcd3 : (condF a.f0 == takesF (1 : Int)) = true := by revert hcd; cases condF a.f0 <;> cases takesF (1 : Int) <;> decide
                          have hcd4 : (!(condF a.f0 == takesF (1 : Int))) = false := by revert hcd; cases condF a.f0 <;> cases takesF (1 : Int) <;> decide
                          go_wp2
                          go_region_held3 (fun w' => w'.cell? ⟨wr.heap.size, 0, none⟩ = some (.int .i64 a.f0) ∧ w'.cell? ⟨wr.heap.size, 1, none⟩ = some (.int .i64 a.f1) ∧ w'.cell? ⟨wr.heap.size, 2, none⟩ = some (.string a.f2) ∧ w'.cell? ⟨wr.heap.size, 3, none⟩ = some (.slice A3 a.f3.length c3) ∧ w'.cell? ⟨wo.heap.size, 1, none⟩ = some (.bool (takesF (1 : Int))) ∧ Hid (Below wr.heap.size wr w')) (first | (with_reducible assumption) | (exact ⟨z0, z1, z2, z3, t1, Lib.hid (bdrew HBV.out)⟩))
                            (first
                              | (go_at_call 35; (with_reducible refine (cond_calls a.f0 a.f1 a.f2 A3 a.f3.length c3 _ ?_).mono ?_); (exact HGV.out.below (fromV (wv := wr) (b := wr.heap.size) (bt := wo.heap.size) (a := a) (A3 := A3) (c3 := c3) (t := takesF (1 : Int)) (by assumption))); rintro e' wz ⟨rfl, hb⟩; have hnew := keepV (wv := wr) (bt := wo.heap.size) (a := a) (A3 := A3) (c3 := c3) (t := takesF (1 : Int)) HTV.out (by assumption) hb; have HBZ := Lib.hid (show Below wr.heap.size wr wz from fromV (wv := wr) (b := wr.heap.size) (bt := wo.heap.size) (a := a) (A3 := A3) (c3 := c3) (t := takesF (1 : Int)) hnew); clear hb))
                          all_goals go_wp2
                          all_goals exact ⟨⟨j + 1, congrArg _ (by omega), by omega, badArg_next _ j hjt HFJ.out (by rw [← HA.out]; exact hcd), HBU.out.trans (HBZ.out.mono HBU.out.size)⟩, by simp [intOf]; omega⟩
                        case true =>
                          have hcd2 : (condF a.f0 ^^ takesF (1 : Int)) = true := by revert hcd; cases condF a.f0 <;> cases takesF (1 : Int) <;> decide
                          have hcd3 : (condF a.f0 == takesF (1 : Int)) = false := by revert hcd; cases condF a.f0 <;> cases takesF (1 : Int) <;> decide
                          have hcd4 : (!(condF a.f0 == takesF (1 : Int))) = true := by revert hcd; cases condF a.f0 <;> cases takesF (1 : Int) <;> decide
                          go_wp2
                          go_region_held3 (fun w' => w'.cell? ⟨wr.heap.size, 0, none⟩ = some (.int .i64 a.f0) ∧ w'.cell? ⟨wr.heap.size, 1, none⟩ = some (.int .i64 a.f1) ∧ w'.cell? ⟨wr.heap.size, 2, none⟩ = some (.string a.f2) ∧ w'.cell? ⟨wr.heap.size, 3, none⟩ = some (.slice A3 a.f3.length c3) ∧ w'.cell? ⟨wo.heap.size, 1, none⟩ = some (.bool (takesF (1 : Int))) ∧ Hid (Below wr.heap.size wr w')) (first | (with_reducible assumption) | (exact ⟨z0, z1, z2, z3, t1, Lib.hid (bdrew HBV.out)⟩))
                            (first
                              | (go_at_call 35; (with_reducible refine (cond_calls a.f0 a.f1 a.f2 A3 a.f3.length c3 _ ?_).mono ?_); (exact HGV.out.below (fromV (wv := wr) (b := wr.heap.size) (bt := wo.heap.size) (a := a) (A3 := A3) (c3 := c3) (t := takesF (1 : Int)) (by assumption))); rintro e' wz ⟨rfl, hb⟩; have hnew := keepV (wv := wr) (bt := wo.heap.size) (a := a) (A3 := A3) (c3 := c3) (t := takesF (1 : Int)) HTV.out (by assumption) hb; have HBZ := Lib.hid (show Below wr.heap.size wr wz from fromV (wv := wr) (b := wr.heap.size) (bt := wo.heap.size) (a := a) (A3 := A3) (c3 := c3) (t := takesF (1 : Int)) hnew); clear hb))
                          all_goals go_wp2
                          all_goals go_ret
                          all_goals exact ⟨by rw [HF.out, (show ownE has (1 : Int) nn nm ar = 27 from by unfold ownE; rw [if_pos HK.out, if_neg (not5 HB12.out HB34.out HB5.out), if_neg (fun h => H2.out h.1), if_neg (by rw [HGR.out]; decide), if_pos (badArg_at ar j hjt (by rw [← HA.out]; exact hcd))])]; rfl, HW0.out.trans ((HBW.out.trans ((HBU.out.trans (HBZ.out.mono HBU.out.size)).mono HBW.out.size)).mono HW0.out.size)⟩
                      · have hje : j = ar.length := by omega
                        have HJ := Lib.hid (show badArg (takesF (1 : Int)) ar = false by have := HFJ.out; rwa [hje, List.take_length] at this)
                        clear hje
                        go_wp2
                        go_ret
                        exact ⟨by rw [HF.out, (show ownE has (1 : Int) nn nm ar = 0 from by unfold ownE; rw [if_pos HK.out, if_neg (not5 HB12.out HB34.out HB5.out), if_neg (fun h => H2.out h.1), if_neg (by rw [HGR.out]; decide), if_neg (by rw [HJ.out]; decide)])]; rfl, HW0.out.trans ((HBW.out.trans (HBU.out.mono HBW.out.size)).mono HW0.out.size)⟩
          case false =>
            have HB12 := Lib.hid (show ((nn != 0) && (op != 1)) = false by rw [hb1, Bool.false_and])
            cases hb3 : (nm.toList != ([] : List UInt8))
            case true =>
              have hb3b : (nm.toList == ([] : List UInt8)) = false := by simpa using hb3
              cases hb4 : (op != 2)
              case true =>
                go_wp2_with (go_at_call 47; (with_reducible refine (known_calls _ _).mono ?_); rintro e' wk ⟨rfl, hw⟩; rw [hw]; clear hw)
                go_ret
                exact ⟨by rw [HF.out, (show ownE has op nn nm ar = 5 from by unfold ownE; rw [if_pos HK.out, if_pos (Or.inr (Or.inl ⟨bne_iff_ne.1 hb3, bne_iff_ne.1 hb4⟩))])]; rfl, HW0.out.trans ((show Below W0.heap.size W0 (wo.alloc (.cells #[.int .i64 (argsF op), .bool (takesF op), .bool (condT op)] 70)) from HWT.out ▸ HB4.out).mono HW0.out.size)⟩
              case false =>
                obtain rfl : op = 2 := by simpa using hb4
                replace g0 : wo.cell? ⟨0, 6, none⟩ = some (.int .i64 (argsF 2)) := g0
                replace g1 : wo.cell? ⟨0, 7, none⟩ = some (.bool (takesF 2)) := g1
                replace g2 : wo.cell? ⟨0, 8, none⟩ = some (.bool (condT 2)) := g2
                have HB34 := Lib.hid (show ((nm.toList != ([] : List UInt8)) && ((2 : Int) != 2)) = false by rw [hb4, Bool.and_false])
                cases hb5 : ((ar.length : Int) != argsF (2 : Int))
                case true =>
                  go_wp2_with (go_at_call 47; (with_reducible refine (known_calls _ _).mono ?_); rintro e' wk ⟨rfl, hw⟩; rw [hw]; clear hw)
                  go_ret
                  exact ⟨by rw [HF.out, (show ownE has (2 : Int) nn nm ar = 5 from by unfold ownE; rw [if_pos HK.out, if_pos (Or.inr (Or.inr (bne_iff_ne.1 hb5)))])]; rfl, HW0.out.trans ((show Below W0.heap.size W0 (wo.alloc (.cells #[.int .i64 (argsF (2 : Int)), .bool (takesF (2 : Int)), .bool (condT (2 : Int))] 70)) from HWT.out ▸ HB4.out).mono HW0.out.size)⟩
                case false =>
                  have HB5 := Lib.hid hb5
                  have hcf1 := HCF.out #[.string nm, .pointer (some ⟨b, 0, none⟩)] wt
                  rw [HWT.out] at hcf1
                  cases hv : has nm
                  case false =>
                    go_wp2_with (first
                      | (go_at_call 47; (with_reducible refine (known_calls _ _).mono ?_); rintro e' wk ⟨rfl, hw⟩; rw [hw]; clear hw)
                      | (rw [← HWT.out]; (with_reducible refine (HasOK.at HH2.out wt (Below.refl _ _) nm).mono ?_); rintro e' wh ⟨rfl, hb⟩; have HBH := Lib.hid hb; obtain ⟨y0, y1, y2, y3⟩ := four ((hb.block _ HSX.out.1).trans HEB.out); obtain ⟨t0, t1, t2⟩ := three ((hb.block _ HSX.out.2).trans HTB.out); clear hb))
                    go_ret
                    exact ⟨by rw [HF.out, (show ownE has (2 : Int) nn nm ar = 8 from by unfold ownE; rw [if_pos HK.out, if_neg (not5 HB12.out HB34.out HB5.out), if_pos ⟨rfl, hv⟩])]; rfl, HW0.out.trans ((HB4.out.trans (HBH.out.mono HB4.out.size)).mono HW0.out.size)⟩
                  case true =>
                    have HV := Lib.hid hv
                    have hv1 : (!has nm) = false := by rw [hv]; rfl
                    cases hg : greatF nn
                    case true =>
                      go_wp2_with (first
                        | (go_at_call 47; (with_reducible refine (known_calls _ _).mono ?_); rintro e' wk ⟨rfl, hw⟩; rw [hw]; clear hw)
                        | (rw [← HWT.out]; (with_reducible refine (HasOK.at HH2.out wt (Below.refl _ _) nm).mono ?_); rintro e' wh ⟨rfl, hb⟩; have HBH := Lib.hid hb; obtain ⟨y0, y1, y2, y3⟩ := four ((hb.block _ HSX.out.1).trans HEB.out); obtain ⟨t0, t1, t2⟩ := three ((hb.block _ HSX.out.2).trans HTB.out); clear hb)
                        | (go_at_call 48; (with_reducible refine (great_calls _ _).mono ?_); rintro e' wk2 ⟨rfl, hw⟩; rw [hw]; clear hw))
                      go_ret
                      exact ⟨by rw [HF.out, (show ownE has (2 : Int) nn nm ar = 9 from by unfold ownE; rw [if_pos HK.out, if_neg (not5 HB12.out HB34.out HB5.out), if_neg (fun h => by rw [HV.out] at h; exact absurd h.2 (by decide)), if_pos hg])]; rfl, HW0.out.trans ((HB4.out.trans (HBH.out.mono HB4.out.size)).mono HW0.out.size)⟩
                    case false =>
                      have HGR := Lib.hid hg
                      go_wp2_with (first
                        | (go_at_call 47; (with_reducible refine (known_calls _ _).mono ?_); rintro e' wk ⟨rfl, hw⟩; rw [hw]; clear hw)
                        | (rw [← HWT.out]; (with_reducible refine (HasOK.at HH2.out wt (Below.refl _ _) nm).mono ?_); rintro e' wh ⟨rfl, hb⟩; have HBH := Lib.hid hb; obtain ⟨y0, y1, y2, y3⟩ := four ((hb.block _ HSX.out.1).trans HEB.out); obtain ⟨t0, t1, t2⟩ := three ((hb.block _ HSX.out.2).trans HTB.out); clear hb)
                        | (go_at_call 48; (with_reducible refine (great_calls _ _).mono ?_); rintro e' wk2 ⟨rfl, hw⟩; rw [hw]; clear hw))
                      have HBX := Lib.hid (HB4.out.trans (HBH.out.mono HB4.out.size))
                      have HTX := Lib.hid ((HBH.out.block _ HSX.out.2).trans HTB.out)
                      obtain ⟨wb, hwb⟩ : ∃ wb, wb = wh := ⟨_, rfl⟩
                      rw [← hwb]
                      have HBW := Lib.hid (show Below W0.heap.size W0 wb from hwb ▸ HBX.out)
                      have HTBW := Lib.hid (show wb.heap[wo.heap.size]? = some (.cells #[.int .i64 (argsF (2 : Int)), .bool (takesF (2 : Int)), .bool (condT (2 : Int))] 70) from hwb ▸ HTX.out)
                      have HSB := Lib.hid (show wo.heap.size < wb.heap.size from (Array.getElem?_eq_some_iff.1 HTBW.out).1)
                      clear hwb y0 y1 y2 y3 t0 t1 t2
                      go_loopw [81] (fun i wr => ∃ (j : Nat), i = .int .i64 (j : Int) ∧ j ≤ ar.length ∧ badArg (takesF (2 : Int)) (ar.take j) = false ∧ Below wb.heap.size wb wr) (fun i _ => ar.length - (intOf i).toNat)
                      case atStart => exact ⟨0, rfl, Nat.zero_le _, rfl, Below.refl _ _⟩
                      case round =>
                        obtain ⟨j, rfl, hj, hfj, hbv⟩ := hrel
                        have HFJ := Lib.hid hfj
                        have HBU := Lib.hid hbv
                        obtain ⟨t0, t1, t2⟩ := three ((hbv.block _ HSB.out).trans HTBW.out)
                        have HTV := Lib.hid (show wo.heap.size < wr.heap.size from Nat.lt_of_lt_of_le HSB.out hbv.size)
                        have HGV := Lib.hid (HG.out.below (HBW.out.trans (hbv.mono HBW.out.size)))
                        clear hbv hfj
                        by_cases hjt : j < ar.length
                        · have hjt2 : (j : Int) < (ar.length : Int) := by omega
                          obtain ⟨ad, A3, c3, rfl, x0, x1, x2, x3, hc3, hC3⟩ := at_T24 (Kd.C_below HC.out (HBW.out.trans (HBU.out.mono HBW.out.size))) (j : Int) (by omega) hjt2
                          rw [rd_at24 _ _ hjt] at x0 x1 x2 x3
                          rw [Int.toNat_natCast] at x0 x1 x2 x3
                          obtain ⟨a, ha⟩ : ∃ a, a = ar[j] := ⟨_, rfl⟩
                          have hl3 : (rd_T24 ar (j : Int)).f3.length = a.f3.length := by rw [rd_at24 _ _ hjt, ha]
                          rw [← ha] at x0 x1 x2 x3
                          have HA := Lib.hid ha
                          clear ha hC3 hc3 hl3
                          have HBV := Lib.hid ((Below.refl wr.heap.size wr).alloc (Nat.le_refl _) (.cells #[.int .i64 a.f0, .int .i64 a.f1, .string a.f2, .slice A3 a.f3.length c3] 24))
                          obtain ⟨z0, z1, z2, z3⟩ := four (MapKept.heap_alloc wr (.cells #[.int .i64 a.f0, .int .i64 a.f1, .string a.f2, .slice A3 a.f3.length c3] 24)).1
                          replace t1 := (HBV.out.cell (p := ⟨wo.heap.size, 1, none⟩) HTV.out).trans t1
                          cases hcd : (condF a.f0 != takesF (2 : Int))
                          case false =>
                            have hcd2 : (condF a.f0 ^^ takesF (2 : Int)) = false := by revert hcd; cases condF a.f0 <;> cases takesF (2 : Int) <;> decide
                            have hcd3 : (condF a.f0 == takesF (2 : Int)) = true := by revert hcd; cases condF a.f0 <;> cases takesF (2 : Int) <;> decide
                            have hcd4 : (!(condF a.f0 == takesF (2 : Int))) = false := by revert hcd; cases condF a.f0 <;> cases takesF (2 : Int) <;> decide
                            go_wp2
                            go_region_held3 (fun w' => w'.cell? ⟨wr.heap.size, 0, none⟩ = some (.int .i64 a.f0) ∧ w'.cell? ⟨wr.heap.size, 1, none⟩ = some (.int .i64 a.f1) ∧ w'.cell? ⟨wr.heap.size, 2, none⟩ = some (.string a.f2) ∧ w'.cell? ⟨wr.heap.size, 3, none⟩ = some (.slice A3 a.f3.length c3) ∧ w'.cell? ⟨wo.heap.size, 1, none⟩ = some (.bool (takesF (2 : Int))) ∧ Hid (Below wr.heap.size wr w')) (first | (with_reducible assumption) | (exact ⟨z0, z1, z2, z3, t1, Lib.hid (bdrew HBV.out)⟩))
                              (first
                                | (go_at_call 35; (with_reducible refine (cond_calls a.f0 a.f1 a.f2 A3 a.f3.length c3 _ ?_).mono ?_); (exact HGV.out.below (fromV (wv := wr) (b := wr.heap.size) (bt := wo.heap.size) (a := a) (A3 := A3) (c3 := c3) (t := takesF (2 : Int)) (by assumption))); rintro e' wz ⟨rfl, hb⟩; have hnew := keepV (wv := wr) (bt := wo.heap.size) (a := a) (A3 := A3) (c3 := c3) (t := takesF (2 : Int)) HTV.out (by assumption) hb; have HBZ := Lib.hid (show Below wr.heap.size wr wz from fromV (wv := wr) (b := wr.heap.size) (bt := wo.heap.size) (a := a) (A3 := A3) (c3 := c3) (t := takesF (2 : Int)) hnew); clear hb))
                            all_goals go_wp2
                            all_goals exact ⟨⟨j + 1, congrArg _ (by omega), by omega, badArg_next _ j hjt HFJ.out (by rw [← HA.out]; exact hcd), HBU.out.trans (HBZ.out.mono HBU.out.size)⟩, by simp [intOf]; omega⟩
                          case true =>
                            have hcd2 : (condF a.f0 ^^ takesF (2 : Int)) = true := by revert hcd; cases condF a.f0 <;> cases takesF (2 : Int) <;> decide
                            have hcd3 : (condF a.f0 == takesF (2 : Int)) = false := by revert hcd; cases condF a.f0 <;> cases takesF (2 : Int) <;> decide
                            have hcd4 : (!(condF a.f0 == takesF (2 : Int))) = true := by revert hcd; cases condF a.f0 <;> cases takesF (2 : Int) <;> decide
                            go_wp2
                            go_region_held3 (fun w' => w'.cell? ⟨wr.heap.size, 0, none⟩ = some (.int .i64 a.f0) ∧ w'.cell? ⟨wr.heap.size, 1, none⟩ = some (.int .i64 a.f1) ∧ w'.cell? ⟨wr.heap.size, 2, none⟩ = some (.string a.f2) ∧ w'.cell? ⟨wr.heap.size, 3, none⟩ = some (.slice A3 a.f3.length c3) ∧ w'.cell? ⟨wo.heap.size, 1, none⟩ = some (.bool (takesF (2 : Int))) ∧ Hid (Below wr.heap.size wr w')) (first | (with_reducible assumption) | (exact ⟨z0, z1, z2, z3, t1, Lib.hid (bdrew HBV.out)⟩))
                              (first
                                | (go_at_call 35; (with_reducible refine (cond_calls a.f0 a.f1 a.f2 A3 a.f3.length c3 _ ?_).mono ?_); (exact HGV.out.below (fromV (wv := wr) (b := wr.heap.size) (bt := wo.heap.size) (a := a) (A3 := A3) (c3 := c3) (t := takesF (2 : Int)) (by assumption))); rintro e' wz ⟨rfl, hb⟩; have hnew := keepV (wv := wr) (bt := wo.heap.size) (a := a) (A3 := A3) (c3 := c3) (t := takesF (2 : Int)) HTV.out (by assumption) hb; have HBZ := Lib.hid (show Below wr.heap.size wr wz from fromV (wv := wr) (b := wr.heap.size) (bt := wo.heap.size) (a := a) (A3 := A3) (c3 := c3) (t := takesF (2 : Int)) hnew); clear hb))
                            all_goals go_wp2
                            all_goals go_ret
                            all_goals exact ⟨by rw [HF.out, (show ownE has (2 : Int) nn nm ar = 27 from by unfold ownE; rw [if_pos HK.out, if_neg (not5 HB12.out HB34.out HB5.out), if_neg (fun h => by rw [HV.out] at h; exact absurd h.2 (by decide)), if_neg (by rw [HGR.out]; decide), if_pos (badArg_at ar j hjt (by rw [← HA.out]; exact hcd))])]; rfl, HW0.out.trans ((HBW.out.trans ((HBU.out.trans (HBZ.out.mono HBU.out.size)).mono HBW.out.size)).mono HW0.out.size)⟩
                        · have hje : j = ar.length := by omega
                          have HJ := Lib.hid (show badArg (takesF (2 : Int)) ar = false by have := HFJ.out; rwa [hje, List.take_length] at this)
                          clear hje
                          go_wp2
                          go_ret
                          exact ⟨by rw [HF.out, (show ownE has (2 : Int) nn nm ar = 0 from by unfold ownE; rw [if_pos HK.out, if_neg (not5 HB12.out HB34.out HB5.out), if_neg (fun h => by rw [HV.out] at h; exact absurd h.2 (by decide)), if_neg (by rw [HGR.out]; decide), if_neg (by rw [HJ.out]; decide)])]; rfl, HW0.out.trans ((HBW.out.trans (HBU.out.mono HBW.out.size)).mono HW0.out.size)⟩
            case false =>
              have hb3b : (nm.toList == ([] : List UInt8)) = true := by simpa using hb3
              have HB34 := Lib.hid (show ((nm.toList != ([] : List UInt8)) && (op != 2)) = false by rw [hb3]; rfl)
              cases hb5 : ((ar.length : Int) != argsF op)
              case true =>
                go_wp2_with (go_at_call 47; (with_reducible refine (known_calls _ _).mono ?_); rintro e' wk ⟨rfl, hw⟩; rw [hw]; clear hw)
                go_ret
                exact ⟨by rw [HF.out, (show ownE has op nn nm ar = 5 from by unfold ownE; rw [if_pos HK.out, if_pos (Or.inr (Or.inr (bne_iff_ne.1 hb5)))])]; rfl, HW0.out.trans ((show Below W0.heap.size W0 (wo.alloc (.cells #[.int .i64 (argsF op), .bool (takesF op), .bool (condT op)] 70)) from HWT.out ▸ HB4.out).mono HW0.out.size)⟩
              case false =>
                have HB5 := Lib.hid hb5
                by_cases h2 : op = 2
                · subst h2
                  replace g0 : wo.cell? ⟨0, 6, none⟩ = some (.int .i64 (argsF 2)) := g0
                  replace g1 : wo.cell? ⟨0, 7, none⟩ = some (.bool (takesF 2)) := g1
                  replace g2 : wo.cell? ⟨0, 8, none⟩ = some (.bool (condT 2)) := g2
                  have hcf1 := HCF.out #[.string nm, .pointer (some ⟨b, 0, none⟩)] wt
                  rw [HWT.out] at hcf1
                  cases hv : has nm
                  case false =>
                    go_wp2_with (first
                      | (go_at_call 47; (with_reducible refine (known_calls _ _).mono ?_); rintro e' wk ⟨rfl, hw⟩; rw [hw]; clear hw)
                      | (rw [← HWT.out]; (with_reducible refine (HasOK.at HH2.out wt (Below.refl _ _) nm).mono ?_); rintro e' wh ⟨rfl, hb⟩; have HBH := Lib.hid hb; obtain ⟨y0, y1, y2, y3⟩ := four ((hb.block _ HSX.out.1).trans HEB.out); obtain ⟨t0, t1, t2⟩ := three ((hb.block _ HSX.out.2).trans HTB.out); clear hb))
                    go_ret
                    exact ⟨by rw [HF.out, (show ownE has (2 : Int) nn nm ar = 8 from by unfold ownE; rw [if_pos HK.out, if_neg (not5 HB12.out HB34.out HB5.out), if_pos ⟨rfl, hv⟩])]; rfl, HW0.out.trans ((HB4.out.trans (HBH.out.mono HB4.out.size)).mono HW0.out.size)⟩
                  case true =>
                    have HV := Lib.hid hv
                    have hv1 : (!has nm) = false := by rw [hv]; rfl
                    cases hg : greatF nn
                    case true =>
                      go_wp2_with (first
                        | (go_at_call 47; (with_reducible refine (known_calls _ _).mono ?_); rintro e' wk ⟨rfl, hw⟩; rw [hw]; clear hw)
                        | (rw [← HWT.out]; (with_reducible refine (HasOK.at HH2.out wt (Below.refl _ _) nm).mono ?_); rintro e' wh ⟨rfl, hb⟩; have HBH := Lib.hid hb; obtain ⟨y0, y1, y2, y3⟩ := four ((hb.block _ HSX.out.1).trans HEB.out); obtain ⟨t0, t1, t2⟩ := three ((hb.block _ HSX.out.2).trans HTB.out); clear hb)
                        | (go_at_call 48; (with_reducible refine (great_calls _ _).mono ?_); rintro e' wk2 ⟨rfl, hw⟩; rw [hw]; clear hw))
                      go_ret
                      exact ⟨by rw [HF.out, (show ownE has (2 : Int) nn nm ar = 9 from by unfold ownE; rw [if_pos HK.out, if_neg (not5 HB12.out HB34.out HB5.out), if_neg (fun h => by rw [HV.out] at h; exact absurd h.2 (by decide)), if_pos hg])]; rfl, HW0.out.trans ((HB4.out.trans (HBH.out.mono HB4.out.size)).mono HW0.out.size)⟩
                    case false =>
                      have HGR := Lib.hid hg
                      go_wp2_with (first
                        | (go_at_call 47; (with_reducible refine (known_calls _ _).mono ?_); rintro e' wk ⟨rfl, hw⟩; rw [hw]; clear hw)
                        | (rw [← HWT.out]; (with_reducible refine (HasOK.at HH2.out wt (Below.refl _ _) nm).mono ?_); rintro e' wh ⟨rfl, hb⟩; have HBH := Lib.hid hb; obtain ⟨y0, y1, y2, y3⟩ := four ((hb.block _ HSX.out.1).trans HEB.out); obtain ⟨t0, t1, t2⟩ := three ((hb.block _ HSX.out.2).trans HTB.out); clear hb)
                        | (go_at_call 48; (with_reducible refine (great_calls _ _).mono ?_); rintro e' wk2 ⟨rfl, hw⟩; rw [hw]; clear hw))
                      have HBX := Lib.hid (HB4.out.trans (HBH.out.mono HB4.out.size))
                      have HTX := Lib.hid ((HBH.out.block _ HSX.out.2).trans HTB.out)
                      obtain ⟨wb, hwb⟩ : ∃ wb, wb = wh := ⟨_, rfl⟩
                      rw [← hwb]
                      have HBW := Lib.hid (show Below W0.heap.size W0 wb from hwb ▸ HBX.out)
                      have HTBW := Lib.hid (show wb.heap[wo.heap.size]? = some (.cells #[.int .i64 (argsF (2 : Int)), .bool (takesF (2 : Int)), .bool (condT (2 : Int))] 70) from hwb ▸ HTX.out)
                      have HSB := Lib.hid (show wo.heap.size < wb.heap.size from (Array.getElem?_eq_some_iff.1 HTBW.out).1)
                      clear hwb y0 y1 y2 y3 t0 t1 t2
                      go_loopw [81] (fun i wr => ∃ (j : Nat), i = .int .i64 (j : Int) ∧ j ≤ ar.length ∧ badArg (takesF (2 : Int)) (ar.take j) = false ∧ Below wb.heap.size wb wr) (fun i _ => ar.length - (intOf i).toNat)
                      case atStart => exact ⟨0, rfl, Nat.zero_le _, rfl, Below.refl _ _⟩
                      case round =>
                        obtain ⟨j, rfl, hj, hfj, hbv⟩ := hrel
                        have HFJ := Lib.hid hfj
                        have HBU := Lib.hid hbv
                        obtain ⟨t0, t1, t2⟩ := three ((hbv.block _ HSB.out).trans HTBW.out)
                        have HTV := Lib.hid (show wo.heap.size < wr.heap.size from Nat.lt_of_lt_of_le HSB.out hbv.size)
                        have HGV := Lib.hid (HG.out.below (HBW.out.trans (hbv.mono HBW.out.size)))
                        clear hbv hfj
                        by_cases hjt : j < ar.length
                        · have hjt2 : (j : Int) < (ar.length : Int) := by omega
                          obtain ⟨ad, A3, c3, rfl, x0, x1, x2, x3, hc3, hC3⟩ := at_T24 (Kd.C_below HC.out (HBW.out.trans (HBU.out.mono HBW.out.size))) (j : Int) (by omega) hjt2
                          rw [rd_at24 _ _ hjt] at x0 x1 x2 x3
                          rw [Int.toNat_natCast] at x0 x1 x2 x3
                          obtain ⟨a, ha⟩ : ∃ a, a = ar[j] := ⟨_, rfl⟩
                          have hl3 : (rd_T24 ar (j : Int)).f3.length = a.f3.length := by rw [rd_at24 _ _ hjt, ha]
                          rw [← ha] at x0 x1 x2 x3
                          have HA := Lib.hid ha
                          clear ha hC3 hc3 hl3
                          have HBV := Lib.hid ((Below.refl wr.heap.size wr).alloc (Nat.le_refl _) (.cells #[.int .i64 a.f0, .int .i64 a.f1, .string a.f2, .slice A3 a.f3.length c3] 24))
                          obtain ⟨z0, z1, z2, z3⟩ := four (MapKept.heap_alloc wr (.cells #[.int .i64 a.f0, .int .i64 a.f1, .string a.f2, .slice A3 a.f3.length c3] 24)).1
                          replace t1 := (HBV.out.cell (p := ⟨wo.heap.size, 1, none⟩) HTV.out).trans t1
                          cases hcd : (condF a.f0 != takesF (2 : Int))
                          case false =>
                            have hcd2 : (condF a.f0 ^^ takesF (2 : Int)) = false := by revert hcd; cases condF a.f0 <;> cases takesF (2 : Int) <;> decide
                            have hcd3 : (condF a.f0 == takesF (2 : Int)) = true := by revert hcd; cases condF a.f0 <;> cases takesF (2 : Int) <;> decide
                            have hcd4 : (!(condF a.f0 == takesF (2 : Int))) = false := by revert hcd; cases condF a.f0 <;> cases takesF (2 : Int) <;> decide
                            go_wp2
                            go_region_held3 (fun w' => w'.cell? ⟨wr.heap.size, 0, none⟩ = some (.int .i64 a.f0) ∧ w'.cell? ⟨wr.heap.size, 1, none⟩ = some (.int .i64 a.f1) ∧ w'.cell? ⟨wr.heap.size, 2, none⟩ = some (.string a.f2) ∧ w'.cell? ⟨wr.heap.size, 3, none⟩ = some (.slice A3 a.f3.length c3) ∧ w'.cell? ⟨wo.heap.size, 1, none⟩ = some (.bool (takesF (2 : Int))) ∧ Hid (Below wr.heap.size wr w')) (first | (with_reducible assumption) | (exact ⟨z0, z1, z2, z3, t1, Lib.hid (bdrew HBV.out)⟩))
                              (first
                                | (go_at_call 35; (with_reducible refine (cond_calls a.f0 a.f1 a.f2 A3 a.f3.length c3 _ ?_).mono ?_); (exact HGV.out.below (fromV (wv := wr) (b := wr.heap.size) (bt := wo.heap.size) (a := a) (A3 := A3) (c3 := c3) (t := takesF (2 : Int)) (by assumption))); rintro e' wz ⟨rfl, hb⟩; have hnew := keepV (wv := wr) (bt := wo.heap.size) (a := a) (A3 := A3) (c3 := c3) (t := takesF (2 : Int)) HTV.out (by assumption) hb; have HBZ := Lib.hid (show Below wr.heap.size wr wz from fromV (wv := wr) (b := wr.heap.size) (bt := wo.heap.size) (a := a) (A3 := A3) (c3 := c3) (t := takesF (2 : Int)) hnew); clear hb))
                            all_goals go_wp2
                            all_goals exact ⟨⟨j + 1, congrArg _ (by omega), by omega, badArg_next _ j hjt HFJ.out (by rw [← HA.out]; exact hcd), HBU.out.trans (HBZ.out.mono HBU.out.size)⟩, by simp [intOf]; omega⟩
                          case true =>
                            have hcd2 : (condF a.f0 ^^ takesF (2 : Int)) = true := by revert hcd; cases condF a.f0 <;> cases takesF (2 : Int) <;> decide
                            have hcd3 : (condF a.f0 == takesF (2 : Int)) = false := by revert hcd; cases condF a.f0 <;> cases takesF (2 : Int) <;> decide
                            have hcd4 : (!(condF a.f0 == takesF (2 : Int))) = true := by revert hcd; cases condF a.f0 <;> cases takesF (2 : Int) <;> decide
                            go_wp2
                            go_region_held3 (fun w' => w'.cell? ⟨wr.heap.size, 0, none⟩ = some (.int .i64 a.f0) ∧ w'.cell? ⟨wr.heap.size, 1, none⟩ = some (.int .i64 a.f1) ∧ w'.cell? ⟨wr.heap.size, 2, none⟩ = some (.string a.f2) ∧ w'.cell? ⟨wr.heap.size, 3, none⟩ = some (.slice A3 a.f3.length c3) ∧ w'.cell? ⟨wo.heap.size, 1, none⟩ = some (.bool (takesF (2 : Int))) ∧ Hid (Below wr.heap.size wr w')) (first | (with_reducible assumption) | (exact ⟨z0, z1, z2, z3, t1, Lib.hid (bdrew HBV.out)⟩))
                              (first
                                | (go_at_call 35; (with_reducible refine (cond_calls a.f0 a.f1 a.f2 A3 a.f3.length c3 _ ?_).mono ?_); (exact HGV.out.below (fromV (wv := wr) (b := wr.heap.size) (bt := wo.heap.size) (a := a) (A3 := A3) (c3 := c3) (t := takesF (2 : Int)) (by assumption))); rintro e' wz ⟨rfl, hb⟩; have hnew := keepV (wv := wr) (bt := wo.heap.size) (a := a) (A3 := A3) (c3 := c3) (t := takesF (2 : Int)) HTV.out (by assumption) hb; have HBZ := Lib.hid (show Below wr.heap.size wr wz from fromV (wv := wr) (b := wr.heap.size) (bt := wo.heap.size) (a := a) (A3 := A3) (c3 := c3) (t := takesF (2 : Int)) hnew); clear hb))
                            all_goals go_wp2
                            all_goals go_ret
                            all_goals exact ⟨by rw [HF.out, (show ownE has (2 : Int) nn nm ar = 27 from by unfold ownE; rw [if_pos HK.out, if_neg (not5 HB12.out HB34.out HB5.out), if_neg (fun h => by rw [HV.out] at h; exact absurd h.2 (by decide)), if_neg (by rw [HGR.out]; decide), if_pos (badArg_at ar j hjt (by rw [← HA.out]; exact hcd))])]; rfl, HW0.out.trans ((HBW.out.trans ((HBU.out.trans (HBZ.out.mono HBU.out.size)).mono HBW.out.size)).mono HW0.out.size)⟩
                        · have hje : j = ar.length := by omega
                          have HJ := Lib.hid (show badArg (takesF (2 : Int)) ar = false by have := HFJ.out; rwa [hje, List.take_length] at this)
                          clear hje
                          go_wp2
                          go_ret
                          exact ⟨by rw [HF.out, (show ownE has (2 : Int) nn nm ar = 0 from by unfold ownE; rw [if_pos HK.out, if_neg (not5 HB12.out HB34.out HB5.out), if_neg (fun h => by rw [HV.out] at h; exact absurd h.2 (by decide)), if_neg (by rw [HGR.out]; decide), if_neg (by rw [HJ.out]; decide)])]; rfl, HW0.out.trans ((HBW.out.trans (HBU.out.mono HBW.out.size)).mono HW0.out.size)⟩
                · have h2b : (op == 2) = false := beq_eq_false_iff_ne.2 h2
                  have H2 := Lib.hid h2
                  clear h2
                  cases hg : greatF nn
                  case true =>
                    go_wp2_with (first
                      | (go_at_call 47; (with_reducible refine (known_calls _ _).mono ?_); rintro e' wk ⟨rfl, hw⟩; rw [hw]; clear hw)
                      | (go_at_call 48; (with_reducible refine (great_calls _ _).mono ?_); rintro e' wk2 ⟨rfl, hw⟩; rw [hw]; clear hw))
                    go_ret
                    exact ⟨by rw [HF.out, (show ownE has op nn nm ar = 9 from by unfold ownE; rw [if_pos HK.out, if_neg (not5 HB12.out HB34.out HB5.out), if_neg (fun h => H2.out h.1), if_pos hg])]; rfl, HW0.out.trans ((show Below W0.heap.size W0 (wo.alloc (.cells #[.int .i64 (argsF op), .bool (takesF op), .bool (condT op)] 70)) from HWT.out ▸ HB4.out).mono HW0.out.size)⟩
                  case false =>
                    have HGR := Lib.hid hg
                    go_wp2_with (first
                      | (go_at_call 47; (with_reducible refine (known_calls _ _).mono ?_); rintro e' wk ⟨rfl, hw⟩; rw [hw]; clear hw)
                      | (go_at_call 48; (with_reducible refine (great_calls _ _).mono ?_); rintro e' wk2 ⟨rfl, hw⟩; rw [hw]; clear hw))
                    have HBX := Lib.hid (show Below W0.heap.size W0 (wo.alloc (.cells #[.int .i64 (argsF op), .bool (takesF op), .bool (condT op)] 70)) from HWT.out ▸ HB4.out)
                    have HTX := Lib.hid (show (wo.alloc (.cells #[.int .i64 (argsF op), .bool (takesF op), .bool (condT op)] 70)).heap[wo.heap.size]? = some (.cells #[.int .i64 (argsF op), .bool (takesF op), .bool (condT op)] 70) from HWT.out ▸ HTB.out)
                    obtain ⟨wb, hwb⟩ : ∃ wb, wb = (wo.alloc (.cells #[.int .i64 (argsF op), .bool (takesF op), .bool (condT op)] 70)) := ⟨_, rfl⟩
                    rw [← hwb]
                    have HBW := Lib.hid (show Below W0.heap.size W0 wb from hwb ▸ HBX.out)
                    have HTBW := Lib.hid (show wb.heap[wo.heap.size]? = some (.cells #[.int .i64 (argsF op), .bool (takesF op), .bool (condT op)] 70) from hwb ▸ HTX.out)
                    have HSB := Lib.hid (show wo.heap.size < wb.heap.size from (Array.getElem?_eq_some_iff.1 HTBW.out).1)
                    clear hwb y0 y1 y2 y3 t0 t1 t2
                    go_loopw [81] (fun i wr => ∃ (j : Nat), i = .int .i64 (j : Int) ∧ j ≤ ar.length ∧ badArg (takesF op) (ar.take j) = false ∧ Below wb.heap.size wb wr) (fun i _ => ar.length - (intOf i).toNat)
                    case atStart => exact ⟨0, rfl, Nat.zero_le _, rfl, Below.refl _ _⟩
                    case round =>
                      obtain ⟨j, rfl, hj, hfj, hbv⟩ := hrel
                      have HFJ := Lib.hid hfj
                      have HBU := Lib.hid hbv
                      obtain ⟨t0, t1, t2⟩ := three ((hbv.block _ HSB.out).trans HTBW.out)
                      have HTV := Lib.hid (show wo.heap.size < wr.heap.size from Nat.lt_of_lt_of_le HSB.out hbv.size)
                      have HGV := Lib.hid (HG.out.below (HBW.out.trans (hbv.mono HBW.out.size)))
                      clear hbv hfj
                      by_cases hjt : j < ar.length
                      · have hjt2 : (j : Int) < (ar.length : Int) := by omega
                        obtain ⟨ad, A3, c3, rfl, x0, x1, x2, x3, hc3, hC3⟩ := at_T24 (Kd.C_below HC.out (HBW.out.trans (HBU.out.mono HBW.out.size))) (j : Int) (by omega) hjt2
                        rw [rd_at24 _ _ hjt] at x0 x1 x2 x3
                        rw [Int.toNat_natCast] at x0 x1 x2 x3
                        obtain ⟨a, ha⟩ : ∃ a, a = ar[j] := ⟨_, rfl⟩
                        have hl3 : (rd_T24 ar (j : Int)).f3.length = a.f3.length := by rw [rd_at24 _ _ hjt, ha]
                        rw [← ha] at x0 x1 x2 x3
                        have HA := Lib.hid ha
                        clear ha hC3 hc3 hl3
                        have HBV := Lib.hid ((Below.refl wr.heap.size wr).alloc (Nat.le_refl _) (.cells #[.int .i64 a.f0, .int .i64 a.f1, .string a.f2, .slice A3 a.f3.length c3] 24))
                        obtain ⟨z0, z1, z2, z3⟩ := four (MapKept.heap_alloc wr (.cells #[.int .i64 a.f0, .int .i64 a.f1, .string a.f2, .slice A3 a.f3.length c3] 24)).1
                        replace t1 := (HBV.out.cell (p := ⟨wo.heap.size, 1, none⟩) HTV.out).trans t1
                        cases hcd : (condF a.f0 != takesF op)
                        case false =>
                          have hcd2 : (condF a.f0 ^^ takesF op) = false := by revert hcd; cases condF a.f0 <;> cases takesF op <;> decide
                          have hcd3 : (condF a.f0 == takesF op) = true := by revert hcd; cases condF a.f0 <;> cases takesF op <;> decide
                          have hcd4 : (!(condF a.f0 == takesF op)) = false := by revert hcd; cases condF a.f0 <;> cases takesF op <;> decide
                          go_wp2
                          go_region_held3 (fun w' => w'.cell? ⟨wr.heap.size, 0, none⟩ = some (.int .i64 a.f0) ∧ w'.cell? ⟨wr.heap.size, 1, none⟩ = some (.int .i64 a.f1) ∧ w'.cell? ⟨wr.heap.size, 2, none⟩ = some (.string a.f2) ∧ w'.cell? ⟨wr.heap.size, 3, none⟩ = some (.slice A3 a.f3.length c3) ∧ w'.cell? ⟨wo.heap.size, 1, none⟩ = some (.bool (takesF op)) ∧ Hid (Below wr.heap.size wr w')) (first | (with_reducible assumption) | (exact ⟨z0, z1, z2, z3, t1, Lib.hid (bdrew HBV.out)⟩))
                            (first
                              | (go_at_call 35; (with_reducible refine (cond_calls a.f0 a.f1 a.f2 A3 a.f3.length c3 _ ?_).mono ?_); (exact HGV.out.below (fromV (wv := wr) (b := wr.heap.size) (bt := wo.heap.size) (a := a) (A3 := A3) (c3 := c3) (t := takesF op) (by assumption))); rintro e' wz ⟨rfl, hb⟩; have hnew := keepV (wv := wr) (bt := wo.heap.size) (a := a) (A3 := A3) (c3 := c3) (t := takesF op) HTV.out (by assumption) hb; have HBZ := Lib.hid (show Below wr.heap.size wr wz from fromV (wv := wr) (b := wr.heap.size) (bt := wo.heap.size) (a := a) (A3 := A3) (c3 := c3) (t := takesF op) hnew); clear hb))
                          all_goals go_wp2
                          all_goals exact ⟨⟨j + 1, congrArg _ (by omega), by omega, badArg_next _ j hjt HFJ.out (by rw [← HA.out]; exact hcd), HBU.out.trans (HBZ.out.mono HBU.out.size)⟩, by simp [intOf]; omega⟩
                        case true =>
                          have hcd2 : (condF a.f0 ^^ takesF op) = true := by revert hcd; cases condF a.f0 <;> cases takesF op <;> decide
                          have hcd3 : (condF a.f0 == takesF op) = false := by revert hcd; cases condF a.f0 <;> cases takesF op <;> decide
                          have hcd4 : (!(condF a.f0 == takesF op)) = true := by revert hcd; cases condF a.f0 <;> cases takesF op <;> decide
                          go_wp2
                          go_region_held3 (fun w' => w'.cell? ⟨wr.heap.size, 0, none⟩ = some (.int .i64 a.f0) ∧ w'.cell? ⟨wr.heap.size, 1, none⟩ = some (.int .i64 a.f1) ∧ w'.cell? ⟨wr.heap.size, 2, none⟩ = some (.string a.f2) ∧ w'.cell? ⟨wr.heap.size, 3, none⟩ = some (.slice A3 a.f3.length c3) ∧ w'.cell? ⟨wo.heap.size, 1, none⟩ = some (.bool (takesF op)) ∧ Hid (Below wr.heap.size wr w')) (first | (with_reducible assumption) | (exact ⟨z0, z1, z2, z3, t1, Lib.hid (bdrew HBV.out)⟩))
                            (first
                              | (go_at_call 35; (with_reducible refine (cond_calls a.f0 a.f1 a.f2 A3 a.f3.length c3 _ ?_).mono ?_); (exact HGV.out.below (fromV (wv := wr) (b := wr.heap.size) (bt := wo.heap.size) (a := a) (A3 := A3) (c3 := c3) (t := takesF op) (by assumption))); rintro e' wz ⟨rfl, hb⟩; have hnew := keepV (wv := wr) (bt := wo.heap.size) (a := a) (A3 := A3) (c3 := c3) (t := takesF op) HTV.out (by assumption) hb; have HBZ := Lib.hid (show Below wr.heap.size wr wz from fromV (wv := wr) (b := wr.heap.size) (bt := wo.heap.size) (a := a) (A3 := A3) (c3 := c3) (t := takesF op) hnew); clear hb))
                          all_goals go_wp2
                          all_goals go_ret
                          all_goals exact ⟨by rw [HF.out, (show ownE has op nn nm ar = 27 from by unfold ownE; rw [if_pos HK.out, if_neg (not5 HB12.out HB34.out HB5.out), if_neg (fun h => H2.out h.1), if_neg (by rw [HGR.out]; decide), if_pos (badArg_at ar j hjt (by rw [← HA.out]; exact hcd))])]; rfl, HW0.out.trans ((HBW.out.trans ((HBU.out.trans (HBZ.out.mono HBU.out.size)).mono HBW.out.size)).mono HW0.out.size)⟩
                      · have hje : j = ar.length := by omega
                        have HJ := Lib.hid (show badArg (takesF op) ar = false by have := HFJ.out; rwa [hje, List.take_length] at this)
                        clear hje
                        go_wp2
                        go_ret
                        exact ⟨by rw [HF.out, (show ownE has op nn nm ar = 0 from by unfold ownE; rw [if_pos HK.out, if_neg (not5 HB12.out HB34.out HB5.out), if_neg (fun h => H2.out h.1), if_neg (by rw [HGR.out]; decide), if_neg (by rw [HJ.out]; decide)])]; rfl, HW0.out.trans ((HBW.out.trans (HBU.out.mono HBW.out.size)).mono HW0.out.size)⟩
        · have hk3 : knownF op = false := by simpa using hk
          have HK := Lib.hid hk3
          clear hk
          go_wp2_with (go_at_call 47; (with_reducible refine (known_calls _ _).mono ?_); rintro e' wk ⟨rfl, hw⟩; rw [hw]; clear hw)
          go_ret
          exact ⟨by rw [HF.out, (show ownE has op nn nm ar = 10 from by unfold ownE; rw [if_neg (by rw [HK.out]; decide)])]; rfl, HW0.out.trans (HB1.out.mono HW0.out.size)⟩
end Go.Proofs.YthdgofbchfcfcaaDoor.PRu
