/- The account beside its reference, as the statement compares them; no condition but that they belong together. -/
import Derived.Test.YtmbelohcebfdcaaRef
import Derived.Test.YtmbelohcebfdcaaLeft
import Derived.Deep.RegionHeld3
set_option linter.unusedVariables false
set_option linter.unusedSimpArgs false
namespace Go.Proofs.Ytmbelohcebfdcaa.Acc
open Go.RowKit Go.Maps Go.Proofs.Ytmbelohcebfdcaa.PRf Go.Proofs.YtmbelohcebfdcaaW.PrintWords Go.Proofs.YtmbelohcebfdcaaW.PrintLast Go.Proofs.YtmbelohcebfdcaaW.PrintMore
attribute [local go_sem] max2_int min2_int max_two min_two
/-- The box of the reference's account, and what lies in it, and the account beside it. -/
structure Both (W0 : World) (sb bm : Nat) (s : St) (A : Option Addr) (cs : List S60) (w : World) : Prop where
  acc : AccS w sb bm s
  row : Kd.C k60 w A cs.length cs
  bel : Below W0.heap.size W0 w
theorem Both.below {W0 w w' : World} {sb bm : Nat} {s : St} {A : Option Addr} {cs : List S60} (h : Both W0 sb bm s A cs w) (hb : Below w.heap.size w w') : Both W0 sb bm s A cs w' :=
  ⟨h.acc.below hb, Kd.C_below h.row hb, h.bel.trans (hb.mono h.bel.size)⟩
theorem Both.drewN {W0 w : World} {sb bm : Nat} {s : St} {A : Option Addr} {cs : List S60} (h : Both W0 sb bm s A cs w) (k : Nat) : Both W0 sb bm s A cs (w.drewN k) := h.below ⟨rfl, rfl, rfl, Nat.le_refl _, fun _ _ => rfl⟩
def Cells (w : World) (b : Nat) (s : St) (v : Value) : Prop := w.cell? ⟨b, 0, none⟩ = some (.int .i64 s.f) ∧ w.cell? ⟨b, 1, none⟩ = some (.int .i64 s.p) ∧ w.cell? ⟨b, 2, none⟩ = some (.int .i64 s.la) ∧ w.cell? ⟨b, 3, none⟩ = some (.int .i64 s.cr) ∧ w.cell? ⟨b, 4, none⟩ = some (.int .i64 s.cl) ∧ w.cell? ⟨b, 5, none⟩ = some (v)
theorem Cells.of {w : World} {b : Nat} {s : St} {v : Value} (h : w.heap[b]? = some (.cells #[.int .i64 s.f, .int .i64 s.p, .int .i64 s.la, .int .i64 s.cr, .int .i64 s.cl, v] 30)) : Cells w b s v := by
  unfold Cells
  simp only [World.cell?, h]
  exact ⟨rfl, rfl, rfl, rfl, rfl, rfl⟩
theorem Cells.below {w w' : World} {b B : Nat} {s : St} {v : Value} (h : Cells w b s v) (hb : Below B w w') (hlt : b < B) : Cells w' b s v :=
  ⟨(hb.cell hlt).trans h.1, (hb.cell hlt).trans h.2.1, (hb.cell hlt).trans h.2.2.1, (hb.cell hlt).trans h.2.2.2.1, (hb.cell hlt).trans h.2.2.2.2.1, (hb.cell hlt).trans h.2.2.2.2.2⟩
theorem keepI {W0 w w' : World} {sb bm b0 : Nat} {s : St} {A : Option Addr} {cs : List S60} {cap : Nat} (hlt : b0 < W0.heap.size) (h : (w.cell? ⟨b0, 0, none⟩ = some (.int .i64 s.f) ∧ w.cell? ⟨b0, 1, none⟩ = some (.int .i64 s.p) ∧ w.cell? ⟨b0, 2, none⟩ = some (.int .i64 s.la) ∧ w.cell? ⟨b0, 3, none⟩ = some (.int .i64 s.cr) ∧ w.cell? ⟨b0, 4, none⟩ = some (.int .i64 s.cl) ∧ w.cell? ⟨b0, 5, none⟩ = some (.slice A cs.length cap)) ∧ Hid (Both W0 sb bm s A cs w)) (hb : Below w.heap.size w w') : (w'.cell? ⟨b0, 0, none⟩ = some (.int .i64 s.f) ∧ w'.cell? ⟨b0, 1, none⟩ = some (.int .i64 s.p) ∧ w'.cell? ⟨b0, 2, none⟩ = some (.int .i64 s.la) ∧ w'.cell? ⟨b0, 3, none⟩ = some (.int .i64 s.cr) ∧ w'.cell? ⟨b0, 4, none⟩ = some (.int .i64 s.cl) ∧ w'.cell? ⟨b0, 5, none⟩ = some (.slice A cs.length cap)) ∧ Hid (Both W0 sb bm s A cs w') := by
  obtain ⟨h1, h2⟩ := h
  have h3 := h2.out.bel.size
  exact ⟨Cells.below (s := s) (v := .slice A cs.length cap) h1 hb (by omega), Lib.hid (h2.out.below hb)⟩
theorem fromI {W0 w : World} {sb bm b0 : Nat} {s : St} {A : Option Addr} {cs : List S60} {cap : Nat} (h : (w.cell? ⟨b0, 0, none⟩ = some (.int .i64 s.f) ∧ w.cell? ⟨b0, 1, none⟩ = some (.int .i64 s.p) ∧ w.cell? ⟨b0, 2, none⟩ = some (.int .i64 s.la) ∧ w.cell? ⟨b0, 3, none⟩ = some (.int .i64 s.cr) ∧ w.cell? ⟨b0, 4, none⟩ = some (.int .i64 s.cl) ∧ w.cell? ⟨b0, 5, none⟩ = some (.slice A cs.length cap)) ∧ Hid (Both W0 sb bm s A cs w)) : Both W0 sb bm s A cs w := h.2.out
set_option maxRecDepth 100000 in
set_option maxHeartbeats 2000000 in
theorem is_calls (n sb bm : Nat) (s : St) (A : Option Addr) (cap : Nat) (cs : List S60) (q : Int) (w : World) (hI : Inv n s) (hn : n ≤ 200) (hR : Rel n s cs) (hA : AccS w sb bm s) (hC : Kd.C k60 w A cs.length cs) (hcap : cs.length ≤ cap) :
    Calls Try.prog 13 #[.pointer (some ⟨sb, 0, none⟩), .agg #[.int .i64 s.f, .int .i64 s.p, .int .i64 s.la, .int .i64 s.cr, .int .i64 s.cl, .slice A cs.length cap], .int .i64 q] w fun e w' => e = .returned (.bool true) ∧ Below w.heap.size w w' := by
  have HI := Lib.hid hI
  have HR := Lib.hid hR
  obtain ⟨W0, hW0⟩ : ∃ W0, W0 = w.alloc (.cells #[.int .i64 s.f, .int .i64 s.p, .int .i64 s.la, .int .i64 s.cr, .int .i64 s.cl, .slice A cs.length cap] 30) := ⟨_, rfl⟩
  have HW0 := Lib.hid (show Below w.heap.size w W0 from hW0 ▸ (Below.refl w.heap.size w).alloc (Nat.le_refl _) _)
  have HCE := Lib.hid (show Cells W0 w.heap.size s (.slice A cs.length cap) from Cells.of (by rw [hW0]; exact (MapKept.heap_alloc w _).1))
  have HSZ := Lib.hid (show w.heap.size < W0.heap.size by rw [hW0]; simp)
  have HBO := Lib.hid (show Both W0 sb bm s A cs W0 from ⟨hA.below HW0.out, Kd.C_below hC HW0.out, Below.refl _ _⟩)
  have HWW := Lib.hid hW0
  clear hW0 hI hR hA hC
  go_enter Try.func13, Try.ntmps13
  go_wp2
  rw [← HWW.out]
  go_loopw [7] (fun i wr => ∃ (j : Nat), i = .int .i64 ((j : Int) - 2) ∧ j ≤ 5 ∧ Both W0 sb bm s A cs wr) (fun i _ => (3 - intOf i).toNat)
  case atStart => exact ⟨0, rfl, by omega, HBO.out⟩
  case round =>
    obtain ⟨j, rfl, hj, hbo⟩ := hrel
    have HB1 := Lib.hid hbo
    obtain ⟨y0, y1, y2, y3, y4, y5⟩ := HCE.out.below HB1.out.bel HSZ.out
    clear hbo
    by_cases hjt : j < 5
    · have hj1 : decide ((j : Int) - 2 ≤ 2) = true := by simp; omega
      go_wp2
      all_goals (
      go_region_held3 (fun w' => (w'.cell? ⟨w.heap.size, 0, none⟩ = some (.int .i64 s.f) ∧ w'.cell? ⟨w.heap.size, 1, none⟩ = some (.int .i64 s.p) ∧ w'.cell? ⟨w.heap.size, 2, none⟩ = some (.int .i64 s.la) ∧ w'.cell? ⟨w.heap.size, 3, none⟩ = some (.int .i64 s.cr) ∧ w'.cell? ⟨w.heap.size, 4, none⟩ = some (.int .i64 s.cl) ∧ w'.cell? ⟨w.heap.size, 5, none⟩ = some (.slice A cs.length cap)) ∧ Hid (Both W0 sb bm s A cs w')) (first | assumption | (exact ⟨⟨y0, y1, y2, y3, y4, y5⟩, Lib.hid (HB1.out.drewN 1)⟩))
      (first
      | (go_at_call 15; (with_reducible refine (left_st n sb bm s _ _ HI.out.good (fromI (W0 := W0) (sb := sb) (bm := bm) (b0 := w.heap.size) (s := s) (A := A) (cs := cs) (cap := cap) (by assumption)).acc).mono ?_); rintro e wy ⟨rfl, hb⟩; have hnew := keepI (W0 := W0) (sb := sb) (bm := bm) (b0 := w.heap.size) (s := s) (A := A) (cs := cs) (cap := cap) HSZ.out (by assumption) hb; clear hb)
      | (go_at_call 16; (with_reducible refine (gone_st n sb bm s _ _ HI.out.good (fromI (W0 := W0) (sb := sb) (bm := bm) (b0 := w.heap.size) (s := s) (A := A) (cs := cs) (cap := cap) (by assumption)).acc).mono ?_); rintro e wy ⟨rfl, hb⟩; have hnew := keepI (W0 := W0) (sb := sb) (bm := bm) (b0 := w.heap.size) (s := s) (A := A) (cs := cs) (cap := cap) HSZ.out (by assumption) hb; clear hb)
      | (go_at_call 22; (with_reducible refine (sawmillref55_Account_Left.calls 300 s.f s.p s.la s.cr s.cl A cap cs _ (leftF s.p _ s.l) _ (fromI (W0 := W0) (sb := sb) (bm := bm) (b0 := w.heap.size) (s := s) (A := A) (cs := cs) (cap := cap) (by assumption)).row hcap (ref_left HR.out HI.out hn _)).mono ?_); rintro e wy ⟨rfl, hb⟩; have hnew := keepI (W0 := W0) (sb := sb) (bm := bm) (b0 := w.heap.size) (s := s) (A := A) (cs := cs) (cap := cap) HSZ.out (by assumption) hb; clear hb)
      | (go_at_call 23; (with_reducible refine (sawmillref55_Account_Expired.calls 300 s.f s.p s.la s.cr s.cl A cap cs _ (goneS s.p _ s.l) _ (fromI (W0 := W0) (sb := sb) (bm := bm) (b0 := w.heap.size) (s := s) (A := A) (cs := cs) (cap := cap) (by assumption)).row hcap (ref_gone HR.out HI.out hn _)).mono ?_); rintro e wy ⟨rfl, hb⟩; have hnew := keepI (W0 := W0) (sb := sb) (bm := bm) (b0 := w.heap.size) (s := s) (A := A) (cs := cs) (cap := cap) HSZ.out (by assumption) hb; clear hb))
      all_goals go_wp2
      all_goals exact ⟨⟨j + 1, congrArg _ (by omega), by omega, fromI (W0 := W0) (sb := sb) (bm := bm) (b0 := w.heap.size) (s := s) (A := A) (cs := cs) (cap := cap) (by assumption)⟩, by simp [intOf]; omega⟩)
    · have hj1 : decide ((j : Int) - 2 ≤ 2) = false := by simp; omega
      go_wp2_with (go_at_call 14; (with_reducible refine (totals_st sb bm s _ HB1.out.acc).mono ?_); rintro e wx ⟨k1, rfl, rfl⟩; have HB2 := Lib.hid (HB1.out.drewN k1))
      obtain ⟨wq, hwq⟩ : ∃ wq, wq = wr.drewN k1 := ⟨_, rfl⟩
      replace HB2 := Lib.hid (show Both W0 sb bm s A cs wq from hwq ▸ HB2.out)
      rw [← hwq]
      clear hwq y0 y1 y2 y3 y4 y5
      obtain ⟨y0, y1, y2, y3, y4, y5⟩ := HCE.out.below HB2.out.bel HSZ.out
      go_region_held3 (fun w' => (w'.cell? ⟨w.heap.size, 0, none⟩ = some (.int .i64 s.f) ∧ w'.cell? ⟨w.heap.size, 1, none⟩ = some (.int .i64 s.p) ∧ w'.cell? ⟨w.heap.size, 2, none⟩ = some (.int .i64 s.la) ∧ w'.cell? ⟨w.heap.size, 3, none⟩ = some (.int .i64 s.cr) ∧ w'.cell? ⟨w.heap.size, 4, none⟩ = some (.int .i64 s.cl) ∧ w'.cell? ⟨w.heap.size, 5, none⟩ = some (.slice A cs.length cap)) ∧ Hid (Both W0 sb bm s A cs w')) (first | assumption | (exact ⟨⟨y0, y1, y2, y3, y4, y5⟩, Lib.hid (HB2.out.drewN 1)⟩))
      (first
      | (go_at_call 15; (with_reducible refine (left_st n sb bm s _ _ HI.out.good (fromI (W0 := W0) (sb := sb) (bm := bm) (b0 := w.heap.size) (s := s) (A := A) (cs := cs) (cap := cap) (by assumption)).acc).mono ?_); rintro e wy ⟨rfl, hb⟩; have hnew := keepI (W0 := W0) (sb := sb) (bm := bm) (b0 := w.heap.size) (s := s) (A := A) (cs := cs) (cap := cap) HSZ.out (by assumption) hb; clear hb)
      | (go_at_call 16; (with_reducible refine (gone_st n sb bm s _ _ HI.out.good (fromI (W0 := W0) (sb := sb) (bm := bm) (b0 := w.heap.size) (s := s) (A := A) (cs := cs) (cap := cap) (by assumption)).acc).mono ?_); rintro e wy ⟨rfl, hb⟩; have hnew := keepI (W0 := W0) (sb := sb) (bm := bm) (b0 := w.heap.size) (s := s) (A := A) (cs := cs) (cap := cap) HSZ.out (by assumption) hb; clear hb)
      | (go_at_call 22; (with_reducible refine (sawmillref55_Account_Left.calls 300 s.f s.p s.la s.cr s.cl A cap cs _ (leftF s.p _ s.l) _ (fromI (W0 := W0) (sb := sb) (bm := bm) (b0 := w.heap.size) (s := s) (A := A) (cs := cs) (cap := cap) (by assumption)).row hcap (ref_left HR.out HI.out hn _)).mono ?_); rintro e wy ⟨rfl, hb⟩; have hnew := keepI (W0 := W0) (sb := sb) (bm := bm) (b0 := w.heap.size) (s := s) (A := A) (cs := cs) (cap := cap) HSZ.out (by assumption) hb; clear hb)
      | (go_at_call 23; (with_reducible refine (sawmillref55_Account_Expired.calls 300 s.f s.p s.la s.cr s.cl A cap cs _ (goneS s.p _ s.l) _ (fromI (W0 := W0) (sb := sb) (bm := bm) (b0 := w.heap.size) (s := s) (A := A) (cs := cs) (cap := cap) (by assumption)).row hcap (ref_gone HR.out HI.out hn _)).mono ?_); rintro e wy ⟨rfl, hb⟩; have hnew := keepI (W0 := W0) (sb := sb) (bm := bm) (b0 := w.heap.size) (s := s) (A := A) (cs := cs) (cap := cap) HSZ.out (by assumption) hb; clear hb))
      all_goals go_wp2
      all_goals go_ret
      all_goals exact ⟨rfl, HW0.out.trans ((fromI (W0 := W0) (sb := sb) (bm := bm) (b0 := w.heap.size) (s := s) (A := A) (cs := cs) (cap := cap) (by assumption)).bel.mono HW0.out.size)⟩
end Go.Proofs.Ytmbelohcebfdcaa.Acc
