/- The package's examples: they hold. -/
import Derived.Test.YtmbelohcebfdcaaLawBase
set_option linter.unusedVariables false
set_option linter.unusedSimpArgs false
namespace Go.Proofs.Ytmbelohcebfdcaa.Acc
open Go.RowKit Go.Maps
def s0 : St := ⟨500, 3, -1, [], 0, 0⟩
def s1 : St := ⟨500, 3, 0, [(0, 500)], 500, 0⟩
def s2 : St := ⟨500, 3, 2, [(0, 500), (2, 100)], 600, 0⟩
def s3 : St := ⟨500, 3, 2, [(2, 50)], 600, 550⟩
theorem g0 : Good 10 s0 := ⟨List.Pairwise.nil, by decide, by simp [s0]⟩
theorem g1 : Good 10 s1 := ⟨by simp [s1, Asc], by decide, by simp [s1]⟩
theorem g2 : Good 10 s2 := ⟨by simp [s2, Asc], by decide, by simp [s2]⟩
theorem g3 : Good 10 s3 := ⟨by simp [s3, Asc], by decide, by simp [s3]⟩
theorem aw1 (w : World) (sb bm : Nat) (h : AccS w sb bm s0) : Calls Try.prog 17 #[.pointer (some ⟨sb, 0, none⟩), .int .i64 0, .int .i64 1001] w fun e w' => e = .returned (.int .i64 0) ∧ Kept2 sb bm w w' ∧ AccS w' sb bm s1 := by
  have := cred_st 10 sb bm s0 0 1001 w g0 (by decide) h
  rw [show credC s0 0 1001 = 0 by decide +kernel, show credS s0 0 1001 = s1 by kernel_rfl] at this
  exact this
theorem aw2 (w : World) (sb bm : Nat) (h : AccS w sb bm s1) : Calls Try.prog 17 #[.pointer (some ⟨sb, 0, none⟩), .int .i64 2, .int .i64 200] w fun e w' => e = .returned (.int .i64 0) ∧ Kept2 sb bm w w' ∧ AccS w' sb bm s2 := by
  have := cred_st 10 sb bm s1 2 200 w g1 (by decide) h
  rw [show credC s1 2 200 = 0 by decide +kernel, show credS s1 2 200 = s2 by kernel_rfl] at this
  exact this
theorem aw3 (w : World) (sb bm : Nat) (h : AccS w sb bm s2) : Calls Try.prog 18 #[.pointer (some ⟨sb, 0, none⟩), .int .i64 2, .int .i64 550] w fun e w' => e = .returned (.int .i64 0) ∧ Kept2 sb bm w w' ∧ AccS w' sb bm s3 := by
  have := claim_st 10 sb bm s2 2 550 w g2 (by decide) h
  rw [show claimC s2 2 550 = 0 by decide +kernel, show claimT s2 2 550 = s3 by kernel_rfl] at this
  exact this
theorem aw4 (w : World) (sb bm : Nat) (h : AccS w sb bm s3) : Calls Try.prog 18 #[.pointer (some ⟨sb, 0, none⟩), .int .i64 1, .int .i64 1] w fun e w' => e = .returned (.int .i64 15) ∧ Kept2 sb bm w w' ∧ AccS w' sb bm s3 := by
  have := claim_st 10 sb bm s3 1 1 w g3 (by decide) h
  rw [show claimC s3 1 1 = 15 by decide +kernel, show claimT s3 1 1 = s3 by kernel_rfl] at this
  exact this
theorem aw5 (w : World) (sb bm : Nat) (h : AccS w sb bm s3) : Calls Try.prog 18 #[.pointer (some ⟨sb, 0, none⟩), .int .i64 2, .int .i64 51] w fun e w' => e = .returned (.int .i64 23) ∧ Kept2 sb bm w w' ∧ AccS w' sb bm s3 := by
  have := claim_st 10 sb bm s3 2 51 w g3 (by decide) h
  rw [show claimC s3 2 51 = 23 by decide +kernel, show claimT s3 2 51 = s3 by kernel_rfl] at this
  exact this
theorem left_st (n sb bm : Nat) (s : St) (q : Int) (w : World) (hg : Good n s) (hA : AccS w sb bm s) : Calls Try.prog 15 #[.pointer (some ⟨sb, 0, none⟩), .int .i64 q] w fun e w' => e = .returned (.int .i64 (leftF s.p q s.l)) ∧ Below w.heap.size w w' :=
  left_calls sb bm q s.f s.p s.la s.cr s.cl s.l w hA hg.asc
theorem gone_st (n sb bm : Nat) (s : St) (q : Int) (w : World) (hg : Good n s) (hA : AccS w sb bm s) : Calls Try.prog 16 #[.pointer (some ⟨sb, 0, none⟩), .int .i64 q] w fun e w' => e = .returned (.int .i64 (goneS s.p q s.l)) ∧ Below w.heap.size w w' :=
  gone_calls sb bm q s.f s.p s.la s.cr s.cl s.l w hA hg.asc
theorem totals_st (sb bm : Nat) (s : St) (w : World) (hA : AccS w sb bm s) : Calls Try.prog 14 #[.pointer (some ⟨sb, 0, none⟩)] w fun e w' => ∃ k, e = .returned (.tuple #[.int .i64 s.cr, .int .i64 s.cl]) ∧ w' = w.drewN k :=
  totals_calls sb s.cr s.cl w hA.blk.c4 hA.blk.c5
theorem AccS.below {w w' : World} {sb bm : Nat} {s : St} (h : AccS w sb bm s) (hb : Below w.heap.size w w') : AccS w' sb bm s := Acc.below h hb (Nat.le_refl _)
theorem AccS.drewN {w : World} {sb bm : Nat} {s : St} (h : AccS w sb bm s) (k : Nat) : AccS (w.drewN k) sb bm s := Acc.of h rfl rfl
theorem nv1 : (betw 500 0 1000 && betw 3 1 24) = true := by decide
theorem lv1 : leftF s2.p 2 s2.l = 600 := by decide +kernel
theorem lv2 : leftF s2.p 3 s2.l = 100 := by decide +kernel
theorem lv3 : goneS s2.p 3 s2.l = 500 := by decide +kernel
theorem lv4 : leftF s3.p 2 s3.l = 50 := by decide +kernel
theorem lv5 : goneS s3.p 3 s3.l = 0 := by decide +kernel
set_option maxHeartbeats 1000000 in
theorem awake_calls (w : World) : Calls Try.prog 10 #[] w fun e w' => e = .returned (.bool true) ∧ Below w.heap.size w w' := by
  go_enter Try.func10, Try.ntmps10
  go_wp2_with (first
    | (go_at_call 8; (with_reducible refine (new_calls 500 3 w).mono ?_); intro e wa hx; rw [if_pos nv1] at hx; obtain ⟨sb, bm, rfl, ha, h1, h2, hb⟩ := hx; have HA := Lib.hid (show AccS wa sb bm s0 from ha); have H1 := Lib.hid h1; have H2 := Lib.hid h2; have HB := Lib.hid hb; clear ha h1 h2 hb)
    | (go_at_call 17; (with_reducible refine (aw1 _ _ _ HA.out).mono ?_); rintro e wb ⟨rfl, hk, ha⟩; have HA2 := Lib.hid ha; have HK2 := Lib.hid hk; clear ha hk)
    | (go_at_call 17; (with_reducible refine (aw2 _ _ _ HA2.out).mono ?_); rintro e wc ⟨rfl, hk, ha⟩; have HA3 := Lib.hid ha; have HK3 := Lib.hid (HK2.out.trans hk); clear ha hk)
    | (go_at_call 15; (with_reducible refine (left_st 10 _ _ s2 2 _ g2 HA3.out).mono ?_); rintro e wd ⟨rfl, hb⟩; rw [lv1]; have HA4 := Lib.hid (HA3.out.below hb); have HK4 := Lib.hid (HK3.out.trans (Kept2.of_below hb)); clear hb)
    | (go_at_call 15; (with_reducible refine (left_st 10 _ _ s2 3 _ g2 HA4.out).mono ?_); rintro e we ⟨rfl, hb⟩; rw [lv2]; have HA5 := Lib.hid (HA4.out.below hb); have HK5 := Lib.hid (HK4.out.trans (Kept2.of_below hb)); clear hb)
    | (go_at_call 16; (with_reducible refine (gone_st 10 _ _ s2 3 _ g2 HA5.out).mono ?_); rintro e wf ⟨rfl, hb⟩; rw [lv3]; have HA6 := Lib.hid (HA5.out.below hb); have HK6 := Lib.hid (HK5.out.trans (Kept2.of_below hb)); clear hb)
    | (go_at_call 14; (with_reducible refine (totals_st _ _ s2 _ HA6.out).mono ?_); rintro e wg ⟨k7, rfl, rfl⟩; have HA7 := Lib.hid (HA6.out.drewN k7); have HK7 := Lib.hid (HK6.out.drewN k7))
    | (go_at_call 18; (with_reducible refine (aw3 _ _ _ HA7.out).mono ?_); rintro e wh ⟨rfl, hk, ha⟩; have HA8 := Lib.hid ha; have HK8 := Lib.hid (HK7.out.trans hk); clear ha hk)
    | (go_at_call 15; (with_reducible refine (left_st 10 _ _ s3 2 _ g3 HA8.out).mono ?_); rintro e wi ⟨rfl, hb⟩; rw [lv4]; have HA9 := Lib.hid (HA8.out.below hb); have HK9 := Lib.hid (HK8.out.trans (Kept2.of_below hb)); clear hb)
    | (go_at_call 16; (with_reducible refine (gone_st 10 _ _ s3 3 _ g3 HA9.out).mono ?_); rintro e wj ⟨rfl, hb⟩; rw [lv5]; have HA10 := Lib.hid (HA9.out.below hb); have HK10 := Lib.hid (HK9.out.trans (Kept2.of_below hb)); clear hb)
    | (go_at_call 18; (with_reducible refine (aw4 _ _ _ HA10.out).mono ?_); rintro e wk ⟨rfl, hk, ha⟩; have HA11 := Lib.hid ha; have HK11 := Lib.hid (HK10.out.trans hk); clear ha hk)
    | (go_at_call 18; (with_reducible refine (aw5 _ _ _ HA11.out).mono ?_); rintro e wl ⟨rfl, hk, ha⟩; have HA12 := Lib.hid ha; have HK12 := Lib.hid (HK11.out.trans hk); clear ha hk))
  go_ret
  exact ⟨rfl, HB.out.trans (HK12.out.below HB.out.size H1.out H2.out)⟩
theorem none_calls (q v : Int) (w : World) : Calls Try.prog 7 #[.int .i64 q, .int .i64 v] w fun e w' => e = .returned (.bool true) ∧ Below w.heap.size w w' := by
  go_enter Try.func7, Try.ntmps7
  go_wp2_with (first
    | (go_at_call 14; (with_reducible refine (totals_nil _).mono ?_); rintro e w' ⟨rfl, rfl⟩)
    | (go_at_call 17; (with_reducible refine (credit_nil _ _ _).mono ?_); rintro e w' ⟨rfl, rfl⟩)
    | (go_at_call 18; (with_reducible refine (claim_nil _ _ _).mono ?_); rintro e w' ⟨rfl, rfl⟩)
    | (go_at_call 15; (with_reducible refine (left_nil _ _).mono ?_); rintro e wa ⟨rfl, hb⟩; have HB1 := Lib.hid hb; clear hb)
    | (go_at_call 16; (with_reducible refine (gone_nil _ _).mono ?_); rintro e wb ⟨rfl, hb⟩; have HB2 := Lib.hid (HB1.out.trans (hb.mono HB1.out.size)); clear hb)
    | (go_at_call 10; (with_reducible refine (awake_calls _).mono ?_); rintro e wc ⟨rfl, hb⟩; have HB3 := Lib.hid (HB2.out.trans (hb.mono HB2.out.size)); clear hb))
  go_ret
  exact ⟨rfl, HB3.out⟩
theorem noneWalk (q v : Int) (w : World) (_ : (Lit.int .i64 q).wf = true) (_ : (Lit.int .i64 v).wf = true) : Calls Try.prog 7 #[.int .i64 q, .int .i64 v] w fun e w' => e = .returned (.bool true) ∧ Below w.heap.size w w' := none_calls q v w
end Go.Proofs.Ytmbelohcebfdcaa.Acc
