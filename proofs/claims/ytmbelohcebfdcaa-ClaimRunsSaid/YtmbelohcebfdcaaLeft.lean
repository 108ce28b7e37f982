/- ClaimLeft: its walk. -/
import Derived.Test.YtmbelohcebfdcaaSteps
import Derived.Test.YtmbelohcebfdcaaPure
set_option linter.unusedVariables false
set_option linter.unusedSimpArgs false
namespace Go.Proofs.Ytmbelohcebfdcaa.Acc
open Go.RowKit Go.Maps
theorem left_bad (n0 n1 : Int) (A : Option Addr) (len cap : Nat) (w : World) (hbad : (betw n0 0 1000 && betw n1 1 24) = false) :
    Calls Try.prog 4 #[.agg #[.int .i64 n0, .int .i64 n1], .slice A len cap] w fun e w' => e = .returned (.bool true) ∧ Below w.heap.size w w' := by
  have HB := Lib.hid ((Below.refl w.heap.size w).alloc (Nat.le_refl _) (.cells #[.int .i64 n0, .int .i64 n1] 40))
  go_enter Try.func4, Try.ntmps4
  go_wp2_with (first
    | (go_at_call 8; (with_reducible refine (new_calls n0 n1 _).mono ?_); intro e wa hx; rw [hbad] at hx; rw [if_neg (by decide)] at hx; obtain ⟨rfl, rfl⟩ := hx)
    | (go_at_call 10; (with_reducible refine (awake_calls _).mono ?_); rintro e wc ⟨rfl, hb⟩; have HB3 := Lib.hid (HB.out.trans (hb.mono HB.out.size)); clear hb))
  go_ret
  exact ⟨rfl, HB3.out⟩
theorem left_long (n0 n1 : Int) (A : Option Addr) (len cap : Nat) (w : World) (hok : (betw n0 0 1000 && betw n1 1 24) = true) (hlen : decide (100 < (len : Int)) = true) :
    Calls Try.prog 4 #[.agg #[.int .i64 n0, .int .i64 n1], .slice A len cap] w fun e w' => e = .returned (.bool true) ∧ Below w.heap.size w w' := by
  have HB := Lib.hid ((Below.refl w.heap.size w).alloc (Nat.le_refl _) (.cells #[.int .i64 n0, .int .i64 n1] 40))
  go_enter Try.func4, Try.ntmps4
  go_wp2_with (first
    | (go_at_call 8; (with_reducible refine (new_calls n0 n1 _).mono ?_); intro e wa hx; rw [hok, if_pos rfl] at hx; obtain ⟨sb, bm, rfl, _, _, _, hb⟩ := hx; have HB2 := Lib.hid (HB.out.trans (hb.mono HB.out.size)); clear hb)
    | (go_at_call 10; (with_reducible refine (awake_calls _).mono ?_); rintro e wc ⟨rfl, hb⟩; have HB3 := Lib.hid (HB2.out.trans (hb.mono HB2.out.size)); clear hb))
  go_ret
  exact ⟨rfl, HB3.out⟩
def lat (s : St) : Int := if s.la < 0 then 0 else s.la
theorem lat_bal {n : Nat} {s : St} (h : Inv n s) (hn : n ≤ 200) : (s.cr != wrap64 (wrap64 (s.cl + leftF s.p (lat s) s.l) + goneS s.p (lat s) s.l)) = false ∧ decide (s.cl < 0) = false ∧ decide (s.cr < s.cl) = false := by
  have hla := h.la
  obtain ⟨t1, t2, t3, t4, t5⟩ := h.tot hn
  have hcl := h.cl
  have hb : betw (lat s) 0 1000000 = true := by unfold betw lat; simp; split <;> omega
  have hgo : sumG (fun c => goneF s.p c (lat s)) s.l = sumG (fun c => !validF s.p c (lat s)) s.l := by
    apply sumG_congr
    intro a ha
    have h1 := h.key a ha
    have h2 := h.good.key a ha
    have h3 : lat s = s.la := by unfold lat; split <;> omega
    unfold goneF validF
    rw [h3]
    have e : wrap64 (s.la - a.1) = s.la - a.1 := by unfold wrap64; omega
    rw [e]
    have d1 : decide (a.1 ≤ s.la) = true := by simpa using h1
    rw [d1, Bool.true_and]
    by_cases h4 : s.la - a.1 < s.p
    · rw [decide_eq_true h4]; simp; omega
    · rw [decide_eq_false h4]; simp; omega
  have hs := sumG_split (fun c => validF s.p c (lat s)) s.l
  rw [← hgo] at hs
  have r1 := sumG_range (fun c => validF s.p c (lat s)) s.l h.pos
  have r2 := sumG_range (fun c => goneF s.p c (lat s)) s.l h.pos
  have hsum := h.sum
  rw [leftF_eq h hn, goneS_eq h hn, if_pos hb, if_pos hb]
  refine ⟨?_, by simpa using hcl, by simp; omega⟩
  have e1 : wrap64 (s.cl + sumG (fun c => validF s.p c (lat s)) s.l) = s.cl + sumG (fun c => validF s.p c (lat s)) s.l := by unfold wrap64; omega
  rw [e1]
  have e2 : wrap64 (s.cl + sumG (fun c => validF s.p c (lat s)) s.l + sumG (fun c => goneF s.p c (lat s)) s.l) = s.cr := by unfold wrap64; omega
  rw [e2]
  simp
theorem do_ok {s : St} {c : Bool} {q v : Int} (h : doC s c q v = 0) : (doS s c q v).la = q ∧ 0 ≤ q := by
  unfold doC at h
  unfold doS
  cases c
  · rw [if_neg (by decide)] at h ⊢
    unfold credC at h
    have hq := refused_q h
    unfold credS
    rw [if_pos h]
    refine ⟨?_, hq.1⟩
    split <;> rfl
  · rw [if_pos rfl] at h ⊢
    have hq := refused_q (claim_ref h)
    unfold claimT
    rw [if_pos h]
    exact ⟨rfl, hq.1⟩
theorem do_no {s : St} {c : Bool} {q v : Int} (h : doC s c q v ≠ 0) : doS s c q v = s := by
  unfold doC at h
  unfold doS
  cases c
  · rw [if_neg (by decide)] at h ⊢
    exact Inv.cred_ne (n := 0) h
  · rw [if_pos rfl] at h ⊢
    exact Inv.claim_ne (n := 0) h
theorem inv_new {n0 n1 : Int} (h : (betw n0 0 1000 && betw n1 1 24) = true) : Inv 0 ⟨n0, n1, -1, [], 0, 0⟩ := by
  unfold betw at h
  simp only [Bool.and_eq_true, decide_eq_true_eq] at h
  exact ⟨⟨List.Pairwise.nil, Nat.le_refl _, fun a ha => by simp at ha⟩, h.1, h.2, ⟨by simp, by simp⟩, fun a ha => by simp at ha, fun a ha => by simp at ha, rfl, Int.le_refl _, by simp⟩
set_option maxHeartbeats 1000000 in
theorem left_good (n0 n1 : Int) (A : Option Addr) (zs : List (Bool × Int × Int)) (cap : Nat) (w : World) (hok : (betw n0 0 1000 && betw n1 1 24) = true) (hlen : decide (100 < (zs.length : Int)) = false) (hz : Steps w A zs) :
    Calls Try.prog 4 #[.agg #[.int .i64 n0, .int .i64 n1], .slice A zs.length cap] w fun e w' => e = .returned (.bool true) ∧ Below w.heap.size w w' := by
  have HB := Lib.hid ((Below.refl w.heap.size w).alloc (Nat.le_refl _) (.cells #[.int .i64 n0, .int .i64 n1] 40))
  have HZ := Lib.hid hz
  have hl100 : zs.length ≤ 100 := by simp at hlen; omega
  clear hz
  go_enter Try.func4, Try.ntmps4
  go_wp2_with (first
    | (go_at_call 8; (with_reducible refine (new_calls n0 n1 _).mono ?_); intro e wa hx; rw [hok, if_pos rfl] at hx; obtain ⟨sb, bm, rfl, ha, h1, h2, hb⟩ := hx; have HA := Lib.hid (show AccS wa sb bm ⟨n0, n1, -1, [], 0, 0⟩ from ha); have H1 := Lib.hid (show w.heap.size ≤ sb by simp at h1; omega); have H2 := Lib.hid (show w.heap.size ≤ bm by simp at h2; omega); have HB2 := Lib.hid (HB.out.trans (hb.mono HB.out.size)); clear ha h1 h2 hb))
  go_loopw [7, 8] (fun v i wr => ∃ (k : Nat) (s : St), i = .int .i64 (k : Int) ∧ k ≤ zs.length ∧ v = .int .i64 (lat s) ∧ AccS wr sb bm s ∧ Inv k s ∧ Below w.heap.size w wr) (fun _ i _ => zs.length - (intOf i).toNat)
  case atStart => exact ⟨0, _, rfl, Nat.zero_le _, rfl, HA.out, inv_new hok, HB2.out⟩
  case round =>
    obtain ⟨k, s, rfl, hk, rfl, hacc, hinv, hbel⟩ := hrel
    have HAC := Lib.hid hacc
    have HI := Lib.hid hinv
    have HBW := Lib.hid hbel
    clear hacc hinv hbel
    by_cases hlt : k < zs.length
    · obtain ⟨ad, rfl, hadl, x0, x1, x2⟩ := (HZ.out.below HBW.out (Nat.le_refl _)) k hlt
      obtain ⟨c, q, u, hz3⟩ : ∃ c q u, zs[k] = (c, q, u) := ⟨_, _, _, rfl⟩
      rw [hz3] at x0 x1 x2
      simp only at x0 x1 x2
      have HZ3 := Lib.hid hz3
      obtain ⟨s2, hs2⟩ : ∃ s2, s2 = doS s c q u := ⟨_, rfl⟩
      have HI2 := Lib.hid (show Inv (k + 1) s2 from hs2 ▸ HI.out.step (by omega) c q u)
      obtain ⟨b1, b2, b3⟩ := lat_bal HI2.out (by omega)
      have HS2 := Lib.hid hs2
      by_cases hc : doC s c q u = 0
      · have hc1 : (doC s c q u == 0) = true := by simpa using hc
        have hla := do_ok hc
        have hlat : lat s2 = q := by unfold lat; rw [hs2, hla.1, if_neg (by omega)]
        rw [hlat] at b1
        have HLAT := Lib.hid hlat
        clear hla hlat hz3 hc hs2
        go_wp2_with (first
          | (go_at_call 12; (with_reducible refine (do_calls k sb bm s c q u _ HI.out.good (by omega) HAC.out).mono ?_); rintro e wd ⟨rfl, hkp, ha⟩; have HA2 := Lib.hid (show AccS wd sb bm s2 from HS2.out ▸ ha); have HB3 := Lib.hid (HBW.out.trans (hkp.below HBW.out.size H1.out H2.out)); clear x0 x1 x2; obtain ⟨ad2, e2, _, _, x1, _⟩ := (HZ.out.below HB3.out (Nat.le_refl _)) k hlt; cases e2; rw [HZ3.out] at x1; simp only at x1; clear hkp ha)
          | (go_at_call 14; (with_reducible refine (totals_st sb bm s2 _ HA2.out).mono ?_); rintro e we ⟨k7, rfl, rfl⟩; have HA3 := Lib.hid (HA2.out.drewN k7); have HB4 := Lib.hid (show Below w.heap.size w (wd.drewN k7) from ⟨HB3.out.os, HB3.out.tape, HB3.out.output, HB3.out.size, HB3.out.block⟩))
          | (go_at_call 15; (with_reducible refine (left_st (k + 1) sb bm s2 q _ HI2.out.good HA3.out).mono ?_); rintro e wf ⟨rfl, hb⟩; have HA4 := Lib.hid (HA3.out.below hb); have HB5 := Lib.hid (HB4.out.trans (hb.mono HB4.out.size)); clear hb)
          | (go_at_call 16; (with_reducible refine (gone_st (k + 1) sb bm s2 q _ HI2.out.good HA4.out).mono ?_); rintro e wg ⟨rfl, hb⟩; have HA5 := Lib.hid (HA4.out.below hb); have HB6 := Lib.hid (HB5.out.trans (hb.mono HB5.out.size)); clear hb))
        exact ⟨⟨k + 1, s2, congrArg _ (by omega), by omega, by rw [HLAT.out], HA5.out, HI2.out, HB6.out⟩, by simp [intOf]; omega⟩
      · have hc1 : (doC s c q u == 0) = false := by simpa using hc
        have hs3 : s2 = s := hs2.trans (do_no hc)
        have HS3 := Lib.hid hs3
        rw [hs3] at b1 b2 b3
        clear hz3 hc hs2 hs3
        go_wp2_with (first
          | (go_at_call 12; (with_reducible refine (do_calls k sb bm s c q u _ HI.out.good (by omega) HAC.out).mono ?_); rintro e wd ⟨rfl, hkp, ha⟩; have HA2 := Lib.hid (show AccS wd sb bm s from HS3.out ▸ HS2.out ▸ ha); have HB3 := Lib.hid (HBW.out.trans (hkp.below HBW.out.size H1.out H2.out)); clear x0 x1 x2 hkp ha)
          | (go_at_call 14; (with_reducible refine (totals_st sb bm s _ HA2.out).mono ?_); rintro e we ⟨k7, rfl, rfl⟩; have HA3 := Lib.hid (HA2.out.drewN k7); have HB4 := Lib.hid (show Below w.heap.size w (wd.drewN k7) from ⟨HB3.out.os, HB3.out.tape, HB3.out.output, HB3.out.size, HB3.out.block⟩))
          | (go_at_call 15; (with_reducible refine (left_st k sb bm s (lat s) _ HI.out.good HA3.out).mono ?_); rintro e wf ⟨rfl, hb⟩; have HA4 := Lib.hid (HA3.out.below hb); have HB5 := Lib.hid (HB4.out.trans (hb.mono HB4.out.size)); clear hb)
          | (go_at_call 16; (with_reducible refine (gone_st k sb bm s (lat s) _ HI.out.good HA4.out).mono ?_); rintro e wg ⟨rfl, hb⟩; have HA5 := Lib.hid (HA4.out.below hb); have HB6 := Lib.hid (HB5.out.trans (hb.mono HB5.out.size)); clear hb))
        exact ⟨⟨k + 1, s, congrArg _ (by omega), by omega, rfl, HA5.out, HS3.out ▸ HI2.out, HB6.out⟩, by simp [intOf]; omega⟩
    · go_wp2_with (go_at_call 10; (with_reducible refine (awake_calls _).mono ?_); rintro e wc ⟨rfl, hb⟩; have HB3 := Lib.hid (HBW.out.trans (hb.mono HBW.out.size)); clear hb)
      go_ret
      exact ⟨rfl, HB3.out⟩
theorem leftWalk (n0 n1 : Int) (A : Option Addr) (cap : Nat) (zs : List (Bool × Int × Int)) (w : World) (hz : Steps w A zs) :
    Calls Try.prog 4 #[.agg #[.int .i64 n0, .int .i64 n1], .slice A zs.length cap] w fun e w' => e = .returned (.bool true) ∧ Below w.heap.size w w' := by
  cases hok : (betw n0 0 1000 && betw n1 1 24)
  · exact left_bad n0 n1 A zs.length cap w hok
  · cases hlen : decide (100 < (zs.length : Int))
    · exact left_good n0 n1 A zs cap w hok hlen hz
    · exact left_long n0 n1 A zs.length cap w hok hlen
end Go.Proofs.Ytmbelohcebfdcaa.Acc
