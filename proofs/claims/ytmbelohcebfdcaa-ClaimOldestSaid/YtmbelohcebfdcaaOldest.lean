/- ClaimOldest: its law and its walk. -/
import Derived.Test.YtmbelohcebfdcaaLeft
import Derived.Deep.RegionHeld3
set_option linter.unusedVariables false
set_option linter.unusedSimpArgs false
namespace Go.Proofs.Ytmbelohcebfdcaa.Acc
open Go.RowKit Go.Maps
theorem old_credit {n : Nat} {s : St} (h : Inv n s) (hn : n < 200) {q u : Int} (hr : refusedF s.la q u = 0) :
    decide ((credS s q u).cr < s.cr) = false ∧ ((credS s q u).cl != s.cl) = false ∧ (leftF (credS s q u).p q (credS s q u).l != wrap64 (wrap64 (leftF s.p q s.l + (credS s q u).cr) - s.cr)) = false := by
  have hq := refused_q hr
  have hI2 : Inv (n + 1) (credS s q u) := by have := h.step (by omega) false q u; simpa [doS] using this
  obtain ⟨e1, e2, e3, e4, e5, e6, e7⟩ := h.cred_eq (by omega) hr
  obtain ⟨c1, c2, _⟩ := creditN_eq h.f ⟨hq.2.2.2.1, hq.2.2.2.2⟩
  obtain ⟨t1, t2, t3, t4, t5⟩ := h.tot (by omega)
  have hb : betw q 0 1000000 = true := by unfold betw; simp; omega
  have hv : validF s.p q q = true := by unfold validF; have := h.p; have e : wrap64 (q - q) = 0 := by unfold wrap64; omega
                                        rw [e]; simp; omega
  have r1 := sumG_range (fun c => validF s.p c q) s.l h.pos
  have h7 := e7 (fun c => validF s.p c q)
  simp only [hv, if_true] at h7
  rw [leftF_eq h (by omega), leftF_eq hI2 (by omega), if_pos hb, if_pos hb, e5, h7, e3, e2]
  refine ⟨by simp; omega, by simp, ?_⟩
  have e8 : wrap64 (wrap64 (sumG (fun c => validF s.p c q) s.l + (s.cr + creditN s.f u)) - s.cr) = sumG (fun c => validF s.p c q) s.l + creditN s.f u := by unfold wrap64; omega
  rw [e8]
  simp
theorem old_claim {n : Nat} {s : St} (h : Inv n s) (hn : n < 200) {q u : Int} (hr : claimC s q u = 0) (o : Int) :
    ((claimT s q u).cr != s.cr) = false ∧ ((claimT s q u).cl != wrap64 (s.cl + u)) = false ∧ (leftF (claimT s q u).p q (claimT s q u).l != wrap64 (leftF s.p q s.l - u)) = false ∧
    decide (goneS s.p o s.l < goneS (claimT s q u).p o (claimT s q u).l) = false ∧ decide (goneS (claimT s q u).p o (claimT s q u).l < wrap64 (goneS s.p o s.l - u)) = false ∧ decide (leftF s.p o s.l < leftF (claimT s q u).p o (claimT s q u).l) = false := by
  have hq := refused_q (claim_ref hr)
  have hI2 : Inv (n + 1) (claimT s q u) := by have := h.step (by omega) true q u; simpa [doS] using this
  obtain ⟨e1, e2, e3, e4, e5, e6, e7, e8, e9, e10⟩ := h.claim_eq (by omega) hr
  obtain ⟨t1, t2, t3, t4, t5⟩ := h.tot (by omega)
  have hcl := h.cl
  have hb : betw q 0 1000000 = true := by unfold betw; simp; omega
  have r1 := sumG_range (fun c => validF s.p c q) s.l h.pos
  have r2 := sumG_range (fun c => goneF s.p c o) s.l h.pos
  have r3 := e8 (fun c => goneF s.p c o)
  have r4 := e8 (fun c => validF s.p c o)
  rw [leftF_eq h (by omega) q, leftF_eq hI2 (by omega) q, leftF_eq h (by omega) o, leftF_eq hI2 (by omega) o, goneS_eq h (by omega) o, goneS_eq hI2 (by omega) o, if_pos hb, if_pos hb, e5, e9, e3, e2]
  have e11 : wrap64 (s.cl + u) = s.cl + u := by have := h.sum; unfold wrap64; omega
  have e12 : wrap64 (sumG (fun c => validF s.p c q) s.l - u) = sumG (fun c => validF s.p c q) s.l - u := by unfold wrap64; omega
  rw [e11, e12]
  refine ⟨by simp, by simp, by simp, ?_⟩
  by_cases hbo : betw o 0 1000000 = true
  · rw [if_pos hbo, if_pos hbo, if_pos hbo, if_pos hbo]
    have e13 : wrap64 (sumG (fun c => goneF s.p c o) s.l - u) = sumG (fun c => goneF s.p c o) s.l - u := by unfold wrap64; omega
    rw [e13]
    exact ⟨by simp; omega, by simp; omega, by simp; omega⟩
  · rw [if_neg hbo, if_neg hbo, if_neg hbo, if_neg hbo]
    have e13 : wrap64 (0 - u) = - u := by unfold wrap64; omega
    rw [e13]
    exact ⟨by simp, by simp; omega, by simp⟩
theorem wrapK (x : Int) : IntKind.i64.wrap x = wrap64 x := by rw [IntKind.wrap_i64]; unfold wrap64; omega
theorem keepS {W0 w w' : World} {sb bm : Nat} {s : St} {a : Addr} {u : Value} (hlt : a.block < W0.heap.size) (h : w.cell? a = some u ∧ Hid (AccS w sb bm s ∧ Below W0.heap.size W0 w)) (hb : Below w.heap.size w w') : w'.cell? a = some u ∧ Hid (AccS w' sb bm s ∧ Below W0.heap.size W0 w') := by
  obtain ⟨h1, h2⟩ := h
  have h3 := h2.out.2.size
  exact ⟨(hb.cell (by omega)).trans h1, Lib.hid ⟨h2.out.1.below hb, h2.out.2.trans (hb.mono h3)⟩⟩
theorem fromS {W0 w : World} {sb bm : Nat} {s : St} {a : Addr} {u : Value} (h : w.cell? a = some u ∧ Hid (AccS w sb bm s ∧ Below W0.heap.size W0 w)) : AccS w sb bm s := h.2.out.1
theorem fromB {W0 w : World} {sb bm : Nat} {s : St} {a : Addr} {u : Value} (h : w.cell? a = some u ∧ Hid (AccS w sb bm s ∧ Below W0.heap.size W0 w)) : Below W0.heap.size W0 w := h.2.out.2
theorem below_drewN {B : Nat} {a w : World} (h : Below B a w) (k : Nat) : Below B a (w.drewN k) := ⟨h.os, h.tape, h.output, h.size, h.block⟩
set_option maxRecDepth 100000 in
theorem old_bad (n0 n1 n2 : Int) (A : Option Addr) (len cap : Nat) (w : World) (hbad : (betw n0 0 1000 && betw n1 1 24) = false) :
    Calls Try.prog 5 #[.agg #[.int .i64 n0, .int .i64 n1, .int .i64 n2], .slice A len cap] w fun e w' => e = .returned (.bool true) ∧ Below w.heap.size w w' := by
  have HB := Lib.hid ((Below.refl w.heap.size w).alloc (Nat.le_refl _) (.cells #[.int .i64 n0, .int .i64 n1, .int .i64 n2] 22))
  go_enter Try.func5, Try.ntmps5
  go_wp2_with (first
    | (go_at_call 8; (with_reducible refine (new_calls n0 n1 _).mono ?_); intro e wa hx; rw [hbad] at hx; rw [if_neg (by decide)] at hx; obtain ⟨rfl, rfl⟩ := hx)
    | (go_at_call 10; (with_reducible refine (awake_calls _).mono ?_); rintro e wc ⟨rfl, hb⟩; have HB3 := Lib.hid (HB.out.trans (hb.mono HB.out.size)); clear hb))
  go_ret
  exact ⟨rfl, HB3.out⟩
set_option maxRecDepth 100000 in
theorem old_long (n0 n1 n2 : Int) (A : Option Addr) (len cap : Nat) (w : World) (hok : (betw n0 0 1000 && betw n1 1 24) = true) (hlen : decide (100 < (len : Int)) = true) :
    Calls Try.prog 5 #[.agg #[.int .i64 n0, .int .i64 n1, .int .i64 n2], .slice A len cap] w fun e w' => e = .returned (.bool true) ∧ Below w.heap.size w w' := by
  have HB := Lib.hid ((Below.refl w.heap.size w).alloc (Nat.le_refl _) (.cells #[.int .i64 n0, .int .i64 n1, .int .i64 n2] 22))
  go_enter Try.func5, Try.ntmps5
  go_wp2_with (first
    | (go_at_call 8; (with_reducible refine (new_calls n0 n1 _).mono ?_); intro e wa hx; rw [hok, if_pos rfl] at hx; obtain ⟨sb, bm, rfl, _, _, _, hb⟩ := hx; have HB2 := Lib.hid (HB.out.trans (hb.mono HB.out.size)); clear hb)
    | (go_at_call 10; (with_reducible refine (awake_calls _).mono ?_); rintro e wc ⟨rfl, hb⟩; have HB3 := Lib.hid (HB2.out.trans (hb.mono HB2.out.size)); clear hb))
  go_ret
  exact ⟨rfl, HB3.out⟩
set_option maxRecDepth 100000 in
set_option maxHeartbeats 2000000 in
theorem old_good (n0 n1 n2 : Int) (A : Option Addr) (zs : List (Bool × Int × Int)) (cap : Nat) (w : World) (hok : (betw n0 0 1000 && betw n1 1 24) = true) (hlen : decide (100 < (zs.length : Int)) = false) (hz : Steps w A zs) :
    Calls Try.prog 5 #[.agg #[.int .i64 n0, .int .i64 n1, .int .i64 n2], .slice A zs.length cap] w fun e w' => e = .returned (.bool true) ∧ Below w.heap.size w w' := by
  have HZ := Lib.hid hz
  have hl100 : zs.length ≤ 100 := by simp at hlen; omega
  clear hz
  obtain ⟨W0, hW0⟩ : ∃ W0, W0 = w.alloc (.cells #[.int .i64 n0, .int .i64 n1, .int .i64 n2] 22) := ⟨_, rfl⟩
  have HW0 := Lib.hid (show Below w.heap.size w W0 from hW0 ▸ (Below.refl w.heap.size w).alloc (Nat.le_refl _) _)
  have hblk : W0.heap[w.heap.size]? = some (.cells #[.int .i64 n0, .int .i64 n1, .int .i64 n2] 22) := by rw [hW0]; exact (MapKept.heap_alloc w _).1
  have HN2 := Lib.hid (show W0.cell? ⟨w.heap.size, 2, none⟩ = some (.int .i64 n2) by simp only [World.cell?, hblk]; rfl)
  have HSZ := Lib.hid (show w.heap.size < W0.heap.size by rw [hW0]; simp)
  have HWW := Lib.hid hW0
  clear hW0 hblk
  go_enter Try.func5, Try.ntmps5
  go_wp2_with (first
    | (go_at_call 8; rw [← HWW.out]; (with_reducible refine (new_calls n0 n1 _).mono ?_); intro e wa hx; rw [hok, if_pos rfl] at hx; obtain ⟨sb, bm, rfl, ha, h1, h2, hb⟩ := hx; have HA := Lib.hid (show AccS wa sb bm ⟨n0, n1, -1, [], 0, 0⟩ from ha); have H1 := Lib.hid h1; have H2 := Lib.hid h2; have HB := Lib.hid hb; clear ha h1 h2 hb))
  go_loopw [7] (fun i wr => ∃ (k : Nat) (s : St), i = .int .i64 (k : Int) ∧ k ≤ zs.length ∧ AccS wr sb bm s ∧ Inv k s ∧ Below W0.heap.size W0 wr) (fun i _ => zs.length - (intOf i).toNat)
  case atStart => exact ⟨0, _, rfl, Nat.zero_le _, HA.out, inv_new hok, HB.out⟩
  case round =>
    obtain ⟨k, s, rfl, hk, hacc, hinv, hbel⟩ := hrel
    have HAC := Lib.hid hacc
    have HI := Lib.hid hinv
    have HBW := Lib.hid hbel
    clear hacc hinv hbel
    by_cases hlt : k < zs.length
    · obtain ⟨ad, rfl, hadl, x0, x1, x2⟩ := (HZ.out.below (HW0.out.trans (HBW.out.mono HW0.out.size)) (Nat.le_refl _)) k hlt
      have HADW := Lib.hid (show ad.block < w.heap.size by obtain ⟨ad0, e0, h0, _⟩ := HZ.out k hlt; cases e0; exact h0)
      have x9 : wr.cell? ⟨w.heap.size, 2, none⟩ = some (.int .i64 n2) := (HBW.out.cell HSZ.out).trans HN2.out
      obtain ⟨c, q, u, hz3⟩ : ∃ c q u, zs[k] = (c, q, u) := ⟨_, _, _, rfl⟩
      rw [hz3] at x0 x1 x2
      simp only at x0 x1 x2
      have HZ3 := Lib.hid hz3
      obtain ⟨s2, hs2⟩ : ∃ s2, s2 = doS s c q u := ⟨_, rfl⟩
      have HI2 := Lib.hid (show Inv (k + 1) s2 from hs2 ▸ HI.out.step (by omega) c q u)
      clear hz3
      go_wp2
      go_quiet (fail)
      have HA1 := Lib.hid (HAC.out.drewN nq)
      have HB1 := Lib.hid (below_drewN HBW.out nq)
      by_cases hc : doC s c q u = 0
      · have hc1 : (doC s c q u != 0) = false := by simpa using hc
        cases c
        · have hr : refusedF s.la q u = 0 := hc
          obtain ⟨b1, b2, b3⟩ := old_credit HI.out (by omega) hr
          have hs3 : s2 = credS s q u := hs2
          rw [← hs3] at b1 b2 b3
          have HS2 := Lib.hid hs2
          clear hc hr hs2 hs3
          go_wp2_with (first
            | (go_at_call 15; (with_reducible refine (left_st k sb bm s q _ HI.out.good HA1.out).mono ?_); rintro e wx1 ⟨rfl, hb⟩; have HA2 := Lib.hid (HA1.out.below hb); have HB2 := Lib.hid (HB1.out.trans (hb.mono HB1.out.size)); clear hb)
            | (go_at_call 16; (with_reducible refine (gone_st k sb bm s n2 _ HI.out.good HA2.out).mono ?_); rintro e wx2 ⟨rfl, hb⟩; have HA3 := Lib.hid (HA2.out.below hb); have HB3 := Lib.hid (HB2.out.trans (hb.mono HB2.out.size)); clear hb)
            | (go_at_call 15; (with_reducible refine (left_st k sb bm s n2 _ HI.out.good HA3.out).mono ?_); rintro e wx3 ⟨rfl, hb⟩; have HA4 := Lib.hid (HA3.out.below hb); have HB4 := Lib.hid (HB3.out.trans (hb.mono HB3.out.size)); clear x0 x1 x2; obtain ⟨ad2, e2, _, x0, x1, x2⟩ := (HZ.out.below (HW0.out.trans (HB4.out.mono HW0.out.size)) (Nat.le_refl _)) k hlt; cases e2; rw [HZ3.out] at x0 x1 x2; simp only at x0 x1 x2; clear hb)
            | (go_at_call 14; (with_reducible refine (totals_st sb bm s _ HA4.out).mono ?_); rintro e wx4 ⟨k4, rfl, rfl⟩; have HA5 := Lib.hid (HA4.out.drewN k4); have HB5 := Lib.hid (below_drewN HB4.out k4))
            | (go_at_call 12; (with_reducible refine (do_calls k sb bm s _ q u _ HI.out.good (by omega) HA5.out).mono ?_); rintro e wx5 ⟨rfl, hkp, ha⟩; have HA6 := Lib.hid (show AccS wx5 sb bm s2 from HS2.out ▸ ha); have HB6 := Lib.hid (HB5.out.trans (hkp.below HB5.out.size H1.out H2.out)); clear x0 x1 x2; obtain ⟨ad2, e2, _, x0, x1, x2⟩ := (HZ.out.below (HW0.out.trans (HB6.out.mono HW0.out.size)) (Nat.le_refl _)) k hlt; cases e2; rw [HZ3.out] at x0 x1 x2; simp only at x0 x1 x2; clear hkp ha)
            | (go_at_call 14; (with_reducible refine (totals_st sb bm s2 _ HA6.out).mono ?_); rintro e wx6 ⟨k6, rfl, rfl⟩; have HA7 := Lib.hid (HA6.out.drewN k6); have HB7 := Lib.hid (below_drewN HB6.out k6))
            | (go_at_call 15; (with_reducible refine (left_st (k + 1) sb bm s2 q _ HI2.out.good HA7.out).mono ?_); rintro e wx7 ⟨rfl, hb⟩; have HA8 := Lib.hid (HA7.out.below hb); have HB8 := Lib.hid (HB7.out.trans (hb.mono HB7.out.size)); clear hb))
          exact ⟨⟨k + 1, s2, congrArg _ (by omega), by omega, HA8.out, HI2.out, HB8.out⟩, by simp [intOf]; omega⟩
        · have hr : claimC s q u = 0 := hc
          obtain ⟨b1, b2, b3, b4, b5, b6⟩ := old_claim HI.out (by omega) hr n2
          have hs3 : s2 = claimT s q u := hs2
          rw [← hs3] at b1 b2 b3 b4 b5 b6
          have HS2 := Lib.hid hs2
          clear hc hr hs2 hs3
          go_wp2_with (first
            | (go_at_call 15; (with_reducible refine (left_st k sb bm s q _ HI.out.good HA1.out).mono ?_); rintro e wx1 ⟨rfl, hb⟩; have HA2 := Lib.hid (HA1.out.below hb); have HB2 := Lib.hid (HB1.out.trans (hb.mono HB1.out.size)); clear hb)
            | (go_at_call 16; (with_reducible refine (gone_st k sb bm s n2 _ HI.out.good HA2.out).mono ?_); rintro e wx2 ⟨rfl, hb⟩; have HA3 := Lib.hid (HA2.out.below hb); have HB3 := Lib.hid (HB2.out.trans (hb.mono HB2.out.size)); clear hb)
            | (go_at_call 15; (with_reducible refine (left_st k sb bm s n2 _ HI.out.good HA3.out).mono ?_); rintro e wx3 ⟨rfl, hb⟩; have HA4 := Lib.hid (HA3.out.below hb); have HB4 := Lib.hid (HB3.out.trans (hb.mono HB3.out.size)); clear x0 x1 x2; obtain ⟨ad2, e2, _, x0, x1, x2⟩ := (HZ.out.below (HW0.out.trans (HB4.out.mono HW0.out.size)) (Nat.le_refl _)) k hlt; cases e2; rw [HZ3.out] at x0 x1 x2; simp only at x0 x1 x2; clear hb)
            | (go_at_call 14; (with_reducible refine (totals_st sb bm s _ HA4.out).mono ?_); rintro e wx4 ⟨k4, rfl, rfl⟩; have HA5 := Lib.hid (HA4.out.drewN k4); have HB5 := Lib.hid (below_drewN HB4.out k4))
            | (go_at_call 12; (with_reducible refine (do_calls k sb bm s _ q u _ HI.out.good (by omega) HA5.out).mono ?_); rintro e wx5 ⟨rfl, hkp, ha⟩; have HA6 := Lib.hid (show AccS wx5 sb bm s2 from HS2.out ▸ ha); have HB6 := Lib.hid (HB5.out.trans (hkp.below HB5.out.size H1.out H2.out)); clear x0 x1 x2; obtain ⟨ad2, e2, _, x0, x1, x2⟩ := (HZ.out.below (HW0.out.trans (HB6.out.mono HW0.out.size)) (Nat.le_refl _)) k hlt; cases e2; rw [HZ3.out] at x0 x1 x2; simp only at x0 x1 x2; clear hkp ha)
            | (go_at_call 14; (with_reducible refine (totals_st sb bm s2 _ HA6.out).mono ?_); rintro e wx6 ⟨k6, rfl, rfl⟩; have HA7 := Lib.hid (HA6.out.drewN k6); have HB7 := Lib.hid (below_drewN HB6.out k6)))
          replace b2 : (s2.cl != IntKind.i64.wrap (s.cl + u)) = false := by rw [wrapK]; exact b2
          replace b3 : (leftF s2.p q s2.l != IntKind.i64.wrap (leftF s.p q s.l - u)) = false := by rw [wrapK]; exact b3
          replace b5 : decide (goneS s2.p n2 s2.l < IntKind.i64.wrap (goneS s.p n2 s.l - u)) = false := by rw [wrapK]; exact b5
          have hab : (⟨(ad.add (k * 3)).block, (ad.add (k * 3)).off + 2, none⟩ : Addr).block < W0.heap.size := by show (ad.add (k * 3)).block < _; rw [add_blk]; have := HSZ.out; have := HADW.out; omega
          have HAB := Lib.hid hab
          clear hab
          go_region_held3 (fun w' => w'.cell? ⟨(ad.add (k * 3)).block, (ad.add (k * 3)).off + 2, none⟩ = some (.int .i64 u) ∧ Hid (AccS w' sb bm s2 ∧ Below W0.heap.size W0 w')) (first | assumption | (exact ⟨x2, Lib.hid ⟨HA7.out.drewN 1, below_drewN HB7.out 1⟩⟩))
            (first
              | (go_at_call 15; (with_reducible refine (left_st (k + 1) sb bm s2 q _ HI2.out.good ?_).mono ?_); (exact fromS (W0 := W0) (a := ⟨(ad.add (k * 3)).block, (ad.add (k * 3)).off + 2, none⟩) (u := .int .i64 u) (by assumption)); rintro e wy ⟨rfl, hb⟩; have hnew := keepS (W0 := W0) (sb := sb) (bm := bm) (s := s2) (a := ⟨(ad.add (k * 3)).block, (ad.add (k * 3)).off + 2, none⟩) (u := .int .i64 u) HAB.out (by assumption) hb; clear hb)
              | (go_at_call 16; (with_reducible refine (gone_st (k + 1) sb bm s2 n2 _ HI2.out.good ?_).mono ?_); (exact fromS (W0 := W0) (a := ⟨(ad.add (k * 3)).block, (ad.add (k * 3)).off + 2, none⟩) (u := .int .i64 u) (by assumption)); rintro e wy ⟨rfl, hb⟩; have hnew := keepS (W0 := W0) (sb := sb) (bm := bm) (s := s2) (a := ⟨(ad.add (k * 3)).block, (ad.add (k * 3)).off + 2, none⟩) (u := .int .i64 u) HAB.out (by assumption) hb; clear hb)
              | (go_at_call 15; (with_reducible refine (left_st (k + 1) sb bm s2 n2 _ HI2.out.good ?_).mono ?_); (exact fromS (W0 := W0) (a := ⟨(ad.add (k * 3)).block, (ad.add (k * 3)).off + 2, none⟩) (u := .int .i64 u) (by assumption)); rintro e wy ⟨rfl, hb⟩; have hnew := keepS (W0 := W0) (sb := sb) (bm := bm) (s := s2) (a := ⟨(ad.add (k * 3)).block, (ad.add (k * 3)).off + 2, none⟩) (u := .int .i64 u) HAB.out (by assumption) hb; clear hb))
          all_goals go_wp2
          all_goals exact ⟨⟨k + 1, s2, congrArg _ (by omega), by omega, fromS (W0 := W0) (a := ⟨(ad.add (k * 3)).block, (ad.add (k * 3)).off + 2, none⟩) (u := .int .i64 u) (by assumption), HI2.out, fromB (sb := sb) (bm := bm) (s := s2) (a := ⟨(ad.add (k * 3)).block, (ad.add (k * 3)).off + 2, none⟩) (u := .int .i64 u) (by assumption)⟩, by simp [intOf]; omega⟩
      · have hc1 : (doC s c q u != 0) = true := by simpa using hc
        have hs3 : s = doS s c q u := (do_no hc).symm
        have HS2 := Lib.hid hs3
        have HS3 := Lib.hid (hs3.trans hs2.symm)
        clear hc hs3 hs2
        go_wp2_with (first
          | (go_at_call 15; (with_reducible refine (left_st k sb bm s q _ HI.out.good HA1.out).mono ?_); rintro e wx1 ⟨rfl, hb⟩; have HA2 := Lib.hid (HA1.out.below hb); have HB2 := Lib.hid (HB1.out.trans (hb.mono HB1.out.size)); clear hb)
          | (go_at_call 16; (with_reducible refine (gone_st k sb bm s n2 _ HI.out.good HA2.out).mono ?_); rintro e wx2 ⟨rfl, hb⟩; have HA3 := Lib.hid (HA2.out.below hb); have HB3 := Lib.hid (HB2.out.trans (hb.mono HB2.out.size)); clear hb)
          | (go_at_call 15; (with_reducible refine (left_st k sb bm s n2 _ HI.out.good HA3.out).mono ?_); rintro e wx3 ⟨rfl, hb⟩; have HA4 := Lib.hid (HA3.out.below hb); have HB4 := Lib.hid (HB3.out.trans (hb.mono HB3.out.size)); clear x0 x1 x2; obtain ⟨ad2, e2, _, x0, x1, x2⟩ := (HZ.out.below (HW0.out.trans (HB4.out.mono HW0.out.size)) (Nat.le_refl _)) k hlt; cases e2; rw [HZ3.out] at x0 x1 x2; simp only at x0 x1 x2; clear hb)
          | (go_at_call 14; (with_reducible refine (totals_st sb bm s _ HA4.out).mono ?_); rintro e wx4 ⟨k4, rfl, rfl⟩; have HA5 := Lib.hid (HA4.out.drewN k4); have HB5 := Lib.hid (below_drewN HB4.out k4))
          | (go_at_call 12; (with_reducible refine (do_calls k sb bm s _ q u _ HI.out.good (by omega) HA5.out).mono ?_); rintro e wx5 ⟨rfl, hkp, ha⟩; have HA6 := Lib.hid (show AccS wx5 sb bm s from HS2.out ▸ ha); have HB6 := Lib.hid (HB5.out.trans (hkp.below HB5.out.size H1.out H2.out)); clear hkp ha)
          | (go_at_call 14; (with_reducible refine (totals_st sb bm s _ HA6.out).mono ?_); rintro e wx6 ⟨k6, rfl, rfl⟩; have HA7 := Lib.hid (HA6.out.drewN k6); have HB7 := Lib.hid (below_drewN HB6.out k6))
          | (go_at_call 15; (with_reducible refine (left_st k sb bm s q _ HI.out.good HA7.out).mono ?_); rintro e wx7 ⟨rfl, hb⟩; have HA8 := Lib.hid (HA7.out.below hb); have HB8 := Lib.hid (HB7.out.trans (hb.mono HB7.out.size)); clear hb)
          | (go_at_call 16; (with_reducible refine (gone_st k sb bm s n2 _ HI.out.good HA8.out).mono ?_); rintro e wx8 ⟨rfl, hb⟩; have HA9 := Lib.hid (HA8.out.below hb); have HB9 := Lib.hid (HB8.out.trans (hb.mono HB8.out.size)); clear hb)
          | (go_at_call 15; (with_reducible refine (left_st k sb bm s n2 _ HI.out.good HA9.out).mono ?_); rintro e wx9 ⟨rfl, hb⟩; have HA10 := Lib.hid (HA9.out.below hb); have HB10 := Lib.hid (HB9.out.trans (hb.mono HB9.out.size)); clear hb))
        exact ⟨⟨k + 1, s, congrArg _ (by omega), by omega, HA10.out, HS3.out ▸ HI2.out, HB10.out⟩, by simp [intOf]; omega⟩
    · go_wp2_with (go_at_call 10; (with_reducible refine (awake_calls _).mono ?_); rintro e wc ⟨rfl, hb⟩; have HB3 := Lib.hid (HBW.out.trans (hb.mono HBW.out.size)); clear hb)
      go_ret
      exact ⟨rfl, HW0.out.trans (HB3.out.mono HW0.out.size)⟩
theorem oldWalk (n0 n1 n2 : Int) (A : Option Addr) (cap : Nat) (zs : List (Bool × Int × Int)) (w : World) (hz : Steps w A zs) :
    Calls Try.prog 5 #[.agg #[.int .i64 n0, .int .i64 n1, .int .i64 n2], .slice A zs.length cap] w fun e w' => e = .returned (.bool true) ∧ Below w.heap.size w w' := by
  cases hok : (betw n0 0 1000 && betw n1 1 24)
  · exact old_bad n0 n1 n2 A zs.length cap w hok
  · cases hlen : decide (100 < (zs.length : Int))
    · exact old_good n0 n1 n2 A zs cap w hok hlen hz
    · exact old_long n0 n1 n2 A zs.length cap w hok hlen
end Go.Proofs.Ytmbelohcebfdcaa.Acc
