/- A step of the reference's account, as the statement takes it. No condition but that account and reference belong together. -/
import Derived.Test.YtmbelohcebfdcaaIs
set_option linter.unusedVariables false
set_option linter.unusedSimpArgs false
namespace Go.Proofs.Ytmbelohcebfdcaa.Acc
open Go.RowKit Go.Maps Go.Proofs.Ytmbelohcebfdcaa.PRf Go.Proofs.YtmbelohcebfdcaaW.PrintWords Go.Proofs.YtmbelohcebfdcaaW.PrintLast Go.Proofs.YtmbelohcebfdcaaW.PrintMore
theorem top2 (w : World) (a b c : Obj) : (((w.alloc a).alloc b).alloc c).heap[w.heap.size + 2]? = some c := by
  have h := (MapKept.heap_alloc ((w.alloc a).alloc b) c).1
  rw [show ((w.alloc a).alloc b).heap.size = w.heap.size + 2 by simp] at h
  exact h
theorem six {w : World} {b : Nat} {v0 v1 v2 v3 v4 v5 : Value} (h : w.heap[b]? = some (.cells #[v0, v1, v2, v3, v4, v5] 30)) : w.cell? ⟨b, 0, none⟩ = some v0 ∧ w.cell? ⟨b, 1, none⟩ = some v1 ∧ w.cell? ⟨b, 2, none⟩ = some v2 ∧ w.cell? ⟨b, 3, none⟩ = some v3 ∧ w.cell? ⟨b, 4, none⟩ = some v4 ∧ w.cell? ⟨b, 5, none⟩ = some v5 ∧ w.frozen? ⟨b, 0, none⟩ = false ∧ w.frozen? ⟨b, 1, none⟩ = false ∧ w.frozen? ⟨b, 2, none⟩ = false ∧ w.frozen? ⟨b, 3, none⟩ = false ∧ w.frozen? ⟨b, 4, none⟩ = false ∧ w.frozen? ⟨b, 5, none⟩ = false := by
  simp only [World.cell?, World.frozen?, h]
  exact ⟨rfl, rfl, rfl, rfl, rfl, rfl, rfl, rfl, rfl, rfl, rfl, rfl⟩
def put6 (w : World) (b : Nat) (u0 u1 u2 u3 u4 u5 : Value) : World := (((((w.setCell ⟨b, 0, none⟩ u0).setCell ⟨b, 1, none⟩ u1).setCell ⟨b, 2, none⟩ u2).setCell ⟨b, 3, none⟩ u3).setCell ⟨b, 4, none⟩ u4).setCell ⟨b, 5, none⟩ u5
theorem put6_blk {w : World} {b : Nat} {v0 v1 v2 v3 v4 v5 : Value} (h : w.heap[b]? = some (.cells #[v0, v1, v2, v3, v4, v5] 30)) (u0 u1 u2 u3 u4 u5 : Value) : (put6 w b u0 u1 u2 u3 u4 u5).heap[b]? = some (.cells #[u0, u1, u2, u3, u4, u5] 30) := by
  unfold put6
  simp [World.setCell, Array.getElem?_modify, h]
theorem put6_far (w : World) (b : Nat) (u0 u1 u2 u3 u4 u5 : Value) (k : Nat) (hk : k ≠ b) : (put6 w b u0 u1 u2 u3 u4 u5).heap[k]? = w.heap[k]? := by
  unfold put6
  iterate 6 rw [Below.heap_setCell _ _ _ _ hk]
theorem put6_size (w : World) (b : Nat) (u0 u1 u2 u3 u4 u5 : Value) : (put6 w b u0 u1 u2 u3 u4 u5).heap.size = w.heap.size := by
  unfold put6
  simp [World.setCell]
theorem put6_rest (w : World) (b : Nat) (u0 u1 u2 u3 u4 u5 : Value) : (put6 w b u0 u1 u2 u3 u4 u5).os = w.os ∧ (put6 w b u0 u1 u2 u3 u4 u5).tape = w.tape ∧ (put6 w b u0 u1 u2 u3 u4 u5).output = w.output := by
  unfold put6
  simp only [World.setCell]
  exact ⟨trivial, trivial, trivial⟩
theorem put6_below {B : Nat} {a w : World} {b : Nat} (h : Below B a w) (hb : B ≤ b) (u0 u1 u2 u3 u4 u5 : Value) : Below B a (put6 w b u0 u1 u2 u3 u4 u5) := by
  obtain ⟨e1, e2, e3⟩ := put6_rest w b u0 u1 u2 u3 u4 u5
  exact ⟨e1.trans h.os, e2.trans h.tape, e3.trans h.output, by rw [put6_size]; exact h.size, fun k hk => (put6_far _ _ _ _ _ _ _ _ k (by omega)).trans (h.block k hk)⟩
theorem ref_do {n : Nat} {s : St} {cs : List S60} (hR : Rel n s cs) (hI : Inv n s) (hn : n ≤ 100) (c : Bool) (q u : Int) : ∃ cs', Rel (n + 1) (doS s c q u) cs' ∧
    (if c = true then sawmillref55_Account_Claim.f 300 s.f s.p s.la s.cr s.cl cs q u else sawmillref55_Account_Credit.f 300 s.f s.p s.la s.cr s.cl cs q u) = some ((doS s c q u).f, (doS s c q u).p, (doS s c q u).la, (doS s c q u).cr, (doS s c q u).cl, cs', doC s c q u) := by
  cases c
  · obtain ⟨cs', h1, h2⟩ := ref_credit hR hI hn q u
    exact ⟨cs', h2, by simpa [doC, doS] using h1⟩
  · obtain ⟨cs', h1, h2⟩ := ref_claim hR hI hn q u
    exact ⟨cs', h2, by simpa [doC, doS] using h1⟩
set_option maxRecDepth 100000 in
set_option maxHeartbeats 2000000 in
theorem should_calls (n : Nat) (s s2 : St) (cs cs2 : List S60) (c : Bool) (q u : Int) (P : Nat → Prop) (v9 : Value) (w0 w : World) (hs2 : s2 = doS s c q u)
    (href : (if c = true then sawmillref55_Account_Claim.f 300 s.f s.p s.la s.cr s.cl cs q u else sawmillref55_Account_Credit.f 300 s.f s.p s.la s.cr s.cl cs q u) = some (s2.f, s2.p, s2.la, s2.cr, s2.cl, cs2, doC s c q u))
    (hB : Below w0.heap.size w0 w) (hO : Kd.R k60 60 w w0.heap.size P v9 cs) :
    Calls Try.prog 11 #[.agg #[.int .i64 s.f, .int .i64 s.p, .int .i64 s.la, .int .i64 s.cr, .int .i64 s.cl, v9], .agg #[.bool c, .int .i64 q, .int .i64 u]] w fun e w' => ∃ v5 : Value, e = .returned (.tuple #[.agg #[.int .i64 s2.f, .int .i64 s2.p, .int .i64 s2.la, .int .i64 s2.cr, .int .i64 s2.cl, v5], .int .i64 (doC s c q u)]) ∧ Kd.R k60 60 w' w0.heap.size (fun k => P k ∨ w.heap.size ≤ k) v5 cs2 ∧ Below w0.heap.size w0 w' ∧ Kept w w' P := by
  obtain ⟨A9, c9, rfl, _, _⟩ := Kd.R_reads hO
  obtain ⟨W1, hW1⟩ : ∃ W1, W1 = ((w.alloc (.cells #[.int .i64 s.f, .int .i64 s.p, .int .i64 s.la, .int .i64 s.cr, .int .i64 s.cl, .slice A9 cs.length c9] 30)).alloc (.cells #[.bool c, .int .i64 q, .int .i64 u] 36)).alloc (.cells #[.int .i64 0, .int .i64 0, .int .i64 0, .int .i64 0, .int .i64 0, .slice none 0 0] 30) := ⟨_, rfl⟩
  have hbel : Below w.heap.size w W1 := hW1 ▸ ((((Below.refl w.heap.size w).alloc (Nat.le_refl _) _).alloc (by simp) _).alloc (by simp; omega) _)
  have HB0 := Lib.hid hB.size
  have HO := Lib.hid (Kd.R_below (Kd.R_mono (Kd.R_bound hO) (ok' := fun k => P k ∧ k < w.heap.size) (fun k hk => ⟨hk.1, hk.2.2.1⟩)) hbel)
  have HB := Lib.hid (hB.trans (hbel.mono hB.size))
  have hsz : W1.heap.size = w.heap.size + 3 := by rw [hW1]; simp
  have HSZ := Lib.hid hsz
  have HBL := Lib.hid hbel
  have HBK := Lib.hid (show W1.heap[w.heap.size + 2]? = some (.cells #[.int .i64 0, .int .i64 0, .int .i64 0, .int .i64 0, .int .i64 0, .slice none 0 0] 30) by rw [hW1]; exact top2 _ _ _ _)
  have HWW := Lib.hid hW1
  clear hW1 hbel hO hB hsz hs2
  cases c
  · rw [if_neg (by decide)] at href
    have HF := Lib.hid href
    clear href
    go_enter Try.func11, Try.ntmps11
    go_wp2_with (go_at_call 21; rw [← HWW.out]; (with_reducible refine (sawmillref55_Account_Credit.calls 300 s.f s.p s.la s.cr s.cl (fun k => P k ∧ k < w.heap.size) (.slice A9 cs.length c9) cs q u _ _ _ _ _ cs2 _ w0 W1 HB.out HO.out HF.out).mono ?_); rintro e wx ⟨v5, rfl, hO2, hB2, hK2⟩; obtain ⟨A5, c5, rfl, _, _⟩ := Kd.R_reads hO2; have HO2 := Lib.hid hO2; have HB2 := Lib.hid hB2; have HK2 := Lib.hid hK2; have hbx : wx.heap[w.heap.size + 1 + 1]? = _ := blk_kept HBK.out hK2 (by have := HSZ.out; omega); obtain ⟨d0, d1, d2, d3, d4, d5, f0, f1, f2, f3, f4, f5⟩ := six hbx; have HBX := Lib.hid hbx; clear hbx; clear hO2 hB2 hK2)
    go_wp2
    obtain ⟨wz, hwz⟩ : ∃ wz, wz = put6 wx (w.heap.size + 1 + 1) (.int .i64 s2.f) (.int .i64 s2.p) (.int .i64 s2.la) (.int .i64 s2.cr) (.int .i64 s2.cl) (.slice A5 cs2.length c5) := ⟨_, rfl⟩
    have hbz := put6_blk HBX.out (.int .i64 s2.f) (.int .i64 s2.p) (.int .i64 s2.la) (.int .i64 s2.cr) (.int .i64 s2.cl) (.slice A5 cs2.length c5)
    have hR := Kd.R_step (w1 := wz) HO2.out (fun k hk _ => by rw [hwz]; exact put6_far _ _ _ _ _ _ _ _ k (by have := HSZ.out; rcases hk with hk | hk; exact (by have := hk.2; omega); exact (by omega)))
    have hB3 : Below w0.heap.size w0 wz := by rw [hwz]; exact put6_below HB2.out (by have := HB0.out; omega) _ _ _ _ _ _
    have hK3 : Kept w wz P := by
      refine ⟨by rw [hwz, put6_size]; have := HK2.out.1; have := HSZ.out; omega, fun k hk hP => ?_⟩
      rw [hwz, put6_far _ _ _ _ _ _ _ _ k (by omega), HK2.out.2 k (by have := HSZ.out; omega) (fun h => hP h.1), HBL.out.block k hk]
    rw [← hwz] at hbz
    have hwz2 := hwz.symm
    unfold put6 at hwz2
    rw [hwz2]
    clear d0 d1 d2 d3 d4 d5 f0 f1 f2 f3 f4 f5 hwz hwz2
    (try simp only [Exit.inBlock, Exit.then])
    refine bodyPost_ret (results_ct rfl _ _ (w.heap.size + 1 + 1) 30 #[.int .i64 s2.f, .int .i64 s2.p, .int .i64 s2.la, .int .i64 s2.cr, .int .i64 s2.cl, .slice A5 cs2.length c5] (0, 0) _ rfl hbz Try.underlying30 rfl (by kernel_rfl)) rfl ?_
    exact ⟨_, rfl, Kd.R_mono hR (fun k hk => hk.elim (fun h => .inl h.1) (fun h => .inr (by have := HSZ.out; omega))), hB3, hK3⟩
  · rw [if_pos rfl] at href
    have HF := Lib.hid href
    clear href
    go_enter Try.func11, Try.ntmps11
    go_wp2_with (go_at_call 20; rw [← HWW.out]; (with_reducible refine (sawmillref55_Account_Claim.calls 300 s.f s.p s.la s.cr s.cl (fun k => P k ∧ k < w.heap.size) (.slice A9 cs.length c9) cs q u _ _ _ _ _ cs2 _ w0 W1 HB.out HO.out HF.out).mono ?_); rintro e wx ⟨v5, rfl, hO2, hB2, hK2⟩; obtain ⟨A5, c5, rfl, _, _⟩ := Kd.R_reads hO2; have HO2 := Lib.hid hO2; have HB2 := Lib.hid hB2; have HK2 := Lib.hid hK2; have hbx : wx.heap[w.heap.size + 1 + 1]? = _ := blk_kept HBK.out hK2 (by have := HSZ.out; omega); obtain ⟨d0, d1, d2, d3, d4, d5, f0, f1, f2, f3, f4, f5⟩ := six hbx; have HBX := Lib.hid hbx; clear hbx; clear hO2 hB2 hK2)
    go_wp2
    obtain ⟨wz, hwz⟩ : ∃ wz, wz = put6 wx (w.heap.size + 1 + 1) (.int .i64 s2.f) (.int .i64 s2.p) (.int .i64 s2.la) (.int .i64 s2.cr) (.int .i64 s2.cl) (.slice A5 cs2.length c5) := ⟨_, rfl⟩
    have hbz := put6_blk HBX.out (.int .i64 s2.f) (.int .i64 s2.p) (.int .i64 s2.la) (.int .i64 s2.cr) (.int .i64 s2.cl) (.slice A5 cs2.length c5)
    have hR := Kd.R_step (w1 := wz) HO2.out (fun k hk _ => by rw [hwz]; exact put6_far _ _ _ _ _ _ _ _ k (by have := HSZ.out; rcases hk with hk | hk; exact (by have := hk.2; omega); exact (by omega)))
    have hB3 : Below w0.heap.size w0 wz := by rw [hwz]; exact put6_below HB2.out (by have := HB0.out; omega) _ _ _ _ _ _
    have hK3 : Kept w wz P := by
      refine ⟨by rw [hwz, put6_size]; have := HK2.out.1; have := HSZ.out; omega, fun k hk hP => ?_⟩
      rw [hwz, put6_far _ _ _ _ _ _ _ _ k (by omega), HK2.out.2 k (by have := HSZ.out; omega) (fun h => hP h.1), HBL.out.block k hk]
    rw [← hwz] at hbz
    have hwz2 := hwz.symm
    unfold put6 at hwz2
    rw [hwz2]
    clear d0 d1 d2 d3 d4 d5 f0 f1 f2 f3 f4 f5 hwz hwz2
    (try simp only [Exit.inBlock, Exit.then])
    refine bodyPost_ret (results_ct rfl _ _ (w.heap.size + 1 + 1) 30 #[.int .i64 s2.f, .int .i64 s2.p, .int .i64 s2.la, .int .i64 s2.cr, .int .i64 s2.cl, .slice A5 cs2.length c5] (0, 0) _ rfl hbz Try.underlying30 rfl (by kernel_rfl)) rfl ?_
    exact ⟨_, rfl, Kd.R_mono hR (fun k hk => hk.elim (fun h => .inl h.1) (fun h => .inr (by have := HSZ.out; omega))), hB3, hK3⟩
end Go.Proofs.Ytmbelohcebfdcaa.Acc
