/- ClaimRuns: its walk; no condition. -/
import Derived.Test.YtmbelohcebfdcaaShould
import Derived.StillTailTactics
set_option linter.unusedVariables false
set_option linter.unusedSimpArgs false
namespace Go.Proofs.Ytmbelohcebfdcaa.Acc
open Go.RowKit Go.Maps Go.Proofs.Ytmbelohcebfdcaa.PRf Go.Proofs.YtmbelohcebfdcaaW.PrintWords Go.Proofs.YtmbelohcebfdcaaW.PrintLast Go.Proofs.YtmbelohcebfdcaaW.PrintMore
theorem after1 {wb wc : World} {o : Obj} (hb : Below (wb.alloc o).heap.size (wb.alloc o) wc) : Below wb.heap.size wb wc :=
  ((Below.refl wb.heap.size wb).alloc (Nat.le_refl _) o).trans (hb.mono ((Below.refl wb.heap.size wb).alloc (Nat.le_refl _) o).size)
def Pk (sb bm b7 : Nat) : Nat → Prop := fun j => j ≠ sb ∧ j ≠ bm ∧ j ≠ b7
def P10 (sb bm b7 n : Nat) : Nat → Prop := fun j => (j ≠ sb ∧ j ≠ bm ∧ j ≠ b7) ∧ j < n
structure Frm (W0 : World) (sb bm b7 : Nat) (s : St) (o : Obj) (w : World) : Prop where
  acc : AccS w sb bm s
  blk : w.heap[b7]? = some o
  bel : Below W0.heap.size W0 w
theorem Frm.drew {W0 w : World} {sb bm b7 : Nat} {s : St} {o : Obj} (h : Frm W0 sb bm b7 s o w) : Frm W0 sb bm b7 s o w.drew := ⟨Acc.of h.acc rfl rfl, h.blk, ⟨h.bel.os, h.bel.tape, h.bel.output, h.bel.size, h.bel.block⟩⟩
theorem Frm.alloc {W0 w : World} {sb bm b7 : Nat} {s : St} {o : Obj} (h : Frm W0 sb bm b7 s o w) (x : Obj) : Frm W0 sb bm b7 s o (w.alloc x) := by
  have hb := (Below.refl w.heap.size w).alloc (Nat.le_refl _) x
  exact ⟨h.acc.below hb, (hb.block b7 (Array.getElem?_eq_some_iff.1 h.blk).1).trans h.blk, h.bel.trans (hb.mono h.bel.size)⟩
theorem Frm.kept {W0 w w' : World} {sb bm b7 n : Nat} {s : St} {o : Obj} (h : Frm W0 sb bm b7 s o w) (hk : Kept w w' (P10 sb bm b7 n)) (hb : Below W0.heap.size W0 w') (hl : sb < n ∧ bm < n ∧ b7 < n) (hn : n ≤ w.heap.size) : Frm W0 sb bm b7 s o w' :=
  ⟨Acc.of h.acc (hk.2 sb (by omega) (fun hp => hp.1.1 rfl)) (hk.2 bm (by omega) (fun hp => hp.1.2.1 rfl)), (hk.2 b7 (by omega) (fun hp => hp.1.2.2 rfl)).trans h.blk, hb⟩
theorem Frm.put {W0 w : World} {sb bm b7 b : Nat} {s : St} {o : Obj} (h : Frm W0 sb bm b7 s o w) (h1 : sb ≠ b) (h2 : bm ≠ b) (h3 : b7 ≠ b) (h4 : W0.heap.size ≤ b) (u0 u1 u2 u3 u4 u5 : Value) : Frm W0 sb bm b7 s o ((((((w.setCell ⟨b, 0, none⟩ u0).setCell ⟨b, 1, none⟩ u1).setCell ⟨b, 2, none⟩ u2).setCell ⟨b, 3, none⟩ u3).setCell ⟨b, 4, none⟩ u4).setCell ⟨b, 5, none⟩ u5) := by
  have far := put6_far w b u0 u1 u2 u3 u4 u5
  have bel := put6_below h.bel h4 u0 u1 u2 u3 u4 u5
  unfold put6 at far bel
  exact ⟨Acc.of h.acc (far _ h1) (far _ h2), (far _ h3).trans h.blk, bel⟩
theorem freshX {W0 wr : World} {sb bm b7 : Nat} (h : sb < wr.heap.size ∧ bm < wr.heap.size ∧ b7 < wr.heap.size) (hs : W0.heap.size ≤ wr.heap.size) : sb ≠ wr.heap.size ∧ bm ≠ wr.heap.size ∧ b7 ≠ wr.heap.size ∧ W0.heap.size ≤ wr.heap.size := ⟨by omega, by omega, by omega, hs⟩
theorem keptX {wr wx : World} {sb bm b7 : Nat} {o : Obj} (hk : Kept (wr.alloc o).drew wx (P10 sb bm b7 wr.heap.size)) : wx.heap[wr.heap.size]? = some o := by
  have h1 := (MapKept.heap_alloc wr o).1
  exact (hk.2 wr.heap.size (by have e : (wr.alloc o).heap.size = wr.heap.size + 1 := by simp
                               show _ < (wr.alloc o).heap.size
                               rw [e]; exact Nat.lt_succ_self _) (fun hp => Nat.lt_irrefl _ hp.2)).trans h1
theorem leA (w : World) (o : Obj) : w.heap.size ≤ (w.alloc o).drew.heap.size := by
  have e : (w.alloc o).heap.size = w.heap.size + 1 := by simp
  show _ ≤ (w.alloc o).heap.size
  rw [e]
  exact Nat.le_succ _
def Pk2 (sb bm b7 b10 : Nat) : Nat → Prop := fun j => j ≠ sb ∧ j ≠ bm ∧ j ≠ b7 ∧ j ≠ b10
structure Row (W0 : World) (sb bm b7 b10 : Nat) (o : Obj) (v : Value) (cs : List S60) (w : World) : Prop where
  own : Kd.R k60 60 w W0.heap.size (Pk2 sb bm b7 b10) v cs
  blk : w.heap[b7]? = some o
  bel : Below W0.heap.size W0 w
theorem Kept2.cell {sb bm : Nat} {w w' : World} {a : Addr} {u : Value} (hk : Kept2 sb bm w w') (h : w.cell? a = some u) (h1 : a.block ≠ sb) (h2 : a.block ≠ bm) : w'.cell? a = some u := by
  have := hk.block a.block (World.block_lt_of_cell? w a h) h1 h2
  simpa [World.cell?, this] using h
theorem Row.kept {W0 w w' : World} {sb bm b7 b10 : Nat} {o : Obj} {v : Value} {cs : List S60} (h : Row W0 sb bm b7 b10 o v cs w) (hk : Kept2 sb bm w w') (h1 : b7 ≠ sb) (h2 : b7 ≠ bm) (h3 : W0.heap.size ≤ sb) (h4 : W0.heap.size ≤ bm) : Row W0 sb bm b7 b10 o v cs w' :=
  ⟨Kd.R_step h.own (fun k hk1 hlt => hk.block k hlt hk1.1 hk1.2.1), (hk.block b7 (Array.getElem?_eq_some_iff.1 h.blk).1 h1 h2).trans h.blk, h.bel.trans (hk.below h.bel.size h3 h4)⟩
theorem Row.drewN {W0 w : World} {sb bm b7 b10 : Nat} {o : Obj} {v : Value} {cs : List S60} (h : Row W0 sb bm b7 b10 o v cs w) (n : Nat) : Row W0 sb bm b7 b10 o v cs (w.drewN n) :=
  ⟨Kd.R_step h.own (fun _ _ _ => rfl), h.blk, ⟨h.bel.os, h.bel.tape, h.bel.output, h.bel.size, h.bel.block⟩⟩
def Dst (sb bm : Nat) (b : Nat) : Prop := b ≠ sb ∧ b ≠ bm
theorem keepR {W0 w w' : World} {sb bm b7 b10 : Nat} {o : Obj} {s2 : St} {v2 : Value} {cs2 : List S60} {a0 a1 a2 a3 : Addr} {u0 u1 u2 u3 : Value} (d : Dst sb bm b10 ∧ Dst sb bm b7 ∧ Dst sb bm a0.block ∧ Dst sb bm a1.block ∧ Dst sb bm a2.block ∧ Dst sb bm a3.block) (h3 : W0.heap.size ≤ sb) (h4 : W0.heap.size ≤ bm)
    (h : w.cell? ⟨b10, 0, none⟩ = some (.int .i64 s2.f) ∧ w.cell? ⟨b10, 1, none⟩ = some (.int .i64 s2.p) ∧ w.cell? ⟨b10, 2, none⟩ = some (.int .i64 s2.la) ∧ w.cell? ⟨b10, 3, none⟩ = some (.int .i64 s2.cr) ∧ w.cell? ⟨b10, 4, none⟩ = some (.int .i64 s2.cl) ∧ w.cell? ⟨b10, 5, none⟩ = some (v2) ∧ w.cell? a0 = some u0 ∧ w.cell? a1 = some u1 ∧ w.cell? a2 = some u2 ∧ w.cell? a3 = some u3 ∧ Hid (Row W0 sb bm b7 b10 o v2 cs2 w)) (hk : Kept2 sb bm w w') :
    w'.cell? ⟨b10, 0, none⟩ = some (.int .i64 s2.f) ∧ w'.cell? ⟨b10, 1, none⟩ = some (.int .i64 s2.p) ∧ w'.cell? ⟨b10, 2, none⟩ = some (.int .i64 s2.la) ∧ w'.cell? ⟨b10, 3, none⟩ = some (.int .i64 s2.cr) ∧ w'.cell? ⟨b10, 4, none⟩ = some (.int .i64 s2.cl) ∧ w'.cell? ⟨b10, 5, none⟩ = some (v2) ∧ w'.cell? a0 = some u0 ∧ w'.cell? a1 = some u1 ∧ w'.cell? a2 = some u2 ∧ w'.cell? a3 = some u3 ∧ Hid (Row W0 sb bm b7 b10 o v2 cs2 w') := by
  obtain ⟨d1, d2, d3, d4, d5, d6⟩ := d
  obtain ⟨c0, c1, c2, c3, c4, c5, c6, c7, c8, c9, c10⟩ := h
  exact ⟨hk.cell c0 d1.1 d1.2, hk.cell c1 d1.1 d1.2, hk.cell c2 d1.1 d1.2, hk.cell c3 d1.1 d1.2, hk.cell c4 d1.1 d1.2, hk.cell c5 d1.1 d1.2, hk.cell c6 d3.1 d3.2, hk.cell c7 d4.1 d4.2, hk.cell c8 d5.1 d5.2, hk.cell c9 d6.1 d6.2, Lib.hid (c10.out.kept hk d2.1 d2.2 h3 h4)⟩
theorem rowOf {W0 w : World} {sb bm b7 b10 : Nat} {o : Obj} {s2 : St} {v2 : Value} {cs2 : List S60} {a0 a1 a2 a3 : Addr} {u0 u1 u2 u3 : Value} (h : w.cell? ⟨b10, 0, none⟩ = some (.int .i64 s2.f) ∧ w.cell? ⟨b10, 1, none⟩ = some (.int .i64 s2.p) ∧ w.cell? ⟨b10, 2, none⟩ = some (.int .i64 s2.la) ∧ w.cell? ⟨b10, 3, none⟩ = some (.int .i64 s2.cr) ∧ w.cell? ⟨b10, 4, none⟩ = some (.int .i64 s2.cl) ∧ w.cell? ⟨b10, 5, none⟩ = some (v2) ∧ w.cell? a0 = some u0 ∧ w.cell? a1 = some u1 ∧ w.cell? a2 = some u2 ∧ w.cell? a3 = some u3 ∧ Hid (Row W0 sb bm b7 b10 o v2 cs2 w)) : Row W0 sb bm b7 b10 o v2 cs2 w := h.2.2.2.2.2.2.2.2.2.2.out
set_option maxRecDepth 100000 in
set_option maxHeartbeats 400000 in
theorem runs_bad1 (n0 n1 n2 : Int) (A : Option Addr) (len cap : Nat) (w : World) (hbad : (betw n0 0 1000 && betw n1 1 24) = false) (g1 : decide (100 < (len : Int)) = true) :
    Calls Try.prog 3 #[.agg #[.int .i64 n0, .int .i64 n1, .int .i64 n2], .slice A len cap] w fun e w' => e = .returned (.bool true) ∧ Below w.heap.size w w' := by
  have HNF := Lib.hid (show sawmillref55_New.f n0 n1 = _ from ref_new n0 n1)
  rw [hbad, if_neg (by decide)] at HNF
  obtain ⟨W0, hW0⟩ : ∃ W0, W0 = w.alloc (.cells #[.int .i64 n0, .int .i64 n1, .int .i64 n2] 22) := ⟨_, rfl⟩
  have HW0 := Lib.hid (show Below w.heap.size w W0 from hW0 ▸ (Below.refl w.heap.size w).alloc (Nat.le_refl _) _)
  have hblk : W0.heap[w.heap.size]? = some (.cells #[.int .i64 n0, .int .i64 n1, .int .i64 n2] 22) := by rw [hW0]; exact (MapKept.heap_alloc w _).1
  have HN0 := Lib.hid (show W0.cell? ⟨w.heap.size, 0, none⟩ = some (.int .i64 n0) by simp only [World.cell?, hblk]; rfl)
  have HN1 := Lib.hid (show W0.cell? ⟨w.heap.size, 1, none⟩ = some (.int .i64 n1) by simp only [World.cell?, hblk]; rfl)
  have HN2 := Lib.hid (show W0.cell? ⟨w.heap.size, 2, none⟩ = some (.int .i64 n2) by simp only [World.cell?, hblk]; rfl)
  have HSZ := Lib.hid (show w.heap.size < W0.heap.size by rw [hW0]; simp)
  have HWW := Lib.hid hW0
  clear hW0 hblk
  go_enter Try.func3, Try.ntmps3
  go_wp2_with (first
    | (go_at_call 8; rw [← HWW.out]; (with_reducible refine (new_calls n0 n1 W0).mono ?_); intro e wa hx; rw [hbad] at hx; rw [if_neg (by decide)] at hx; obtain ⟨rfl, hwa⟩ := hx; have HB0 := Lib.hid (show Below W0.heap.size W0 wa from hwa ▸ Below.refl _ _); have y0 : wa.cell? ⟨w.heap.size, 0, none⟩ = some (.int .i64 n0) := hwa ▸ HN0.out; have y1 : wa.cell? ⟨w.heap.size, 1, none⟩ = some (.int .i64 n1) := hwa ▸ HN1.out; clear hwa)
    | (go_at_call 9; (with_reducible refine (sawmillref55_New.calls n0 n1 _ _ _ _ _ _ _ wa HNF.out).mono ?_); rintro e wb ⟨v5, rfl, hO, hb⟩; obtain ⟨A5, c5, rfl, _, _⟩ := Kd.R_reads hO; have HO1 := Lib.hid hO; have HB1 := Lib.hid (HB0.out.trans (hb.mono HB0.out.size)); have HBB := Lib.hid hb; clear hO hb y0 y1)
    | (go_at_call 10; (with_reducible refine (awake_calls _).mono ?_); rintro e wc ⟨rfl, hb⟩; have HB2 := Lib.hid (HB1.out.trans ((after1 hb).mono HB1.out.size)); clear hb))
  go_ret
  exact ⟨rfl, HW0.out.trans (HB2.out.mono HW0.out.size)⟩
set_option maxRecDepth 100000 in
set_option maxHeartbeats 400000 in
theorem runs_bad2 (n0 n1 n2 : Int) (A : Option Addr) (len cap : Nat) (w : World) (hbad : (betw n0 0 1000 && betw n1 1 24) = false) (g1 : decide (100 < (len : Int)) = false) :
    Calls Try.prog 3 #[.agg #[.int .i64 n0, .int .i64 n1, .int .i64 n2], .slice A len cap] w fun e w' => e = .returned (.bool true) ∧ Below w.heap.size w w' := by
  have HNF := Lib.hid (show sawmillref55_New.f n0 n1 = _ from ref_new n0 n1)
  rw [hbad, if_neg (by decide)] at HNF
  obtain ⟨W0, hW0⟩ : ∃ W0, W0 = w.alloc (.cells #[.int .i64 n0, .int .i64 n1, .int .i64 n2] 22) := ⟨_, rfl⟩
  have HW0 := Lib.hid (show Below w.heap.size w W0 from hW0 ▸ (Below.refl w.heap.size w).alloc (Nat.le_refl _) _)
  have hblk : W0.heap[w.heap.size]? = some (.cells #[.int .i64 n0, .int .i64 n1, .int .i64 n2] 22) := by rw [hW0]; exact (MapKept.heap_alloc w _).1
  have HN0 := Lib.hid (show W0.cell? ⟨w.heap.size, 0, none⟩ = some (.int .i64 n0) by simp only [World.cell?, hblk]; rfl)
  have HN1 := Lib.hid (show W0.cell? ⟨w.heap.size, 1, none⟩ = some (.int .i64 n1) by simp only [World.cell?, hblk]; rfl)
  have HN2 := Lib.hid (show W0.cell? ⟨w.heap.size, 2, none⟩ = some (.int .i64 n2) by simp only [World.cell?, hblk]; rfl)
  have HSZ := Lib.hid (show w.heap.size < W0.heap.size by rw [hW0]; simp)
  have HWW := Lib.hid hW0
  clear hW0 hblk
  go_enter Try.func3, Try.ntmps3
  go_wp2_with (first
    | (go_at_call 8; rw [← HWW.out]; (with_reducible refine (new_calls n0 n1 W0).mono ?_); intro e wa hx; rw [hbad] at hx; rw [if_neg (by decide)] at hx; obtain ⟨rfl, hwa⟩ := hx; have HB0 := Lib.hid (show Below W0.heap.size W0 wa from hwa ▸ Below.refl _ _); have y0 : wa.cell? ⟨w.heap.size, 0, none⟩ = some (.int .i64 n0) := hwa ▸ HN0.out; have y1 : wa.cell? ⟨w.heap.size, 1, none⟩ = some (.int .i64 n1) := hwa ▸ HN1.out; clear hwa)
    | (go_at_call 9; (with_reducible refine (sawmillref55_New.calls n0 n1 _ _ _ _ _ _ _ wa HNF.out).mono ?_); rintro e wb ⟨v5, rfl, hO, hb⟩; obtain ⟨A5, c5, rfl, _, _⟩ := Kd.R_reads hO; have HO1 := Lib.hid hO; have HB1 := Lib.hid (HB0.out.trans (hb.mono HB0.out.size)); have HBB := Lib.hid hb; clear hO hb y0 y1)
    | (go_at_call 10; (with_reducible refine (awake_calls _).mono ?_); rintro e wc ⟨rfl, hb⟩; have HB2 := Lib.hid (HB1.out.trans ((after1 hb).mono HB1.out.size)); clear hb))
  go_ret
  exact ⟨rfl, HW0.out.trans (HB2.out.mono HW0.out.size)⟩
set_option maxRecDepth 100000 in
set_option maxHeartbeats 400000 in
theorem runs_long (n0 n1 n2 : Int) (A : Option Addr) (len cap : Nat) (w : World) (hok : (betw n0 0 1000 && betw n1 1 24) = true) (g1 : decide (100 < (len : Int)) = true) :
    Calls Try.prog 3 #[.agg #[.int .i64 n0, .int .i64 n1, .int .i64 n2], .slice A len cap] w fun e w' => e = .returned (.bool true) ∧ Below w.heap.size w w' := by
  have HNF := Lib.hid (show sawmillref55_New.f n0 n1 = _ from ref_new n0 n1)
  rw [hok, if_pos rfl] at HNF
  obtain ⟨W0, hW0⟩ : ∃ W0, W0 = w.alloc (.cells #[.int .i64 n0, .int .i64 n1, .int .i64 n2] 22) := ⟨_, rfl⟩
  have HW0 := Lib.hid (show Below w.heap.size w W0 from hW0 ▸ (Below.refl w.heap.size w).alloc (Nat.le_refl _) _)
  have hblk : W0.heap[w.heap.size]? = some (.cells #[.int .i64 n0, .int .i64 n1, .int .i64 n2] 22) := by rw [hW0]; exact (MapKept.heap_alloc w _).1
  have HN0 := Lib.hid (show W0.cell? ⟨w.heap.size, 0, none⟩ = some (.int .i64 n0) by simp only [World.cell?, hblk]; rfl)
  have HN1 := Lib.hid (show W0.cell? ⟨w.heap.size, 1, none⟩ = some (.int .i64 n1) by simp only [World.cell?, hblk]; rfl)
  have HN2 := Lib.hid (show W0.cell? ⟨w.heap.size, 2, none⟩ = some (.int .i64 n2) by simp only [World.cell?, hblk]; rfl)
  have HSZ := Lib.hid (show w.heap.size < W0.heap.size by rw [hW0]; simp)
  have HWW := Lib.hid hW0
  clear hW0 hblk
  go_enter Try.func3, Try.ntmps3
  go_wp2_with (first
    | (go_at_call 8; rw [← HWW.out]; (with_reducible refine (new_calls n0 n1 W0).mono ?_); intro e wa hx; rw [hok, if_pos rfl] at hx; obtain ⟨sb, bm, rfl, ha, h1, h2, hb⟩ := hx; have HA0 := Lib.hid (show AccS wa sb bm ⟨n0, n1, -1, [], 0, 0⟩ from ha); have H1 := Lib.hid h1; have H2 := Lib.hid h2; have HB0 := Lib.hid hb; have y0 : wa.cell? ⟨w.heap.size, 0, none⟩ = some (.int .i64 n0) := (hb.cell HSZ.out).trans HN0.out; have y1 : wa.cell? ⟨w.heap.size, 1, none⟩ = some (.int .i64 n1) := (hb.cell HSZ.out).trans HN1.out; clear ha h1 h2 hb)
    | (go_at_call 9; (with_reducible refine (sawmillref55_New.calls n0 n1 _ _ _ _ _ _ _ wa HNF.out).mono ?_); rintro e wb ⟨v5, rfl, hO, hb⟩; obtain ⟨A5, c5, rfl, _, _⟩ := Kd.R_reads hO; have HO1 := Lib.hid hO; have HB1 := Lib.hid (HB0.out.trans (hb.mono HB0.out.size)); have HBB := Lib.hid hb; clear hO hb y0 y1)
    | (go_at_call 10; (with_reducible refine (awake_calls _).mono ?_); rintro e wc ⟨rfl, hb⟩; have HB2 := Lib.hid (HB1.out.trans ((after1 hb).mono HB1.out.size)); clear hb))
  go_ret
  exact ⟨rfl, HW0.out.trans (HB2.out.mono HW0.out.size)⟩
set_option maxRecDepth 100000 in
set_option maxHeartbeats 1000000 in
theorem runs_good (n0 n1 n2 : Int) (A : Option Addr) (zs : List (Bool × Int × Int)) (cap : Nat) (w : World) (hok : (betw n0 0 1000 && betw n1 1 24) = true) (g1 : decide (100 < (zs.length : Int)) = false) (hz : Steps w A zs) :
    Calls Try.prog 3 #[.agg #[.int .i64 n0, .int .i64 n1, .int .i64 n2], .slice A zs.length cap] w fun e w' => e = .returned (.bool true) ∧ Below w.heap.size w w' := by
  have HNF := Lib.hid (show sawmillref55_New.f n0 n1 = _ from ref_new n0 n1)
  rw [hok, if_pos rfl] at HNF
  have HZ := Lib.hid hz
  have hl100 : zs.length ≤ 100 := by simp at g1; omega
  clear hz
  obtain ⟨W0, hW0⟩ : ∃ W0, W0 = w.alloc (.cells #[.int .i64 n0, .int .i64 n1, .int .i64 n2] 22) := ⟨_, rfl⟩
  have HW0 := Lib.hid (show Below w.heap.size w W0 from hW0 ▸ (Below.refl w.heap.size w).alloc (Nat.le_refl _) _)
  have hblk : W0.heap[w.heap.size]? = some (.cells #[.int .i64 n0, .int .i64 n1, .int .i64 n2] 22) := by rw [hW0]; exact (MapKept.heap_alloc w _).1
  have HN0 := Lib.hid (show W0.cell? ⟨w.heap.size, 0, none⟩ = some (.int .i64 n0) by simp only [World.cell?, hblk]; rfl)
  have HN1 := Lib.hid (show W0.cell? ⟨w.heap.size, 1, none⟩ = some (.int .i64 n1) by simp only [World.cell?, hblk]; rfl)
  have HN2 := Lib.hid (show W0.cell? ⟨w.heap.size, 2, none⟩ = some (.int .i64 n2) by simp only [World.cell?, hblk]; rfl)
  have HSZ := Lib.hid (show w.heap.size < W0.heap.size by rw [hW0]; simp)
  have HWW := Lib.hid hW0
  clear hW0 hblk
  go_enter Try.func3, Try.ntmps3
  go_wp2_with (first
    | (go_at_call 8; rw [← HWW.out]; (with_reducible refine (new_calls n0 n1 W0).mono ?_); intro e wa hx; rw [hok, if_pos rfl] at hx; obtain ⟨sb, bm, rfl, ha, h1, h2, hb⟩ := hx; have HA0 := Lib.hid (show AccS wa sb bm ⟨n0, n1, -1, [], 0, 0⟩ from ha); have H1 := Lib.hid h1; have H2 := Lib.hid h2; have HB0 := Lib.hid hb; have y0 : wa.cell? ⟨w.heap.size, 0, none⟩ = some (.int .i64 n0) := (hb.cell HSZ.out).trans HN0.out; have y1 : wa.cell? ⟨w.heap.size, 1, none⟩ = some (.int .i64 n1) := (hb.cell HSZ.out).trans HN1.out; clear ha h1 h2 hb)
    | (go_at_call 9; (with_reducible refine (sawmillref55_New.calls n0 n1 _ _ _ _ _ _ _ wa HNF.out).mono ?_); rintro e wb ⟨v5, rfl, hO, hb⟩; obtain ⟨A5, c5, rfl, _, _⟩ := Kd.R_reads hO; have HO1 := Lib.hid hO; have HB1 := Lib.hid (HB0.out.trans (hb.mono HB0.out.size)); have HBB := Lib.hid hb; clear hO hb y0 y1))
  clear g1
  go_loopw [9] (fun i wr => ∃ (k : Nat) (s : St) (cs : List S60) (A2 : Option Addr) (c2 : Nat), i = .int .i64 (k : Int) ∧ k ≤ zs.length ∧ AccS wr sb bm s ∧ Inv k s ∧ Rel k s cs ∧ Kd.R k60 60 wr W0.heap.size (Pk sb bm wb.heap.size) (.slice A2 cs.length c2) cs ∧ wr.heap[wb.heap.size]? = some (.cells #[.int .i64 s.f, .int .i64 s.p, .int .i64 s.la, .int .i64 s.cr, .int .i64 s.cl, .slice A2 cs.length c2] 30) ∧ Below W0.heap.size W0 wr) (fun i _ => zs.length - (intOf i).toNat)
  case atStart =>
    have hal := (Below.refl wb.heap.size wb).alloc (Nat.le_refl _) (.cells #[.int .i64 (⟨n0, n1, -1, [], 0, 0⟩ : St).f, .int .i64 (⟨n0, n1, -1, [], 0, 0⟩ : St).p, .int .i64 (⟨n0, n1, -1, [], 0, 0⟩ : St).la, .int .i64 (⟨n0, n1, -1, [], 0, 0⟩ : St).cr, .int .i64 (⟨n0, n1, -1, [], 0, 0⟩ : St).cl, .slice A5 0 c5] 30)
    have hlt := Acc.lt HA0.out
    refine ⟨0, ⟨n0, n1, -1, [], 0, 0⟩, [], A5, c5, rfl, Nat.zero_le _, (HA0.out.below HBB.out).below hal, inv_new hok, ?_, ?_, (MapKept.heap_alloc wb _).1, HB1.out.trans (hal.mono HB1.out.size)⟩
    · exact ⟨Nat.zero_le _, List.Pairwise.nil, fun a ha => by simp [prs] at ha, fun a ha => by simp [prs] at ha, fun c => rfl⟩
    · exact Kd.R_below (Kd.R_lower (Kd.R_mono (Kd.R_bound HO1.out) (fun j hj => ⟨by have := hj.2.1; omega, by have := hj.2.1; omega, by have := hj.2.2.1; omega⟩)) HB0.out.size) hal
  case round =>
    obtain ⟨k, s, cs, A2, c2, rfl, hk, hacc, hinv, hrl, hrow, hbk, hbel⟩ := hrel
    have HAC := Lib.hid hacc
    have HI := Lib.hid hinv
    have HR := Lib.hid hrl
    have HRO := Lib.hid hrow
    have HBK := Lib.hid hbk
    have HBW := Lib.hid hbel
    have H7 := Lib.hid (show wb.heap.size ≠ sb ∧ wb.heap.size ≠ bm by have := Acc.lt HA0.out; have := HBB.out.size; omega)
    clear hacc hinv hrl hrow hbk hbel
    by_cases hlt : k < zs.length
    · obtain ⟨c, q, u, hz3⟩ : ∃ c q u, zs[k] = (c, q, u) := ⟨_, _, _, rfl⟩
      obtain ⟨cs2, hr2, hf2⟩ := ref_do HR.out HI.out (by omega) c q u
      obtain ⟨s2, hs2⟩ : ∃ s2, s2 = doS s c q u := ⟨_, rfl⟩
      have HI2 := Lib.hid (show Inv (k + 1) s2 from hs2 ▸ HI.out.step (by omega) c q u)
      rw [← hs2] at hr2 hf2
      have HS2 := Lib.hid hs2
      have HR2 := Lib.hid hr2
      have HF2 := Lib.hid hf2
      have HZ3 := Lib.hid hz3
      clear hs2 hr2 hf2 hz3
      obtain ⟨ad, rfl, hadl, x0, x1, x2⟩ := (HZ.out.below (HW0.out.trans (HBW.out.mono HW0.out.size)) (Nat.le_refl _)) k hlt
      rw [HZ3.out] at x0 x1 x2
      simp only at x0 x1 x2
      have HADW := Lib.hid (show (ad.add (k * 3)).block < w.heap.size by obtain ⟨ad0, e0, h0, _⟩ := HZ.out k hlt; cases e0; rw [add_blk]; exact h0)
      obtain ⟨o1, ho1⟩ : ∃ o1 : Obj, o1 = (.cells #[.int .i64 s.f, .int .i64 s.p, .int .i64 s.la, .int .i64 s.cr, .int .i64 s.cl, .slice A2 cs.length c2] 30) := ⟨_, rfl⟩
      have HO1E := Lib.hid ho1
      have HF0 := Lib.hid (show Frm W0 sb bm wb.heap.size s o1 wr from ⟨HAC.out, by rw [ho1]; exact HBK.out, HBW.out⟩)
      have MK := Lib.hid (show ∀ w', Frm W0 sb bm wb.heap.size s o1 w' → w'.cell? ⟨wb.heap.size, 0, none⟩ = some (.int .i64 s.f) ∧ w'.cell? ⟨wb.heap.size, 1, none⟩ = some (.int .i64 s.p) ∧ w'.cell? ⟨wb.heap.size, 2, none⟩ = some (.int .i64 s.la) ∧ w'.cell? ⟨wb.heap.size, 3, none⟩ = some (.int .i64 s.cr) ∧ w'.cell? ⟨wb.heap.size, 4, none⟩ = some (.int .i64 s.cl) ∧ w'.cell? ⟨wb.heap.size, 5, none⟩ = some (.slice A2 cs.length c2) ∧ w'.cell? (ad.add (k * 3)) = some (.bool c) ∧ w'.cell? ⟨(ad.add (k * 3)).block, (ad.add (k * 3)).off + 1, none⟩ = some (.int .i64 q) ∧ w'.cell? ⟨(ad.add (k * 3)).block, (ad.add (k * 3)).off + 2, none⟩ = some (.int .i64 u) ∧ Hid (Frm W0 sb bm wb.heap.size s o1 w') by
        intro w' hf
        obtain ⟨d0, d1, d2, d3, d4, d5, _⟩ := six (show w'.heap[wb.heap.size]? = some (.cells #[.int .i64 s.f, .int .i64 s.p, .int .i64 s.la, .int .i64 s.cr, .int .i64 s.cl, .slice A2 cs.length c2] 30) by rw [← HO1E.out]; exact hf.blk)
        obtain ⟨ad2, e2, _, x0, x1, x2⟩ := (HZ.out.below (HW0.out.trans (hf.bel.mono HW0.out.size)) (Nat.le_refl _)) k hlt
        cases e2
        rw [HZ3.out] at x0 x1 x2
        exact ⟨d0, d1, d2, d3, d4, d5, x0, x1, x2, Lib.hid hf⟩)
      have HR10 := Lib.hid (show Kd.R k60 60 wr W0.heap.size (P10 sb bm wb.heap.size wr.heap.size) (.slice A2 cs.length c2) cs from Kd.R_mono (Kd.R_bound HRO.out) (fun j hj => ⟨hj.1, hj.2.2.1⟩))
      have hlt0 := Acc.lt HAC.out
      have hb7 := (Array.getElem?_eq_some_iff.1 HBK.out).1
      have HLT := Lib.hid (show sb < wr.heap.size ∧ bm < wr.heap.size ∧ wb.heap.size < wr.heap.size from ⟨hlt0.1, hlt0.2, hb7⟩)
      clear hadl hlt0 hb7 ho1 x0 x1 x2
      go_wp2
      go_region_held3 (fun w' => w'.cell? ⟨wb.heap.size, 0, none⟩ = some (.int .i64 s.f) ∧ w'.cell? ⟨wb.heap.size, 1, none⟩ = some (.int .i64 s.p) ∧ w'.cell? ⟨wb.heap.size, 2, none⟩ = some (.int .i64 s.la) ∧ w'.cell? ⟨wb.heap.size, 3, none⟩ = some (.int .i64 s.cr) ∧ w'.cell? ⟨wb.heap.size, 4, none⟩ = some (.int .i64 s.cl) ∧ w'.cell? ⟨wb.heap.size, 5, none⟩ = some (.slice A2 cs.length c2) ∧ w'.cell? (ad.add (k * 3)) = some (.bool c) ∧ w'.cell? ⟨(ad.add (k * 3)).block, (ad.add (k * 3)).off + 1, none⟩ = some (.int .i64 q) ∧ w'.cell? ⟨(ad.add (k * 3)).block, (ad.add (k * 3)).off + 2, none⟩ = some (.int .i64 u) ∧ Hid (Frm W0 sb bm wb.heap.size s o1 w')) (first | (with_reducible assumption) | (with_reducible exact MK.out _ HF0.out.drew) | (with_reducible exact MK.out _ ((HF0.out.alloc _).drew)) | (with_reducible exact MK.out _ (HF0.out.drew.alloc _)) | (with_reducible exact MK.out _ HFX.out) | (with_reducible exact MK.out _ (HFX.out.alloc _)) | (with_reducible exact MK.out _ (HFX.out.put HPX.out.1 HPX.out.2.1 HPX.out.2.2.1 HPX.out.2.2.2 _ _ _ _ _ _)))
          (first
            | (go_at_call 11; (with_reducible refine (should_calls k s s2 cs cs2 c q u (P10 sb bm wb.heap.size wr.heap.size) (.slice A2 cs.length c2) W0 wr.drew HS2.out HF2.out HF0.out.drew.bel (Kd.R_step HR10.out (fun _ _ _ => rfl))).mono ?_); rintro e wx ⟨v6, rfl, hO2, hB2, hK2⟩; obtain ⟨A6, c6, rfl, _, _⟩ := Kd.R_reads hO2; have HO2 := Lib.hid hO2; have HK2 := Lib.hid hK2; have HFX := Lib.hid (Frm.kept HF0.out.drew hK2 hB2 HLT.out (Nat.le_refl _)); have hnew := MK.out _ HFX.out; clear hO2 hB2 hK2)
            | (go_at_call 11; (with_reducible refine (should_calls k s s2 cs cs2 c q u (P10 sb bm wb.heap.size wr.heap.size) (.slice A2 cs.length c2) W0 (wr.alloc (.cells #[.int .i64 0, .int .i64 0, .int .i64 0, .int .i64 0, .int .i64 0, .slice none 0 0] 30)).drew HS2.out HF2.out (HF0.out.alloc _).drew.bel (Kd.R_step (Kd.R_alloc HR10.out _) (fun _ _ _ => rfl))).mono ?_); rintro e wx ⟨v6, rfl, hO2, hB2, hK2⟩; obtain ⟨A6, c6, rfl, _, _⟩ := Kd.R_reads hO2; have HO2 := Lib.hid hO2; have HK2 := Lib.hid hK2; have HFX := Lib.hid (Frm.kept (HF0.out.alloc _).drew hK2 hB2 HLT.out (leA wr _)); have hnew := MK.out _ HFX.out; have HPX := Lib.hid (freshX HLT.out HF0.out.bel.size); obtain ⟨e0, e1, e2, e3, e4, e5, g0, g1, g2, g3, g4, g5⟩ := six (keptX hK2); clear hO2 hB2 hK2))
      all_goals go_wp2
      · obtain ⟨wy, hwy⟩ : ∃ wy, wy = wx.alloc (.cells #[.int .i64 s2.f, .int .i64 s2.p, .int .i64 s2.la, .int .i64 s2.cr, .int .i64 s2.cl, .slice A6 cs2.length c6] 30) := ⟨_, rfl⟩
        rw [← hwy]
        have HFY := Lib.hid (show Frm W0 sb bm wb.heap.size s o1 wy from hwy ▸ HFX.out.alloc _)
        have HY10 := Lib.hid (show wy.heap[wx.heap.size]? = some (.cells #[.int .i64 s2.f, .int .i64 s2.p, .int .i64 s2.la, .int .i64 s2.cr, .int .i64 s2.cl, .slice A6 cs2.length c6] 30) by rw [hwy]; exact (MapKept.heap_alloc wx _).1)
        have HSX := Lib.hid (show wr.heap.size ≤ wx.heap.size from HK2.out.1)
        have HRW := Lib.hid (show Row W0 sb bm wb.heap.size wx.heap.size o1 (.slice A6 cs2.length c6) cs2 wy from by
          refine ⟨?_, HFY.out.blk, HFY.out.bel⟩
          rw [hwy]
          refine Kd.R_alloc (Kd.R_mono (Kd.R_bound HO2.out) (fun j hj => ?_)) _
          obtain ⟨h1, _, h3, _⟩ := hj
          rcases h1 with h1 | h1
          · exact ⟨h1.1.1, h1.1.2.1, h1.1.2.2, by omega⟩
          · have h4 : wr.heap.size ≤ j := h1
            have := HLT.out
            exact ⟨by omega, by omega, by omega, by omega⟩)
        clear hwy
        obtain ⟨ad2, e2, _, x0, x1, x2⟩ := (HZ.out.below (HW0.out.trans (HFY.out.bel.mono HW0.out.size)) (Nat.le_refl _)) k hlt
        cases e2
        rw [HZ3.out] at x0 x1 x2
        simp only at x0 x1 x2
        have x9 : wy.cell? ⟨w.heap.size, 2, none⟩ = some (.int .i64 n2) := (HFY.out.bel.cell HSZ.out).trans HN2.out
        have HDS := Lib.hid (show Dst sb bm wx.heap.size ∧ Dst sb bm wb.heap.size ∧ Dst sb bm (ad.add (k * 3)).block ∧ Dst sb bm (⟨(ad.add (k * 3)).block, (ad.add (k * 3)).off + 1, none⟩ : Addr).block ∧ Dst sb bm (⟨(ad.add (k * 3)).block, (ad.add (k * 3)).off + 2, none⟩ : Addr).block ∧ Dst sb bm (⟨w.heap.size, 2, none⟩ : Addr).block by
          have := H1.out; have := H2.out; have := HSZ.out; have := HADW.out; have := H7.out; have := HLT.out; have := HFX.out.bel.size; have := HSX.out
          unfold Dst
          refine ⟨⟨by omega, by omega⟩, ⟨by omega, by omega⟩, ⟨by omega, by omega⟩, ⟨?_, ?_⟩, ⟨?_, ?_⟩, ⟨?_, ?_⟩⟩
          all_goals (show _ ≠ _; simp only; omega))
        obtain ⟨d0, d1, d2, d3, d4, d5, _⟩ := six HY10.out
        go_region_held3 (fun w' => w'.cell? ⟨wx.heap.size, 0, none⟩ = some (.int .i64 s2.f) ∧ w'.cell? ⟨wx.heap.size, 1, none⟩ = some (.int .i64 s2.p) ∧ w'.cell? ⟨wx.heap.size, 2, none⟩ = some (.int .i64 s2.la) ∧ w'.cell? ⟨wx.heap.size, 3, none⟩ = some (.int .i64 s2.cr) ∧ w'.cell? ⟨wx.heap.size, 4, none⟩ = some (.int .i64 s2.cl) ∧ w'.cell? ⟨wx.heap.size, 5, none⟩ = some (.slice A6 cs2.length c6) ∧ w'.cell? (ad.add (k * 3)) = some (.bool c) ∧ w'.cell? ⟨(ad.add (k * 3)).block, (ad.add (k * 3)).off + 1, none⟩ = some (.int .i64 q) ∧ w'.cell? ⟨(ad.add (k * 3)).block, (ad.add (k * 3)).off + 2, none⟩ = some (.int .i64 u) ∧ w'.cell? ⟨w.heap.size, 2, none⟩ = some (.int .i64 n2) ∧ Hid (Row W0 sb bm wb.heap.size wx.heap.size o1 (.slice A6 cs2.length c6) cs2 w')) (first | (with_reducible assumption) | (exact ⟨d0, d1, d2, d3, d4, d5, x0, x1, x2, x9, Lib.hid (HRW.out.drewN 1)⟩))
          (first
            | (go_at_call 13; (with_reducible refine (is_calls (k + 1) sb bm s2 A6 c6 cs2 n2 _ HI2.out (by omega) HR2.out HAU.out (Kd.R_reads' (rowOf (W0 := W0) (sb := sb) (bm := bm) (b7 := wb.heap.size) (b10 := wx.heap.size) (o := o1) (s2 := s2) (v2 := .slice A6 cs2.length c6) (cs2 := cs2) (a0 := (ad.add (k * 3))) (a1 := ⟨(ad.add (k * 3)).block, (ad.add (k * 3)).off + 1, none⟩) (a2 := ⟨(ad.add (k * 3)).block, (ad.add (k * 3)).off + 2, none⟩) (a3 := ⟨w.heap.size, 2, none⟩) (u0 := .bool c) (u1 := .int .i64 q) (u2 := .int .i64 u) (u3 := .int .i64 n2) (by assumption)).own).2.2 (Kd.R_reads' (rowOf (W0 := W0) (sb := sb) (bm := bm) (b7 := wb.heap.size) (b10 := wx.heap.size) (o := o1) (s2 := s2) (v2 := .slice A6 cs2.length c6) (cs2 := cs2) (a0 := (ad.add (k * 3))) (a1 := ⟨(ad.add (k * 3)).block, (ad.add (k * 3)).off + 1, none⟩) (a2 := ⟨(ad.add (k * 3)).block, (ad.add (k * 3)).off + 2, none⟩) (a3 := ⟨w.heap.size, 2, none⟩) (u0 := .bool c) (u1 := .int .i64 q) (u2 := .int .i64 u) (u3 := .int .i64 n2) (by assumption)).own).2.1).mono ?_); rintro e wt ⟨rfl, hb⟩; have hnew2 := keepR (W0 := W0) (sb := sb) (bm := bm) (b7 := wb.heap.size) (b10 := wx.heap.size) (o := o1) (s2 := s2) (v2 := .slice A6 cs2.length c6) (cs2 := cs2) (a0 := (ad.add (k * 3))) (a1 := ⟨(ad.add (k * 3)).block, (ad.add (k * 3)).off + 1, none⟩) (a2 := ⟨(ad.add (k * 3)).block, (ad.add (k * 3)).off + 2, none⟩) (a3 := ⟨w.heap.size, 2, none⟩) (u0 := .bool c) (u1 := .int .i64 q) (u2 := .int .i64 u) (u3 := .int .i64 n2) HDS.out H1.out H2.out (by assumption) (Kept2.of_below hb); have HAT := Lib.hid (HAU.out.below hb); clear hb)
            | (go_at_call 13; (with_reducible refine (is_calls (k + 1) sb bm s2 A6 c6 cs2 q _ HI2.out (by omega) HR2.out HAV.out (Kd.R_reads' (rowOf (W0 := W0) (sb := sb) (bm := bm) (b7 := wb.heap.size) (b10 := wx.heap.size) (o := o1) (s2 := s2) (v2 := .slice A6 cs2.length c6) (cs2 := cs2) (a0 := (ad.add (k * 3))) (a1 := ⟨(ad.add (k * 3)).block, (ad.add (k * 3)).off + 1, none⟩) (a2 := ⟨(ad.add (k * 3)).block, (ad.add (k * 3)).off + 2, none⟩) (a3 := ⟨w.heap.size, 2, none⟩) (u0 := .bool c) (u1 := .int .i64 q) (u2 := .int .i64 u) (u3 := .int .i64 n2) (by assumption)).own).2.2 (Kd.R_reads' (rowOf (W0 := W0) (sb := sb) (bm := bm) (b7 := wb.heap.size) (b10 := wx.heap.size) (o := o1) (s2 := s2) (v2 := .slice A6 cs2.length c6) (cs2 := cs2) (a0 := (ad.add (k * 3))) (a1 := ⟨(ad.add (k * 3)).block, (ad.add (k * 3)).off + 1, none⟩) (a2 := ⟨(ad.add (k * 3)).block, (ad.add (k * 3)).off + 2, none⟩) (a3 := ⟨w.heap.size, 2, none⟩) (u0 := .bool c) (u1 := .int .i64 q) (u2 := .int .i64 u) (u3 := .int .i64 n2) (by assumption)).own).2.1).mono ?_); rintro e wu ⟨rfl, hb⟩; have hnew2 := keepR (W0 := W0) (sb := sb) (bm := bm) (b7 := wb.heap.size) (b10 := wx.heap.size) (o := o1) (s2 := s2) (v2 := .slice A6 cs2.length c6) (cs2 := cs2) (a0 := (ad.add (k * 3))) (a1 := ⟨(ad.add (k * 3)).block, (ad.add (k * 3)).off + 1, none⟩) (a2 := ⟨(ad.add (k * 3)).block, (ad.add (k * 3)).off + 2, none⟩) (a3 := ⟨w.heap.size, 2, none⟩) (u0 := .bool c) (u1 := .int .i64 q) (u2 := .int .i64 u) (u3 := .int .i64 n2) HDS.out H1.out H2.out (by assumption) (Kept2.of_below hb); have HAU := Lib.hid (HAV.out.below hb); clear hb)
            | (go_at_call 12; (with_reducible refine (do_calls k sb bm s c q u _ HI.out.good (by omega) ?_).mono ?_); (first | (with_reducible exact HFY.out.acc) | (with_reducible exact HFY.out.drew.acc)); rintro e wv ⟨rfl, hkp, ha⟩; have hnew := keepR (W0 := W0) (sb := sb) (bm := bm) (b7 := wb.heap.size) (b10 := wx.heap.size) (o := o1) (s2 := s2) (v2 := .slice A6 cs2.length c6) (cs2 := cs2) (a0 := (ad.add (k * 3))) (a1 := ⟨(ad.add (k * 3)).block, (ad.add (k * 3)).off + 1, none⟩) (a2 := ⟨(ad.add (k * 3)).block, (ad.add (k * 3)).off + 2, none⟩) (a3 := ⟨w.heap.size, 2, none⟩) (u0 := .bool c) (u1 := .int .i64 q) (u2 := .int .i64 u) (u3 := .int .i64 n2) HDS.out H1.out H2.out (by assumption) hkp; have HAV := Lib.hid (show AccS wv sb bm s2 from HS2.out ▸ ha); clear hkp ha))
        all_goals (
          have hS : wt.cell? ⟨wx.heap.size, 0, none⟩ = some (.int .i64 s2.f) ∧ wt.cell? ⟨wx.heap.size, 1, none⟩ = some (.int .i64 s2.p) ∧ wt.cell? ⟨wx.heap.size, 2, none⟩ = some (.int .i64 s2.la) ∧ wt.cell? ⟨wx.heap.size, 3, none⟩ = some (.int .i64 s2.cr) ∧ wt.cell? ⟨wx.heap.size, 4, none⟩ = some (.int .i64 s2.cl) ∧ wt.cell? ⟨wx.heap.size, 5, none⟩ = some (.slice A6 cs2.length c6) ∧ wt.cell? (ad.add (k * 3)) = some (.bool c) ∧ wt.cell? ⟨(ad.add (k * 3)).block, (ad.add (k * 3)).off + 1, none⟩ = some (.int .i64 q) ∧ wt.cell? ⟨(ad.add (k * 3)).block, (ad.add (k * 3)).off + 2, none⟩ = some (.int .i64 u) ∧ wt.cell? ⟨w.heap.size, 2, none⟩ = some (.int .i64 n2) ∧ Hid (Row W0 sb bm wb.heap.size wx.heap.size o1 (.slice A6 cs2.length c6) cs2 wt) := by assumption
          clear d0 d1 d2 d3 d4 d5 x0 x1 x2 x9
          obtain ⟨d0, d1, d2, d3, d4, d5, x0, x1, x2, x9, hh⟩ := hS
          have HRT := Lib.hid hh.out
          have HB7 := Lib.hid (show wt.heap[wb.heap.size]? = some (.cells #[.int .i64 s.f, .int .i64 s.p, .int .i64 s.la, .int .i64 s.cr, .int .i64 s.cl, .slice A2 cs.length c2] 30) by rw [← HO1E.out]; exact HRT.out.blk)
          clear hh
          obtain ⟨p0, p1, p2, p3, p4, p5, f0, f1, f2, f3, f4, f5⟩ := six HB7.out
          go_wp2
          obtain ⟨wz, hwz⟩ : ∃ wz, wz = put6 wt wb.heap.size (.int .i64 s2.f) (.int .i64 s2.p) (.int .i64 s2.la) (.int .i64 s2.cr) (.int .i64 s2.cl) (.slice A6 cs2.length c6) := ⟨_, rfl⟩
          have hz := hwz.symm
          unfold put6 at hz
          rw [hz]
          clear hz
          have far : ∀ j, j ≠ wb.heap.size → wz.heap[j]? = wt.heap[j]? := fun j hj => by rw [hwz]; exact put6_far _ _ _ _ _ _ _ _ j hj
          have acc2 : AccS wz sb bm s2 := Acc.of HAT.out (far sb (by have := H7.out; omega)) (far bm (by have := H7.out; omega))
          have own2 : Kd.R k60 60 wz W0.heap.size (Pk sb bm wb.heap.size) (.slice A6 cs2.length c6) cs2 := Kd.R_mono (Kd.R_step HRT.out.own (fun j hj _ => far j hj.2.2.1)) (fun j hj => ⟨hj.1, hj.2.1, hj.2.2.1⟩)
          have blk2 : wz.heap[wb.heap.size]? = some (.cells #[.int .i64 s2.f, .int .i64 s2.p, .int .i64 s2.la, .int .i64 s2.cr, .int .i64 s2.cl, .slice A6 cs2.length c6] 30) := by rw [hwz]; exact put6_blk HB7.out _ _ _ _ _ _
          have bel2 : Below W0.heap.size W0 wz := by rw [hwz]; exact put6_below HRT.out.bel HB1.out.size _ _ _ _ _ _
          exact ⟨⟨k + 1, s2, cs2, A6, c6, congrArg _ (by omega), by omega, acc2, HI2.out, HR2.out, own2, blk2, bel2⟩, by simp [intOf]; omega⟩)
      · obtain ⟨wy, hwy⟩ : ∃ wy, wy = put6 wx wr.heap.size (.int .i64 s2.f) (.int .i64 s2.p) (.int .i64 s2.la) (.int .i64 s2.cr) (.int .i64 s2.cl) (.slice A6 cs2.length c6) := ⟨_, rfl⟩
        have hy := hwy.symm
        unfold put6 at hy
        rw [hy]
        clear hy
        have HFY := Lib.hid (show Frm W0 sb bm wb.heap.size s o1 wy from hwy ▸ HFX.out.put HPX.out.1 HPX.out.2.1 HPX.out.2.2.1 HPX.out.2.2.2 _ _ _ _ _ _)
        have HY10 := Lib.hid (show wy.heap[wr.heap.size]? = some (.cells #[.int .i64 s2.f, .int .i64 s2.p, .int .i64 s2.la, .int .i64 s2.cr, .int .i64 s2.cl, .slice A6 cs2.length c6] 30) by rw [hwy]; exact put6_blk (keptX HK2.out) _ _ _ _ _ _)
        have HSX := Lib.hid (show wr.heap.size ≤ wx.heap.size from Nat.le_trans (leA wr _) HK2.out.1)
        have HRW := Lib.hid (show Row W0 sb bm wb.heap.size wr.heap.size o1 (.slice A6 cs2.length c6) cs2 wy from by
          refine ⟨?_, HFY.out.blk, HFY.out.bel⟩
          have h5 : ∀ j, (P10 sb bm wb.heap.size wr.heap.size j ∨ (wr.alloc (.cells #[.int .i64 0, .int .i64 0, .int .i64 0, .int .i64 0, .int .i64 0, .slice none 0 0] 30)).drew.heap.size ≤ j) → Pk2 sb bm wb.heap.size wr.heap.size j := by
            intro j h1
            rcases h1 with h1 | h1
            · exact ⟨h1.1.1, h1.1.2.1, h1.1.2.2, by have := h1.2; omega⟩
            · have h4 : wr.heap.size + 1 ≤ j := by
                have e : (wr.alloc (.cells #[.int .i64 0, .int .i64 0, .int .i64 0, .int .i64 0, .int .i64 0, .slice none 0 0] 30)).heap.size = wr.heap.size + 1 := by simp
                rw [← e]; exact h1
              have := HLT.out
              exact ⟨by omega, by omega, by omega, by omega⟩
          exact Kd.R_step (Kd.R_mono HO2.out h5) (fun j hj _ => by rw [hwy]; exact put6_far _ _ _ _ _ _ _ _ j hj.2.2.2))
        clear hwy e0 e1 e2 e3 e4 e5 g0 g1 g2 g3 g4 g5
        obtain ⟨ad2, e2, _, x0, x1, x2⟩ := (HZ.out.below (HW0.out.trans (HFY.out.bel.mono HW0.out.size)) (Nat.le_refl _)) k hlt
        cases e2
        rw [HZ3.out] at x0 x1 x2
        simp only at x0 x1 x2
        have x9 : wy.cell? ⟨w.heap.size, 2, none⟩ = some (.int .i64 n2) := (HFY.out.bel.cell HSZ.out).trans HN2.out
        have HDS := Lib.hid (show Dst sb bm wr.heap.size ∧ Dst sb bm wb.heap.size ∧ Dst sb bm (ad.add (k * 3)).block ∧ Dst sb bm (⟨(ad.add (k * 3)).block, (ad.add (k * 3)).off + 1, none⟩ : Addr).block ∧ Dst sb bm (⟨(ad.add (k * 3)).block, (ad.add (k * 3)).off + 2, none⟩ : Addr).block ∧ Dst sb bm (⟨w.heap.size, 2, none⟩ : Addr).block by
          have := H1.out; have := H2.out; have := HSZ.out; have := HADW.out; have := H7.out; have := HLT.out; have := HFX.out.bel.size; have := HSX.out
          unfold Dst
          refine ⟨⟨by omega, by omega⟩, ⟨by omega, by omega⟩, ⟨by omega, by omega⟩, ⟨?_, ?_⟩, ⟨?_, ?_⟩, ⟨?_, ?_⟩⟩
          all_goals (show _ ≠ _; simp only; omega))
        obtain ⟨d0, d1, d2, d3, d4, d5, _⟩ := six HY10.out
        go_region_held3 (fun w' => w'.cell? ⟨wr.heap.size, 0, none⟩ = some (.int .i64 s2.f) ∧ w'.cell? ⟨wr.heap.size, 1, none⟩ = some (.int .i64 s2.p) ∧ w'.cell? ⟨wr.heap.size, 2, none⟩ = some (.int .i64 s2.la) ∧ w'.cell? ⟨wr.heap.size, 3, none⟩ = some (.int .i64 s2.cr) ∧ w'.cell? ⟨wr.heap.size, 4, none⟩ = some (.int .i64 s2.cl) ∧ w'.cell? ⟨wr.heap.size, 5, none⟩ = some (.slice A6 cs2.length c6) ∧ w'.cell? (ad.add (k * 3)) = some (.bool c) ∧ w'.cell? ⟨(ad.add (k * 3)).block, (ad.add (k * 3)).off + 1, none⟩ = some (.int .i64 q) ∧ w'.cell? ⟨(ad.add (k * 3)).block, (ad.add (k * 3)).off + 2, none⟩ = some (.int .i64 u) ∧ w'.cell? ⟨w.heap.size, 2, none⟩ = some (.int .i64 n2) ∧ Hid (Row W0 sb bm wb.heap.size wr.heap.size o1 (.slice A6 cs2.length c6) cs2 w')) (first | (with_reducible assumption) | (exact ⟨d0, d1, d2, d3, d4, d5, x0, x1, x2, x9, Lib.hid (HRW.out.drewN 1)⟩))
          (first
            | (go_at_call 13; (with_reducible refine (is_calls (k + 1) sb bm s2 A6 c6 cs2 n2 _ HI2.out (by omega) HR2.out HAU.out (Kd.R_reads' (rowOf (W0 := W0) (sb := sb) (bm := bm) (b7 := wb.heap.size) (b10 := wr.heap.size) (o := o1) (s2 := s2) (v2 := .slice A6 cs2.length c6) (cs2 := cs2) (a0 := (ad.add (k * 3))) (a1 := ⟨(ad.add (k * 3)).block, (ad.add (k * 3)).off + 1, none⟩) (a2 := ⟨(ad.add (k * 3)).block, (ad.add (k * 3)).off + 2, none⟩) (a3 := ⟨w.heap.size, 2, none⟩) (u0 := .bool c) (u1 := .int .i64 q) (u2 := .int .i64 u) (u3 := .int .i64 n2) (by assumption)).own).2.2 (Kd.R_reads' (rowOf (W0 := W0) (sb := sb) (bm := bm) (b7 := wb.heap.size) (b10 := wr.heap.size) (o := o1) (s2 := s2) (v2 := .slice A6 cs2.length c6) (cs2 := cs2) (a0 := (ad.add (k * 3))) (a1 := ⟨(ad.add (k * 3)).block, (ad.add (k * 3)).off + 1, none⟩) (a2 := ⟨(ad.add (k * 3)).block, (ad.add (k * 3)).off + 2, none⟩) (a3 := ⟨w.heap.size, 2, none⟩) (u0 := .bool c) (u1 := .int .i64 q) (u2 := .int .i64 u) (u3 := .int .i64 n2) (by assumption)).own).2.1).mono ?_); rintro e wt ⟨rfl, hb⟩; have hnew2 := keepR (W0 := W0) (sb := sb) (bm := bm) (b7 := wb.heap.size) (b10 := wr.heap.size) (o := o1) (s2 := s2) (v2 := .slice A6 cs2.length c6) (cs2 := cs2) (a0 := (ad.add (k * 3))) (a1 := ⟨(ad.add (k * 3)).block, (ad.add (k * 3)).off + 1, none⟩) (a2 := ⟨(ad.add (k * 3)).block, (ad.add (k * 3)).off + 2, none⟩) (a3 := ⟨w.heap.size, 2, none⟩) (u0 := .bool c) (u1 := .int .i64 q) (u2 := .int .i64 u) (u3 := .int .i64 n2) HDS.out H1.out H2.out (by assumption) (Kept2.of_below hb); have HAT := Lib.hid (HAU.out.below hb); clear hb)
            | (go_at_call 13; (with_reducible refine (is_calls (k + 1) sb bm s2 A6 c6 cs2 q _ HI2.out (by omega) HR2.out HAV.out (Kd.R_reads' (rowOf (W0 := W0) (sb := sb) (bm := bm) (b7 := wb.heap.size) (b10 := wr.heap.size) (o := o1) (s2 := s2) (v2 := .slice A6 cs2.length c6) (cs2 := cs2) (a0 := (ad.add (k * 3))) (a1 := ⟨(ad.add (k * 3)).block, (ad.add (k * 3)).off + 1, none⟩) (a2 := ⟨(ad.add (k * 3)).block, (ad.add (k * 3)).off + 2, none⟩) (a3 := ⟨w.heap.size, 2, none⟩) (u0 := .bool c) (u1 := .int .i64 q) (u2 := .int .i64 u) (u3 := .int .i64 n2) (by assumption)).own).2.2 (Kd.R_reads' (rowOf (W0 := W0) (sb := sb) (bm := bm) (b7 := wb.heap.size) (b10 := wr.heap.size) (o := o1) (s2 := s2) (v2 := .slice A6 cs2.length c6) (cs2 := cs2) (a0 := (ad.add (k * 3))) (a1 := ⟨(ad.add (k * 3)).block, (ad.add (k * 3)).off + 1, none⟩) (a2 := ⟨(ad.add (k * 3)).block, (ad.add (k * 3)).off + 2, none⟩) (a3 := ⟨w.heap.size, 2, none⟩) (u0 := .bool c) (u1 := .int .i64 q) (u2 := .int .i64 u) (u3 := .int .i64 n2) (by assumption)).own).2.1).mono ?_); rintro e wu ⟨rfl, hb⟩; have hnew2 := keepR (W0 := W0) (sb := sb) (bm := bm) (b7 := wb.heap.size) (b10 := wr.heap.size) (o := o1) (s2 := s2) (v2 := .slice A6 cs2.length c6) (cs2 := cs2) (a0 := (ad.add (k * 3))) (a1 := ⟨(ad.add (k * 3)).block, (ad.add (k * 3)).off + 1, none⟩) (a2 := ⟨(ad.add (k * 3)).block, (ad.add (k * 3)).off + 2, none⟩) (a3 := ⟨w.heap.size, 2, none⟩) (u0 := .bool c) (u1 := .int .i64 q) (u2 := .int .i64 u) (u3 := .int .i64 n2) HDS.out H1.out H2.out (by assumption) (Kept2.of_below hb); have HAU := Lib.hid (HAV.out.below hb); clear hb)
            | (go_at_call 12; (with_reducible refine (do_calls k sb bm s c q u _ HI.out.good (by omega) ?_).mono ?_); (first | (with_reducible exact HFY.out.acc) | (with_reducible exact HFY.out.drew.acc)); rintro e wv ⟨rfl, hkp, ha⟩; have hnew := keepR (W0 := W0) (sb := sb) (bm := bm) (b7 := wb.heap.size) (b10 := wr.heap.size) (o := o1) (s2 := s2) (v2 := .slice A6 cs2.length c6) (cs2 := cs2) (a0 := (ad.add (k * 3))) (a1 := ⟨(ad.add (k * 3)).block, (ad.add (k * 3)).off + 1, none⟩) (a2 := ⟨(ad.add (k * 3)).block, (ad.add (k * 3)).off + 2, none⟩) (a3 := ⟨w.heap.size, 2, none⟩) (u0 := .bool c) (u1 := .int .i64 q) (u2 := .int .i64 u) (u3 := .int .i64 n2) HDS.out H1.out H2.out (by assumption) hkp; have HAV := Lib.hid (show AccS wv sb bm s2 from HS2.out ▸ ha); clear hkp ha))
        all_goals (
          have hS : wt.cell? ⟨wr.heap.size, 0, none⟩ = some (.int .i64 s2.f) ∧ wt.cell? ⟨wr.heap.size, 1, none⟩ = some (.int .i64 s2.p) ∧ wt.cell? ⟨wr.heap.size, 2, none⟩ = some (.int .i64 s2.la) ∧ wt.cell? ⟨wr.heap.size, 3, none⟩ = some (.int .i64 s2.cr) ∧ wt.cell? ⟨wr.heap.size, 4, none⟩ = some (.int .i64 s2.cl) ∧ wt.cell? ⟨wr.heap.size, 5, none⟩ = some (.slice A6 cs2.length c6) ∧ wt.cell? (ad.add (k * 3)) = some (.bool c) ∧ wt.cell? ⟨(ad.add (k * 3)).block, (ad.add (k * 3)).off + 1, none⟩ = some (.int .i64 q) ∧ wt.cell? ⟨(ad.add (k * 3)).block, (ad.add (k * 3)).off + 2, none⟩ = some (.int .i64 u) ∧ wt.cell? ⟨w.heap.size, 2, none⟩ = some (.int .i64 n2) ∧ Hid (Row W0 sb bm wb.heap.size wr.heap.size o1 (.slice A6 cs2.length c6) cs2 wt) := by assumption
          clear d0 d1 d2 d3 d4 d5 x0 x1 x2 x9
          obtain ⟨d0, d1, d2, d3, d4, d5, x0, x1, x2, x9, hh⟩ := hS
          have HRT := Lib.hid hh.out
          have HB7 := Lib.hid (show wt.heap[wb.heap.size]? = some (.cells #[.int .i64 s.f, .int .i64 s.p, .int .i64 s.la, .int .i64 s.cr, .int .i64 s.cl, .slice A2 cs.length c2] 30) by rw [← HO1E.out]; exact HRT.out.blk)
          clear hh
          obtain ⟨p0, p1, p2, p3, p4, p5, f0, f1, f2, f3, f4, f5⟩ := six HB7.out
          go_wp2
          obtain ⟨wz, hwz⟩ : ∃ wz, wz = put6 wt wb.heap.size (.int .i64 s2.f) (.int .i64 s2.p) (.int .i64 s2.la) (.int .i64 s2.cr) (.int .i64 s2.cl) (.slice A6 cs2.length c6) := ⟨_, rfl⟩
          have hz := hwz.symm
          unfold put6 at hz
          rw [hz]
          clear hz
          have far : ∀ j, j ≠ wb.heap.size → wz.heap[j]? = wt.heap[j]? := fun j hj => by rw [hwz]; exact put6_far _ _ _ _ _ _ _ _ j hj
          have acc2 : AccS wz sb bm s2 := Acc.of HAT.out (far sb (by have := H7.out; omega)) (far bm (by have := H7.out; omega))
          have own2 : Kd.R k60 60 wz W0.heap.size (Pk sb bm wb.heap.size) (.slice A6 cs2.length c6) cs2 := Kd.R_mono (Kd.R_step HRT.out.own (fun j hj _ => far j hj.2.2.1)) (fun j hj => ⟨hj.1, hj.2.1, hj.2.2.1⟩)
          have blk2 : wz.heap[wb.heap.size]? = some (.cells #[.int .i64 s2.f, .int .i64 s2.p, .int .i64 s2.la, .int .i64 s2.cr, .int .i64 s2.cl, .slice A6 cs2.length c6] 30) := by rw [hwz]; exact put6_blk HB7.out _ _ _ _ _ _
          have bel2 : Below W0.heap.size W0 wz := by rw [hwz]; exact put6_below HRT.out.bel HB1.out.size _ _ _ _ _ _
          exact ⟨⟨k + 1, s2, cs2, A6, c6, congrArg _ (by omega), by omega, acc2, HI2.out, HR2.out, own2, blk2, bel2⟩, by simp [intOf]; omega⟩)
    · go_wp2_with (go_at_call 10; (with_reducible refine (awake_calls _).mono ?_); rintro e wc ⟨rfl, hb⟩; have HB3 := Lib.hid (HBW.out.trans (hb.mono HBW.out.size)); clear hb)
      go_ret
      exact ⟨rfl, HW0.out.trans (HB3.out.mono HW0.out.size)⟩
theorem runsWalk (n0 n1 n2 : Int) (A : Option Addr) (cap : Nat) (zs : List (Bool × Int × Int)) (w : World) (hz : Steps w A zs) :
    Calls Try.prog 3 #[.agg #[.int .i64 n0, .int .i64 n1, .int .i64 n2], .slice A zs.length cap] w fun e w' => e = .returned (.bool true) ∧ Below w.heap.size w w' := by
  cases hok : (betw n0 0 1000 && betw n1 1 24)
  · cases g1 : decide (100 < (zs.length : Int))
    · exact runs_bad2 n0 n1 n2 A zs.length cap w hok g1
    · exact runs_bad1 n0 n1 n2 A zs.length cap w hok g1
  · cases g1 : decide (100 < (zs.length : Int))
    · exact runs_good n0 n1 n2 A zs cap w hok g1 hz
    · exact runs_long n0 n1 n2 A zs.length cap w hok g1
end Go.Proofs.Ytmbelohcebfdcaa.Acc
