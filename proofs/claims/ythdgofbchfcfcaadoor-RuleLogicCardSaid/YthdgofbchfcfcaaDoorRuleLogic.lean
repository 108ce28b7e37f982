/- The walk of RuleLogic, one theorem for each way through it. The table's fact is the row's; the outcomes of the calls are asked. -/
import Derived.Test.YthdgofbchfcfcaaDoorRuleAwake
set_option linter.unusedVariables false
set_option linter.unusedSimpArgs false
namespace Go.Proofs.YthdgofbchfcfcaaDoor.PRu
open Go.RowKit Go.Proofs.YthdgofbchfcfcaaDoorW.PrintWords Go.Proofs.YthdgofbchfcfcaaDoorW.PrintLast Go.Proofs.YthdgofbchfcfcaaDoorW.PrintMore
attribute [local go_sem] max2_int min2_int max_two min_two
/-- What every call leaves alone. -/
structure Lg (W : World) (k : Nat) (a0 a1 b0 b1 : Int) (a2 b2 : ByteArray) (Aa Ab Al : Option Addr) (ca cb cl : Nat) (la lb : List S24) (l : List S40) (w : World) : Prop where
  G : GlobG w
  CA : Kd.C k24 w Aa la.length la
  CB : Kd.C k24 w Ab lb.length lb
  CL : Kd.C k40 w Al l.length l
  XA : w.heap[k]? = some (.cells #[.int .i64 a0, .int .i64 a1, .string a2, .slice Aa la.length ca] 24)
  XB : w.heap[k + 1]? = some (.cells #[.int .i64 b0, .int .i64 b1, .string b2, .slice Ab lb.length cb] 24)
  B : Below W.heap.size W w
theorem Lg.step {W : World} {k : Nat} {a0 a1 b0 b1 : Int} {a2 b2 : ByteArray} {Aa Ab Al : Option Addr} {ca cb cl : Nat} {la lb : List S24} {l : List S40} {w w' : World} (h : Lg W k a0 a1 b0 b1 a2 b2 Aa Ab Al ca cb cl la lb l w) (hb : Below w.heap.size w w') : Lg W k a0 a1 b0 b1 a2 b2 Aa Ab Al ca cb cl la lb l w' :=
  ⟨h.G.below hb, Kd.C_below h.CA hb, Kd.C_below h.CB hb, Kd.C_below h.CL hb, blkK hb h.XA, blkK hb h.XB, h.B.trans (hb.mono h.B.size)⟩
theorem count_c (k : Nat) (x0 x1 : Int) (x2 : ByteArray) (A : Option Addr) (n c : Nat) (l : List S24) (a1 a2 r : Int) (w : World) (h : Kd.C k24 w A n l) (hc : n ≤ c) (hf : sawmilllaw43_count.f k x0 x1 x2 l a1 a2 = some r) :
    Calls Tryd.prog 24 #[.agg #[.int .i64 x0, .int .i64 x1, .string x2, .slice A n c], .int .i64 a1, .int .i64 a2] w fun e w' => e = .returned (.int .i64 r) ∧ Below w.heap.size w w' := by
  obtain rfl := h.1
  exact sawmilllaw43_count.calls k x0 x1 x2 A c l a1 a2 r w h hc hf
theorem short_c (k : Nat) (A : Option Addr) (n c : Nat) (l : List S40) (r : Bool) (w : World) (h : Kd.C k40 w A n l) (hc : n ≤ c) (hf : sawmilllaw43_short.f k l = some r) :
    Calls Tryd.prog 11 #[.slice A n c] w fun e w' => e = .returned (.bool r) ∧ Below w.heap.size w w' := by
  obtain rfl := h.1
  refine (sawmilllaw43_short.calls k A c l r w h hc hf).mono ?_
  rintro e w' ⟨he, hd⟩
  exact ⟨he, hd.below⟩
theorem names_c (k : Nat) (A : Option Addr) (n c : Nat) (l : List S40) (r : List ByteArray) (w : World) (h : Kd.C k40 w A n l) (hc : n ≤ c) (hf : sawmillref43_Names.f k l = some r) :
    Calls Tryd.prog 13 #[.slice A n c] w fun e w' => ∃ A' c', e = .returned (.slice A' r.length c') ∧ Kd.C Kd.string w' A' r.length r ∧ r.length ≤ c' ∧ Below w.heap.size w w' := by
  obtain rfl := h.1
  refine (sawmillref43_Names.calls k A c l r w h hc hf).mono ?_
  rintro e w' ⟨v, rfl, hR, hb⟩
  obtain ⟨A', c', rfl, hl, hr⟩ := Kd.R_reads hR
  have h2 := Kd.R_reads' hR
  exact ⟨A', c', rfl, h2.2.2, h2.2.1, hb⟩
theorem awake_c (w : World) (hG : GlobG w) : Calls Tryd.prog 12 #[] w fun e w' => e = .returned (.bool true) ∧ Below w.heap.size w w' := awake_walk w hG
/-- One expression in a row. -/
theorem oneC {w : World} {g : Nat} {x0 x1 : Int} {x2 : ByteArray} {A1 : Option Addr} {c1 : Nat} {l1 : List S24} (hb : w.heap[g]? = some (.cells #[.int .i64 x0, .int .i64 x1, .string x2, .slice A1 l1.length c1] 24)) (h1 : Kd.C k24 w A1 l1.length l1) (hc1 : l1.length ≤ c1) :
    Kd.C k24 w (some ⟨g, 0, none⟩) 1 [⟨x0, x1, x2, l1⟩] := by
  refine ⟨rfl, by decide, fun _ => ⟨_, rfl, fun j p hj => ?_⟩⟩
  match j, hj with
  | 0, hj =>
    obtain rfl : _ = p := Option.some.inj hj
    refine ⟨_, rfl, k24_mk w ⟨x0, x1, x2, l1⟩ hc1 h1, fun i u hu => ?_⟩
    match i, hu with
    | 0, hu => obtain rfl : _ = u := Option.some.inj hu; simp [World.cell?, hb, Addr.add]
    | 1, hu => obtain rfl : _ = u := Option.some.inj hu; simp [World.cell?, hb, Addr.add]
    | 2, hu => obtain rfl : _ = u := Option.some.inj hu; simp [World.cell?, hb, Addr.add]
    | 3, hu => obtain rfl : _ = u := Option.some.inj hu; simp [World.cell?, hb, Addr.add]
    | i + 4, hu => simp at hu
  | j + 1, hj => simp at hj
set_option maxRecDepth 100000 in
theorem not_c (x0 x1 : Int) (x2 : ByteArray) (A1 : Option Addr) (n1 c1 : Nat) (l1 : List S24) (w : World) (h1 : Kd.C k24 w A1 n1 l1) (hc1 : n1 ≤ c1) :
    Calls Tryd.prog 25 #[.agg #[.int .i64 x0, .int .i64 x1, .string x2, .slice A1 n1 c1]] w fun e w' => ∃ A, e = .returned (.agg #[.int .i64 9, .int .i64 0, .string ⟨#[]⟩, .slice A 1 1]) ∧ Kd.C k24 w' A 1 [⟨x0, x1, x2, l1⟩] ∧ Below w.heap.size w w' := by
  obtain rfl := h1.1
  obtain ⟨W3, hW3⟩ : ∃ W3, W3 = ((w.alloc (.cells #[.int .i64 x0, .int .i64 x1, .string x2, .slice A1 l1.length c1] 24)).alloc (.cells #[.int .i64 9, .int .i64 0, .string ⟨#[]⟩, .slice (some ⟨w.heap.size + 1 + 1, 0, none⟩) 1 1] 24)).alloc (.cells #[.int .i64 x0, .int .i64 x1, .string x2, .slice A1 l1.length c1] 24) := ⟨_, rfl⟩
  have hbel : Below w.heap.size w W3 := hW3 ▸ ((((Below.refl _ _).alloc (Nat.le_refl _) _).alloc (by simp) _).alloc (by simp; omega) _)
  have HB := Lib.hid hbel
  have HR := Lib.hid (show W3.heap[w.heap.size + 1]? = some (.cells #[.int .i64 9, .int .i64 0, .string ⟨#[]⟩, .slice (some ⟨w.heap.size + 1 + 1, 0, none⟩) 1 1] 24) by
    rw [hW3]
    have h3 := (MapKept.heap_alloc (w.alloc (.cells #[.int .i64 x0, .int .i64 x1, .string x2, .slice A1 l1.length c1] 24)) (.cells #[.int .i64 9, .int .i64 0, .string ⟨#[]⟩, .slice (some ⟨w.heap.size + 1 + 1, 0, none⟩) 1 1] 24)).1
    rw [show (w.alloc (.cells #[.int .i64 x0, .int .i64 x1, .string x2, .slice A1 l1.length c1] 24)).heap.size = w.heap.size + 1 by simp] at h3
    exact (((Below.refl _ _).alloc (Nat.le_refl _) _).block _ (Array.getElem?_eq_some_iff.1 h3).1).trans h3)
  have HS := Lib.hid (show W3.heap[w.heap.size + 1 + 1]? = some (.cells #[.int .i64 x0, .int .i64 x1, .string x2, .slice A1 l1.length c1] 24) by
    rw [hW3]
    exact topS _ _ _ (by simp))
  have H1 := Lib.hid (Kd.C_below h1 hbel)
  have HW3 := Lib.hid hW3
  clear h1 hW3 hbel
  go_enter Tryd.func25, Tryd.ntmps25
  go_wp2
  rw [← HW3.out]
  refine bodyPost_ret (results_cell_row rfl _ _ (w.heap.size + 1) 24 #[.int .i64 9, .int .i64 0, .string ⟨#[]⟩, .slice (some ⟨w.heap.size + 1 + 1, 0, none⟩) 1 1] (0, 0) _ rfl HR.out Tryd.underlying24 rfl (by kernel_rfl)) rfl ?_
  exact ⟨_, rfl, oneC HS.out H1.out hc1, HB.out⟩
set_option maxRecDepth 100000 in
set_option maxHeartbeats 4000000 in
theorem way_1 (a0 a1 b0 b1 : Int) (a2 b2 : ByteArray) (Aa Ab Al : Option Addr) (ca cb cl : Nat) (la lb : List S24) (l : List S40) (w : World) (hca : la.length ≤ ca) (hcb : lb.length ≤ cb) (hcl : l.length ≤ cl) (hCA : Kd.C k24 w Aa la.length la) (hCB : Kd.C k24 w Ab lb.length lb) (hCL : Kd.C k40 w Al l.length l) (hG : GlobG w) (k : Nat) (ra : Int) (hka : sawmilllaw43_count.f k a0 a1 a2 la 6 100 = some ra) (q1 : decide (100 < ra) = true) :
    Calls Tryd.prog 8 #[.agg #[.int .i64 a0, .int .i64 a1, .string a2, .slice Aa la.length ca], .agg #[.int .i64 b0, .int .i64 b1, .string b2, .slice Ab lb.length cb], .slice Al l.length cl] w fun e w' => e = .returned (.bool true) ∧ Below w.heap.size w w' := by
  obtain ⟨W0, hW0⟩ : ∃ W0, W0 = (w.alloc (.cells #[.int .i64 a0, .int .i64 a1, .string a2, .slice Aa la.length ca] 24)).alloc (.cells #[.int .i64 b0, .int .i64 b1, .string b2, .slice Ab lb.length cb] 24) := ⟨_, rfl⟩
  have hbel : Below w.heap.size w W0 := hW0 ▸ (((Below.refl _ _).alloc (Nat.le_refl _) _).alloc (by simp) _)
  have S := Lib.hid (show Lg w w.heap.size a0 a1 b0 b1 a2 b2 Aa Ab Al ca cb cl la lb l W0 from ⟨hG.below hbel, Kd.C_below hCA hbel, Kd.C_below hCB hbel, Kd.C_below hCL hbel, by rw [hW0]; exact blkA' _ _ _, by rw [hW0]; exact blkB' _ _ _, hbel⟩)
  have HW0 := Lib.hid hW0
  have O1 := trivial
  replace hka := Lib.hid hka
  replace hca := Lib.hid hca
  replace hcb := Lib.hid hcb
  replace hcl := Lib.hid hcl
  clear hW0 hbel hG hCA hCB hCL
  go_enter Tryd.func8, Tryd.ntmps8
  go_wp2_with (first
    | (go_at_call 12; have _o2 := O2; (with_reducible refine (awake_c _ S.out.G).mono ?_); rintro e w2 ⟨rfl, hb⟩; replace S := Lib.hid (S.out.step hb); (try clear y0 y1 y2 y3 z0 z1 z2 z3); obtain ⟨y0, y1, y2, y3⟩ := four S.out.XA; obtain ⟨z0, z1, z2, z3⟩ := four S.out.XB; have O3 := trivial; clear hb)
    | (go_at_call 24; have _o1 := O1; rw [← HW0.out]; (with_reducible refine (count_c k a0 a1 a2 Aa _ ca la 6 100 ra _ S.out.CA hca.out hka.out).mono ?_); rintro e w1 ⟨rfl, hb⟩; replace S := Lib.hid (S.out.step hb); (try clear y0 y1 y2 y3 z0 z1 z2 z3); obtain ⟨y0, y1, y2, y3⟩ := four S.out.XA; obtain ⟨z0, z1, z2, z3⟩ := four S.out.XB; have O2 := trivial; clear hb))
  go_ret
  exact ⟨rfl, S.out.B⟩
set_option maxRecDepth 100000 in
set_option maxHeartbeats 4000000 in
theorem way_2 (a0 a1 b0 b1 : Int) (a2 b2 : ByteArray) (Aa Ab Al : Option Addr) (ca cb cl : Nat) (la lb : List S24) (l : List S40) (w : World) (hca : la.length ≤ ca) (hcb : lb.length ≤ cb) (hcl : l.length ≤ cl) (hCA : Kd.C k24 w Aa la.length la) (hCB : Kd.C k24 w Ab lb.length lb) (hCL : Kd.C k40 w Al l.length l) (hG : GlobG w) (k : Nat) (ra : Int) (rb : Int) (hka : sawmilllaw43_count.f k a0 a1 a2 la 6 100 = some ra) (hkb : sawmilllaw43_count.f k b0 b1 b2 lb 6 100 = some rb) (q1 : decide (100 < ra) = false) (q2 : decide (100 < rb) = true) :
    Calls Tryd.prog 8 #[.agg #[.int .i64 a0, .int .i64 a1, .string a2, .slice Aa la.length ca], .agg #[.int .i64 b0, .int .i64 b1, .string b2, .slice Ab lb.length cb], .slice Al l.length cl] w fun e w' => e = .returned (.bool true) ∧ Below w.heap.size w w' := by
  obtain ⟨W0, hW0⟩ : ∃ W0, W0 = (w.alloc (.cells #[.int .i64 a0, .int .i64 a1, .string a2, .slice Aa la.length ca] 24)).alloc (.cells #[.int .i64 b0, .int .i64 b1, .string b2, .slice Ab lb.length cb] 24) := ⟨_, rfl⟩
  have hbel : Below w.heap.size w W0 := hW0 ▸ (((Below.refl _ _).alloc (Nat.le_refl _) _).alloc (by simp) _)
  have S := Lib.hid (show Lg w w.heap.size a0 a1 b0 b1 a2 b2 Aa Ab Al ca cb cl la lb l W0 from ⟨hG.below hbel, Kd.C_below hCA hbel, Kd.C_below hCB hbel, Kd.C_below hCL hbel, by rw [hW0]; exact blkA' _ _ _, by rw [hW0]; exact blkB' _ _ _, hbel⟩)
  have HW0 := Lib.hid hW0
  have O1 := trivial
  replace hka := Lib.hid hka
  replace hkb := Lib.hid hkb
  replace hca := Lib.hid hca
  replace hcb := Lib.hid hcb
  replace hcl := Lib.hid hcl
  clear hW0 hbel hG hCA hCB hCL
  go_enter Tryd.func8, Tryd.ntmps8
  go_wp2_with (first
    | (go_at_call 12; have _o3 := O3; (with_reducible refine (awake_c _ S.out.G).mono ?_); rintro e w3 ⟨rfl, hb⟩; replace S := Lib.hid (S.out.step hb); (try clear y0 y1 y2 y3 z0 z1 z2 z3); obtain ⟨y0, y1, y2, y3⟩ := four S.out.XA; obtain ⟨z0, z1, z2, z3⟩ := four S.out.XB; have O4 := trivial; clear hb)
    | (go_at_call 24; have _o2 := O2; (with_reducible refine (count_c k b0 b1 b2 Ab _ cb lb 6 100 rb _ S.out.CB hcb.out hkb.out).mono ?_); rintro e w2 ⟨rfl, hb⟩; replace S := Lib.hid (S.out.step hb); (try clear y0 y1 y2 y3 z0 z1 z2 z3); obtain ⟨y0, y1, y2, y3⟩ := four S.out.XA; obtain ⟨z0, z1, z2, z3⟩ := four S.out.XB; have O3 := trivial; clear hb)
    | (go_at_call 24; have _o1 := O1; rw [← HW0.out]; (with_reducible refine (count_c k a0 a1 a2 Aa _ ca la 6 100 ra _ S.out.CA hca.out hka.out).mono ?_); rintro e w1 ⟨rfl, hb⟩; replace S := Lib.hid (S.out.step hb); (try clear y0 y1 y2 y3 z0 z1 z2 z3); obtain ⟨y0, y1, y2, y3⟩ := four S.out.XA; obtain ⟨z0, z1, z2, z3⟩ := four S.out.XB; have O2 := trivial; clear hb))
  go_ret
  exact ⟨rfl, S.out.B⟩
set_option maxRecDepth 100000 in
set_option maxHeartbeats 4000000 in
theorem way_3 (a0 a1 b0 b1 : Int) (a2 b2 : ByteArray) (Aa Ab Al : Option Addr) (ca cb cl : Nat) (la lb : List S24) (l : List S40) (w : World) (hca : la.length ≤ ca) (hcb : lb.length ≤ cb) (hcl : l.length ≤ cl) (hCA : Kd.C k24 w Aa la.length la) (hCB : Kd.C k24 w Ab lb.length lb) (hCL : Kd.C k40 w Al l.length l) (hG : GlobG w) (k : Nat) (ra : Int) (rb : Int) (hka : sawmilllaw43_count.f k a0 a1 a2 la 6 100 = some ra) (hkb : sawmilllaw43_count.f k b0 b1 b2 lb 6 100 = some rb) (q1 : decide (100 < ra) = false) (q2 : decide (100 < rb) = false) (hsh : sawmilllaw43_short.f k l = some false) :
    Calls Tryd.prog 8 #[.agg #[.int .i64 a0, .int .i64 a1, .string a2, .slice Aa la.length ca], .agg #[.int .i64 b0, .int .i64 b1, .string b2, .slice Ab lb.length cb], .slice Al l.length cl] w fun e w' => e = .returned (.bool true) ∧ Below w.heap.size w w' := by
  obtain ⟨W0, hW0⟩ : ∃ W0, W0 = (w.alloc (.cells #[.int .i64 a0, .int .i64 a1, .string a2, .slice Aa la.length ca] 24)).alloc (.cells #[.int .i64 b0, .int .i64 b1, .string b2, .slice Ab lb.length cb] 24) := ⟨_, rfl⟩
  have hbel : Below w.heap.size w W0 := hW0 ▸ (((Below.refl _ _).alloc (Nat.le_refl _) _).alloc (by simp) _)
  have S := Lib.hid (show Lg w w.heap.size a0 a1 b0 b1 a2 b2 Aa Ab Al ca cb cl la lb l W0 from ⟨hG.below hbel, Kd.C_below hCA hbel, Kd.C_below hCB hbel, Kd.C_below hCL hbel, by rw [hW0]; exact blkA' _ _ _, by rw [hW0]; exact blkB' _ _ _, hbel⟩)
  have HW0 := Lib.hid hW0
  have O1 := trivial
  replace hka := Lib.hid hka
  replace hkb := Lib.hid hkb
  replace hsh := Lib.hid hsh
  replace hca := Lib.hid hca
  replace hcb := Lib.hid hcb
  replace hcl := Lib.hid hcl
  clear hW0 hbel hG hCA hCB hCL
  go_enter Tryd.func8, Tryd.ntmps8
  go_wp2_with (first
    | (go_at_call 12; have _o4 := O4; (with_reducible refine (awake_c _ S.out.G).mono ?_); rintro e w4 ⟨rfl, hb⟩; replace S := Lib.hid (S.out.step hb); (try clear y0 y1 y2 y3 z0 z1 z2 z3); obtain ⟨y0, y1, y2, y3⟩ := four S.out.XA; obtain ⟨z0, z1, z2, z3⟩ := four S.out.XB; have O5 := trivial; clear hb)
    | (go_at_call 11; have _o3 := O3; (with_reducible refine (short_c k Al _ cl l false _ S.out.CL hcl.out hsh.out).mono ?_); rintro e w3 ⟨rfl, hb⟩; replace S := Lib.hid (S.out.step hb); (try clear y0 y1 y2 y3 z0 z1 z2 z3); obtain ⟨y0, y1, y2, y3⟩ := four S.out.XA; obtain ⟨z0, z1, z2, z3⟩ := four S.out.XB; have O4 := trivial; clear hb)
    | (go_at_call 24; have _o2 := O2; (with_reducible refine (count_c k b0 b1 b2 Ab _ cb lb 6 100 rb _ S.out.CB hcb.out hkb.out).mono ?_); rintro e w2 ⟨rfl, hb⟩; replace S := Lib.hid (S.out.step hb); (try clear y0 y1 y2 y3 z0 z1 z2 z3); obtain ⟨y0, y1, y2, y3⟩ := four S.out.XA; obtain ⟨z0, z1, z2, z3⟩ := four S.out.XB; have O3 := trivial; clear hb)
    | (go_at_call 24; have _o1 := O1; rw [← HW0.out]; (with_reducible refine (count_c k a0 a1 a2 Aa _ ca la 6 100 ra _ S.out.CA hca.out hka.out).mono ?_); rintro e w1 ⟨rfl, hb⟩; replace S := Lib.hid (S.out.step hb); (try clear y0 y1 y2 y3 z0 z1 z2 z3); obtain ⟨y0, y1, y2, y3⟩ := four S.out.XA; obtain ⟨z0, z1, z2, z3⟩ := four S.out.XB; have O2 := trivial; clear hb))
  go_ret
  exact ⟨rfl, S.out.B⟩
set_option maxRecDepth 100000 in
set_option maxHeartbeats 4000000 in
theorem way_4 (a0 a1 b0 b1 : Int) (a2 b2 : ByteArray) (Aa Ab Al : Option Addr) (ca cb cl : Nat) (la lb : List S24) (l : List S40) (w : World) (hca : la.length ≤ ca) (hcb : lb.length ≤ cb) (hcl : l.length ≤ cl) (hCA : Kd.C k24 w Aa la.length la) (hCB : Kd.C k24 w Ab lb.length lb) (hCL : Kd.C k40 w Al l.length l) (hG : GlobG w) (k : Nat) (ra : Int) (rb : Int) (hka : sawmilllaw43_count.f k a0 a1 a2 la 6 100 = some ra) (hkb : sawmilllaw43_count.f k b0 b1 b2 lb 6 100 = some rb) (q1 : decide (100 < ra) = false) (q2 : decide (100 < rb) = false) (hsh : sawmilllaw43_short.f k l = some true) (xa : Int) (ea : Int) (xb : Int) (eb : Int) (hea : rule_Eval.f k a0 a1 a2 la l = some (xa, ea)) (heb : rule_Eval.f k b0 b1 b2 lb l = some (xb, eb)) (q3 : (ea != 0) = true) :
    Calls Tryd.prog 8 #[.agg #[.int .i64 a0, .int .i64 a1, .string a2, .slice Aa la.length ca], .agg #[.int .i64 b0, .int .i64 b1, .string b2, .slice Ab lb.length cb], .slice Al l.length cl] w fun e w' => e = .returned (.bool true) ∧ Below w.heap.size w w' := by
  obtain ⟨W0, hW0⟩ : ∃ W0, W0 = (w.alloc (.cells #[.int .i64 a0, .int .i64 a1, .string a2, .slice Aa la.length ca] 24)).alloc (.cells #[.int .i64 b0, .int .i64 b1, .string b2, .slice Ab lb.length cb] 24) := ⟨_, rfl⟩
  have hbel : Below w.heap.size w W0 := hW0 ▸ (((Below.refl _ _).alloc (Nat.le_refl _) _).alloc (by simp) _)
  have S := Lib.hid (show Lg w w.heap.size a0 a1 b0 b1 a2 b2 Aa Ab Al ca cb cl la lb l W0 from ⟨hG.below hbel, Kd.C_below hCA hbel, Kd.C_below hCB hbel, Kd.C_below hCL hbel, by rw [hW0]; exact blkA' _ _ _, by rw [hW0]; exact blkB' _ _ _, hbel⟩)
  have HW0 := Lib.hid hW0
  have O1 := trivial
  replace hka := Lib.hid hka
  replace hkb := Lib.hid hkb
  replace hsh := Lib.hid hsh
  replace hea := Lib.hid hea
  replace heb := Lib.hid heb
  replace hca := Lib.hid hca
  replace hcb := Lib.hid hcb
  replace hcl := Lib.hid hcl
  clear hW0 hbel hG hCA hCB hCL
  go_enter Tryd.func8, Tryd.ntmps8
  go_wp2_with (first
    | (go_at_call 12; have _o6 := O6; (with_reducible refine (awake_c _ S.out.G).mono ?_); rintro e w6 ⟨rfl, hb⟩; replace S := Lib.hid (S.out.step hb); (try clear y0 y1 y2 y3 z0 z1 z2 z3); obtain ⟨y0, y1, y2, y3⟩ := four S.out.XA; obtain ⟨z0, z1, z2, z3⟩ := four S.out.XB; have O7 := trivial; clear hb)
    | (go_at_call 19; have _o5 := O5; (with_reducible refine (eval_c k b0 b1 b2 Ab _ cb lb Al _ cl l xb eb _ S.out.CB hcb.out S.out.CL hcl.out S.out.G heb.out).mono ?_); rintro e w5 ⟨rfl, hb⟩; replace S := Lib.hid (S.out.step hb); (try clear y0 y1 y2 y3 z0 z1 z2 z3); obtain ⟨y0, y1, y2, y3⟩ := four S.out.XA; obtain ⟨z0, z1, z2, z3⟩ := four S.out.XB; have O6 := trivial; clear hb)
    | (go_at_call 19; have _o4 := O4; (with_reducible refine (eval_c k a0 a1 a2 Aa _ ca la Al _ cl l xa ea _ S.out.CA hca.out S.out.CL hcl.out S.out.G hea.out).mono ?_); rintro e w4 ⟨rfl, hb⟩; replace S := Lib.hid (S.out.step hb); (try clear y0 y1 y2 y3 z0 z1 z2 z3); obtain ⟨y0, y1, y2, y3⟩ := four S.out.XA; obtain ⟨z0, z1, z2, z3⟩ := four S.out.XB; have O5 := trivial; clear hb)
    | (go_at_call 11; have _o3 := O3; (with_reducible refine (short_c k Al _ cl l true _ S.out.CL hcl.out hsh.out).mono ?_); rintro e w3 ⟨rfl, hb⟩; replace S := Lib.hid (S.out.step hb); (try clear y0 y1 y2 y3 z0 z1 z2 z3); obtain ⟨y0, y1, y2, y3⟩ := four S.out.XA; obtain ⟨z0, z1, z2, z3⟩ := four S.out.XB; have O4 := trivial; clear hb)
    | (go_at_call 24; have _o2 := O2; (with_reducible refine (count_c k b0 b1 b2 Ab _ cb lb 6 100 rb _ S.out.CB hcb.out hkb.out).mono ?_); rintro e w2 ⟨rfl, hb⟩; replace S := Lib.hid (S.out.step hb); (try clear y0 y1 y2 y3 z0 z1 z2 z3); obtain ⟨y0, y1, y2, y3⟩ := four S.out.XA; obtain ⟨z0, z1, z2, z3⟩ := four S.out.XB; have O3 := trivial; clear hb)
    | (go_at_call 24; have _o1 := O1; rw [← HW0.out]; (with_reducible refine (count_c k a0 a1 a2 Aa _ ca la 6 100 ra _ S.out.CA hca.out hka.out).mono ?_); rintro e w1 ⟨rfl, hb⟩; replace S := Lib.hid (S.out.step hb); (try clear y0 y1 y2 y3 z0 z1 z2 z3); obtain ⟨y0, y1, y2, y3⟩ := four S.out.XA; obtain ⟨z0, z1, z2, z3⟩ := four S.out.XB; have O2 := trivial; clear hb))
  go_ret
  exact ⟨rfl, S.out.B⟩
set_option maxRecDepth 100000 in
set_option maxHeartbeats 4000000 in
theorem way_5 (a0 a1 b0 b1 : Int) (a2 b2 : ByteArray) (Aa Ab Al : Option Addr) (ca cb cl : Nat) (la lb : List S24) (l : List S40) (w : World) (hca : la.length ≤ ca) (hcb : lb.length ≤ cb) (hcl : l.length ≤ cl) (hCA : Kd.C k24 w Aa la.length la) (hCB : Kd.C k24 w Ab lb.length lb) (hCL : Kd.C k40 w Al l.length l) (hG : GlobG w) (k : Nat) (ra : Int) (rb : Int) (hka : sawmilllaw43_count.f k a0 a1 a2 la 6 100 = some ra) (hkb : sawmilllaw43_count.f k b0 b1 b2 lb 6 100 = some rb) (q1 : decide (100 < ra) = false) (q2 : decide (100 < rb) = false) (hsh : sawmilllaw43_short.f k l = some true) (xa : Int) (xb : Int) (eb : Int) (hea : rule_Eval.f k a0 a1 a2 la l = some (xa, 0)) (heb : rule_Eval.f k b0 b1 b2 lb l = some (xb, eb)) (q3 : (eb != 0) = true) :
    Calls Tryd.prog 8 #[.agg #[.int .i64 a0, .int .i64 a1, .string a2, .slice Aa la.length ca], .agg #[.int .i64 b0, .int .i64 b1, .string b2, .slice Ab lb.length cb], .slice Al l.length cl] w fun e w' => e = .returned (.bool true) ∧ Below w.heap.size w w' := by
  obtain ⟨W0, hW0⟩ : ∃ W0, W0 = (w.alloc (.cells #[.int .i64 a0, .int .i64 a1, .string a2, .slice Aa la.length ca] 24)).alloc (.cells #[.int .i64 b0, .int .i64 b1, .string b2, .slice Ab lb.length cb] 24) := ⟨_, rfl⟩
  have hbel : Below w.heap.size w W0 := hW0 ▸ (((Below.refl _ _).alloc (Nat.le_refl _) _).alloc (by simp) _)
  have S := Lib.hid (show Lg w w.heap.size a0 a1 b0 b1 a2 b2 Aa Ab Al ca cb cl la lb l W0 from ⟨hG.below hbel, Kd.C_below hCA hbel, Kd.C_below hCB hbel, Kd.C_below hCL hbel, by rw [hW0]; exact blkA' _ _ _, by rw [hW0]; exact blkB' _ _ _, hbel⟩)
  have HW0 := Lib.hid hW0
  have O1 := trivial
  replace hka := Lib.hid hka
  replace hkb := Lib.hid hkb
  replace hsh := Lib.hid hsh
  replace hea := Lib.hid hea
  replace heb := Lib.hid heb
  replace hca := Lib.hid hca
  replace hcb := Lib.hid hcb
  replace hcl := Lib.hid hcl
  clear hW0 hbel hG hCA hCB hCL
  go_enter Tryd.func8, Tryd.ntmps8
  go_wp2_with (first
    | (go_at_call 12; have _o6 := O6; (with_reducible refine (awake_c _ S.out.G).mono ?_); rintro e w6 ⟨rfl, hb⟩; replace S := Lib.hid (S.out.step hb); (try clear y0 y1 y2 y3 z0 z1 z2 z3); obtain ⟨y0, y1, y2, y3⟩ := four S.out.XA; obtain ⟨z0, z1, z2, z3⟩ := four S.out.XB; have O7 := trivial; clear hb)
    | (go_at_call 19; have _o5 := O5; (with_reducible refine (eval_c k b0 b1 b2 Ab _ cb lb Al _ cl l xb eb _ S.out.CB hcb.out S.out.CL hcl.out S.out.G heb.out).mono ?_); rintro e w5 ⟨rfl, hb⟩; replace S := Lib.hid (S.out.step hb); (try clear y0 y1 y2 y3 z0 z1 z2 z3); obtain ⟨y0, y1, y2, y3⟩ := four S.out.XA; obtain ⟨z0, z1, z2, z3⟩ := four S.out.XB; have O6 := trivial; clear hb)
    | (go_at_call 19; have _o4 := O4; (with_reducible refine (eval_c k a0 a1 a2 Aa _ ca la Al _ cl l xa 0 _ S.out.CA hca.out S.out.CL hcl.out S.out.G hea.out).mono ?_); rintro e w4 ⟨rfl, hb⟩; replace S := Lib.hid (S.out.step hb); (try clear y0 y1 y2 y3 z0 z1 z2 z3); obtain ⟨y0, y1, y2, y3⟩ := four S.out.XA; obtain ⟨z0, z1, z2, z3⟩ := four S.out.XB; have O5 := trivial; clear hb)
    | (go_at_call 11; have _o3 := O3; (with_reducible refine (short_c k Al _ cl l true _ S.out.CL hcl.out hsh.out).mono ?_); rintro e w3 ⟨rfl, hb⟩; replace S := Lib.hid (S.out.step hb); (try clear y0 y1 y2 y3 z0 z1 z2 z3); obtain ⟨y0, y1, y2, y3⟩ := four S.out.XA; obtain ⟨z0, z1, z2, z3⟩ := four S.out.XB; have O4 := trivial; clear hb)
    | (go_at_call 24; have _o2 := O2; (with_reducible refine (count_c k b0 b1 b2 Ab _ cb lb 6 100 rb _ S.out.CB hcb.out hkb.out).mono ?_); rintro e w2 ⟨rfl, hb⟩; replace S := Lib.hid (S.out.step hb); (try clear y0 y1 y2 y3 z0 z1 z2 z3); obtain ⟨y0, y1, y2, y3⟩ := four S.out.XA; obtain ⟨z0, z1, z2, z3⟩ := four S.out.XB; have O3 := trivial; clear hb)
    | (go_at_call 24; have _o1 := O1; rw [← HW0.out]; (with_reducible refine (count_c k a0 a1 a2 Aa _ ca la 6 100 ra _ S.out.CA hca.out hka.out).mono ?_); rintro e w1 ⟨rfl, hb⟩; replace S := Lib.hid (S.out.step hb); (try clear y0 y1 y2 y3 z0 z1 z2 z3); obtain ⟨y0, y1, y2, y3⟩ := four S.out.XA; obtain ⟨z0, z1, z2, z3⟩ := four S.out.XB; have O2 := trivial; clear hb))
  go_ret
  exact ⟨rfl, S.out.B⟩
set_option maxRecDepth 100000 in
set_option maxHeartbeats 4000000 in
theorem way_6 (a0 a1 b0 b1 : Int) (a2 b2 : ByteArray) (Aa Ab Al : Option Addr) (ca cb cl : Nat) (la lb : List S24) (l : List S40) (w : World) (hca : la.length ≤ ca) (hcb : lb.length ≤ cb) (hcl : l.length ≤ cl) (hCA : Kd.C k24 w Aa la.length la) (hCB : Kd.C k24 w Ab lb.length lb) (hCL : Kd.C k40 w Al l.length l) (hG : GlobG w) (k : Nat) (ra : Int) (rb : Int) (hka : sawmilllaw43_count.f k a0 a1 a2 la 6 100 = some ra) (hkb : sawmilllaw43_count.f k b0 b1 b2 lb 6 100 = some rb) (q1 : decide (100 < ra) = false) (q2 : decide (100 < rb) = false) (hsh : sawmilllaw43_short.f k l = some true) (xa : Int) (xb : Int) (nl : List ByteArray) (hea : rule_Eval.f k a0 a1 a2 la l = some (xa, 0)) (heb : rule_Eval.f k b0 b1 b2 lb l = some (xb, 0)) (hnl : sawmillref43_Names.f k l = some nl) (hcak : rule_Check.f a0 a1 a2 la nl = some 0) (hcbk : rule_Check.f b0 b1 b2 lb nl = some 0) (vn : Int) (vp : Int) (vq : Int) (hn : rule_Eval.f k 9 0 ⟨#[]⟩ [⟨a0, a1, a2, la⟩] l = some (vn, 0)) (hp : rule_Eval.f k 10 0 ⟨#[]⟩ [⟨a0, a1, a2, la⟩, ⟨b0, b1, b2, lb⟩] l = some (vp, 0)) (hq : rule_Eval.f k 11 0 ⟨#[]⟩ [⟨a0, a1, a2, la⟩, ⟨b0, b1, b2, lb⟩] l = some (vq, 0)) (q5 : (vn == wrap64 (1 - xa)) = true) (q6 : (if xb < xa then xb else xa) = vp) (q7 : (if xa < xb then xb else xa) = vq) :
    Calls Tryd.prog 8 #[.agg #[.int .i64 a0, .int .i64 a1, .string a2, .slice Aa la.length ca], .agg #[.int .i64 b0, .int .i64 b1, .string b2, .slice Ab lb.length cb], .slice Al l.length cl] w fun e w' => e = .returned (.bool true) ∧ Below w.heap.size w w' := by
  obtain ⟨W0, hW0⟩ : ∃ W0, W0 = (w.alloc (.cells #[.int .i64 a0, .int .i64 a1, .string a2, .slice Aa la.length ca] 24)).alloc (.cells #[.int .i64 b0, .int .i64 b1, .string b2, .slice Ab lb.length cb] 24) := ⟨_, rfl⟩
  have hbel : Below w.heap.size w W0 := hW0 ▸ (((Below.refl _ _).alloc (Nat.le_refl _) _).alloc (by simp) _)
  have S := Lib.hid (show Lg w w.heap.size a0 a1 b0 b1 a2 b2 Aa Ab Al ca cb cl la lb l W0 from ⟨hG.below hbel, Kd.C_below hCA hbel, Kd.C_below hCB hbel, Kd.C_below hCL hbel, by rw [hW0]; exact blkA' _ _ _, by rw [hW0]; exact blkB' _ _ _, hbel⟩)
  have HW0 := Lib.hid hW0
  have O1 := trivial
  replace hka := Lib.hid hka
  replace hkb := Lib.hid hkb
  replace hsh := Lib.hid hsh
  replace hea := Lib.hid hea
  replace heb := Lib.hid heb
  replace hnl := Lib.hid hnl
  replace hcak := Lib.hid hcak
  replace hcbk := Lib.hid hcbk
  replace hn := Lib.hid hn
  replace hp := Lib.hid hp
  replace hq := Lib.hid hq
  replace hca := Lib.hid hca
  replace hcb := Lib.hid hcb
  replace hcl := Lib.hid hcl
  clear hW0 hbel hG hCA hCB hCL
  go_enter Tryd.func8, Tryd.ntmps8
  go_wp2_with (first
    | (go_at_call 12; have _o15 := O15; (with_reducible refine (awake_c _ S.out.G).mono ?_); rintro e w15 ⟨rfl, hb⟩; replace S := Lib.hid (S.out.step hb); replace NN := Lib.hid (Kd.C_below NN.out hb); replace CN := Lib.hid (Kd.C_below CN.out hb); replace CP := Lib.hid (Kd.C_below CP.out hb); replace CQ := Lib.hid (Kd.C_below CQ.out hb); (try clear y0 y1 y2 y3 z0 z1 z2 z3); obtain ⟨y0, y1, y2, y3⟩ := four S.out.XA; obtain ⟨z0, z1, z2, z3⟩ := four S.out.XB; have O16 := trivial; clear hb)
    | (go_at_call 19; have _o14 := O14; (with_reducible refine (eval_c k 11 0 ⟨#[]⟩ ACQ 2 2 [⟨a0, a1, a2, la⟩, ⟨b0, b1, b2, lb⟩] Al _ cl l vq 0 _ CQ.out (by decide) S.out.CL hcl.out S.out.G hq.out).mono ?_); rintro e w14 ⟨rfl, hb⟩; replace S := Lib.hid (S.out.step hb); replace NN := Lib.hid (Kd.C_below NN.out hb); replace CN := Lib.hid (Kd.C_below CN.out hb); replace CP := Lib.hid (Kd.C_below CP.out hb); replace CQ := Lib.hid (Kd.C_below CQ.out hb); (try clear y0 y1 y2 y3 z0 z1 z2 z3); obtain ⟨y0, y1, y2, y3⟩ := four S.out.XA; obtain ⟨z0, z1, z2, z3⟩ := four S.out.XB; have O15 := trivial; clear hb)
    | (go_at_call 26; have _o13 := O13; (with_reducible refine (two_c 11 a0 a1 b0 b1 a2 b2 Aa Ab _ _ ca cb la lb _ S.out.CA hca.out S.out.CB hcb.out).mono ?_); rintro e w13 ⟨ACQ, rfl, hc, hb⟩; replace S := Lib.hid (S.out.step hb); replace NN := Lib.hid (Kd.C_below NN.out hb); replace CN := Lib.hid (Kd.C_below CN.out hb); replace CP := Lib.hid (Kd.C_below CP.out hb); have CQ := Lib.hid hc; clear hc; (try clear y0 y1 y2 y3 z0 z1 z2 z3); obtain ⟨y0, y1, y2, y3⟩ := four S.out.XA; obtain ⟨z0, z1, z2, z3⟩ := four S.out.XB; have O14 := trivial; clear hb)
    | (go_at_call 19; have _o12 := O12; (with_reducible refine (eval_c k 10 0 ⟨#[]⟩ ACP 2 2 [⟨a0, a1, a2, la⟩, ⟨b0, b1, b2, lb⟩] Al _ cl l vp 0 _ CP.out (by decide) S.out.CL hcl.out S.out.G hp.out).mono ?_); rintro e w12 ⟨rfl, hb⟩; replace S := Lib.hid (S.out.step hb); replace NN := Lib.hid (Kd.C_below NN.out hb); replace CN := Lib.hid (Kd.C_below CN.out hb); replace CP := Lib.hid (Kd.C_below CP.out hb); (try clear y0 y1 y2 y3 z0 z1 z2 z3); obtain ⟨y0, y1, y2, y3⟩ := four S.out.XA; obtain ⟨z0, z1, z2, z3⟩ := four S.out.XB; have O13 := trivial; clear hb)
    | (go_at_call 26; have _o11 := O11; (with_reducible refine (two_c 10 a0 a1 b0 b1 a2 b2 Aa Ab _ _ ca cb la lb _ S.out.CA hca.out S.out.CB hcb.out).mono ?_); rintro e w11 ⟨ACP, rfl, hc, hb⟩; replace S := Lib.hid (S.out.step hb); replace NN := Lib.hid (Kd.C_below NN.out hb); replace CN := Lib.hid (Kd.C_below CN.out hb); have CP := Lib.hid hc; clear hc; (try clear y0 y1 y2 y3 z0 z1 z2 z3); obtain ⟨y0, y1, y2, y3⟩ := four S.out.XA; obtain ⟨z0, z1, z2, z3⟩ := four S.out.XB; have O12 := trivial; clear hb)
    | (go_at_call 19; have _o10 := O10; (with_reducible refine (eval_c k 9 0 ⟨#[]⟩ ACN 1 1 [⟨a0, a1, a2, la⟩] Al _ cl l vn 0 _ CN.out (by decide) S.out.CL hcl.out S.out.G hn.out).mono ?_); rintro e w10 ⟨rfl, hb⟩; replace S := Lib.hid (S.out.step hb); replace NN := Lib.hid (Kd.C_below NN.out hb); replace CN := Lib.hid (Kd.C_below CN.out hb); (try clear y0 y1 y2 y3 z0 z1 z2 z3); obtain ⟨y0, y1, y2, y3⟩ := four S.out.XA; obtain ⟨z0, z1, z2, z3⟩ := four S.out.XB; have O11 := trivial; clear hb)
    | (go_at_call 25; have _o9 := O9; (with_reducible refine (not_c a0 a1 a2 Aa _ ca la _ S.out.CA hca.out).mono ?_); rintro e w9 ⟨ACN, rfl, hc, hb⟩; replace S := Lib.hid (S.out.step hb); replace NN := Lib.hid (Kd.C_below NN.out hb); have CN := Lib.hid hc; clear hc; (try clear y0 y1 y2 y3 z0 z1 z2 z3); obtain ⟨y0, y1, y2, y3⟩ := four S.out.XA; obtain ⟨z0, z1, z2, z3⟩ := four S.out.XB; have O10 := trivial; clear hb)
    | (go_at_call 14; have _o8 := O8; (with_reducible refine (check_c b0 b1 b2 Ab _ cb lb AN _ cN nl 0 _ S.out.CB hcb.out NN.out HCN.out S.out.G hcbk.out).mono ?_); rintro e w8 ⟨rfl, hb⟩; replace S := Lib.hid (S.out.step hb); replace NN := Lib.hid (Kd.C_below NN.out hb); (try clear y0 y1 y2 y3 z0 z1 z2 z3); obtain ⟨y0, y1, y2, y3⟩ := four S.out.XA; obtain ⟨z0, z1, z2, z3⟩ := four S.out.XB; have O9 := trivial; clear hb)
    | (go_at_call 14; have _o7 := O7; (with_reducible refine (check_c a0 a1 a2 Aa _ ca la AN _ cN nl 0 _ S.out.CA hca.out NN.out HCN.out S.out.G hcak.out).mono ?_); rintro e w7 ⟨rfl, hb⟩; replace S := Lib.hid (S.out.step hb); replace NN := Lib.hid (Kd.C_below NN.out hb); (try clear y0 y1 y2 y3 z0 z1 z2 z3); obtain ⟨y0, y1, y2, y3⟩ := four S.out.XA; obtain ⟨z0, z1, z2, z3⟩ := four S.out.XB; have O8 := trivial; clear hb)
    | (go_at_call 13; have _o6 := O6; (with_reducible refine (names_c k Al _ cl l nl _ S.out.CL hcl.out hnl.out).mono ?_); rintro e w6 ⟨AN, cN, rfl, hc, hcn, hb⟩; replace S := Lib.hid (S.out.step hb); have NN := Lib.hid hc; have HCN := Lib.hid hcn; clear hc hcn; (try clear y0 y1 y2 y3 z0 z1 z2 z3); obtain ⟨y0, y1, y2, y3⟩ := four S.out.XA; obtain ⟨z0, z1, z2, z3⟩ := four S.out.XB; have O7 := trivial; clear hb)
    | (go_at_call 19; have _o5 := O5; (with_reducible refine (eval_c k b0 b1 b2 Ab _ cb lb Al _ cl l xb 0 _ S.out.CB hcb.out S.out.CL hcl.out S.out.G heb.out).mono ?_); rintro e w5 ⟨rfl, hb⟩; replace S := Lib.hid (S.out.step hb); (try clear y0 y1 y2 y3 z0 z1 z2 z3); obtain ⟨y0, y1, y2, y3⟩ := four S.out.XA; obtain ⟨z0, z1, z2, z3⟩ := four S.out.XB; have O6 := trivial; clear hb)
    | (go_at_call 19; have _o4 := O4; (with_reducible refine (eval_c k a0 a1 a2 Aa _ ca la Al _ cl l xa 0 _ S.out.CA hca.out S.out.CL hcl.out S.out.G hea.out).mono ?_); rintro e w4 ⟨rfl, hb⟩; replace S := Lib.hid (S.out.step hb); (try clear y0 y1 y2 y3 z0 z1 z2 z3); obtain ⟨y0, y1, y2, y3⟩ := four S.out.XA; obtain ⟨z0, z1, z2, z3⟩ := four S.out.XB; have O5 := trivial; clear hb)
    | (go_at_call 11; have _o3 := O3; (with_reducible refine (short_c k Al _ cl l true _ S.out.CL hcl.out hsh.out).mono ?_); rintro e w3 ⟨rfl, hb⟩; replace S := Lib.hid (S.out.step hb); (try clear y0 y1 y2 y3 z0 z1 z2 z3); obtain ⟨y0, y1, y2, y3⟩ := four S.out.XA; obtain ⟨z0, z1, z2, z3⟩ := four S.out.XB; have O4 := trivial; clear hb)
    | (go_at_call 24; have _o2 := O2; (with_reducible refine (count_c k b0 b1 b2 Ab _ cb lb 6 100 rb _ S.out.CB hcb.out hkb.out).mono ?_); rintro e w2 ⟨rfl, hb⟩; replace S := Lib.hid (S.out.step hb); (try clear y0 y1 y2 y3 z0 z1 z2 z3); obtain ⟨y0, y1, y2, y3⟩ := four S.out.XA; obtain ⟨z0, z1, z2, z3⟩ := four S.out.XB; have O3 := trivial; clear hb)
    | (go_at_call 24; have _o1 := O1; rw [← HW0.out]; (with_reducible refine (count_c k a0 a1 a2 Aa _ ca la 6 100 ra _ S.out.CA hca.out hka.out).mono ?_); rintro e w1 ⟨rfl, hb⟩; replace S := Lib.hid (S.out.step hb); (try clear y0 y1 y2 y3 z0 z1 z2 z3); obtain ⟨y0, y1, y2, y3⟩ := four S.out.XA; obtain ⟨z0, z1, z2, z3⟩ := four S.out.XB; have O2 := trivial; clear hb))
  go_ret
  exact ⟨rfl, S.out.B⟩
set_option maxRecDepth 100000 in
set_option maxHeartbeats 4000000 in
theorem way_7 (a0 a1 b0 b1 : Int) (a2 b2 : ByteArray) (Aa Ab Al : Option Addr) (ca cb cl : Nat) (la lb : List S24) (l : List S40) (w : World) (hca : la.length ≤ ca) (hcb : lb.length ≤ cb) (hcl : l.length ≤ cl) (hCA : Kd.C k24 w Aa la.length la) (hCB : Kd.C k24 w Ab lb.length lb) (hCL : Kd.C k40 w Al l.length l) (hG : GlobG w) (k : Nat) (ra : Int) (rb : Int) (hka : sawmilllaw43_count.f k a0 a1 a2 la 6 100 = some ra) (hkb : sawmilllaw43_count.f k b0 b1 b2 lb 6 100 = some rb) (q1 : decide (100 < ra) = false) (q2 : decide (100 < rb) = false) (hsh : sawmilllaw43_short.f k l = some true) (xa : Int) (xb : Int) (nl : List ByteArray) (hea : rule_Eval.f k a0 a1 a2 la l = some (xa, 0)) (heb : rule_Eval.f k b0 b1 b2 lb l = some (xb, 0)) (hnl : sawmillref43_Names.f k l = some nl) (fb : Int) (hcak : rule_Check.f a0 a1 a2 la nl = some 0) (hcbk : rule_Check.f b0 b1 b2 lb nl = some fb) (q4 : (fb == 0) = false) (vn : Int) (vp : Int) (hn : rule_Eval.f k 10 0 ⟨#[]⟩ [⟨a0, a1, a2, la⟩, ⟨b0, b1, b2, lb⟩] l = some (vn, 27)) (hp : rule_Eval.f k 7 0 ⟨#[]⟩ [⟨a0, a1, a2, la⟩, ⟨b0, b1, b2, lb⟩] l = some (vp, 27)) :
    Calls Tryd.prog 8 #[.agg #[.int .i64 a0, .int .i64 a1, .string a2, .slice Aa la.length ca], .agg #[.int .i64 b0, .int .i64 b1, .string b2, .slice Ab lb.length cb], .slice Al l.length cl] w fun e w' => e = .returned (.bool true) ∧ Below w.heap.size w w' := by
  obtain ⟨W0, hW0⟩ : ∃ W0, W0 = (w.alloc (.cells #[.int .i64 a0, .int .i64 a1, .string a2, .slice Aa la.length ca] 24)).alloc (.cells #[.int .i64 b0, .int .i64 b1, .string b2, .slice Ab lb.length cb] 24) := ⟨_, rfl⟩
  have hbel : Below w.heap.size w W0 := hW0 ▸ (((Below.refl _ _).alloc (Nat.le_refl _) _).alloc (by simp) _)
  have S := Lib.hid (show Lg w w.heap.size a0 a1 b0 b1 a2 b2 Aa Ab Al ca cb cl la lb l W0 from ⟨hG.below hbel, Kd.C_below hCA hbel, Kd.C_below hCB hbel, Kd.C_below hCL hbel, by rw [hW0]; exact blkA' _ _ _, by rw [hW0]; exact blkB' _ _ _, hbel⟩)
  have HW0 := Lib.hid hW0
  have O1 := trivial
  replace hka := Lib.hid hka
  replace hkb := Lib.hid hkb
  replace hsh := Lib.hid hsh
  replace hea := Lib.hid hea
  replace heb := Lib.hid heb
  replace hnl := Lib.hid hnl
  replace hcak := Lib.hid hcak
  replace hcbk := Lib.hid hcbk
  replace hn := Lib.hid hn
  replace hp := Lib.hid hp
  replace hca := Lib.hid hca
  replace hcb := Lib.hid hcb
  replace hcl := Lib.hid hcl
  clear hW0 hbel hG hCA hCB hCL
  go_enter Tryd.func8, Tryd.ntmps8
  go_wp2_with (first
    | (go_at_call 12; have _o14 := O14; (with_reducible refine (awake_c _ S.out.G).mono ?_); rintro e w14 ⟨rfl, hb⟩; replace S := Lib.hid (S.out.step hb); replace NN := Lib.hid (Kd.C_below NN.out hb); replace CN := Lib.hid (Kd.C_below CN.out hb); replace CP := Lib.hid (Kd.C_below CP.out hb); (try clear y0 y1 y2 y3 z0 z1 z2 z3); obtain ⟨y0, y1, y2, y3⟩ := four S.out.XA; obtain ⟨z0, z1, z2, z3⟩ := four S.out.XB; have O15 := trivial; clear hb)
    | (go_at_call 19; have _o13 := O13; (with_reducible refine (eval_c k 7 0 ⟨#[]⟩ ACP 2 2 [⟨a0, a1, a2, la⟩, ⟨b0, b1, b2, lb⟩] Al _ cl l vp 27 _ CP.out (by decide) S.out.CL hcl.out S.out.G hp.out).mono ?_); rintro e w13 ⟨rfl, hb⟩; replace S := Lib.hid (S.out.step hb); replace NN := Lib.hid (Kd.C_below NN.out hb); replace CN := Lib.hid (Kd.C_below CN.out hb); replace CP := Lib.hid (Kd.C_below CP.out hb); (try clear y0 y1 y2 y3 z0 z1 z2 z3); obtain ⟨y0, y1, y2, y3⟩ := four S.out.XA; obtain ⟨z0, z1, z2, z3⟩ := four S.out.XB; have O14 := trivial; clear hb)
    | (go_at_call 26; have _o12 := O12; (with_reducible refine (two_c 7 a0 a1 b0 b1 a2 b2 Aa Ab _ _ ca cb la lb _ S.out.CA hca.out S.out.CB hcb.out).mono ?_); rintro e w12 ⟨ACP, rfl, hc, hb⟩; replace S := Lib.hid (S.out.step hb); replace NN := Lib.hid (Kd.C_below NN.out hb); replace CN := Lib.hid (Kd.C_below CN.out hb); have CP := Lib.hid hc; clear hc; (try clear y0 y1 y2 y3 z0 z1 z2 z3); obtain ⟨y0, y1, y2, y3⟩ := four S.out.XA; obtain ⟨z0, z1, z2, z3⟩ := four S.out.XB; have O13 := trivial; clear hb)
    | (go_at_call 19; have _o11 := O11; (with_reducible refine (eval_c k 10 0 ⟨#[]⟩ ACN 2 2 [⟨a0, a1, a2, la⟩, ⟨b0, b1, b2, lb⟩] Al _ cl l vn 27 _ CN.out (by decide) S.out.CL hcl.out S.out.G hn.out).mono ?_); rintro e w11 ⟨rfl, hb⟩; replace S := Lib.hid (S.out.step hb); replace NN := Lib.hid (Kd.C_below NN.out hb); replace CN := Lib.hid (Kd.C_below CN.out hb); (try clear y0 y1 y2 y3 z0 z1 z2 z3); obtain ⟨y0, y1, y2, y3⟩ := four S.out.XA; obtain ⟨z0, z1, z2, z3⟩ := four S.out.XB; have O12 := trivial; clear hb)
    | (go_at_call 26; have _o10 := O10; (with_reducible refine (two_c 10 a0 a1 b0 b1 a2 b2 Aa Ab _ _ ca cb la lb _ S.out.CA hca.out S.out.CB hcb.out).mono ?_); rintro e w10 ⟨ACN, rfl, hc, hb⟩; replace S := Lib.hid (S.out.step hb); replace NN := Lib.hid (Kd.C_below NN.out hb); have CN := Lib.hid hc; clear hc; (try clear y0 y1 y2 y3 z0 z1 z2 z3); obtain ⟨y0, y1, y2, y3⟩ := four S.out.XA; obtain ⟨z0, z1, z2, z3⟩ := four S.out.XB; have O11 := trivial; clear hb)
    | (go_at_call 14; have _o9 := O9; (with_reducible refine (check_c a0 a1 a2 Aa _ ca la AN _ cN nl 0 _ S.out.CA hca.out NN.out HCN.out S.out.G hcak.out).mono ?_); rintro e w9 ⟨rfl, hb⟩; replace S := Lib.hid (S.out.step hb); replace NN := Lib.hid (Kd.C_below NN.out hb); (try clear y0 y1 y2 y3 z0 z1 z2 z3); obtain ⟨y0, y1, y2, y3⟩ := four S.out.XA; obtain ⟨z0, z1, z2, z3⟩ := four S.out.XB; have O10 := trivial; clear hb)
    | (go_at_call 14; have _o8 := O8; (with_reducible refine (check_c b0 b1 b2 Ab _ cb lb AN _ cN nl fb _ S.out.CB hcb.out NN.out HCN.out S.out.G hcbk.out).mono ?_); rintro e w8 ⟨rfl, hb⟩; replace S := Lib.hid (S.out.step hb); replace NN := Lib.hid (Kd.C_below NN.out hb); (try clear y0 y1 y2 y3 z0 z1 z2 z3); obtain ⟨y0, y1, y2, y3⟩ := four S.out.XA; obtain ⟨z0, z1, z2, z3⟩ := four S.out.XB; have O9 := trivial; clear hb)
    | (go_at_call 14; have _o7 := O7; (with_reducible refine (check_c a0 a1 a2 Aa _ ca la AN _ cN nl 0 _ S.out.CA hca.out NN.out HCN.out S.out.G hcak.out).mono ?_); rintro e w7 ⟨rfl, hb⟩; replace S := Lib.hid (S.out.step hb); replace NN := Lib.hid (Kd.C_below NN.out hb); (try clear y0 y1 y2 y3 z0 z1 z2 z3); obtain ⟨y0, y1, y2, y3⟩ := four S.out.XA; obtain ⟨z0, z1, z2, z3⟩ := four S.out.XB; have O8 := trivial; clear hb)
    | (go_at_call 13; have _o6 := O6; (with_reducible refine (names_c k Al _ cl l nl _ S.out.CL hcl.out hnl.out).mono ?_); rintro e w6 ⟨AN, cN, rfl, hc, hcn, hb⟩; replace S := Lib.hid (S.out.step hb); have NN := Lib.hid hc; have HCN := Lib.hid hcn; clear hc hcn; (try clear y0 y1 y2 y3 z0 z1 z2 z3); obtain ⟨y0, y1, y2, y3⟩ := four S.out.XA; obtain ⟨z0, z1, z2, z3⟩ := four S.out.XB; have O7 := trivial; clear hb)
    | (go_at_call 19; have _o5 := O5; (with_reducible refine (eval_c k b0 b1 b2 Ab _ cb lb Al _ cl l xb 0 _ S.out.CB hcb.out S.out.CL hcl.out S.out.G heb.out).mono ?_); rintro e w5 ⟨rfl, hb⟩; replace S := Lib.hid (S.out.step hb); (try clear y0 y1 y2 y3 z0 z1 z2 z3); obtain ⟨y0, y1, y2, y3⟩ := four S.out.XA; obtain ⟨z0, z1, z2, z3⟩ := four S.out.XB; have O6 := trivial; clear hb)
    | (go_at_call 19; have _o4 := O4; (with_reducible refine (eval_c k a0 a1 a2 Aa _ ca la Al _ cl l xa 0 _ S.out.CA hca.out S.out.CL hcl.out S.out.G hea.out).mono ?_); rintro e w4 ⟨rfl, hb⟩; replace S := Lib.hid (S.out.step hb); (try clear y0 y1 y2 y3 z0 z1 z2 z3); obtain ⟨y0, y1, y2, y3⟩ := four S.out.XA; obtain ⟨z0, z1, z2, z3⟩ := four S.out.XB; have O5 := trivial; clear hb)
    | (go_at_call 11; have _o3 := O3; (with_reducible refine (short_c k Al _ cl l true _ S.out.CL hcl.out hsh.out).mono ?_); rintro e w3 ⟨rfl, hb⟩; replace S := Lib.hid (S.out.step hb); (try clear y0 y1 y2 y3 z0 z1 z2 z3); obtain ⟨y0, y1, y2, y3⟩ := four S.out.XA; obtain ⟨z0, z1, z2, z3⟩ := four S.out.XB; have O4 := trivial; clear hb)
    | (go_at_call 24; have _o2 := O2; (with_reducible refine (count_c k b0 b1 b2 Ab _ cb lb 6 100 rb _ S.out.CB hcb.out hkb.out).mono ?_); rintro e w2 ⟨rfl, hb⟩; replace S := Lib.hid (S.out.step hb); (try clear y0 y1 y2 y3 z0 z1 z2 z3); obtain ⟨y0, y1, y2, y3⟩ := four S.out.XA; obtain ⟨z0, z1, z2, z3⟩ := four S.out.XB; have O3 := trivial; clear hb)
    | (go_at_call 24; have _o1 := O1; rw [← HW0.out]; (with_reducible refine (count_c k a0 a1 a2 Aa _ ca la 6 100 ra _ S.out.CA hca.out hka.out).mono ?_); rintro e w1 ⟨rfl, hb⟩; replace S := Lib.hid (S.out.step hb); (try clear y0 y1 y2 y3 z0 z1 z2 z3); obtain ⟨y0, y1, y2, y3⟩ := four S.out.XA; obtain ⟨z0, z1, z2, z3⟩ := four S.out.XB; have O2 := trivial; clear hb))
  go_ret
  exact ⟨rfl, S.out.B⟩
set_option maxRecDepth 100000 in
set_option maxHeartbeats 4000000 in
theorem way_8 (a0 a1 b0 b1 : Int) (a2 b2 : ByteArray) (Aa Ab Al : Option Addr) (ca cb cl : Nat) (la lb : List S24) (l : List S40) (w : World) (hca : la.length ≤ ca) (hcb : lb.length ≤ cb) (hcl : l.length ≤ cl) (hCA : Kd.C k24 w Aa la.length la) (hCB : Kd.C k24 w Ab lb.length lb) (hCL : Kd.C k40 w Al l.length l) (hG : GlobG w) (k : Nat) (ra : Int) (rb : Int) (hka : sawmilllaw43_count.f k a0 a1 a2 la 6 100 = some ra) (hkb : sawmilllaw43_count.f k b0 b1 b2 lb 6 100 = some rb) (q1 : decide (100 < ra) = false) (q2 : decide (100 < rb) = false) (hsh : sawmilllaw43_short.f k l = some true) (xa : Int) (xb : Int) (nl : List ByteArray) (hea : rule_Eval.f k a0 a1 a2 la l = some (xa, 0)) (heb : rule_Eval.f k b0 b1 b2 lb l = some (xb, 0)) (hnl : sawmillref43_Names.f k l = some nl) (fa : Int) (hcak : rule_Check.f a0 a1 a2 la nl = some fa) (hcbk : rule_Check.f b0 b1 b2 lb nl = some 0) (q4 : (fa == 0) = false) (vn : Int) (vp : Int) (hn : rule_Eval.f k 10 0 ⟨#[]⟩ [⟨a0, a1, a2, la⟩, ⟨b0, b1, b2, lb⟩] l = some (vn, 27)) (hp : rule_Eval.f k 7 0 ⟨#[]⟩ [⟨a0, a1, a2, la⟩, ⟨b0, b1, b2, lb⟩] l = some (vp, 27)) :
    Calls Tryd.prog 8 #[.agg #[.int .i64 a0, .int .i64 a1, .string a2, .slice Aa la.length ca], .agg #[.int .i64 b0, .int .i64 b1, .string b2, .slice Ab lb.length cb], .slice Al l.length cl] w fun e w' => e = .returned (.bool true) ∧ Below w.heap.size w w' := by
  obtain ⟨W0, hW0⟩ : ∃ W0, W0 = (w.alloc (.cells #[.int .i64 a0, .int .i64 a1, .string a2, .slice Aa la.length ca] 24)).alloc (.cells #[.int .i64 b0, .int .i64 b1, .string b2, .slice Ab lb.length cb] 24) := ⟨_, rfl⟩
  have hbel : Below w.heap.size w W0 := hW0 ▸ (((Below.refl _ _).alloc (Nat.le_refl _) _).alloc (by simp) _)
  have S := Lib.hid (show Lg w w.heap.size a0 a1 b0 b1 a2 b2 Aa Ab Al ca cb cl la lb l W0 from ⟨hG.below hbel, Kd.C_below hCA hbel, Kd.C_below hCB hbel, Kd.C_below hCL hbel, by rw [hW0]; exact blkA' _ _ _, by rw [hW0]; exact blkB' _ _ _, hbel⟩)
  have HW0 := Lib.hid hW0
  have O1 := trivial
  replace hka := Lib.hid hka
  replace hkb := Lib.hid hkb
  replace hsh := Lib.hid hsh
  replace hea := Lib.hid hea
  replace heb := Lib.hid heb
  replace hnl := Lib.hid hnl
  replace hcak := Lib.hid hcak
  replace hcbk := Lib.hid hcbk
  replace hn := Lib.hid hn
  replace hp := Lib.hid hp
  replace hca := Lib.hid hca
  replace hcb := Lib.hid hcb
  replace hcl := Lib.hid hcl
  clear hW0 hbel hG hCA hCB hCL
  go_enter Tryd.func8, Tryd.ntmps8
  go_wp2_with (first
    | (go_at_call 12; have _o14 := O14; (with_reducible refine (awake_c _ S.out.G).mono ?_); rintro e w14 ⟨rfl, hb⟩; replace S := Lib.hid (S.out.step hb); replace NN := Lib.hid (Kd.C_below NN.out hb); replace CN := Lib.hid (Kd.C_below CN.out hb); replace CP := Lib.hid (Kd.C_below CP.out hb); (try clear y0 y1 y2 y3 z0 z1 z2 z3); obtain ⟨y0, y1, y2, y3⟩ := four S.out.XA; obtain ⟨z0, z1, z2, z3⟩ := four S.out.XB; have O15 := trivial; clear hb)
    | (go_at_call 19; have _o13 := O13; (with_reducible refine (eval_c k 7 0 ⟨#[]⟩ ACP 2 2 [⟨a0, a1, a2, la⟩, ⟨b0, b1, b2, lb⟩] Al _ cl l vp 27 _ CP.out (by decide) S.out.CL hcl.out S.out.G hp.out).mono ?_); rintro e w13 ⟨rfl, hb⟩; replace S := Lib.hid (S.out.step hb); replace NN := Lib.hid (Kd.C_below NN.out hb); replace CN := Lib.hid (Kd.C_below CN.out hb); replace CP := Lib.hid (Kd.C_below CP.out hb); (try clear y0 y1 y2 y3 z0 z1 z2 z3); obtain ⟨y0, y1, y2, y3⟩ := four S.out.XA; obtain ⟨z0, z1, z2, z3⟩ := four S.out.XB; have O14 := trivial; clear hb)
    | (go_at_call 26; have _o12 := O12; (with_reducible refine (two_c 7 a0 a1 b0 b1 a2 b2 Aa Ab _ _ ca cb la lb _ S.out.CA hca.out S.out.CB hcb.out).mono ?_); rintro e w12 ⟨ACP, rfl, hc, hb⟩; replace S := Lib.hid (S.out.step hb); replace NN := Lib.hid (Kd.C_below NN.out hb); replace CN := Lib.hid (Kd.C_below CN.out hb); have CP := Lib.hid hc; clear hc; (try clear y0 y1 y2 y3 z0 z1 z2 z3); obtain ⟨y0, y1, y2, y3⟩ := four S.out.XA; obtain ⟨z0, z1, z2, z3⟩ := four S.out.XB; have O13 := trivial; clear hb)
    | (go_at_call 19; have _o11 := O11; (with_reducible refine (eval_c k 10 0 ⟨#[]⟩ ACN 2 2 [⟨a0, a1, a2, la⟩, ⟨b0, b1, b2, lb⟩] Al _ cl l vn 27 _ CN.out (by decide) S.out.CL hcl.out S.out.G hn.out).mono ?_); rintro e w11 ⟨rfl, hb⟩; replace S := Lib.hid (S.out.step hb); replace NN := Lib.hid (Kd.C_below NN.out hb); replace CN := Lib.hid (Kd.C_below CN.out hb); (try clear y0 y1 y2 y3 z0 z1 z2 z3); obtain ⟨y0, y1, y2, y3⟩ := four S.out.XA; obtain ⟨z0, z1, z2, z3⟩ := four S.out.XB; have O12 := trivial; clear hb)
    | (go_at_call 26; have _o10 := O10; (with_reducible refine (two_c 10 a0 a1 b0 b1 a2 b2 Aa Ab _ _ ca cb la lb _ S.out.CA hca.out S.out.CB hcb.out).mono ?_); rintro e w10 ⟨ACN, rfl, hc, hb⟩; replace S := Lib.hid (S.out.step hb); replace NN := Lib.hid (Kd.C_below NN.out hb); have CN := Lib.hid hc; clear hc; (try clear y0 y1 y2 y3 z0 z1 z2 z3); obtain ⟨y0, y1, y2, y3⟩ := four S.out.XA; obtain ⟨z0, z1, z2, z3⟩ := four S.out.XB; have O11 := trivial; clear hb)
    | (go_at_call 14; have _o9 := O9; (with_reducible refine (check_c b0 b1 b2 Ab _ cb lb AN _ cN nl 0 _ S.out.CB hcb.out NN.out HCN.out S.out.G hcbk.out).mono ?_); rintro e w9 ⟨rfl, hb⟩; replace S := Lib.hid (S.out.step hb); replace NN := Lib.hid (Kd.C_below NN.out hb); (try clear y0 y1 y2 y3 z0 z1 z2 z3); obtain ⟨y0, y1, y2, y3⟩ := four S.out.XA; obtain ⟨z0, z1, z2, z3⟩ := four S.out.XB; have O10 := trivial; clear hb)
    | (go_at_call 14; have _o8 := O8; (with_reducible refine (check_c a0 a1 a2 Aa _ ca la AN _ cN nl fa _ S.out.CA hca.out NN.out HCN.out S.out.G hcak.out).mono ?_); rintro e w8 ⟨rfl, hb⟩; replace S := Lib.hid (S.out.step hb); replace NN := Lib.hid (Kd.C_below NN.out hb); (try clear y0 y1 y2 y3 z0 z1 z2 z3); obtain ⟨y0, y1, y2, y3⟩ := four S.out.XA; obtain ⟨z0, z1, z2, z3⟩ := four S.out.XB; have O9 := trivial; clear hb)
    | (go_at_call 14; have _o7 := O7; (with_reducible refine (check_c a0 a1 a2 Aa _ ca la AN _ cN nl fa _ S.out.CA hca.out NN.out HCN.out S.out.G hcak.out).mono ?_); rintro e w7 ⟨rfl, hb⟩; replace S := Lib.hid (S.out.step hb); replace NN := Lib.hid (Kd.C_below NN.out hb); (try clear y0 y1 y2 y3 z0 z1 z2 z3); obtain ⟨y0, y1, y2, y3⟩ := four S.out.XA; obtain ⟨z0, z1, z2, z3⟩ := four S.out.XB; have O8 := trivial; clear hb)
    | (go_at_call 13; have _o6 := O6; (with_reducible refine (names_c k Al _ cl l nl _ S.out.CL hcl.out hnl.out).mono ?_); rintro e w6 ⟨AN, cN, rfl, hc, hcn, hb⟩; replace S := Lib.hid (S.out.step hb); have NN := Lib.hid hc; have HCN := Lib.hid hcn; clear hc hcn; (try clear y0 y1 y2 y3 z0 z1 z2 z3); obtain ⟨y0, y1, y2, y3⟩ := four S.out.XA; obtain ⟨z0, z1, z2, z3⟩ := four S.out.XB; have O7 := trivial; clear hb)
    | (go_at_call 19; have _o5 := O5; (with_reducible refine (eval_c k b0 b1 b2 Ab _ cb lb Al _ cl l xb 0 _ S.out.CB hcb.out S.out.CL hcl.out S.out.G heb.out).mono ?_); rintro e w5 ⟨rfl, hb⟩; replace S := Lib.hid (S.out.step hb); (try clear y0 y1 y2 y3 z0 z1 z2 z3); obtain ⟨y0, y1, y2, y3⟩ := four S.out.XA; obtain ⟨z0, z1, z2, z3⟩ := four S.out.XB; have O6 := trivial; clear hb)
    | (go_at_call 19; have _o4 := O4; (with_reducible refine (eval_c k a0 a1 a2 Aa _ ca la Al _ cl l xa 0 _ S.out.CA hca.out S.out.CL hcl.out S.out.G hea.out).mono ?_); rintro e w4 ⟨rfl, hb⟩; replace S := Lib.hid (S.out.step hb); (try clear y0 y1 y2 y3 z0 z1 z2 z3); obtain ⟨y0, y1, y2, y3⟩ := four S.out.XA; obtain ⟨z0, z1, z2, z3⟩ := four S.out.XB; have O5 := trivial; clear hb)
    | (go_at_call 11; have _o3 := O3; (with_reducible refine (short_c k Al _ cl l true _ S.out.CL hcl.out hsh.out).mono ?_); rintro e w3 ⟨rfl, hb⟩; replace S := Lib.hid (S.out.step hb); (try clear y0 y1 y2 y3 z0 z1 z2 z3); obtain ⟨y0, y1, y2, y3⟩ := four S.out.XA; obtain ⟨z0, z1, z2, z3⟩ := four S.out.XB; have O4 := trivial; clear hb)
    | (go_at_call 24; have _o2 := O2; (with_reducible refine (count_c k b0 b1 b2 Ab _ cb lb 6 100 rb _ S.out.CB hcb.out hkb.out).mono ?_); rintro e w2 ⟨rfl, hb⟩; replace S := Lib.hid (S.out.step hb); (try clear y0 y1 y2 y3 z0 z1 z2 z3); obtain ⟨y0, y1, y2, y3⟩ := four S.out.XA; obtain ⟨z0, z1, z2, z3⟩ := four S.out.XB; have O3 := trivial; clear hb)
    | (go_at_call 24; have _o1 := O1; rw [← HW0.out]; (with_reducible refine (count_c k a0 a1 a2 Aa _ ca la 6 100 ra _ S.out.CA hca.out hka.out).mono ?_); rintro e w1 ⟨rfl, hb⟩; replace S := Lib.hid (S.out.step hb); (try clear y0 y1 y2 y3 z0 z1 z2 z3); obtain ⟨y0, y1, y2, y3⟩ := four S.out.XA; obtain ⟨z0, z1, z2, z3⟩ := four S.out.XB; have O2 := trivial; clear hb))
  go_ret
  exact ⟨rfl, S.out.B⟩
set_option maxRecDepth 100000 in
set_option maxHeartbeats 4000000 in
theorem way_9 (a0 a1 b0 b1 : Int) (a2 b2 : ByteArray) (Aa Ab Al : Option Addr) (ca cb cl : Nat) (la lb : List S24) (l : List S40) (w : World) (hca : la.length ≤ ca) (hcb : lb.length ≤ cb) (hcl : l.length ≤ cl) (hCA : Kd.C k24 w Aa la.length la) (hCB : Kd.C k24 w Ab lb.length lb) (hCL : Kd.C k40 w Al l.length l) (hG : GlobG w) (k : Nat) (ra : Int) (rb : Int) (hka : sawmilllaw43_count.f k a0 a1 a2 la 6 100 = some ra) (hkb : sawmilllaw43_count.f k b0 b1 b2 lb 6 100 = some rb) (q1 : decide (100 < ra) = false) (q2 : decide (100 < rb) = false) (hsh : sawmilllaw43_short.f k l = some true) (xa : Int) (xb : Int) (nl : List ByteArray) (hea : rule_Eval.f k a0 a1 a2 la l = some (xa, 0)) (heb : rule_Eval.f k b0 b1 b2 lb l = some (xb, 0)) (hnl : sawmillref43_Names.f k l = some nl) (fa : Int) (fb : Int) (hcak : rule_Check.f a0 a1 a2 la nl = some fa) (hcbk : rule_Check.f b0 b1 b2 lb nl = some fb) (q4 : (fa == 0) = false) (q8 : (fb == 0) = false) (vn : Int) (vp : Int) (vq : Int) (hn : rule_Eval.f k 7 0 ⟨#[]⟩ [⟨a0, a1, a2, la⟩, ⟨b0, b1, b2, lb⟩] l = some (vn, 0)) (hp : rule_Eval.f k 9 0 ⟨#[]⟩ [⟨8, 0, ⟨#[]⟩, [⟨b0, b1, b2, lb⟩, ⟨a0, a1, a2, la⟩]⟩] l = some (vp, 0)) (hq : rule_Eval.f k 6 0 ⟨#[]⟩ [⟨a0, a1, a2, la⟩, ⟨b0, b1, b2, lb⟩] l = some (vq, 0)) (q5 : (vn == vp) = true) (q6 : ((vn == 1) == decide (xa < xb)) = true) (q7 : ((vq == 1) == (xa == xb)) = true) :
    Calls Tryd.prog 8 #[.agg #[.int .i64 a0, .int .i64 a1, .string a2, .slice Aa la.length ca], .agg #[.int .i64 b0, .int .i64 b1, .string b2, .slice Ab lb.length cb], .slice Al l.length cl] w fun e w' => e = .returned (.bool true) ∧ Below w.heap.size w w' := by
  obtain ⟨W0, hW0⟩ : ∃ W0, W0 = (w.alloc (.cells #[.int .i64 a0, .int .i64 a1, .string a2, .slice Aa la.length ca] 24)).alloc (.cells #[.int .i64 b0, .int .i64 b1, .string b2, .slice Ab lb.length cb] 24) := ⟨_, rfl⟩
  have hbel : Below w.heap.size w W0 := hW0 ▸ (((Below.refl _ _).alloc (Nat.le_refl _) _).alloc (by simp) _)
  have S := Lib.hid (show Lg w w.heap.size a0 a1 b0 b1 a2 b2 Aa Ab Al ca cb cl la lb l W0 from ⟨hG.below hbel, Kd.C_below hCA hbel, Kd.C_below hCB hbel, Kd.C_below hCL hbel, by rw [hW0]; exact blkA' _ _ _, by rw [hW0]; exact blkB' _ _ _, hbel⟩)
  have HW0 := Lib.hid hW0
  have O1 := trivial
  replace hka := Lib.hid hka
  replace hkb := Lib.hid hkb
  replace hsh := Lib.hid hsh
  replace hea := Lib.hid hea
  replace heb := Lib.hid heb
  replace hnl := Lib.hid hnl
  replace hcak := Lib.hid hcak
  replace hcbk := Lib.hid hcbk
  replace hn := Lib.hid hn
  replace hp := Lib.hid hp
  replace hq := Lib.hid hq
  replace hca := Lib.hid hca
  replace hcb := Lib.hid hcb
  replace hcl := Lib.hid hcl
  clear hW0 hbel hG hCA hCB hCL
  go_enter Tryd.func8, Tryd.ntmps8
  go_wp2_with (first
    | (go_at_call 12; have _o17 := O17; (with_reducible refine (awake_c _ S.out.G).mono ?_); rintro e w17 ⟨rfl, hb⟩; replace S := Lib.hid (S.out.step hb); replace NN := Lib.hid (Kd.C_below NN.out hb); replace CN := Lib.hid (Kd.C_below CN.out hb); replace CM := Lib.hid (Kd.C_below CM.out hb); replace CP := Lib.hid (Kd.C_below CP.out hb); replace CQ := Lib.hid (Kd.C_below CQ.out hb); (try clear y0 y1 y2 y3 z0 z1 z2 z3); obtain ⟨y0, y1, y2, y3⟩ := four S.out.XA; obtain ⟨z0, z1, z2, z3⟩ := four S.out.XB; have O18 := trivial; clear hb)
    | (go_at_call 19; have _o16 := O16; (with_reducible refine (eval_c k 6 0 ⟨#[]⟩ ACQ 2 2 [⟨a0, a1, a2, la⟩, ⟨b0, b1, b2, lb⟩] Al _ cl l vq 0 _ CQ.out (by decide) S.out.CL hcl.out S.out.G hq.out).mono ?_); rintro e w16 ⟨rfl, hb⟩; replace S := Lib.hid (S.out.step hb); replace NN := Lib.hid (Kd.C_below NN.out hb); replace CN := Lib.hid (Kd.C_below CN.out hb); replace CM := Lib.hid (Kd.C_below CM.out hb); replace CP := Lib.hid (Kd.C_below CP.out hb); replace CQ := Lib.hid (Kd.C_below CQ.out hb); (try clear y0 y1 y2 y3 z0 z1 z2 z3); obtain ⟨y0, y1, y2, y3⟩ := four S.out.XA; obtain ⟨z0, z1, z2, z3⟩ := four S.out.XB; have O17 := trivial; clear hb)
    | (go_at_call 26; have _o15 := O15; (with_reducible refine (two_c 6 a0 a1 b0 b1 a2 b2 Aa Ab _ _ ca cb la lb _ S.out.CA hca.out S.out.CB hcb.out).mono ?_); rintro e w15 ⟨ACQ, rfl, hc, hb⟩; replace S := Lib.hid (S.out.step hb); replace NN := Lib.hid (Kd.C_below NN.out hb); replace CN := Lib.hid (Kd.C_below CN.out hb); replace CM := Lib.hid (Kd.C_below CM.out hb); replace CP := Lib.hid (Kd.C_below CP.out hb); have CQ := Lib.hid hc; clear hc; (try clear y0 y1 y2 y3 z0 z1 z2 z3); obtain ⟨y0, y1, y2, y3⟩ := four S.out.XA; obtain ⟨z0, z1, z2, z3⟩ := four S.out.XB; have O16 := trivial; clear hb)
    | (go_at_call 19; have _o14 := O14; (with_reducible refine (eval_c k 9 0 ⟨#[]⟩ ACP 1 1 [⟨8, 0, ⟨#[]⟩, [⟨b0, b1, b2, lb⟩, ⟨a0, a1, a2, la⟩]⟩] Al _ cl l vp 0 _ CP.out (by decide) S.out.CL hcl.out S.out.G hp.out).mono ?_); rintro e w14 ⟨rfl, hb⟩; replace S := Lib.hid (S.out.step hb); replace NN := Lib.hid (Kd.C_below NN.out hb); replace CN := Lib.hid (Kd.C_below CN.out hb); replace CM := Lib.hid (Kd.C_below CM.out hb); replace CP := Lib.hid (Kd.C_below CP.out hb); (try clear y0 y1 y2 y3 z0 z1 z2 z3); obtain ⟨y0, y1, y2, y3⟩ := four S.out.XA; obtain ⟨z0, z1, z2, z3⟩ := four S.out.XB; have O15 := trivial; clear hb)
    | (go_at_call 25; have _o13 := O13; (with_reducible refine (not_c 8 0 ⟨#[]⟩ ACM 2 2 [⟨b0, b1, b2, lb⟩, ⟨a0, a1, a2, la⟩] _ CM.out (by decide)).mono ?_); rintro e w13 ⟨ACP, rfl, hc, hb⟩; replace S := Lib.hid (S.out.step hb); replace NN := Lib.hid (Kd.C_below NN.out hb); replace CN := Lib.hid (Kd.C_below CN.out hb); replace CM := Lib.hid (Kd.C_below CM.out hb); have CP := Lib.hid hc; clear hc; (try clear y0 y1 y2 y3 z0 z1 z2 z3); obtain ⟨y0, y1, y2, y3⟩ := four S.out.XA; obtain ⟨z0, z1, z2, z3⟩ := four S.out.XB; have O14 := trivial; clear hb)
    | (go_at_call 26; have _o12 := O12; (with_reducible refine (two_c 8 b0 b1 a0 a1 b2 a2 Ab Aa _ _ cb ca lb la _ S.out.CB hcb.out S.out.CA hca.out).mono ?_); rintro e w12 ⟨ACM, rfl, hc, hb⟩; replace S := Lib.hid (S.out.step hb); replace NN := Lib.hid (Kd.C_below NN.out hb); replace CN := Lib.hid (Kd.C_below CN.out hb); have CM := Lib.hid hc; clear hc; (try clear y0 y1 y2 y3 z0 z1 z2 z3); obtain ⟨y0, y1, y2, y3⟩ := four S.out.XA; obtain ⟨z0, z1, z2, z3⟩ := four S.out.XB; have O13 := trivial; clear hb)
    | (go_at_call 19; have _o11 := O11; (with_reducible refine (eval_c k 7 0 ⟨#[]⟩ ACN 2 2 [⟨a0, a1, a2, la⟩, ⟨b0, b1, b2, lb⟩] Al _ cl l vn 0 _ CN.out (by decide) S.out.CL hcl.out S.out.G hn.out).mono ?_); rintro e w11 ⟨rfl, hb⟩; replace S := Lib.hid (S.out.step hb); replace NN := Lib.hid (Kd.C_below NN.out hb); replace CN := Lib.hid (Kd.C_below CN.out hb); (try clear y0 y1 y2 y3 z0 z1 z2 z3); obtain ⟨y0, y1, y2, y3⟩ := four S.out.XA; obtain ⟨z0, z1, z2, z3⟩ := four S.out.XB; have O12 := trivial; clear hb)
    | (go_at_call 26; have _o10 := O10; (with_reducible refine (two_c 7 a0 a1 b0 b1 a2 b2 Aa Ab _ _ ca cb la lb _ S.out.CA hca.out S.out.CB hcb.out).mono ?_); rintro e w10 ⟨ACN, rfl, hc, hb⟩; replace S := Lib.hid (S.out.step hb); replace NN := Lib.hid (Kd.C_below NN.out hb); have CN := Lib.hid hc; clear hc; (try clear y0 y1 y2 y3 z0 z1 z2 z3); obtain ⟨y0, y1, y2, y3⟩ := four S.out.XA; obtain ⟨z0, z1, z2, z3⟩ := four S.out.XB; have O11 := trivial; clear hb)
    | (go_at_call 14; have _o9 := O9; (with_reducible refine (check_c b0 b1 b2 Ab _ cb lb AN _ cN nl fb _ S.out.CB hcb.out NN.out HCN.out S.out.G hcbk.out).mono ?_); rintro e w9 ⟨rfl, hb⟩; replace S := Lib.hid (S.out.step hb); replace NN := Lib.hid (Kd.C_below NN.out hb); (try clear y0 y1 y2 y3 z0 z1 z2 z3); obtain ⟨y0, y1, y2, y3⟩ := four S.out.XA; obtain ⟨z0, z1, z2, z3⟩ := four S.out.XB; have O10 := trivial; clear hb)
    | (go_at_call 14; have _o8 := O8; (with_reducible refine (check_c a0 a1 a2 Aa _ ca la AN _ cN nl fa _ S.out.CA hca.out NN.out HCN.out S.out.G hcak.out).mono ?_); rintro e w8 ⟨rfl, hb⟩; replace S := Lib.hid (S.out.step hb); replace NN := Lib.hid (Kd.C_below NN.out hb); (try clear y0 y1 y2 y3 z0 z1 z2 z3); obtain ⟨y0, y1, y2, y3⟩ := four S.out.XA; obtain ⟨z0, z1, z2, z3⟩ := four S.out.XB; have O9 := trivial; clear hb)
    | (go_at_call 14; have _o7 := O7; (with_reducible refine (check_c a0 a1 a2 Aa _ ca la AN _ cN nl fa _ S.out.CA hca.out NN.out HCN.out S.out.G hcak.out).mono ?_); rintro e w7 ⟨rfl, hb⟩; replace S := Lib.hid (S.out.step hb); replace NN := Lib.hid (Kd.C_below NN.out hb); (try clear y0 y1 y2 y3 z0 z1 z2 z3); obtain ⟨y0, y1, y2, y3⟩ := four S.out.XA; obtain ⟨z0, z1, z2, z3⟩ := four S.out.XB; have O8 := trivial; clear hb)
    | (go_at_call 13; have _o6 := O6; (with_reducible refine (names_c k Al _ cl l nl _ S.out.CL hcl.out hnl.out).mono ?_); rintro e w6 ⟨AN, cN, rfl, hc, hcn, hb⟩; replace S := Lib.hid (S.out.step hb); have NN := Lib.hid hc; have HCN := Lib.hid hcn; clear hc hcn; (try clear y0 y1 y2 y3 z0 z1 z2 z3); obtain ⟨y0, y1, y2, y3⟩ := four S.out.XA; obtain ⟨z0, z1, z2, z3⟩ := four S.out.XB; have O7 := trivial; clear hb)
    | (go_at_call 19; have _o5 := O5; (with_reducible refine (eval_c k b0 b1 b2 Ab _ cb lb Al _ cl l xb 0 _ S.out.CB hcb.out S.out.CL hcl.out S.out.G heb.out).mono ?_); rintro e w5 ⟨rfl, hb⟩; replace S := Lib.hid (S.out.step hb); (try clear y0 y1 y2 y3 z0 z1 z2 z3); obtain ⟨y0, y1, y2, y3⟩ := four S.out.XA; obtain ⟨z0, z1, z2, z3⟩ := four S.out.XB; have O6 := trivial; clear hb)
    | (go_at_call 19; have _o4 := O4; (with_reducible refine (eval_c k a0 a1 a2 Aa _ ca la Al _ cl l xa 0 _ S.out.CA hca.out S.out.CL hcl.out S.out.G hea.out).mono ?_); rintro e w4 ⟨rfl, hb⟩; replace S := Lib.hid (S.out.step hb); (try clear y0 y1 y2 y3 z0 z1 z2 z3); obtain ⟨y0, y1, y2, y3⟩ := four S.out.XA; obtain ⟨z0, z1, z2, z3⟩ := four S.out.XB; have O5 := trivial; clear hb)
    | (go_at_call 11; have _o3 := O3; (with_reducible refine (short_c k Al _ cl l true _ S.out.CL hcl.out hsh.out).mono ?_); rintro e w3 ⟨rfl, hb⟩; replace S := Lib.hid (S.out.step hb); (try clear y0 y1 y2 y3 z0 z1 z2 z3); obtain ⟨y0, y1, y2, y3⟩ := four S.out.XA; obtain ⟨z0, z1, z2, z3⟩ := four S.out.XB; have O4 := trivial; clear hb)
    | (go_at_call 24; have _o2 := O2; (with_reducible refine (count_c k b0 b1 b2 Ab _ cb lb 6 100 rb _ S.out.CB hcb.out hkb.out).mono ?_); rintro e w2 ⟨rfl, hb⟩; replace S := Lib.hid (S.out.step hb); (try clear y0 y1 y2 y3 z0 z1 z2 z3); obtain ⟨y0, y1, y2, y3⟩ := four S.out.XA; obtain ⟨z0, z1, z2, z3⟩ := four S.out.XB; have O3 := trivial; clear hb)
    | (go_at_call 24; have _o1 := O1; rw [← HW0.out]; (with_reducible refine (count_c k a0 a1 a2 Aa _ ca la 6 100 ra _ S.out.CA hca.out hka.out).mono ?_); rintro e w1 ⟨rfl, hb⟩; replace S := Lib.hid (S.out.step hb); (try clear y0 y1 y2 y3 z0 z1 z2 z3); obtain ⟨y0, y1, y2, y3⟩ := four S.out.XA; obtain ⟨z0, z1, z2, z3⟩ := four S.out.XB; have O2 := trivial; clear hb))
  go_ret
  exact ⟨rfl, S.out.B⟩
end Go.Proofs.YthdgofbchfcfcaaDoor.PRu
