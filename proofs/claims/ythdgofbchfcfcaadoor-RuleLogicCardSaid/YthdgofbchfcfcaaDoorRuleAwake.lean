/- What the chapter's examples come to, by the kernel. No condition. The walks of num, name, two and not, which make expressions. No condition. The walk of the chapter's examples. The table's fact is the row's; no other condition. -/
import Derived.Test.YthdgofbchfcfcaaDoorRuleGrade
import Derived.Test.YthdgofbchfcfcaaDoorRuleUsesRow
import Derived.Test.YthdgofbchfcfcaaDoorRuleVisit
import Derived.Laws.Rows
import Derived.Deep.RegionHeld3
set_option linter.unusedVariables false
set_option linter.unusedSimpArgs false
namespace Go.Proofs.YthdgofbchfcfcaaDoor.PRu
open Go.RowKit Go.Proofs.YthdgofbchfcfcaaDoorW.PrintWords Go.Proofs.YthdgofbchfcfcaaDoorW.PrintLast Go.Proofs.YthdgofbchfcfcaaDoorW.PrintMore Go.Sort
def sKn : ByteArray := ⟨#[107, 110, 111, 116, 115]⟩
def sWa : ByteArray := ⟨#[119, 97, 110, 101]⟩
def sWi : ByteArray := ⟨#[119, 105, 100, 116, 104]⟩
def sDe : ByteArray := ⟨#[100, 101, 97, 100]⟩
def nameE (s : ByteArray) : S24 := ⟨2, 0, s, []⟩
def numE (n : Int) : S24 := ⟨1, n, ⟨#[]⟩, []⟩
def twoE (op : Int) (a b : S24) : S24 := ⟨op, 0, ⟨#[]⟩, [a, b]⟩
def fewE : S24 := twoE 8 (nameE sKn) (numE 2)
def fewerE : S24 := twoE 7 (nameE sKn) (numE 2)
def greatE : S24 := twoE 7 (twoE 5 (nameE sWi) (numE 1099511627776)) (numE 0)
def feats : List S40 := [⟨sKn, 2⟩, ⟨sWa, 0⟩, ⟨sWi, 100⟩]
def namesL : List ByteArray := [sKn, sWa, sWi]
def lKn : List UInt8 := [107, 110, 111, 116, 115]
def lWi : List UInt8 := [119, 105, 100, 116, 104]
theorem leD (a b : List UInt8) : decide (a ≤ b) = !(Op.bytesLess b a) := by
  rw [bytesLess_eq]
  by_cases h : b < a
  · rw [decide_eq_true h, decide_eq_false (fun h2 => (List.not_lt.2 h2) h)]; rfl
  · rw [decide_eq_false h, decide_eq_true (List.not_lt.1 h)]; rfl
theorem sortU : sortL [lWi, lKn, lWi] = [lKn, lWi, lWi] := by
  unfold sortL
  have e : (fun x y : List UInt8 => decide (x ≤ y)) = fun x y => !(Op.bytesLess y x) := by funext x y; exact leD x y
  rw [e]
  have c1 : (!(Op.bytesLess lWi lKn)) = true := by decide +kernel
  have c2 : (!(Op.bytesLess lKn lWi)) = false := by decide +kernel
  have c3 : (!(Op.bytesLess lWi lWi)) = true := by decide +kernel
  simp only [List.mergeSort, List.MergeSort.Internal.splitInTwo, List.length_cons, List.length_nil]
  simp [List.mergeSort, List.MergeSort.Internal.splitInTwo, c1, c2, c3]
def orE : S24 := twoE 11 fewE greatE
def andE : S24 := twoE 10 fewE greatE
def waneE : S24 := twoE 6 (nameE sWa) (numE 0)
def rulesL : List S47 := [⟨3, fewerE⟩, ⟨2, waneE⟩, ⟨1, fewE⟩]
def usesE : S24 := twoE 7 (nameE sWi) (twoE 3 (nameE sKn) (nameE sWi))
def deadE : S24 := twoE 8 (nameE sDe) (numE 2)
theorem vE1 : rule_Eval.f 30 8 0 ⟨#[]⟩ fewE.f3 feats = some (1, 0) := by decide +kernel
theorem vE2 : rule_Eval.f 30 7 0 ⟨#[]⟩ fewerE.f3 feats = some (0, 0) := by decide +kernel
theorem vE3 : rule_Eval.f 30 11 0 ⟨#[]⟩ orE.f3 feats = some (1, 0) := by decide +kernel
theorem vE4 : rule_Eval.f 30 10 0 ⟨#[]⟩ andE.f3 feats = some (0, 9) := by decide +kernel
theorem vG : rule_Grade.f 30 rulesL feats = some (2, 1, 0) := by decide +kernel
theorem vU : rule_Uses.f 7 0 ⟨#[]⟩ usesE.f3 = some [sKn, sWi] := by
  unfold rule_Uses.f usesF
  have e : usesN 8 (⟨7, 0, ⟨#[]⟩, usesE.f3⟩ : S24) = [sWi, sKn, sWi] := by decide +kernel
  rw [e, if_pos (by decide +kernel), show toL [sWi, sKn, sWi] = [lWi, lKn, lWi] from rfl, sortU, show Lib.compact [lKn, lWi, lWi] = [lKn, lWi] by decide +kernel]
  rfl
theorem vS : sawmillref43_Same.f 10 [sKn, sWi] [sKn, sWi] = some true := by decide +kernel
theorem vC1 : rule_Check.f 2 0 ⟨#[107, 110, 111, 116, 115]⟩ [] namesL = some 27 := by decide +kernel
theorem vC2 : rule_Check.f 8 0 ⟨#[]⟩ deadE.f3 namesL = some 8 := by decide +kernel
theorem vC3 : rule_Check.f 8 0 ⟨#[]⟩ fewE.f3 namesL = some 0 := by decide +kernel
theorem eval_c (k : Nat) (op nn : Int) (nm : ByteArray) (A : Option Addr) (n0 c0 : Nat) (l0 : List S24) (B : Option Addr) (n1 c1 : Nat) (l1 : List S40) (r1 r2 : Int) (w : World) (h0 : Kd.C k24 w A n0 l0) (hc0 : n0 ≤ c0) (h1 : Kd.C k40 w B n1 l1) (hc1 : n1 ≤ c1) (hG : GlobG w) (h : rule_Eval.f k op nn nm l0 l1 = some (r1, r2)) :
    Calls Tryd.prog 19 #[.agg #[.int .i64 op, .int .i64 nn, .string nm, .slice A n0 c0], .slice B n1 c1] w fun e w' => e = .returned (.tuple #[.int .i64 r1, .int .i64 r2]) ∧ Below w.heap.size w w' := by
  obtain rfl := h0.1
  obtain rfl := h1.1
  exact rule_Eval.calls k op nn nm A c0 l0 B c1 l1 r1 r2 w h0 hc0 h1 hc1 hG h
theorem check_c (op nn : Int) (nm : ByteArray) (A : Option Addr) (n0 c0 : Nat) (l0 : List S24) (B : Option Addr) (n1 c1 : Nat) (l1 : List ByteArray) (r : Int) (w : World) (h0 : Kd.C k24 w A n0 l0) (hc0 : n0 ≤ c0) (h1 : Kd.C Kd.string w B n1 l1) (hc1 : n1 ≤ c1) (hG : GlobG w) (h : rule_Check.f op nn nm l0 l1 = some r) :
    Calls Tryd.prog 14 #[.agg #[.int .i64 op, .int .i64 nn, .string nm, .slice A n0 c0], .slice B n1 c1] w fun e w' => e = .returned (.int .i64 r) ∧ Below w.heap.size w w' := by
  obtain rfl := h0.1
  obtain rfl := h1.1
  exact rule_Check.calls op nn nm A c0 l0 B c1 l1 r w h0 hc0 h1 hc1 hG h
theorem grade_c (k : Nat) (A : Option Addr) (n0 c0 : Nat) (l0 : List S47) (B : Option Addr) (n1 c1 : Nat) (l1 : List S40) (r1 r2 r3 : Int) (w : World) (h0 : Kd.C k47 w A n0 l0) (hc0 : n0 ≤ c0) (h1 : Kd.C k40 w B n1 l1) (hc1 : n1 ≤ c1) (hG : GlobG w) (h : rule_Grade.f k l0 l1 = some (r1, r2, r3)) :
    Calls Tryd.prog 23 #[.slice A n0 c0, .slice B n1 c1] w fun e w' => e = .returned (.tuple #[.int .i64 r1, .int .i64 r2, .int .i64 r3]) ∧ Below w.heap.size w w' := by
  obtain rfl := h0.1
  obtain rfl := h1.1
  exact rule_Grade.calls k A c0 l0 B c1 l1 r1 r2 r3 w h0 hc0 h1 hc1 hG h
theorem uses_c (op nn : Int) (nm : ByteArray) (A : Option Addr) (n0 c0 : Nat) (l0 : List S24) (r : List ByteArray) (w : World) (h0 : Kd.C k24 w A n0 l0) (hc0 : n0 ≤ c0) (h : rule_Uses.f op nn nm l0 = some r) :
    Calls Tryd.prog 17 #[.agg #[.int .i64 op, .int .i64 nn, .string nm, .slice A n0 c0]] w fun e w' => ∃ A' c', e = .returned (.slice A' r.length c') ∧ Kd.C Kd.string w' A' r.length r ∧ r.length ≤ c' ∧ Below w.heap.size w w' := by
  obtain rfl := h0.1
  refine (rule_Uses.calls op nn nm A c0 l0 r w h0 hc0 h).mono ?_
  rintro e w' ⟨v, rfl, hR, hb⟩
  obtain ⟨A', c', rfl, hl, hr⟩ := Kd.R_reads hR
  have h2 := Kd.R_reads' hR
  exact ⟨A', c', rfl, h2.2.2, h2.2.1, hb⟩
theorem same_c (k : Nat) (A : Option Addr) (n0 c0 : Nat) (l0 : List ByteArray) (B : Option Addr) (n1 c1 : Nat) (l1 : List ByteArray) (r : Bool) (w : World) (h0 : Kd.C Kd.string w A n0 l0) (hc0 : n0 ≤ c0) (h1 : Kd.C Kd.string w B n1 l1) (hc1 : n1 ≤ c1) (h : sawmillref43_Same.f k l0 l1 = some r) :
    Calls Tryd.prog 16 #[.slice A n0 c0, .slice B n1 c1] w fun e w' => e = .returned (.bool r) ∧ Below w.heap.size w w' := by
  obtain rfl := h0.1
  obtain rfl := h1.1
  refine (sawmillref43_Same.calls k A c0 l0 B c1 l1 r w h0 hc0 h1 hc1 h).mono ?_
  rintro e w' ⟨he, hd⟩
  obtain ⟨n, rfl⟩ := hd.out
  exact ⟨he, ⟨rfl, rfl, rfl, Nat.le_refl _, fun _ _ => rfl⟩⟩
end Go.Proofs.YthdgofbchfcfcaaDoor.PRu

set_option linter.unusedVariables false
set_option linter.unusedSimpArgs false
namespace Go.Proofs.YthdgofbchfcfcaaDoor.PRu
open Go.RowKit Go.Proofs.YthdgofbchfcfcaaDoorW.PrintWords Go.Proofs.YthdgofbchfcfcaaDoorW.PrintLast Go.Proofs.YthdgofbchfcfcaaDoorW.PrintMore
theorem nilC (w : World) (A : Option Addr) : Kd.C k24 w A 0 [] := ⟨rfl, by decide, fun h => absurd h (Nat.lt_irrefl 0)⟩
def num4 (w : World) (b : Nat) (u0 u1 u2 u3 : Value) : World := (((w.setCell ⟨b, 0, none⟩ u0).setCell ⟨b, 1, none⟩ u1).setCell ⟨b, 2, none⟩ u2).setCell ⟨b, 3, none⟩ u3
theorem num4_blk {w : World} {b : Nat} {v0 v1 v2 v3 : Value} {t : TypeId} (h : w.heap[b]? = some (.cells #[v0, v1, v2, v3] t)) (u0 u1 u2 u3 : Value) : (num4 w b u0 u1 u2 u3).heap[b]? = some (.cells #[u0, u1, u2, u3] t) := by
  unfold num4
  simp [World.setCell, Array.getElem?_modify, h]
theorem num4_far (w : World) (b : Nat) (u0 u1 u2 u3 : Value) (k : Nat) (hk : k ≠ b) : (num4 w b u0 u1 u2 u3).heap[k]? = w.heap[k]? := by
  unfold num4
  iterate 4 rw [Below.heap_setCell _ _ _ _ hk]
theorem num4_below {B : Nat} {a w : World} {b : Nat} (h : Below B a w) (hb : B ≤ b) (u0 u1 u2 u3 : Value) : Below B a (num4 w b u0 u1 u2 u3) := by
  unfold num4
  exact (((h.setCell hb _).setCell hb _).setCell hb _).setCell hb _
theorem num_c (n : Int) (w : World) : Calls Tryd.prog 31 #[.int .i64 n] w fun e w' => e = .returned (.agg #[.int .i64 1, .int .i64 n, .string ⟨#[]⟩, .slice none 0 0]) ∧ Below w.heap.size w w' := by
  have hb := (Below.refl w.heap.size w).alloc (Nat.le_refl _) (.cells #[.int .i64 1, .int .i64 n, .string ⟨#[]⟩, .slice none 0 0] 24)
  have HB := Lib.hid hb
  clear hb
  go_enter Tryd.func31, Tryd.ntmps31
  go_wp2
  refine bodyPost_ret (results_cell_row rfl _ _ w.heap.size 24 #[.int .i64 1, .int .i64 n, .string ⟨#[]⟩, .slice none 0 0] (0, 0) _ rfl (MapKept.heap_alloc w _).1 Tryd.underlying24 rfl (by kernel_rfl)) rfl ?_
  exact ⟨rfl, HB.out⟩
theorem name_c (s : ByteArray) (w : World) : Calls Tryd.prog 30 #[.string s] w fun e w' => e = .returned (.agg #[.int .i64 2, .int .i64 0, .string s, .slice none 0 0]) ∧ Below w.heap.size w w' := by
  have hb := (Below.refl w.heap.size w).alloc (Nat.le_refl _) (.cells #[.int .i64 2, .int .i64 0, .string s, .slice none 0 0] 24)
  have HB := Lib.hid hb
  clear hb
  go_enter Tryd.func30, Tryd.ntmps30
  go_wp2
  refine bodyPost_ret (results_cell_row rfl _ _ w.heap.size 24 #[.int .i64 2, .int .i64 0, .string s, .slice none 0 0] (0, 0) _ rfl (MapKept.heap_alloc w _).1 Tryd.underlying24 rfl (by kernel_rfl)) rfl ?_
  exact ⟨rfl, HB.out⟩
/-- Two expressions in a row. -/
theorem pairC {w : World} {g : Nat} {x0 x1 y0 y1 : Int} {x2 y2 : ByteArray} {A1 A2 : Option Addr} {c1 c2 : Nat} {l1 l2 : List S24} (hb : w.heap[g]? = some (.cells #[.int .i64 x0, .int .i64 x1, .string x2, .slice A1 l1.length c1, .int .i64 y0, .int .i64 y1, .string y2, .slice A2 l2.length c2] 24)) (h1 : Kd.C k24 w A1 l1.length l1) (hc1 : l1.length ≤ c1) (h2 : Kd.C k24 w A2 l2.length l2) (hc2 : l2.length ≤ c2) :
    Kd.C k24 w (some ⟨g, 0, none⟩) 2 [⟨x0, x1, x2, l1⟩, ⟨y0, y1, y2, l2⟩] := by
  refine ⟨rfl, by decide, fun _ => ⟨_, rfl, fun j p hj => ?_⟩⟩
  match j, hj with
  | 0, hj =>
    obtain rfl : _ = p := Option.some.inj hj
    refine ⟨_, rfl, k24_mk w ⟨x0, x1, x2, l1⟩ hc1 h1, fun i u hu => ?_⟩
    match i, hu with
    | 0, hu => obtain rfl : _ = u := Option.some.inj hu; simp [World.cell?, hb, Addr.add]
    | 1, hu => obtain rfl : _ = u := Option.some.inj hu; simp [World.cell?, hb, Addr.add]
    | 2, hu => obtain rfl : _ = u := Option.some.inj hu; simp [World.cell?, hb, Addr.add]
    | 3, hu => obtain rfl : _ = u := Option.some.inj hu; simp [World.cell?, hb, Addr.add]
    | i + 4, hu => simp at hu
  | 1, hj =>
    obtain rfl : _ = p := Option.some.inj hj
    refine ⟨_, rfl, k24_mk w ⟨y0, y1, y2, l2⟩ hc2 h2, fun i u hu => ?_⟩
    match i, hu with
    | 0, hu => obtain rfl : _ = u := Option.some.inj hu; simp [World.cell?, hb, Addr.add, show k24.sz = 4 from rfl]
    | 1, hu => obtain rfl : _ = u := Option.some.inj hu; simp [World.cell?, hb, Addr.add, show k24.sz = 4 from rfl]
    | 2, hu => obtain rfl : _ = u := Option.some.inj hu; simp [World.cell?, hb, Addr.add, show k24.sz = 4 from rfl]
    | 3, hu => obtain rfl : _ = u := Option.some.inj hu; simp [World.cell?, hb, Addr.add, show k24.sz = 4 from rfl]
    | i + 4, hu => simp at hu
  | j + 2, hj => simp at hj
theorem topS (w : World) (o : Obj) (n : Nat) (h : w.heap.size = n) : (w.alloc o).heap[n]? = some o := by rw [← h]; exact (MapKept.heap_alloc w o).1
set_option maxRecDepth 100000 in
theorem two_c (op x0 x1 y0 y1 : Int) (x2 y2 : ByteArray) (A1 A2 : Option Addr) (n1 n2 c1 c2 : Nat) (l1 l2 : List S24) (w : World) (h1 : Kd.C k24 w A1 n1 l1) (hc1 : n1 ≤ c1) (h2 : Kd.C k24 w A2 n2 l2) (hc2 : n2 ≤ c2) :
    Calls Tryd.prog 26 #[.int .i64 op, .agg #[.int .i64 x0, .int .i64 x1, .string x2, .slice A1 n1 c1], .agg #[.int .i64 y0, .int .i64 y1, .string y2, .slice A2 n2 c2]] w fun e w' => ∃ A, e = .returned (.agg #[.int .i64 op, .int .i64 0, .string ⟨#[]⟩, .slice A 2 2]) ∧ Kd.C k24 w' A 2 [⟨x0, x1, x2, l1⟩, ⟨y0, y1, y2, l2⟩] ∧ Below w.heap.size w w' := by
  obtain rfl := h1.1
  obtain rfl := h2.1
  obtain ⟨W3, hW3⟩ : ∃ W3, W3 = (((w.alloc (.cells #[.int .i64 x0, .int .i64 x1, .string x2, .slice A1 l1.length c1] 24)).alloc (.cells #[.int .i64 y0, .int .i64 y1, .string y2, .slice A2 l2.length c2] 24)).alloc (.cells #[.int .i64 op, .int .i64 0, .string ⟨#[]⟩, .slice (some ⟨w.heap.size + 1 + 1 + 1, 0, none⟩) 2 2] 24)).alloc (.cells #[.int .i64 x0, .int .i64 x1, .string x2, .slice A1 l1.length c1, .int .i64 y0, .int .i64 y1, .string y2, .slice A2 l2.length c2] 24) := ⟨_, rfl⟩
  have hbel : Below w.heap.size w W3 := hW3 ▸ (((((Below.refl _ _).alloc (Nat.le_refl _) _).alloc (by simp) _).alloc (by simp; omega) _).alloc (by simp; omega) _)
  have HB := Lib.hid hbel
  have HR := Lib.hid (show W3.heap[w.heap.size + 1 + 1]? = some (.cells #[.int .i64 op, .int .i64 0, .string ⟨#[]⟩, .slice (some ⟨w.heap.size + 1 + 1 + 1, 0, none⟩) 2 2] 24) by
    rw [hW3]
    have h3 := (MapKept.heap_alloc ((w.alloc (.cells #[.int .i64 x0, .int .i64 x1, .string x2, .slice A1 l1.length c1] 24)).alloc (.cells #[.int .i64 y0, .int .i64 y1, .string y2, .slice A2 l2.length c2] 24)) (.cells #[.int .i64 op, .int .i64 0, .string ⟨#[]⟩, .slice (some ⟨w.heap.size + 1 + 1 + 1, 0, none⟩) 2 2] 24)).1
    rw [show ((w.alloc (.cells #[.int .i64 x0, .int .i64 x1, .string x2, .slice A1 l1.length c1] 24)).alloc (.cells #[.int .i64 y0, .int .i64 y1, .string y2, .slice A2 l2.length c2] 24)).heap.size = w.heap.size + 1 + 1 by simp] at h3
    exact (((Below.refl _ _).alloc (Nat.le_refl _) _).block _ (Array.getElem?_eq_some_iff.1 h3).1).trans h3)
  have HS := Lib.hid (show W3.heap[w.heap.size + 1 + 1 + 1]? = some (.cells #[.int .i64 x0, .int .i64 x1, .string x2, .slice A1 l1.length c1, .int .i64 y0, .int .i64 y1, .string y2, .slice A2 l2.length c2] 24) by
    rw [hW3]
    exact topS _ _ _ (by simp))
  have H1 := Lib.hid (Kd.C_below h1 hbel)
  have H2 := Lib.hid (Kd.C_below h2 hbel)
  have HW3 := Lib.hid hW3
  clear h1 h2 hW3 hbel
  go_enter Tryd.func26, Tryd.ntmps26
  go_wp2
  rw [← HW3.out]
  refine bodyPost_ret (results_cell_row rfl _ _ (w.heap.size + 1 + 1) 24 #[.int .i64 op, .int .i64 0, .string ⟨#[]⟩, .slice (some ⟨w.heap.size + 1 + 1 + 1, 0, none⟩) 2 2] (0, 0) _ rfl HR.out Tryd.underlying24 rfl (by kernel_rfl)) rfl ?_
  exact ⟨_, rfl, pairC HS.out H1.out hc1 H2.out hc2, HB.out⟩
end Go.Proofs.YthdgofbchfcfcaaDoor.PRu

set_option linter.unusedVariables false
set_option linter.unusedSimpArgs false
namespace Go.Proofs.YthdgofbchfcfcaaDoor.PRu
open Go.RowKit Go.Proofs.YthdgofbchfcfcaaDoorW.PrintWords Go.Proofs.YthdgofbchfcfcaaDoorW.PrintLast Go.Proofs.YthdgofbchfcfcaaDoorW.PrintMore
theorem featsC (w : World) (b : Nat) (h : w.heap[b]? = some (.cells #[.string ⟨#[107, 110, 111, 116, 115]⟩, .int .i64 2, .string ⟨#[119, 97, 110, 101]⟩, .int .i64 0, .string ⟨#[119, 105, 100, 116, 104]⟩, .int .i64 100] 40)) : Kd.C k40 w (some ⟨b, 0, none⟩) 3 feats := by
  refine ⟨rfl, by decide, fun _ => ⟨_, rfl, fun j p hj => ?_⟩⟩
  match j, hj with
  | 0, hj => obtain rfl : _ = p := Option.some.inj hj; exact ⟨_, rfl, k40_mk w _, fun i u hu => by match i, hu with | 0, hu => (obtain rfl : _ = u := Option.some.inj hu; simp [World.cell?, h, Addr.add, sKn]) | 1, hu => (obtain rfl : _ = u := Option.some.inj hu; simp [World.cell?, h, Addr.add]) | i + 2, hu => simp at hu⟩
  | 1, hj => obtain rfl : _ = p := Option.some.inj hj; exact ⟨_, rfl, k40_mk w _, fun i u hu => by match i, hu with | 0, hu => (obtain rfl : _ = u := Option.some.inj hu; simp [World.cell?, h, Addr.add, sWa, show k40.sz = 2 from rfl]) | 1, hu => (obtain rfl : _ = u := Option.some.inj hu; simp [World.cell?, h, Addr.add, show k40.sz = 2 from rfl]) | i + 2, hu => simp at hu⟩
  | 2, hj => obtain rfl : _ = p := Option.some.inj hj; exact ⟨_, rfl, k40_mk w _, fun i u hu => by match i, hu with | 0, hu => (obtain rfl : _ = u := Option.some.inj hu; simp [World.cell?, h, Addr.add, sWi, show k40.sz = 2 from rfl]) | 1, hu => (obtain rfl : _ = u := Option.some.inj hu; simp [World.cell?, h, Addr.add, show k40.sz = 2 from rfl]) | i + 2, hu => simp at hu⟩
  | j + 3, hj => simp [feats] at hj
theorem addJ (b j : Nat) : (⟨b, 0, none⟩ : Addr).add j = ⟨b, j, none⟩ := by cases j <;> simp [Addr.add]
theorem strsC (w : World) (b : Nat) (l : List ByteArray) (n : Nat) (hn : l.length = n) (hm : n ≤ 100) (h : w.heap[b]? = some (.cells (l.map Value.string).toArray 9)) : Kd.C Kd.string w (some ⟨b, 0, none⟩) n l := by
  refine ⟨hn, by omega, fun _ => ⟨_, rfl, fun j p hj => ⟨[.string p], rfl, rfl, fun i u hu => ?_⟩⟩⟩
  match i, hu with
  | 0, hu =>
    obtain rfl : _ = u := Option.some.inj hu
    rw [show j * (Kd.string).sz + 0 = j from Nat.mul_one j, addJ]
    simp [World.cell?, h, hj]
  | i + 1, hu => simp at hu
theorem rulesC {w : World} {b : Nat} {A4 A0 A3 : Option Addr} (h : w.heap[b]? = some (.cells #[.int .i64 3, .int .i64 7, .int .i64 0, .string ⟨#[]⟩, .slice A4 2 2, .int .i64 2, .int .i64 6, .int .i64 0, .string ⟨#[]⟩, .slice A0 2 2, .int .i64 1, .int .i64 8, .int .i64 0, .string ⟨#[]⟩, .slice A3 2 2] 47)) (h4 : Kd.C k24 w A4 2 fewerE.f3) (h0 : Kd.C k24 w A0 2 waneE.f3) (h3 : Kd.C k24 w A3 2 fewE.f3) : Kd.C k47 w (some ⟨b, 0, none⟩) 3 rulesL := by
  refine ⟨rfl, by decide, fun _ => ⟨_, rfl, fun j p hj => ?_⟩⟩
  match j, hj with
  | 0, hj => obtain rfl : _ = p := Option.some.inj hj; exact ⟨_, rfl, k47_mk w ⟨3, fewerE⟩ (c4 := 2) (by decide) h4, fun i u hu => by match i, hu with | 0, hu | 1, hu | 2, hu | 3, hu | 4, hu => (obtain rfl : _ = u := Option.some.inj hu; simp [World.cell?, h, Addr.add, fewerE, twoE]) | i + 5, hu => simp at hu⟩
  | 1, hj => obtain rfl : _ = p := Option.some.inj hj; exact ⟨_, rfl, k47_mk w ⟨2, waneE⟩ (c4 := 2) (by decide) h0, fun i u hu => by match i, hu with | 0, hu | 1, hu | 2, hu | 3, hu | 4, hu => (obtain rfl : _ = u := Option.some.inj hu; simp [World.cell?, h, Addr.add, waneE, twoE, show k47.sz = 5 from rfl]) | i + 5, hu => simp at hu⟩
  | 2, hj => obtain rfl : _ = p := Option.some.inj hj; exact ⟨_, rfl, k47_mk w ⟨1, fewE⟩ (c4 := 2) (by decide) h3, fun i u hu => by match i, hu with | 0, hu | 1, hu | 2, hu | 3, hu | 4, hu => (obtain rfl : _ = u := Option.some.inj hu; simp [World.cell?, h, Addr.add, fewE, twoE, show k47.sz = 5 from rfl]) | i + 5, hu => simp at hu⟩
  | j + 3, hj => simp [rulesL] at hj
theorem blkK {w w' : World} {b : Nat} {o : Obj} (hb : Below w.heap.size w w') (h : w.heap[b]? = some o) : w'.heap[b]? = some o := (hb.block b (Array.getElem?_eq_some_iff.1 h).1).trans h
theorem blkO {w : World} {b : Nat} {o : Obj} (x : Obj) (h : w.heap[b]? = some o) : (w.alloc x).heap[b]? = some o := blkK ((Below.refl _ _).alloc (Nat.le_refl _) x) h
theorem keep9 {W w w' : World} {a0 a1 a2 a3 a4 a5 a6 a7 : Addr} {u0 u1 u2 u3 u4 u5 u6 u7 : Value} (h : w.cell? a0 = some u0 ∧ w.cell? a1 = some u1 ∧ w.cell? a2 = some u2 ∧ w.cell? a3 = some u3 ∧ w.cell? a4 = some u4 ∧ w.cell? a5 = some u5 ∧ w.cell? a6 = some u6 ∧ w.cell? a7 = some u7 ∧ Hid (Below W.heap.size W w)) (hb : Below w.heap.size w w') : w'.cell? a0 = some u0 ∧ w'.cell? a1 = some u1 ∧ w'.cell? a2 = some u2 ∧ w'.cell? a3 = some u3 ∧ w'.cell? a4 = some u4 ∧ w'.cell? a5 = some u5 ∧ w'.cell? a6 = some u6 ∧ w'.cell? a7 = some u7 ∧ Hid (Below W.heap.size W w') := by
  obtain ⟨h0, h1, h2, h3, h4, h5, h6, h7, h8⟩ := h
  have c : ∀ {a : Addr} {u : Value}, w.cell? a = some u → w'.cell? a = some u := fun h => (hb.cell (World.block_lt_of_cell? w _ h)).trans h
  exact ⟨c h0, c h1, c h2, c h3, c h4, c h5, c h6, c h7, Lib.hid (h8.out.trans (hb.mono h8.out.size))⟩
theorem from9 {W w : World} {a0 a1 a2 a3 a4 a5 a6 a7 : Addr} {u0 u1 u2 u3 u4 u5 u6 u7 : Value} (h : w.cell? a0 = some u0 ∧ w.cell? a1 = some u1 ∧ w.cell? a2 = some u2 ∧ w.cell? a3 = some u3 ∧ w.cell? a4 = some u4 ∧ w.cell? a5 = some u5 ∧ w.cell? a6 = some u6 ∧ w.cell? a7 = some u7 ∧ Hid (Below W.heap.size W w)) : Below W.heap.size W w := h.2.2.2.2.2.2.2.2.out
theorem bdr9 {B : Nat} {a w : World} (h : Below B a w) : Below B a w.drew := ⟨h.os, h.tape, h.output, h.size, h.block⟩
def sawmilllaw43_awake.f : Option Bool := some true
set_option maxRecDepth 100000 in
set_option maxHeartbeats 4000000 in
theorem awake_walk (w : World) (hG : GlobG w) : Calls Tryd.prog 12 #[] w fun e w' => e = .returned (.bool true) ∧ Below w.heap.size w w' := by
  obtain ⟨W2, hW2⟩ : ∃ W2, W2 = (w.alloc (.cells #[.string ⟨#[107, 110, 111, 116, 115]⟩, .int .i64 2, .string ⟨#[119, 97, 110, 101]⟩, .int .i64 0, .string ⟨#[119, 105, 100, 116, 104]⟩, .int .i64 100] 40)).alloc (.cells #[.string ⟨#[107, 110, 111, 116, 115]⟩, .string ⟨#[119, 97, 110, 101]⟩, .string ⟨#[119, 105, 100, 116, 104]⟩] 9) := ⟨_, rfl⟩
  have hbel : Below w.heap.size w W2 := hW2 ▸ (((Below.refl _ _).alloc (Nat.le_refl _) _).alloc (by simp) _)
  have HB := Lib.hid hbel
  have GG := Lib.hid (hG.below hbel)
  have FF := Lib.hid (featsC W2 w.heap.size (by rw [hW2]; exact blkA' _ _ _))
  have NN := Lib.hid (strsC W2 (w.heap.size + 1) namesL 3 rfl (by decide) (by rw [hW2]; exact blkB' _ _ _))
  have BB := Lib.hid (Below.refl W2.heap.size W2)
  have HW2 := Lib.hid hW2
  have O1 := trivial
  clear hW2 hbel hG
  go_enter Tryd.func12, Tryd.ntmps12
  go_wp2_with (first
    | (go_at_call 19; have _o17 := O17; (with_reducible refine (eval_c 30 10 0 ⟨#[]⟩ _ 2 2 andE.f3 _ 3 3 feats _ _ _ CA.out (by decide) FF.out (by decide) GG.out vE4).mono ?_); rintro e w17 ⟨rfl, hb⟩; replace GG := Lib.hid (GG.out.below hb); replace FF := Lib.hid (Kd.C_below FF.out hb); replace NN := Lib.hid (Kd.C_below NN.out hb); replace BB := Lib.hid (BB.out.trans (hb.mono BB.out.size)); replace CF := Lib.hid (Kd.C_below CF.out hb); replace CG := Lib.hid (Kd.C_below CG.out hb); replace X3 := Lib.hid (blkK hb X3.out); replace X4 := Lib.hid (blkK hb X4.out); replace CM := Lib.hid (Kd.C_below CM.out hb); replace CH := Lib.hid (Kd.C_below CH.out hb); replace X5 := Lib.hid (blkK hb X5.out); replace CO := Lib.hid (Kd.C_below CO.out hb); replace CA := Lib.hid (Kd.C_below CA.out hb); have O18 := trivial; obtain ⟨y30, y31, y32, y33⟩ := four X3.out; obtain ⟨y40, y41, y42, y43⟩ := four X4.out; (try clear hb))
    | (go_at_call 26; have _o16 := O16; (with_reducible refine (two_c 10 8 0 7 0 ⟨#[]⟩ ⟨#[]⟩ ACF ACH 2 2 2 2 _ _ _ CF.out (by decide) CH.out (by decide)).mono ?_); rintro e w16 ⟨ACA, rfl, hc, hb⟩; replace GG := Lib.hid (GG.out.below hb); replace FF := Lib.hid (Kd.C_below FF.out hb); replace NN := Lib.hid (Kd.C_below NN.out hb); replace BB := Lib.hid (BB.out.trans (hb.mono BB.out.size)); replace CF := Lib.hid (Kd.C_below CF.out hb); replace CG := Lib.hid (Kd.C_below CG.out hb); replace X3 := Lib.hid (blkK hb X3.out); replace X4 := Lib.hid (blkK hb X4.out); replace CM := Lib.hid (Kd.C_below CM.out hb); replace CH := Lib.hid (Kd.C_below CH.out hb); replace X5 := Lib.hid (blkK hb X5.out); replace CO := Lib.hid (Kd.C_below CO.out hb); have O17 := trivial; have CA := Lib.hid hc; clear hc; (try clear y30 y31 y32 y33 y50 y51 y52 y53); (try clear hb))
    | (go_at_call 19; have _o15 := O15; (with_reducible refine (eval_c 30 11 0 ⟨#[]⟩ _ 2 2 orE.f3 _ 3 3 feats _ _ _ CO.out (by decide) FF.out (by decide) GG.out vE3).mono ?_); rintro e w15 ⟨rfl, hb⟩; replace GG := Lib.hid (GG.out.below hb); replace FF := Lib.hid (Kd.C_below FF.out hb); replace NN := Lib.hid (Kd.C_below NN.out hb); replace BB := Lib.hid (BB.out.trans (hb.mono BB.out.size)); replace CF := Lib.hid (Kd.C_below CF.out hb); replace CG := Lib.hid (Kd.C_below CG.out hb); replace X3 := Lib.hid (blkK hb X3.out); replace X4 := Lib.hid (blkK hb X4.out); replace CM := Lib.hid (Kd.C_below CM.out hb); replace CH := Lib.hid (Kd.C_below CH.out hb); replace X5 := Lib.hid (blkK hb X5.out); replace CO := Lib.hid (Kd.C_below CO.out hb); have O16 := trivial; obtain ⟨y30, y31, y32, y33⟩ := four X3.out; obtain ⟨y50, y51, y52, y53⟩ := four X5.out; (try clear hb))
    | (go_at_call 26; have _o14 := O14; (with_reducible refine (two_c 11 8 0 7 0 ⟨#[]⟩ ⟨#[]⟩ ACF ACH 2 2 2 2 _ _ _ CF.out (by decide) CH.out (by decide)).mono ?_); rintro e w14 ⟨ACO, rfl, hc, hb⟩; replace GG := Lib.hid (GG.out.below hb); replace FF := Lib.hid (Kd.C_below FF.out hb); replace NN := Lib.hid (Kd.C_below NN.out hb); replace BB := Lib.hid (BB.out.trans (hb.mono BB.out.size)); replace CF := Lib.hid (Kd.C_below CF.out hb); replace CG := Lib.hid (Kd.C_below CG.out hb); replace X3 := Lib.hid (blkK hb X3.out); replace X4 := Lib.hid (blkK hb X4.out); replace CM := Lib.hid (Kd.C_below CM.out hb); replace CH := Lib.hid (Kd.C_below CH.out hb); replace X5 := Lib.hid (blkK hb X5.out); have O15 := trivial; have CO := Lib.hid hc; clear hc; (try clear y30 y31 y32 y33 y50 y51 y52 y53); (try clear hb))
    | (go_at_call 19; have _o13 := O13; (with_reducible refine (eval_c 30 7 0 ⟨#[]⟩ _ 2 2 fewerE.f3 _ 3 3 feats _ _ _ CG.out (by decide) FF.out (by decide) GG.out vE2).mono ?_); rintro e w13 ⟨rfl, hb⟩; replace GG := Lib.hid (GG.out.below hb); replace FF := Lib.hid (Kd.C_below FF.out hb); replace NN := Lib.hid (Kd.C_below NN.out hb); replace BB := Lib.hid (BB.out.trans (hb.mono BB.out.size)); replace CF := Lib.hid (Kd.C_below CF.out hb); replace CG := Lib.hid (Kd.C_below CG.out hb); replace X3 := Lib.hid (blkK hb X3.out); replace X4 := Lib.hid (blkK hb X4.out); replace CM := Lib.hid (Kd.C_below CM.out hb); replace CH := Lib.hid (Kd.C_below CH.out hb); replace X5 := Lib.hid (blkK hb X5.out); have O14 := trivial; (try clear y40 y41 y42 y43); obtain ⟨y30, y31, y32, y33⟩ := four X3.out; obtain ⟨y50, y51, y52, y53⟩ := four X5.out; (try clear hb))
    | (go_at_call 19; have _o12 := O12; obtain ⟨wC, hwC⟩ : ∃ wC, wC = w11.alloc (.cells #[.int .i64 7, .int .i64 0, .string ⟨#[]⟩, .slice ACH 2 2] 24) := ⟨_, rfl⟩; rw [← hwC]; have hbC : Below w11.heap.size w11 wC := hwC ▸ ((Below.refl _ _).alloc (Nat.le_refl _) _); replace GG := Lib.hid (GG.out.below hbC); replace FF := Lib.hid (Kd.C_below FF.out hbC); replace NN := Lib.hid (Kd.C_below NN.out hbC); replace BB := Lib.hid (BB.out.trans (hbC.mono BB.out.size)); replace CF := Lib.hid (Kd.C_below CF.out hbC); replace CG := Lib.hid (Kd.C_below CG.out hbC); replace X3 := Lib.hid (blkK hbC X3.out); replace X4 := Lib.hid (blkK hbC X4.out); replace CM := Lib.hid (Kd.C_below CM.out hbC); replace CH := Lib.hid (Kd.C_below CH.out hbC); have X5 := Lib.hid (show wC.heap[w11.heap.size]? = some (.cells #[.int .i64 7, .int .i64 0, .string ⟨#[]⟩, .slice ACH 2 2] 24) from hwC ▸ (MapKept.heap_alloc _ _).1); clear hwC hbC; (with_reducible refine (eval_c 30 8 0 ⟨#[]⟩ _ 2 2 fewE.f3 _ 3 3 feats _ _ _ CF.out (by decide) FF.out (by decide) GG.out vE1).mono ?_); rintro e w12 ⟨rfl, hb⟩; replace GG := Lib.hid (GG.out.below hb); replace FF := Lib.hid (Kd.C_below FF.out hb); replace NN := Lib.hid (Kd.C_below NN.out hb); replace BB := Lib.hid (BB.out.trans (hb.mono BB.out.size)); replace CF := Lib.hid (Kd.C_below CF.out hb); replace CG := Lib.hid (Kd.C_below CG.out hb); replace X3 := Lib.hid (blkK hb X3.out); replace X4 := Lib.hid (blkK hb X4.out); replace CM := Lib.hid (Kd.C_below CM.out hb); replace CH := Lib.hid (Kd.C_below CH.out hb); replace X5 := Lib.hid (blkK hb X5.out); have O13 := trivial; (try clear y30 y31 y32 y33); obtain ⟨y40, y41, y42, y43⟩ := four X4.out; (try clear hb))
    | (go_at_call 26; have _o11 := O11; (with_reducible refine (two_c 7 5 0 1 0 ⟨#[]⟩ ⟨#[]⟩ ACM none 2 0 2 0 _ [] _ CM.out (by decide) (nilC _ none) (by decide)).mono ?_); rintro e w11 ⟨ACH, rfl, hc, hb⟩; replace GG := Lib.hid (GG.out.below hb); replace FF := Lib.hid (Kd.C_below FF.out hb); replace NN := Lib.hid (Kd.C_below NN.out hb); replace BB := Lib.hid (BB.out.trans (hb.mono BB.out.size)); replace CF := Lib.hid (Kd.C_below CF.out hb); replace CG := Lib.hid (Kd.C_below CG.out hb); replace X3 := Lib.hid (blkK hb X3.out); replace X4 := Lib.hid (blkK hb X4.out); replace CM := Lib.hid (Kd.C_below CM.out hb); have O12 := trivial; have CH := Lib.hid hc; clear hc; obtain ⟨y30, y31, y32, y33⟩ := four (blkO (.cells #[.int .i64 7, .int .i64 0, .string ⟨#[]⟩, .slice ACH 2 2] 24) X3.out); (try clear hb))
    | (go_at_call 31; have _o10 := O10; (with_reducible refine (num_c 0 _).mono ?_); rintro e w10 ⟨rfl, hb⟩; replace GG := Lib.hid (GG.out.below hb); replace FF := Lib.hid (Kd.C_below FF.out hb); replace NN := Lib.hid (Kd.C_below NN.out hb); replace BB := Lib.hid (BB.out.trans (hb.mono BB.out.size)); replace CF := Lib.hid (Kd.C_below CF.out hb); replace CG := Lib.hid (Kd.C_below CG.out hb); replace X3 := Lib.hid (blkK hb X3.out); replace X4 := Lib.hid (blkK hb X4.out); replace CM := Lib.hid (Kd.C_below CM.out hb); have O11 := trivial; (try clear hb))
    | (go_at_call 26; have _o9 := O9; (with_reducible refine (two_c 5 2 0 1 1099511627776 ⟨#[119, 105, 100, 116, 104]⟩ ⟨#[]⟩ none none 0 0 0 0 [] [] _ (nilC _ none) (by decide) (nilC _ none) (by decide)).mono ?_); rintro e w9 ⟨ACM, rfl, hc, hb⟩; replace GG := Lib.hid (GG.out.below hb); replace FF := Lib.hid (Kd.C_below FF.out hb); replace NN := Lib.hid (Kd.C_below NN.out hb); replace BB := Lib.hid (BB.out.trans (hb.mono BB.out.size)); replace CF := Lib.hid (Kd.C_below CF.out hb); replace CG := Lib.hid (Kd.C_below CG.out hb); replace X3 := Lib.hid (blkK hb X3.out); replace X4 := Lib.hid (blkK hb X4.out); have O10 := trivial; have CM := Lib.hid hc; clear hc; (try clear hb))
    | (go_at_call 31; have _o8 := O8; (with_reducible refine (num_c 1099511627776 _).mono ?_); rintro e w8 ⟨rfl, hb⟩; replace GG := Lib.hid (GG.out.below hb); replace FF := Lib.hid (Kd.C_below FF.out hb); replace NN := Lib.hid (Kd.C_below NN.out hb); replace BB := Lib.hid (BB.out.trans (hb.mono BB.out.size)); replace CF := Lib.hid (Kd.C_below CF.out hb); replace CG := Lib.hid (Kd.C_below CG.out hb); replace X3 := Lib.hid (blkK hb X3.out); replace X4 := Lib.hid (blkK hb X4.out); have O9 := trivial; (try clear hb))
    | (go_at_call 30; have _o7 := O7; obtain ⟨wB, hwB⟩ : ∃ wB, wB = (w6.alloc (.cells #[.int .i64 8, .int .i64 0, .string ⟨#[]⟩, .slice ACF 2 2] 24)).alloc (.cells #[.int .i64 7, .int .i64 0, .string ⟨#[]⟩, .slice ACG 2 2] 24) := ⟨_, rfl⟩; rw [← hwB]; have hbB : Below w6.heap.size w6 wB := hwB ▸ (((Below.refl _ _).alloc (Nat.le_refl _) _).alloc (by simp) _); replace GG := Lib.hid (GG.out.below hbB); replace FF := Lib.hid (Kd.C_below FF.out hbB); replace NN := Lib.hid (Kd.C_below NN.out hbB); replace BB := Lib.hid (BB.out.trans (hbB.mono BB.out.size)); replace CF := Lib.hid (Kd.C_below CF.out hbB); replace CG := Lib.hid (Kd.C_below CG.out hbB); have X3 := Lib.hid (show wB.heap[w6.heap.size]? = some (.cells #[.int .i64 8, .int .i64 0, .string ⟨#[]⟩, .slice ACF 2 2] 24) from hwB ▸ blkA' _ _ _); have X4 := Lib.hid (show wB.heap[w6.heap.size + 1]? = some (.cells #[.int .i64 7, .int .i64 0, .string ⟨#[]⟩, .slice ACG 2 2] 24) from hwB ▸ blkB' _ _ _); clear hwB hbB; (with_reducible refine (name_c ⟨#[119, 105, 100, 116, 104]⟩ _).mono ?_); rintro e w7 ⟨rfl, hb⟩; replace GG := Lib.hid (GG.out.below hb); replace FF := Lib.hid (Kd.C_below FF.out hb); replace NN := Lib.hid (Kd.C_below NN.out hb); replace BB := Lib.hid (BB.out.trans (hb.mono BB.out.size)); replace CF := Lib.hid (Kd.C_below CF.out hb); replace CG := Lib.hid (Kd.C_below CG.out hb); replace X3 := Lib.hid (blkK hb X3.out); replace X4 := Lib.hid (blkK hb X4.out); have O8 := trivial; (try clear hb))
    | (go_at_call 26; have _o6 := O6; (with_reducible refine (two_c 7 2 0 1 2 ⟨#[107, 110, 111, 116, 115]⟩ ⟨#[]⟩ none none 0 0 0 0 [] [] _ (nilC _ none) (by decide) (nilC _ none) (by decide)).mono ?_); rintro e w6 ⟨ACG, rfl, hc, hb⟩; replace GG := Lib.hid (GG.out.below hb); replace FF := Lib.hid (Kd.C_below FF.out hb); replace NN := Lib.hid (Kd.C_below NN.out hb); replace BB := Lib.hid (BB.out.trans (hb.mono BB.out.size)); replace CF := Lib.hid (Kd.C_below CF.out hb); have O7 := trivial; have CG := Lib.hid hc; clear hc; (try clear hb))
    | (go_at_call 31; have _o5 := O5; (with_reducible refine (num_c 2 _).mono ?_); rintro e w5 ⟨rfl, hb⟩; replace GG := Lib.hid (GG.out.below hb); replace FF := Lib.hid (Kd.C_below FF.out hb); replace NN := Lib.hid (Kd.C_below NN.out hb); replace BB := Lib.hid (BB.out.trans (hb.mono BB.out.size)); replace CF := Lib.hid (Kd.C_below CF.out hb); have O6 := trivial; (try clear hb))
    | (go_at_call 30; have _o4 := O4; (with_reducible refine (name_c ⟨#[107, 110, 111, 116, 115]⟩ _).mono ?_); rintro e w4 ⟨rfl, hb⟩; replace GG := Lib.hid (GG.out.below hb); replace FF := Lib.hid (Kd.C_below FF.out hb); replace NN := Lib.hid (Kd.C_below NN.out hb); replace BB := Lib.hid (BB.out.trans (hb.mono BB.out.size)); replace CF := Lib.hid (Kd.C_below CF.out hb); have O5 := trivial; (try clear hb))
    | (go_at_call 26; have _o3 := O3; (with_reducible refine (two_c 8 2 0 1 2 ⟨#[107, 110, 111, 116, 115]⟩ ⟨#[]⟩ none none 0 0 0 0 [] [] _ (nilC _ none) (by decide) (nilC _ none) (by decide)).mono ?_); rintro e w3 ⟨ACF, rfl, hc, hb⟩; replace GG := Lib.hid (GG.out.below hb); replace FF := Lib.hid (Kd.C_below FF.out hb); replace NN := Lib.hid (Kd.C_below NN.out hb); replace BB := Lib.hid (BB.out.trans (hb.mono BB.out.size)); have O4 := trivial; have CF := Lib.hid hc; clear hc; (try clear hb))
    | (go_at_call 31; have _o2 := O2; (with_reducible refine (num_c 2 _).mono ?_); rintro e w2 ⟨rfl, hb⟩; replace GG := Lib.hid (GG.out.below hb); replace FF := Lib.hid (Kd.C_below FF.out hb); replace NN := Lib.hid (Kd.C_below NN.out hb); replace BB := Lib.hid (BB.out.trans (hb.mono BB.out.size)); have O3 := trivial; (try clear hb))
    | (go_at_call 30; have _o1 := O1; rw [← HW2.out]; (with_reducible refine (name_c ⟨#[107, 110, 111, 116, 115]⟩ _).mono ?_); rintro e w1 ⟨rfl, hb⟩; replace GG := Lib.hid (GG.out.below hb); replace FF := Lib.hid (Kd.C_below FF.out hb); replace NN := Lib.hid (Kd.C_below NN.out hb); replace BB := Lib.hid (BB.out.trans (hb.mono BB.out.size)); have O2 := trivial; (try clear hb)))
  go_region_held3 (fun w' => w'.cell? ⟨w6.heap.size + 1, 0, none⟩ = some (.int .i64 7) ∧ w'.cell? ⟨w6.heap.size + 1, 1, none⟩ = some (.int .i64 0) ∧ w'.cell? ⟨w6.heap.size + 1, 2, none⟩ = some (.string ⟨#[]⟩) ∧ w'.cell? ⟨w6.heap.size + 1, 3, none⟩ = some (.slice ACG 2 2) ∧ w'.cell? ⟨w6.heap.size, 0, none⟩ = some (.int .i64 8) ∧ w'.cell? ⟨w6.heap.size, 1, none⟩ = some (.int .i64 0) ∧ w'.cell? ⟨w6.heap.size, 2, none⟩ = some (.string ⟨#[]⟩) ∧ w'.cell? ⟨w6.heap.size, 3, none⟩ = some (.slice ACF 2 2) ∧ Hid (Below w17.heap.size w17 w')) (first | (with_reducible assumption) | (exact ⟨y40, y41, y42, y43, y30, y31, y32, y33, Lib.hid (bdr9 (Below.refl _ _))⟩) | (with_reducible exact keep9 (W := w17) (a0 := ⟨w6.heap.size + 1, 0, none⟩) (a1 := ⟨w6.heap.size + 1, 1, none⟩) (a2 := ⟨w6.heap.size + 1, 2, none⟩) (a3 := ⟨w6.heap.size + 1, 3, none⟩) (a4 := ⟨w6.heap.size, 0, none⟩) (a5 := ⟨w6.heap.size, 1, none⟩) (a6 := ⟨w6.heap.size, 2, none⟩) (a7 := ⟨w6.heap.size, 3, none⟩) (u0 := .int .i64 7) (u1 := .int .i64 0) (u2 := .string ⟨#[]⟩) (u3 := .slice ACG 2 2) (u4 := .int .i64 8) (u5 := .int .i64 0) (u6 := .string ⟨#[]⟩) (u7 := .slice ACF 2 2) hnewt ((Below.refl wt.heap.size wt).alloc (Nat.le_refl _) _)))
    (first
      | (go_at_call 30; (with_reducible refine (name_c ⟨#[119, 97, 110, 101]⟩ _).mono ?_); rintro e wq ⟨rfl, hb⟩; have hnew := keep9 (W := w17) (a0 := ⟨w6.heap.size + 1, 0, none⟩) (a1 := ⟨w6.heap.size + 1, 1, none⟩) (a2 := ⟨w6.heap.size + 1, 2, none⟩) (a3 := ⟨w6.heap.size + 1, 3, none⟩) (a4 := ⟨w6.heap.size, 0, none⟩) (a5 := ⟨w6.heap.size, 1, none⟩) (a6 := ⟨w6.heap.size, 2, none⟩) (a7 := ⟨w6.heap.size, 3, none⟩) (u0 := .int .i64 7) (u1 := .int .i64 0) (u2 := .string ⟨#[]⟩) (u3 := .slice ACG 2 2) (u4 := .int .i64 8) (u5 := .int .i64 0) (u6 := .string ⟨#[]⟩) (u7 := .slice ACF 2 2) (by assumption) hb; clear hb)
      | (go_at_call 31; (with_reducible refine (num_c 0 _).mono ?_); rintro e wq ⟨rfl, hb⟩; have hnew := keep9 (W := w17) (a0 := ⟨w6.heap.size + 1, 0, none⟩) (a1 := ⟨w6.heap.size + 1, 1, none⟩) (a2 := ⟨w6.heap.size + 1, 2, none⟩) (a3 := ⟨w6.heap.size + 1, 3, none⟩) (a4 := ⟨w6.heap.size, 0, none⟩) (a5 := ⟨w6.heap.size, 1, none⟩) (a6 := ⟨w6.heap.size, 2, none⟩) (a7 := ⟨w6.heap.size, 3, none⟩) (u0 := .int .i64 7) (u1 := .int .i64 0) (u2 := .string ⟨#[]⟩) (u3 := .slice ACG 2 2) (u4 := .int .i64 8) (u5 := .int .i64 0) (u6 := .string ⟨#[]⟩) (u7 := .slice ACF 2 2) (by assumption) hb; clear hb)
      | (go_at_call 26; (with_reducible refine (two_c 6 2 0 1 0 ⟨#[119, 97, 110, 101]⟩ ⟨#[]⟩ none none 0 0 0 0 [] [] _ (nilC _ none) (by decide) (nilC _ none) (by decide)).mono ?_); rintro e wt ⟨AQ, rfl, hc, hb⟩; have hnewt := keep9 (W := w17) (a0 := ⟨w6.heap.size + 1, 0, none⟩) (a1 := ⟨w6.heap.size + 1, 1, none⟩) (a2 := ⟨w6.heap.size + 1, 2, none⟩) (a3 := ⟨w6.heap.size + 1, 3, none⟩) (a4 := ⟨w6.heap.size, 0, none⟩) (a5 := ⟨w6.heap.size, 1, none⟩) (a6 := ⟨w6.heap.size, 2, none⟩) (a7 := ⟨w6.heap.size, 3, none⟩) (u0 := .int .i64 7) (u1 := .int .i64 0) (u2 := .string ⟨#[]⟩) (u3 := .slice ACG 2 2) (u4 := .int .i64 8) (u5 := .int .i64 0) (u6 := .string ⟨#[]⟩) (u7 := .slice ACF 2 2) (by assumption) hb; have HCQ := Lib.hid hc; clear hb hc)
      | (go_at_call 23; obtain ⟨wR, hwR⟩ : ∃ wR, wR = wt.alloc (.cells #[.int .i64 3, .int .i64 7, .int .i64 0, .string ⟨#[]⟩, .slice ACG 2 2, .int .i64 2, .int .i64 6, .int .i64 0, .string ⟨#[]⟩, .slice AQ 2 2, .int .i64 1, .int .i64 8, .int .i64 0, .string ⟨#[]⟩, .slice ACF 2 2] 47) := ⟨_, rfl⟩; rw [← hwR]; have hbR : Below wt.heap.size wt wR := hwR ▸ ((Below.refl _ _).alloc (Nat.le_refl _) _); have HWT := Lib.hid ((from9 (W := w17) (a0 := ⟨w6.heap.size + 1, 0, none⟩) (a1 := ⟨w6.heap.size + 1, 1, none⟩) (a2 := ⟨w6.heap.size + 1, 2, none⟩) (a3 := ⟨w6.heap.size + 1, 3, none⟩) (a4 := ⟨w6.heap.size, 0, none⟩) (a5 := ⟨w6.heap.size, 1, none⟩) (a6 := ⟨w6.heap.size, 2, none⟩) (a7 := ⟨w6.heap.size, 3, none⟩) (u0 := .int .i64 7) (u1 := .int .i64 0) (u2 := .string ⟨#[]⟩) (u3 := .slice ACG 2 2) (u4 := .int .i64 8) (u5 := .int .i64 0) (u6 := .string ⟨#[]⟩) (u7 := .slice ACF 2 2) hnewt).trans (hbR.mono (from9 (W := w17) (a0 := ⟨w6.heap.size + 1, 0, none⟩) (a1 := ⟨w6.heap.size + 1, 1, none⟩) (a2 := ⟨w6.heap.size + 1, 2, none⟩) (a3 := ⟨w6.heap.size + 1, 3, none⟩) (a4 := ⟨w6.heap.size, 0, none⟩) (a5 := ⟨w6.heap.size, 1, none⟩) (a6 := ⟨w6.heap.size, 2, none⟩) (a7 := ⟨w6.heap.size, 3, none⟩) (u0 := .int .i64 7) (u1 := .int .i64 0) (u2 := .string ⟨#[]⟩) (u3 := .slice ACG 2 2) (u4 := .int .i64 8) (u5 := .int .i64 0) (u6 := .string ⟨#[]⟩) (u7 := .slice ACF 2 2) hnewt).size)); have HCR := Lib.hid (rulesC (w := wR) (b := wt.heap.size) (by rw [hwR]; exact (MapKept.heap_alloc _ _).1) (Kd.C_below CG.out HWT.out) (Kd.C_below HCQ.out hbR) (Kd.C_below CF.out HWT.out)); (with_reducible refine (grade_c 30 _ 3 3 rulesL _ 3 3 feats _ _ _ _ HCR.out (by decide) (Kd.C_below FF.out HWT.out) (by decide) (GG.out.below HWT.out) vG).mono ?_); rintro e wg ⟨rfl, hb⟩; have HWG := Lib.hid (HWT.out.trans (hb.mono HWT.out.size)); have hnewg := keep9 (W := w17) (a0 := ⟨w6.heap.size + 1, 0, none⟩) (a1 := ⟨w6.heap.size + 1, 1, none⟩) (a2 := ⟨w6.heap.size + 1, 2, none⟩) (a3 := ⟨w6.heap.size + 1, 3, none⟩) (a4 := ⟨w6.heap.size, 0, none⟩) (a5 := ⟨w6.heap.size, 1, none⟩) (a6 := ⟨w6.heap.size, 2, none⟩) (a7 := ⟨w6.heap.size, 3, none⟩) (u0 := .int .i64 7) (u1 := .int .i64 0) (u2 := .string ⟨#[]⟩) (u3 := .slice ACG 2 2) (u4 := .int .i64 8) (u5 := .int .i64 0) (u6 := .string ⟨#[]⟩) (u7 := .slice ACF 2 2) (keep9 (W := w17) (a0 := ⟨w6.heap.size + 1, 0, none⟩) (a1 := ⟨w6.heap.size + 1, 1, none⟩) (a2 := ⟨w6.heap.size + 1, 2, none⟩) (a3 := ⟨w6.heap.size + 1, 3, none⟩) (a4 := ⟨w6.heap.size, 0, none⟩) (a5 := ⟨w6.heap.size, 1, none⟩) (a6 := ⟨w6.heap.size, 2, none⟩) (a7 := ⟨w6.heap.size, 3, none⟩) (u0 := .int .i64 7) (u1 := .int .i64 0) (u2 := .string ⟨#[]⟩) (u3 := .slice ACG 2 2) (u4 := .int .i64 8) (u5 := .int .i64 0) (u6 := .string ⟨#[]⟩) (u7 := .slice ACF 2 2) hnewt hbR) hb; clear hb hwR hbR))
  all_goals (
    replace GG := Lib.hid (GG.out.below HWG.out)
    replace FF := Lib.hid (Kd.C_below FF.out HWG.out)
    replace NN := Lib.hid (Kd.C_below NN.out HWG.out)
    replace BB := Lib.hid (BB.out.trans (HWG.out.mono BB.out.size))
    replace CF := Lib.hid (Kd.C_below CF.out HWG.out)
    replace CG := Lib.hid (Kd.C_below CG.out HWG.out)
    replace X3 := Lib.hid (blkK HWG.out X3.out)
    replace X4 := Lib.hid (blkK HWG.out X4.out)
    replace CH := Lib.hid (Kd.C_below CH.out HWG.out)
    replace X5 := Lib.hid (blkK HWG.out X5.out)
    clear y30 y31 y32 y33 y40 y41 y42 y43
    go_wp2_with (first
      | (go_at_call 14; have _o31 := O31; (with_reducible refine (check_c 8 0 ⟨#[]⟩ _ 2 2 fewE.f3 _ 3 3 namesL _ _ CF.out (by decide) NN.out (by decide) GG.out vC3).mono ?_); rintro e w31 ⟨rfl, hb⟩; replace GG := Lib.hid (GG.out.below hb); replace FF := Lib.hid (Kd.C_below FF.out hb); replace NN := Lib.hid (Kd.C_below NN.out hb); replace BB := Lib.hid (BB.out.trans (hb.mono BB.out.size)); replace CF := Lib.hid (Kd.C_below CF.out hb); replace CG := Lib.hid (Kd.C_below CG.out hb); replace X3 := Lib.hid (blkK hb X3.out); replace X4 := Lib.hid (blkK hb X4.out); replace CH := Lib.hid (Kd.C_below CH.out hb); replace X5 := Lib.hid (blkK hb X5.out); have O32 := trivial; (try clear hb))
      | (go_at_call 14; have _o30 := O30; (with_reducible refine (check_c 8 0 ⟨#[]⟩ _ 2 2 deadE.f3 _ 3 3 namesL _ _ CD.out (by decide) NN.out (by decide) GG.out vC2).mono ?_); rintro e w30 ⟨rfl, hb⟩; replace GG := Lib.hid (GG.out.below hb); replace FF := Lib.hid (Kd.C_below FF.out hb); replace NN := Lib.hid (Kd.C_below NN.out hb); replace BB := Lib.hid (BB.out.trans (hb.mono BB.out.size)); replace CF := Lib.hid (Kd.C_below CF.out hb); replace CG := Lib.hid (Kd.C_below CG.out hb); replace X3 := Lib.hid (blkK hb X3.out); replace X4 := Lib.hid (blkK hb X4.out); replace CH := Lib.hid (Kd.C_below CH.out hb); replace X5 := Lib.hid (blkK hb X5.out); replace CD := Lib.hid (Kd.C_below CD.out hb); have O31 := trivial; obtain ⟨y30, y31, y32, y33⟩ := four X3.out; (try clear hb))
      | (go_at_call 26; have _o29 := O29; (with_reducible refine (two_c 8 2 0 1 2 ⟨#[100, 101, 97, 100]⟩ ⟨#[]⟩ none none 0 0 0 0 [] [] _ (nilC _ none) (by decide) (nilC _ none) (by decide)).mono ?_); rintro e w29 ⟨ACD, rfl, hc, hb⟩; replace GG := Lib.hid (GG.out.below hb); replace FF := Lib.hid (Kd.C_below FF.out hb); replace NN := Lib.hid (Kd.C_below NN.out hb); replace BB := Lib.hid (BB.out.trans (hb.mono BB.out.size)); replace CF := Lib.hid (Kd.C_below CF.out hb); replace CG := Lib.hid (Kd.C_below CG.out hb); replace X3 := Lib.hid (blkK hb X3.out); replace X4 := Lib.hid (blkK hb X4.out); replace CH := Lib.hid (Kd.C_below CH.out hb); replace X5 := Lib.hid (blkK hb X5.out); have O30 := trivial; have CD := Lib.hid hc; clear hc; (try clear hb))
      | (go_at_call 31; have _o28 := O28; (with_reducible refine (num_c 2 _).mono ?_); rintro e w28 ⟨rfl, hb⟩; replace GG := Lib.hid (GG.out.below hb); replace FF := Lib.hid (Kd.C_below FF.out hb); replace NN := Lib.hid (Kd.C_below NN.out hb); replace BB := Lib.hid (BB.out.trans (hb.mono BB.out.size)); replace CF := Lib.hid (Kd.C_below CF.out hb); replace CG := Lib.hid (Kd.C_below CG.out hb); replace X3 := Lib.hid (blkK hb X3.out); replace X4 := Lib.hid (blkK hb X4.out); replace CH := Lib.hid (Kd.C_below CH.out hb); replace X5 := Lib.hid (blkK hb X5.out); have O29 := trivial; (try clear hb))
      | (go_at_call 30; have _o27 := O27; (with_reducible refine (name_c ⟨#[100, 101, 97, 100]⟩ _).mono ?_); rintro e w27 ⟨rfl, hb⟩; replace GG := Lib.hid (GG.out.below hb); replace FF := Lib.hid (Kd.C_below FF.out hb); replace NN := Lib.hid (Kd.C_below NN.out hb); replace BB := Lib.hid (BB.out.trans (hb.mono BB.out.size)); replace CF := Lib.hid (Kd.C_below CF.out hb); replace CG := Lib.hid (Kd.C_below CG.out hb); replace X3 := Lib.hid (blkK hb X3.out); replace X4 := Lib.hid (blkK hb X4.out); replace CH := Lib.hid (Kd.C_below CH.out hb); replace X5 := Lib.hid (blkK hb X5.out); have O28 := trivial; (try clear hb))
      | (go_at_call 14; have _o26 := O26; (with_reducible refine (check_c 2 0 ⟨#[107, 110, 111, 116, 115]⟩ none 0 0 [] _ 3 3 namesL _ _ (nilC _ none) (by decide) NN.out (by decide) GG.out vC1).mono ?_); rintro e w26 ⟨rfl, hb⟩; replace GG := Lib.hid (GG.out.below hb); replace FF := Lib.hid (Kd.C_below FF.out hb); replace NN := Lib.hid (Kd.C_below NN.out hb); replace BB := Lib.hid (BB.out.trans (hb.mono BB.out.size)); replace CF := Lib.hid (Kd.C_below CF.out hb); replace CG := Lib.hid (Kd.C_below CG.out hb); replace X3 := Lib.hid (blkK hb X3.out); replace X4 := Lib.hid (blkK hb X4.out); replace CH := Lib.hid (Kd.C_below CH.out hb); replace X5 := Lib.hid (blkK hb X5.out); have O27 := trivial; (try clear hb))
      | (go_at_call 30; have _o25 := O25; (with_reducible refine (name_c ⟨#[107, 110, 111, 116, 115]⟩ _).mono ?_); rintro e w25 ⟨rfl, hb⟩; replace GG := Lib.hid (GG.out.below hb); replace FF := Lib.hid (Kd.C_below FF.out hb); replace NN := Lib.hid (Kd.C_below NN.out hb); replace BB := Lib.hid (BB.out.trans (hb.mono BB.out.size)); replace CF := Lib.hid (Kd.C_below CF.out hb); replace CG := Lib.hid (Kd.C_below CG.out hb); replace X3 := Lib.hid (blkK hb X3.out); replace X4 := Lib.hid (blkK hb X4.out); replace CH := Lib.hid (Kd.C_below CH.out hb); replace X5 := Lib.hid (blkK hb X5.out); have O26 := trivial; (try clear hb))
      | (go_at_call 16; have _o24 := O24; obtain ⟨wS, hwS⟩ : ∃ wS, wS = w23.alloc (.cells #[.string ⟨#[107, 110, 111, 116, 115]⟩, .string ⟨#[119, 105, 100, 116, 104]⟩] 9) := ⟨_, rfl⟩; rw [← hwS]; have hbS : Below w23.heap.size w23 wS := hwS ▸ ((Below.refl _ _).alloc (Nat.le_refl _) _); replace GG := Lib.hid (GG.out.below hbS); replace FF := Lib.hid (Kd.C_below FF.out hbS); replace NN := Lib.hid (Kd.C_below NN.out hbS); replace BB := Lib.hid (BB.out.trans (hbS.mono BB.out.size)); replace CF := Lib.hid (Kd.C_below CF.out hbS); replace CG := Lib.hid (Kd.C_below CG.out hbS); replace X3 := Lib.hid (blkK hbS X3.out); replace X4 := Lib.hid (blkK hbS X4.out); replace CH := Lib.hid (Kd.C_below CH.out hbS); replace X5 := Lib.hid (blkK hbS X5.out); replace CV := Lib.hid (Kd.C_below CV.out hbS); have CS := Lib.hid (strsC wS w23.heap.size [sKn, sWi] 2 rfl (by decide) (by rw [hwS]; exact (MapKept.heap_alloc _ _).1)); clear hwS hbS; (with_reducible refine (same_c 10 _ 2 _ [sKn, sWi] _ 2 2 [sKn, sWi] _ _ CV.out HLU.out CS.out (by decide) vS).mono ?_); rintro e w24 ⟨rfl, hb⟩; replace GG := Lib.hid (GG.out.below hb); replace FF := Lib.hid (Kd.C_below FF.out hb); replace NN := Lib.hid (Kd.C_below NN.out hb); replace BB := Lib.hid (BB.out.trans (hb.mono BB.out.size)); replace CF := Lib.hid (Kd.C_below CF.out hb); replace CG := Lib.hid (Kd.C_below CG.out hb); replace X3 := Lib.hid (blkK hb X3.out); replace X4 := Lib.hid (blkK hb X4.out); replace CH := Lib.hid (Kd.C_below CH.out hb); replace X5 := Lib.hid (blkK hb X5.out); replace CV := Lib.hid (Kd.C_below CV.out hb); have O25 := trivial; (try clear hb))
      | (go_at_call 17; have _o23 := O23; (with_reducible refine (uses_c 7 0 ⟨#[]⟩ _ 2 2 usesE.f3 _ _ CU.out (by decide) vU).mono ?_); rintro e w23 ⟨AU, cU, rfl, hc, hlu, hb⟩; replace GG := Lib.hid (GG.out.below hb); replace FF := Lib.hid (Kd.C_below FF.out hb); replace NN := Lib.hid (Kd.C_below NN.out hb); replace BB := Lib.hid (BB.out.trans (hb.mono BB.out.size)); replace CF := Lib.hid (Kd.C_below CF.out hb); replace CG := Lib.hid (Kd.C_below CG.out hb); replace X3 := Lib.hid (blkK hb X3.out); replace X4 := Lib.hid (blkK hb X4.out); replace CH := Lib.hid (Kd.C_below CH.out hb); replace X5 := Lib.hid (blkK hb X5.out); replace CP := Lib.hid (Kd.C_below CP.out hb); replace CU := Lib.hid (Kd.C_below CU.out hb); have O24 := trivial; have CV := Lib.hid hc; have HLU := Lib.hid hlu; clear hc hlu; (try clear hb))
      | (go_at_call 26; have _o22 := O22; (with_reducible refine (two_c 7 2 0 3 0 ⟨#[119, 105, 100, 116, 104]⟩ ⟨#[]⟩ none ACP 0 2 0 2 [] _ _ (nilC _ none) (by decide) CP.out (by decide)).mono ?_); rintro e w22 ⟨ACU, rfl, hc, hb⟩; replace GG := Lib.hid (GG.out.below hb); replace FF := Lib.hid (Kd.C_below FF.out hb); replace NN := Lib.hid (Kd.C_below NN.out hb); replace BB := Lib.hid (BB.out.trans (hb.mono BB.out.size)); replace CF := Lib.hid (Kd.C_below CF.out hb); replace CG := Lib.hid (Kd.C_below CG.out hb); replace X3 := Lib.hid (blkK hb X3.out); replace X4 := Lib.hid (blkK hb X4.out); replace CH := Lib.hid (Kd.C_below CH.out hb); replace X5 := Lib.hid (blkK hb X5.out); replace CP := Lib.hid (Kd.C_below CP.out hb); have O23 := trivial; have CU := Lib.hid hc; clear hc; (try clear hb))
      | (go_at_call 26; have _o21 := O21; (with_reducible refine (two_c 3 2 0 2 0 ⟨#[107, 110, 111, 116, 115]⟩ ⟨#[119, 105, 100, 116, 104]⟩ none none 0 0 0 0 [] [] _ (nilC _ none) (by decide) (nilC _ none) (by decide)).mono ?_); rintro e w21 ⟨ACP, rfl, hc, hb⟩; replace GG := Lib.hid (GG.out.below hb); replace FF := Lib.hid (Kd.C_below FF.out hb); replace NN := Lib.hid (Kd.C_below NN.out hb); replace BB := Lib.hid (BB.out.trans (hb.mono BB.out.size)); replace CF := Lib.hid (Kd.C_below CF.out hb); replace CG := Lib.hid (Kd.C_below CG.out hb); replace X3 := Lib.hid (blkK hb X3.out); replace X4 := Lib.hid (blkK hb X4.out); replace CH := Lib.hid (Kd.C_below CH.out hb); replace X5 := Lib.hid (blkK hb X5.out); have O22 := trivial; have CP := Lib.hid hc; clear hc; (try clear hb))
      | (go_at_call 30; have _o20 := O20; (with_reducible refine (name_c ⟨#[119, 105, 100, 116, 104]⟩ _).mono ?_); rintro e w20 ⟨rfl, hb⟩; replace GG := Lib.hid (GG.out.below hb); replace FF := Lib.hid (Kd.C_below FF.out hb); replace NN := Lib.hid (Kd.C_below NN.out hb); replace BB := Lib.hid (BB.out.trans (hb.mono BB.out.size)); replace CF := Lib.hid (Kd.C_below CF.out hb); replace CG := Lib.hid (Kd.C_below CG.out hb); replace X3 := Lib.hid (blkK hb X3.out); replace X4 := Lib.hid (blkK hb X4.out); replace CH := Lib.hid (Kd.C_below CH.out hb); replace X5 := Lib.hid (blkK hb X5.out); have O21 := trivial; (try clear hb))
      | (go_at_call 30; have _o19 := O19; (with_reducible refine (name_c ⟨#[107, 110, 111, 116, 115]⟩ _).mono ?_); rintro e w19 ⟨rfl, hb⟩; replace GG := Lib.hid (GG.out.below hb); replace FF := Lib.hid (Kd.C_below FF.out hb); replace NN := Lib.hid (Kd.C_below NN.out hb); replace BB := Lib.hid (BB.out.trans (hb.mono BB.out.size)); replace CF := Lib.hid (Kd.C_below CF.out hb); replace CG := Lib.hid (Kd.C_below CG.out hb); replace X3 := Lib.hid (blkK hb X3.out); replace X4 := Lib.hid (blkK hb X4.out); replace CH := Lib.hid (Kd.C_below CH.out hb); replace X5 := Lib.hid (blkK hb X5.out); have O20 := trivial; (try clear hb))
      | (go_at_call 30; have _o18 := O18; (with_reducible refine (name_c ⟨#[119, 105, 100, 116, 104]⟩ _).mono ?_); rintro e w18 ⟨rfl, hb⟩; replace GG := Lib.hid (GG.out.below hb); replace FF := Lib.hid (Kd.C_below FF.out hb); replace NN := Lib.hid (Kd.C_below NN.out hb); replace BB := Lib.hid (BB.out.trans (hb.mono BB.out.size)); replace CF := Lib.hid (Kd.C_below CF.out hb); replace CG := Lib.hid (Kd.C_below CG.out hb); replace X3 := Lib.hid (blkK hb X3.out); replace X4 := Lib.hid (blkK hb X4.out); replace CH := Lib.hid (Kd.C_below CH.out hb); replace X5 := Lib.hid (blkK hb X5.out); have O19 := trivial; (try clear hb)))
    go_ret
    exact ⟨rfl, HB.out.trans (BB.out.mono HB.out.size)⟩)
theorem sawmilllaw43_awake.calls (r : Bool) (w : World) (hG : GlobG w) (h : sawmilllaw43_awake.f = some r) : Calls Tryd.prog 12 #[] w fun e w' => e = .returned (.bool r) ∧ Below w.heap.size w w' := by
  obtain rfl : true = r := Option.some.inj h
  exact awake_walk w hG
end Go.Proofs.YthdgofbchfcfcaaDoor.PRu
