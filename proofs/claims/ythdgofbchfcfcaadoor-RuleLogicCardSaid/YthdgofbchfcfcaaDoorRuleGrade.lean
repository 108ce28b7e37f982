/- The walks of Contains, of the closures, of over, Check and Eval of the package rule. The table's fact is the row's; the contracts ask that no list is beyond any machine. The walk of Eval of the package rule: the first error, else the value. The table's fact is the row's; the contract asks that no list is beyond any machine. The walks of rules, CheckRules and Grade of the package rule. The table's fact is the row's; the contracts ask that no list is beyond any machine. -/
import Derived.Test.YthdgofbchfcfcaaDoorRuleVisitF
set_option linter.unusedVariables false
set_option linter.unusedSimpArgs false
namespace Go.Proofs.YthdgofbchfcfcaaDoor.PRu
open Go.RowKit Go.Proofs.YthdgofbchfcfcaaDoorW.PrintWords Go.Proofs.YthdgofbchfcfcaaDoorW.PrintLast Go.Proofs.YthdgofbchfcfcaaDoorW.PrintMore
def hasN (l : List ByteArray) (s : ByteArray) : Bool := l.any fun x => s.toList == x.toList
def idxN : List ByteArray → ByteArray → Int → Int
  | [], _, _ => -1
  | x :: l, s, i => if (s.toList == x.toList) = true then i else idxN l s (i + 1)
theorem idxN_has : ∀ (l : List ByteArray) (s : ByteArray) (i : Int), 0 ≤ i → decide (0 ≤ idxN l s i) = hasN l s
  | [], s, i, _ => by simp [idxN, hasN]
  | x :: l, s, i, h => by
    have ih := idxN_has l s (i + 1) (by omega)
    unfold idxN
    by_cases hx : (s.toList == x.toList) = true
    · rw [if_pos hx]
      have : hasN (x :: l) s = true := by unfold hasN; rw [List.any_cons, hx, Bool.true_or]
      rw [this]; simpa using h
    · rw [if_neg hx, ih]
      have hx2 : (s.toList == x.toList) = false := by simpa using hx
      unfold hasN
      rw [List.any_cons, hx2, Bool.false_or]
theorem idxN_drop {l : List ByteArray} {s : ByteArray} {k : Nat} (h : k < l.length) (i : Int) : idxN (l.drop k) s i = if (s.toList == l[k].toList) = true then i else idxN (l.drop (k + 1)) s (i + 1) := by
  rw [List.drop_eq_getElem_cons h]; rfl
theorem blkA (w : World) (a b : Obj) : ((w.alloc a).alloc b).heap[w.heap.size]? = some a := by
  have hb := (Below.refl (w.alloc a).heap.size (w.alloc a)).alloc (Nat.le_refl _) b
  exact (hb.block w.heap.size (by simp)).trans (MapKept.heap_alloc w a).1
theorem blkB (w : World) (a b : Obj) : ((w.alloc a).alloc b).heap[w.heap.size + 1]? = some b := by
  have h := (MapKept.heap_alloc (w.alloc a) b).1
  simpa using h
theorem at_str {w : World} {A : Option Addr} {n : Nat} {xs : List ByteArray} (h : Kd.C Kd.string w A n xs) (k : Nat) (hk : k < xs.length) (hn : n = xs.length) : ∃ ad, A = some ad ∧ w.cell? (ad.add k) = some (.string xs[k]) := by
  obtain ⟨ad, c, e, _, hK, hc0⟩ := Kd.C_get h (⟨#[]⟩ : ByteArray) (k : Int) (by omega) (by omega)
  have hc : ∀ j u, c[j]? = some u → w.cell? (ad.add (((k : Int)).toNat * 1 + j)) = some u := hc0
  obtain rfl := hK
  have h0 := hc 0 _ rfl
  rw [Int.toNat_natCast, Nat.mul_one, Nat.add_zero] at h0
  refine ⟨ad, e, ?_⟩
  rw [h0]
  simp [hk]
set_option maxRecDepth 100000 in
theorem index_calls (A : Option Addr) (c : Nat) (l : List ByteArray) (s : ByteArray) (w : World) (hC : Kd.C Kd.string w A l.length l) (hl : l.length < 4611686018427387904) :
    Calls Tryd.prog 49 #[.slice A l.length c, .string s] w fun e w' => e = .returned (.int .i64 (idxN l s 0)) ∧ Below w.heap.size w w' := by
  have HC := Lib.hid hC
  clear hC
  go_enter Tryd.func49, Tryd.ntmps49
  go_wp2
  go_loopw [8] (fun i wr => ∃ (k : Nat), i = .int .i64 (k : Int) ∧ k ≤ l.length ∧ idxN l s 0 = idxN (l.drop k) s k ∧ Below w.heap.size w wr) (fun i _ => l.length - (intOf i).toNat)
  case atStart => exact ⟨0, rfl, Nat.zero_le _, rfl, Below.refl _ _⟩
  case round =>
    obtain ⟨k, rfl, hk, hi, hbw⟩ := hrel
    have HI := Lib.hid hi
    have HB := Lib.hid hbw
    clear hi hbw
    by_cases hlt : k < l.length
    · have hlt2 : (k : Int) < (l.length : Int) := by omega
      obtain ⟨ad, rfl, x0⟩ := at_str (Kd.C_below HC.out HB.out) k hlt rfl
      obtain ⟨x, hx⟩ : ∃ x, x = l[k] := ⟨_, rfl⟩
      rw [← hx] at x0
      have HD := Lib.hid (show idxN l s 0 = if (s.toList == x.toList) = true then (k : Int) else idxN (l.drop (k + 1)) s (k + 1) by rw [HI.out, idxN_drop hlt, hx])
      clear hx
      by_cases he : (s.toList == x.toList) = true
      · go_wp2
        go_ret
        refine ⟨?_, HB.out⟩
        rw [HD.out, if_pos he]
        rfl
      · have he2 : (s.toList == x.toList) = false := by simpa using he
        clear he
        go_wp2
        refine ⟨⟨k + 1, congrArg _ (by omega), by omega, ?_, HB.out⟩, by simp [intOf]; omega⟩
        rw [HD.out, if_neg (by rw [he2]; decide)]
        rw [Int.natCast_add]; rfl
    · have hkl : k = l.length := by omega
      have HD := Lib.hid (show idxN l s 0 = -1 by rw [HI.out, hkl, List.drop_length]; rfl)
      clear hkl HI
      go_wp2
      go_ret
      refine ⟨?_, HB.out⟩
      rw [HD.out]
      rfl
theorem contains_calls (A : Option Addr) (c : Nat) (l : List ByteArray) (s : ByteArray) (w : World) (hC : Kd.C Kd.string w A l.length l) (hl : l.length < 4611686018427387904) :
    Calls Tryd.prog 34 #[.slice A l.length c, .string s] w fun e w' => e = .returned (.bool (hasN l s)) ∧ Below w.heap.size w w' := by
  have HC := Lib.hid hC
  clear hC
  go_enter Tryd.func34, Tryd.ntmps34
  go_wp2_with (go_at_call 49; (with_reducible refine (index_calls A c l s _ HC.out hl).mono ?_); rintro e wz ⟨rfl, hb⟩; have HB := Lib.hid hb; clear hb)
  go_ret
  refine ⟨?_, HB.out⟩
  rw [← idxN_has l s 0 (Int.le_refl _)]
  rfl
theorem has33 (b : Nat) (A : Option Addr) (c : Nat) (l : List ByteArray) (w : World) (hx : w.cell? ⟨b, 0, none⟩ = some (.slice A l.length c)) (hC : Kd.C Kd.string w A l.length l) (hl : l.length < 4611686018427387904) : HasOK 33 b (hasN l) w := by
  intro w' hb s
  have hx2 : w'.cell? ⟨b, 0, none⟩ = some (.slice A l.length c) := (hb.cell (World.block_lt_of_cell? w _ hx)).trans hx
  have HC := Lib.hid (Kd.C_below hC hb)
  clear hx hC hb
  go_enter Tryd.func33, Tryd.ntmps33
  go_wp2_with (go_at_call 34; (with_reducible refine (contains_calls A c l s _ HC.out hl).mono ?_); rintro e wz ⟨rfl, hb⟩; have HB := Lib.hid hb; clear hb)
  go_ret
  exact ⟨rfl, HB.out⟩
def getP (l : List S40) (s : ByteArray) : Option S40 := l.find? fun x => x.f0.toList == s.toList
def hasF (l : List S40) (s : ByteArray) : Bool := (getP l s).isSome
def getR (l : List S40) (s : ByteArray) : Int × Bool := match getP l s with | some x => (x.f1, true) | none => (0, false)
theorem rd_at40 (l : List S40) (k : Nat) (h : k < l.length) : rd_T40 l (k : Int) = l[k] := by simp [rd_T40, h]
theorem getP_drop {l : List S40} {s : ByteArray} {k : Nat} (h : k < l.length) : getR (l.drop k) s = if l[k].f0.toList = s.toList then (l[k].f1, true) else getR (l.drop (k + 1)) s := by
  unfold getR getP
  rw [List.drop_eq_getElem_cons h, List.find?_cons]
  by_cases hx : l[k].f0.toList = s.toList
  · have hb : (l[k].f0.toList == s.toList) = true := by simpa using hx
    rw [if_pos hx, hb]
  · have hb : (l[k].f0.toList == s.toList) = false := by simpa using hx
    rw [if_neg hx, hb]
theorem get_loop (l : List S40) (s : ByteArray) (hl : l.length < 4611686018427387904) : ∀ (m i k : Nat), i + m = l.length → feature_Get.l0 (m + 1 + k) s l (l.length : Int) (i : Int) = some (getR (l.drop i) s)
  | 0, i, k, hi => by
    rw [show 0 + 1 + k = k + 1 by omega, feature_Get.l0, if_neg (by omega), List.drop_eq_nil_of_le (by omega)]
    rfl
  | m + 1, i, k, hi => by
    have hlt : i < l.length := by omega
    have e : wrap64 ((i : Int) + 1) = ((i + 1 : Nat) : Int) := by unfold wrap64; omega
    rw [show m + 1 + 1 + k = (m + 1 + k) + 1 by omega, feature_Get.l0, if_pos (by omega), if_pos (by omega), if_pos (by omega), rd_at40 l i hlt, e, getP_drop hlt]
    split
    · rfl
    · exact get_loop l s hl m (i + 1) k (by omega)
theorem get_f (l : List S40) (s : ByteArray) (hl : l.length < 4611686018427387904) (k : Nat) : feature_Get.f (l.length + 1 + k) l s = some (getR l s) := by
  unfold feature_Get.f
  have := get_loop l s hl l.length 0 k (by omega)
  rw [List.drop_zero] at this
  exact this
theorem getR_has (l : List S40) (s : ByteArray) : (getR l s).2 = hasF l s := by
  unfold getR hasF
  cases getP l s <;> rfl
theorem has57 (b : Nat) (A : Option Addr) (c : Nat) (l : List S40) (w : World) (hx : w.cell? ⟨b, 0, none⟩ = some (.slice A l.length c)) (hC : Kd.C k40 w A l.length l) (hc : l.length ≤ c) (hl : l.length < 4611686018427387904) : HasOK 57 b (hasF l) w := by
  intro w' hb s
  have hx2 : w'.cell? ⟨b, 0, none⟩ = some (.slice A l.length c) := (hb.cell (World.block_lt_of_cell? w _ hx)).trans hx
  have HC := Lib.hid (Kd.C_below hC hb)
  have HCC := Lib.hid hc
  have HF := Lib.hid (show feature_Get.f (l.length + 1 + 0) l s = some ((getR l s).1, (getR l s).2) from get_f l s hl 0)
  clear hx hC hb hc
  go_enter Tryd.func57, Tryd.ntmps57
  go_wp2_with (go_at_call 58; (with_reducible refine (feature_Get.calls (l.length + 1 + 0) A c l s _ _ _ HC.out HCC.out HF.out).mono ?_); rintro e wz ⟨rfl, hb⟩; have HB := Lib.hid hb; clear hb)
  go_ret
  refine ⟨?_, HB.out⟩
  rw [← getR_has]
  rfl
theorem over_calls (A : Option Addr) (n c : Nat) (w : World) : Calls Tryd.prog 42 #[.slice A n c] w fun e w' => e = .returned (.func (.func 57) #[] #[.pointer (some ⟨w.heap.size, 0, none⟩)]) ∧ w' = w.alloc (.cells #[.slice A n c] 25) := by
  go_enter Tryd.func42, Tryd.ntmps42
  go_wp2
  go_ret
  exact ⟨rfl, rfl⟩
def limL (n : Nat) : Bool := decide (n < 4611686018427387904)
def checkF (e : S24) (names : List ByteArray) : Int := if visitN (hasN names) 8 e = 0 then (if condF e.f0 = true then 0 else 27) else visitN (hasN names) 8 e
def rule_Check.f (a0_0 : Int) (a0_1 : Int) (a0_2 : ByteArray) (l0_3 : List S24) (l1 : List ByteArray) : Option Int :=
  if (limB 8 ⟨a0_0, a0_1, a0_2, l0_3⟩ && limL l1.length) = true then some (checkF ⟨a0_0, a0_1, a0_2, l0_3⟩ l1) else none
set_option maxRecDepth 100000 in
theorem check_walk (op nn : Int) (nm : ByteArray) (A0 : Option Addr) (c0 : Nat) (ar : List S24) (A1 : Option Addr) (c1 : Nat) (l1 : List ByteArray) (w : World) (hr0 : Kd.C k24 w A0 ar.length ar) (hc0 : ar.length ≤ c0) (hr1 : Kd.C Kd.string w A1 l1.length l1) (hG : GlobG w) (hlim : limB 8 ⟨op, nn, nm, ar⟩ = true) (hl1 : l1.length < 4611686018427387904) :
    Calls Tryd.prog 14 #[.agg #[.int .i64 op, .int .i64 nn, .string nm, .slice A0 ar.length c0], .slice A1 l1.length c1] w fun e w' => e = .returned (.int .i64 (checkF ⟨op, nn, nm, ar⟩ l1)) ∧ Below w.heap.size w w' := by
  obtain ⟨W0, hW0⟩ : ∃ W0, W0 = (w.alloc (.cells #[.int .i64 op, .int .i64 nn, .string nm, .slice A0 ar.length c0] 24)).alloc (.cells #[.slice A1 l1.length c1] 29) := ⟨_, rfl⟩
  have hbel : Below w.heap.size w W0 := hW0 ▸ (((Below.refl _ _).alloc (Nat.le_refl _) _).alloc (by simp) _)
  have HB := Lib.hid hbel
  have HG := Lib.hid (hG.below hbel)
  have HC := Lib.hid (Kd.C_below hr0 hbel)
  have hbk : W0.heap[w.heap.size]? = some (.cells #[.int .i64 op, .int .i64 nn, .string nm, .slice A0 ar.length c0] 24) := by rw [hW0]; exact blkA _ _ _
  have hbk2 : W0.heap[w.heap.size + 1]? = some (.cells #[.slice A1 l1.length c1] 29) := by rw [hW0]; exact blkB _ _ _
  have HX := Lib.hid (has33 (w.heap.size + 1) A1 c1 l1 W0 (by simp only [World.cell?, hbk2]; rfl) (Kd.C_below hr1 hbel) hl1)
  have HBK := Lib.hid hbk
  have HSZ := Lib.hid (show w.heap.size < W0.heap.size from (Array.getElem?_eq_some_iff.1 hbk).1)
  have HWW := Lib.hid hW0
  have HL := Lib.hid hlim
  have HCC := Lib.hid hc0
  clear hbel hbk hbk2 hW0 hr0 hc0 hr1 hG hlim
  unfold checkF
  cases hv : (visitN (hasN l1) 8 ⟨op, nn, nm, ar⟩ != 0)
  case true =>
    have HV := Lib.hid (bne_iff_ne.1 hv)
    rw [if_neg HV.out]
    go_enter Tryd.func14, Tryd.ntmps14
    go_wp2_with (go_at_call 32; rw [← HWW.out]; (with_reducible refine (visit_F 33 (Lib.hid fun _ _ => rfl) (hasN l1) (w.heap.size + 1) 8 (by omega) op nn nm ar HL.out A0 c0 1 W0 (by decide) HG.out HX.out HC.out HCC.out).mono ?_); rintro e wz ⟨rfl, hb⟩; have HB2 := Lib.hid (HB.out.trans (hb.mono HB.out.size)); clear hb)
    go_ret
    exact ⟨rfl, HB2.out⟩
  case false =>
    have HV := Lib.hid (show visitN (hasN l1) 8 ⟨op, nn, nm, ar⟩ = 0 by simpa using hv)
    rw [if_pos HV.out]
    cases hcd : condF op
    all_goals (
      go_enter Tryd.func14, Tryd.ntmps14
      go_wp2_with (first
        | (go_at_call 32; rw [← HWW.out]; (with_reducible refine (visit_F 33 (Lib.hid fun _ _ => rfl) (hasN l1) (w.heap.size + 1) 8 (by omega) op nn nm ar HL.out A0 c0 1 W0 (by decide) HG.out HX.out HC.out HCC.out).mono ?_); rintro e wz ⟨rfl, hb⟩; have HB2 := Lib.hid (HB.out.trans (hb.mono HB.out.size)); have HG2 := Lib.hid (HG.out.below hb); obtain ⟨y0, y1, y2, y3⟩ := four ((hb.block _ HSZ.out).trans HBK.out); clear hb)
        | (go_at_call 35; (with_reducible refine (cond_calls op nn nm A0 ar.length c0 _ HG2.out).mono ?_); rw [hcd]; rintro e wy ⟨rfl, hb⟩; have HB3 := Lib.hid (HB2.out.trans (hb.mono HB2.out.size)); clear hb))
      go_ret
      exact ⟨rfl, HB3.out⟩)
theorem rule_Check.calls (a0_0 : Int) (a0_1 : Int) (a0_2 : ByteArray) (A0_3 : Option Addr) (c0_3 : Nat) (l0_3 : List S24) (A1 : Option Addr) (c1 : Nat) (l1 : List ByteArray) (r : Int) (w : World) (hr0_3 : Kd.C k24 w A0_3 l0_3.length l0_3) (hc0_3 : l0_3.length ≤ c0_3) (hr1 : Kd.C Kd.string w A1 l1.length l1) (hc1 : l1.length ≤ c1) (hG : GlobG w) (h : rule_Check.f a0_0 a0_1 a0_2 l0_3 l1 = some r) :
    Calls Tryd.prog 14 #[.agg #[.int .i64 a0_0, .int .i64 a0_1, .string a0_2, .slice A0_3 l0_3.length c0_3], .slice A1 l1.length c1] w fun e w' => e = .returned (.int .i64 r) ∧ Below w.heap.size w w' := by
  unfold rule_Check.f at h
  split at h
  · rename_i hl
    simp only [Bool.and_eq_true, limL, decide_eq_true_eq] at hl
    injection h with h
    subst h
    exact check_walk _ _ _ _ _ _ _ _ _ _ hr0_3 hc0_3 hr1 hG hl.1 hl.2
  · cases h
end Go.Proofs.YthdgofbchfcfcaaDoor.PRu

set_option linter.unusedVariables false
set_option linter.unusedSimpArgs false
namespace Go.Proofs.YthdgofbchfcfcaaDoor.PRu
open Go.RowKit Go.Proofs.YthdgofbchfcfcaaDoorW.PrintWords Go.Proofs.YthdgofbchfcfcaaDoorW.PrintLast Go.Proofs.YthdgofbchfcfcaaDoorW.PrintMore
def evalF (k : Nat) (e : S24) (l : List S40) : Option (Int × Int) :=
  if visitN (hasF l) 8 e = 0 then (rule_value.f k e.f0 e.f1 e.f2 e.f3 l).bind fun r => if r.2 = true then some (r.1, 0) else some (0, 9) else some (0, visitN (hasF l) 8 e)
def rule_Eval.f (k : Nat) (a0_0 : Int) (a0_1 : Int) (a0_2 : ByteArray) (l0_3 : List S24) (l1 : List S40) : Option (Int × Int) :=
  if (limB 8 ⟨a0_0, a0_1, a0_2, l0_3⟩ && limL l1.length) = true then evalF k ⟨a0_0, a0_1, a0_2, l0_3⟩ l1 else none
theorem rule_Eval.mono : ∀ a0 a1 a2 a3 a4 k, LeO (rule_Eval.f k a0 a1 a2 a3 a4) (rule_Eval.f (k + 1) a0 a1 a2 a3 a4) := by
  intro a0 a1 a2 a3 a4 k
  unfold rule_Eval.f evalF
  exact LeO.ite (LeO.ite (LeO.bind (rule_value.mono _ _ _ _ _ _) (fun _ => LeO.refl _)) (LeO.refl _)) (LeO.refl _)
theorem fromE {w : World} {b : Nat} {op nn : Int} {nm : ByteArray} {A0 : Option Addr} {c0 : Nat} {ar : List S24} {W0 : World} (h : w.cell? ⟨b, 0, none⟩ = some (.int .i64 op) ∧ w.cell? ⟨b, 1, none⟩ = some (.int .i64 nn) ∧ w.cell? ⟨b, 2, none⟩ = some (.string nm) ∧ w.cell? ⟨b, 3, none⟩ = some (.slice A0 ar.length c0) ∧ Hid (Below W0.heap.size W0 w)) : Below W0.heap.size W0 w := h.2.2.2.2.out
theorem keepE {w w' : World} {b : Nat} {op nn : Int} {nm : ByteArray} {A0 : Option Addr} {c0 : Nat} {ar : List S24} {W0 : World} (hlt : b < W0.heap.size) (h : w.cell? ⟨b, 0, none⟩ = some (.int .i64 op) ∧ w.cell? ⟨b, 1, none⟩ = some (.int .i64 nn) ∧ w.cell? ⟨b, 2, none⟩ = some (.string nm) ∧ w.cell? ⟨b, 3, none⟩ = some (.slice A0 ar.length c0) ∧ Hid (Below W0.heap.size W0 w)) (hb : Below w.heap.size w w') : w'.cell? ⟨b, 0, none⟩ = some (.int .i64 op) ∧ w'.cell? ⟨b, 1, none⟩ = some (.int .i64 nn) ∧ w'.cell? ⟨b, 2, none⟩ = some (.string nm) ∧ w'.cell? ⟨b, 3, none⟩ = some (.slice A0 ar.length c0) ∧ Hid (Below W0.heap.size W0 w') := by
  obtain ⟨h0, h1, h2, h3, h4⟩ := h
  have lb := h4.out.size
  have lt : b < w.heap.size := by omega
  exact ⟨(hb.cell lt).trans h0, (hb.cell lt).trans h1, (hb.cell lt).trans h2, (hb.cell lt).trans h3, Lib.hid (h4.out.trans (hb.mono lb))⟩
theorem allocE {w wo : World} {o : Obj} (h : wo = w.alloc o) : Below w.heap.size w wo := by rw [h]; exact (Below.refl _ _).alloc (Nat.le_refl _) _
theorem cellE {w wo : World} {v : Value} {t : TypeId} (h : wo = w.alloc (.cells #[v] t)) : wo.cell? ⟨w.heap.size, 0, none⟩ = some v := by
  have hb := (MapKept.heap_alloc w (.cells #[v] t)).1
  rw [h]
  simp only [World.cell?, hb]
  rfl
set_option maxRecDepth 100000 in
theorem eval_walk (k : Nat) (op nn : Int) (nm : ByteArray) (A0 : Option Addr) (c0 : Nat) (ar : List S24) (A1 : Option Addr) (c1 : Nat) (l1 : List S40) (r1 r2 : Int) (w : World) (hr0 : Kd.C k24 w A0 ar.length ar) (hc0 : ar.length ≤ c0) (hr1 : Kd.C k40 w A1 l1.length l1) (hc1 : l1.length ≤ c1) (hG : GlobG w) (hlim : limB 8 ⟨op, nn, nm, ar⟩ = true) (hl1 : l1.length < 4611686018427387904) (hf : evalF k ⟨op, nn, nm, ar⟩ l1 = some (r1, r2)) :
    Calls Tryd.prog 19 #[.agg #[.int .i64 op, .int .i64 nn, .string nm, .slice A0 ar.length c0], .slice A1 l1.length c1] w fun e w' => e = .returned (.tuple #[.int .i64 r1, .int .i64 r2]) ∧ Below w.heap.size w w' := by
  obtain ⟨W0, hW0⟩ : ∃ W0, W0 = w.alloc (.cells #[.int .i64 op, .int .i64 nn, .string nm, .slice A0 ar.length c0] 24) := ⟨_, rfl⟩
  have hbel : Below w.heap.size w W0 := hW0 ▸ (Below.refl _ _).alloc (Nat.le_refl _) _
  have HB := Lib.hid hbel
  have HB0 := Lib.hid (Below.refl W0.heap.size W0)
  have HG := Lib.hid (hG.below hbel)
  have HC := Lib.hid (Kd.C_below hr0 hbel)
  have HC1 := Lib.hid (Kd.C_below hr1 hbel)
  have HCC1 := Lib.hid hc1
  have HL1 := Lib.hid hl1
  have hbk : W0.heap[w.heap.size]? = some (.cells #[.int .i64 op, .int .i64 nn, .string nm, .slice A0 ar.length c0] 24) := by rw [hW0]; exact (MapKept.heap_alloc w _).1
  obtain ⟨y0, y1, y2, y3⟩ := four hbk
  have HSZ := Lib.hid (show w.heap.size < W0.heap.size from (Array.getElem?_eq_some_iff.1 hbk).1)
  have HWW := Lib.hid hW0
  have HL := Lib.hid hlim
  have HCC := Lib.hid hc0
  clear hbel hbk hW0 hr0 hc0 hr1 hG hlim hc1 hl1
  unfold evalF at hf
  cases hv : (visitN (hasF l1) 8 ⟨op, nn, nm, ar⟩ != 0)
  case true =>
    have hv2 := bne_iff_ne.1 hv
    rw [if_neg hv2] at hf
    simp only [Option.some.injEq, Prod.mk.injEq] at hf
    obtain ⟨rfl, rfl⟩ := hf
    clear hv2
    go_enter Tryd.func19, Tryd.ntmps19
    go_wp2
    rw [← HWW.out]
    go_region_held3 (fun w' => w'.cell? ⟨w.heap.size, 0, none⟩ = some (.int .i64 op) ∧ w'.cell? ⟨w.heap.size, 1, none⟩ = some (.int .i64 nn) ∧ w'.cell? ⟨w.heap.size, 2, none⟩ = some (.string nm) ∧ w'.cell? ⟨w.heap.size, 3, none⟩ = some (.slice A0 ar.length c0) ∧ Hid (Below W0.heap.size W0 w')) (first | (with_reducible assumption) | (exact ⟨y0, y1, y2, y3, Lib.hid (bdrew HB0.out)⟩))
          (first
            | (go_at_call 42; (with_reducible refine (over_calls A1 l1.length c1 _).mono ?_); rintro e wo ⟨rfl, hw⟩; have hbo := allocE hw; have hnew := keepE (b := w.heap.size) (op := op) (nn := nn) (nm := nm) (A0 := A0) (c0 := c0) (ar := ar) (W0 := W0) HSZ.out (by assumption) hbo; have HWO := Lib.hid (fromE (b := w.heap.size) (op := op) (nn := nn) (nm := nm) (A0 := A0) (c0 := c0) (ar := ar) (W0 := W0) hnew); have hxo := has57 _ A1 c1 l1 wo (cellE hw) (Kd.C_below HC1.out HWO.out) HCC1.out HL1.out; have HXO := Lib.hid (show HasOK 57 W0.heap.size (hasF l1) wo from hxo); clear hw hbo hxo)
            | (go_at_call 32; (with_reducible refine (visit_F 57 (Lib.hid fun _ _ => rfl) (hasF l1) W0.drew.heap.size 8 (by omega) op nn nm ar HL.out A0 c0 1 wo (by decide) (HG.out.below HWO.out) HXO.out (Kd.C_below HC.out HWO.out) HCC.out).mono ?_); rintro e wz ⟨rfl, hb⟩; have hnew2 := keepE (b := w.heap.size) (op := op) (nn := nn) (nm := nm) (A0 := A0) (c0 := c0) (ar := ar) (W0 := W0) HSZ.out (by assumption) hb; have HWZ := Lib.hid (fromE (b := w.heap.size) (op := op) (nn := nn) (nm := nm) (A0 := A0) (c0 := c0) (ar := ar) (W0 := W0) hnew2); clear hb)
            | (go_at_call 32; (with_reducible refine (visit_F 57 (Lib.hid fun _ _ => rfl) (hasF l1) W0.heap.size 8 (by omega) op nn nm ar HL.out A0 c0 1 wo (by decide) (HG.out.below HWO.out) HXO.out (Kd.C_below HC.out HWO.out) HCC.out).mono ?_); rintro e wz ⟨rfl, hb⟩; have hnew2 := keepE (b := w.heap.size) (op := op) (nn := nn) (nm := nm) (A0 := A0) (c0 := c0) (ar := ar) (W0 := W0) HSZ.out (by assumption) hb; have HWZ := Lib.hid (fromE (b := w.heap.size) (op := op) (nn := nn) (nm := nm) (A0 := A0) (c0 := c0) (ar := ar) (W0 := W0) hnew2); clear hb))
    all_goals go_wp2
    all_goals go_ret2
    all_goals exact ⟨rfl, HB.out.trans (HWZ.out.mono HB.out.size)⟩
  case false =>
    have hv2 : visitN (hasF l1) 8 ⟨op, nn, nm, ar⟩ = 0 := by simpa using hv
    rw [if_pos hv2] at hf
    obtain ⟨⟨n, ok⟩, hval, hf⟩ := Option.bind_eq_some_iff.1 hf
    have HV := Lib.hid (show rule_value.f k op nn nm ar l1 = some (n, ok) from hval)
    clear hv2 hval
    cases ok
    all_goals (
      simp only [Bool.false_eq_true, if_false, if_true, Option.some.injEq, Prod.mk.injEq] at hf
      obtain ⟨rfl, rfl⟩ := hf
      go_enter Tryd.func19, Tryd.ntmps19
      go_wp2
      rw [← HWW.out]
      go_region_held3 (fun w' => w'.cell? ⟨w.heap.size, 0, none⟩ = some (.int .i64 op) ∧ w'.cell? ⟨w.heap.size, 1, none⟩ = some (.int .i64 nn) ∧ w'.cell? ⟨w.heap.size, 2, none⟩ = some (.string nm) ∧ w'.cell? ⟨w.heap.size, 3, none⟩ = some (.slice A0 ar.length c0) ∧ Hid (Below W0.heap.size W0 w')) (first | (with_reducible assumption) | (exact ⟨y0, y1, y2, y3, Lib.hid (bdrew HB0.out)⟩))
          (first
              | (go_at_call 42; (with_reducible refine (over_calls A1 l1.length c1 _).mono ?_); rintro e wo ⟨rfl, hw⟩; have hbo := allocE hw; have hnew := keepE (b := w.heap.size) (op := op) (nn := nn) (nm := nm) (A0 := A0) (c0 := c0) (ar := ar) (W0 := W0) HSZ.out (by assumption) hbo; have HWO := Lib.hid (fromE (b := w.heap.size) (op := op) (nn := nn) (nm := nm) (A0 := A0) (c0 := c0) (ar := ar) (W0 := W0) hnew); have hxo := has57 _ A1 c1 l1 wo (cellE hw) (Kd.C_below HC1.out HWO.out) HCC1.out HL1.out; have HXO := Lib.hid (show HasOK 57 W0.heap.size (hasF l1) wo from hxo); clear hw hbo hxo)
              | (go_at_call 32; (with_reducible refine (visit_F 57 (Lib.hid fun _ _ => rfl) (hasF l1) W0.drew.heap.size 8 (by omega) op nn nm ar HL.out A0 c0 1 wo (by decide) (HG.out.below HWO.out) HXO.out (Kd.C_below HC.out HWO.out) HCC.out).mono ?_); rintro e wz ⟨rfl, hb⟩; have hnew2 := keepE (b := w.heap.size) (op := op) (nn := nn) (nm := nm) (A0 := A0) (c0 := c0) (ar := ar) (W0 := W0) HSZ.out (by assumption) hb; have HWZ := Lib.hid (fromE (b := w.heap.size) (op := op) (nn := nn) (nm := nm) (A0 := A0) (c0 := c0) (ar := ar) (W0 := W0) hnew2); clear hb)
              | (go_at_call 32; (with_reducible refine (visit_F 57 (Lib.hid fun _ _ => rfl) (hasF l1) W0.heap.size 8 (by omega) op nn nm ar HL.out A0 c0 1 wo (by decide) (HG.out.below HWO.out) HXO.out (Kd.C_below HC.out HWO.out) HCC.out).mono ?_); rintro e wz ⟨rfl, hb⟩; have hnew2 := keepE (b := w.heap.size) (op := op) (nn := nn) (nm := nm) (A0 := A0) (c0 := c0) (ar := ar) (W0 := W0) HSZ.out (by assumption) hb; have HWZ := Lib.hid (fromE (b := w.heap.size) (op := op) (nn := nn) (nm := nm) (A0 := A0) (c0 := c0) (ar := ar) (W0 := W0) hnew2); clear hb))
      all_goals go_wp2_with (go_at_call 43; (with_reducible refine (rule_value.calls k op nn nm A0 c0 ar A1 c1 l1 _ _ wz (Kd.C_below HC.out HWZ.out) HCC.out (Kd.C_below HC1.out HWZ.out) HCC1.out HV.out).mono ?_); rintro e wv ⟨rfl, hb⟩; have HWV := Lib.hid (HWZ.out.trans (hb.mono HWZ.out.size)); clear hb)
      all_goals go_ret2
      all_goals exact ⟨rfl, HB.out.trans (HWV.out.mono HB.out.size)⟩)
theorem rule_Eval.calls (k : Nat) (a0_0 : Int) (a0_1 : Int) (a0_2 : ByteArray) (A0_3 : Option Addr) (c0_3 : Nat) (l0_3 : List S24) (A1 : Option Addr) (c1 : Nat) (l1 : List S40) (r1 : Int) (r2 : Int) (w : World) (hr0_3 : Kd.C k24 w A0_3 l0_3.length l0_3) (hc0_3 : l0_3.length ≤ c0_3) (hr1 : Kd.C k40 w A1 l1.length l1) (hc1 : l1.length ≤ c1) (hG : GlobG w) (h : rule_Eval.f k a0_0 a0_1 a0_2 l0_3 l1 = some (r1, r2)) :
    Calls Tryd.prog 19 #[.agg #[.int .i64 a0_0, .int .i64 a0_1, .string a0_2, .slice A0_3 l0_3.length c0_3], .slice A1 l1.length c1] w fun e w' => e = .returned (.tuple #[.int .i64 r1, .int .i64 r2]) ∧ Below w.heap.size w w' := by
  unfold rule_Eval.f at h
  split at h
  · rename_i hl
    simp only [Bool.and_eq_true, limL, decide_eq_true_eq] at hl
    exact eval_walk _ _ _ _ _ _ _ _ _ _ _ _ _ hr0_3 hc0_3 hr1 hc1 hG hl.1 hl.2 h
  · cases h
end Go.Proofs.YthdgofbchfcfcaaDoor.PRu

set_option linter.unusedVariables false
set_option linter.unusedSimpArgs false
namespace Go.Proofs.YthdgofbchfcfcaaDoor.PRu
open Go.RowKit Go.Proofs.YthdgofbchfcfcaaDoorW.PrintWords Go.Proofs.YthdgofbchfcfcaaDoorW.PrintLast Go.Proofs.YthdgofbchfcfcaaDoorW.PrintMore
theorem has46 (b : Nat) (A : Option Addr) (c : Nat) (l : List ByteArray) (w : World) (hx : w.cell? ⟨b, 0, none⟩ = some (.slice A l.length c)) (hC : Kd.C Kd.string w A l.length l) (hl : l.length < 4611686018427387904) : HasOK 46 b (hasN l) w := by
  intro w' hb s
  have hx2 : w'.cell? ⟨b, 0, none⟩ = some (.slice A l.length c) := (hb.cell (World.block_lt_of_cell? w _ hx)).trans hx
  have HC := Lib.hid (Kd.C_below hC hb)
  clear hx hC hb
  go_enter Tryd.func46, Tryd.ntmps46
  go_wp2_with (go_at_call 34; (with_reducible refine (contains_calls A c l s _ HC.out hl).mono ?_); rintro e wz ⟨rfl, hb⟩; have HB := Lib.hid hb; clear hb)
  go_ret
  exact ⟨rfl, HB.out⟩
/-- The first value that is not 0. -/
def firstR (g : S47 → Int) : List S47 → Int
  | [] => 0
  | a :: l => if g a = 0 then firstR g l else g a
theorem firstR_take {g : S47 → Int} : ∀ (l : List S47) (k : Nat), firstR g (l.take k) = 0 → (h : k < l.length) → firstR g l = if g l[k] = 0 then firstR g l else g l[k]
  | [], k, _, h => by simp at h
  | a :: l, 0, _, h => by
    show firstR g (a :: l) = if g a = 0 then firstR g (a :: l) else g a
    by_cases ha : g a = 0
    · rw [if_pos ha]
    · rw [if_neg ha, firstR, if_neg ha]
  | a :: l, k + 1, h0, h => by
    simp only [List.take_succ_cons, firstR] at h0
    by_cases ha : g a = 0
    · rw [if_pos ha] at h0
      have := firstR_take l k h0 (by simpa using h)
      simp only [firstR, ha, if_true, List.getElem_cons_succ]
      exact this
    · rw [if_neg ha] at h0; exact absurd h0 ha
theorem firstR_next {g : S47 → Int} : ∀ (l : List S47) (k : Nat), firstR g (l.take k) = 0 → (h : k < l.length) → g l[k] = 0 → firstR g (l.take (k + 1)) = 0
  | [], k, _, h, _ => by simp at h
  | a :: l, 0, _, h, h1 => by simp [firstR]; exact fun h2 => absurd h1 h2
  | a :: l, k + 1, h0, h, h1 => by
    simp only [List.take_succ_cons, firstR] at h0 ⊢
    by_cases ha : g a = 0
    · rw [if_pos ha] at h0 ⊢
      exact firstR_next l k h0 (by simpa using h) (by simpa using h1)
    · rw [if_neg ha] at h0; exact absurd h0 ha
def ruleE (has : ByteArray → Bool) (r : S47) : Int :=
  if r.f0 < 0 then 26 else if 9 < r.f0 then 26 else if visitN has 8 r.f1 = 0 then (if condF r.f1.f0 = true then 0 else 27) else visitN has 8 r.f1
def rulesF (has : ByteArray → Bool) (l : List S47) : Int := if 32 < (l.length : Int) then 4 else firstR (ruleE has) l
theorem rd_at47 (l : List S47) (k : Nat) (h : k < l.length) : rd_T47 l (k : Int) = l[k] := by simp [rd_T47, h]
theorem fiveC {w : World} {b : Nat} {t : TypeId} {v0 v1 v2 v3 v4 : Value} (h : w.heap[b]? = some (.cells #[v0, v1, v2, v3, v4] t)) : w.cell? ⟨b, 0, none⟩ = some v0 ∧ w.cell? ⟨b, 1, none⟩ = some v1 ∧ w.cell? ⟨b, 2, none⟩ = some v2 ∧ w.cell? ⟨b, 3, none⟩ = some v3 ∧ w.cell? ⟨b, 4, none⟩ = some v4 := by
  simp only [World.cell?, h]
  exact ⟨rfl, rfl, rfl, rfl, rfl⟩
def limR (l : List S47) : Bool := limL l.length && l.all fun r => limB 8 r.f1
theorem limR_at {l : List S47} (h : limR l = true) (k : Nat) (hk : k < l.length) : limB 8 l[k].f1 = true := by
  simp only [limR, Bool.and_eq_true] at h
  exact List.all_eq_true.1 h.2 _ (List.getElem_mem hk)
theorem limR_len {l : List S47} (h : limR l = true) : l.length < 4611686018427387904 := by
  simp only [limR, Bool.and_eq_true, limL, decide_eq_true_eq] at h
  exact h.1
theorem results_tmp3 {fn : Func} {t u v : Tmp} (h : fn.results = #[.tmp t, .tmp u, .tmp v]) (tmps : Array Value) (P : Program) (w : World) :
    (results fn tmps).run P w = .ok (.tuple #[tmps.getD t undef, tmps.getD u undef, tmps.getD v undef]) w := by
  simp only [results, h]
  simp [Sem.run_bind, Result.andThen]
theorem visitA_46 (has : ByteArray → Bool) (b : Nat) (a : S24) (hl : limB 8 a = true) (A : Option Addr) (c : Nat) (w : World) (hG : GlobG w) (hH : HasOK 46 b has w) (hC : Kd.C k24 w A a.f3.length a.f3) (hc : a.f3.length ≤ c) :
    Calls Tryd.prog 32 #[.agg #[.int .i64 a.f0, .int .i64 a.f1, .string a.f2, .slice A a.f3.length c], .int .i64 1, .func (.func 46) #[] #[.pointer (some ⟨b, 0, none⟩)]] w fun e' w' => e' = .returned (.int .i64 (visitN has 8 a)) ∧ Below w.heap.size w w' := by
  obtain ⟨x0, x1, x2, x3⟩ := a
  exact visit_F 46 (Lib.hid fun _ _ => rfl) has b 8 (by omega) x0 x1 x2 x3 hl A c 1 w (by decide) hG hH hC hc
set_option maxRecDepth 100000 in
set_option maxHeartbeats 1000000 in
theorem rules_46 (has : ByteArray → Bool) (b : Nat) (l : List S47) (A : Option Addr) (c : Nat) (w : World) (hG : GlobG w) (hH : HasOK 46 b has w) (hC : Kd.C k47 w A l.length l) (hlim : limR l = true) :
    Calls Tryd.prog 45 #[.slice A l.length c, .func (.func 46) #[] #[.pointer (some ⟨b, 0, none⟩)]] w fun e w' => e = .returned (.int .i64 (rulesF has l)) ∧ Below w.heap.size w w' := by
  have HG := Lib.hid hG
  have HH := Lib.hid hH
  have HC := Lib.hid hC
  have HLM := Lib.hid hlim
  have hlen := limR_len hlim
  clear hG hH hC hlim
  unfold rulesF
  by_cases h32 : 32 < (l.length : Int)
  · rw [if_pos h32]
    have h32b : decide (32 < (l.length : Int)) = true := decide_eq_true h32
    go_enter Tryd.func45, Tryd.ntmps45
    go_wp2
    go_ret
    exact ⟨rfl, Below.refl _ _⟩
  · rw [if_neg h32]
    have h32b : decide (32 < (l.length : Int)) = false := decide_eq_false h32
    go_enter Tryd.func45, Tryd.ntmps45
    go_wp2
    clear h32b
    go_loopw [13] (fun i wr => ∃ (k : Nat), i = .int .i64 (k : Int) ∧ k ≤ l.length ∧ firstR (ruleE has) (l.take k) = 0 ∧ Below w.heap.size w wr) (fun i _ => l.length - (intOf i).toNat)
    case atStart => exact ⟨0, rfl, Nat.zero_le _, rfl, Below.refl _ _⟩
    case round =>
      obtain ⟨k, rfl, hk, hfk, hbw⟩ := hrel
      have HB1 := Lib.hid hbw
      have HFK := Lib.hid hfk
      clear hbw hfk
      by_cases hlt : k < l.length
      · have hlt2 : (k : Int) < (l.length : Int) := by omega
        obtain ⟨ad, A3, c3, rfl, x0, x1, x2, x3, x4, hc3, hC3⟩ := at_T47 (Kd.C_below HC.out HB1.out) (k : Int) (by omega) hlt2
        rw [rd_at47 _ _ hlt] at x0 x1 x2 x3 x4 hc3 hC3
        rw [Int.toNat_natCast] at x0 x1 x2 x3 x4
        obtain ⟨r, hr⟩ : ∃ r, r = l[k] := ⟨_, rfl⟩
        rw [← hr] at x0 x1 x2 x3 x4 hc3 hC3
        have HA := Lib.hid hr
        have HLA := Lib.hid (show limB 8 r.f1 = true by rw [hr]; exact limR_at HLM.out k hlt)
        obtain ⟨wy, hwy⟩ : ∃ wy, wy = wr.alloc (.cells #[.int .i64 r.f0, .int .i64 r.f1.f0, .int .i64 r.f1.f1, .string r.f1.f2, .slice A3 r.f1.f3.length c3] 47) := ⟨_, rfl⟩
        have hbel2 : Below wr.heap.size wr wy := hwy ▸ (Below.refl _ _).alloc (Nat.le_refl _) _
        have HB2 := Lib.hid (HB1.out.trans (hbel2.mono HB1.out.size))
        have HC5 := Lib.hid (Kd.C_below hC3 hbel2)
        have HC4 := Lib.hid hc3
        have hyb : wy.heap[wr.heap.size]? = some (.cells #[.int .i64 r.f0, .int .i64 r.f1.f0, .int .i64 r.f1.f1, .string r.f1.f2, .slice A3 r.f1.f3.length c3] 47) := by rw [hwy]; exact (MapKept.heap_alloc wr _).1
        have HYB := Lib.hid hyb
        have HYS := Lib.hid (show wr.heap.size < wy.heap.size from (Array.getElem?_eq_some_iff.1 hyb).1)
        have HWY := Lib.hid hwy
        clear hr hC3 hc3 hbel2 hwy hyb
        have HFX := Lib.hid (show firstR (ruleE has) l = if ruleE has r = 0 then firstR (ruleE has) l else ruleE has r by rw [HA.out]; exact firstR_take l k HFK.out hlt)
        have HN := Lib.hid (show ruleE has r = 0 → firstR (ruleE has) (l.take (k + 1)) = 0 from fun h => firstR_next l k HFK.out hlt (by rw [← HA.out]; exact h))
        by_cases g0 : r.f0 < 0
        · have g0b : decide (r.f0 < 0) = true := decide_eq_true g0
          have G0 := Lib.hid g0
          clear g0
          go_wp2
          rw [← HWY.out]
          go_ret
          exact ⟨by rw [HFX.out, (show ruleE has r = 26 from by unfold ruleE; rw [if_pos G0.out]), if_neg (by decide)]; rfl, HB2.out⟩
        · have g0b : decide (r.f0 < 0) = false := decide_eq_false g0
          have G0 := Lib.hid g0
          clear g0
          by_cases g1 : 9 < r.f0
          · have g1b : decide (9 < r.f0) = true := decide_eq_true g1
            have G1 := Lib.hid g1
            clear g1
            go_wp2
            rw [← HWY.out]
            go_ret
            exact ⟨by rw [HFX.out, (show ruleE has r = 26 from by unfold ruleE; rw [if_neg (show ¬ r.f0 < 0 by have := G0.out; omega), if_pos G1.out]), if_neg (by decide)]; rfl, HB2.out⟩
          · have g1b : decide (9 < r.f0) = false := decide_eq_false g1
            have G1 := Lib.hid g1
            clear g1
            cases hv : (visitN has 8 r.f1 != 0)
            case true =>
              go_wp2_with (go_at_call 32; rw [← HWY.out]; (with_reducible refine (visitA_46 has b r.f1 HLA.out A3 c3 wy (HG.out.below HB2.out) (HH.out.below HB2.out) HC5.out HC4.out).mono ?_); rintro e wz ⟨rfl, hb⟩; have HB3 := Lib.hid (HB2.out.trans (hb.mono HB2.out.size)); obtain ⟨z0, z1, z2, z3, z4⟩ := fiveC ((hb.block _ HYS.out).trans HYB.out); clear hb)
              go_ret
              exact ⟨by rw [HFX.out, (show ruleE has r = visitN has 8 r.f1 from by unfold ruleE; rw [if_neg (show ¬ r.f0 < 0 by have := G0.out; omega), if_neg (show ¬ 9 < r.f0 by have := G1.out; omega), if_neg (bne_iff_ne.1 hv)]), if_neg (bne_iff_ne.1 hv)]; rfl, HB3.out⟩
            case false =>
              have HV := Lib.hid (show visitN has 8 r.f1 = 0 by simpa using hv)
              cases hcd : condF r.f1.f0
              case false =>
                go_wp2_with (first
                  | (go_at_call 32; rw [← HWY.out]; (with_reducible refine (visitA_46 has b r.f1 HLA.out A3 c3 wy (HG.out.below HB2.out) (HH.out.below HB2.out) HC5.out HC4.out).mono ?_); rintro e wz ⟨rfl, hb⟩; have HB3 := Lib.hid (HB2.out.trans (hb.mono HB2.out.size)); obtain ⟨z0, z1, z2, z3, z4⟩ := fiveC ((hb.block _ HYS.out).trans HYB.out); clear hb)
                  | (go_at_call 35; (with_reducible refine (cond_calls r.f1.f0 r.f1.f1 r.f1.f2 A3 r.f1.f3.length c3 _ (HG.out.below HB3.out)).mono ?_); rw [hcd]; rintro e wc ⟨rfl, hb⟩; have HB4 := Lib.hid (HB3.out.trans (hb.mono HB3.out.size)); clear hb))
                go_ret
                exact ⟨by rw [HFX.out, (show ruleE has r = 27 from by unfold ruleE; rw [if_neg (show ¬ r.f0 < 0 by have := G0.out; omega), if_neg (show ¬ 9 < r.f0 by have := G1.out; omega), if_pos HV.out, hcd]; rfl), if_neg (by decide)]; rfl, HB4.out⟩
              case true =>
                go_wp2_with (first
                  | (go_at_call 32; rw [← HWY.out]; (with_reducible refine (visitA_46 has b r.f1 HLA.out A3 c3 wy (HG.out.below HB2.out) (HH.out.below HB2.out) HC5.out HC4.out).mono ?_); rintro e wz ⟨rfl, hb⟩; have HB3 := Lib.hid (HB2.out.trans (hb.mono HB2.out.size)); obtain ⟨z0, z1, z2, z3, z4⟩ := fiveC ((hb.block _ HYS.out).trans HYB.out); clear hb)
                  | (go_at_call 35; (with_reducible refine (cond_calls r.f1.f0 r.f1.f1 r.f1.f2 A3 r.f1.f3.length c3 _ (HG.out.below HB3.out)).mono ?_); rw [hcd]; rintro e wc ⟨rfl, hb⟩; have HB4 := Lib.hid (HB3.out.trans (hb.mono HB3.out.size)); clear hb))
                exact ⟨⟨k + 1, congrArg _ (by omega), by omega, HN.out (by unfold ruleE; rw [if_neg (show ¬ r.f0 < 0 by have := G0.out; omega), if_neg (show ¬ 9 < r.f0 by have := G1.out; omega), if_pos HV.out, hcd]; rfl), HB4.out⟩, by simp [intOf]; omega⟩
      · have hkl : k = l.length := by omega
        have HD := Lib.hid (show firstR (ruleE has) l = 0 by have := HFK.out; rwa [hkl, List.take_length] at this)
        clear hkl
        go_wp2
        go_ret
        exact ⟨by rw [HD.out]; rfl, HB1.out⟩
theorem visitA_57 (has : ByteArray → Bool) (b : Nat) (a : S24) (hl : limB 8 a = true) (A : Option Addr) (c : Nat) (w : World) (hG : GlobG w) (hH : HasOK 57 b has w) (hC : Kd.C k24 w A a.f3.length a.f3) (hc : a.f3.length ≤ c) :
    Calls Tryd.prog 32 #[.agg #[.int .i64 a.f0, .int .i64 a.f1, .string a.f2, .slice A a.f3.length c], .int .i64 1, .func (.func 57) #[] #[.pointer (some ⟨b, 0, none⟩)]] w fun e' w' => e' = .returned (.int .i64 (visitN has 8 a)) ∧ Below w.heap.size w w' := by
  obtain ⟨x0, x1, x2, x3⟩ := a
  exact visit_F 57 (Lib.hid fun _ _ => rfl) has b 8 (by omega) x0 x1 x2 x3 hl A c 1 w (by decide) hG hH hC hc
set_option maxRecDepth 100000 in
set_option maxHeartbeats 1000000 in
theorem rules_57 (has : ByteArray → Bool) (b : Nat) (l : List S47) (A : Option Addr) (c : Nat) (w : World) (hG : GlobG w) (hH : HasOK 57 b has w) (hC : Kd.C k47 w A l.length l) (hlim : limR l = true) :
    Calls Tryd.prog 45 #[.slice A l.length c, .func (.func 57) #[] #[.pointer (some ⟨b, 0, none⟩)]] w fun e w' => e = .returned (.int .i64 (rulesF has l)) ∧ Below w.heap.size w w' := by
  have HG := Lib.hid hG
  have HH := Lib.hid hH
  have HC := Lib.hid hC
  have HLM := Lib.hid hlim
  have hlen := limR_len hlim
  clear hG hH hC hlim
  unfold rulesF
  by_cases h32 : 32 < (l.length : Int)
  · rw [if_pos h32]
    have h32b : decide (32 < (l.length : Int)) = true := decide_eq_true h32
    go_enter Tryd.func45, Tryd.ntmps45
    go_wp2
    go_ret
    exact ⟨rfl, Below.refl _ _⟩
  · rw [if_neg h32]
    have h32b : decide (32 < (l.length : Int)) = false := decide_eq_false h32
    go_enter Tryd.func45, Tryd.ntmps45
    go_wp2
    clear h32b
    go_loopw [13] (fun i wr => ∃ (k : Nat), i = .int .i64 (k : Int) ∧ k ≤ l.length ∧ firstR (ruleE has) (l.take k) = 0 ∧ Below w.heap.size w wr) (fun i _ => l.length - (intOf i).toNat)
    case atStart => exact ⟨0, rfl, Nat.zero_le _, rfl, Below.refl _ _⟩
    case round =>
      obtain ⟨k, rfl, hk, hfk, hbw⟩ := hrel
      have HB1 := Lib.hid hbw
      have HFK := Lib.hid hfk
      clear hbw hfk
      by_cases hlt : k < l.length
      · have hlt2 : (k : Int) < (l.length : Int) := by omega
        obtain ⟨ad, A3, c3, rfl, x0, x1, x2, x3, x4, hc3, hC3⟩ := at_T47 (Kd.C_below HC.out HB1.out) (k : Int) (by omega) hlt2
        rw [rd_at47 _ _ hlt] at x0 x1 x2 x3 x4 hc3 hC3
        rw [Int.toNat_natCast] at x0 x1 x2 x3 x4
        obtain ⟨r, hr⟩ : ∃ r, r = l[k] := ⟨_, rfl⟩
        rw [← hr] at x0 x1 x2 x3 x4 hc3 hC3
        have HA := Lib.hid hr
        have HLA := Lib.hid (show limB 8 r.f1 = true by rw [hr]; exact limR_at HLM.out k hlt)
        obtain ⟨wy, hwy⟩ : ∃ wy, wy = wr.alloc (.cells #[.int .i64 r.f0, .int .i64 r.f1.f0, .int .i64 r.f1.f1, .string r.f1.f2, .slice A3 r.f1.f3.length c3] 47) := ⟨_, rfl⟩
        have hbel2 : Below wr.heap.size wr wy := hwy ▸ (Below.refl _ _).alloc (Nat.le_refl _) _
        have HB2 := Lib.hid (HB1.out.trans (hbel2.mono HB1.out.size))
        have HC5 := Lib.hid (Kd.C_below hC3 hbel2)
        have HC4 := Lib.hid hc3
        have hyb : wy.heap[wr.heap.size]? = some (.cells #[.int .i64 r.f0, .int .i64 r.f1.f0, .int .i64 r.f1.f1, .string r.f1.f2, .slice A3 r.f1.f3.length c3] 47) := by rw [hwy]; exact (MapKept.heap_alloc wr _).1
        have HYB := Lib.hid hyb
        have HYS := Lib.hid (show wr.heap.size < wy.heap.size from (Array.getElem?_eq_some_iff.1 hyb).1)
        have HWY := Lib.hid hwy
        clear hr hC3 hc3 hbel2 hwy hyb
        have HFX := Lib.hid (show firstR (ruleE has) l = if ruleE has r = 0 then firstR (ruleE has) l else ruleE has r by rw [HA.out]; exact firstR_take l k HFK.out hlt)
        have HN := Lib.hid (show ruleE has r = 0 → firstR (ruleE has) (l.take (k + 1)) = 0 from fun h => firstR_next l k HFK.out hlt (by rw [← HA.out]; exact h))
        by_cases g0 : r.f0 < 0
        · have g0b : decide (r.f0 < 0) = true := decide_eq_true g0
          have G0 := Lib.hid g0
          clear g0
          go_wp2
          rw [← HWY.out]
          go_ret
          exact ⟨by rw [HFX.out, (show ruleE has r = 26 from by unfold ruleE; rw [if_pos G0.out]), if_neg (by decide)]; rfl, HB2.out⟩
        · have g0b : decide (r.f0 < 0) = false := decide_eq_false g0
          have G0 := Lib.hid g0
          clear g0
          by_cases g1 : 9 < r.f0
          · have g1b : decide (9 < r.f0) = true := decide_eq_true g1
            have G1 := Lib.hid g1
            clear g1
            go_wp2
            rw [← HWY.out]
            go_ret
            exact ⟨by rw [HFX.out, (show ruleE has r = 26 from by unfold ruleE; rw [if_neg (show ¬ r.f0 < 0 by have := G0.out; omega), if_pos G1.out]), if_neg (by decide)]; rfl, HB2.out⟩
          · have g1b : decide (9 < r.f0) = false := decide_eq_false g1
            have G1 := Lib.hid g1
            clear g1
            cases hv : (visitN has 8 r.f1 != 0)
            case true =>
              go_wp2_with (go_at_call 32; rw [← HWY.out]; (with_reducible refine (visitA_57 has b r.f1 HLA.out A3 c3 wy (HG.out.below HB2.out) (HH.out.below HB2.out) HC5.out HC4.out).mono ?_); rintro e wz ⟨rfl, hb⟩; have HB3 := Lib.hid (HB2.out.trans (hb.mono HB2.out.size)); obtain ⟨z0, z1, z2, z3, z4⟩ := fiveC ((hb.block _ HYS.out).trans HYB.out); clear hb)
              go_ret
              exact ⟨by rw [HFX.out, (show ruleE has r = visitN has 8 r.f1 from by unfold ruleE; rw [if_neg (show ¬ r.f0 < 0 by have := G0.out; omega), if_neg (show ¬ 9 < r.f0 by have := G1.out; omega), if_neg (bne_iff_ne.1 hv)]), if_neg (bne_iff_ne.1 hv)]; rfl, HB3.out⟩
            case false =>
              have HV := Lib.hid (show visitN has 8 r.f1 = 0 by simpa using hv)
              cases hcd : condF r.f1.f0
              case false =>
                go_wp2_with (first
                  | (go_at_call 32; rw [← HWY.out]; (with_reducible refine (visitA_57 has b r.f1 HLA.out A3 c3 wy (HG.out.below HB2.out) (HH.out.below HB2.out) HC5.out HC4.out).mono ?_); rintro e wz ⟨rfl, hb⟩; have HB3 := Lib.hid (HB2.out.trans (hb.mono HB2.out.size)); obtain ⟨z0, z1, z2, z3, z4⟩ := fiveC ((hb.block _ HYS.out).trans HYB.out); clear hb)
                  | (go_at_call 35; (with_reducible refine (cond_calls r.f1.f0 r.f1.f1 r.f1.f2 A3 r.f1.f3.length c3 _ (HG.out.below HB3.out)).mono ?_); rw [hcd]; rintro e wc ⟨rfl, hb⟩; have HB4 := Lib.hid (HB3.out.trans (hb.mono HB3.out.size)); clear hb))
                go_ret
                exact ⟨by rw [HFX.out, (show ruleE has r = 27 from by unfold ruleE; rw [if_neg (show ¬ r.f0 < 0 by have := G0.out; omega), if_neg (show ¬ 9 < r.f0 by have := G1.out; omega), if_pos HV.out, hcd]; rfl), if_neg (by decide)]; rfl, HB4.out⟩
              case true =>
                go_wp2_with (first
                  | (go_at_call 32; rw [← HWY.out]; (with_reducible refine (visitA_57 has b r.f1 HLA.out A3 c3 wy (HG.out.below HB2.out) (HH.out.below HB2.out) HC5.out HC4.out).mono ?_); rintro e wz ⟨rfl, hb⟩; have HB3 := Lib.hid (HB2.out.trans (hb.mono HB2.out.size)); obtain ⟨z0, z1, z2, z3, z4⟩ := fiveC ((hb.block _ HYS.out).trans HYB.out); clear hb)
                  | (go_at_call 35; (with_reducible refine (cond_calls r.f1.f0 r.f1.f1 r.f1.f2 A3 r.f1.f3.length c3 _ (HG.out.below HB3.out)).mono ?_); rw [hcd]; rintro e wc ⟨rfl, hb⟩; have HB4 := Lib.hid (HB3.out.trans (hb.mono HB3.out.size)); clear hb))
                exact ⟨⟨k + 1, congrArg _ (by omega), by omega, HN.out (by unfold ruleE; rw [if_neg (show ¬ r.f0 < 0 by have := G0.out; omega), if_neg (show ¬ 9 < r.f0 by have := G1.out; omega), if_pos HV.out, hcd]; rfl), HB4.out⟩, by simp [intOf]; omega⟩
      · have hkl : k = l.length := by omega
        have HD := Lib.hid (show firstR (ruleE has) l = 0 by have := HFK.out; rwa [hkl, List.take_length] at this)
        clear hkl
        go_wp2
        go_ret
        exact ⟨by rw [HD.out]; rfl, HB1.out⟩
def rule_CheckRules.f (l0 : List S47) (l1 : List ByteArray) : Option Int := if (limR l0 && limL l1.length) = true then some (rulesF (hasN l1) l0) else none
theorem rule_CheckRules.calls (A0 : Option Addr) (c0 : Nat) (l0 : List S47) (A1 : Option Addr) (c1 : Nat) (l1 : List ByteArray) (r : Int) (w : World) (hr0 : Kd.C k47 w A0 l0.length l0) (hc0 : l0.length ≤ c0) (hr1 : Kd.C Kd.string w A1 l1.length l1) (hc1 : l1.length ≤ c1) (hG : GlobG w) (h : rule_CheckRules.f l0 l1 = some r) :
    Calls Tryd.prog 28 #[.slice A0 l0.length c0, .slice A1 l1.length c1] w fun e w' => e = .returned (.int .i64 r) ∧ Below w.heap.size w w' := by
  unfold rule_CheckRules.f at h
  split at h
  · rename_i hl
    simp only [Bool.and_eq_true, limL, decide_eq_true_eq] at hl
    injection h with h
    subst h
    obtain ⟨W0, hW0⟩ : ∃ W0, W0 = w.alloc (.cells #[.slice A1 l1.length c1] 29) := ⟨_, rfl⟩
    have hbel := allocE hW0
    have HB := Lib.hid hbel
    have HC := Lib.hid (Kd.C_below hr0 hbel)
    have HG := Lib.hid (hG.below hbel)
    have HX := Lib.hid (has46 w.heap.size A1 c1 l1 W0 (cellE hW0) (Kd.C_below hr1 hbel) hl.2)
    have HL := Lib.hid hl.1
    have HWW := Lib.hid hW0
    clear hbel hr0 hr1 hG hl hW0
    go_enter Tryd.func28, Tryd.ntmps28
    go_wp2_with (go_at_call 45; rw [← HWW.out]; (with_reducible refine (rules_46 (hasN l1) w.heap.size l0 A0 c0 W0 HG.out HX.out HC.out HL.out).mono ?_); rintro e wz ⟨rfl, hb⟩; have HB2 := Lib.hid (HB.out.trans (hb.mono HB.out.size)); clear hb)
    go_ret
    exact ⟨rfl, HB2.out⟩
  · cases h
def gradeL (k : Nat) (f : List S40) : List S47 → Int → Option (Int × Int × Int)
  | [], _ => some (0, -1, 0)
  | r :: l, i => (rule_value.f k r.f1.f0 r.f1.f1 r.f1.f2 r.f1.f3 f).bind fun v => if v.2 = true then (if v.1 = 1 then some (r.f0, i, 0) else gradeL k f l (i + 1)) else some (0, 0, 9)
def gradeF (k : Nat) (l : List S47) (f : List S40) : Option (Int × Int × Int) := if rulesF (hasF f) l = 0 then gradeL k f l 0 else some (0, 0, rulesF (hasF f) l)
def rule_Grade.f (k : Nat) (l0 : List S47) (l1 : List S40) : Option (Int × Int × Int) := if (limR l0 && limL l1.length) = true then gradeF k l0 l1 else none
theorem gradeL_mono (k : Nat) (f : List S40) : ∀ (l : List S47) (i : Int), LeO (gradeL k f l i) (gradeL (k + 1) f l i)
  | [], _ => LeO.refl _
  | r :: l, i => by
    unfold gradeL
    exact LeO.bind (rule_value.mono _ _ _ _ _ _) (fun _ => LeO.ite (LeO.ite (LeO.refl _) (gradeL_mono k f l _)) (LeO.refl _))
theorem rule_Grade.mono : ∀ a0 a1 k, LeO (rule_Grade.f k a0 a1) (rule_Grade.f (k + 1) a0 a1) := by
  intro a0 a1 k
  unfold rule_Grade.f gradeF
  exact LeO.ite (LeO.ite (gradeL_mono _ _ _ _) (LeO.refl _)) (LeO.refl _)
theorem gradeL_drop {kk : Nat} {f : List S40} {l : List S47} {k : Nat} (h : k < l.length) (i : Int) : gradeL kk f (l.drop k) i = (rule_value.f kk l[k].f1.f0 l[k].f1.f1 l[k].f1.f2 l[k].f1.f3 f).bind fun v => if v.2 = true then (if v.1 = 1 then some (l[k].f0, i, 0) else gradeL kk f (l.drop (k + 1)) (i + 1)) else some (0, 0, 9) := by
  rw [List.drop_eq_getElem_cons h]; rfl
set_option maxRecDepth 100000 in
set_option maxHeartbeats 1000000 in
theorem grade_walk (kk : Nat) (A0 : Option Addr) (c0 : Nat) (l : List S47) (A1 : Option Addr) (c1 : Nat) (l1 : List S40) (r1 r2 r3 : Int) (w : World) (hr0 : Kd.C k47 w A0 l.length l) (hr1 : Kd.C k40 w A1 l1.length l1) (hc1 : l1.length ≤ c1) (hG : GlobG w) (hlim : limR l = true) (hl1 : l1.length < 4611686018427387904) (hf : gradeF kk l l1 = some (r1, r2, r3)) :
    Calls Tryd.prog 23 #[.slice A0 l.length c0, .slice A1 l1.length c1] w fun e w' => e = .returned (.tuple #[.int .i64 r1, .int .i64 r2, .int .i64 r3]) ∧ Below w.heap.size w w' := by
  have HC := Lib.hid hr0
  have HC1 := Lib.hid hr1
  have HCC1 := Lib.hid hc1
  have HG := Lib.hid hG
  have HLM := Lib.hid hlim
  have hlen := limR_len hlim
  have HL1 := Lib.hid hl1
  clear hr0 hr1 hc1 hG hlim hl1
  unfold gradeF at hf
  cases hv : (rulesF (hasF l1) l != 0)
  case true =>
    rw [if_neg (bne_iff_ne.1 hv)] at hf
    simp only [Option.some.injEq, Prod.mk.injEq] at hf
    obtain ⟨rfl, rfl, rfl⟩ := hf
    go_enter Tryd.func23, Tryd.ntmps23
    go_wp2_with (first
      | (go_at_call 42; (with_reducible refine (over_calls A1 l1.length c1 w).mono ?_); rintro e wo ⟨rfl, hw⟩; have hbo := allocE hw; have HWO := Lib.hid hbo; have HXO := Lib.hid (has57 _ A1 c1 l1 wo (cellE hw) (Kd.C_below HC1.out hbo) HCC1.out HL1.out); clear hw hbo)
      | (go_at_call 45; (with_reducible refine (rules_57 (hasF l1) w.heap.size l A0 c0 wo (HG.out.below HWO.out) HXO.out (Kd.C_below HC.out HWO.out) HLM.out).mono ?_); rintro e wz ⟨rfl, hb⟩; have HB1 := Lib.hid (HWO.out.trans (hb.mono HWO.out.size)); clear hb))
    refine bodyPost_ret (results_tmp3 rfl _ _ _) rfl ?_
    exact ⟨rfl, HB1.out⟩
  case false =>
    rw [if_pos (show rulesF (hasF l1) l = 0 by simpa using hv)] at hf
    have HF0 := Lib.hid hf
    clear hf
    go_enter Tryd.func23, Tryd.ntmps23
    go_wp2_with (first
      | (go_at_call 42; (with_reducible refine (over_calls A1 l1.length c1 w).mono ?_); rintro e wo ⟨rfl, hw⟩; have hbo := allocE hw; have HWO := Lib.hid hbo; have HXO := Lib.hid (has57 _ A1 c1 l1 wo (cellE hw) (Kd.C_below HC1.out hbo) HCC1.out HL1.out); clear hw hbo)
      | (go_at_call 45; (with_reducible refine (rules_57 (hasF l1) w.heap.size l A0 c0 wo (HG.out.below HWO.out) HXO.out (Kd.C_below HC.out HWO.out) HLM.out).mono ?_); rintro e wz ⟨rfl, hb⟩; have HB1 := Lib.hid (HWO.out.trans (hb.mono HWO.out.size)); clear hb))
    go_loopw [21] (fun i wr => ∃ (k : Nat), i = .int .i64 (k : Int) ∧ k ≤ l.length ∧ gradeL kk l1 (l.drop k) k = some (r1, r2, r3) ∧ Below w.heap.size w wr) (fun i _ => l.length - (intOf i).toNat)
    case atStart => exact ⟨0, rfl, Nat.zero_le _, HF0.out, HB1.out⟩
    case round =>
      clear HB1
      obtain ⟨k, rfl, hk, hfk, hbw⟩ := hrel
      have HB1 := Lib.hid hbw
      have HFK := Lib.hid hfk
      clear hbw hfk
      by_cases hlt : k < l.length
      · have hlt2 : (k : Int) < (l.length : Int) := by omega
        obtain ⟨ad, A3, c3, rfl, x0, x1, x2, x3, x4, hc3, hC3⟩ := at_T47 (Kd.C_below HC.out HB1.out) (k : Int) (by omega) hlt2
        rw [rd_at47 _ _ hlt] at x0 x1 x2 x3 x4 hc3 hC3
        rw [Int.toNat_natCast] at x0 x1 x2 x3 x4
        obtain ⟨r, hr⟩ : ∃ r, r = l[k] := ⟨_, rfl⟩
        rw [← hr] at x0 x1 x2 x3 x4 hc3 hC3
        have HA := Lib.hid hr
        have HLA := Lib.hid (show limB 8 r.f1 = true by rw [hr]; exact limR_at HLM.out k hlt)
        obtain ⟨wy, hwy⟩ : ∃ wy, wy = wr.alloc (.cells #[.int .i64 r.f0, .int .i64 r.f1.f0, .int .i64 r.f1.f1, .string r.f1.f2, .slice A3 r.f1.f3.length c3] 47) := ⟨_, rfl⟩
        have hbel2 : Below wr.heap.size wr wy := hwy ▸ (Below.refl _ _).alloc (Nat.le_refl _) _
        have HB2 := Lib.hid (HB1.out.trans (hbel2.mono HB1.out.size))
        have HC5 := Lib.hid (Kd.C_below hC3 hbel2)
        have HC4 := Lib.hid hc3
        have hyb : wy.heap[wr.heap.size]? = some (.cells #[.int .i64 r.f0, .int .i64 r.f1.f0, .int .i64 r.f1.f1, .string r.f1.f2, .slice A3 r.f1.f3.length c3] 47) := by rw [hwy]; exact (MapKept.heap_alloc wr _).1
        have HYB := Lib.hid hyb
        have HYS := Lib.hid (show wr.heap.size < wy.heap.size from (Array.getElem?_eq_some_iff.1 hyb).1)
        have HWY := Lib.hid hwy
        clear hr hC3 hc3 hbel2 hwy hyb
        have hst := HFK.out
        rw [gradeL_drop hlt, ← HA.out] at hst
        obtain ⟨⟨n, ok⟩, hval, hst⟩ := Option.bind_eq_some_iff.1 hst
        have HV := Lib.hid hval
        clear hval
        cases ok
        case false =>
          simp only [Bool.false_eq_true, if_false, Option.some.injEq, Prod.mk.injEq] at hst
          obtain ⟨rfl, rfl, rfl⟩ := hst
          go_wp2_with (go_at_call 43; rw [← HWY.out]; (with_reducible refine (rule_value.calls kk r.f1.f0 r.f1.f1 r.f1.f2 A3 c3 r.f1.f3 A1 c1 l1 _ _ wy HC5.out HC4.out (Kd.C_below HC1.out HB2.out) HCC1.out HV.out).mono ?_); rintro e wv ⟨rfl, hb⟩; have HB3 := Lib.hid (HB2.out.trans (hb.mono HB2.out.size)); obtain ⟨z0, z1, z2, z3, z4⟩ := fiveC ((hb.block _ HYS.out).trans HYB.out); clear hb)
          refine bodyPost_ret (results_tmp3 rfl _ _ _) rfl ?_
          exact ⟨rfl, HB3.out⟩
        case true =>
          simp only [if_true] at hst
          by_cases h1 : n = 1
          · have h1b : (n == 1) = true := by simpa using h1
            rw [if_pos h1] at hst
            simp only [Option.some.injEq, Prod.mk.injEq] at hst
            obtain ⟨rfl, rfl, rfl⟩ := hst
            clear h1
            go_wp2_with (go_at_call 43; rw [← HWY.out]; (with_reducible refine (rule_value.calls kk r.f1.f0 r.f1.f1 r.f1.f2 A3 c3 r.f1.f3 A1 c1 l1 _ _ wy HC5.out HC4.out (Kd.C_below HC1.out HB2.out) HCC1.out HV.out).mono ?_); rintro e wv ⟨rfl, hb⟩; have HB3 := Lib.hid (HB2.out.trans (hb.mono HB2.out.size)); obtain ⟨z0, z1, z2, z3, z4⟩ := fiveC ((hb.block _ HYS.out).trans HYB.out); clear hb)
            refine bodyPost_ret (results_tmp3 rfl _ _ _) rfl ?_
            exact ⟨rfl, HB3.out⟩
          · have h1b : (n == 1) = false := by simpa using h1
            rw [if_neg h1] at hst
            have HN := Lib.hid hst
            clear h1 hst
            go_wp2_with (go_at_call 43; rw [← HWY.out]; (with_reducible refine (rule_value.calls kk r.f1.f0 r.f1.f1 r.f1.f2 A3 c3 r.f1.f3 A1 c1 l1 _ _ wy HC5.out HC4.out (Kd.C_below HC1.out HB2.out) HCC1.out HV.out).mono ?_); rintro e wv ⟨rfl, hb⟩; have HB3 := Lib.hid (HB2.out.trans (hb.mono HB2.out.size)); obtain ⟨z0, z1, z2, z3, z4⟩ := fiveC ((hb.block _ HYS.out).trans HYB.out); clear hb)
            exact ⟨⟨k + 1, congrArg _ (by omega), by omega, by rw [Int.natCast_add]; exact HN.out, HB3.out⟩, by simp [intOf]; omega⟩
      · have hkl : k = l.length := by omega
        have hst := HFK.out
        rw [hkl, List.drop_length] at hst
        simp only [gradeL, Option.some.injEq, Prod.mk.injEq] at hst
        obtain ⟨rfl, rfl, rfl⟩ := hst
        clear hkl HFK
        go_wp2
        refine bodyPost_ret (results_tmp3 rfl _ _ _) rfl ?_
        exact ⟨rfl, HB1.out⟩
theorem rule_Grade.calls (k : Nat) (A0 : Option Addr) (c0 : Nat) (l0 : List S47) (A1 : Option Addr) (c1 : Nat) (l1 : List S40) (r1 : Int) (r2 : Int) (r3 : Int) (w : World) (hr0 : Kd.C k47 w A0 l0.length l0) (hc0 : l0.length ≤ c0) (hr1 : Kd.C k40 w A1 l1.length l1) (hc1 : l1.length ≤ c1) (hG : GlobG w) (h : rule_Grade.f k l0 l1 = some (r1, r2, r3)) :
    Calls Tryd.prog 23 #[.slice A0 l0.length c0, .slice A1 l1.length c1] w fun e w' => e = .returned (.tuple #[.int .i64 r1, .int .i64 r2, .int .i64 r3]) ∧ Below w.heap.size w w' := by
  unfold rule_Grade.f at h
  split at h
  · rename_i hl
    simp only [Bool.and_eq_true, limL, decide_eq_true_eq] at hl
    exact grade_walk _ _ _ _ _ _ _ _ _ _ _ hr0 hr1 hc1 hG hl.1 hl.2 h
  · cases h
end Go.Proofs.YthdgofbchfcfcaaDoor.PRu
