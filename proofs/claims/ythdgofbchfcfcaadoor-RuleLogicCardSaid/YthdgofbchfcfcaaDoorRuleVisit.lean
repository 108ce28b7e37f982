/- The walk of rule.visit: the first error of an expression, for each closure that asks for a name. The table's fact is the row's; the closure's contract is asked; no other condition. -/
import Derived.Test.YthdgofbchfcfcaaDoorRuleBase
import Derived.Test.YthdgofbchfcfcaaDoorPRux9
import Derived.Deep.RegionHeld3
set_option linter.unusedVariables false
set_option linter.unusedSimpArgs false
namespace Go.Proofs.YthdgofbchfcfcaaDoor.PRu
open Go.RowKit Go.Proofs.YthdgofbchfcfcaaDoorW.PrintWords Go.Proofs.YthdgofbchfcfcaaDoorW.PrintLast Go.Proofs.YthdgofbchfcfcaaDoorW.PrintMore
/-- The first value that is not 0. -/
def firstE (g : S24 → Int) : List S24 → Int
  | [] => 0
  | a :: l => if g a = 0 then firstE g l else g a
def badArg (t : Bool) : List S24 → Bool
  | [] => false
  | a :: l => (condF a.f0 != t) || badArg t l
/-- An expression's own error. -/
def ownE (has : ByteArray → Bool) (op n : Int) (s : ByteArray) (l : List S24) : Int :=
  if knownF op = true then
    if (n ≠ 0 ∧ op ≠ 1) ∨ (s.toList ≠ [] ∧ op ≠ 2) ∨ (l.length : Int) ≠ argsF op then 5
    else if op = 2 ∧ has s = false then 8
    else if greatF n = true then 9
    else if badArg (takesF op) l = true then 27 else 0
  else 10
def visitN (has : ByteArray → Bool) : Nat → S24 → Int
  | 0, _ => 28
  | k + 1, e => if firstE (visitN has k) e.f3 = 0 then ownE has e.f0 e.f1 e.f2 e.f3 else firstE (visitN has k) e.f3
/-- The closure's contract, from a world on. -/
def HasOK (F b : Nat) (has : ByteArray → Bool) (w : World) : Prop := ∀ w', Below w.heap.size w w' → ∀ s, Calls Tryd.prog F #[.string s, .pointer (some ⟨b, 0, none⟩)] w' fun e w'' => e = .returned (.bool (has s)) ∧ Below w'.heap.size w' w''
theorem HasOK.below {F b : Nat} {has : ByteArray → Bool} {w w' : World} (h : HasOK F b has w) (hb : Below w.heap.size w w') : HasOK F b has w' := fun w2 h2 => h w2 (hb.trans (h2.mono hb.size))
theorem firstE_take {g : S24 → Int} : ∀ (l : List S24) (k : Nat), firstE g (l.take k) = 0 → (h : k < l.length) → firstE g l = if g l[k] = 0 then firstE g l else g l[k]
  | [], k, _, h => by simp at h
  | a :: l, 0, _, h => by
    show firstE g (a :: l) = if g a = 0 then firstE g (a :: l) else g a
    by_cases ha : g a = 0
    · rw [if_pos ha]
    · rw [if_neg ha, firstE, if_neg ha]
  | a :: l, k + 1, h0, h => by
    simp only [List.take_succ_cons, firstE] at h0
    by_cases ha : g a = 0
    · rw [if_pos ha] at h0
      have := firstE_take l k h0 (by simpa using h)
      simp only [firstE, ha, if_true, List.getElem_cons_succ]
      exact this
    · rw [if_neg ha] at h0; exact absurd h0 ha
theorem firstE_next {g : S24 → Int} : ∀ (l : List S24) (k : Nat), firstE g (l.take k) = 0 → (h : k < l.length) → g l[k] = 0 → firstE g (l.take (k + 1)) = 0
  | [], k, _, h, _ => by simp at h
  | a :: l, 0, _, h, h1 => by simp [firstE]; exact fun h2 => absurd h1 h2
  | a :: l, k + 1, h0, h, h1 => by
    simp only [List.take_succ_cons, firstE] at h0 ⊢
    by_cases ha : g a = 0
    · rw [if_pos ha] at h0 ⊢
      exact firstE_next l k h0 (by simpa using h) (by simpa using h1)
    · rw [if_neg ha] at h0; exact absurd h0 ha
theorem badArg_at {t : Bool} : ∀ (l : List S24) (k : Nat) (h : k < l.length), (condF l[k].f0 != t) = true → badArg t l = true
  | [], k, h, _ => by simp at h
  | a :: l, 0, h, h1 => by simp only [badArg, List.getElem_cons_zero] at h1 ⊢; rw [h1, Bool.true_or]
  | a :: l, k + 1, h, h1 => by
    simp only [badArg, List.getElem_cons_succ] at h1 ⊢
    rw [badArg_at l k (by simpa using h) h1, Bool.or_true]
theorem badArg_next {t : Bool} : ∀ (l : List S24) (k : Nat) (h : k < l.length), badArg t (l.take k) = false → (condF l[k].f0 != t) = false → badArg t (l.take (k + 1)) = false
  | [], k, h, _, _ => by simp at h
  | a :: l, 0, h, _, h1 => by simp only [List.take_succ_cons, List.take_zero, badArg, List.getElem_cons_zero] at h1 ⊢; rw [h1]; rfl
  | a :: l, k + 1, h, h0, h1 => by
    simp only [List.take_succ_cons, badArg, List.getElem_cons_succ, Bool.or_eq_false_iff] at h0 h1 ⊢
    exact ⟨h0.1, badArg_next l k (by simpa using h) h0.2 h1⟩
/-- No list in a tree is beyond any machine. -/
def limB : Nat → S24 → Bool
  | 0, _ => true
  | n + 1, e => decide (e.f3.length < 4611686018427387904) && e.f3.all (limB n)
theorem limB_len {n : Nat} {e : S24} (h : limB (n + 1) e = true) : e.f3.length < 4611686018427387904 := by
  simp only [limB, Bool.and_eq_true, decide_eq_true_eq] at h
  exact h.1
theorem limB_at {n : Nat} {e : S24} (h : limB (n + 1) e = true) (k : Nat) (hk : k < e.f3.length) : limB n e.f3[k] = true := by
  simp only [limB, Bool.and_eq_true] at h
  exact List.all_eq_true.1 h.2 _ (List.getElem_mem hk)
theorem rd_at24 (l : List S24) (k : Nat) (h : k < l.length) : rd_T24 l (k : Int) = l[k] := by simp [rd_T24, h]
theorem four {w : World} {b : Nat} {t : TypeId} {v0 v1 v2 v3 : Value} (h : w.heap[b]? = some (.cells #[v0, v1, v2, v3] t)) : w.cell? ⟨b, 0, none⟩ = some v0 ∧ w.cell? ⟨b, 1, none⟩ = some v1 ∧ w.cell? ⟨b, 2, none⟩ = some v2 ∧ w.cell? ⟨b, 3, none⟩ = some v3 := by
  simp only [World.cell?, h]
  exact ⟨rfl, rfl, rfl, rfl⟩
theorem HasOK.at {F b : Nat} {has : ByteArray → Bool} {w : World} (h : HasOK F b has w) (w' : World) (hb : Below w.heap.size w w') (s : ByteArray) : Calls Tryd.prog F #[.string s, .pointer (some ⟨b, 0, none⟩)] w' fun e w'' => e = .returned (.bool (has s)) ∧ Below w'.heap.size w' w'' := h w' hb s
theorem three {w : World} {b : Nat} {t : TypeId} {v0 v1 v2 : Value} (h : w.heap[b]? = some (.cells #[v0, v1, v2] t)) : w.cell? ⟨b, 0, none⟩ = some v0 ∧ w.cell? ⟨b, 1, none⟩ = some v1 ∧ w.cell? ⟨b, 2, none⟩ = some v2 := by
  simp only [World.cell?, h]
  exact ⟨rfl, rfl, rfl⟩
theorem not5 {op n : Int} {s : ByteArray} {l : List S24} (h1 : ((n != 0) && (op != 1)) = false) (h2 : ((s.toList != ([] : List UInt8)) && (op != 2)) = false) (h3 : ((l.length : Int) != argsF op) = false) : ¬ ((n ≠ 0 ∧ op ≠ 1) ∨ (s.toList ≠ [] ∧ op ≠ 2) ∨ (l.length : Int) ≠ argsF op) := by
  rintro (⟨a, b⟩ | ⟨a, b⟩ | a)
  · rw [bne_iff_ne.2 a, bne_iff_ne.2 b] at h1; cases h1
  · rw [bne_iff_ne.2 a, bne_iff_ne.2 b] at h2; cases h2
  · rw [bne_iff_ne.2 a] at h3; cases h3
theorem bdrew {B : Nat} {a w : World} (h : Below B a w) : Below B a w.drew := ⟨h.os, h.tape, h.output, h.size, h.block⟩
theorem fromV {wv w : World} {b bt : Nat} {a : S24} {A3 : Option Addr} {c3 : Nat} {t : Bool} (h : w.cell? ⟨b, 0, none⟩ = some (.int .i64 a.f0) ∧ w.cell? ⟨b, 1, none⟩ = some (.int .i64 a.f1) ∧ w.cell? ⟨b, 2, none⟩ = some (.string a.f2) ∧ w.cell? ⟨b, 3, none⟩ = some (.slice A3 a.f3.length c3) ∧ w.cell? ⟨bt, 1, none⟩ = some (.bool t) ∧ Hid (Below wv.heap.size wv w)) : Below wv.heap.size wv w := h.2.2.2.2.2.out
theorem keepV {wv w w' : World} {bt : Nat} {a : S24} {A3 : Option Addr} {c3 : Nat} {t : Bool} (hlt : bt < wv.heap.size) (h : w.cell? ⟨wv.heap.size, 0, none⟩ = some (.int .i64 a.f0) ∧ w.cell? ⟨wv.heap.size, 1, none⟩ = some (.int .i64 a.f1) ∧ w.cell? ⟨wv.heap.size, 2, none⟩ = some (.string a.f2) ∧ w.cell? ⟨wv.heap.size, 3, none⟩ = some (.slice A3 a.f3.length c3) ∧ w.cell? ⟨bt, 1, none⟩ = some (.bool t) ∧ Hid (Below wv.heap.size wv w)) (hb : Below w.heap.size w w') :
    w'.cell? ⟨wv.heap.size, 0, none⟩ = some (.int .i64 a.f0) ∧ w'.cell? ⟨wv.heap.size, 1, none⟩ = some (.int .i64 a.f1) ∧ w'.cell? ⟨wv.heap.size, 2, none⟩ = some (.string a.f2) ∧ w'.cell? ⟨wv.heap.size, 3, none⟩ = some (.slice A3 a.f3.length c3) ∧ w'.cell? ⟨bt, 1, none⟩ = some (.bool t) ∧ Hid (Below wv.heap.size wv w') := by
  obtain ⟨h0, h1, h2, h3, h4, h5⟩ := h
  have lt : wv.heap.size < w.heap.size := World.block_lt_of_cell? w _ h0
  have lb := h5.out.size
  exact ⟨(hb.cell lt).trans h0, (hb.cell lt).trans h1, (hb.cell lt).trans h2, (hb.cell lt).trans h3, (hb.cell (show bt < w.heap.size by omega)).trans h4, Lib.hid (h5.out.trans (hb.mono lb))⟩
end Go.Proofs.YthdgofbchfcfcaaDoor.PRu
