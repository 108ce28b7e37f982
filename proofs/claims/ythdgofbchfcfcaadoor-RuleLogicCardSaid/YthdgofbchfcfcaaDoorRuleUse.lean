/- Uses and Check of the program and of the reference are the same, for what the statements let in. No condition. -/
import Derived.Test.YthdgofbchfcfcaaDoorRuleList
import Derived.Test.YthdgofbchfcfcaaDoorRulePlain
import Derived.Test.YthdgofbchfcfcaaDoorRuleUsesRow
set_option linter.unusedVariables false
set_option linter.unusedSimpArgs false
namespace Go.Proofs.YthdgofbchfcfcaaDoor.PRu
open Go.RowKit Go.Proofs.YthdgofbchfcfcaaDoorW.PrintWords Go.Proofs.YthdgofbchfcfcaaDoorW.PrintLast Go.Proofs.YthdgofbchfcfcaaDoorW.PrintMore
theorem eta24 (e : S24) : (⟨e.f0, e.f1, e.f2, e.f3⟩ : S24) = e := by obtain ⟨a, b, c, d⟩ := e; rfl
theorem mem_toL {l : List ByteArray} {x : ByteArray} : x.data.toList ∈ toL l ↔ x ∈ l := by
  unfold toL
  rw [List.mem_map]
  constructor
  · rintro ⟨y, hy, e⟩
    have : y = x := by
      obtain ⟨⟨y⟩⟩ := y
      obtain ⟨⟨x⟩⟩ := x
      exact congrArg (fun z => ByteArray.mk (Array.mk z)) e
    exact this ▸ hy
  · intro h
    exact ⟨x, h, rfl⟩
theorem toL_mem {l : List ByteArray} {x : List UInt8} (h : x ∈ toL l) : ∃ y ∈ l, y.data.toList = x := List.mem_map.1 h
theorem inS_mem {l : List ByteArray} {s : ByteArray} : inS l s = true ↔ s ∈ l := by
  unfold inS
  rw [List.any_eq_true]
  constructor
  · rintro ⟨x, hx, e⟩
    have e := of_decide_eq_true e
    rw [Lib.toList_data, Lib.toList_data] at e
    have : x = s := by
      obtain ⟨⟨y⟩⟩ := x
      obtain ⟨⟨x⟩⟩ := s
      exact congrArg (fun z => ByteArray.mk (Array.mk z)) e
    exact this ▸ hx
  · intro h
    exact ⟨s, h, decide_eq_true rfl⟩
theorem insS_mem : ∀ {l : List ByteArray} {s x : ByteArray}, x ∈ insS l s ↔ x = s ∨ x ∈ l
  | [], s, x => by simp [insS]
  | y :: l, s, x => by
    unfold insS
    split
    · rw [List.mem_cons]
    · rw [List.mem_cons, insS_mem, List.mem_cons]
      constructor
      · rintro (h | h | h)
        · exact .inr (.inl h)
        · exact .inl h
        · exact .inr (.inr h)
      · rintro (h | h | h)
        · exact .inr (.inl h)
        · exact .inl h
        · exact .inr (.inr h)
theorem insS_up : ∀ {l : List ByteArray} {s : ByteArray}, Up (toL l) → s ∉ l → Up (toL (insS l s))
  | [], s, _, _ => List.pairwise_singleton _ _
  | y :: l, s, h, hn => by
    have h' := List.pairwise_cons.1 h
    unfold insS
    by_cases hb : Op.bytesLess s.toList y.toList = true
    · rw [if_pos hb]
      rw [bytesLess_eq, Lib.toList_data, Lib.toList_data] at hb
      have hb := of_decide_eq_true hb
      refine List.pairwise_cons.2 ⟨fun z hz => ?_, h⟩
      rcases List.mem_cons.1 hz with e | hz
      · exact e ▸ hb
      · exact List.lt_trans hb (h'.1 z hz)
    · rw [if_neg hb]
      rw [bytesLess_eq, Lib.toList_data, Lib.toList_data] at hb
      have hb : ¬ s.data.toList < y.data.toList := fun h => hb (decide_eq_true h)
      have hys : y.data.toList < s.data.toList := up_tri hb fun e => hn (by
        have : y = s := by
          obtain ⟨⟨y⟩⟩ := y
          obtain ⟨⟨x⟩⟩ := s
          exact congrArg (fun z => ByteArray.mk (Array.mk z)) e.symm
        exact this ▸ List.mem_cons_self)
      refine List.pairwise_cons.2 ⟨fun z hz => ?_, insS_up h'.2 fun hs => hn (List.mem_cons_of_mem _ hs)⟩
      obtain ⟨w, hw, rfl⟩ := toL_mem hz
      rcases insS_mem.1 hw with e | hw
      · exact e ▸ hys
      · exact h'.1 _ (mem_toL.2 hw)
theorem addS_up {l : List ByteArray} {s : ByteArray} (h : Up (toL l)) : Up (toL (addS l s)) ∧ ∀ x, x ∈ addS l s ↔ x ∈ l ∨ x = s := by
  unfold addS
  by_cases hi : inS l s = true
  · rw [if_pos hi]
    exact ⟨h, fun x => ⟨.inl, fun h => h.elim id fun e => e ▸ inS_mem.1 hi⟩⟩
  · rw [if_neg hi]
    exact ⟨insS_up h fun hs => hi (inS_mem.2 hs), fun x => insS_mem.trans or_comm⟩
theorem fold_up {n : Nat} (ih : ∀ (e : S24) (l : List ByteArray), Up (toL l) → Up (toL (usesR n e l)) ∧ ∀ x, x ∈ usesR n e l ↔ x ∈ l ∨ x ∈ usesN n e) : ∀ (ts : List S24) (l : List ByteArray), Up (toL l) →
    Up (toL (ts.foldl (fun l a => usesR n a l) l)) ∧ ∀ x, x ∈ ts.foldl (fun l a => usesR n a l) l ↔ x ∈ l ∨ x ∈ ts.flatMap (usesN n)
  | [], l, h => ⟨h, fun x => by simp⟩
  | a :: ts, l, h => by
    obtain ⟨a1, a2⟩ := ih a l h
    obtain ⟨b1, b2⟩ := fold_up ih ts (usesR n a l) a1
    refine ⟨b1, fun x => ?_⟩
    rw [List.foldl_cons, b2, a2, List.flatMap_cons, List.mem_append, or_assoc]
theorem usesR_up : ∀ (n : Nat) (e : S24) (l : List ByteArray), Up (toL l) → Up (toL (usesR n e l)) ∧ ∀ x, x ∈ usesR n e l ↔ x ∈ l ∨ x ∈ usesN n e
  | 0, e, l, h => ⟨h, fun x => by simp [usesR, usesN]⟩
  | n + 1, e, l, h => by
    unfold usesR usesN
    by_cases h2 : e.f0 = 2
    · simp only [if_pos h2]
      obtain ⟨a1, a2⟩ := addS_up (s := e.f2) h
      obtain ⟨b1, b2⟩ := fold_up (usesR_up n) e.f3 _ a1
      refine ⟨b1, fun x => ?_⟩
      rw [b2, a2, List.mem_append, List.mem_singleton, or_assoc]
    · simp only [if_neg h2]
      obtain ⟨b1, b2⟩ := fold_up (usesR_up n) e.f3 l h
      refine ⟨b1, fun x => ?_⟩
      rw [b2, List.nil_append]
theorem uses_same (e : S24) : usesRF e = usesF e := by
  obtain ⟨a1, a2⟩ := usesR_up 8 e [] (by unfold Up toL; simp)
  obtain ⟨b1, b2⟩ := compact_sort (toL (usesN 8 e))
  have : toL (usesR 8 e []) = Lib.compact (sortL (toL (usesN 8 e))) := Up.ext a1 b1 fun x => by
    unfold sortL
    rw [b2]
    constructor
    · intro hx
      obtain ⟨y, hy, rfl⟩ := toL_mem hx
      exact mem_toL.2 (((a2 y).1 hy).resolve_left (by simp))
    · intro hx
      obtain ⟨y, hy, rfl⟩ := toL_mem hx
      exact mem_toL.2 ((a2 y).2 (.inr hy))
  unfold usesRF usesF
  rw [← this, ofL_toL]
theorem usesRF_mem (e : S24) (x : ByteArray) : x ∈ usesRF e ↔ x ∈ usesN 8 e := by
  obtain ⟨a1, a2⟩ := usesR_up 8 e [] (by unfold Up toL; simp)
  unfold usesRF
  rw [a2]
  simp
theorem usesF_mem (e : S24) (x : ByteArray) : x ∈ usesF e ↔ x ∈ usesN 8 e := by rw [← uses_same, usesRF_mem]
theorem usesF_len {e : S24} (h : (usesN 8 e).length ≤ 300) : (usesF e).length ≤ 300 := by
  rw [← uses_same]
  have := usesR_len 8 e []
  unfold usesRF
  simp only [List.length_nil] at this
  omega
theorem same_loop (l : List ByteArray) (hl : l.length ≤ 1000) : ∀ (m i k : Nat), i + m = l.length → sawmillref43_Same.l0 (m + 1 + k) l l (i : Int) = some true
  | 0, i, k, hi => by
    rw [show 0 + 1 + k = k + 1 by omega, sawmillref43_Same.l0, if_neg (by omega)]
  | m + 1, i, k, hi => by
    rw [show m + 1 + 1 + k = (m + 1 + k) + 1 by omega, sawmillref43_Same.l0, if_pos (by omega), if_pos (by omega), if_pos (by omega), if_pos rfl, wid (n := (i : Int) + 1) (by omega) (by omega), show (i : Int) + 1 = ((i + 1 : Nat) : Int) by omega]
    exact same_loop l hl m (i + 1) k (by omega)
theorem same_ev {l : List ByteArray} (hl : l.length ≤ 1000) : Ev (fun k => sawmillref43_Same.f k l l) true := by
  refine ⟨l.length + 1, fun j hj => ?_⟩
  have := same_loop l hl l.length 0 (j - (l.length + 1)) (by omega)
  rw [show l.length + 1 + (j - (l.length + 1)) = j by omega] at this
  show sawmillref43_Same.f j l l = some true
  unfold sawmillref43_Same.f
  rw [if_pos rfl]
  exact this
theorem check_f {e : S24} {names : List ByteArray} (he : limB 8 e = true) (hn : names.length ≤ 60) : rule_Check.f e.f0 e.f1 e.f2 e.f3 names = some (checkF e names) := by
  unfold rule_Check.f
  rw [eta24, if_pos (by rw [he, Bool.true_and]; exact decide_eq_true (by omega))]
theorem ref_Check_ev {e : S24} {names : List ByteArray} (he : limB 8 e = true) (hn : names.length ≤ 60) : Ev (fun k => sawmillref43_Check.f k e.f0 e.f1 e.f2 e.f3 names) (checkF e names) := by
  unfold sawmillref43_Check.f checkF
  refine Ev.bind (check_ev names hn 8 (by decide) e he) ?_
  by_cases hv : visitN (hasN names) 8 e = 0
  · simp only [if_pos hv, condition_f, Option.bind_some]
    by_cases hc : condF e.f0 = true
    · simp only [if_pos hc]; exact Ev.const
    · simp only [if_neg hc]; exact Ev.const
  · simp only [if_neg hv]; exact Ev.const
theorem uses_f {e : S24} (h : countF 12 e 300 ≤ 300) : rule_Uses.f e.f0 e.f1 e.f2 e.f3 = some (usesF e) ∧ sawmillref43_Uses.f e.f0 e.f1 e.f2 e.f3 = some (usesF e) := by
  obtain ⟨h1, h2⟩ := small_lim h
  unfold rule_Uses.f sawmillref43_Uses.f
  rw [eta24, if_pos (by rw [h1, Bool.true_and]; exact decide_eq_true (by omega)), if_pos (by rw [h1, Bool.true_and]; exact decide_eq_true (by omega)), uses_same]
  exact ⟨rfl, rfl⟩
end Go.Proofs.YthdgofbchfcfcaaDoor.PRu
