/- What the functions of the package books and of its reference compute, as plain functions on lists, and the statements about them. -/
import Derived.Test.YtjdcpddcngcioaaDoorPBkx4
import Derived.Test.YtjdcpddcngcioaaDoorPBkx3
import Derived.Test.YtjdcpddcngcioaaDoorPBkx2
import Derived.Test.YtjdcpddcngcioaaDoorPBkx1
set_option linter.unusedSimpArgs false
set_option linter.unusedVariables false
namespace Go.Proofs.YtjdcpddcngcioaaDoor.BooksPlain
open Go.RowKit Go.Proofs.YtjdcpddcngcioaaDoor.PBk Go.Proofs.YtjdcpddcngcioaaDoorW.PrintWords Go.Proofs.YtjdcpddcngcioaaDoorW.PrintLast Go.Proofs.YtjdcpddcngcioaaDoorW.PrintMore
open Go.Proofs.YtjdcpddcngcioaaDoor
abbrev I64 (x : Int) : Prop := -9223372036854775808 ≤ x ∧ x ≤ 9223372036854775807
theorem w64 {x : Int} (h : I64 x) : wrap64 x = x := by unfold wrap64; omega
theorem w64_in (x : Int) : I64 (wrap64 x) := by unfold wrap64 I64; omega
theorem data_inj {a b : ByteArray} (h : a.data.toList = b.data.toList) : a = b := by
  cases a; cases b
  simp only [ByteArray.mk.injEq]
  exact Array.toList_inj.1 h
theorem toList_inj {a b : ByteArray} : a.toList = b.toList ↔ a = b :=
  ⟨fun h => data_inj (by rw [← ByteArray.toList_eq, ← ByteArray.toList_eq]; exact h), fun h => by rw [h]⟩

/-! ### Loops -/
def wM (l : List Int) (v : Int) : Bool := l.all (fun n => decide (0 ≤ n) && decide (n ≤ 2305843009213693952)) && (decide (-2305843009213693952 ≤ v) && decide (v ≤ 2305843009213693952))
theorem within_l0 (l : List Int) (a b c d v : Int) (hl : l.length < 1000) : ∀ (m i : Nat), i + m = l.length → Ev (fun k => yield_within.l0 k l (l.length : Int) i a b c d v) (wM (l.drop i) v) := by
  intro m
  induction m with
  | zero =>
    intro i hi
    refine Ev.step (f := fun _ => some (wM (l.drop i) v)) (fun k => ?_) (Ev.now _)
    simp only [yield_within.l0]
    rw [if_neg (by omega), List.drop_of_length_le (by omega)]
    by_cases h : -2305843009213693952 ≤ v
    · rw [if_pos h]; simp [wM, h]
    · rw [if_neg h]; simp [wM, h]
  | succ m ih =>
    intro i hi
    have hlt : i < l.length := by omega
    have hr : rd l (i : Int) = l[i] := by simp [rd, hlt]
    rw [List.drop_eq_getElem_cons hlt]
    by_cases h1 : l[i] < 0
    · refine Ev.step (f := fun _ => some (wM (l[i] :: l.drop (i + 1)) v)) (fun k => ?_) (Ev.now _)
      simp only [yield_within.l0]
      rw [if_pos (by omega), if_pos (by omega), if_pos (by omega), hr, if_pos h1]
      simp only [wM, List.all_cons, decide_eq_false (show ¬ 0 ≤ l[i] from by omega), Bool.false_and]
    · by_cases h2 : l[i] > 2305843009213693952
      · refine Ev.step (f := fun _ => some (wM (l[i] :: l.drop (i + 1)) v)) (fun k => ?_) (Ev.now _)
        simp only [yield_within.l0]
        rw [if_pos (by omega), if_pos (by omega), if_pos (by omega), hr, if_neg h1, if_pos h2]
        simp only [wM, List.all_cons, decide_eq_false (show ¬ l[i] ≤ 2305843009213693952 from by omega), Bool.and_false, Bool.false_and]
      · refine Ev.step (f := fun k => yield_within.l0 k l (l.length : Int) ((i + 1 : Nat) : Int) a b c d v) (fun k => ?_) ?_
        · simp only [yield_within.l0]
          rw [if_pos (by omega), if_pos (by omega), if_pos (by omega), hr, if_neg h1, if_neg h2, show wrap64 ((i : Int) + 1) = ((i + 1 : Nat) : Int) from by unfold wrap64; omega]
        · have e : wM (l[i] :: l.drop (i + 1)) v = wM (l.drop (i + 1)) v := by
            simp only [wM, List.all_cons, decide_eq_true (show 0 ≤ l[i] from by omega), decide_eq_true (show l[i] ≤ 2305843009213693952 from by omega), Bool.and_true, Bool.true_and]
          rw [e]
          exact ih (i + 1) (by omega)
theorem within_ev (a b c d v : Int) : Ev (fun k => yield_within.f k a b c d v) (wM [a, b, c, d] v) := by
  have h := within_l0 [a, b, c, d] a b c d v (by simp) 4 0 rfl
  exact h
def balM (a b c d : Int) : Bool := wM [a, b, c, d] 0 && (wrap64 (wrap64 (a - b) - c) == d)
theorem bal_ev (a b c d v : Int) : Ev (fun k => yield_Balanced.f k a b c d v) (balM a b c d) := by
  refine Ev.bind (within_ev a b c d 0) ?_
  unfold balM
  cases wM [a, b, c, d] 0
  · simp only [Bool.false_eq_true, if_false, Bool.false_and]; exact Ev.now _
  · simp only [if_true, Bool.true_and]; exact Ev.now _
theorem bal_ref (a b c d v : Int) : sawmillref22_Balanced.f a b c d v = some (balM a b c d) := by
  have hf : ∀ x, sawmillref22_fits.f x = some (decide (0 ≤ x) && decide (x ≤ 2305843009213693952)) := by
    intro x
    unfold sawmillref22_fits.f
    by_cases h : x ≥ 0
    · rw [if_pos h, decide_eq_true (show 0 ≤ x from h)]; simp
    · rw [if_neg h, decide_eq_false (show ¬ 0 ≤ x from h)]; simp
  unfold sawmillref22_Balanced.f balM wM
  simp only [hf, Option.bind_some, List.all_cons, List.all_nil, Bool.and_true]
  generalize (decide (0 ≤ a) && decide (a ≤ 2305843009213693952)) = x1
  generalize (decide (0 ≤ b) && decide (b ≤ 2305843009213693952)) = x2
  generalize (decide (0 ≤ c) && decide (c ≤ 2305843009213693952)) = x3
  generalize (decide (0 ≤ d) && decide (d ≤ 2305843009213693952)) = x4
  cases x1 <;> cases x2 <;> cases x3 <;> cases x4 <;> simp
def volM : Int → List Int → Bool
  | _, [] => true
  | s, n :: l => if n < 0 then false else if n > wrap64 (72057594037927936 - s) then false else volM (wrap64 (s + n)) l
theorem volume_l0 (l : List Int) (hl : l.length < 1000) : ∀ (m i : Nat) (s : Int), i + m = l.length → Ev (fun k => books_volume.l0 k s l (l.length : Int) i) (volM s (l.drop i)) := by
  intro m
  induction m with
  | zero =>
    intro i s hi
    refine Ev.step (f := fun _ => some true) (fun k => ?_) ?_
    · simp only [books_volume.l0]; rw [if_neg (by omega)]
    · rw [List.drop_of_length_le (by omega)]; exact Ev.now _
  | succ m ih =>
    intro i s hi
    have hlt : i < l.length := by omega
    have hr : rd l (i : Int) = l[i] := by simp [rd, hlt]
    rw [List.drop_eq_getElem_cons hlt, volM]
    by_cases h1 : l[i] < 0
    · rw [if_pos h1]
      refine Ev.step (f := fun _ => some false) (fun k => ?_) (Ev.now _)
      simp only [books_volume.l0]
      rw [if_pos (by omega), if_pos (by omega), if_pos (by omega), hr, if_pos h1]
    · rw [if_neg h1]
      by_cases h2 : l[i] > wrap64 (72057594037927936 - s)
      · rw [if_pos h2]
        refine Ev.step (f := fun _ => some false) (fun k => ?_) (Ev.now _)
        simp only [books_volume.l0]
        rw [if_pos (by omega), if_pos (by omega), if_pos (by omega), hr, if_neg h1, if_pos h2]
      · rw [if_neg h2]
        refine Ev.step (f := fun k => books_volume.l0 k (wrap64 (s + l[i])) l (l.length : Int) ((i + 1 : Nat) : Int)) (fun k => ?_) (ih (i + 1) _ (by omega))
        simp only [books_volume.l0]
        rw [if_pos (by omega), if_pos (by omega), if_pos (by omega), hr, if_neg h1, if_neg h2, show wrap64 ((i : Int) + 1) = ((i + 1 : Nat) : Int) from by unfold wrap64; omega]
theorem volume_ev (l : List Int) (hl : l.length < 1000) : Ev (fun k => books_volume.f k l) (volM 0 l) := volume_l0 l hl l.length 0 0 (by omega)
theorem volume_ref (x : Int) : sawmillref52_volume.f x = some (decide (0 ≤ x) && decide (x ≤ 72057594037927936)) := by
  unfold sawmillref52_volume.f
  by_cases h : x ≥ 0
  · rw [if_pos h, decide_eq_true (show 0 ≤ x from h)]; simp
  · rw [if_neg h, decide_eq_false (show ¬ 0 ≤ x from h)]; simp
/-- What postings say about an account. -/
def amt (l : List S50) (nm : ByteArray) (n : Int) : Int := l.foldl (fun n x => if x.f0 = nm then wrap64 (n + x.f1) else n) n
theorem amount_l0 (l : List S50) (nm : ByteArray) (hl : l.length < 1000) : ∀ (m i : Nat) (s : Int), i + m = l.length → Ev (fun k => sawmillref52_Amount.l0 k l nm s i) (amt (l.drop i) nm s) := by
  intro m
  induction m with
  | zero =>
    intro i s hi
    refine Ev.step (f := fun _ => some s) (fun k => ?_) ?_
    · simp only [sawmillref52_Amount.l0]; rw [if_neg (by omega)]
    · rw [List.drop_of_length_le (by omega)]; exact Ev.now _
  | succ m ih =>
    intro i s hi
    have hlt : i < l.length := by omega
    have hr : rd_T50 l (i : Int) = l[i] := by simp [rd_T50, hlt]
    have hw : wrap64 ((i : Int) + 1) = ((i + 1 : Nat) : Int) := by unfold wrap64; omega
    rw [List.drop_eq_getElem_cons hlt, amt, List.foldl_cons]
    by_cases h : l[i].f0 = nm
    · rw [if_pos h]
      refine Ev.step (fun k => ?_) (ih (i + 1) _ (by omega))
      simp only [sawmillref52_Amount.l0]
      rw [if_pos (by omega), if_pos (by omega), hr, if_pos (toList_inj.2 h), hw]
    · rw [if_neg h]
      refine Ev.step (fun k => ?_) (ih (i + 1) _ (by omega))
      simp only [sawmillref52_Amount.l0]
      rw [if_pos (by omega), if_pos (by omega), hr, if_neg (fun e => h (toList_inj.1 e)), hw]
theorem amount_ev (l : List S50) (nm : ByteArray) (hl : l.length < 1000) : Ev (fun k => sawmillref52_Amount.f k l nm) (amt l nm 0) := amount_l0 l nm hl l.length 0 0 (by omega)
def names8 : List ByteArray := [nmT 0, nmT 1, nmT 2, nmT 3, nmT 4, nmT 5, nmT 6, nmT 7]
/-- Postings in the order of the accounts. -/
def ord (l : List S50) (as_ : List ByteArray) : List S50 := (as_.filter fun nm => amt l nm 0 != 0).map fun nm => ⟨nm, amt l nm 0⟩
theorem ord_zero (l : List S50) (a : ByteArray) (r : List ByteArray) (h : amt l a 0 = 0) : ord l (a :: r) = ord l r := by simp [ord, h]
theorem ord_some (l : List S50) (a : ByteArray) (r : List ByteArray) (h : ¬ amt l a 0 = 0) : ord l (a :: r) = ⟨a, amt l a 0⟩ :: ord l r := by simp [ord, h]
theorem ordered_l0 (l : List S50) (as_ : List ByteArray) (hl : l.length < 1000) (hl2 : as_.length < 1000) : ∀ (m i : Nat) (acc : List S50), i + m = as_.length → acc.length ≤ i → Ev (fun k => sawmillref52_Ordered.l0 k l acc as_ i) (acc ++ ord l (as_.drop i)) := by
  intro m
  induction m with
  | zero =>
    intro i acc hi _
    refine Ev.step (f := fun _ => some acc) (fun k => ?_) ?_
    · simp only [sawmillref52_Ordered.l0]; rw [if_neg (by omega)]
    · rw [List.drop_of_length_le (by omega)]; simp only [ord, List.filter_nil, List.map_nil, List.append_nil]; exact Ev.now _
  | succ m ih =>
    intro i acc hi ha
    have hlt : i < as_.length := by omega
    have hr : rdOf ByteArray.empty as_ (i : Int) = as_[i] := by simp [rdOf, hlt]
    have hw : wrap64 ((i : Int) + 1) = ((i + 1 : Nat) : Int) := by unfold wrap64; omega
    rw [List.drop_eq_getElem_cons hlt]
    refine Ev.step (f := fun k => (sawmillref52_Amount.f k l as_[i]).bind fun t => if t = 0 then sawmillref52_Ordered.l0 k l acc as_ ((i + 1 : Nat) : Int) else sawmillref52_Ordered.l0 k l (acc ++ [⟨as_[i], t⟩]) as_ ((i + 1 : Nat) : Int)) (fun k => ?_) ?_
    · simp only [sawmillref52_Ordered.l0]
      rw [if_pos (by omega), if_pos (by omega), hr, hw]
      simp only [show acc.length < 5864062014805 from by omega, if_true]
    · refine Ev.bind (amount_ev l _ hl) ?_
      by_cases h : amt l as_[i] 0 = 0
      · simp only [h, if_true]
        have e := ord_zero l as_[i] (as_.drop (i + 1)) h
        rw [e]
        exact ih (i + 1) acc (by omega) (by omega)
      · simp only [h, if_false]
        have e : acc ++ ord l (as_[i] :: as_.drop (i + 1)) = (acc ++ [⟨as_[i], amt l as_[i] 0⟩]) ++ ord l (as_.drop (i + 1)) := by rw [ord_some _ _ _ h]; simp
        rw [e]
        exact ih (i + 1) _ (by omega) (by simp; omega)
theorem ordered_ev (l : List S50) (hl : l.length < 1000) : Ev (fun k => sawmillref52_Ordered.f k l) (ord l names8) := by
  have h := ordered_l0 l names8 hl (by decide) 8 0 [] rfl (by simp)
  exact h
theorem same_l0 (l : List S50) (hl : l.length < 1000000) : ∀ (m i : Nat), i + m = l.length → Ev (fun k => sawmillref52_Same.l0 k l l i) true := by
  intro m
  induction m with
  | zero =>
    intro i hi
    refine Ev.step (f := fun _ => some true) (fun k => ?_) (Ev.now _)
    simp only [sawmillref52_Same.l0]; rw [if_neg (by omega)]
  | succ m ih =>
    intro i hi
    refine Ev.step (fun k => ?_) (ih (i + 1) (by omega))
    simp only [sawmillref52_Same.l0]
    rw [if_pos (by omega), if_pos (by omega), if_pos (by omega), if_neg (by simp), show wrap64 ((i : Int) + 1) = ((i + 1 : Nat) : Int) from by unfold wrap64; omega]
theorem same_ev (l : List S50) (hl : l.length < 1000000) : Ev (fun k => sawmillref52_Same.f k l l) true := by
  have h := same_l0 l hl l.length 0 (by omega)
  refine Ev.congr (fun k => ?_) h
  simp only [sawmillref52_Same.f, if_true]; rfl

/-! ### The postings of a list of changes, in either way -/
def asS (l : List S81) : List S50 := l.map fun a => ⟨nmT a.f0.toNat, a.f1⟩
theorem nm_ne : ∀ i j : Fin 8, i ≠ j → nmT i.val ≠ nmT j.val := by decide
theorem nm_inj {i j : Nat} (hi : i < 8) (hj : j < 8) (h : nmT i = nmT j) : i = j := by
  by_cases e : i = j
  · exact e
  · exact absurd h (nm_ne ⟨i, hi⟩ ⟨j, hj⟩ (fun h2 => e (congrArg Fin.val h2)))
theorem amt_miss (l : List S81) (j : Nat) (hj : j < 8) (n : Int) (h : ∀ a ∈ l, 0 ≤ a.f0 ∧ a.f0 < 8 ∧ a.f0.toNat ≠ j) : amt (asS l) (nmT j) n = n := by
  induction l generalizing n with
  | nil => rfl
  | cons a l ih =>
    have ha := h a List.mem_cons_self
    simp only [asS, List.map_cons, amt, List.foldl_cons]
    rw [if_neg (fun e => ha.2.2 (nm_inj (by omega) hj e))]
    exact ih n (fun b hb => h b (List.mem_cons_of_mem _ hb))
/-- The changes are given in the order of the accounts, from account j on; each is an int. -/
def Asc : Nat → List S81 → Prop
  | _, [] => True
  | j, a :: l => (j : Int) ≤ a.f0 ∧ a.f0 < 8 ∧ I64 a.f1 ∧ Asc (a.f0.toNat + 1) l
theorem Asc.mem {l : List S81} : ∀ {j : Nat}, Asc j l → ∀ a ∈ l, (j : Int) ≤ a.f0 ∧ a.f0 < 8 := by
  induction l with
  | nil => intro j _ a ha; cases ha
  | cons b l ih =>
    intro j h a ha
    rcases List.mem_cons.1 ha with rfl | ha
    · exact ⟨h.1, h.2.1⟩
    · have := ih h.2.2.2 a ha
      have h1 := h.1
      omega
theorem amt_append (p l : List S81) (nm : ByteArray) (n : Int) : amt (asS (p ++ l)) nm n = amt (asS l) nm (amt (asS p) nm n) := by
  simp [amt, asS, List.foldl_append]
theorem bpost_cons (a : S81) (l : List S81) : bpost (a :: l) = if a.f1 = 0 then bpost l else ⟨nmT a.f0.toNat, a.f1⟩ :: bpost l := by
  unfold bpost
  by_cases h : a.f1 = 0
  · simp [List.filter_cons, h]
  · simp [List.filter_cons, h]
theorem names_drop : ∀ j : Fin 8, names8.drop j.val = nmT j.val :: names8.drop (j.val + 1) := by decide
theorem ord_asc : ∀ (m j : Nat) (l pre : List S81), j + m = 8 → Asc j l → (∀ a ∈ pre, 0 ≤ a.f0 ∧ a.f0 < (j : Int)) → ord (asS (pre ++ l)) (names8.drop j) = bpost l := by
  intro m
  induction m with
  | zero =>
    intro j l pre hj hA _
    obtain rfl : j = 8 := by omega
    cases l with
    | nil => rfl
    | cons a l => exact absurd hA.1 (by have := hA.2.1; omega)
  | succ m ih =>
    intro j l pre hj hA hp
    have hjl : j < 8 := by omega
    have hpm : amt (asS pre) (nmT j) 0 = 0 := amt_miss pre j hjl 0 (fun a ha => ⟨(hp a ha).1, by have := (hp a ha).2; omega, by have := hp a ha; omega⟩)
    rw [names_drop ⟨j, hjl⟩]
    by_cases hc : ∃ a l', l = a :: l' ∧ a.f0 = (j : Int)
    · obtain ⟨a, l', rfl, ha⟩ := hc
      have hA2 := hA.2.2.2
      rw [show a.f0.toNat + 1 = j + 1 from by omega] at hA2
      have hm : amt (asS (pre ++ a :: l')) (nmT j) 0 = a.f1 := by
        rw [amt_append, hpm]
        simp only [asS, List.map_cons, amt, List.foldl_cons]
        rw [if_pos (by rw [ha]; rfl), Int.zero_add, w64 hA.2.2.1]
        exact amt_miss l' j hjl _ (fun b hb => by have := hA2.mem b hb; omega)
      have hih := ih (j + 1) l' (pre ++ [a]) (by omega) hA2 (fun b hb => by
        rcases List.mem_append.1 hb with hb | hb
        · have := hp b hb; omega
        · simp at hb; subst hb; omega)
      rw [List.append_assoc, List.singleton_append] at hih
      rw [bpost_cons]
      by_cases hz : a.f1 = 0
      · rw [if_pos hz, ord_zero _ _ _ (by rw [hm]; exact hz)]
        exact hih
      · rw [if_neg hz, ord_some _ _ _ (by rw [hm]; exact hz), hm, hih, show a.f0.toNat = j from by omega]
    · have hA' : Asc (j + 1) l := by
        cases l with
        | nil => trivial
        | cons a l' =>
          have hne : ¬ a.f0 = (j : Int) := fun e => hc ⟨a, l', rfl, e⟩
          exact ⟨by have := hA.1; omega, hA.2⟩
      have hm : amt (asS (pre ++ l)) (nmT j) 0 = 0 := by
        rw [amt_append, hpm]
        exact amt_miss l j hjl 0 (fun a ha => by have := hA'.mem a ha; omega)
      rw [ord_zero _ _ _ hm]
      exact ih (j + 1) l pre (by omega) hA' (fun a ha => by have := hp a ha; omega)
/-- The program's postings are the reference's. -/
theorem both (l : List S81) (hl : l.length < 1000) (hA : Asc 0 l) : books_postings.f l = some (bpost l) ∧ Ev (fun k => sawmillref52_Ordered.f k (asS l)) (bpost l) := by
  constructor
  · unfold books_postings.f
    rw [if_pos hl, if_pos]
    rw [List.all_eq_true]
    intro a ha
    have := hA.mem a ha
    simp; omega
  · have h := ord_asc 8 0 l [] rfl hA (fun a ha => by cases ha)
    have h2 := ordered_ev (asS l) (by simpa [asS] using hl)
    simp only [List.nil_append, List.drop_zero] at h
    rwa [h] at h2

/-! ### The functions -/
def sawnL (a b c d : Int) : List S81 := [⟨1, wrap64 (-a)⟩, ⟨2, b⟩, ⟨4, c⟩, ⟨5, d⟩]
def sawnM (a b c d : Int) : List S50 × Int := if balM a b c d = true then (if a > 72057594037927936 then ([], 22) else (bpost (sawnL a b c d), 0)) else ([], 22)
theorem sawn_asc (a b c d : Int) (hb : I64 b) (hc : I64 c) (hd : I64 d) : Asc 0 (sawnL a b c d) := by
  refine ⟨by simp, by simp, w64_in _, by simp, by simp, hb, by simp, by simp, hc, by simp, by simp, hd, trivial⟩
theorem sawn_ev (a b c d v : Int) (hb : I64 b) (hc : I64 c) (hd : I64 d) : Ev (fun k => books_Sawn.f k a b c d v) (sawnM a b c d) := by
  refine Ev.bind (bal_ev a b c d v) ?_
  unfold sawnM
  cases balM a b c d
  · simp only [Bool.false_eq_true, if_false]; exact Ev.now _
  · simp only [if_true]
    by_cases h : a > 72057594037927936
    · simp only [h, if_true]; exact Ev.now _
    · simp only [h, if_false]
      refine Ev.bind (Ev.congr (fun _ => (both (sawnL a b c d) (by simp [sawnL]) (sawn_asc a b c d hb hc hd)).1) (Ev.now _)) (Ev.now _)
theorem sawn_ref (a b c d v : Int) (hb : I64 b) (hc : I64 c) (hd : I64 d) : Ev (fun k => sawmillref52_Sawn.f k a b c d v) (sawnM a b c d) := by
  refine Ev.bind (Ev.congr (fun _ => bal_ref a b c d v) (Ev.now _)) ?_
  unfold sawnM
  cases balM a b c d
  · simp only [Bool.false_eq_true, if_false]; exact Ev.now _
  · simp only [if_true]
    by_cases h : a > 72057594037927936
    · simp only [h, if_true]; exact Ev.now _
    · simp only [h, if_false]
      exact Ev.bind (both (sawnL a b c d) (by simp [sawnL]) (sawn_asc a b c d hb hc hd)).2 (Ev.now _)
def recutL (dry : Bool) (c d : Int) : List S81 := [⟨if dry then 3 else 2, wrap64 (wrap64 (-c) - d)⟩, ⟨4, c⟩, ⟨5, d⟩]
def recutM (dry : Bool) (b c d : Int) : List S50 := if volM 0 [b, c, d] = true then bpost (recutL dry c d) else []
theorem recut_asc (dry : Bool) (c d : Int) (hc : I64 c) (hd : I64 d) : Asc 0 (recutL dry c d) := by
  cases dry
  · exact ⟨by simp, by simp, w64_in _, by simp, by simp, hc, by simp, by simp, hd, trivial⟩
  · exact ⟨by simp, by simp, w64_in _, by simp, by simp, hc, by simp, by simp, hd, trivial⟩
theorem recut_ev (dry : Bool) (b c d : Int) (hc : I64 c) (hd : I64 d) : Ev (fun k => books_Recut.f k dry b c d) (recutM dry b c d) := by
  refine Ev.bind (volume_ev [b, c, d] (by simp)) ?_
  unfold recutM
  cases volM 0 [b, c, d]
  · simp only [Bool.false_eq_true, if_false]; exact Ev.now _
  · simp only [if_true]
    have hb := (both (recutL dry c d) (by simp [recutL]) (recut_asc dry c d hc hd)).1
    cases dry
    · simp only [Bool.false_eq_true, if_false]
      exact Ev.bind (Ev.congr (fun _ => hb) (Ev.now _)) (Ev.now _)
    · simp only [if_true]
      exact Ev.bind (Ev.congr (fun _ => hb) (Ev.now _)) (Ev.now _)
/-- The reference's test of three volumes. -/
theorem vol3 (b c d : Int) (hb : I64 b) (hc : I64 c) (hd : I64 d) : volM 0 [b, c, d] = (decide (0 ≤ b) && decide (b ≤ 72057594037927936) && (decide (0 ≤ c) && decide (c ≤ 72057594037927936)) && (decide (0 ≤ d) && decide (d ≤ 72057594037927936)) && decide (b + c + d ≤ 72057594037927936)) := by
  unfold I64 at hb hc hd
  simp only [volM]
  rw [Bool.eq_iff_iff]
  simp only [Bool.and_eq_true, decide_eq_true_eq]
  unfold wrap64
  by_cases h1 : b < 0
  · rw [if_pos h1]; simp; omega
  · rw [if_neg h1]
    by_cases h2 : b > (72057594037927936 - 0 + 9223372036854775808) % 18446744073709551616 - 9223372036854775808
    · rw [if_pos h2]; simp; omega
    · rw [if_neg h2]
      by_cases h3 : c < 0
      · rw [if_pos h3]; simp; omega
      · rw [if_neg h3]
        by_cases h4 : c > (72057594037927936 - ((0 + b + 9223372036854775808) % 18446744073709551616 - 9223372036854775808) + 9223372036854775808) % 18446744073709551616 - 9223372036854775808
        · rw [if_pos h4]; simp; omega
        · rw [if_neg h4]
          by_cases h5 : d < 0
          · rw [if_pos h5]; simp; omega
          · rw [if_neg h5]
            split
            · simp; omega
            · simp; omega
theorem recut_j0 (dry : Bool) (b c d : Int) (hc : I64 c) (hd : I64 d) (t : Bool) : Ev (fun k => sawmillref52_Recut.j0 k dry c d t) (if t = true then [] else bpost (recutL dry c d)) := by
  have hb := (both (recutL dry c d) (by simp [recutL]) (recut_asc dry c d hc hd)).2
  cases t
  · simp only [Bool.false_eq_true, if_false]
    cases dry
    · refine Ev.step (fun k => by simp only [sawmillref52_Recut.j0, Bool.false_eq_true, if_false]; rfl) ?_
      exact Ev.bind hb (Ev.now _)
    · refine Ev.step (fun k => by simp only [sawmillref52_Recut.j0, Bool.false_eq_true, if_false, if_true]; rfl) ?_
      exact Ev.bind hb (Ev.now _)
  · simp only [if_true]
    exact Ev.step (f := fun _ => some []) (fun k => by simp only [sawmillref52_Recut.j0, if_true]) (Ev.now _)
theorem recut_ref (dry : Bool) (b c d : Int) (hb : I64 b) (hc : I64 c) (hd : I64 d) : Ev (fun k => sawmillref52_Recut.f k dry b c d) (recutM dry b c d) := by
  have hv := vol3 b c d hb hc hd
  unfold recutM
  rw [hv]
  have hj := recut_j0 dry b c d hc hd
  refine Ev.bind (Ev.congr (fun _ => volume_ref b) (Ev.now _)) ?_
  cases h1 : (decide (0 ≤ b) && decide (b ≤ 72057594037927936))
  · simp only [Bool.false_eq_true, if_false, Bool.false_and]; exact hj true
  · simp only [if_true, Bool.true_and]
    refine Ev.bind (Ev.congr (fun _ => volume_ref c) (Ev.now _)) ?_
    cases h2 : (decide (0 ≤ c) && decide (c ≤ 72057594037927936))
    · simp only [Bool.false_eq_true, if_false, Bool.false_and]; exact hj true
    · simp only [if_true, Bool.true_and]
      refine Ev.bind (Ev.congr (fun _ => volume_ref d) (Ev.now _)) ?_
      cases h3 : (decide (0 ≤ d) && decide (d ≤ 72057594037927936))
      · simp only [Bool.false_eq_true, if_false, Bool.false_and]; exact hj true
      · simp only [if_true, Bool.true_and]
        simp only [Bool.and_eq_true, decide_eq_true_eq] at h1 h2 h3
        by_cases h4 : b > wrap64 (72057594037927936 - c)
        · have e : decide (b + c + d ≤ 72057594037927936) = false := decide_eq_false (by unfold wrap64 at h4; omega)
          simp only [h4, if_true, e, Bool.false_eq_true, if_false]
          exact hj true
        · simp only [h4, if_false]
          by_cases h5 : wrap64 (b + c) > wrap64 (72057594037927936 - d)
          · have e : decide (b + c + d ≤ 72057594037927936) = false := decide_eq_false (by unfold wrap64 at h5; omega)
            rw [decide_eq_true h5, e]
            exact hj true
          · have e : decide (b + c + d ≤ 72057594037927936) = true := decide_eq_true (by unfold wrap64 at h5 h4; omega)
            rw [decide_eq_false h5, e]
            exact hj false
def soldL (c d : Int) : List S81 := [⟨4, wrap64 (-c)⟩, ⟨5, wrap64 (-d)⟩, ⟨7, wrap64 (c + d)⟩]
def soldM (c d : Int) : List S50 := if volM 0 [c, d] = true then bpost (soldL c d) else []
theorem sold_asc (c d : Int) : Asc 0 (soldL c d) := ⟨by simp, by simp, w64_in _, by simp, by simp, w64_in _, by simp, by simp, w64_in _, trivial⟩
theorem sold_ev (c d : Int) : Ev (fun k => books_Sold.f k c d) (soldM c d) := by
  refine Ev.bind (volume_ev [c, d] (by simp)) ?_
  unfold soldM
  cases volM 0 [c, d]
  · simp only [Bool.false_eq_true, if_false]; exact Ev.now _
  · simp only [if_true]
    exact Ev.bind (Ev.congr (fun _ => (both (soldL c d) (by simp [soldL]) (sold_asc c d)).1) (Ev.now _)) (Ev.now _)
theorem vol2 (b c : Int) (hb : I64 b) (hc : I64 c) : volM 0 [b, c] = (decide (0 ≤ b) && decide (b ≤ 72057594037927936) && (decide (0 ≤ c) && decide (c ≤ 72057594037927936)) && decide (b + c ≤ 72057594037927936)) := by
  unfold I64 at hb hc
  simp only [volM]
  rw [Bool.eq_iff_iff]
  simp only [Bool.and_eq_true, decide_eq_true_eq]
  unfold wrap64
  by_cases h1 : b < 0
  · rw [if_pos h1]; simp; omega
  · rw [if_neg h1]
    by_cases h2 : b > (72057594037927936 - 0 + 9223372036854775808) % 18446744073709551616 - 9223372036854775808
    · rw [if_pos h2]; simp; omega
    · rw [if_neg h2]
      by_cases h3 : c < 0
      · rw [if_pos h3]; simp; omega
      · rw [if_neg h3]
        split
        · simp; omega
        · simp; omega
theorem sold_ref (c d : Int) (hc : I64 c) (hd : I64 d) : Ev (fun k => sawmillref52_Sold.f k c d) (soldM c d) := by
  have hv := vol2 c d hc hd
  unfold soldM
  rw [hv]
  refine Ev.bind (Ev.congr (fun _ => volume_ref c) (Ev.now _)) ?_
  cases h1 : (decide (0 ≤ c) && decide (c ≤ 72057594037927936))
  · simp only [Bool.false_eq_true, if_false, Bool.false_and]; exact Ev.now _
  · simp only [if_true, Bool.true_and]
    refine Ev.bind (Ev.congr (fun _ => volume_ref d) (Ev.now _)) ?_
    cases h2 : (decide (0 ≤ d) && decide (d ≤ 72057594037927936))
    · simp only [Bool.false_eq_true, if_false, Bool.false_and]; exact Ev.now _
    · simp only [if_true, Bool.true_and]
      simp only [Bool.and_eq_true, decide_eq_true_eq] at h1 h2
      by_cases h4 : c > wrap64 (72057594037927936 - d)
      · have e : decide (c + d ≤ 72057594037927936) = false := decide_eq_false (by unfold wrap64 at h4; omega)
        simp only [h4, if_true, e, Bool.false_eq_true, if_false]
        exact Ev.now _
      · have e : decide (c + d ≤ 72057594037927936) = true := decide_eq_true (by unfold wrap64 at h4; omega)
        simp only [h4, if_false, e, if_true]
        exact Ev.bind (both (soldL c d) (by simp [soldL]) (sold_asc c d)).2 (Ev.now _)
theorem bpost_small (l : List S81) (h : l.length < 1000) : (bpost l).length < 1000000 := by have := bpost_length l; omega
end Go.Proofs.YtjdcpddcngcioaaDoor.BooksPlain
