/- The account's state: what holds behind any steps. -/
import Derived.Test.YtmbelohcebfdcaaLawBase
set_option linter.unusedVariables false
set_option linter.unusedSimpArgs false
namespace Go.Proofs.Ytmbelohcebfdcaa.Acc
open Go.RowKit Go.Maps
def total (l : List (Int × Int)) : Int := sumG (fun _ => true) l
def Pos (l : List (Int × Int)) : Prop := ∀ a ∈ l, 0 < a.2
theorem Pos.tail {a : Int × Int} {l : List (Int × Int)} (h : Pos (a :: l)) : Pos l := fun b hb => h b (by simp [hb])
theorem sumG_range (g : Int → Bool) : ∀ l, Pos l → 0 ≤ sumG g l ∧ sumG g l ≤ total l
  | [], _ => ⟨Int.le_refl _, Int.le_refl _⟩
  | a :: l, h => by
    have h1 := h a (by simp)
    obtain ⟨h2, h3⟩ := sumG_range g l h.tail
    unfold total at h3 ⊢
    simp only [sumG, if_true]
    split <;> omega
theorem sumG_split (g : Int → Bool) : ∀ l, sumG g l + sumG (fun c => !g c) l = total l
  | [] => rfl
  | a :: l => by
    have h := sumG_split g l
    unfold total at h ⊢
    simp only [sumG, if_true]
    by_cases hg : g a.1 = true
    · rw [if_pos hg, if_neg (by simp [hg])]; omega
    · have hg2 : (!g a.1) = true := by simpa using hg
      rw [if_neg hg, if_pos hg2]; omega
theorem sumG_congr (g g' : Int → Bool) : ∀ l : List (Int × Int), (∀ a ∈ l, g a.1 = g' a.1) → sumG g l = sumG g' l
  | [], _ => rfl
  | a :: l, h => by
    simp only [sumG]
    rw [h a (by simp), sumG_congr g g' l (fun b hb => h b (by simp [hb]))]
theorem total_cons (a : Int × Int) (l : List (Int × Int)) : total (a :: l) = a.2 + total l := by simp [total, sumG]
theorem claimS_sum (p q : Int) : ∀ (l : List (Int × Int)) (v : Int), Pos l → total l < 1152921504606846976 → 0 ≤ v → v < 1152921504606846976 →
    Pos (claimS p q l v).1 ∧ (∀ g, sumG g (claimS p q l v).1 ≤ sumG g l ∧ sumG g l - v ≤ sumG g (claimS p q l v).1) ∧
    sumG (fun c => validF p c q) (claimS p q l v).1 = sumG (fun c => validF p c q) l - min v (sumG (fun c => validF p c q) l) ∧
    (∀ g : Int → Bool, (∀ c, g c = true → validF p c q = false) → sumG g (claimS p q l v).1 = sumG g l)
  | [], v, _, _, hv, _ => by
    simp only [claimS, sumG]
    exact ⟨fun a ha => by simp at ha, fun g => by omega, by omega, fun g _ => trivial⟩
  | a :: l, v, hp, ht, hv, hv2 => by
    have h1 := hp a (by simp)
    have hr := (sumG_range (fun c => validF p c q) l hp.tail)
    rw [total_cons] at ht
    have ht2 : total l < 1152921504606846976 := by omega
    have hr0 := sumG_range (fun _ => true) l hp.tail
    have ha2 : a.2 < 1152921504606846976 := by have : 0 ≤ total l := by unfold total; omega
                                               omega
    unfold claimS
    by_cases hva : validF p a.1 q = true
    · rw [if_pos hva]
      have e1 : wrap64 (v - min v a.2) = v - min v a.2 := by unfold wrap64; omega
      have e2 : wrap64 (a.2 - min v a.2) = a.2 - min v a.2 := by unfold wrap64; omega
      rw [e1, e2]
      obtain ⟨i1, i2, i3, i4⟩ := claimS_sum p q l (v - min v a.2) hp.tail ht2 (by omega) (by omega)
      by_cases hz : a.2 - min v a.2 = 0
      · rw [if_pos hz]
        refine ⟨i1, fun g => ?_, ?_, fun g hg => ?_⟩
        · have := i2 g
          simp only [sumG]
          split <;> omega
        · rw [i3]
          simp only [sumG, hva, if_true]
          omega
        · rw [i4 g hg]
          simp only [sumG]
          rw [if_neg (by intro hga; rw [hg _ hga] at hva; cases hva), Int.zero_add]
      · rw [if_neg hz]
        refine ⟨fun b hb => ?_, fun g => ?_, ?_, fun g hg => ?_⟩
        · rcases List.mem_cons.1 hb with rfl | hb
          · show 0 < a.2 - min v a.2
            omega
          · exact i1 b hb
        · have := i2 g
          simp only [sumG]
          split <;> omega
        · simp only [sumG, hva, if_true]
          rw [i3]
          omega
        · simp only [sumG]
          rw [i4 g hg, if_neg (by intro hga; rw [hg _ hga] at hva; cases hva), if_neg (by intro hga; rw [hg _ hga] at hva; cases hva)]
    · rw [if_neg hva]
      obtain ⟨i1, i2, i3, i4⟩ := claimS_sum p q l v hp.tail ht2 hv hv2
      refine ⟨fun b hb => ?_, fun g => ?_, ?_, fun g hg => ?_⟩
      · rcases List.mem_cons.1 hb with rfl | hb
        · exact h1
        · exact i1 b hb
      · have := i2 g
        simp only [sumG]
        split <;> omega
      · simp only [sumG, hva, if_false]
        rw [i3]
        simp
      · simp only [sumG]
        rw [i4 g hg]
theorem sumG_putL (g : Int → Bool) (q x : Int) : ∀ l : List (Int × Int), Asc l → sumG g (putL l q x) = sumG g l + (if g q = true then x - (getV l q).getD 0 else 0)
  | [], _ => by
    simp only [putL, sumG, getV, List.find?_nil, Option.map_none, Option.getD_none]
    split <;> omega
  | a :: l, hA => by
    obtain ⟨h1, h2⟩ := List.pairwise_cons.1 hA
    unfold putL
    by_cases c1 : q < a.1
    · rw [if_pos c1]
      have hg : getV (a :: l) q = none := by
        unfold getV
        rw [List.find?_eq_none.2]
        · rfl
        · intro b hb
          rcases List.mem_cons.1 hb with rfl | hb
          · simp; omega
          · have := h1 b hb; simp; omega
      rw [hg]
      simp only [sumG, Option.getD_none]
      split <;> split <;> omega
    · rw [if_neg c1]
      by_cases c2 : q = a.1
      · rw [if_pos c2]
        subst c2
        have hg : getV (a :: l) a.1 = some a.2 := by simp [getV]
        rw [hg]
        simp only [sumG, Option.getD_some]
        split <;> omega
      · rw [if_neg c2]
        have e : (a.1 == q) = false := by simp; omega
        have hg : getV (a :: l) q = getV l q := by simp [getV, List.find?_cons, e]
        rw [hg]
        simp only [sumG]
        rw [sumG_putL g q x l h2]
        omega
structure Inv (n : Nat) (s : St) : Prop where
  good : Good n s
  f : 0 ≤ s.f ∧ s.f ≤ 1000
  p : 1 ≤ s.p ∧ s.p ≤ 24
  la : -1 ≤ s.la ∧ s.la ≤ 1000000
  key : ∀ a ∈ s.l, a.1 ≤ s.la
  pos : Pos s.l
  sum : s.cr = s.cl + total s.l
  cl : 0 ≤ s.cl
  cr : s.cr ≤ (n : Int) * 1125899906842624
theorem creditN_eq {f v : Int} (hf : 0 ≤ f ∧ f ≤ 1000) (hv : 0 ≤ v ∧ v ≤ 1125899906842624) : 0 ≤ creditN f v ∧ creditN f v ≤ 1125899906842624 ∧ creditN f v = (v * f).tdiv 1000 := by
  have h1 : 0 ≤ v * f := Int.mul_nonneg hv.1 hf.1
  have h2 : v * f ≤ 1125899906842624 * 1000 := Int.mul_le_mul hv.2 hf.2 hf.1 (by omega)
  have e1 : wrap64 (v * f) = v * f := by unfold wrap64; omega
  have e2 : (v * f).tdiv 1000 = v * f / 1000 := Int.tdiv_eq_ediv_of_nonneg h1
  unfold creditN
  rw [e1, e2]
  have h3 : 0 ≤ v * f / 1000 := by omega
  have h4 : v * f / 1000 ≤ 1125899906842624 := by omega
  have e3 : wrap64 (v * f / 1000) = v * f / 1000 := by unfold wrap64; omega
  rw [e3]
  exact ⟨h3, h4, rfl⟩
theorem getV_mem {l : List (Int × Int)} {q v : Int} (h : getV l q = some v) : ∃ a ∈ l, a.1 = q ∧ a.2 = v := by
  unfold getV at h
  cases hf : l.find? (fun x => x.1 == q) with
  | none => rw [hf] at h; cases h
  | some a => rw [hf] at h; exact ⟨a, List.mem_of_find?_eq_some hf, by have := List.find?_some hf; simpa using this, by simpa using h⟩
theorem mem_total {l : List (Int × Int)} (hp : Pos l) {a : Int × Int} (h : a ∈ l) : a.2 ≤ total l := by
  induction l with
  | nil => simp at h
  | cons b l ih =>
    rw [total_cons]
    have hr := (sumG_range (fun _ => true) l hp.tail).1
    have hb := hp b (by simp)
    rcases List.mem_cons.1 h with rfl | h
    · have : 0 ≤ total l := hr
      omega
    · have := ih hp.tail h
      omega
theorem getD_range {l : List (Int × Int)} (hp : Pos l) (q : Int) : 0 ≤ (getV l q).getD 0 ∧ (getV l q).getD 0 ≤ total l := by
  cases h : getV l q with
  | none => exact ⟨Int.le_refl _, (sumG_range (fun _ => true) l hp).1⟩
  | some v =>
    obtain ⟨a, ha, e1, e2⟩ := getV_mem h
    have := hp a ha
    have := mem_total hp ha
    simp only [Option.getD_some]
    omega
theorem Inv.tot {n : Nat} {s : St} (h : Inv n s) (hn : n ≤ 200) : 0 ≤ total s.l ∧ total s.l ≤ 225179981368524800 ∧ s.cr ≤ 225179981368524800 ∧ 0 ≤ s.cr ∧ s.cl ≤ s.cr := by
  have h0 : 0 ≤ total s.l := (sumG_range (fun _ => true) s.l h.pos).1
  have h1 := h.cr
  have h2 := h.sum
  have h3 := h.cl
  have h4 : (n : Int) * 1125899906842624 ≤ 200 * 1125899906842624 := by omega
  omega
/-- A credit, as what it does to the state. -/
theorem Inv.cred_eq {n : Nat} {s : St} (h : Inv n s) (hn : n ≤ 200) {q v : Int} (hr : refusedF s.la q v = 0) :
    (credS s q v).la = q ∧ (credS s q v).cl = s.cl ∧ (credS s q v).cr = s.cr + creditN s.f v ∧ (credS s q v).f = s.f ∧ (credS s q v).p = s.p ∧ Pos (credS s q v).l ∧ (∀ g, sumG g (credS s q v).l = sumG g s.l + (if g q = true then creditN s.f v else 0)) := by
  have hq := refused_q hr
  obtain ⟨c1, c2, _⟩ := creditN_eq h.f ⟨hq.2.2.2.1, hq.2.2.2.2⟩
  obtain ⟨t1, t2, t3, t4, t5⟩ := h.tot hn
  obtain ⟨d1, d2⟩ := getD_range h.pos q
  have e1 : wrap64 ((getV s.l q).getD 0 + creditN s.f v) = (getV s.l q).getD 0 + creditN s.f v := by unfold wrap64; omega
  have e2 : wrap64 (s.cr + creditN s.f v) = s.cr + creditN s.f v := by unfold wrap64; omega
  unfold credS
  rw [if_pos hr]
  by_cases hc : 0 < creditN s.f v
  · rw [if_pos hc, e1, e2]
    refine ⟨rfl, rfl, rfl, rfl, rfl, fun a ha => ?_, fun g => ?_⟩
    · rcases mem_putL ha with rfl | ha
      · show 0 < (getV s.l q).getD 0 + creditN s.f v
        omega
      · exact h.pos a ha
    · show sumG g (putL s.l q ((getV s.l q).getD 0 + creditN s.f v)) = _
      rw [sumG_putL g q _ s.l h.good.asc]
      split <;> omega
  · rw [if_neg hc]
    have : creditN s.f v = 0 := by omega
    rw [this]
    refine ⟨rfl, rfl, by simp, rfl, rfl, h.pos, fun g => ?_⟩
    show sumG g s.l = _
    split <;> omega
theorem leftF_eq {n : Nat} {s : St} (h : Inv n s) (hn : n ≤ 200) (q : Int) : leftF s.p q s.l = if betw q 0 1000000 = true then sumG (fun c => validF s.p c q) s.l else 0 := by
  unfold leftF
  have hr := sumG_range (fun c => validF s.p c q) s.l h.pos
  have := h.tot hn
  split
  · unfold wrap64; omega
  · rfl
theorem goneS_eq {n : Nat} {s : St} (h : Inv n s) (hn : n ≤ 200) (q : Int) : goneS s.p q s.l = if betw q 0 1000000 = true then sumG (fun c => goneF s.p c q) s.l else 0 := by
  unfold goneS
  have hr := sumG_range (fun c => goneF s.p c q) s.l h.pos
  have := h.tot hn
  split
  · unfold wrap64; omega
  · rfl
/-- A claim, as what it does to the state. -/
theorem Inv.claim_eq {n : Nat} {s : St} (h : Inv n s) (hn : n ≤ 200) {q v : Int} (hr : claimC s q v = 0) :
    (claimT s q v).la = q ∧ (claimT s q v).cl = s.cl + v ∧ (claimT s q v).cr = s.cr ∧ (claimT s q v).f = s.f ∧ (claimT s q v).p = s.p ∧ Pos (claimT s q v).l ∧ v ≤ sumG (fun c => validF s.p c q) s.l ∧
    (∀ g, sumG g (claimT s q v).l ≤ sumG g s.l ∧ sumG g s.l - v ≤ sumG g (claimT s q v).l) ∧ sumG (fun c => validF s.p c q) (claimT s q v).l = sumG (fun c => validF s.p c q) s.l - v ∧ total (claimT s q v).l = total s.l - v := by
  have hr0 : refusedF s.la q v = 0 ∧ ¬ leftF s.p q s.l < v := by
    unfold claimC at hr
    by_cases h1 : refusedF s.la q v = 0
    · rw [if_pos h1] at hr
      by_cases h2 : leftF s.p q s.l < v
      · rw [if_pos h2] at hr; cases hr
      · exact ⟨h1, h2⟩
    · rw [if_neg h1] at hr; exact absurd hr h1
  have hq := refused_q hr0.1
  obtain ⟨t1, t2, t3, t4, t5⟩ := h.tot hn
  have hb : betw q 0 1000000 = true := by unfold betw; simp; omega
  have hl : v ≤ sumG (fun c => validF s.p c q) s.l := by
    have := hr0.2
    rw [leftF_eq h hn, if_pos hb] at this
    omega
  obtain ⟨i1, i2, i3, i4⟩ := claimS_sum s.p q s.l v h.pos (by omega) hq.2.2.2.1 (by omega)
  have hrv := sumG_range (fun c => validF s.p c q) s.l h.pos
  have e1 : wrap64 (s.cl + v) = s.cl + v := by have := h.cl; have := h.sum; unfold wrap64; omega
  unfold claimT
  rw [if_pos hr, e1]
  refine ⟨rfl, rfl, rfl, rfl, rfl, i1, hl, i2, by show sumG _ (claimS s.p q s.l v).1 = _; rw [i3]; omega, ?_⟩
  show total (claimS s.p q s.l v).1 = _
  have s1 := sumG_split (fun c => validF s.p c q) s.l
  have s2 := sumG_split (fun c => validF s.p c q) (claimS s.p q s.l v).1
  have s3 := i4 (fun c => !validF s.p c q) (fun c hc => by simpa using hc)
  rw [i3, s3] at s2
  omega
theorem Inv.claim_ne {n : Nat} {s : St} {q v : Int} (hr : claimC s q v ≠ 0) : claimT s q v = s := by unfold claimT; rw [if_neg hr]
theorem Inv.cred_ne {n : Nat} {s : St} {q v : Int} (hr : credC s q v ≠ 0) : credS s q v = s := by unfold credS; unfold credC at hr; rw [if_neg hr]
theorem claim_ref {s : St} {q v : Int} (hr : claimC s q v = 0) : refusedF s.la q v = 0 := by
  unfold claimC at hr
  by_cases h1 : refusedF s.la q v = 0
  · exact h1
  · rw [if_neg h1] at hr; exact hr
theorem Inv.step {n : Nat} {s : St} (h : Inv n s) (hn : n ≤ 200) (c : Bool) (q v : Int) : Inv (n + 1) (doS s c q v) := by
  have hup : Inv (n + 1) s := ⟨⟨h.good.asc, Nat.le_succ_of_le h.good.len, h.good.key⟩, h.f, h.p, h.la, h.key, h.pos, h.sum, h.cl, by have := h.cr; omega⟩
  have hg := h.good.step c q v
  unfold doS at hg ⊢
  cases c
  · rw [if_neg (by decide)] at hg ⊢
    by_cases hr : refusedF s.la q v = 0
    · have hq := refused_q hr
      obtain ⟨e1, e2, e3, e4, e5, e6, e7⟩ := h.cred_eq hn hr
      obtain ⟨c1, c2, _⟩ := creditN_eq h.f ⟨hq.2.2.2.1, hq.2.2.2.2⟩
      refine ⟨hg, by rw [e4]; exact h.f, by rw [e5]; exact h.p, by rw [e1]; omega, fun a ha => ?_, e6, ?_, by rw [e2]; exact h.cl, by rw [e3]; have := h.cr; omega⟩
      · rw [e1]
        unfold credS at ha
        rw [if_pos hr] at ha
        split at ha
        · rcases mem_putL ha with rfl | ha
          · exact Int.le_refl _
          · have := h.key a ha; omega
        · have := h.key a ha; omega
      · rw [e3, e2]
        have := e7 (fun _ => true)
        rw [if_pos rfl] at this
        have hs := h.sum
        unfold total at hs ⊢
        omega
    · rw [Inv.cred_ne (n := n) hr] at hg ⊢
      exact hup
  · rw [if_pos rfl] at hg ⊢
    by_cases hr : claimC s q v = 0
    · have hq := refused_q (claim_ref hr)
      obtain ⟨e1, e2, e3, e4, e5, e6, _, _, _, e7⟩ := h.claim_eq hn hr
      refine ⟨hg, by rw [e4]; exact h.f, by rw [e5]; exact h.p, by rw [e1]; omega, fun a ha => ?_, e6, ?_, by rw [e2]; have := h.cl; omega, by rw [e3]; have := h.cr; omega⟩
      · rw [e1]
        unfold claimT at ha
        rw [if_pos hr] at ha
        obtain ⟨b, hb, e⟩ := claimS_key _ _ _ _ _ ha
        have := h.key b hb
        omega
      · rw [e3, e2, e7]
        have := h.sum
        omega
    · rw [Inv.claim_ne (n := n) hr] at hg ⊢
      exact hup
end Go.Proofs.Ytmbelohcebfdcaa.Acc
