/- The account as a state: what New, Credit, Claim, Left, Expired and Totals do to it; and the walks of the package's examples and of one step. -/
import Derived.Test.YtmbelohcebfdcaaClaimF
set_option linter.unusedVariables false
set_option linter.unusedSimpArgs false
namespace Go.Proofs.Ytmbelohcebfdcaa.Acc
open Go.RowKit Go.Maps
structure St where
  f : Int
  p : Int
  la : Int
  l : List (Int × Int)
  cr : Int
  cl : Int
def AccS (w : World) (sb bm : Nat) (s : St) : Prop := Acc w sb bm s.f s.p s.la s.l s.cr s.cl
structure Good (n : Nat) (s : St) : Prop where
  asc : Asc s.l
  len : s.l.length ≤ n
  key : ∀ a ∈ s.l, 0 ≤ a.1 ∧ a.1 ≤ 1000000
theorem Good.I {n : Nat} {s : St} (h : Good n s) : ∀ a ∈ s.l, I64 a.1 := fun a ha => by have := h.key a ha; unfold I64; omega
def credS (s : St) (q v : Int) : St := if refusedF s.la q v = 0 then (if 0 < creditN s.f v then { s with la := q, l := putL s.l q (wrap64 ((getV s.l q).getD 0 + creditN s.f v)), cr := wrap64 (s.cr + creditN s.f v) } else { s with la := q }) else s
def credC (s : St) (q v : Int) : Int := refusedF s.la q v
def claimC (s : St) (q v : Int) : Int := if refusedF s.la q v = 0 then (if leftF s.p q s.l < v then 23 else 0) else refusedF s.la q v
def claimT (s : St) (q v : Int) : St := if claimC s q v = 0 then { s with la := q, l := (claimS s.p q s.l v).1, cl := wrap64 (s.cl + v) } else s
def doC (s : St) (c : Bool) (q v : Int) : Int := if c = true then claimC s q v else credC s q v
def doS (s : St) (c : Bool) (q v : Int) : St := if c = true then claimT s q v else credS s q v
theorem refused_q {la q v : Int} (h : refusedF la q v = 0) : 0 ≤ q ∧ q ≤ 1000000 ∧ la ≤ q ∧ 0 ≤ v ∧ v ≤ 1125899906842624 := by
  unfold refusedF at h
  by_cases h1 : betw q (if 0 < la then la else 0) 1000000 = true
  · rw [if_pos h1] at h
    by_cases h2 : betw v 0 1125899906842624 = true
    · unfold betw at h1 h2
      simp only [Bool.and_eq_true, decide_eq_true_eq] at h1 h2
      by_cases h3 : 0 < la
      · rw [if_pos h3] at h1; omega
      · rw [if_neg h3] at h1; omega
    · rw [if_neg h2] at h; cases h
  · rw [if_neg h1] at h; cases h
theorem refused_ne {la q v : Int} : refusedF la q v = 0 ∨ refusedF la q v = 9 ∨ refusedF la q v = 15 := by
  unfold refusedF
  by_cases h1 : betw q (if 0 < la then la else 0) 1000000 = true
  · rw [if_pos h1]
    by_cases h2 : betw v 0 1125899906842624 = true
    · rw [if_pos h2]; exact Or.inl rfl
    · rw [if_neg h2]; exact Or.inr (Or.inl rfl)
  · rw [if_neg h1]; exact Or.inr (Or.inr rfl)
theorem mem_putL {x v : Int} {a : Int × Int} : ∀ {l : List (Int × Int)}, a ∈ putL l x v → a = (x, v) ∨ a ∈ l
  | [], h => by simp [putL] at h; exact Or.inl h
  | b :: l, h => by
    unfold putL at h
    split at h
    · rcases List.mem_cons.1 h with h | h
      · exact Or.inl h
      · exact Or.inr h
    · split at h
      · rcases List.mem_cons.1 h with h | h
        · exact Or.inl h
        · exact Or.inr (by simp [h])
      · rcases List.mem_cons.1 h with h | h
        · exact Or.inr (by simp [h])
        · rcases mem_putL h with h | h
          · exact Or.inl h
          · exact Or.inr (by simp [h])
theorem asc_putL {x v : Int} : ∀ {l : List (Int × Int)}, Asc l → Asc (putL l x v)
  | [], _ => by unfold putL; exact List.pairwise_singleton _ _
  | b :: l, h => by
    obtain ⟨h1, h2⟩ := List.pairwise_cons.1 h
    unfold putL
    split
    · rename_i c
      exact List.pairwise_cons.2 ⟨fun a ha => by
        rcases List.mem_cons.1 ha with rfl | ha
        · exact c
        · exact Int.lt_trans c (h1 a ha), h⟩
    · rename_i c
      split
      · rename_i c2
        subst c2
        exact List.pairwise_cons.2 ⟨h1, h2⟩
      · rename_i c2
        refine List.pairwise_cons.2 ⟨fun a ha => ?_, asc_putL h2⟩
        rcases mem_putL ha with rfl | ha
        · show b.1 < x
          omega
        · exact h1 a ha
theorem claimS_key (p q : Int) : ∀ (l : List (Int × Int)) (v : Int) (a : Int × Int), a ∈ (claimS p q l v).1 → ∃ b ∈ l, b.1 = a.1
  | [], v, a, h => by simp [claimS] at h
  | b :: l, v, a, h => by
    unfold claimS at h
    split at h
    · split at h
      · obtain ⟨c, hc, e⟩ := claimS_key p q l _ a h
        exact ⟨c, by simp [hc], e⟩
      · rcases List.mem_cons.1 h with rfl | h
        · exact ⟨b, by simp, rfl⟩
        · obtain ⟨c, hc, e⟩ := claimS_key p q l _ a h
          exact ⟨c, by simp [hc], e⟩
    · rcases List.mem_cons.1 h with rfl | h
      · exact ⟨a, by simp, rfl⟩
      · obtain ⟨c, hc, e⟩ := claimS_key p q l _ a h
        exact ⟨c, by simp [hc], e⟩
theorem claimS_asc (p q : Int) : ∀ (l : List (Int × Int)) (v : Int), Asc l → Asc (claimS p q l v).1
  | [], v, h => by simp [claimS, Asc]
  | b :: l, v, h => by
    obtain ⟨h1, h2⟩ := List.pairwise_cons.1 h
    have key : ∀ v' x, x ∈ (claimS p q l v').1 → b.1 < x.1 := fun v' x hx => by
      obtain ⟨c, hc, e⟩ := claimS_key p q l v' x hx
      have := h1 c hc
      omega
    unfold claimS
    split
    · split
      · exact claimS_asc p q l _ h2
      · exact List.pairwise_cons.2 ⟨fun x hx => key _ x hx, claimS_asc p q l _ h2⟩
    · exact List.pairwise_cons.2 ⟨fun x hx => key _ x hx, claimS_asc p q l _ h2⟩
theorem claimS_len (p q : Int) : ∀ (l : List (Int × Int)) (v : Int), (claimS p q l v).1.length ≤ l.length
  | [], v => by simp [claimS]
  | b :: l, v => by
    unfold claimS
    split
    · split
      · have := claimS_len p q l (wrap64 (v - min v b.2)); simp; omega
      · have := claimS_len p q l (wrap64 (v - min v b.2)); simp; omega
    · have := claimS_len p q l v; simp; omega
theorem Good.cred {n : Nat} {s : St} (h : Good n s) (q v : Int) : Good (n + 1) (credS s q v) := by
  unfold credS
  have h0 : Good (n + 1) s := ⟨h.asc, Nat.le_succ_of_le h.len, h.key⟩
  split
  · rename_i hr
    have hq := refused_q hr
    split
    · refine ⟨asc_putL h.asc, Nat.le_trans (putL_length _ _ _) (by have := h.len; omega), fun a ha => ?_⟩
      rcases mem_putL ha with rfl | ha
      · exact ⟨hq.1, hq.2.1⟩
      · exact h.key a ha
    · exact ⟨h.asc, Nat.le_succ_of_le h.len, h.key⟩
  · exact h0
theorem Good.claim {n : Nat} {s : St} (h : Good n s) (q v : Int) : Good n (claimT s q v) := by
  unfold claimT
  split
  · exact ⟨claimS_asc _ _ _ _ h.asc, Nat.le_trans (claimS_len _ _ _ _) h.len, fun a ha => by
      obtain ⟨b, hb, e⟩ := claimS_key _ _ _ _ _ ha
      rw [← e]
      exact h.key b hb⟩
  · exact h
theorem Good.step {n : Nat} {s : St} (h : Good n s) (c : Bool) (q v : Int) : Good (n + 1) (doS s c q v) := by
  unfold doS
  split
  · have := h.claim q v
    exact ⟨this.asc, Nat.le_succ_of_le this.len, this.key⟩
  · exact h.cred q v
theorem cred_st (n : Nat) (sb bm : Nat) (s : St) (q v : Int) (w : World) (hg : Good n s) (hn : n < 1000) (hA : AccS w sb bm s) :
    Calls Try.prog 17 #[.pointer (some ⟨sb, 0, none⟩), .int .i64 q, .int .i64 v] w fun e w' => e = .returned (.int .i64 (credC s q v)) ∧ Kept2 sb bm w w' ∧ AccS w' sb bm (credS s q v) := by
  unfold credC credS
  by_cases hr : refusedF s.la q v = 0
  · have hq := refused_q hr
    by_cases hc : 0 < creditN s.f v
    · refine (credit_pos sb bm q v s.f s.p s.la s.cr s.cl s.l w hA hg.asc (by have := hg.len; omega) (by unfold I64; omega) hr hc).mono ?_
      rintro e w' ⟨rfl, hk, ha⟩
      simp only [hr, hc, if_true]
      exact ⟨trivial, hk, ha⟩
    · refine (credit_zero sb bm q v s.f s.p s.la s.cr s.cl s.l w hA hr hc).mono ?_
      rintro e w' ⟨rfl, hk, ha⟩
      simp only [hr, hc, if_true, if_false]
      exact ⟨trivial, hk, ha⟩
  · refine (credit_bad sb q v s.la w hA.blk.c2 hr).mono ?_
    rintro e w' ⟨rfl, rfl⟩
    simp only [hr, if_false]
    exact ⟨trivial, Kept2.refl _ _ _, hA⟩
theorem claim_st (n : Nat) (sb bm : Nat) (s : St) (q v : Int) (w : World) (hg : Good n s) (hn : n < 1000) (hA : AccS w sb bm s) :
    Calls Try.prog 18 #[.pointer (some ⟨sb, 0, none⟩), .int .i64 q, .int .i64 v] w fun e w' => e = .returned (.int .i64 (claimC s q v)) ∧ Kept2 sb bm w w' ∧ AccS w' sb bm (claimT s q v) := by
  unfold claimT claimC
  by_cases hr : refusedF s.la q v = 0
  · by_cases hc : leftF s.p q s.l < v
    · refine (claim_quota sb bm q v s.f s.p s.la s.cr s.cl s.l w hA hg.asc hr hc).mono ?_
      rintro e w' ⟨rfl, hb⟩
      simp only [hr, hc, if_true]
      exact ⟨trivial, Kept2.of_below hb, hA.below hb (Nat.le_refl _)⟩
    · refine (claim_ok sb bm q v s.f s.p s.la s.cr s.cl s.l w hA hg.asc (by have := hg.len; omega) hg.I hr hc).mono ?_
      rintro e w' ⟨rfl, hk, ha⟩
      simp only [hr, hc, if_true, if_false]
      exact ⟨trivial, hk, ha⟩
  · refine (claim_bad sb q v s.la w hA.blk.c2 hr).mono ?_
    rintro e w' ⟨rfl, rfl⟩
    simp only [hr, if_false]
    exact ⟨trivial, Kept2.refl _ _ _, hA⟩
theorem do_calls (n : Nat) (sb bm : Nat) (s : St) (c : Bool) (q v : Int) (w : World) (hg : Good n s) (hn : n < 1000) (hA : AccS w sb bm s) :
    Calls Try.prog 12 #[.pointer (some ⟨sb, 0, none⟩), .agg #[.bool c, .int .i64 q, .int .i64 v]] w fun e w' => e = .returned (.int .i64 (doC s c q v)) ∧ Kept2 sb bm w w' ∧ AccS w' sb bm (doS s c q v) := by
  have hb := (Below.refl w.heap.size w).alloc (Nat.le_refl _) (.cells #[.bool c, .int .i64 q, .int .i64 v] 36)
  have hA2 : AccS (w.alloc (.cells #[.bool c, .int .i64 q, .int .i64 v] 36)) sb bm s := Acc.below hA hb (Nat.le_refl _)
  have HK := Lib.hid (Kept2.of_below (sb := sb) (bm := bm) hb)
  have HA := Lib.hid hA2
  have HGD := Lib.hid hg
  clear hb hA2 hA hg
  unfold doC doS
  cases c
  · go_enter Try.func12, Try.ntmps12
    go_wp2_with (go_at_call 17; refine (cred_st n sb bm s q v _ HGD.out hn HA.out).mono ?_; rintro e w' ⟨rfl, hk, ha⟩; have HK2 := Lib.hid (HK.out.trans hk); have HA2 := Lib.hid ha; clear hk ha)
    go_ret
    exact ⟨rfl, HK2.out, HA2.out⟩
  · go_enter Try.func12, Try.ntmps12
    go_wp2_with (go_at_call 18; refine (claim_st n sb bm s q v _ HGD.out hn HA.out).mono ?_; rintro e w' ⟨rfl, hk, ha⟩; have HK2 := Lib.hid (HK.out.trans hk); have HA2 := Lib.hid ha; clear hk ha)
    go_ret
    exact ⟨rfl, HK2.out, HA2.out⟩
end Go.Proofs.Ytmbelohcebfdcaa.Acc
