/- The reference of the package claim, as printed, beside the account's state: the same sums for each period. -/
import Derived.Test.YtmbelohcebfdcaaGreedy
import Derived.Test.YtmbelohcebfdcaaPRfx1
import Derived.Test.YtmbelohcebfdcaaPRfx2
set_option linter.unusedVariables false
set_option linter.unusedSimpArgs false
namespace Go.Proofs.Ytmbelohcebfdcaa.Acc
open Go.RowKit Go.Maps Go.Proofs.Ytmbelohcebfdcaa.PRf Go.Proofs.YtmbelohcebfdcaaW.PrintWords Go.Proofs.YtmbelohcebfdcaaW.PrintLast Go.Proofs.YtmbelohcebfdcaaW.PrintMore
def pr1 (x : S60) : Int × Int := (x.f0, x.f1)
def prs (cs : List S60) : List (Int × Int) := cs.map pr1
structure Rel (n : Nat) (s : St) (cs : List S60) : Prop where
  len : cs.length ≤ n
  asc : Wasc (prs cs)
  nn : Nn (prs cs)
  key : ∀ a ∈ prs cs, 0 ≤ a.1 ∧ a.1 ≤ s.la ∧ a.1 ≤ 1000000
  sums : ∀ c, sumG (one c) (prs cs) = sumG (one c) s.l
theorem Rel.all {n : Nat} {s : St} {cs : List S60} (h : Rel n s cs) (g : Int → Bool) : sumG g (prs cs) = sumG g s.l := sums_ext _ _ _ (Nat.le_refl _) h.sums g
theorem Rel.tot {n : Nat} {s : St} {cs : List S60} (h : Rel n s cs) : total (prs cs) = total s.l := h.all _
theorem rd_at (cs : List S60) (i : Nat) (hi : i < cs.length) : rd_T60 cs (i : Int) = cs[i] := by
  simp [rd_T60, hi]
theorem prs_drop (cs : List S60) (i : Nat) (hi : i < cs.length) : prs (cs.drop i) = (cs[i].f0, cs[i].f1) :: prs (cs.drop (i + 1)) := by
  rw [List.drop_eq_getElem_cons hi]; rfl
theorem w1 (i : Nat) (h : i < 1000) : wrap64 ((i : Int) + 1) = ((i + 1 : Nat) : Int) := by unfold wrap64; omega
theorem left_loop (f p la cr cl q : Int) (cs : List S60) (hlen : cs.length ≤ 200) (hp : 1 ≤ p ∧ p ≤ 24) (hk : ∀ a ∈ prs cs, 0 ≤ a.1 ∧ a.1 ≤ 1000000) (hn : Nn (prs cs)) :
    ∀ (m i : Nat) (acc : Int) (k : Nat), i + m = cs.length → 0 ≤ acc → acc + total (prs (cs.drop i)) ≤ 1152921504606846976 →
      sawmillref55_Account_Left.l0 (m + 1 + k) q acc i f p la cr cl cs = some (acc + if betw q 0 1000000 = true then sumG (fun c => validF p c q) (prs (cs.drop i)) else 0)
  | 0, i, acc, k, hi, h0, h1 => by
    rw [show 0 + 1 + k = k + 1 by omega, sawmillref55_Account_Left.l0, if_neg (by omega)]
    rw [List.drop_eq_nil_of_le (by omega)]
    simp [prs, sumG]
  | m + 1, i, acc, k, hi, h0, h1 => by
    have hlt : i < cs.length := by omega
    have hmem : (cs[i].f0, cs[i].f1) ∈ prs cs := List.mem_map.2 ⟨cs[i], List.getElem_mem _, rfl⟩
    have hkk := hk _ hmem
    have hnn := hn _ hmem
    simp only at hkk hnn
    have hnd : Nn (prs (cs.drop (i + 1))) := fun a ha => hn a (by
      obtain ⟨x, hx, rfl⟩ := List.mem_map.1 ha
      exact List.mem_map.2 ⟨x, List.mem_of_mem_drop hx, rfl⟩)
    have ht := sumN_range (fun _ => true) _ hnd
    rw [prs_drop cs i hlt, total_cons] at h1
    simp only at h1
    have htt : 0 ≤ total (prs (cs.drop (i + 1))) := ht.1
    have ih := fun acc h0 h1 => left_loop f p la cr cl q cs hlen hp hk hn m (i + 1) acc k (by omega) h0 h1
    have e1 : wrap64 (acc + cs[i].f1) = acc + cs[i].f1 := by unfold wrap64; omega
    rw [show m + 1 + 1 + k = (m + 1 + k) + 1 by omega, sawmillref55_Account_Left.l0, if_pos (by omega), if_pos (by omega), rd_at cs i hlt, w1 i (by omega), e1, prs_drop cs i hlt]
    simp only [sumG]
    by_cases c1 : q ≥ 0
    · rw [if_pos c1]
      by_cases c2 : q ≤ 1000000
      · rw [if_pos c2]
        have hb : betw q 0 1000000 = true := by unfold betw; simp; omega
        have e2 : wrap64 (cs[i].f0 + p) = cs[i].f0 + p := by unfold wrap64; omega
        have e3 : wrap64 (q - cs[i].f0) = q - cs[i].f0 := by unfold wrap64; omega
        rw [e2, if_pos hb]
        have hv : validF p cs[i].f0 q = (decide (cs[i].f0 ≤ q) && decide (q - cs[i].f0 < p)) := by unfold validF; rw [e3]
        by_cases c3 : cs[i].f0 ≤ q
        · rw [if_pos c3]
          by_cases c4 : cs[i].f0 + p > q
          · rw [if_pos c4, ih _ (by omega) (by omega), if_pos hb]
            have hv2 : validF p cs[i].f0 q = true := by rw [hv]; simp; omega
            simp only [hv2, if_true]
            congr 1; omega
          · rw [if_neg c4, ih _ (by omega) (by omega), if_pos hb]
            have hv2 : validF p cs[i].f0 q = false := by rw [hv]; simp; omega
            simp only [hv2, Bool.false_eq_true, if_false]
            congr 1; omega
        · rw [if_neg c3, ih _ (by omega) (by omega), if_pos hb]
          have hv2 : validF p cs[i].f0 q = false := by rw [hv]; simp; omega
          simp only [hv2, Bool.false_eq_true, if_false]
          congr 1; omega
      · rw [if_neg c2, ih _ (by omega) (by omega)]
        have hb : betw q 0 1000000 = false := by unfold betw; simp; omega
        simp [hb]
    · rw [if_neg c1, ih _ (by omega) (by omega)]
      have hb : betw q 0 1000000 = false := by unfold betw; simp; omega
      simp [hb]
theorem gone_loop (f p la cr cl q : Int) (cs : List S60) (hlen : cs.length ≤ 200) (hp : 1 ≤ p ∧ p ≤ 24) (hk : ∀ a ∈ prs cs, 0 ≤ a.1 ∧ a.1 ≤ 1000000) (hn : Nn (prs cs)) :
    ∀ (m i : Nat) (acc : Int) (k : Nat), i + m = cs.length → 0 ≤ acc → acc + total (prs (cs.drop i)) ≤ 1152921504606846976 →
      sawmillref55_Account_Expired.l0 (m + 1 + k) q acc i f p la cr cl cs = some (acc + if betw q 0 1000000 = true then sumG (fun c => goneF p c q) (prs (cs.drop i)) else 0)
  | 0, i, acc, k, hi, h0, h1 => by
    rw [show 0 + 1 + k = k + 1 by omega, sawmillref55_Account_Expired.l0, if_neg (by omega)]
    rw [List.drop_eq_nil_of_le (by omega)]
    simp [prs, sumG]
  | m + 1, i, acc, k, hi, h0, h1 => by
    have hlt : i < cs.length := by omega
    have hmem : (cs[i].f0, cs[i].f1) ∈ prs cs := List.mem_map.2 ⟨cs[i], List.getElem_mem _, rfl⟩
    have hkk := hk _ hmem
    have hnn := hn _ hmem
    simp only at hkk hnn
    have hnd : Nn (prs (cs.drop (i + 1))) := fun a ha => hn a (by
      obtain ⟨x, hx, rfl⟩ := List.mem_map.1 ha
      exact List.mem_map.2 ⟨x, List.mem_of_mem_drop hx, rfl⟩)
    have ht := sumN_range (fun _ => true) _ hnd
    rw [prs_drop cs i hlt, total_cons] at h1
    simp only at h1
    have htt : 0 ≤ total (prs (cs.drop (i + 1))) := ht.1
    have ih := fun acc h0 h1 => gone_loop f p la cr cl q cs hlen hp hk hn m (i + 1) acc k (by omega) h0 h1
    have e1 : wrap64 (acc + cs[i].f1) = acc + cs[i].f1 := by unfold wrap64; omega
    rw [show m + 1 + 1 + k = (m + 1 + k) + 1 by omega, sawmillref55_Account_Expired.l0, if_pos (by omega), if_pos (by omega), rd_at cs i hlt, w1 i (by omega), e1, prs_drop cs i hlt]
    simp only [sumG]
    by_cases c1 : q ≥ 0
    · rw [if_pos c1]
      by_cases c2 : q ≤ 1000000
      · rw [if_pos c2]
        have hb : betw q 0 1000000 = true := by unfold betw; simp; omega
        have e2 : wrap64 (cs[i].f0 + p) = cs[i].f0 + p := by unfold wrap64; omega
        have e3 : wrap64 (q - cs[i].f0) = q - cs[i].f0 := by unfold wrap64; omega
        rw [e2, if_pos hb]
        have hv : goneF p cs[i].f0 q = decide (p ≤ q - cs[i].f0) := by unfold goneF; rw [e3]
        by_cases c4 : cs[i].f0 + p ≤ q
        · rw [if_pos c4, ih _ (by omega) (by omega), if_pos hb]
          have hv2 : goneF p cs[i].f0 q = true := by rw [hv]; simp; omega
          simp only [hv2, if_true]
          congr 1; omega
        · rw [if_neg c4, ih _ (by omega) (by omega), if_pos hb]
          have hv2 : goneF p cs[i].f0 q = false := by rw [hv]; simp; omega
          simp only [hv2, Bool.false_eq_true, if_false]
          congr 1; omega
      · rw [if_neg c2, ih _ (by omega) (by omega)]
        have hb : betw q 0 1000000 = false := by unfold betw; simp; omega
        simp [hb]
    · rw [if_neg c1, ih _ (by omega) (by omega)]
      have hb : betw q 0 1000000 = false := by unfold betw; simp; omega
      simp [hb]
theorem ref_left {n : Nat} {s : St} {cs : List S60} (hR : Rel n s cs) (hI : Inv n s) (hn : n ≤ 200) (q : Int) :
    sawmillref55_Account_Left.f 300 s.f s.p s.la s.cr s.cl cs q = some (leftF s.p q s.l) := by
  obtain ⟨t1, t2, _⟩ := hI.tot hn
  have ht := hR.tot
  have := left_loop s.f s.p s.la s.cr s.cl q cs (by have := hR.len; omega) hI.p (fun a ha => ⟨(hR.key a ha).1, (hR.key a ha).2.2⟩) hR.nn cs.length 0 0 (300 - cs.length - 1) (by omega) (Int.le_refl _) (by rw [List.drop_zero]; omega)
  rw [show cs.length + 1 + (300 - cs.length - 1) = 300 by have := hR.len; omega, List.drop_zero, hR.all] at this
  unfold sawmillref55_Account_Left.f
  rw [show ((0 : Nat) : Int) = 0 from rfl] at this
  rw [this, leftF_eq hI hn, Int.zero_add]
theorem ref_gone {n : Nat} {s : St} {cs : List S60} (hR : Rel n s cs) (hI : Inv n s) (hn : n ≤ 200) (q : Int) :
    sawmillref55_Account_Expired.f 300 s.f s.p s.la s.cr s.cl cs q = some (goneS s.p q s.l) := by
  obtain ⟨t1, t2, _⟩ := hI.tot hn
  have ht := hR.tot
  have := gone_loop s.f s.p s.la s.cr s.cl q cs (by have := hR.len; omega) hI.p (fun a ha => ⟨(hR.key a ha).1, (hR.key a ha).2.2⟩) hR.nn cs.length 0 0 (300 - cs.length - 1) (by omega) (Int.le_refl _) (by rw [List.drop_zero]; omega)
  rw [show cs.length + 1 + (300 - cs.length - 1) = 300 by have := hR.len; omega, List.drop_zero, hR.all] at this
  unfold sawmillref55_Account_Expired.f
  rw [show ((0 : Nat) : Int) = 0 from rfl] at this
  rw [this, goneS_eq hI hn, Int.zero_add]
theorem ref_check (k : Nat) (f p la cr cl q u : Int) (cs : List S60) : sawmillref55_Account_check.f (k + 1) f p la cr cl cs q u = some (refusedF la q u) := by
  have e : refusedF la q u = if q < 0 ∨ q > 1000000 ∨ q < la then 15 else if u < 0 then 9 else if u > 1125899906842624 then 9 else 0 := by
    unfold refusedF
    by_cases c : q < 0 ∨ q > 1000000 ∨ q < la
    · rw [if_pos c, if_neg]
      unfold betw
      split <;> simp <;> omega
    · rw [if_neg c, if_pos (show betw q (if 0 < la then la else 0) 1000000 = true by unfold betw; split <;> simp <;> omega)]
      by_cases c1 : u < 0
      · rw [if_pos c1, if_neg]
        unfold betw
        simp; omega
      · rw [if_neg c1]
        by_cases c2 : u > 1125899906842624
        · rw [if_pos c2, if_neg]
          unfold betw
          simp; omega
        · rw [if_neg c2, if_pos]
          unfold betw
          simp; omega
  rw [e]
  unfold sawmillref55_Account_check.f
  by_cases c1 : q < 0
  · rw [if_pos c1, if_pos (Or.inl c1)]; simp [sawmillref55_Account_check.j0]
  · rw [if_neg c1]
    by_cases c2 : q > 1000000
    · rw [if_pos c2, if_pos (Or.inr (Or.inl c2))]; simp [sawmillref55_Account_check.j0]
    · rw [if_neg c2]
      by_cases c3 : q < la
      · rw [if_pos (Or.inr (Or.inr c3))]; simp [sawmillref55_Account_check.j0, c3]
      · rw [if_neg (by omega)]
        simp only [sawmillref55_Account_check.j0, decide_eq_false c3, Bool.false_eq_true, if_false]
        split
        · rfl
        · split <;> rfl
def up1 (a : Int × Int) : S60 := ⟨a.1, a.2⟩
theorem claim_loop (f p la cr cl q u : Int) (cs0 : List S60) (hp : 1 ≤ p ∧ p ≤ 24) (hq : 0 ≤ q ∧ q ≤ 1000000) :
    ∀ (rest done : List S60) (v : Int) (k : Nat), done.length + rest.length ≤ 200 → 0 ≤ v → v < 1152921504606846976 → (∀ a ∈ prs rest, 0 ≤ a.1 ∧ a.1 ≤ q) → Nn (prs rest) → (∀ a ∈ prs rest, a.2 ≤ 1152921504606846976) →
      sawmillref55_Account_Claim.l0 (rest.length + 1 + k) q u (done ++ rest) v (done.length : Int) f p la cr cl cs0 = some (f, p, q, cr, wrap64 (cl + u), done ++ (claimK p q (prs rest) v).map up1, 0)
  | [], done, v, k, hl, hv, hv2, hk, hn, hb => by
    rw [show ([] : List S60).length + 1 + k = k + 1 by simp; omega, sawmillref55_Account_Claim.l0, if_neg (by simp)]
    simp [prs, claimK]
  | x :: rest, done, v, k, hl, hv, hv2, hk, hn, hb => by
    have hkk := hk (x.f0, x.f1) (by simp [prs, pr1])
    have hnn := hn (x.f0, x.f1) (by simp [prs, pr1])
    have hbb := hb (x.f0, x.f1) (by simp [prs, pr1])
    simp only at hkk hnn hbb
    have hlt : done.length < (done ++ x :: rest).length := by simp
    have e2 : wrap64 (x.f0 + p) = x.f0 + p := by unfold wrap64; omega
    have e3 : wrap64 (q - x.f0) = q - x.f0 := by unfold wrap64; omega
    have hl2 : done.length + (rest.length + 1) ≤ 200 := by simpa using hl
    have emn : mn v x.f1 = min v x.f1 := by unfold mn; split <;> omega
    rw [show (x :: rest).length + 1 + k = (rest.length + 1 + k) + 1 by simp; omega, sawmillref55_Account_Claim.l0, if_pos (by exact_mod_cast hlt), if_pos (by omega), rd_at _ _ hlt, w1 _ (by omega)]
    rw [show (done ++ x :: rest)[done.length] = x by simp]
    rw [e2, emn]
    have hv1 : prs (x :: rest) = (x.f0, x.f1) :: prs rest := rfl
    rw [hv1, claimK]
    have hvd : validF p x.f0 q = decide (q - x.f0 < p) := by
      unfold validF; rw [e3, decide_eq_true hkk.2, Bool.true_and]
    by_cases c1 : x.f0 + p > q
    · have hv3 : validF p x.f0 q = true := by rw [hvd]; simp; omega
      have e4 : wrap64 (x.f1 - min v x.f1) = x.f1 - min v x.f1 := by unfold wrap64; omega
      have e5 : wrap64 (v - min v x.f1) = v - min v x.f1 := by unfold wrap64; omega
      rw [if_pos c1, if_pos hv3, e4, e5]
      have hset : (done ++ x :: rest).set ((done.length : Int).toNat) ⟨x.f0, x.f1 - min v x.f1⟩ = (done ++ [⟨x.f0, x.f1 - min v x.f1⟩]) ++ rest := by
        simp [List.set_append]
      rw [hset]
      have ih := claim_loop f p la cr cl q u cs0 hp hq rest (done ++ [⟨x.f0, x.f1 - min v x.f1⟩]) (v - min v x.f1) k (by simp; omega) (by omega) (by omega) (fun a ha => hk a (by rw [hv1]; exact List.mem_cons_of_mem _ ha)) hn.tail (fun a ha => hb a (by rw [hv1]; exact List.mem_cons_of_mem _ ha))
      rw [List.length_append, List.length_singleton] at ih
      rw [ih]
      simp [up1]
    · have hv3 : ¬ validF p x.f0 q = true := by rw [hvd]; simp; omega
      rw [if_neg c1, if_neg hv3]
      have ih := claim_loop f p la cr cl q u cs0 hp hq rest (done ++ [x]) v k (by simp; omega) hv hv2 (fun a ha => hk a (by rw [hv1]; exact List.mem_cons_of_mem _ ha)) hn.tail (fun a ha => hb a (by rw [hv1]; exact List.mem_cons_of_mem _ ha))
      rw [List.length_append, List.length_singleton, show done ++ [x] ++ rest = done ++ x :: rest by simp] at ih
      rw [ih]
      simp [up1]
theorem prs_up (l : List (Int × Int)) : prs (l.map up1) = l := by
  unfold prs; rw [List.map_map]; exact List.map_id _
theorem ref_credit {n : Nat} {s : St} {cs : List S60} (hR : Rel n s cs) (hI : Inv n s) (hn : n ≤ 100) (q u : Int) :
    ∃ cs', sawmillref55_Account_Credit.f 300 s.f s.p s.la s.cr s.cl cs q u = some ((credS s q u).f, (credS s q u).p, (credS s q u).la, (credS s q u).cr, (credS s q u).cl, cs', credC s q u) ∧ Rel (n + 1) (credS s q u) cs' := by
  unfold sawmillref55_Account_Credit.f
  rw [show (300 : Nat) = 299 + 1 from rfl, ref_check]
  unfold credC
  by_cases hr : refusedF s.la q u = 0
  · obtain ⟨e1, e2, e3, e4, e5, e6, e7⟩ := hI.cred_eq (by omega) hr
    have hq := refused_q hr
    obtain ⟨c1, c2, _⟩ := creditN_eq hI.f ⟨hq.2.2.2.1, hq.2.2.2.2⟩
    obtain ⟨t1, t2, t3, t4, t5⟩ := hI.tot (by omega)
    have hlen := hR.len
    refine ⟨cs ++ [⟨q, creditN s.f u⟩], ?_, ?_⟩
    · rw [e1, e2, e3, e4, e5, hr]
      have e8 : wrap64 (s.cr + creditN s.f u) = s.cr + creditN s.f u := by unfold wrap64; omega
      simp only [Option.bind_some, if_true, List.length_nil, Nat.zero_add, List.nil_append]
      rw [if_pos (by omega), if_pos (by omega)]
      have e9 : wrap64 ((wrap64 (u * s.f)).tdiv 1000) = creditN s.f u := rfl
      rw [e9, e8]
    · have hp : prs (cs ++ [⟨q, creditN s.f u⟩]) = prs cs ++ [(q, creditN s.f u)] := by simp [prs, pr1]
      refine ⟨by simp; omega, ?_, ?_, ?_, ?_⟩
      · rw [hp]
        refine List.pairwise_append.2 ⟨hR.asc, List.pairwise_singleton _ _, fun a ha b hb => ?_⟩
        have := hR.key a ha
        simp at hb
        subst hb
        show a.1 ≤ q
        omega
      · rw [hp]
        intro a ha
        rcases List.mem_append.1 ha with ha | ha
        · exact hR.nn a ha
        · simp at ha; subst ha; exact c1
      · rw [hp, e1]
        intro a ha
        rcases List.mem_append.1 ha with ha | ha
        · have := hR.key a ha; omega
        · simp at ha; subst ha; show 0 ≤ q ∧ q ≤ q ∧ q ≤ 1000000; omega
      · intro c
        rw [hp, sumG_app, e7 (one c), hR.sums c]
        simp only [sumG]
        omega
  · rw [Inv.cred_ne (n := n) hr]
    refine ⟨cs, ?_, ⟨by have := hR.len; omega, hR.asc, hR.nn, hR.key, hR.sums⟩⟩
    simp only [Option.bind_some, if_neg hr]
theorem ref_claim {n : Nat} {s : St} {cs : List S60} (hR : Rel n s cs) (hI : Inv n s) (hn : n ≤ 100) (q u : Int) :
    ∃ cs', sawmillref55_Account_Claim.f 300 s.f s.p s.la s.cr s.cl cs q u = some ((claimT s q u).f, (claimT s q u).p, (claimT s q u).la, (claimT s q u).cr, (claimT s q u).cl, cs', claimC s q u) ∧ Rel (n + 1) (claimT s q u) cs' := by
  have hup : Rel (n + 1) s cs := ⟨by have := hR.len; omega, hR.asc, hR.nn, hR.key, hR.sums⟩
  unfold sawmillref55_Account_Claim.f
  rw [ref_left hR hI (by omega), show (300 : Nat) = 299 + 1 from rfl, ref_check]
  simp only [Option.bind_some]
  by_cases hr : refusedF s.la q u = 0
  · rw [if_pos hr]
    by_cases hl : leftF s.p q s.l < u
    · have hc : claimC s q u = 23 := by unfold claimC; rw [if_pos hr, if_pos hl]
      rw [Inv.claim_ne (n := n) (by rw [hc]; decide), hc]
      exact ⟨cs, by rw [if_pos hl], hup⟩
    · have hc : claimC s q u = 0 := by unfold claimC; rw [if_pos hr, if_neg hl]
      have hq := refused_q hr
      obtain ⟨e1, e2, e3, e4, e5, e6, e7, e8, e9, e10⟩ := hI.claim_eq (by omega) hc
      obtain ⟨t1, t2, t3, t4, t5⟩ := hI.tot (by omega)
      have hlen := hR.len
      have hcl := hI.cl
      have hb : ∀ a ∈ prs cs, a.2 ≤ 1152921504606846976 := by
        intro a ha
        have h1 : a.2 ≤ total (prs cs) := by
          have : ∀ l : List (Int × Int), Nn l → a ∈ l → a.2 ≤ total l := by
            intro l
            induction l with
            | nil => intro _ h; simp at h
            | cons b l ih =>
              intro hnn h
              rw [total_cons]
              have h2 : 0 ≤ total l := (sumN_range (fun _ => true) l hnn.tail).1
              have h3 := hnn b (by simp)
              rcases List.mem_cons.1 h with rfl | h
              · omega
              · have := ih hnn.tail h; omega
          exact this _ hR.nn ha
        have := hR.tot
        omega
      have hlp := claim_loop s.f s.p s.la s.cr s.cl q u cs hI.p ⟨hq.1, hq.2.1⟩ cs [] u (299 - cs.length) (by simp; omega) hq.2.2.2.1 (by omega) (fun a ha => by have := hR.key a ha; omega) hR.nn hb
      rw [show cs.length + 1 + (299 - cs.length) = 299 + 1 by omega] at hlp
      refine ⟨(claimK s.p q (prs cs) u).map up1, ?_, ?_⟩
      · rw [if_neg hl, if_pos (by simp; omega)]
        simp only [List.nil_append, List.length_nil] at hlp ⊢
        rw [show ((0 : Nat) : Int) = 0 from rfl] at hlp
        have e11 : wrap64 (s.cl + u) = s.cl + u := by have := hI.sum; unfold wrap64; omega
        rw [hlp, e1, e2, e3, e4, e5, hc, e11]
      · refine ⟨?_, ?_, ?_, ?_, ?_⟩
        · have := congrArg List.length (claimK_key s.p q (prs cs) u)
          simp [prs] at this ⊢
          omega
        · rw [prs_up]
          have hk := claimK_key s.p q (prs cs) u
          have h1 : (List.map (·.1) (claimK s.p q (prs cs) u)).Pairwise (· ≤ ·) := by
            rw [hk]; exact List.pairwise_map.2 hR.asc
          exact List.pairwise_map.1 h1
        · rw [prs_up]; exact claimK_nn _ _ _ _ hR.nn
        · rw [prs_up, e1]
          intro a ha
          have hk := claimK_key s.p q (prs cs) u
          have : a.1 ∈ List.map (·.1) (prs cs) := by rw [← hk]; exact List.mem_map.2 ⟨a, ha, rfl⟩
          obtain ⟨b, hb2, hb3⟩ := List.mem_map.1 this
          have := hR.key b hb2
          omega
        · intro c
          rw [prs_up]
          have := claim_sums s.p q u hI.pos hI.good.asc (by omega) hR.nn hR.asc ⟨hq.2.2.2.1, by omega⟩ hR.sums c
          rw [this]
          unfold claimT
          rw [if_pos hc]
  · have hc : claimC s q u = refusedF s.la q u := by unfold claimC; rw [if_neg hr]
    rw [Inv.claim_ne (n := n) (by rw [hc]; exact hr), hc, if_neg hr]
    exact ⟨cs, rfl, hup⟩
theorem ref_new (n0 n1 : Int) : sawmillref55_New.f n0 n1 = if (betw n0 0 1000 && betw n1 1 24) = true then some (n0, n1, -1, 0, 0, [], 0) else some (0, 0, 0, 0, 0, [], 9) := by
  unfold sawmillref55_New.f betw
  by_cases c1 : n0 < 0
  · rw [if_pos c1, if_neg (by simp; omega)]
  · by_cases c2 : n0 > 1000
    · rw [if_neg c1, if_pos c2, if_neg (by simp; omega)]
    · by_cases c3 : n1 < 1
      · rw [if_neg c1, if_neg c2, if_pos c3, if_neg (by simp; omega)]
      · by_cases c4 : n1 > 24
        · rw [if_neg c1, if_neg c2, if_neg c3, if_pos c4, if_neg (by simp; omega)]
        · rw [if_neg c1, if_neg c2, if_neg c3, if_neg c4, if_pos (by simp; omega)]
end Go.Proofs.Ytmbelohcebfdcaa.Acc
