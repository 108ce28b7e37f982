/- The account's Claim: what it does to its two blocks. -/
import Derived.Test.YtmbelohcebfdcaaKeys
set_option linter.unusedVariables false
set_option linter.unusedSimpArgs false
namespace Go.Proofs.Ytmbelohcebfdcaa.Acc
open Go.RowKit Go.Maps
theorem claim_bad (sb : Nat) (q v la : Int) (w : World) (c2 : w.cell? ⟨sb, 2, none⟩ = some (.int .i64 la)) (hr : refusedF la q v ≠ 0) :
    Calls Try.prog 18 #[.pointer (some ⟨sb, 0, none⟩), .int .i64 q, .int .i64 v] w fun e w' => e = .returned (.int .i64 (refusedF la q v)) ∧ w' = w := by
  have hb : (refusedF la q v != 0) = true := by simpa using hr
  clear hr
  go_enter Try.func18, Try.ntmps18
  go_wp2_with (go_at_call 28; refine (refused_calls _ _ _ la _ ?_).mono ?_; assumption; rintro e w' ⟨rfl, rfl⟩)
  go_ret
  exact ⟨rfl, rfl⟩
theorem claim_nil (q v : Int) (w : World) :
    Calls Try.prog 18 #[.pointer none, .int .i64 q, .int .i64 v] w fun e w' => e = .returned (.int .i64 1) ∧ w' = w := by
  go_enter Try.func18, Try.ntmps18
  go_wp2_with (go_at_call 28; refine (refused_nil _ _ _).mono ?_; rintro e w' ⟨rfl, rfl⟩)
  go_ret
  exact ⟨rfl, rfl⟩
theorem claim_quota (sb bm : Nat) (q v f p la cr cl : Int) (l : List (Int × Int)) (w : World) (hA : Acc w sb bm f p la l cr cl) (hl : Asc l) (hr : refusedF la q v = 0) (hc : leftF p q l < v) :
    Calls Try.prog 18 #[.pointer (some ⟨sb, 0, none⟩), .int .i64 q, .int .i64 v] w fun e w' => e = .returned (.int .i64 23) ∧ Below w.heap.size w w' := by
  have c2 := hA.blk.c2
  have hc2 : decide (leftF p q l < v) = true := by simpa using hc
  have HA := Lib.hid hA
  have HQ := Lib.hid hl
  clear hA hl hc
  go_enter Try.func18, Try.ntmps18
  go_wp2_with (first
    | (go_at_call 28; refine (refused_calls _ _ _ la _ ?_).mono ?_; assumption; rintro e w' ⟨rfl, rfl⟩; rw [hr])
    | (go_at_call 15; refine (left_calls sb bm q f p la cr cl l _ HA.out HQ.out).mono ?_; rintro e w1 ⟨rfl, hb⟩; have HB := Lib.hid hb; clear hb))
  go_ret
  exact ⟨rfl, HB.out⟩
def claimS (p q : Int) : List (Int × Int) → Int → List (Int × Int) × Int
  | [], v => ([], v)
  | a :: l, v => if validF p a.1 q = true then
      (if wrap64 (a.2 - min v a.2) = 0 then claimS p q l (wrap64 (v - min v a.2)) else ((a.1, wrap64 (a.2 - min v a.2)) :: (claimS p q l (wrap64 (v - min v a.2))).1, (claimS p q l (wrap64 (v - min v a.2))).2))
    else (a :: (claimS p q l v).1, (claimS p q l v).2)
theorem asc_mid {d rest : List (Int × Int)} {a : Int × Int} (h : Asc (d ++ a :: rest)) : (∀ b ∈ d, b.1 < a.1) ∧ (∀ b ∈ rest, a.1 < b.1) := by
  have h2 := List.pairwise_append.1 h
  exact ⟨fun b hb => h2.2.2 b hb a (by simp), (List.pairwise_cons.1 h2.2.1).1⟩
theorem getV_mid : ∀ (d rest : List (Int × Int)) (a : Int × Int), (∀ b ∈ d, b.1 < a.1) → getV (d ++ a :: rest) a.1 = some a.2
  | [], rest, a, _ => by simp [getV]
  | b :: d, rest, a, h => by
    have h1 := h b (by simp)
    have e : (b.1 == a.1) = false := by simp; omega
    have := getV_mid d rest a (fun c hc => h c (by simp [hc]))
    simpa [getV, List.find?_cons, e] using this
theorem putL_mid (x : Int) : ∀ (d rest : List (Int × Int)) (a : Int × Int), (∀ b ∈ d, b.1 < a.1) → putL (d ++ a :: rest) a.1 x = d ++ (a.1, x) :: rest
  | [], rest, a, _ => by simp [putL]
  | b :: d, rest, a, h => by
    have h1 := h b (by simp)
    have := putL_mid x d rest a (fun c hc => h c (by simp [hc]))
    simp only [List.cons_append, putL]
    rw [if_neg (by omega), if_neg (by omega), this]
theorem delL_mid (d rest : List (Int × Int)) (a : Int × Int) (h1 : ∀ b ∈ d, b.1 < a.1) (h2 : ∀ b ∈ rest, a.1 < b.1) : delL (d ++ a :: rest) a.1 = d ++ rest := by
  unfold delL
  rw [List.filter_append, List.filter_cons]
  have e1 : d.filter (fun b => !(b.1 == a.1)) = d := List.filter_eq_self.2 (fun b hb => by have := h1 b hb; simp; omega)
  have e2 : rest.filter (fun b => !(b.1 == a.1)) = rest := List.filter_eq_self.2 (fun b hb => by have := h2 b hb; simp; omega)
  rw [e1, e2]
  simp
theorem add_blk (ad : Addr) (k : Nat) : (ad.add k).block = ad.block := by unfold Addr.add; split <;> rfl
theorem wpList_look {w : World} {ops : Array Oper} {rest : List Oper} {o : Oper} {a : Act} {Q : Exit → Act → World → Prop}
    (hg : o.guard = none) (m x : Operand) (hop : o.op = Op.lookup 49 m x false) (b : Nat) (l : List (Int × Int)) (hm : a.eval m = .map (some b)) (hown : w.ownsMap Try.prog 3 (plainElem Try.prog 3) b l.length (toD l)) (k c : Int) (hx : a.eval x = .int .i64 k)
    (hkey : keyOf Try.prog 3 (.int .i64 k) = some (.int .i64 k)) (hget : (getV l k).getD 0 = c) (hK : wpList Try.prog ops Q rest (a.put o.dst (.int .i64 c)) w) : wpList Try.prog ops Q (o :: rest) a w :=
  wpList_lookup_own_int w hg m x 49 hop 3 3 .i64 law Try.underlying49 Try.underlying3 (zeroI _) b l.length _ hm hown _ _ hx hkey (fun c' hat _ => by rw [getD_of_at hat, hget]; exact hK)
theorem keyI {a : Int} (h : I64 a) : keyOf Try.prog 3 (.int .i64 a) = some (.int .i64 a) := keyOf_int_mk Try.underlying3 (by unfold I64 at h; simp [Lit.wf, IntKind.min, IntKind.max, IntKind.signed, IntKind.bits]; omega)
theorem asc_snoc {d rest : List (Int × Int)} {a : Int × Int} (h : Asc (d ++ a :: rest)) : Asc ((d ++ [a]) ++ rest) := by simpa using h
theorem asc_set {d rest : List (Int × Int)} {a : Int × Int} {x : Int} (h : Asc (d ++ a :: rest)) : Asc (d ++ (a.1, x) :: rest) := by
  obtain ⟨h1, h2, h3⟩ := List.pairwise_append.1 h
  obtain ⟨h4, h5⟩ := List.pairwise_cons.1 h2
  refine List.pairwise_append.2 ⟨h1, List.pairwise_cons.2 ⟨h4, h5⟩, fun b hb c hc => ?_⟩
  rcases List.mem_cons.1 hc with rfl | hc
  · exact h3 b hb a (by simp)
  · exact h3 b hb c (by simp [hc])
theorem asc_drop {d rest : List (Int × Int)} {a : Int × Int} (h : Asc (d ++ a :: rest)) : Asc (d ++ rest) := by
  obtain ⟨h1, h2, h3⟩ := List.pairwise_append.1 h
  obtain ⟨h4, h5⟩ := List.pairwise_cons.1 h2
  exact List.pairwise_append.2 ⟨h1, h5, fun b hb c hc => h3 b hb c (by simp [hc])⟩
set_option maxHeartbeats 1000000 in
theorem claim_ok (sb bm : Nat) (q v f p la cr cl : Int) (l : List (Int × Int)) (w : World) (hA : Acc w sb bm f p la l cr cl) (hl : Asc l) (hn : l.length < 1000) (hI : ∀ a ∈ l, I64 a.1) (hr : refusedF la q v = 0) (hc : ¬ leftF p q l < v) :
    Calls Try.prog 18 #[.pointer (some ⟨sb, 0, none⟩), .int .i64 q, .int .i64 v] w fun e w' => e = .returned (.int .i64 0) ∧ Kept2 sb bm w w' ∧ Acc w' sb bm f p q (claimS p q l v).1 cr (wrap64 (cl + v)) := by
  have c2 := hA.blk.c2
  have hc2 : decide (leftF p q l < v) = false := by simpa using hc
  have HA := Lib.hid hA
  have HQ := Lib.hid hl
  have HI := Lib.hid hI
  clear hA hl hc hI
  go_enter Try.func18, Try.ntmps18
  go_wp2_with (first
    | (go_at_call 28; refine (refused_calls _ _ _ la _ ?_).mono ?_; assumption; rintro e w' ⟨rfl, rfl⟩; rw [hr])
    | (go_at_call 15; refine (left_calls sb bm q f p la cr cl l _ HA.out HQ.out).mono ?_; rintro e w1 ⟨rfl, hb⟩; have HB := Lib.hid hb; have hA1 := HA.out.below hb (Nat.le_refl _); clear c2; have d2 := hA1.blk.c2; have d5 := hA1.blk.c5; have d3 := hA1.blk.c3; have g2 := hA1.blk.fr 2; have g5 := hA1.blk.fr 5; have HA1 := Lib.hid hA1; clear hb hA1)
    | (go_at_call 30; generalize hW : World.setCell _ _ _ = W; have HAW := Lib.hid (show Acc W sb bm f p q l cr (wrap64 (cl + v)) from hW ▸ ⟨(HA1.out.blk.set5 _).set2 _, (HA1.out.map.setCell (Ne.symm HA1.out.ne) _).setCell (Ne.symm HA1.out.ne) _, HA1.out.ne⟩); have HKW := Lib.hid (show Kept2 sb bm w' W from hW ▸ ((Kept2.of_below HB.out).setCell _ _).setCell _ _); clear hW d2 d3 d5 g2 g5; refine (keys_calls _ W).mono ?_; rintro e w2 ⟨rfl, rfl⟩)
    | (go_at_call 29; refine (keys_sorted bm l W HAW.out.map HQ.out hn).mono ?_; rintro e w3 ⟨A, c, rfl, hcells, hA4, hb3⟩; have HC := Lib.hid hcells; have HA4 := Lib.hid hA4; have HB3 := Lib.hid hb3; clear hcells hA4 hb3))
  have hA3 := HAW.out.below (((Below.refl _ W).alloc (Nat.le_refl _) (.cells #[.map (some bm)] 49)).trans (HB3.out.mono (Nat.le_succ _))) (Nat.le_refl _)
  have hltW := HAW.out.lt
  go_loopw [2, 42] (fun vv i wr => ∃ (k : Nat) (d : List (Int × Int)) (vk : Int), k ≤ l.length ∧ vv = .int .i64 vk ∧ i = .int .i64 (k : Int) ∧ Asc (d ++ l.drop k) ∧ d.length ≤ k ∧ claimS p q l v = (d ++ (claimS p q (l.drop k) vk).1, (claimS p q (l.drop k) vk).2) ∧ Acc wr sb bm f p q (d ++ l.drop k) cr (wrap64 (cl + v)) ∧ Kept2 sb bm w3 wr) (fun _ i _ => l.length - (intOf i).toNat)
  case atStart => exact ⟨0, [], v, Nat.zero_le _, rfl, rfl, HQ.out, Nat.le_refl _, rfl, hA3, Kept2.refl _ _ _⟩
  case round =>
    obtain ⟨k, d, vk, hk, rfl, rfl, hasc, hdl, hcs, hacc, hkept⟩ := hrel
    have HAS := Lib.hid hasc
    have HCS := Lib.hid hcs
    have HAC := Lib.hid hacc
    have HKP := Lib.hid hkept
    clear hasc hcs hacc hkept
    by_cases hlt : k < l.length
    · obtain ⟨a, ha⟩ : ∃ a, a = l[k] := ⟨_, rfl⟩
      have hdrop : l.drop k = a :: l.drop (k + 1) := by rw [ha]; exact List.drop_eq_getElem_cons hlt
      have hmem : a ∈ l := by rw [ha]; exact List.getElem_mem hlt
      obtain ⟨ad, rfl, hcell⟩ := HC.out k hlt
      rw [← ha] at hcell
      have had := HA4.out ad rfl
      have hcell2 : wr.cell? (ad.add k) = some (.int .i64 a.1) := (World.cell?_of_block (w := w3) (HKP.out.block _ (by rw [add_blk]; omega) (by rw [add_blk]; omega) (by rw [add_blk]; omega))).trans hcell
      have c1 := HAC.out.blk.c1
      have c3 := HAC.out.blk.c3
      have HHD := Lib.hid hdrop
      have HMM := Lib.hid hmem
      clear hdrop hcell ha hmem
      cases hv : validF p a.1 q
      · go_wp2_with (go_at_call 26; refine (valid_calls _ _ _ p _ ?_).mono ?_; assumption; rintro e w' ⟨rfl, rfl⟩; rw [hv])
        have h1 := HAS.out
        have h2 := HCS.out
        have h3 := HAC.out
        rw [HHD.out] at h1 h2 h3
        refine ⟨⟨k + 1, d ++ [a], vk, by omega, rfl, congrArg _ (by omega), asc_snoc h1, by simp; omega, ?_, by simpa using h3, HKP.out⟩, by simp [intOf]; omega⟩
        rw [h2, claimS]
        simp [hv]
      · have h1 := HAS.out
        have h3 := HAC.out
        rw [HHD.out] at h1 h3
        obtain ⟨m1, m2⟩ := asc_mid h1
        have HA1' := Lib.hid h1
        have HA3' := Lib.hid h3
        have HM1 := Lib.hid m1
        have HM2 := Lib.hid m2
        clear h1 h3 m1 m2
        by_cases hz : wrap64 (a.2 - min vk a.2) = 0
        · have hz1 : (wrap64 (a.2 - min vk a.2) == 0) = true := by simpa using hz
          have HZ := Lib.hid hz
          clear hz
          go_wp2_with (first
            | (go_at_call 26; refine (valid_calls _ _ _ p _ ?_).mono ?_; assumption; rintro e w' ⟨rfl, rfl⟩; rw [hv])
            | (at_lookup; refine wpList_look rfl _ _ rfl bm _ rfl HA3'.out.map _ a.2 rfl (keyI (HI.out a HMM.out)) (by rw [getV_mid _ _ _ HM1.out]; rfl) ?_)
            | (at_mapUpdate; refine wpList_mapUpdate_own _ rfl _ _ _ 49 rfl 3 3 law Try.underlying49 _ bm _ _ rfl HA3'.out.map (by simp; unfold maxLen; omega) _ _ _ rfl rfl (keyI (HI.out a HMM.out)) _ [] (plainElem_int Try.underlying3 (wrap64_wf _)) ?_; intro w5 hown5 hgrow5; have HA5 := Lib.hid (show Acc w5 sb bm f p q (d ++ (a.1, wrap64 (a.2 - min vk a.2)) :: l.drop (k + 1)) cr (wrap64 (cl + v)) from ⟨HA3'.out.blk.of (hgrow5.block sb HA3'.out.lt.1 (fun e => HA3'.out.ne (Option.some.inj e))), owns_toD hown5 (by rw [put_toD _ _ _ HA1'.out, putL_mid _ _ _ _ HM1.out]), HA3'.out.ne⟩); have c3' := HA5.out.blk.c3; have HKP5 := Lib.hid (HKP.out.grown hgrow5 (fun j hj => by cases hj; exact Or.inl rfl)); clear hown5 hgrow5)
            | (at_lookup; refine wpList_look rfl _ _ rfl bm _ rfl HA5.out.map _ (wrap64 (a.2 - min vk a.2)) rfl (keyI (HI.out a HMM.out)) (congrArg (fun z => Option.getD z 0) (getV_mid d (l.drop (k + 1)) (a.1, wrap64 (a.2 - min vk a.2)) HM1.out)) ?_)
            | (at_delete; refine wpList_delete_own _ rfl _ _ 49 3 rfl 3 law Try.underlying49 _ bm _ _ rfl HA5.out.map _ _ rfl (keyI (HI.out a HMM.out)) ?_; intro w6 hown6 hturn6; have HA6 := Lib.hid (show Acc w6 sb bm f p q (d ++ l.drop (k + 1)) cr (wrap64 (cl + v)) from ⟨HA5.out.blk.of (hturn6.grown.block sb HA5.out.lt.1 (fun e => HA5.out.ne (Option.some.inj e))), owns_toD hown6 (by rw [del_toD]; exact congrArg toD (delL_mid d (l.drop (k + 1)) (a.1, wrap64 (a.2 - min vk a.2)) HM1.out HM2.out)), HA5.out.ne⟩); have HKP6 := Lib.hid (HKP5.out.grown hturn6.grown (fun j hj => by cases hj; exact Or.inl rfl)); clear hown6 hturn6))
          have h2 := HCS.out
          rw [HHD.out] at h2
          refine ⟨⟨k + 1, d, _, by omega, rfl, congrArg _ (by omega), asc_drop HA1'.out, by omega, ?_, HA6.out, HKP6.out⟩, by simp [intOf]; omega⟩
          rw [h2, claimS]
          simp only [hv, HZ.out, if_true]
        · have hz1 : (wrap64 (a.2 - min vk a.2) == 0) = false := by simpa using hz
          have HZ := Lib.hid hz
          clear hz
          go_wp2_with (first
            | (go_at_call 26; refine (valid_calls _ _ _ p _ ?_).mono ?_; assumption; rintro e w' ⟨rfl, rfl⟩; rw [hv])
            | (at_lookup; refine wpList_look rfl _ _ rfl bm _ rfl HA3'.out.map _ a.2 rfl (keyI (HI.out a HMM.out)) (by rw [getV_mid _ _ _ HM1.out]; rfl) ?_)
            | (at_mapUpdate; refine wpList_mapUpdate_own _ rfl _ _ _ 49 rfl 3 3 law Try.underlying49 _ bm _ _ rfl HA3'.out.map (by simp; unfold maxLen; omega) _ _ _ rfl rfl (keyI (HI.out a HMM.out)) _ [] (plainElem_int Try.underlying3 (wrap64_wf _)) ?_; intro w5 hown5 hgrow5; have HA5 := Lib.hid (show Acc w5 sb bm f p q (d ++ (a.1, wrap64 (a.2 - min vk a.2)) :: l.drop (k + 1)) cr (wrap64 (cl + v)) from ⟨HA3'.out.blk.of (hgrow5.block sb HA3'.out.lt.1 (fun e => HA3'.out.ne (Option.some.inj e))), owns_toD hown5 (by rw [put_toD _ _ _ HA1'.out, putL_mid _ _ _ _ HM1.out]), HA3'.out.ne⟩); have c3' := HA5.out.blk.c3; have HKP5 := Lib.hid (HKP.out.grown hgrow5 (fun j hj => by cases hj; exact Or.inl rfl)); clear hown5 hgrow5)
            | (at_lookup; refine wpList_look rfl _ _ rfl bm _ rfl HA5.out.map _ (wrap64 (a.2 - min vk a.2)) rfl (keyI (HI.out a HMM.out)) (congrArg (fun z => Option.getD z 0) (getV_mid d (l.drop (k + 1)) (a.1, wrap64 (a.2 - min vk a.2)) HM1.out)) ?_))
          have h2 := HCS.out
          rw [HHD.out] at h2
          refine ⟨⟨k + 1, d ++ [(a.1, wrap64 (a.2 - min vk a.2))], _, by omega, rfl, congrArg _ (by omega), asc_snoc (asc_set HA1'.out), by simp; omega, ?_, by simpa using HA5.out, HKP5.out⟩, by simp [intOf]; omega⟩
          rw [h2, claimS]
          have hz2 := HZ.out
          simp only [hv, if_true, if_neg hz2]
          simp
    · have hdrop : l.drop k = [] := List.drop_eq_nil_of_le (by omega)
      have h2 := HCS.out
      have h3 := HAC.out
      have h4 := HKP.out
      rw [hdrop] at h2 h3
      simp only [claimS, List.append_nil] at h2 h3
      have HF := Lib.hid h2
      have HG := Lib.hid h3
      clear hdrop h2 h3 h4
      go_wp2
      go_ret
      exact ⟨rfl, (HKW.out.alloc _).trans (Kept2.trans ⟨HB3.out.os, HB3.out.tape, HB3.out.output, HB3.out.size, fun i hi _ _ => HB3.out.block i (by simpa using hi)⟩ HKP.out), by rw [HF.out]; exact HG.out⟩
end Go.Proofs.Ytmbelohcebfdcaa.Acc
