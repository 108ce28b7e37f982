/- The walk of the closure of rule.Uses: it appends the names of an expression, in order. The contract asks that no list is beyond any machine. The walk of the reference's Uses: names put in their places. The contract asks that no list is beyond any machine. -/
import Derived.Test.YthdgofbchfcfcaaDoorRuleVisit
import Derived.Test.YthdgofbchfcfcaaDoorRuleGrade
import Derived.Test.YthdgofbchfcfcaaDoorPRux12
set_option linter.unusedVariables false
set_option linter.unusedSimpArgs false
namespace Go.Proofs.YthdgofbchfcfcaaDoor.PRu
open Go.RowKit Go.Proofs.YthdgofbchfcfcaaDoorW.PrintWords Go.Proofs.YthdgofbchfcfcaaDoorW.PrintLast Go.Proofs.YthdgofbchfcfcaaDoorW.PrintMore
def usesN : Nat → S24 → List ByteArray
  | 0, _ => []
  | n + 1, e => (if e.f0 = 2 then [e.f2] else []) ++ e.f3.flatMap (usesN n)
/-- What a call of the closure leaves: all blocks but the variable's and the row's. -/
structure Gw (bo : Nat) (v : Value) (w w' : World) : Prop where
  size : w.heap.size ≤ w'.heap.size
  block : ∀ k, k < w.heap.size → k ≠ bo → some k ≠ v.ownBlock → w'.heap[k]? = w.heap[k]?
def Nw (v v' : Value) (w : World) : Prop := v'.ownBlock = v.ownBlock ∨ ∃ b, v'.ownBlock = some b ∧ w.heap.size ≤ b
theorem Gw.refl (bo : Nat) (v : Value) (w : World) : Gw bo v w w := ⟨Nat.le_refl _, fun _ _ _ _ => rfl⟩
theorem Gw.trans {bo : Nat} {v v1 : Value} {w w1 w2 : World} (h : Gw bo v w w1) (k : Gw bo v1 w1 w2) (hn : Nw v v1 w) : Gw bo v w w2 :=
  ⟨Nat.le_trans h.size k.size, fun i hi h1 h2 => (k.block i (Nat.lt_of_lt_of_le hi h.size) h1 (by
    rcases hn with hn | ⟨b, hn, hb⟩
    · rw [hn]; exact h2
    · rw [hn]; intro e; injection e with e; omega)).trans (h.block i hi h1 h2)⟩
theorem Gw.of_below {bo : Nat} {v : Value} {w w' : World} (h : Below w.heap.size w w') : Gw bo v w w' := ⟨h.size, fun k hk _ _ => h.block k hk⟩
theorem Nw.trans {v v1 v2 : Value} {w w1 : World} (h : Nw v v1 w) (k : Nw v1 v2 w1) (hs : w.heap.size ≤ w1.heap.size) : Nw v v2 w := by
  rcases k with k | ⟨b, k, hb⟩
  · rcases h with h | ⟨b, h, hb⟩
    · exact .inl (k.trans h)
    · exact .inr ⟨b, k.trans h, hb⟩
  · exact .inr ⟨b, k, by omega⟩
/-- The state of the list: the variable's block, the closure's block, the row. -/
structure Lst (w0 : World) (bo bw : Nat) (v : Value) (xs : List ByteArray) (w : World) : Prop where
  var : w.heap[bo]? = some (.cells #[v] 29)
  fn : w.heap[bw]? = some (.cells #[.func (.func 38) #[] #[.pointer (some ⟨bo, 0, none⟩), .pointer (some ⟨bw, 0, none⟩)]] 61)
  own : Kd.R Kd.string 9 w w0.heap.size (fun k => k ≠ bo ∧ k ≠ bw) v xs
  bel : Below w0.heap.size w0 w
theorem Lst.below {w0 w w' : World} {bo bw : Nat} {v : Value} {xs : List ByteArray} (h : Lst w0 bo bw v xs w) (hb : Below w.heap.size w w') : Lst w0 bo bw v xs w' :=
  ⟨(hb.block bo (Array.getElem?_eq_some_iff.1 h.var).1).trans h.var, (hb.block bw (Array.getElem?_eq_some_iff.1 h.fn).1).trans h.fn, Kd.R_below h.own hb, h.bel.trans (hb.mono h.bel.size)⟩
theorem cell1 {w : World} {b : Nat} {v : Value} {t : TypeId} (h : w.heap[b]? = some (.cells #[v] t)) : w.cell? ⟨b, 0, none⟩ = some v ∧ w.frozen? ⟨b, 0, none⟩ = false := by
  simp only [World.cell?, World.frozen?, h]
  exact ⟨rfl, rfl⟩
theorem take_flat {f : S24 → List ByteArray} {l : List S24} {k : Nat} (h : k < l.length) : (l.take (k + 1)).flatMap f = (l.take k).flatMap f ++ f l[k] := by
  rw [List.take_succ_eq_append_getElem h, List.flatMap_append]
  simp
theorem flat_le {f : S24 → List ByteArray} {l : List S24} {k : Nat} (h : k < l.length) : ((l.take k).flatMap f).length + (f l[k]).length ≤ (l.flatMap f).length := by
  have h1 : l.flatMap f = (l.take (k + 1)).flatMap f ++ (l.drop (k + 1)).flatMap f := by rw [← List.flatMap_append, List.take_append_drop]
  rw [h1, take_flat h]
  simp only [List.length_append]
  omega
theorem cellS {w5 : World} {b bo : Nat} {u v0 v1 v2 v3 : Value} {t : TypeId} (hne : b ≠ bo) (h : w5.heap[b]? = some (.cells #[v0, v1, v2, v3] t)) : (w5.setCell ⟨bo, 0, none⟩ u).cell? ⟨b, 3, none⟩ = some v3 := by
  have h2 : (w5.setCell ⟨bo, 0, none⟩ u).heap[b]? = some (.cells #[v0, v1, v2, v3] t) := (Below.heap_setCell w5 ⟨bo, 0, none⟩ u b hne).trans h
  exact (four h2).2.2.2
theorem setV {w : World} {b : Nat} {v u : Value} {t : TypeId} (h : w.heap[b]? = some (.cells #[v] t)) : (w.setCell ⟨b, 0, none⟩ u).heap[b]? = some (.cells #[u] t) := by
  simp [World.setCell, Array.getElem?_modify, h]
theorem nwB {v v1 : Value} {w w1 : World} (h : Nw v v1 w1) (hs : w.heap.size ≤ w1.heap.size) : Nw v v1 w := by
  rcases h with h | ⟨b, h, hb⟩
  · exact .inl h
  · exact .inr ⟨b, h, by omega⟩
set_option maxRecDepth 100000 in
set_option maxHeartbeats 1000000 in
theorem uses_38 (w0 : World) (bo bw : Nat) (hbo : w0.heap.size ≤ bo) (hbw : w0.heap.size ≤ bw) (hne : bo ≠ bw) : ∀ (n : Nat), n ≤ 8 → ∀ (op nn : Int) (nm : ByteArray) (ar : List S24), limB n ⟨op, nn, nm, ar⟩ = true → ∀ (A : Option Addr) (c : Nat) (L : Int) (w : World) (v : Value) (xs : List ByteArray), L = 9 - (n : Int) → Lst w0 bo bw v xs w → Kd.C k24 w0 A ar.length ar → xs.length + (usesN n ⟨op, nn, nm, ar⟩).length ≤ 4398046511104 →
    Calls Tryd.prog 38 #[.agg #[.int .i64 op, .int .i64 nn, .string nm, .slice A ar.length c], .int .i64 L, .pointer (some ⟨bo, 0, none⟩), .pointer (some ⟨bw, 0, none⟩)] w fun e' w' => e' = .returned (.tuple #[]) ∧ ∃ v', Lst w0 bo bw v' (xs ++ usesN n ⟨op, nn, nm, ar⟩) w' ∧ Gw bo v w w' ∧ Nw v v' w := by
  intro n
  induction n with
  | zero =>
    intro _ op nn nm ar _ A c L w v xs hL hS hC hlen
    have hbel : Below w.heap.size w (w.alloc (.cells #[.int .i64 op, .int .i64 nn, .string nm, .slice A ar.length c] 24)) := (Below.refl _ _).alloc (Nat.le_refl _) _
    have HB := Lib.hid hbel
    have HS := Lib.hid (hS.below hbel)
    clear hbel hS hC hlen
    obtain rfl : L = 9 := by omega
    clear hL
    go_enter Tryd.func38, Tryd.ntmps38
    go_wp2
    refine bodyPost_ret (results_none rfl _ _ _) rfl ?_
    exact ⟨rfl, v, by rw [usesN, List.append_nil]; exact HS.out, Gw.of_below HB.out, .inl rfl⟩
  | succ n ih =>
    intro hn op nn nm ar hlim A c L w v xs hL hS hC hlen
    have HLM := Lib.hid hlim
    have hal := limB_len hlim
    have IH := Lib.hid (show ∀ a : S24, limB n a = true → ∀ (A : Option Addr) (c : Nat) (L : Int) (w : World) (v : Value) (xs : List ByteArray), L = 9 - (n : Int) → Lst w0 bo bw v xs w → Kd.C k24 w0 A a.f3.length a.f3 → xs.length + (usesN n a).length ≤ 4398046511104 →
      Calls Tryd.prog 38 #[.agg #[.int .i64 a.f0, .int .i64 a.f1, .string a.f2, .slice A a.f3.length c], .int .i64 L, .pointer (some ⟨bo, 0, none⟩), .pointer (some ⟨bw, 0, none⟩)] w fun e' w' => e' = .returned (.tuple #[]) ∧ ∃ v', Lst w0 bo bw v' (xs ++ usesN n a) w' ∧ Gw bo v w w' ∧ Nw v v' w from fun a => by obtain ⟨x0, x1, x2, x3⟩ := a; exact ih (by omega) x0 x1 x2 x3)
    obtain ⟨wa, hwa⟩ : ∃ wa, wa = w.alloc (.cells #[.int .i64 op, .int .i64 nn, .string nm, .slice A ar.length c] 24) := ⟨_, rfl⟩
    have hbel : Below w.heap.size w wa := hwa ▸ (Below.refl _ _).alloc (Nat.le_refl _) _
    have HBA := Lib.hid hbel
    have hbx : wa.heap[w.heap.size]? = some (.cells #[.int .i64 op, .int .i64 nn, .string nm, .slice A ar.length c] 24) := by rw [hwa]; exact (MapKept.heap_alloc w _).1
    have HBX := Lib.hid hbx
    have HS0 := Lib.hid hS
    have HS := Lib.hid (hS.below hbel)
    have hL1 : decide (8 < L) = false := by simp; omega
    have hL2 : wrap64 (L + 1) = L + 1 := by unfold wrap64; omega
    have HL := Lib.hid (show L + 1 = 9 - (n : Int) by omega)
    have HC := Lib.hid hC
    have HBS := Lib.hid (show bo < w.heap.size ∧ bw < w.heap.size from ⟨(Array.getElem?_eq_some_iff.1 hS.var).1, (Array.getElem?_eq_some_iff.1 hS.fn).1⟩)
    have HWA := Lib.hid hwa
    by_cases h2 : op = 2
    · subst h2
      have HLN := Lib.hid (show xs.length + (1 + (ar.flatMap (usesN n)).length) ≤ 4398046511104 by
        rw [usesN] at hlen
        simp only [List.length_append] at hlen
        simpa using hlen)
      obtain ⟨A9, c9, hv9, _, _⟩ := Kd.R_reads HS.out.own
      subst hv9
      obtain ⟨b0, b1⟩ := cell1 HS.out.var
      obtain ⟨y0, y1, y2, y3⟩ := four hbx
      have HLT := Lib.hid (show w.heap.size < wa.heap.size ∧ bo < wa.heap.size ∧ bw < wa.heap.size from ⟨(Array.getElem?_eq_some_iff.1 hbx).1, (Array.getElem?_eq_some_iff.1 HS.out.var).1, (Array.getElem?_eq_some_iff.1 HS.out.fn).1⟩)
      have HFR := Lib.hid (show ∀ k, wa.heap.size ≤ k → ((k ≠ bo ∧ k ≠ bw) ∧ k ≠ w.heap.size) from fun k hk => by have := HLT.out; exact ⟨⟨by omega, by omega⟩, by omega⟩)
      have HO0 := Lib.hid (Kd.R_below (Kd.R_mono (Kd.R_bound HS0.out.own) (ok' := fun k => (k ≠ bo ∧ k ≠ bw) ∧ k ≠ w.heap.size) (fun k hk => ⟨hk.1, by have := hk.2.2.1; omega⟩)) hbel)
      have HB0 := Lib.hid HS.out.bel
      have HZA := Lib.hid (show wa.heap.size = w.heap.size + 1 by rw [hwa]; simp)
      have HNE := Lib.hid (show ∀ k, (k = bo ∨ k = bw ∨ k = w.heap.size) → some k ≠ (Value.slice A9 xs.length c9).ownBlock from fun k hk he => by
        have h1 := HO0.out.1 k he.symm
        rcases hk with rfl | rfl | rfl
        · exact h1.1.1 rfl
        · exact h1.1.2 rfl
        · exact h1.2 rfl)
      rw [hwa] at b0 b1 y0 y1 y2
      clear hbel hbx hS hwa hL hC hlen y3
      go_enter Tryd.func38, Tryd.ntmps38
      go_wp2_with ((with_reducible refine gate_builtin (b := .append) (xs := #[.tmp 13, .tmp 16]) rfl ?_); at_builtin; rw [← HWA.out]; refine Kd.R_append Kd.string (w0 := w0) w0.heap.size rfl (.tmp 13) (.tmp 16) 29 9 (.string ⟨#[]⟩) 16 rfl Tryd.underlying29 info9 rfl (by decide) (by omega) (.slice A9 xs.length c9) xs nm [.string nm] (fun k => (k ≠ bo ∧ k ≠ bw) ∧ k ≠ w.heap.size) (fun _ => False) rfl (by rw [HZA.out]; rfl) ?aP (fun _ hk => hk.elim) ?aF ?aO ?aB ?aS ?aL ?_; (case aP => exact rfl); (case aB => exact HB0.out); (case aF => exact HFR.out); (case aO => exact HO0.out); (case aS => exact HB0.out.size); (case aL => have := HLN.out; omega); intro v1 w5 ho hb hg hat; obtain ⟨A10, c10, hv10, _, _⟩ := Kd.R_reads ho; generalize hm10 : (xs ++ [nm]).length = m10 at hv10; subst hv10; have HO1 := Lib.hid ho; have HB1 := Lib.hid hb; have HGR := Lib.hid hg; have HAT := Lib.hid hat; obtain ⟨hbo1, hbo2⟩ := cell1 ((hg.block bo HLT.out.2.1 (HNE.out bo (.inl rfl))).trans HS.out.var); have y5 : (w5.setCell ⟨bo, 0, none⟩ (.slice A10 m10 c10)).cell? ⟨w.heap.size, 3, none⟩ = some (.slice A ar.length c) := cellS (by have := HBS.out; omega) ((hg.block w.heap.size HLT.out.1 (HNE.out _ (.inr (.inr rfl)))).trans HBX.out); clear ho hb hg hat)
      have HSX := Lib.hid (show Lst w0 bo bw (.slice A10 m10 c10) (xs ++ [nm]) (w5.setCell ⟨bo, 0, none⟩ (.slice A10 m10 c10)) from
        ⟨setV ((HGR.out.block bo HLT.out.2.1 (HNE.out bo (.inl rfl))).trans HS.out.var), (Below.heap_setCell _ _ _ _ (fun h => hne h.symm)).trans ((HGR.out.block bw HLT.out.2.2 (HNE.out bw (.inr (.inl rfl)))).trans HS.out.fn), Kd.R_mono (Kd.R_far HO1.out (fun k hk => hk.1.1) _) (fun k hk => hk.1), HB1.out.setCell hbo _⟩)
      have HGX := Lib.hid (show Gw bo (.slice A9 xs.length c9) w (w5.setCell ⟨bo, 0, none⟩ (.slice A10 m10 c10)) from
        ⟨by have h1 := HGR.out.size; have h2 := HBA.out.size; simp only [World.setCell, Array.size_modify]; omega, fun k hk h1 h2 => (Below.heap_setCell _ _ _ _ h1).trans ((HGR.out.block k (Nat.lt_of_lt_of_le hk HBA.out.size) h2).trans (HBA.out.block k hk))⟩)
      have HNX := Lib.hid (show Nw (.slice A9 xs.length c9) (.slice A10 m10 c10) w from nwB HAT.out HBA.out.size)
      obtain ⟨wc, hwc⟩ : ∃ wc, wc = w5.setCell ⟨bo, 0, none⟩ (.slice A10 m10 c10) := ⟨_, rfl⟩
      rw [← hwc]
      have HSC := Lib.hid (show Lst w0 bo bw (.slice A10 m10 c10) (xs ++ [nm]) wc from hwc ▸ HSX.out)
      have HGC := Lib.hid (show Gw bo (.slice A9 xs.length c9) w wc from hwc ▸ HGX.out)
      have HNC := Lib.hid HNX.out
      clear hwc
      go_loopw [21] (fun i wr => ∃ (k : Nat) (vk : Value), i = .int .i64 (k : Int) ∧ k ≤ ar.length ∧ Lst w0 bo bw vk ((xs ++ [nm]) ++ (ar.take k).flatMap (usesN n)) wr ∧ Gw bo (.slice A9 xs.length c9) w wr ∧ Nw (.slice A9 xs.length c9) vk w) (fun i _ => ar.length - (intOf i).toNat)
      case atStart => exact ⟨0, _, rfl, Nat.zero_le _, by rw [List.take_zero]; simpa using HSC.out, HGC.out, HNC.out⟩
      case round =>
        obtain ⟨k, vk, rfl, hk, hlk, hgk, hnk⟩ := hrel
        have HLK := Lib.hid hlk
        have HGK := Lib.hid hgk
        have HNK := Lib.hid hnk
        clear hlk hgk hnk
        by_cases hlt : k < ar.length
        · have hlt2 : (k : Int) < (ar.length : Int) := by omega
          obtain ⟨ad, A3, c3, rfl, x0, x1, x2, x3, hc3, hC3⟩ := at_T24 (Kd.C_below HC.out HLK.out.bel) (k : Int) (by omega) hlt2
          obtain ⟨_, A4, c4, e4, x4, x5, x6, x7, _, hC4⟩ := at_T24 HC.out (k : Int) (by omega) hlt2
          injection e4 with e4
          subst e4
          rw [rd_at24 _ _ hlt] at x0 x1 x2 x3 hc3 hC3 x7 hC4
          rw [Int.toNat_natCast] at x0 x1 x2 x3 x7
          have h37 := x3.symm.trans ((HLK.out.bel.cell (World.block_lt_of_cell? _ _ x7)).trans x7)
          injection h37 with h37
          injection h37 with h38 h39 h40
          subst h38
          subst h40
          clear h39
          clear x4 x5 x6 x7 hC3
          obtain ⟨a, ha⟩ : ∃ a, a = ar[k] := ⟨_, rfl⟩
          rw [← ha] at x0 x1 x2 x3 hc3 hC4
          have HA := Lib.hid ha
          have HLA := Lib.hid (show limB n a = true by rw [ha]; exact limB_at HLM.out k hlt)
          have HC5 := Lib.hid hC4
          have HLL := Lib.hid (show ((xs ++ [nm]) ++ (ar.take k).flatMap (usesN n)).length + (usesN n a).length ≤ 4398046511104 by
            have h1 := flat_le (f := usesN n) hlt
            rw [← ha] at h1
            have h2 := HLN.out
            simp only [List.length_append, List.length_cons, List.length_nil] at h2 ⊢
            omega)
          obtain ⟨wy, hwy⟩ : ∃ wy, wy = wr.alloc (.cells #[.int .i64 a.f0, .int .i64 a.f1, .string a.f2, .slice A3 a.f3.length c3] 24) := ⟨_, rfl⟩
          have hbel2 : Below wr.heap.size wr wy := hwy ▸ (Below.refl _ _).alloc (Nat.le_refl _) _
          have HBY := Lib.hid hbel2
          have HLY := Lib.hid (HLK.out.below hbel2)
          have HWY := Lib.hid hwy
          obtain ⟨z0, _⟩ := cell1 HLY.out.fn
          rw [hwy] at z0
          clear ha hC4 hc3 hbel2 hwy
          go_wp2_with (go_at_call 38; rw [← HWY.out]; (with_reducible refine (IH.out a HLA.out A3 c3 (L + 1) wy vk _ HL.out HLY.out HC5.out HLL.out).mono ?_); rintro e' wz ⟨rfl, v2, hl2, hg2, hn2⟩; have HL2 := Lib.hid hl2; have HG2 := Lib.hid ((HGK.out.trans (Gw.of_below HBY.out) HNK.out).trans hg2 HNK.out); have HN2 := Lib.hid (HNK.out.trans (nwB hn2 HBY.out.size) HGK.out.size); clear hl2 hg2 hn2)
          exact ⟨⟨k + 1, v2, congrArg _ (by omega), by omega, by rw [take_flat hlt, ← HA.out, ← List.append_assoc]; exact HL2.out, HG2.out, HN2.out⟩, by simp [intOf]; omega⟩
        · have hkl : k = ar.length := by omega
          have HLE := Lib.hid (show Lst w0 bo bw vk ((xs ++ [nm]) ++ ar.flatMap (usesN n)) wr by have := HLK.out; rwa [hkl, List.take_length] at this)
          clear hkl
          go_wp2
          first | refine bodyPost_end (results_none rfl _ _ _) rfl ?_ | refine bodyPost_ret (results_none rfl _ _ _) rfl ?_
          exact ⟨rfl, vk, by rw [usesN]; simpa using HLE.out, HGK.out, HNK.out⟩
    · have h2b : (op == 2) = false := beq_eq_false_iff_ne.2 h2
      have HLN := Lib.hid (show xs.length + (ar.flatMap (usesN n)).length ≤ 4398046511104 by
        rw [usesN, if_neg (show ¬ (⟨op, nn, nm, ar⟩ : S24).f0 = 2 from h2)] at hlen
        simpa using hlen)
      have H2 := Lib.hid h2
      obtain ⟨y0, y1, y2, y3⟩ := four hbx
      rw [hwa] at y0 y1 y2 y3
      have HSX := Lib.hid (show Lst w0 bo bw v xs (w.alloc (.cells #[.int .i64 op, .int .i64 nn, .string nm, .slice A ar.length c] 24)) from hwa ▸ HS.out)
      have HGX := Lib.hid (show Gw bo v w (w.alloc (.cells #[.int .i64 op, .int .i64 nn, .string nm, .slice A ar.length c] 24)) from hwa ▸ Gw.of_below hbel)
      have HNX := Lib.hid (show Nw v v w from .inl rfl)
      clear hbel hbx hS hwa hL hC hlen h2
      go_enter Tryd.func38, Tryd.ntmps38
      go_wp2
      obtain ⟨wc, hwc⟩ : ∃ wc, wc = w.alloc (.cells #[.int .i64 op, .int .i64 nn, .string nm, .slice A ar.length c] 24) := ⟨_, rfl⟩
      rw [← hwc]
      have HSC := Lib.hid (show Lst w0 bo bw v xs wc from hwc ▸ HSX.out)
      have HGC := Lib.hid (show Gw bo v w wc from hwc ▸ HGX.out)
      have HNC := Lib.hid HNX.out
      clear hwc
      go_loopw [21] (fun i wr => ∃ (k : Nat) (vk : Value), i = .int .i64 (k : Int) ∧ k ≤ ar.length ∧ Lst w0 bo bw vk (xs ++ (ar.take k).flatMap (usesN n)) wr ∧ Gw bo v w wr ∧ Nw v vk w) (fun i _ => ar.length - (intOf i).toNat)
      case atStart => exact ⟨0, _, rfl, Nat.zero_le _, by rw [List.take_zero]; simpa using HSC.out, HGC.out, HNC.out⟩
      case round =>
        obtain ⟨k, vk, rfl, hk, hlk, hgk, hnk⟩ := hrel
        have HLK := Lib.hid hlk
        have HGK := Lib.hid hgk
        have HNK := Lib.hid hnk
        clear hlk hgk hnk
        by_cases hlt : k < ar.length
        · have hlt2 : (k : Int) < (ar.length : Int) := by omega
          obtain ⟨ad, A3, c3, rfl, x0, x1, x2, x3, hc3, hC3⟩ := at_T24 (Kd.C_below HC.out HLK.out.bel) (k : Int) (by omega) hlt2
          obtain ⟨_, A4, c4, e4, x4, x5, x6, x7, _, hC4⟩ := at_T24 HC.out (k : Int) (by omega) hlt2
          injection e4 with e4
          subst e4
          rw [rd_at24 _ _ hlt] at x0 x1 x2 x3 hc3 hC3 x7 hC4
          rw [Int.toNat_natCast] at x0 x1 x2 x3 x7
          have h37 := x3.symm.trans ((HLK.out.bel.cell (World.block_lt_of_cell? _ _ x7)).trans x7)
          injection h37 with h37
          injection h37 with h38 h39 h40
          subst h38
          subst h40
          clear h39
          clear x4 x5 x6 x7 hC3
          obtain ⟨a, ha⟩ : ∃ a, a = ar[k] := ⟨_, rfl⟩
          rw [← ha] at x0 x1 x2 x3 hc3 hC4
          have HA := Lib.hid ha
          have HLA := Lib.hid (show limB n a = true by rw [ha]; exact limB_at HLM.out k hlt)
          have HC5 := Lib.hid hC4
          have HLL := Lib.hid (show (xs ++ (ar.take k).flatMap (usesN n)).length + (usesN n a).length ≤ 4398046511104 by
            have h1 := flat_le (f := usesN n) hlt
            rw [← ha] at h1
            have h2 := HLN.out
            simp only [List.length_append, List.length_cons, List.length_nil] at h2 ⊢
            omega)
          obtain ⟨wy, hwy⟩ : ∃ wy, wy = wr.alloc (.cells #[.int .i64 a.f0, .int .i64 a.f1, .string a.f2, .slice A3 a.f3.length c3] 24) := ⟨_, rfl⟩
          have hbel2 : Below wr.heap.size wr wy := hwy ▸ (Below.refl _ _).alloc (Nat.le_refl _) _
          have HBY := Lib.hid hbel2
          have HLY := Lib.hid (HLK.out.below hbel2)
          have HWY := Lib.hid hwy
          obtain ⟨z0, _⟩ := cell1 HLY.out.fn
          rw [hwy] at z0
          clear ha hC4 hc3 hbel2 hwy
          go_wp2_with (go_at_call 38; rw [← HWY.out]; (with_reducible refine (IH.out a HLA.out A3 c3 (L + 1) wy vk _ HL.out HLY.out HC5.out HLL.out).mono ?_); rintro e' wz ⟨rfl, v2, hl2, hg2, hn2⟩; have HL2 := Lib.hid hl2; have HG2 := Lib.hid ((HGK.out.trans (Gw.of_below HBY.out) HNK.out).trans hg2 HNK.out); have HN2 := Lib.hid (HNK.out.trans (nwB hn2 HBY.out.size) HGK.out.size); clear hl2 hg2 hn2)
          exact ⟨⟨k + 1, v2, congrArg _ (by omega), by omega, by rw [take_flat hlt, ← HA.out, ← List.append_assoc]; exact HL2.out, HG2.out, HN2.out⟩, by simp [intOf]; omega⟩
        · have hkl : k = ar.length := by omega
          have HLE := Lib.hid (show Lst w0 bo bw vk (xs ++ ar.flatMap (usesN n)) wr by have := HLK.out; rwa [hkl, List.take_length] at this)
          clear hkl
          go_wp2
          first | refine bodyPost_end (results_none rfl _ _ _) rfl ?_ | refine bodyPost_ret (results_none rfl _ _ _) rfl ?_
          exact ⟨rfl, vk, by rw [usesN, if_neg (show ¬ (⟨op, nn, nm, ar⟩ : S24).f0 = 2 from H2.out)]; simpa using HLE.out, HGK.out, HNK.out⟩
end Go.Proofs.YthdgofbchfcfcaaDoor.PRu

set_option linter.unusedVariables false
set_option linter.unusedSimpArgs false
namespace Go.Proofs.YthdgofbchfcfcaaDoor.PRu
open Go.RowKit Go.Proofs.YthdgofbchfcfcaaDoorW.PrintWords Go.Proofs.YthdgofbchfcfcaaDoorW.PrintLast Go.Proofs.YthdgofbchfcfcaaDoorW.PrintMore
def insS : List ByteArray → ByteArray → List ByteArray
  | [], s => [s]
  | x :: l, s => if Op.bytesLess s.toList x.toList = true then s :: x :: l else x :: insS l s
def inS (l : List ByteArray) (s : ByteArray) : Bool := l.any fun x => decide (x.toList = s.toList)
def addS (l : List ByteArray) (s : ByteArray) : List ByteArray := if inS l s = true then l else insS l s
theorem insS_len : ∀ (l : List ByteArray) (s : ByteArray), (insS l s).length = l.length + 1
  | [], s => rfl
  | x :: l, s => by
    unfold insS
    split
    · rfl
    · rw [List.length_cons, insS_len l s, List.length_cons]
theorem addS_len (l : List ByteArray) (s : ByteArray) : (addS l s).length ≤ l.length + 1 := by
  unfold addS
  split
  · omega
  · rw [insS_len]; omega
theorem rd_str (l : List ByteArray) (k : Nat) (h : k < l.length) : rdOf ByteArray.empty l (k : Int) = l[k] := by
  simp [rdOf, h]
theorem in_loop (l : List ByteArray) (s : ByteArray) (hl : l.length < 4611686018427387904) : ∀ (m i k : Nat), i + m = l.length → sawmillref43_in.l0 (m + 1 + k) l s (i : Int) = some (inS (l.drop i) s)
  | 0, i, k, hi => by
    rw [show 0 + 1 + k = k + 1 by omega, sawmillref43_in.l0, if_neg (by omega), List.drop_eq_nil_of_le (by omega)]
    rfl
  | m + 1, i, k, hi => by
    have hlt : i < l.length := by omega
    have e : wrap64 ((i : Int) + 1) = ((i + 1 : Nat) : Int) := by unfold wrap64; omega
    rw [show m + 1 + 1 + k = (m + 1 + k) + 1 by omega, sawmillref43_in.l0, if_pos (by omega), if_pos (by omega), rd_str l i hlt, e, List.drop_eq_getElem_cons hlt]
    unfold inS
    rw [List.any_cons]
    by_cases hx : l[i].toList = s.toList
    · rw [if_pos hx, decide_eq_true hx, Bool.true_or]
    · rw [if_neg hx, decide_eq_false hx, Bool.false_or]
      exact in_loop l s hl m (i + 1) k (by omega)
theorem add_done (l : List ByteArray) (s : ByteArray) (hl : l.length < 4398046511105) : ∀ (m i : Nat) (acc : List ByteArray) (k : Nat), i + m = l.length → acc.length ≤ i + 1 → sawmillref43_add.l0 (m + 1 + k) l s acc true (i : Int) = some (acc ++ l.drop i)
  | 0, i, acc, k, hi, ha => by
    rw [show 0 + 1 + k = k + 1 by omega, sawmillref43_add.l0, if_neg (by omega), if_pos rfl, List.drop_eq_nil_of_le (by omega), List.append_nil]
  | m + 1, i, acc, k, hi, ha => by
    have hlt : i < l.length := by omega
    have e : wrap64 ((i : Int) + 1) = ((i + 1 : Nat) : Int) := by unfold wrap64; omega
    rw [show m + 1 + 1 + k = (m + 1 + k) + 1 by omega, sawmillref43_add.l0, if_pos (by omega), if_pos rfl, if_pos (by omega), if_pos (by omega), rd_str l i hlt, e, add_done l s hl m (i + 1) _ k (by omega) (by simp; omega), List.drop_eq_getElem_cons hlt]
    simp
theorem add_loop (l : List ByteArray) (s : ByteArray) (hl : l.length < 4398046511105) : ∀ (m i : Nat) (acc : List ByteArray) (k : Nat), i + m = l.length → acc.length ≤ i → sawmillref43_add.l0 (m + 1 + k) l s acc false (i : Int) = some (acc ++ insS (l.drop i) s)
  | 0, i, acc, k, hi, ha => by
    rw [show 0 + 1 + k = k + 1 by omega, sawmillref43_add.l0, if_neg (by omega), if_neg (by decide), if_pos (by omega), List.drop_eq_nil_of_le (by omega)]
    rfl
  | m + 1, i, acc, k, hi, ha => by
    have hlt : i < l.length := by omega
    have e : wrap64 ((i : Int) + 1) = ((i + 1 : Nat) : Int) := by unfold wrap64; omega
    rw [show m + 1 + 1 + k = (m + 1 + k) + 1 by omega, sawmillref43_add.l0, if_pos (by omega), if_neg (by decide), if_pos (by omega), rd_str l i hlt, e, List.drop_eq_getElem_cons hlt, insS]
    by_cases hx : Op.bytesLess s.toList l[i].toList = true
    · rw [if_pos hx, if_pos hx, if_pos (by omega), Option.bind_some, if_pos (by simp; omega), add_done l s hl m (i + 1) _ k (by omega) (by simp; omega)]
      simp
    · rw [if_neg hx, if_neg hx, if_pos (by omega), add_loop l s hl m (i + 1) _ k (by omega) (by simp; omega)]
      simp
theorem add_f (l : List ByteArray) (s : ByteArray) (hl : l.length < 4398046511105) : sawmillref43_add.f (l.length + 1) l s = some (addS l s) := by
  unfold sawmillref43_add.f sawmillref43_in.f addS
  have h1 := in_loop l s (by omega) l.length 0 0 (by omega)
  rw [List.drop_zero] at h1
  rw [show l.length + 1 = l.length + 1 + 0 by omega, show (0 : Int) = ((0 : Nat) : Int) from rfl, h1, Option.bind_some]
  by_cases hx : inS l s = true
  · rw [if_pos hx, hx, add_done l s hl l.length 0 [] 0 (by omega) (by simp)]
    simp
  · have hx2 : inS l s = false := by simpa using hx
    rw [if_neg hx, hx2, add_loop l s hl l.length 0 [] 0 (by omega) (by simp)]
    simp
def usesR : Nat → S24 → List ByteArray → List ByteArray
  | 0, _, l => l
  | n + 1, e, l => e.f3.foldl (fun l a => usesR n a l) (if e.f0 = 2 then addS l e.f2 else l)
theorem usesR_len : ∀ (n : Nat) (e : S24) (l : List ByteArray), (usesR n e l).length ≤ l.length + (usesN n e).length
  | 0, _, l => by simp [usesR, usesN]
  | n + 1, e, l => by
    have fold : ∀ (ts : List S24) (l : List ByteArray), (ts.foldl (fun l a => usesR n a l) l).length ≤ l.length + (ts.flatMap (usesN n)).length := by
      intro ts
      induction ts with
      | nil => intro l; simp
      | cons a ts ih =>
        intro l
        have h1 := ih (usesR n a l)
        have h2 := usesR_len n a l
        simp only [List.foldl_cons, List.flatMap_cons, List.length_append]
        omega
    have h3 := fold e.f3 (if e.f0 = 2 then addS l e.f2 else l)
    rw [usesR, usesN, List.length_append]
    split at h3
    · rename_i h
      rw [if_pos h, if_pos h]
      have := addS_len l e.f2
      simp only [List.length_cons, List.length_nil]
      omega
    · rename_i h
      rw [if_neg h, if_neg h]
      simp only [List.length_nil]
      omega
theorem take_foldl {f : List ByteArray → S24 → List ByteArray} {l : List S24} {k : Nat} (h : k < l.length) (z : List ByteArray) : (l.take (k + 1)).foldl f z = f ((l.take k).foldl f z) l[k] := by
  rw [List.take_succ_eq_append_getElem h, List.foldl_append]
  rfl
theorem foldl_len {n : Nat} (ts : List S24) (l : List ByteArray) : (ts.foldl (fun l a => usesR n a l) l).length ≤ l.length + (ts.flatMap (usesN n)).length := by
  induction ts generalizing l with
  | nil => simp
  | cons a ts ih =>
    have h1 := ih (usesR n a l)
    have h2 := usesR_len n a l
    simp only [List.foldl_cons, List.flatMap_cons, List.length_append]
    omega
set_option maxRecDepth 100000 in
set_option maxHeartbeats 1000000 in
theorem uses_41 (w0 : World) : ∀ (n : Nat), n ≤ 8 → ∀ (op nn : Int) (nm : ByteArray) (ar : List S24), limB n ⟨op, nn, nm, ar⟩ = true → ∀ (A : Option Addr) (c : Nat) (L : Int) (w : World) (v : Value) (xs : List ByteArray), L = 9 - (n : Int) → Kd.C k24 w A ar.length ar → ar.length ≤ c → Kd.R Kd.string 9 w w0.heap.size (fun _ => True) v xs → Below w0.heap.size w0 w → xs.length + (usesN n ⟨op, nn, nm, ar⟩).length ≤ 4398046511104 →
    Calls Tryd.prog 41 #[.agg #[.int .i64 op, .int .i64 nn, .string nm, .slice A ar.length c], .int .i64 L, v] w fun e' w' => ∃ v', e' = .returned v' ∧ Kd.R Kd.string 9 w' w0.heap.size (fun _ => True) v' (usesR n ⟨op, nn, nm, ar⟩ xs) ∧ Below w.heap.size w w' := by
  intro n
  induction n with
  | zero =>
    intro _ op nn nm ar _ A c L w v xs hL hC hc hO hB hlen
    have hbel : Below w.heap.size w (w.alloc (.cells #[.int .i64 op, .int .i64 nn, .string nm, .slice A ar.length c] 24)) := (Below.refl _ _).alloc (Nat.le_refl _) _
    have HB := Lib.hid hbel
    have HO := Lib.hid (Kd.R_below hO hbel)
    clear hbel hC hc hO hB hlen
    obtain rfl : L = 9 := by omega
    clear hL
    go_enter Tryd.func41, Tryd.ntmps41
    go_wp2
    go_ret
    exact ⟨_, rfl, by rw [usesR]; exact HO.out, HB.out⟩
  | succ n ih =>
    intro hn op nn nm ar hlim A c L w v xs hL hC hc hO hB hlen
    have HLM := Lib.hid hlim
    have hal := limB_len hlim
    have IH := Lib.hid (show ∀ a : S24, limB n a = true → ∀ (A : Option Addr) (c : Nat) (L : Int) (w : World) (v : Value) (xs : List ByteArray), L = 9 - (n : Int) → Kd.C k24 w A a.f3.length a.f3 → a.f3.length ≤ c → Kd.R Kd.string 9 w w0.heap.size (fun _ => True) v xs → Below w0.heap.size w0 w → xs.length + (usesN n a).length ≤ 4398046511104 →
      Calls Tryd.prog 41 #[.agg #[.int .i64 a.f0, .int .i64 a.f1, .string a.f2, .slice A a.f3.length c], .int .i64 L, v] w fun e' w' => ∃ v', e' = .returned v' ∧ Kd.R Kd.string 9 w' w0.heap.size (fun _ => True) v' (usesR n a xs) ∧ Below w.heap.size w w' from fun a => by obtain ⟨x0, x1, x2, x3⟩ := a; exact ih (by omega) x0 x1 x2 x3)
    obtain ⟨A8, c8, hv8, _, _⟩ := Kd.R_reads hO
    subst hv8
    obtain ⟨wa, hwa⟩ : ∃ wa, wa = w.alloc (.cells #[.int .i64 op, .int .i64 nn, .string nm, .slice A ar.length c] 24) := ⟨_, rfl⟩
    have hbel : Below w.heap.size w wa := hwa ▸ (Below.refl _ _).alloc (Nat.le_refl _) _
    have HBA := Lib.hid hbel
    have HBA0 := Lib.hid (hB.trans (hbel.mono hB.size))
    have hbx : wa.heap[w.heap.size]? = some (.cells #[.int .i64 op, .int .i64 nn, .string nm, .slice A ar.length c] 24) := by rw [hwa]; exact (MapKept.heap_alloc w _).1
    have HBX := Lib.hid hbx
    have HLT := Lib.hid (show w.heap.size < wa.heap.size from (Array.getElem?_eq_some_iff.1 hbx).1)
    have HO0 := Lib.hid (Kd.R_below hO hbel)
    have hL1 : decide (8 < L) = false := by simp; omega
    have hL2 : wrap64 (L + 1) = L + 1 := by unfold wrap64; omega
    have HL := Lib.hid (show L + 1 = 9 - (n : Int) by omega)
    have HC := Lib.hid hC
    have HWA := Lib.hid hwa
    obtain ⟨y0, y1, y2, y3⟩ := four hbx
    rw [hwa] at y0 y1 y2 y3
    by_cases h2 : op = 2
    · subst h2
      have HLN0 := Lib.hid (show xs.length + (1 + (ar.flatMap (usesN n)).length) ≤ 4398046511104 by
        rw [usesN] at hlen
        simp only [List.length_append] at hlen
        simpa using hlen)
      have HLN := Lib.hid (show (addS xs nm).length + (ar.flatMap (usesN n)).length ≤ 4398046511104 by
        have h1 := HLN0.out
        have h2 := addS_len xs nm
        omega)
      clear hbel hbx hwa hL hC hO hB hlen hc
      go_enter Tryd.func41, Tryd.ntmps41
      go_wp2_with (go_at_call 56; rw [← HWA.out]; (with_reducible refine (sawmillref43_add.calls (xs.length + 1) A8 c8 xs nm _ wa (Kd.R_reads' HO0.out).2.2 (Kd.R_reads' HO0.out).2.1 (add_f xs nm (by have := HLN0.out; omega))).mono ?_); rintro e' wc ⟨v1, rfl, ho1, hb1⟩; obtain ⟨A10, c10, hv10, _, _⟩ := Kd.R_reads ho1; subst hv10; have HO1 := Lib.hid (Kd.R_lower ho1 HBA0.out.size); have HB1 := Lib.hid hb1; clear ho1 hb1)
      go_loopw [2, 7] (fun lv i wr => ∃ (k : Nat) (A9 : Option Addr) (c9 : Nat) (xk : List ByteArray), lv = .slice A9 xk.length c9 ∧ i = .int .i64 (k : Int) ∧ k ≤ ar.length ∧ xk = (ar.take k).foldl (fun l a => usesR n a l) (addS xs nm) ∧ Kd.R Kd.string 9 wr w0.heap.size (fun _ => True) (.slice A9 xk.length c9) xk ∧ Below wa.heap.size wa wr) (fun _ i _ => ar.length - (intOf i).toNat)
      case atStart => exact ⟨0, _, _, _, rfl, rfl, Nat.zero_le _, by rw [List.take_zero]; rfl, HO1.out, HB1.out⟩
      case round =>
        obtain ⟨k, A9, c9, xk, rfl, rfl, hk, hxk, hok, hbk⟩ := hrel
        have HXK := Lib.hid hxk
        have HOK := Lib.hid hok
        have HBK := Lib.hid hbk
        obtain ⟨y0, y1, y2, y3⟩ := four ((hbk.block w.heap.size HLT.out).trans HBX.out)
        clear hxk hok hbk
        by_cases hlt : k < ar.length
        · have hlt2 : (k : Int) < (ar.length : Int) := by omega
          obtain ⟨ad, A3, c3, rfl, x0, x1, x2, x3, hc3, hC3⟩ := at_T24 (Kd.C_below HC.out ((HBA.out.trans (HBK.out.mono HBA.out.size)))) (k : Int) (by omega) hlt2
          rw [rd_at24 _ _ hlt] at x0 x1 x2 x3 hc3 hC3
          rw [Int.toNat_natCast] at x0 x1 x2 x3
          obtain ⟨a, ha⟩ : ∃ a, a = ar[k] := ⟨_, rfl⟩
          rw [← ha] at x0 x1 x2 x3 hc3 hC3
          have HA := Lib.hid ha
          have HLA := Lib.hid (show limB n a = true by rw [ha]; exact limB_at HLM.out k hlt)
          have HC5 := Lib.hid hC3
          have HC4 := Lib.hid hc3
          have HLL := Lib.hid (show xk.length + (usesN n a).length ≤ 4398046511104 by
            have h1 := flat_le (f := usesN n) hlt
            rw [← ha] at h1
            have h2 := HLN.out
            have h3 := foldl_len (n := n) (ar.take k) (addS xs nm)
            rw [← HXK.out] at h3
            omega)
          clear ha hC3 hc3
          go_wp2_with (go_at_call 41; (with_reducible refine (IH.out a HLA.out A3 c3 (L + 1) wr (.slice A9 xk.length c9) xk HL.out HC5.out HC4.out HOK.out (HBA0.out.trans (HBK.out.mono HBA0.out.size)) HLL.out).mono ?_); rintro e' wz ⟨v2, rfl, ho2, hb2⟩; obtain ⟨A10, c10, hv10, _, _⟩ := Kd.R_reads ho2; subst hv10; have HO2 := Lib.hid ho2; have HB2 := Lib.hid (HBK.out.trans (hb2.mono HBK.out.size)); clear ho2 hb2)
          exact ⟨⟨k + 1, A10, c10, _, rfl, congrArg _ (by omega), by omega, by rw [take_foldl hlt, ← HXK.out, ← HA.out], HO2.out, HB2.out⟩, by simp [intOf]; omega⟩
        · have hkl : k = ar.length := by omega
          have HXE := Lib.hid (show xk = ar.foldl (fun l a => usesR n a l) (addS xs nm) by have := HXK.out; rwa [hkl, List.take_length] at this)
          clear hkl
          go_wp2
          go_ret
          refine ⟨_, rfl, ?_, HBA.out.trans (HBK.out.mono HBA.out.size)⟩
          rw [usesR, if_pos rfl, ← HXE.out]
          exact HOK.out
    · have h2b : (op == 2) = false := beq_eq_false_iff_ne.2 h2
      have HLN := Lib.hid (show xs.length + (ar.flatMap (usesN n)).length ≤ 4398046511104 by
        rw [usesN, if_neg (show ¬ (⟨op, nn, nm, ar⟩ : S24).f0 = 2 from h2)] at hlen
        simpa using hlen)
      have H2 := Lib.hid h2
      have HO1 := Lib.hid HO0.out
      have HB1 := Lib.hid (Below.refl wa.heap.size wa)
      clear hbel hbx hwa hL hC hO hB hlen h2 hc
      go_enter Tryd.func41, Tryd.ntmps41
      go_wp2
      rw [← HWA.out]
      go_loopw [2, 7] (fun lv i wr => ∃ (k : Nat) (A9 : Option Addr) (c9 : Nat) (xk : List ByteArray), lv = .slice A9 xk.length c9 ∧ i = .int .i64 (k : Int) ∧ k ≤ ar.length ∧ xk = (ar.take k).foldl (fun l a => usesR n a l) xs ∧ Kd.R Kd.string 9 wr w0.heap.size (fun _ => True) (.slice A9 xk.length c9) xk ∧ Below wa.heap.size wa wr) (fun _ i _ => ar.length - (intOf i).toNat)
      case atStart => exact ⟨0, _, _, _, rfl, rfl, Nat.zero_le _, by rw [List.take_zero]; rfl, HO1.out, HB1.out⟩
      case round =>
        obtain ⟨k, A9, c9, xk, rfl, rfl, hk, hxk, hok, hbk⟩ := hrel
        have HXK := Lib.hid hxk
        have HOK := Lib.hid hok
        have HBK := Lib.hid hbk
        obtain ⟨y0, y1, y2, y3⟩ := four ((hbk.block w.heap.size HLT.out).trans HBX.out)
        clear hxk hok hbk
        by_cases hlt : k < ar.length
        · have hlt2 : (k : Int) < (ar.length : Int) := by omega
          obtain ⟨ad, A3, c3, rfl, x0, x1, x2, x3, hc3, hC3⟩ := at_T24 (Kd.C_below HC.out ((HBA.out.trans (HBK.out.mono HBA.out.size)))) (k : Int) (by omega) hlt2
          rw [rd_at24 _ _ hlt] at x0 x1 x2 x3 hc3 hC3
          rw [Int.toNat_natCast] at x0 x1 x2 x3
          obtain ⟨a, ha⟩ : ∃ a, a = ar[k] := ⟨_, rfl⟩
          rw [← ha] at x0 x1 x2 x3 hc3 hC3
          have HA := Lib.hid ha
          have HLA := Lib.hid (show limB n a = true by rw [ha]; exact limB_at HLM.out k hlt)
          have HC5 := Lib.hid hC3
          have HC4 := Lib.hid hc3
          have HLL := Lib.hid (show xk.length + (usesN n a).length ≤ 4398046511104 by
            have h1 := flat_le (f := usesN n) hlt
            rw [← ha] at h1
            have h2 := HLN.out
            have h3 := foldl_len (n := n) (ar.take k) xs
            rw [← HXK.out] at h3
            omega)
          clear ha hC3 hc3
          go_wp2_with (go_at_call 41; (with_reducible refine (IH.out a HLA.out A3 c3 (L + 1) wr (.slice A9 xk.length c9) xk HL.out HC5.out HC4.out HOK.out (HBA0.out.trans (HBK.out.mono HBA0.out.size)) HLL.out).mono ?_); rintro e' wz ⟨v2, rfl, ho2, hb2⟩; obtain ⟨A10, c10, hv10, _, _⟩ := Kd.R_reads ho2; subst hv10; have HO2 := Lib.hid ho2; have HB2 := Lib.hid (HBK.out.trans (hb2.mono HBK.out.size)); clear ho2 hb2)
          exact ⟨⟨k + 1, A10, c10, _, rfl, congrArg _ (by omega), by omega, by rw [take_foldl hlt, ← HXK.out, ← HA.out], HO2.out, HB2.out⟩, by simp [intOf]; omega⟩
        · have hkl : k = ar.length := by omega
          have HXE := Lib.hid (show xk = ar.foldl (fun l a => usesR n a l) xs by have := HXK.out; rwa [hkl, List.take_length] at this)
          clear hkl
          go_wp2
          go_ret
          refine ⟨_, rfl, ?_, HBA.out.trans (HBK.out.mono HBA.out.size)⟩
          rw [usesR, if_neg (show ¬ (⟨op, nn, nm, ar⟩ : S24).f0 = 2 from H2.out), ← HXE.out]
          exact HOK.out
def usesRF (e : S24) : List ByteArray := usesR 8 e []
def sawmillref43_Uses.f (a0_0 : Int) (a0_1 : Int) (a0_2 : ByteArray) (l0_3 : List S24) : Option (List ByteArray) :=
  if (limB 8 ⟨a0_0, a0_1, a0_2, l0_3⟩ && decide ((usesN 8 ⟨a0_0, a0_1, a0_2, l0_3⟩).length ≤ 4398046511104)) = true then some (usesRF ⟨a0_0, a0_1, a0_2, l0_3⟩) else none
theorem sawmillref43_Uses.calls (a0_0 : Int) (a0_1 : Int) (a0_2 : ByteArray) (A0_3 : Option Addr) (c0_3 : Nat) (l0_3 : List S24) (r : List ByteArray) (w : World) (hr0_3 : Kd.C k24 w A0_3 l0_3.length l0_3) (hc0_3 : l0_3.length ≤ c0_3) (h : sawmillref43_Uses.f a0_0 a0_1 a0_2 l0_3 = some r) :
    Calls Tryd.prog 18 #[.agg #[.int .i64 a0_0, .int .i64 a0_1, .string a0_2, .slice A0_3 l0_3.length c0_3]] w fun e w' => ∃ v0_ : Value, e = .returned (v0_) ∧ Kd.R Kd.string 9 w' w.heap.size (fun _ => True) v0_ r ∧ Below w.heap.size w w' := by
  unfold sawmillref43_Uses.f at h
  split at h
  · rename_i hl
    simp only [Bool.and_eq_true, decide_eq_true_eq] at hl
    injection h with h
    subst h
    obtain ⟨wa, hwa⟩ : ∃ wa, wa = w.alloc (.cells #[.int .i64 a0_0, .int .i64 a0_1, .string a0_2, .slice A0_3 l0_3.length c0_3] 24) := ⟨_, rfl⟩
    have hbel : Below w.heap.size w wa := hwa ▸ (Below.refl _ _).alloc (Nat.le_refl _) _
    have HB := Lib.hid hbel
    have HU := Lib.hid (uses_41 w 8 (by omega) a0_0 a0_1 a0_2 l0_3 hl.1 A0_3 c0_3 1 wa (.slice none 0 0) [] (by decide) (Kd.C_below hr0_3 hbel) hc0_3 (Kd.R_nil _ _ _ _ _) hbel (by simpa using hl.2))
    have HWA := Lib.hid hwa
    clear hbel hwa hl hr0_3 hc0_3
    go_enter Tryd.func18, Tryd.ntmps18
    go_wp2_with (go_at_call 41; rw [← HWA.out]; (with_reducible refine HU.out.mono ?_); rintro e' wz ⟨v1, rfl, ho, hb⟩; have HO := Lib.hid ho; have HB2 := Lib.hid (HB.out.trans (hb.mono HB.out.size)); clear ho hb)
    go_ret
    exact ⟨v1, rfl, HO.out, HB2.out⟩
  · cases h
end Go.Proofs.YthdgofbchfcfcaaDoor.PRu
