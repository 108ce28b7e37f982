/- What postings and Accounts of the package books return: the walks through the closures, through the generic function over amounts, and over the table of the accounts' names, which the row's variable holds. -/
import Derived.Test.YtjdcpddcngcioaaDoorPBkx0
import Derived.WalkSpells
import Derived.WalkLawsBesides
import Derived.RegionTactic
import Derived.ChangeAlike
import Derived.Outline
import Derived.Lib.Hide
import Derived.BigRegion
set_option linter.unusedVariables false
set_option linter.unusedSimpArgs false
namespace Go.Proofs.YtjdcpddcngcioaaDoor.PBk
open Go.RowKit Go.Proofs.YtjdcpddcngcioaaDoorW.PrintWords Go.Proofs.YtjdcpddcngcioaaDoorW.PrintLast Go.Proofs.YtjdcpddcngcioaaDoorW.PrintMore
/-- The accounts' names. -/
def nmT : Nat → ByteArray
  | 0 => ⟨#[102, 111, 114, 101, 115, 116]⟩
  | 1 => ⟨#[108, 111, 103, 115]⟩
  | 2 => ⟨#[103, 114, 101, 101, 110]⟩
  | 3 => ⟨#[100, 114, 121]⟩
  | 4 => ⟨#[99, 104, 105, 112, 115]⟩
  | 5 => ⟨#[100, 117, 115, 116]⟩
  | 6 => ⟨#[115, 104, 105, 112, 112, 101, 100]⟩
  | _ => ⟨#[115, 111, 108, 100]⟩
/-- The package's table holds the names. -/
def GlobG (w : World) : Prop := ∃ t fr, w.heap[0]? = some (.cells #[.string (nmT 0), .string (nmT 1), .string (nmT 2), .string (nmT 3), .string (nmT 4), .string (nmT 5), .string (nmT 6), .string (nmT 7)] t fr)
theorem GlobG.pos {w : World} (h : GlobG w) : 0 < w.heap.size := by
  obtain ⟨t, fr, h⟩ := h
  exact (Array.getElem?_eq_some_iff.1 h).1
theorem GlobG.drewN {w : World} (h : GlobG w) (n : Nat) : GlobG (w.drewN n) := h
theorem GlobG.below {w w' : World} (h : GlobG w) (hb : Below w.heap.size w w') : GlobG w' := by
  have hp := h.pos
  obtain ⟨t, fr, h⟩ := h
  exact ⟨t, fr, (hb.block 0 hp).trans h⟩
theorem GlobG.cell {w : World} (h : GlobG w) (j : Nat) (hj : j < 8) : w.cell? ⟨0, j, none⟩ = some (.string (nmT j)) := by
  obtain ⟨t, fr, h⟩ := h
  simp only [World.cell?, h]
  match j, hj with
  | 0, _ => rfl
  | 1, _ => rfl
  | 2, _ => rfl
  | 3, _ => rfl
  | 4, _ => rfl
  | 5, _ => rfl
  | 6, _ => rfl
  | 7, _ => rfl
/-- The first closure: an amount that is not 0. -/
theorem ok_calls (a n : Int) (w : World) : Calls Tryd.prog 75 #[.agg #[.int .i64 a, .int .i64 n]] w fun e w' => e = .returned (.bool (n != 0)) ∧ Below w.heap.size w w' := by
  have hbel : Below w.heap.size w (w.alloc (.cells #[.int .i64 a, .int .i64 n] 81)) := (Below.refl _ _).alloc (Nat.le_refl _) _
  have HB := Lib.hid hbel
  clear hbel
  go_enter Tryd.func75, Tryd.ntmps75
  go_wp2
  go_ret
  exact ⟨rfl, HB.out⟩
/-- The second closure: the posting. -/
theorem as_calls (a : Nat) (n : Int) (ha : a < 8) (w : World) (hG : GlobG w) : Calls Tryd.prog 76 #[.agg #[.int .i64 (a : Int), .int .i64 n]] w fun e w' => e = .returned (.agg #[.string (nmT a), .int .i64 n]) ∧ Below w.heap.size w w' := by
  have hc := hG.cell a ha
  have hp := hG.pos
  have ha' : (a : Int) < 8 := by omega
  have hc1 := fun o1 o2 => (World.cell?_alloc_lt (w.alloc o1) o2 ⟨0, a, none⟩ (by simp)).trans ((World.cell?_alloc_lt w o1 ⟨0, a, none⟩ hp).trans hc)
  clear hG hc
  go_enter Tryd.func76, Tryd.ntmps76
  go_wp2
  go_region
  all_goals (try go_wp2)
  all_goals
    refine bodyPost_ret (v := .agg #[.string (nmT a), .int .i64 n]) (by simp [results, Tryd.results76, go_sem]) rfl ⟨rfl, ?_⟩
    exact (((Below.refl _ _).alloc (Nat.le_refl _) _).alloc (by simp) _).drew
/-- The postings of changes: those that are not 0. -/
def bpost (l : List S81) : List S50 := (l.filter fun a => a.f1 != 0).map fun a => ⟨nmT a.f0.toNat, a.f1⟩
theorem bpost_length (l : List S81) : (bpost l).length ≤ l.length := by unfold bpost; rw [List.length_map]; exact List.length_filter_le _ _
theorem bpost_snoc (l : List S81) (a : S81) : bpost (l ++ [a]) = bpost l ++ (if a.f1 != 0 then [⟨nmT a.f0.toNat, a.f1⟩] else []) := by
  unfold bpost
  rw [List.filter_append, List.map_append]
  cases h : a.f1 != 0 <;> simp [List.filter_cons, h]
set_option maxHeartbeats 2000000 in
set_option maxRecDepth 100000 in
theorem kept_calls (A0 : Option Addr) (c0 : Nat) (l0 : List S81) (w : World) (hr0 : Kd.C k81 w A0 l0.length l0) (hG : GlobG w) (hv : ∀ a ∈ l0, 0 ≤ a.f0 ∧ a.f0 < 8) (hl : l0.length < 1000) :
    Calls Tryd.prog 74 #[.slice A0 l0.length c0, .func (.func 75) #[] #[], .func (.func 76) #[] #[]] w fun e w' => ∃ v0_ : Value, e = .returned (v0_) ∧ Kd.R k50 50 w' w.heap.size (fun _ => True) v0_ (bpost l0) ∧ Below w.heap.size w w' := by
  have HR := Lib.hid hr0
  have HG := Lib.hid hG
  have HV := Lib.hid hv
  have hll : (l0.length : Int) < 1000 := by omega
  clear hr0 hG hv
  go_enter Tryd.func74, Tryd.ntmps74
  go_wp2
  go_loopw [7, 12] (fun v i wr => ∃ k : Nat, k ≤ l0.length ∧ i = .int .i64 k ∧ Kd.R k50 50 wr w.heap.size (fun _ => True) v (bpost (l0.take k)) ∧ Below w.heap.size w wr) (fun _ i _ => l0.length - (intOf i).toNat)
  case atStart => exact ⟨0, by omega, rfl, Kd.R_nil _ _ _ _ _, Below.refl _ _⟩
  case round =>
    obtain ⟨k, hk, rfl, hR, hB⟩ := hrel
    have HRR := Lib.hid hR
    have HBB := Lib.hid hB
    clear hR hB
    by_cases hlt : k < l0.length
    · have hC := Kd.C_below HR.out HBB.out
      obtain ⟨ad, hA, hx0, hx1⟩ := at_T81 hC (k : Int) (by omega) (by omega)
      subst hA
      clear hC
      have hel : rd_T81 l0 (k : Int) = l0[k] := by unfold rd_T81; simp [hlt]
      have hmem := HV.out l0[k] (List.getElem_mem hlt)
      have htake : l0.take (k + 1) = l0.take k ++ [l0[k]] := by rw [List.take_succ_eq_append_getElem hlt]
      have HT := Lib.hid htake
      clear htake
      rw [hel] at hx0 hx1
      clear hel
      simp only [Int.toNat_natCast] at hx0 hx1
      generalize l0[k] = el at *
      obtain ⟨a, n⟩ := el
      obtain ⟨a, rfl⟩ := Int.eq_ofNat_of_zero_le hmem.1
      have ha8 : a < 8 := by have := hmem.2; simp only at this; omega
      clear hmem
      have hlt' : (k : Int) < (l0.length : Int) := by omega
      have hbw : Below w.heap.size w (wr.alloc (.cells #[.int .i64 (a : Int), .int .i64 n] 81)) := HBB.out.alloc HBB.out.size _
      have HBW := Lib.hid hbw
      clear hbw
      have hrx : Kd.R k50 50 (wr.alloc (.cells #[.int .i64 (a : Int), .int .i64 n] 81)) w.heap.size (fun _ => True) u7 (bpost (l0.take k)) := Kd.R_alloc HRR.out _
      have HRX := Lib.hid hrx
      clear hrx
      by_cases hz : n = 0
      · subst hz
        go_wp2_with fail
        refine (ok_calls _ _ _).mono ?_
        rintro e w1 ⟨rfl, hb1⟩
        have h0 : ((0 : Int) != 0) = false := rfl
        have hR1 := Kd.R_below HRX.out hb1
        have hB1 := below_then HBW.out (HBW.out.size) hb1
        go_wp2_with fail
        go_roundw
        case rel => exact ⟨k + 1, by omega, by go_num, by rw [HT.out, bpost_snoc]; simpa using hR1, hB1⟩
        case measure => simp [intOf]; omega
      · have hz1 : (n != 0) = true := bne_iff_ne.2 hz
        clear hz
        go_wp2_with fail
        refine (ok_calls _ _ _).mono ?_
        rintro e w1 ⟨rfl, hb1⟩
        have hR1 := Kd.R_below HRX.out hb1
        have hB1 := below_then HBW.out (HBW.out.size) hb1
        have hc0 : w1.cell? ⟨wr.heap.size, 0, none⟩ = some (.int .i64 (a : Int)) := (hb1.cell (by simp)).trans (by simp [World.cell?_alloc_new])
        have hc1 : w1.cell? ⟨wr.heap.size, 1, none⟩ = some (.int .i64 n) := (hb1.cell (by simp)).trans (by simp [World.cell?_alloc_new])
        have HR1 := Lib.hid hR1
        have HB1 := Lib.hid hB1
        clear hR1 hB1 hb1
        go_wp2_with fail
        refine (as_calls a n ha8 w1 (HG.out.below HB1.out)).mono ?_
        rintro e w2 ⟨rfl, hb2⟩
        have HR2 := Lib.hid (Kd.R_below HR1.out hb2)
        have HB2 := Lib.hid (below_then HB1.out HB1.out.size hb2)
        clear hb2
        have hlen := bpost_length (l0.take k)
        have htl : (l0.take k).length ≤ 1000 := by rw [List.length_take]; omega
        go_wp2_with (first | ((with_reducible refine gate_builtin (b := .append) (xs := #[.tmp 19, .tmp 23]) rfl ?_); at_builtin; refine Kd.R_append k50 (w0 := w) w.heap.size rfl (.tmp 19) (.tmp 23) 26 50 (.agg #[(.string ⟨#[]⟩), (.int .i64 0)]) 24 rfl Tryd.underlying26 info50 rfl (by decide) (by omega) u7 (bpost (l0.take k)) (⟨nmT a, n⟩ : S50) [.string (nmT a), .int .i64 n] (fun _ => True) (fun _ => False) rfl rfl ?aP (fun _ hk => hk.elim) ?aF ?aO ?aB ?aS ?aL ?_; (case aP => exact k50_mkM _ _ _ (⟨nmT a, n⟩ : S50)); (case aB => exact HB2.out); (case aF => exact (fun _ _ => trivial)); (case aO => exact HR2.out); (case aS => exact HB2.out.size); (case aL => omega); intro v3 w3 ho hb hg hat))
        go_roundw
        case rel => exact ⟨k + 1, by omega, by go_num, by rw [HT.out, bpost_snoc]; simpa [hz1] using ho, hb⟩
        case measure => simp [intOf]; omega
    · obtain rfl : k = l0.length := by omega
      have e := HRR.out
      rw [List.take_of_length_le (Nat.le_refl _)] at e
      have HE := Lib.hid e
      clear e
      go_wp2
      go_ret
      exact ⟨_, rfl, HE.out, HBB.out⟩
def books_postings.f (l0 : List S81) : Option (List S50) := if l0.length < 1000 then (if (l0.all fun a => decide (0 ≤ a.f0) && decide (a.f0 < 8)) = true then some (bpost l0) else none) else none
set_option maxHeartbeats 1000000 in
theorem books_postings.calls (A0 : Option Addr) (c0 : Nat) (l0 : List S81) (r : List S50) (w : World) (hr0 : Kd.C k81 w A0 l0.length l0) (hc0 : l0.length ≤ c0) (hG : GlobG w) (h : books_postings.f l0 = some r) :
    Calls Tryd.prog 50 #[.slice A0 l0.length c0] w fun e w' => ∃ v0_ : Value, e = .returned (v0_) ∧ Kd.R k50 50 w' w.heap.size (fun _ => True) v0_ r ∧ Below w.heap.size w w' := by
  unfold books_postings.f at h
  by_cases h1 : l0.length < 1000
  · rw [if_pos h1] at h
    by_cases h2 : (l0.all fun a => decide (0 ≤ a.f0) && decide (a.f0 < 8)) = true
    · rw [if_pos h2] at h
      obtain rfl := Option.some.inj h
      have hk := kept_calls A0 c0 l0 w hr0 hG (fun a ha => by have := List.all_eq_true.1 h2 a ha; simpa using this) h1
      clear hr0 hc0 hG h h2
      go_enter Tryd.func50, Tryd.ntmps50
      go_wp2_with fail
      refine hk.mono ?_
      rintro e w1 ⟨v, rfl, hR, hB⟩
      have HR := Lib.hid hR
      have HB := Lib.hid hB
      clear hR hB
      go_wp2_with fail
      go_ret
      exact ⟨_, rfl, HR.out, HB.out⟩
    · rw [if_neg h2] at h
      cases h
  · rw [if_neg h1] at h
    cases h
def books_Accounts.f : Option (List ByteArray) := some [nmT 0, nmT 1, nmT 2, nmT 3, nmT 4, nmT 5, nmT 6, nmT 7]
set_option maxHeartbeats 1000000 in
theorem books_Accounts.calls (r : List ByteArray) (w : World) (hG : GlobG w) (h : books_Accounts.f = some r) :
    Calls Tryd.prog 31 #[] w fun e w' => ∃ v0_ : Value, e = .returned (v0_) ∧ Kd.R Kd.string 9 w' w.heap.size (fun _ => True) v0_ r ∧ Below w.heap.size w w' := by
  obtain rfl := Option.some.inj h
  clear h
  have ho : Kd.R Kd.string 9 (w.alloc (.cells #[] 9)) w.heap.size (fun _ => True) (.slice (some ⟨w.heap.size, 0, none⟩) 0 0) ([] : List ByteArray) :=
    Kd.R_of_own (World.ownsRow_lit w #[] 0 (Nat.le_refl _) (by simp [maxLen]) rfl) (fun _ _ => trivial)
  have hb : Below w.heap.size w (w.alloc (.cells #[] 9)) := (Below.refl _ _).alloc (Nat.le_refl _) _
  have hG1 : GlobG (w.alloc (.cells #[] 9)) := hG.below hb
  have hC : Kd.C Kd.string (w.alloc (.cells #[] 9)) (some ⟨0, 0, none⟩) 8 [nmT 0, nmT 1, nmT 2, nmT 3, nmT 4, nmT 5, nmT 6, nmT 7] := by
    refine Kd.C_of_reads (d := nmT 0) ⟨rfl, by omega, fun _ => ⟨_, rfl, fun j hj => ?_⟩⟩
    have hc := hG1.cell j hj
    have ha : (⟨0, 0, none⟩ : Addr).add j = ⟨0, j, none⟩ := add_plain 0 j
    rw [ha, hc]
    match j, hj with
    | 0, _ => rfl
    | 1, _ => rfl
    | 2, _ => rfl
    | 3, _ => rfl
    | 4, _ => rfl
    | 5, _ => rfl
    | 6, _ => rfl
    | 7, _ => rfl
  have HO := Lib.hid ho
  have HB := Lib.hid hb
  have HC := Lib.hid hC
  clear ho hb hG hG1 hC
  go_enter Tryd.func31, Tryd.ntmps31
  go_wp2_with (first | ((with_reducible refine gate_builtin (b := .append) (xs := #[.tmp 1, .tmp 2]) rfl ?_); at_builtin; refine Kd.R_append_row Value.string (nmT 0) (w0 := w) w.heap.size rfl (.tmp 1) (.tmp 2) 35 9 (.string ⟨#[]⟩) 16 rfl Tryd.underlying35 info9 rfl (by decide) _ [] _ _ 8 8 (fun _ => True) rfl rfl (fun _ _ => trivial) HO.out HC.out HB.out (by simp) (by decide) ?_; intro v1 w1 hR1 hb1 hg hat))
  go_ret
  exact ⟨_, rfl, hR1, hb1⟩
end Go.Proofs.YtjdcpddcngcioaaDoor.PBk
