/- Up to four consecutive changed bytes of a sealed string, and a change of one of its last eight bytes, are reported by Open: the walk. No condition. -/
import Derived.Test.YtgjcahmddhladaaChains
set_option linter.unusedSimpArgs false
set_option linter.unusedVariables false
namespace Go.Proofs.Ytgjcahmddhladaa.Detects
open Go.RowKit Go.Proofs.Ytgjcahmddhladaa Go.Proofs.Ytgjcahmddhladaa.PAll Go.Proofs.Ytgjcahmddhladaa.Plain Go.Proofs.YtgjcahmddhladaaW.PrintWords
open Xors
theorem seal_calls (s : ByteArray) (hs : s.size < 9223372036854775000) (w : World) : Calls Try.prog 21 #[.string s] w fun e w' => e = .returned (.string (sealS s)) ∧ Below w.heap.size w w' := by
  obtain ⟨k, hk⟩ := (seal_ev s hs).rounds
  exact sums_Seal.calls k s _ w hk
theorem open_calls (s : ByteArray) (hs : s.size < 9223372036854775000) (w : World) : Calls Try.prog 19 #[.string s] w fun e w' => e = .returned (.tuple #[.string (OpenR s).1, .int .i64 (OpenR s).2]) ∧ Below w.heap.size w w' := by
  obtain ⟨k, hk⟩ := (open_ev s hs).rounds
  exact sums_Open.calls k s _ _ w hk
/-- The bytes from at_ on, k of them, are changed. -/
def modTo (L xs : List Int) (at_ k : Nat) : List Int := (List.range L.length).map fun i => if at_ ≤ i ∧ i < at_ + k then Go.bits .xor .u8 (L.getD i 0) (xs.getD (i - at_) 0) else L.getD i 0
def anyTo (xs : List Int) : Nat → Bool
  | 0 => false
  | k + 1 => anyTo xs k || (xs.getD k 0 != 0)
theorem modTo_length (L xs : List Int) (a k : Nat) : (modTo L xs a k).length = L.length := by simp [modTo]
theorem modTo_zero (L xs : List Int) (a : Nat) : modTo L xs a 0 = L := by
  apply List.ext_getElem (by simp [modTo])
  intro i h1 h2
  simp only [modTo, List.getElem_map, List.getElem_range]
  rw [if_neg (by omega)]
  simp [h2]
theorem modTo_succ (L xs : List Int) (a k : Nat) (hk : a + k < L.length) (x : Int) (hx : x = xs.getD k 0) :
    (modTo L xs a k).set (a + k) (Go.bits .xor .u8 ((modTo L xs a k)[a + k]?.getD 0) x) = modTo L xs a (k + 1) := by
  subst hx
  apply List.ext_getElem (by simp [modTo])
  intro i h1 h2
  have hi : i < L.length := by rw [modTo_length] at h2; exact h2
  by_cases e : a + k = i
  · subst e
    simp [modTo, hi]
  · rw [List.getElem_set_ne e]
    simp only [modTo, List.getElem_map, List.getElem_range]
    by_cases hlt : a ≤ i ∧ i < a + k
    · rw [if_pos hlt, if_pos (by omega)]
    · rw [if_neg hlt, if_neg (by omega)]
theorem box4 (w : World) (t : TypeId) (x0 x1 x2 x3 : Int) : BRow (w.alloc (.cells #[.int .u8 x0, .int .u8 x1, .int .u8 x2, .int .u8 x3] t)) w.heap.size 4 [x0, x1, x2, x3] := by
  refine ⟨rfl, fun j hj => ?_⟩
  have hh : (w.alloc (.cells #[.int .u8 x0, .int .u8 x1, .int .u8 x2, .int .u8 x3] t)).heap[w.heap.size]? = some (.cells #[.int .u8 x0, .int .u8 x1, .int .u8 x2, .int .u8 x3] t (0, 0)) := heap_alloc_new w _
  refine ⟨?_, by simp only [World.frozen?, hh]; simp⟩
  simp only [World.cell?, hh]
  match j, hj with
  | 0, _ => rfl
  | 1, _ => rfl
  | 2, _ => rfl
  | 3, _ => rfl
/-- What the two parts of the law lean on: plain facts on bytes. -/
def First (s : ByteArray) (a : Nat) (xs : List Int) : Prop := ∀ k, k ≤ 4 → (k = 0 ∨ a + k ≤ s.size) → ((OpenR (strOfNums (modTo (bytesI (sealS s)) xs a k))).2 == 16) = anyTo xs k
def Second (s : ByteArray) (a : Nat) (xs : List Int) : Prop :=
  ((OpenR (strOfNums ((bytesI (sealS s)).set (s.size + a % 8) (Go.bits .xor .u8 ((bytesI (sealS s))[s.size + a % 8]?.getD 0) (xs[0]?.getD 0))))).2 == 16) = (xs[0]?.getD 0 != 0)
set_option maxHeartbeats 2000000 in
theorem yes (s : ByteArray) (a : Nat) (x0 x1 x2 x3 : Int) (w : World) (hn : (s.size : Int) ≤ 1000) (ha : (a : Int) ≤ (s.size : Int)) (hfirst : First s a [x0, x1, x2, x3]) (hsecond : Second s a [x0, x1, x2, x3]) :
    Calls Try.prog 7 #[.string s, .int .i64 (a : Int), .agg #[.int .u8 x0, .int .u8 x1, .int .u8 x2, .int .u8 x3]] w fun e w' => e = .returned (.bool true) ∧ Below w.heap.size w w' := by
  have hcv := fun (w : World) (s : ByteArray) => Lib.run_convert_string_bytes (P := Try.prog) w 9 36 5 s Try.underlying9 Try.underlying36 Try.underlying5
  have hsh : decide ((s.size : Int) ≤ 1000) = true := decide_eq_true hn
  go_enter Try.func7, Try.ntmps7
  go_wp2_with fail
  refine (short_calls s _).mono ?_
  rintro e w' ⟨rfl, n1, rfl⟩
  go_wp2_with fail
  refine (seal_calls s (by omega) _).mono ?_
  rintro e w2 ⟨rfl, hb2⟩
  have hsz : ((sealS s).size : Int) = (s.size : Int) + 8 := by rw [sealS_size]; omega
  have hsz1 : (((sealS s).size : Int) != (s.size : Int) + 8) = false := by rw [hsz]; simp
  have HS := Lib.hid hsz
  clear hsz
  generalize hS : sealS s = S at *
  have HSS := Lib.hid hS
  clear hS
  have hbox := ((box4 w 35 x0 x1 x2 x3).drewN n1).below hb2 (by simp)
  have hB2 : w.heap.size < w2.heap.size := by have := hb2.size; simp at this; omega
  have hrow0 := BRow.made w2 S
  have hbel0 := below_bytesWorld w2 S
  have hbox0 := hbox.below hbel0 hB2
  have hbw : Below w.heap.size w w2 := below_then (below_drewN' _ ((Below.refl _ w).alloc (Nat.le_refl _) _)) (by simp) hb2
  have hbw0 := below_then hbw (by omega) hbel0
  clear hbox hbw hbel0 hb2
  have hSle : (S.size : Int) ≤ 1008 := by have := HS.out; omega
  have hSge : a + 8 ≤ S.size := by have := HS.out; omega
  go_wp2_with fail
  generalize Lib.bytesWorld w2 5 S = wa at *
  generalize hL : bytesI S = L at *
  have HLL : (L.length : Int) = S.size := by rw [← hL, bytesI_length]
  have HL := Lib.hid hL
  clear hL
  generalize hX : [x0, x1, x2, x3] = xs at *
  have HX := Lib.hid hX
  clear hX
  generalize hcap : grownCap w2 S.size 0 5 = cap at *
  clear hcap
  go_loopw [9, 10] (fun c i wr => ∃ k : Nat, k ≤ 4 ∧ (k = 0 ∨ a + k ≤ s.size) ∧ i = .int .i64 k ∧ c = .bool (anyTo xs k) ∧ BRow wr w2.heap.size S.size (modTo L xs a k) ∧ BRow wr w.heap.size 4 xs ∧ Below w.heap.size w wr) (fun _ i _ => 4 - (intOf i).toNat)
  case atStart => exact ⟨0, by omega, .inl rfl, rfl, rfl, by rw [modTo_zero]; exact hrow0, hbox0, hbw0⟩
  case round =>
    obtain ⟨k, hk, hor, rfl, rfl, hrow, hbox, hbel⟩ := hrel
    clear hrow0 hbox0 hbw0
    by_cases hlt : k < 4 ∧ a + k < s.size
    · obtain ⟨hlt, hlt2⟩ := hlt
      have hak : a + k < S.size := by have := HS.out; omega
      have hc1 := hrow.cell hak
      have hf1 := hrow.free hak
      have hc2 := hbox.cell hlt
      have hak' : (a : Int) + (k : Int) < (s.size : Int) := by omega
      generalize hc : anyTo xs k = c at *
      have HCC := Lib.hid hc
      clear hc
      cases c
      all_goals
        go_wp2
        go_region
        go_wp2
        all_goals
          have e := HCC.out
          go_roundw
          case rel =>
            refine ⟨k + 1, by omega, .inr (by omega), by go_num, ?_, ?_, ?_, ?_⟩
            · simp [anyTo, e]
            · have h1 := (hrow.set_ hak (Go.bits .xor .u8 ((modTo L xs a k)[a + k]?.getD 0) (xs[k]?.getD 0))).drew
              rw [modTo_succ L xs a k (by have := HLL; omega) _ (by simp)] at h1
              exact h1
            · exact BRow.below (B := w2.heap.size) hbox ((Below.refl _ wr).setCell (by simp) _).drew hB2
            · exact (hbel.setCell (by simp; omega) _).drew
          case measure => simp [intOf]; omega
    · have hst := hrow.string (P := Try.prog) (cap := cap) 36 5 Try.underlying36 Try.underlying5 9 Try.underlying9
      have hX1 : (strOfNums (modTo L xs a k)).size < 9223372036854775000 := by rw [strOfNums_size, modTo_length]; omega
      have hcmp : (!((OpenR (strOfNums (modTo L xs a k))).2 == 16) == anyTo xs k) = false := by
        have e := hfirst k hk hor
        rw [HSS.out, HL.out] at e
        rw [e]; cases anyTo xs k <;> rfl
      generalize strOfNums (modTo L xs a k) = X1 at *
      have hbx := hbox.cell (j := 0) (by omega)
      have hlt2 : ¬ (k : Int) < 4 ∨ ¬ (a : Int) + (k : Int) < (s.size : Int) := by omega
      generalize anyTo xs k = c at *
      have HSS' := Lib.hid HSS
      clear hlt
      go_wp2_with fail
      all_goals
        refine (open_calls X1 hX1 _).mono ?_
        rintro e w3 ⟨rfl, hb3⟩
        generalize (OpenR X1).2 = r2 at *
        generalize (OpenR X1).1 = r1 at *
        go_wp2_with fail
        have hbox3 : BRow w3 w.heap.size 4 xs := hbox.below hb3 (hbox.lt (by omega))
        have hbel3 : Below w.heap.size w w3 := below_then hbel (by have := hbel.size; omega) hb3
        have hbox4 := hbox3.below (below_bytesWorld w3 S) (hbox3.lt (by omega))
        have hrow4 := BRow.made w3 S
        rw [HL.out] at hrow4
        have hbel4 := below_then hbel3 hbel3.size (below_bytesWorld w3 S)
        have hin : s.size + a % 8 < S.size := by have := HS.out; omega
        have hc3 := hrow4.cell hin
        have hf3 := hrow4.free hin
        have hc4 := hbox4.cell (j := 0) (by omega)
        go_region
        have hrow5 := (hrow4.set_ hin (Go.bits .xor .u8 (L[s.size + a % 8]?.getD 0) (xs[0]?.getD 0))).drew
        have hbox5 : BRow ((Lib.bytesWorld w3 5 S).setCell ⟨w3.heap.size, s.size + a % 8, none⟩ (.int .u8 (Go.bits .xor .u8 (L[s.size + a % 8]?.getD 0) (xs[0]?.getD 0)))).drew w.heap.size 4 xs :=
          BRow.below (B := w3.heap.size) hbox4 ((Below.refl _ _).setCell (by simp) _).drew (hbox3.lt (by omega))
        have hbel5 := (hbel4.setCell (p := ⟨w3.heap.size, s.size + a % 8, none⟩) hbel3.size (.int .u8 (Go.bits .xor .u8 (L[s.size + a % 8]?.getD 0) (xs[0]?.getD 0)))).drew
        have hst5 := hrow5.string (P := Try.prog) (cap := grownCap w3 S.size 0 5) 36 5 Try.underlying36 Try.underlying5 9 Try.underlying9
        clear hrow4 hrow5 hbox4 hbel4 hc3 hf3 hc4
        generalize ((Lib.bytesWorld w3 5 S).setCell ⟨w3.heap.size, s.size + a % 8, none⟩ (.int .u8 (Go.bits .xor .u8 (L[s.size + a % 8]?.getD 0) (xs[0]?.getD 0)))).drew = W5 at *
        have hX2 : (strOfNums (L.set (s.size + a % 8) (Go.bits .xor .u8 (L[s.size + a % 8]?.getD 0) (xs[0]?.getD 0)))).size < 9223372036854775000 := by rw [strOfNums_size, List.length_set]; omega
        have hcmp2 : (((OpenR (strOfNums (L.set (s.size + a % 8) (Go.bits .xor .u8 (L[s.size + a % 8]?.getD 0) (xs[0]?.getD 0))))).2 == 16) == (xs[0]?.getD 0 != 0)) = true := by
          have e := hsecond
          unfold Second at e
          rw [HSS.out, HL.out] at e
          rw [e]; exact beq_self_eq_true _
        generalize strOfNums (L.set (s.size + a % 8) (Go.bits .xor .u8 (L[s.size + a % 8]?.getD 0) (xs[0]?.getD 0))) = X2 at *
        go_wp2_with fail
        refine (open_calls X2 hX2 _).mono ?_
        rintro e w6 ⟨rfl, hb6⟩
        generalize (OpenR X2).2 = r4 at *
        generalize (OpenR X2).1 = r3 at *
        have hc6 := (hbox5.below hb6 (hbox5.lt (by omega))).cell (j := 0) (by omega)
        have hbel6 := below_then hbel5 hbel5.size hb6
        go_wp2_with fail
        refine (awake_calls _).mono ?_
        rintro e w7 ⟨rfl, hb7⟩
        go_wp2_with fail
        go_ret
        exact ⟨rfl, below_then hbel6 hbel6.size hb7⟩
set_option maxHeartbeats 1000000 in
theorem long (s : ByteArray) (a : Int) (x0 x1 x2 x3 : Int) (w : World) (hn : ¬ (s.size : Int) ≤ 1000) :
    Calls Try.prog 7 #[.string s, .int .i64 a, .agg #[.int .u8 x0, .int .u8 x1, .int .u8 x2, .int .u8 x3]] w fun e w' => e = .returned (.bool true) ∧ Below w.heap.size w w' := by
  have hsh : decide ((s.size : Int) ≤ 1000) = false := decide_eq_false hn
  have hbel : Below w.heap.size w (w.alloc (.cells #[.int .u8 x0, .int .u8 x1, .int .u8 x2, .int .u8 x3] 35)) := (Below.refl _ _).alloc (Nat.le_refl _) _
  have HBL := Lib.hid hbel
  clear hbel
  go_enter Try.func7, Try.ntmps7
  go_wp2_with fail
  refine (short_calls s _).mono ?_
  rintro e w' ⟨rfl, n1, rfl⟩
  go_wp2_with fail
  refine (awake_calls _).mono ?_
  rintro e w' ⟨rfl, hb⟩
  go_wp2_with fail
  go_ret
  exact ⟨rfl, below_then (below_drewN' _ HBL.out) (by simp) hb⟩
set_option maxHeartbeats 1000000 in
theorem neg (s : ByteArray) (a : Int) (x0 x1 x2 x3 : Int) (w : World) (hn : (s.size : Int) ≤ 1000) (ha : a < 0) :
    Calls Try.prog 7 #[.string s, .int .i64 a, .agg #[.int .u8 x0, .int .u8 x1, .int .u8 x2, .int .u8 x3]] w fun e w' => e = .returned (.bool true) ∧ Below w.heap.size w w' := by
  have hsh : decide ((s.size : Int) ≤ 1000) = true := decide_eq_true hn
  have hbel : Below w.heap.size w (w.alloc (.cells #[.int .u8 x0, .int .u8 x1, .int .u8 x2, .int .u8 x3] 35)) := (Below.refl _ _).alloc (Nat.le_refl _) _
  have HBL := Lib.hid hbel
  clear hbel
  go_enter Try.func7, Try.ntmps7
  go_wp2_with fail
  refine (short_calls s _).mono ?_
  rintro e w' ⟨rfl, n1, rfl⟩
  go_wp2_with fail
  refine (awake_calls _).mono ?_
  rintro e w' ⟨rfl, hb⟩
  go_wp2_with fail
  go_ret
  exact ⟨rfl, below_then (below_drewN' _ HBL.out) (by simp) hb⟩
set_option maxHeartbeats 1000000 in
theorem far (s : ByteArray) (a : Int) (x0 x1 x2 x3 : Int) (w : World) (hn : (s.size : Int) ≤ 1000) (h0 : 0 ≤ a) (ha : (s.size : Int) < a) :
    Calls Try.prog 7 #[.string s, .int .i64 a, .agg #[.int .u8 x0, .int .u8 x1, .int .u8 x2, .int .u8 x3]] w fun e w' => e = .returned (.bool true) ∧ Below w.heap.size w w' := by
  have hsh : decide ((s.size : Int) ≤ 1000) = true := decide_eq_true hn
  have hbel : Below w.heap.size w (w.alloc (.cells #[.int .u8 x0, .int .u8 x1, .int .u8 x2, .int .u8 x3] 35)) := (Below.refl _ _).alloc (Nat.le_refl _) _
  have HBL := Lib.hid hbel
  clear hbel
  go_enter Try.func7, Try.ntmps7
  go_wp2_with fail
  refine (short_calls s _).mono ?_
  rintro e w' ⟨rfl, n1, rfl⟩
  go_wp2_with fail
  refine (awake_calls _).mono ?_
  rintro e w' ⟨rfl, hb⟩
  go_wp2_with fail
  go_ret
  exact ⟨rfl, below_then (below_drewN' _ HBL.out) (by simp) hb⟩
end Go.Proofs.Ytgjcahmddhladaa.Detects
