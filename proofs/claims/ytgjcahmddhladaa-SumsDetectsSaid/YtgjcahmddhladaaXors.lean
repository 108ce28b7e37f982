/- Crc of the exclusive or of three strings is the exclusive or of their Crcs: the walk. No condition. -/
import Derived.Test.YtgjcahmddhladaaPlain
import Derived.Test.YtgjcahmddhladaaByteRow
import Derived.WalkSpells
import Derived.WalkLawsBesides
import Derived.RegionTactic
import Derived.ChangeAlike
import Derived.Outline
import Derived.Lib.Hide
import Derived.BigRegion
set_option linter.unusedSimpArgs false
set_option linter.unusedVariables false
namespace Go.Proofs.Ytgjcahmddhladaa.Xors
open Go.RowKit Go.Proofs.Ytgjcahmddhladaa Go.Proofs.Ytgjcahmddhladaa.PAll Go.Proofs.Ytgjcahmddhladaa.Plain Go.Proofs.YtgjcahmddhladaaW.PrintWords
/-- The world is the old one, some orders having been drawn. -/
def Drawn (w w' : World) : Prop := ∃ n, w' = w.drewN n
theorem crc_calls (s : ByteArray) (hs : s.size < 9223372036854775808) (w : World) : Calls Try.prog 12 #[.string s] w fun e w' => e = .returned (.int .u32 (cI (crcB s))) ∧ Drawn w w' := by
  obtain ⟨k, hk⟩ := (crc_ev s hs).rounds
  exact (sums_Crc.calls k s _ w hk).mono fun e w' ⟨he, hd⟩ => ⟨he, hd.out⟩
theorem awake_calls (w : World) : Calls Try.prog 14 #[] w fun e w' => e = .returned (.bool true) ∧ Below w.heap.size w w' := sawmilllaw04_awake.calls 200 true w awake_true
theorem short_calls (s : ByteArray) (w : World) : Calls Try.prog 11 #[.string s] w fun e w' => e = .returned (.bool (decide ((s.size : Int) ≤ 1000))) ∧ Drawn w w' :=
  (sawmilllaw04_short.calls s _ w rfl).mono fun e w' ⟨he, hd⟩ => ⟨he, hd.out⟩
theorem below_undrewN {B : Nat} {w w' : World} {n : Nat} (h : Below B (w.drewN n) w') : Below B w w' := ⟨h.os, h.tape, h.output, h.size, h.block⟩
theorem below_drewN' {B : Nat} {w w' : World} (n : Nat) (h : Below B w w') : Below B w (w'.drewN n) := ⟨h.os, h.tape, h.output, h.size, h.block⟩
def x3 (x y z : Int) : Int := Go.bits .xor .u8 (Go.bits .xor .u8 x y) z
/-- The first k bytes are the exclusive or of the three. -/
def xorTo (a b c : List Int) (k : Nat) : List Int := (List.range a.length).map fun j => if j < k then x3 (a.getD j 0) (b.getD j 0) (c.getD j 0) else a.getD j 0
theorem xorTo_length (a b c : List Int) (k : Nat) : (xorTo a b c k).length = a.length := by simp [xorTo]
theorem xorTo_zero (a b c : List Int) : xorTo a b c 0 = a := by
  apply List.ext_getElem (by simp [xorTo])
  intro i h1 h2
  simp [xorTo, h2]
theorem xorTo_succ (a b c : List Int) (k : Nat) (hk : k < a.length) (y z : Int) (hy : y = b.getD k 0) (hz : z = c.getD k 0) :
    (xorTo a b c k).set k (Go.bits .xor .u8 (Go.bits .xor .u8 ((xorTo a b c k)[k]?.getD 0) y) z) = xorTo a b c (k + 1) := by
  subst hy hz
  apply List.ext_getElem (by simp [xorTo])
  intro i h1 h2
  have hi : i < a.length := by rw [xorTo_length] at h2; exact h2
  by_cases e : k = i
  · subst e
    simp [xorTo, hi, x3]
  · rw [List.getElem_set_ne e]
    simp only [xorTo, List.getElem_map, List.getElem_range]
    by_cases hlt : i < k
    · rw [if_pos hlt, if_pos (by omega)]
    · rw [if_neg hlt, if_neg (by omega)]
theorem bytesI_getD (s : ByteArray) (k : Nat) (h : k < s.size) : ((s[k]).toNat : Int) = (bytesI s).getD k 0 := by
  simp [bytesI, h]; rfl
set_option maxHeartbeats 1000000 in
theorem yes (a b c : ByteArray) (w : World) (hn : (a.size : Int) ≤ 1000) (hb : (a.size : Int) = b.size) (hc : (a.size : Int) = c.size)
    (hfin : (cI (crcB (strOfNums (xorTo (bytesI a) (bytesI b) (bytesI c) a.size))) == Go.bits .xor .u32 (Go.bits .xor .u32 (cI (crcB a)) (cI (crcB b))) (cI (crcB c))) = true) :
    Calls Try.prog 8 #[.string a, .string b, .string c] w fun e w' => e = .returned (.bool true) ∧ Below w.heap.size w w' := by
  have hcv := fun (w : World) (s : ByteArray) => Lib.run_convert_string_bytes (P := Try.prog) w 9 36 5 s Try.underlying9 Try.underlying36 Try.underlying5
  have hsh : decide ((a.size : Int) ≤ 1000) = true := decide_eq_true hn
  have hb1 : ((a.size : Int) != (b.size : Int)) = false := by rw [bne_eq_false_iff_eq]; exact hb
  have hc1 : ((a.size : Int) != (c.size : Int)) = false := by rw [bne_eq_false_iff_eq]; exact hc
  have HB := Lib.hid hb
  have HC := Lib.hid hc
  have HF := Lib.hid hfin
  clear hb hc hfin
  go_enter Try.func8, Try.ntmps8
  go_wp2_with fail
  refine (short_calls a w).mono ?_
  rintro e w' ⟨rfl, n1, rfl⟩
  go_wp2_with fail
  have hrow0 := BRow.made (w.drewN n1) a
  have hbel0 := below_bytesWorld (w.drewN n1) a
  simp only [World.heap_drewN] at hrow0 hbel0
  generalize Lib.bytesWorld (w.drewN n1) 5 a = wa at *
  generalize grownCap (w.drewN n1) a.size 0 5 = cap at *
  go_loopw [8] (fun i wr => ∃ k : Nat, k ≤ a.size ∧ i = .int .i64 k ∧ BRow wr w.heap.size a.size (xorTo (bytesI a) (bytesI b) (bytesI c) k) ∧ Below w.heap.size w wr) (fun i _ => a.size - (intOf i).toNat)
  case atStart => exact ⟨0, by omega, rfl, by rw [xorTo_zero]; exact hrow0, below_undrewN hbel0⟩
  case round =>
    obtain ⟨k, hk, rfl, hrow, hbel⟩ := hrel
    clear hrow0 hbel0
    by_cases hlt : k < a.size
    · have hc1 := hrow.cell hlt
      have hf1 := hrow.free hlt
      have hkb : k < b.size := by have := HB.out; omega
      have hkc : k < c.size := by have := HC.out; omega
      have hs' : (a.size : Int) ≤ 1000 := hn
      go_wp2
      go_region
      go_wp2
      go_roundw
      case rel =>
        refine ⟨k + 1, by omega, by go_num, ?_, hbel.setCell (by simp) _ |>.drew⟩
        have h1 := (hrow.set_ hlt (Go.bits .xor .u8 (Go.bits .xor .u8 ((xorTo (bytesI a) (bytesI b) (bytesI c) k)[k]?.getD 0) (b[k].toNat : Int)) (c[k].toNat : Int))).drew
        rw [xorTo_succ _ _ _ k (by rw [bytesI_length]; exact hlt) _ _ (bytesI_getD b k hkb) (bytesI_getD c k hkc)] at h1
        exact h1
      case measure => simp [intOf]; omega
    · obtain rfl : k = a.size := by omega
      have hst := hrow.string (P := Try.prog) (cap := cap) 36 5 Try.underlying36 Try.underlying5 9 Try.underlying9
      have hX : (strOfNums (xorTo (bytesI a) (bytesI b) (bytesI c) a.size)).size < 9223372036854775808 := by rw [strOfNums_size, xorTo_length, bytesI_length]; omega
      generalize strOfNums (xorTo (bytesI a) (bytesI b) (bytesI c) a.size) = X at *
      clear hrow
      have hsX : X.size < 9223372036854775808 := hX
      go_wp2_with fail
      refine (crc_calls X hsX wr).mono ?_
      rintro e w' ⟨rfl, n2, rfl⟩
      go_wp2_with fail
      refine (crc_calls a (by omega) _).mono ?_
      rintro e w' ⟨rfl, n3, rfl⟩
      go_wp2_with fail
      refine (crc_calls b (by have := HB.out; omega) _).mono ?_
      rintro e w' ⟨rfl, n4, rfl⟩
      go_wp2_with fail
      refine (crc_calls c (by have := HC.out; omega) _).mono ?_
      rintro e w' ⟨rfl, n5, rfl⟩
      have hfin := HF.out
      go_wp2_with fail
      refine (awake_calls _).mono ?_
      rintro e w' ⟨rfl, hb⟩
      go_wp2_with fail
      go_ret
      exact ⟨rfl, below_then (below_drewN' _ hbel) (by simpa using hbel.size) hb⟩
set_option maxHeartbeats 1000000 in
theorem long (a b c : ByteArray) (w : World) (hn : ¬ (a.size : Int) ≤ 1000) :
    Calls Try.prog 8 #[.string a, .string b, .string c] w fun e w' => e = .returned (.bool true) ∧ Below w.heap.size w w' := by
  have hsh : decide ((a.size : Int) ≤ 1000) = false := decide_eq_false hn
  go_enter Try.func8, Try.ntmps8
  go_wp2_with fail
  refine (short_calls a w).mono ?_
  rintro e w' ⟨rfl, n1, rfl⟩
  go_wp2_with fail
  refine (awake_calls _).mono ?_
  rintro e w' ⟨rfl, hb⟩
  go_wp2_with fail
  go_ret
  exact ⟨rfl, below_undrewN hb⟩
set_option maxHeartbeats 1000000 in
theorem other (a b c : ByteArray) (w : World) (hn : (a.size : Int) ≤ 1000) (h : ¬ ((a.size : Int) = b.size ∧ (a.size : Int) = c.size)) :
    Calls Try.prog 8 #[.string a, .string b, .string c] w fun e w' => e = .returned (.bool true) ∧ Below w.heap.size w w' := by
  have hsh : decide ((a.size : Int) ≤ 1000) = true := decide_eq_true hn
  by_cases hb : (a.size : Int) = b.size
  · have hc : ¬ (a.size : Int) = c.size := fun e => h ⟨hb, e⟩
    have hb1 : ((a.size : Int) != (b.size : Int)) = false := by rw [bne_eq_false_iff_eq]; exact hb
    have hc1 : ((a.size : Int) != (c.size : Int)) = true := by rw [bne_iff_ne]; exact hc
    clear hb hc h
    go_enter Try.func8, Try.ntmps8
    go_wp2_with fail
    refine (short_calls a w).mono ?_
    rintro e w' ⟨rfl, n1, rfl⟩
    go_wp2_with fail
    refine (awake_calls _).mono ?_
    rintro e w' ⟨rfl, hb⟩
    go_wp2_with fail
    go_ret
    exact ⟨rfl, below_undrewN hb⟩
  · have hb1 : ((a.size : Int) != (b.size : Int)) = true := by rw [bne_iff_ne]; exact hb
    clear hb h
    go_enter Try.func8, Try.ntmps8
    go_wp2_with fail
    refine (short_calls a w).mono ?_
    rintro e w' ⟨rfl, n1, rfl⟩
    go_wp2_with fail
    refine (awake_calls _).mono ?_
    rintro e w' ⟨rfl, hb⟩
    go_wp2_with fail
    go_ret
    exact ⟨rfl, below_undrewN hb⟩
/-! The checksum is linear. -/
open CrcLaw
theorem xor8 (x y : BitVec 8) : Go.bits .xor .u8 (x.toNat : Int) (y.toNat : Int) = ((x ^^^ y).toNat : Int) := by
  rw [u8_xor_nat _ _ x.isLt y.isLt, BitVec.toNat_xor]
theorem bs_xor (a b c : ByteArray) (hb : a.size = b.size) (hc : a.size = c.size) :
    bs (strOfNums (xorTo (bytesI a) (bytesI b) (bytesI c) a.size)) = List.zipWith (· ^^^ ·) (List.zipWith (· ^^^ ·) (bs a) (bs b)) (bs c) := by
  rw [strOfNums_bs]
  apply List.ext_getElem
  · simp [xorTo_length, bytesI_length, bs_length]; omega
  · intro i h1 h2
    have hi : i < a.size := by simpa [xorTo_length, bytesI_length] using h1
    have g : ∀ (s : ByteArray) (hs : i < s.size), (bytesI s).getD i 0 = (((bs s)[i]'(by rw [bs_length]; exact hs)).toNat : Int) := by
      intro s hs
      simp [bytesI, bs, hs]
    simp only [xorTo, List.getElem_map, List.getElem_range, if_pos hi, List.getElem_zipWith, x3]
    rw [g a hi, g b (by omega), g c (by omega), xor8, xor8]
    simp
theorem crc_xor (a b c : ByteArray) (hb : a.size = b.size) (hc : a.size = c.size) :
    crcB (strOfNums (xorTo (bytesI a) (bytesI b) (bytesI c) a.size)) = crcB a ^^^ crcB b ^^^ crcB c := by
  unfold crcB
  rw [bs_xor a b c hb hc]
  have e1 := crun_xor (List.zipWith (· ^^^ ·) (bs a) (bs b)) (bs c) (BitVec.allOnes 32 ^^^ BitVec.allOnes 32) (BitVec.allOnes 32) (by simp [bs_length]; omega)
  have e2 := crun_xor (bs a) (bs b) (BitVec.allOnes 32) (BitVec.allOnes 32) (by simp [bs_length]; omega)
  rw [e2] at e1
  rw [show (BitVec.allOnes 32 ^^^ BitVec.allOnes 32) ^^^ BitVec.allOnes 32 = BitVec.allOnes 32 from by decide] at e1
  rw [e1]
  generalize crun (BitVec.allOnes 32) (bs a) = x
  generalize crun (BitVec.allOnes 32) (bs b) = y
  generalize crun (BitVec.allOnes 32) (bs c) = z
  apply BitVec.eq_of_getLsbD_eq
  intro i hi
  simp only [BitVec.getLsbD_xor, BitVec.getLsbD_not, hi, decide_true, Bool.true_and]
  cases x.getLsbD i <;> cases y.getLsbD i <;> cases z.getLsbD i <;> rfl
theorem walk (a b c : ByteArray) (w : World) : Calls Try.prog 8 #[.string a, .string b, .string c] w fun e w' => e = .returned (.bool true) ∧ Below w.heap.size w w' := by
  by_cases hn : (a.size : Int) ≤ 1000
  · by_cases h : (a.size : Int) = b.size ∧ (a.size : Int) = c.size
    · refine yes a b c w hn h.1 h.2 ?_
      rw [cI_xor, cI_xor, crc_xor a b c (by omega) (by omega)]
      exact beq_self_eq_true _
    · exact other a b c w hn h
  · exact long a b c w hn
theorem rowWalk (a b c : ByteArray) (w : World) (_ : a.size ≤ 140737488351232) (_ : b.size ≤ 140737488351232) (_ : c.size ≤ 140737488351232) :
    Calls Try.prog 8 #[.string a, .string b, .string c] w fun e w' => e = .returned (.bool true) ∧ Below w.heap.size w w' := walk a b c w
end Go.Proofs.Ytgjcahmddhladaa.Xors
