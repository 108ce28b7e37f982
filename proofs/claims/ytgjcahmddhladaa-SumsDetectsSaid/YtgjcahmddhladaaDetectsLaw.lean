/- A burst of up to four changed bytes changes the checksum; a change of one of the last eight bytes is seen: plain facts on lists of bytes. No condition. -/
import Derived.Test.YtgjcahmddhladaaDetects
set_option linter.unusedSimpArgs false
set_option linter.unusedVariables false
namespace Go.Proofs.Ytgjcahmddhladaa.Detects
open Go.RowKit Go.Proofs.Ytgjcahmddhladaa Go.Proofs.Ytgjcahmddhladaa.PAll Go.Proofs.Ytgjcahmddhladaa.Plain Go.Proofs.YtgjcahmddhladaaW.PrintWords
open Xors Chains CrcLaw
theorem bs_inj {a b : ByteArray} (h : bs a = bs b) : a = b := by
  apply data_inj
  unfold bs at h
  exact (List.map_inj_right (fun _ _ e => UInt8.toBitVec_inj.1 e)).1 h
theorem bs_extract (t : ByteArray) (n : Nat) : bs (t.extract 0 n) = (bs t).take n := by
  unfold bs
  rw [← List.map_take]
  congr 1
  simp
theorem tail8_inj {p s : ByteArray} : bs (tail8 p) = bs (tail8 s) ↔ crcB p = crcB s := by
  constructor
  · intro h
    have h1 := congrArg cs (bs_inj h)
    unfold tail8 at h1
    rw [cs_hexS, cs_hexS] at h1
    have lt : ∀ c : B, (c.setWidth 64).toNat < 16 ^ 8 := by intro c; rw [BitVec.toNat_setWidth]; have := c.isLt; omega
    have v1 := val_hexN 8 _ (lt (crcB p)) (by omega)
    have v2 := val_hexN 8 _ (lt (crcB s)) (by omega)
    rw [h1, v2] at v1
    have e := Option.some.inj v1
    rw [BitVec.toNat_setWidth, BitVec.toNat_setWidth] at e
    apply BitVec.eq_of_toNat_eq
    have := (crcB p).isLt
    have := (crcB s).isLt
    omega
  · intro h
    unfold tail8
    rw [h]
/-- What Open says of a string of eight bytes at least. -/
theorem open_two (t : ByteArray) (n : Nat) (hn : t.size = n + 8) : ((OpenR t).2 == 16) = !decide (bs (tail8 (t.extract 0 n)) = (bs t).drop n) := by
  have e : t.size - 8 = n := by omega
  have hs : sealS (t.extract 0 n) = t ↔ bs (tail8 (t.extract 0 n)) = (bs t).drop n := by
    constructor
    · intro h
      have := congrArg bs h
      rw [sealS, bs_append, bs_extract] at this
      have h2 := congrArg (List.drop n) this
      rw [List.drop_append_of_le_length (by rw [List.length_take, bs_length]; omega), List.drop_of_length_le (by rw [List.length_take, bs_length]; omega), List.nil_append] at h2
      exact h2
    · intro h
      apply bs_inj
      rw [sealS, bs_append, bs_extract, h, List.take_append_drop]
  unfold OpenR
  rw [if_neg (by omega), e]
  by_cases h : sealS (t.extract 0 n) = t
  · rw [if_pos h, decide_eq_true (hs.1 h)]; rfl
  · rw [if_neg h, decide_eq_false (fun h2 => h (hs.2 h2))]; rfl
theorem bytesI_bs (s : ByteArray) : bytesI s = (bs s).map fun b => (b.toNat : Int) := by simp [bytesI, bs]
theorem ofNat_toNat (b : BitVec 8) : BitVec.ofNat 8 ((b.toNat : Int)).toNat = b := by simp
/-- A burst: up to four bytes. -/
theorem burst (Y : List (BitVec 8)) (h : Y.length ≤ 4) : crun 0#32 Y = 0#32 ↔ ∀ y ∈ Y, y = 0#8 := by
  constructor
  · intro hz
    have pad : crun 0#32 (Y ++ List.replicate (4 - Y.length) 0#8) = 0#32 := by rw [crun_append, hz]; exact crun_zero_zeros _
    match Y, h with
    | [], _ => intro y hy; cases hy
    | [a], _ =>
      have := mt (crun_burst a 0#8 0#8 0#8) (by simpa using pad)
      simp at this
      intro y hy; simp at hy; rw [hy]; simpa using this
    | [a, b], _ =>
      have := mt (crun_burst a b 0#8 0#8) (by simpa using pad)
      simp at this
      intro y hy; simp at hy; rcases hy with rfl | rfl
      · exact this.1
      · exact this.2
    | [a, b, c], _ =>
      have := mt (crun_burst a b c 0#8) (by simpa using pad)
      simp at this
      intro y hy; simp at hy; rcases hy with rfl | rfl | rfl
      · exact this.1
      · exact this.2.1
      · exact this.2.2
    | [a, b, c, d], _ =>
      have := mt (crun_burst a b c d) (by simpa using pad)
      simp at this
      intro y hy; simp at hy; rcases hy with rfl | rfl | rfl | rfl
      · exact this.1
      · exact this.2.1
      · exact this.2.2.1
      · exact this.2.2.2
  · intro hy
    have : Y = List.replicate Y.length 0#8 := List.eq_replicate_iff.2 ⟨rfl, hy⟩
    rw [this]
    exact crun_zero_zeros _
theorem anyTo_iff (X : List (BitVec 8)) : ∀ k, k ≤ X.length → (anyTo (X.map fun b => (b.toNat : Int)) k = false ↔ ∀ y ∈ X.take k, y = 0#8) := by
  intro k
  induction k with
  | zero => intro _; simp [anyTo]
  | succ k ih =>
    intro hk
    have hk' : k < X.length := by omega
    rw [List.take_succ_eq_append_getElem hk']
    simp only [anyTo, Bool.or_eq_false_iff, ih (by omega), List.mem_append, List.mem_singleton]
    have hx : (X.map fun b => (b.toNat : Int)).getD k 0 = (X[k].toNat : Int) := by simp [hk']
    rw [hx]
    constructor
    · rintro ⟨h1, h2⟩ y (hy | rfl)
      · exact h1 y hy
      · have : X[k].toNat = 0 := by simpa using h2
        exact BitVec.eq_of_toNat_eq this
    · intro h
      refine ⟨fun y hy => h y (.inl hy), ?_⟩
      rw [h X[k] (.inr rfl)]
      rfl
theorem seal_bs (s : ByteArray) : bs (sealS s) = bs s ++ bs (tail8 s) := by rw [sealS, bs_append]
theorem first (s : ByteArray) (a : Nat) (X : List (BitVec 8)) (hX : X.length = 4) (ha : a ≤ s.size) : First s a (X.map fun b => (b.toNat : Int)) := by
  intro k hk hor
  have hak : a + k ≤ s.size := by omega
  have hsz : (bytesI (sealS s)).length = s.size + 8 := by rw [bytesI_length, sealS_size]
  have hlen : (strOfNums (modTo (bytesI (sealS s)) (X.map fun b => (b.toNat : Int)) a k)).size = s.size + 8 := by rw [strOfNums_size, modTo_length, hsz]
  have hbs : bs (strOfNums (modTo (bytesI (sealS s)) (X.map fun b => (b.toNat : Int)) a k)) =
      List.zipWith (· ^^^ ·) (bs s) (List.replicate a 0#8 ++ X.take k ++ List.replicate (s.size - a - k) 0#8) ++ bs (tail8 s) := by
    rw [strOfNums_bs]
    apply List.ext_getElem
    · simp [modTo_length, hsz, bs_length, tail8_size, hX]; omega
    · intro i h1 h2
      have hi : i < s.size + 8 := by simpa [modTo_length, hsz] using h1
      have hg : (bytesI (sealS s)).getD i 0 = (((bs (sealS s))[i]'(by rw [bs_length, sealS_size]; exact hi)).toNat : Int) := by
        rw [bytesI_bs]
        simp [bs_length, sealS_size, hi]
      simp only [List.getElem_map, modTo, List.getElem_range]
      by_cases hin : i < s.size
      · have hzl : i < (List.zipWith (· ^^^ ·) (bs s) (List.replicate a 0#8 ++ X.take k ++ List.replicate (s.size - a - k) 0#8)).length := by
          simp [bs_length, hX]; omega
        rw [List.getElem_append_left hzl, List.getElem_zipWith]
        have hsi : (bs (sealS s))[i]'(by rw [bs_length, sealS_size]; exact hi) = (bs s)[i]'(by rw [bs_length]; exact hin) := by
          simp only [seal_bs]
          rw [List.getElem_append_left]
        rw [hg, hsi]
        by_cases hr : a ≤ i ∧ i < a + k
        · rw [if_pos hr]
          have hxi : (X.map fun b => (b.toNat : Int)).getD (i - a) 0 = ((X[i - a]'(by omega)).toNat : Int) := by
            simp [show i - a < X.length from by omega]
          rw [hxi, xor8, ofNat_toNat]
          congr 1
          rw [List.getElem_append_left (by simp [hX]; omega), List.getElem_append_right (by simp; omega)]
          simp
        · rw [if_neg hr, ofNat_toNat]
          by_cases hl : i < a
          · rw [List.getElem_append_left (by simp [hX]; omega), List.getElem_append_left (by simp; omega)]
            simp
          · rw [List.getElem_append_right (by simp [hX]; omega)]
            simp
      · rw [if_neg (by omega), hg, ofNat_toNat, List.getElem_append_right (by simp [bs_length, hX]; omega)]
        simp only [seal_bs]
        rw [List.getElem_append_right (by rw [bs_length]; omega)]
        congr 1
        simp [bs_length, hX]; omega
  generalize hD : List.replicate a 0#8 ++ X.take k ++ List.replicate (s.size - a - k) 0#8 = D at *
  have hDl : D.length = s.size := by rw [← hD]; simp [hX]; omega
  have hzl : (List.zipWith (· ^^^ ·) (bs s) D).length = s.size := by simp [bs_length, hDl]
  have hpre : bs ((strOfNums (modTo (bytesI (sealS s)) (X.map fun b => (b.toNat : Int)) a k)).extract 0 s.size) = List.zipWith (· ^^^ ·) (bs s) D := by
    rw [bs_extract, hbs, List.take_append_of_le_length (by omega), List.take_of_length_le (by omega)]
  rw [open_two _ s.size hlen, hbs, List.drop_append_of_le_length (by omega), List.drop_of_length_le (by omega), List.nil_append]
  have hcrc : (bs (tail8 ((strOfNums (modTo (bytesI (sealS s)) (X.map fun b => (b.toNat : Int)) a k)).extract 0 s.size)) = bs (tail8 s)) ↔ anyTo (X.map fun b => (b.toNat : Int)) k = false := by
    rw [tail8_inj, anyTo_iff X k (by omega)]
    unfold crcB
    rw [hpre]
    have e := crun_xor (bs s) D (BitVec.allOnes 32) 0#32 (by rw [bs_length, hDl])
    rw [BitVec.xor_zero] at e
    rw [e, ← hD, crun_append, crun_append, crun_zero_zeros]
    rw [← burst (X.take k) (by simp; omega)]
    constructor
    · intro h
      have h2 := congrArg (fun y => ~~~ y) h
      simp only [BitVec.not_not] at h2
      have h3 := congrArg (crun (BitVec.allOnes 32) (bs s) ^^^ ·) h2
      simp only [← BitVec.xor_assoc, BitVec.xor_self, BitVec.zero_xor] at h3
      by_cases hz : crun 0#32 (X.take k) = 0#32
      · exact hz
      · exact absurd h3 (crun_zeros _ _ hz)
    · intro h
      rw [h, crun_zero_zeros, BitVec.xor_zero]
  cases hb : anyTo (X.map fun b => (b.toNat : Int)) k with
  | false => rw [decide_eq_true (hcrc.2 hb)]; rfl
  | true => rw [decide_eq_false (fun h => by rw [hcrc.1 h] at hb; cases hb)]; rfl
theorem second (s : ByteArray) (a : Nat) (X : List (BitVec 8)) (hX : X.length = 4) : Second s a (X.map fun b => (b.toNat : Int)) := by
  obtain ⟨x, X', rfl⟩ : ∃ x X', X = x :: X' := by cases X with | nil => cases hX | cons x X' => exact ⟨x, X', rfl⟩
  unfold Second
  have hm : a % 8 < 8 := Nat.mod_lt _ (by omega)
  generalize a % 8 = m at *
  have hx0 : ((x :: X').map fun b => (b.toNat : Int))[0]?.getD 0 = (x.toNat : Int) := rfl
  rw [hx0]
  have ht8 : (bs (tail8 s)).length = 8 := by rw [bs_length, tail8_size]
  have hsl : (bs (sealS s)).length = s.size + 8 := by rw [bs_length, sealS_size]
  have hget : (bytesI (sealS s))[s.size + m]?.getD 0 = (((bs (tail8 s))[m]'(by omega)).toNat : Int) := by
    rw [bytesI_bs, List.getElem?_map, seal_bs, List.getElem?_append_right (by rw [bs_length]; omega), bs_length, Nat.add_sub_cancel_left, List.getElem?_eq_getElem (by omega)]
    rfl
  rw [hget, xor8]
  have hlen : (strOfNums ((bytesI (sealS s)).set (s.size + m) ((((bs (tail8 s))[m]'(by omega) ^^^ x).toNat : Int)))).size = s.size + 8 := by rw [strOfNums_size, List.length_set, bytesI_length, sealS_size]
  have hbs : bs (strOfNums ((bytesI (sealS s)).set (s.size + m) ((((bs (tail8 s))[m]'(by omega) ^^^ x).toNat : Int)))) = bs s ++ (bs (tail8 s)).set m ((bs (tail8 s))[m]'(by omega) ^^^ x) := by
    rw [strOfNums_bs, bytesI_bs, ← List.map_set (f := fun b : BitVec 8 => (b.toNat : Int)), List.map_map, seal_bs, List.set_append_right _ _ (by rw [bs_length]; omega), bs_length, Nat.add_sub_cancel_left]
    conv => rhs; rw [← List.map_id (bs s ++ _)]
    apply List.map_congr_left
    intro b _
    simp
  have hpre : (strOfNums ((bytesI (sealS s)).set (s.size + m) ((((bs (tail8 s))[m]'(by omega) ^^^ x).toNat : Int)))).extract 0 s.size = s := by
    apply bs_inj
    rw [bs_extract, hbs, List.take_append_of_le_length (by rw [bs_length]; omega), List.take_of_length_le (by rw [bs_length]; omega)]
  rw [open_two _ s.size hlen, hpre, hbs, List.drop_append_of_le_length (by rw [bs_length]; omega), List.drop_of_length_le (by rw [bs_length]; omega), List.nil_append]
  by_cases hz : x = 0
  · subst hz
    rw [decide_eq_true (by simp)]
    rfl
  · rw [decide_eq_false]
    · symm
      simp only [Bool.not_false, bne_iff_ne]
      intro e
      apply hz
      apply BitVec.eq_of_toNat_eq
      have : x.toNat = 0 := by omega
      rw [this]; rfl
    · intro h
      apply hz
      have h2 := congrArg (fun l => l[m]?) h
      simp only [List.getElem?_eq_getElem (show m < (bs (tail8 s)).length from by omega)] at h2
      rw [List.getElem?_set_self (by omega)] at h2
      have h3 := congrArg ((bs (tail8 s))[m]'(by omega) ^^^ ·) (Option.some.inj h2)
      simp only [← BitVec.xor_assoc, BitVec.xor_self, BitVec.zero_xor] at h3
      exact h3.symm
theorem rowWalk (s : ByteArray) (a : Int) (x0 x1 x2 x3 : Int) (w : World) (h0 : (Lit.int .u8 x0).wf = true) (h1 : (Lit.int .u8 x1).wf = true) (h2 : (Lit.int .u8 x2).wf = true) (h3 : (Lit.int .u8 x3).wf = true) :
    Calls Try.prog 7 #[.string s, .int .i64 a, .agg #[.int .u8 x0, .int .u8 x1, .int .u8 x2, .int .u8 x3]] w fun e w' => e = .returned (.bool true) ∧ Below w.heap.size w w' := by
  by_cases hn : (s.size : Int) ≤ 1000
  · by_cases ha0 : a < 0
    · exact neg s a x0 x1 x2 x3 w hn ha0
    · by_cases ha : (s.size : Int) < a
      · exact far s a x0 x1 x2 x3 w hn (by omega) ha
      · obtain ⟨n, rfl⟩ := Int.eq_ofNat_of_zero_le (show 0 ≤ a from by omega)
        obtain ⟨b0, rfl⟩ := of_wf8 h0
        obtain ⟨b1, rfl⟩ := of_wf8 h1
        obtain ⟨b2, rfl⟩ := of_wf8 h2
        obtain ⟨b3, rfl⟩ := of_wf8 h3
        exact yes s n _ _ _ _ w hn (by omega) (first s n [b0, b1, b2, b3] rfl (by omega)) (second s n [b0, b1, b2, b3] rfl)
  · exact long s a x0 x1 x2 x3 w hn
end Go.Proofs.Ytgjcahmddhladaa.Detects
