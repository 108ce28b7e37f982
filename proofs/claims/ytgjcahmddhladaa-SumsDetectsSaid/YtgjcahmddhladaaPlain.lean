/- What the functions of the package sums and of its reference compute, as plain functions on lists of bytes, and the statements about them. -/
import Derived.Test.YtgjcahmddhladaaPAllx4
import Derived.Test.YtgjcahmddhladaaPAllx3
import Derived.Test.YtgjcahmddhladaaPAllx2
import Derived.Test.YtgjcahmddhladaaPAllx1
import Derived.Test.YtgjcahmddhladaaCrc
import Derived.Laws.BitsAllLaws
set_option linter.unusedSimpArgs false
set_option linter.unusedVariables false
namespace Go.Proofs.Ytgjcahmddhladaa.Plain
open Go.RowKit Go.Proofs.Ytgjcahmddhladaa.PAll Go.Proofs.YtgjcahmddhladaaW.PrintWords Go.Proofs.YtgjcahmddhladaaW.PrintLast Go.Proofs.YtgjcahmddhladaaW.PrintMore
open Go.Proofs.Ytgjcahmddhladaa

theorem awake_true : sawmilllaw04_awake.f 200 = some true := by decide +kernel
theorem awake_ev : Ev (fun k => sawmilllaw04_awake.f k) true := Ev.of (fun k => sawmilllaw04_awake.mono k) awake_true

/-! ### Bytes -/
def bs (s : ByteArray) : List (BitVec 8) := s.data.toList.map UInt8.toBitVec
theorem bs_length (s : ByteArray) : (bs s).length = s.size := by simp [bs]
theorem bt_bs (s : ByteArray) (i : Nat) (h : i < s.size) : bt s (i : Int) = (((bs s)[i]'(by rw [bs_length]; exact h)).toNat : Int) := by
  unfold bt bs
  have h' : (i : Int).toNat < s.size := by omega
  rw [dif_pos h']
  simp
  rfl
theorem bs_drop (s : ByteArray) (i : Nat) (h : i < s.size) : (bs s).drop i = (bs s)[i]'(by rw [bs_length]; exact h) :: (bs s).drop (i + 1) :=
  List.drop_eq_getElem_cons (by rw [bs_length]; exact h)
theorem data_inj {a b : ByteArray} (h : a.data.toList = b.data.toList) : a = b := by
  cases a; cases b
  simp only [ByteArray.mk.injEq]
  exact Array.toList_inj.1 h
theorem toList_inj {a b : ByteArray} : a.toList = b.toList ↔ a = b :=
  ⟨fun h => data_inj (by rw [← ByteArray.toList_eq, ← ByteArray.toList_eq]; exact h), fun h => by rw [h]⟩
theorem wrap_nat (n : Nat) (h : n < 9223372036854775808) : wrap64 (n : Int) = n := by unfold wrap64; omega

/-! ### Crc -/
open CrcLaw
def cI (c : B) : Int := (c.toNat : Int)
theorem cI_lt (c : B) : 0 ≤ cI c ∧ cI c < 4294967296 := by unfold cI; have := c.isLt; omega
theorem cI_xor (a b : B) : Go.bits .xor .u32 (cI a) (cI b) = cI (a ^^^ b) := by
  unfold cI
  rw [u32_xor_nat _ _ a.isLt b.isLt, BitVec.toNat_xor]
theorem cI_and1 (a : B) : Go.bits .and .u32 (cI a) 1 = if a.getLsbD 0 then 1 else 0 := by
  unfold cI
  have h := u32_and_nat a.toNat 1 a.isLt (by omega)
  rw [show ((1 : Nat) : Int) = (1 : Int) from rfl] at h
  rw [h]
  simp only [BitVec.getLsbD, Nat.testBit_zero, Nat.and_one_is_mod]
  have := Nat.mod_two_eq_zero_or_one a.toNat
  rcases this with h | h <;> simp [h]
theorem cI_half (a : B) : cI a / (2 : Int) = cI (a >>> 1) := by
  unfold cI
  rw [BitVec.toNat_ushiftRight, Nat.shiftRight_eq_div_pow]
  simp
theorem cI_not (a : B) : Go.bits .xor .u32 4294967295 (cI a) = cI (~~~ a) := by
  have h := cI_xor (BitVec.allOnes 32) a
  rw [show cI (BitVec.allOnes 32) = 4294967295 from rfl] at h
  rw [h, BitVec.allOnes_xor]
theorem cI_byte (b : BitVec 8) : ((b.toNat : Int)) % 4294967296 = cI (b.setWidth 32) := by
  unfold cI
  rw [BitVec.toNat_setWidth]
  have := b.isLt
  omega
def stepN : Nat → B → B
  | 0, c => c
  | n + 1, c => stepN n (cstep c)
theorem stepN_8 (c : B) : stepN 8 c = F8 c := rfl
theorem cstep_one (c : B) : cstep c = if c.getLsbD 0 then (c >>> 1) ^^^ poly else c >>> 1 := by
  unfold cstep; cases c.getLsbD 0 <;> simp
def crcB (s : ByteArray) : B := ~~~ (crun (BitVec.allOnes 32) (bs s))
theorem crc_l1 (s : ByteArray) (i : Int) (r : Int) : ∀ (d : Nat) (c : B) (j : Int), 0 ≤ j → j + d = 8 → Ev (fun k => sums_Crc.l0 k s (cI (stepN d c)) (wrap64 (i + 1))) r → Ev (fun k => sums_Crc.l1 k s (cI c) i j) r := by
  intro d
  induction d with
  | zero =>
    intro c j h0 hj h
    refine Ev.step (fun k => ?_) h
    simp only [sums_Crc.l1]; rw [if_neg (by omega)]; rfl
  | succ d ih =>
    intro c j h0 hj h
    refine Ev.step (f := fun k => sums_Crc.l1 k s (cI (cstep c)) i (j + 1)) (fun k => ?_) (ih (cstep c) (j + 1) (by omega) (by omega) h)
    simp only [sums_Crc.l1]; rw [if_pos (by omega), cI_and1, cI_half, show wrap64 (j + 1) = j + 1 from by unfold wrap64; omega, cstep_one]
    cases c.getLsbD 0
    · rw [if_neg (by simp)]; simp
    · rw [if_pos (by simp), if_pos rfl, ← cI_xor]; rfl
theorem crc_l0 (s : ByteArray) (hs : s.size < 9223372036854775808) : ∀ (d i : Nat) (c : B), i + d = s.size → Ev (fun k => sums_Crc.l0 k s (cI c) i) (cI (~~~ crun c ((bs s).drop i))) := by
  intro d
  induction d with
  | zero =>
    intro i c hi
    refine Ev.step (f := fun _ => some (cI (~~~ crun c ((bs s).drop i)))) (fun k => ?_) (Ev.now _)
    simp only [sums_Crc.l0]; rw [if_neg (by omega), List.drop_of_length_le (by rw [bs_length]; omega), cI_not]; rfl
  | succ d ih =>
    intro i c hi
    have hlt : i < s.size := by omega
    refine Ev.step (f := fun k => sums_Crc.l1 k s (cI (c ^^^ ((bs s)[i]'(by rw [bs_length]; exact hlt)).setWidth 32)) i 0) (fun k => ?_) ?_
    · simp only [sums_Crc.l0]; rw [if_pos (by omega), if_pos (by omega), bt_bs s i hlt, cI_byte, cI_xor]
    · refine crc_l1 s i _ 8 _ 0 (by omega) (by omega) ?_
      rw [show wrap64 ((i : Int) + 1) = ((i + 1 : Nat) : Int) from by unfold wrap64; omega, bs_drop s i hlt, crun_cons, stepN_8]
      exact ih (i + 1) _ (by omega)
theorem crc_ev (s : ByteArray) (hs : s.size < 9223372036854775808) : Ev (fun k => sums_Crc.f k s) (cI (crcB s)) := by
  have h := crc_l0 s hs s.size 0 (BitVec.allOnes 32) (by omega)
  exact h
theorem crc_same (s : ByteArray) : ∀ k, (∀ x i, sawmillref04_Crc.l0 k s x i = sums_Crc.l0 k s x i) ∧ (∀ x i j, sawmillref04_Crc.l1 k s x i j = sums_Crc.l1 k s x i j) := by
  intro k
  induction k with
  | zero => exact ⟨fun _ _ => rfl, fun _ _ _ => rfl⟩
  | succ k ih => exact ⟨fun x i => by simp only [sums_Crc.l0, sawmillref04_Crc.l0, ih.2], fun x i j => by simp only [sums_Crc.l1, sawmillref04_Crc.l1, ih.1, ih.2]⟩
theorem crc_ref (k : Nat) (s : ByteArray) : sawmillref04_Crc.f k s = sums_Crc.f k s := (crc_same s k).1 _ _
theorem short_yes (s : ByteArray) : sawmilllaw04_short.f s = some (decide ((s.size : Int) ≤ 1000)) := rfl

theorem SumsCrcs : sawmilllaw04_SumsCrcs.Pure := by
  intro s hs
  have hc := crc_ev s (by omega)
  suffices h : Ev (fun k => sawmilllaw04_SumsCrcs.f k s) true from h.rounds
  refine Ev.bind (Ev.now _) ?_
  by_cases h : (s.size : Int) ≤ 1000
  · simp only [h, decide_true, if_true]
    refine Ev.bind hc (Ev.bind (Ev.congr (fun k => crc_ref k s) hc) ?_)
    simp only [if_true]
    exact Ev.bind awake_ev (Ev.now _)
  · simp only [h, decide_false, Bool.false_eq_true, if_false]
    exact Ev.bind awake_ev (Ev.now _)

/-! ### Hash -/
abbrev W := BitVec 64
def wI (c : W) : Int := (c.toNat : Int)
theorem wI_lt (c : W) : 0 ≤ wI c ∧ wI c < 18446744073709551616 := by unfold wI; have := c.isLt; omega
theorem wI_xor (a b : W) : Go.bits .xor .u64 (wI a) (wI b) = wI (a ^^^ b) := by
  unfold wI
  rw [u64_xor_nat _ _ a.isLt b.isLt, BitVec.toNat_xor]
theorem wI_mul (a : W) : IntKind.u64.wrap (wI a * 1099511628211) = wI (a * 1099511628211#64) := by
  rw [IntKind.wrap_u64]
  unfold wI
  rw [BitVec.toNat_mul]
  simp
theorem wI_byte (b : BitVec 8) : IntKind.u64.wrap ((b.toNat : Int)) = wI (b.setWidth 64) := by
  rw [IntKind.wrap_u64]
  unfold wI
  rw [BitVec.toNat_setWidth]
  have := b.isLt
  omega
def hround (h : W) (b : BitVec 8) : W := (h ^^^ b.setWidth 64) * 1099511628211#64
def hrun (h : W) (l : List (BitVec 8)) : W := l.foldl hround h
theorem hrun_cons (h : W) (b : BitVec 8) (l : List (BitVec 8)) : hrun h (b :: l) = hrun (hround h b) l := rfl
theorem onward_l0 (s : ByteArray) (hs : s.size < 9223372036854775808) : ∀ (d i : Nat) (c : W), i + d = s.size → Ev (fun k => sums_onward.l0 k (wI c) s i) (wI (hrun c ((bs s).drop i))) := by
  intro d
  induction d with
  | zero =>
    intro i c hi
    refine Ev.step (f := fun _ => some (wI (hrun c ((bs s).drop i)))) (fun k => ?_) (Ev.now _)
    simp only [sums_onward.l0]; rw [if_neg (by omega), List.drop_of_length_le (by rw [bs_length]; omega)]; rfl
  | succ d ih =>
    intro i c hi
    have hlt : i < s.size := by omega
    refine Ev.step (f := fun k => sums_onward.l0 k (wI (hround c ((bs s)[i]'(by rw [bs_length]; exact hlt)))) s ((i + 1 : Nat) : Int)) (fun k => ?_) ?_
    · simp only [sums_onward.l0]; rw [if_pos (by omega), if_pos (by omega), bt_bs s i hlt, wI_byte, wI_xor, wI_mul, show wrap64 ((i : Int) + 1) = ((i + 1 : Nat) : Int) from by unfold wrap64; omega]; rfl
    · rw [bs_drop s i hlt, hrun_cons]
      exact ih (i + 1) _ (by omega)
theorem onward_ev (s : ByteArray) (hs : s.size < 9223372036854775808) (c : W) : Ev (fun k => sums_onward.f k (wI c) s) (wI (hrun c (bs s))) := by
  have h := onward_l0 s hs s.size 0 c (by omega)
  simpa [sums_onward.f] using h
def basis : W := 14695981039346656037#64
def hashW (l : List (BitVec 8)) : W := hrun basis l
theorem hash_ev (s : ByteArray) (hs : s.size < 9223372036854775808) : Ev (fun k => sums_Hash.f k s) (wI (hashW (bs s))) :=
  Ev.bind (onward_ev s hs basis) (Ev.now _)
theorem hash_same (s : ByteArray) : ∀ k, (∀ x i, sawmillref04_Hash.l0 k s x i = sums_onward.l0 k x s i) := by
  intro k
  induction k with
  | zero => exact fun _ _ => rfl
  | succ k ih => exact fun x i => by simp only [sums_onward.l0, sawmillref04_Hash.l0, ih]
theorem hash_ref_ev (s : ByteArray) (hs : s.size < 9223372036854775808) : Ev (fun k => sawmillref04_Hash.f k s) (wI (hashW (bs s))) :=
  Ev.congr (fun k => hash_same s k _ _) (onward_ev s hs basis)

/-! ### Chain: the eight bytes of a number -/
def byteAt (n : W) (i : Nat) : BitVec 8 := (n >>> (8 * i)).setWidth 8
/-- The bytes from place i down to 0. -/
def be (n : W) : Nat → List (BitVec 8)
  | 0 => []
  | i + 1 => byteAt n i :: be n i
theorem shr_place (n : W) (i : Nat) (hi : i < 8) : shr .u64 (wI n) ((8 * i : Nat) : Int) = wI (n >>> (8 * i)) := by
  unfold shr wI
  rw [BitVec.toNat_ushiftRight, Nat.shiftRight_eq_div_pow]
  rw [show min (((8 * i : Nat) : Int)).toNat IntKind.u64.bits = 8 * i from by simp [IntKind.bits]; omega]
  rw [Int.natCast_ediv]; norm_cast
theorem and255 (n : W) : Go.bits .and .u64 (wI n) 255 = wI ((n.setWidth 8).setWidth 64) := by
  unfold wI
  have h := u64_and_nat n.toNat 255 n.isLt (by omega)
  rw [show ((255 : Nat) : Int) = (255 : Int) from rfl] at h
  rw [h, BitVec.toNat_setWidth, BitVec.toNat_setWidth, show (255 : Nat) = 2 ^ 8 - 1 from rfl, Nat.and_two_pow_sub_one_eq_mod]
  have := n.isLt
  omega
theorem chain_l0 (n : W) (s : ByteArray) (hs : s.size < 9223372036854775808) : ∀ (i : Nat) (c : W), i ≤ 8 → Ev (fun k => sums_Chain.l0 k (wI n) s (wI c) (8 * (i : Int) - 8)) (wI (hrun c (be n i ++ bs s))) := by
  intro i
  induction i with
  | zero =>
    intro c _
    refine Ev.step (f := fun k => (sums_onward.f k (wI c) s).bind fun t => some t) (fun k => ?_) (Ev.bind (onward_ev s hs c) (Ev.now _))
    simp only [sums_Chain.l0]; rw [if_neg (by omega)]
  | succ i ih =>
    intro c hi
    refine Ev.step (f := fun k => sums_Chain.l0 k (wI n) s (wI (hround c (byteAt n i))) (8 * (i : Int) - 8)) (fun k => ?_) ?_
    · simp only [sums_Chain.l0]
      rw [if_pos (by omega), if_pos (by omega), show 8 * ((i + 1 : Nat) : Int) - 8 = ((8 * i : Nat) : Int) from by omega, shr_place n i (by omega), and255, wI_xor, wI_mul, show wrap64 (((8 * i : Nat) : Int) - 8) = 8 * (i : Int) - 8 from by unfold wrap64; omega]
      rfl
    · exact ih _ (by omega)
def chainW (n : W) (l : List (BitVec 8)) : W := hashW (be n 8 ++ l)
theorem chain_ev (n : W) (s : ByteArray) (hs : s.size < 9223372036854775808) : Ev (fun k => sums_Chain.f k (wI n) s) (wI (chainW n (bs s))) :=
  chain_l0 n s hs 8 basis (by omega)
theorem strOfNums_bs (l : List Int) : bs (strOfNums l) = l.map fun x => BitVec.ofNat 8 x.toNat := by
  unfold bs; rw [strOfNums_data, List.map_map]; apply List.map_congr_left; intro x _; simp [UInt8.ofNat]
theorem bytes_l0 (n : W) : ∀ (d i : Nat) (acc : List Int), i + d = 8 → acc.length = i →
    ∃ r, Ev (fun k => sawmillref04_Bytes.l0 k (wI n) acc i) r ∧ bs r = (acc.map fun x => BitVec.ofNat 8 x.toNat) ++ be n d ∧ r.size = 8 := by
  intro d
  induction d with
  | zero =>
    intro i acc hi hl
    refine ⟨strOfNums acc, Ev.step (f := fun _ => some (strOfNums acc)) (fun k => ?_) (Ev.now _), ?_, ?_⟩
    · simp only [sawmillref04_Bytes.l0]; rw [if_neg (by omega)]
    · rw [strOfNums_bs]; simp [be]
    · rw [strOfNums_size]; omega
  | succ d ih =>
    intro i acc hi hl
    have hsh : IntKind.u64.wrap (wrap64 (56 - wrap64 (8 * (i : Int)))) = ((8 * d : Nat) : Int) := by
      rw [IntKind.wrap_u64]; unfold wrap64; omega
    obtain ⟨r, h1, h2, h3⟩ := ih (i + 1) (acc ++ [wI (n >>> (8 * d)) % 256]) (by omega) (by simp [hl])
    refine ⟨r, Ev.step (fun k => ?_) h1, ?_, h3⟩
    · simp only [sawmillref04_Bytes.l0]
      rw [if_pos (by omega), hsh, if_pos (by omega), if_pos (by omega), shr_place n d (by omega), show wrap64 ((i : Int) + 1) = ((i + 1 : Nat) : Int) from by unfold wrap64; omega]
    · rw [h2]
      simp only [List.map_append, List.map_cons, List.map_nil, List.append_assoc, List.cons_append, List.nil_append, be]
      congr 2
      unfold byteAt wI
      generalize n >>> (8 * d) = m
      apply BitVec.eq_of_toNat_eq
      rw [BitVec.toNat_setWidth, BitVec.toNat_ofNat]
      omega
theorem bytesOf_same : ∀ k, (∀ n acc i, sawmilllaw04_bytesOf.l0 k n acc i = sawmillref04_Bytes.l0 k n acc i) := by
  intro k
  induction k with
  | zero => exact fun _ _ _ => rfl
  | succ k ih => exact fun x acc i => by simp only [sawmilllaw04_bytesOf.l0, sawmillref04_Bytes.l0, ih]
theorem bytes_ev (n : W) : ∃ r, Ev (fun k => sawmillref04_Bytes.f k (wI n)) r ∧ bs r = be n 8 ∧ r.size = 8 := by
  obtain ⟨r, h1, h2, h3⟩ := bytes_l0 n 8 0 [] (by omega) rfl
  exact ⟨r, h1, by simpa using h2, h3⟩
theorem bs_append (a b : ByteArray) : bs (a ++ b) = bs a ++ bs b := by
  unfold bs; simp [ByteArray.data_append]
theorem size_append (a b : ByteArray) : (a ++ b).size = a.size + b.size := by simp
theorem chain_ref_ev (n : W) (s : ByteArray) (hs : s.size < 9223372036854775000) : Ev (fun k => sawmillref04_Chain.f k (wI n) s) (wI (chainW n (bs s))) := by
  obtain ⟨r, h1, h2, h3⟩ := bytes_ev n
  refine Ev.bind h1 ?_
  have hle : r.size + s.size ≤ 9223372036854775807 := by omega
  simp only [hle, if_true]
  have := hash_ref_ev (r ++ s) (by rw [size_append]; omega)
  rw [bs_append, h2] at this
  exact Ev.bind this (Ev.now _)
theorem of_wf64 {a : Int} (h : (Lit.int .u64 a).wf = true) : ∃ n : W, a = wI n := by
  have : 0 ≤ a ∧ a ≤ 18446744073709551615 := by simpa [Lit.wf, IntKind.min, IntKind.max, IntKind.signed, IntKind.bits] using h
  refine ⟨BitVec.ofNat 64 a.toNat, ?_⟩
  unfold wI
  rw [BitVec.toNat_ofNat]
  omega
theorem SumsHashes : sawmilllaw04_SumsHashes.Pure := by
  intro p s hp hs
  obtain ⟨n, rfl⟩ := of_wf64 hp
  suffices h : Ev (fun k => sawmilllaw04_SumsHashes.f k (wI n) s) true from h.rounds
  refine Ev.bind (Ev.now _) ?_
  by_cases h : (s.size : Int) ≤ 1000
  · simp only [h, decide_true, if_true]
    refine Ev.bind (hash_ev s (by omega)) (Ev.bind (hash_ref_ev s (by omega)) ?_)
    simp only [if_true]
    refine Ev.bind (chain_ev n s (by omega)) (Ev.bind (chain_ref_ev n s (by omega)) ?_)
    simp only [if_true]
    exact Ev.bind awake_ev (Ev.now _)
  · simp only [h, decide_false, Bool.false_eq_true, if_false]
    exact Ev.bind awake_ev (Ev.now _)

/-! ### Hexadecimal digits -/
def hexD (d : Nat) : Nat := if d < 10 then 48 + d else 87 + d
theorem hexD_bt (d : Nat) (h : d < 16) : bt (⟨#[48, 49, 50, 51, 52, 53, 54, 55, 56, 57, 97, 98, 99, 100, 101, 102]⟩ : ByteArray) (d : Int) = (hexD d : Int) := by
  have : ∀ d : Fin 16, bt (⟨#[48, 49, 50, 51, 52, 53, 54, 55, 56, 57, 97, 98, 99, 100, 101, 102]⟩ : ByteArray) (d.val : Int) = (hexD d.val : Int) := by decide +kernel
  exact this ⟨d, h⟩
theorem hexD_lt (d : Nat) (h : d < 16) : hexD d < 256 := by unfold hexD; split <;> omega
/-- So many digits of a number, the most significant one first. -/
def hexN (n : Nat) : Nat → List Nat
  | 0 => []
  | c + 1 => hexN (n / 16) c ++ [hexD (n % 16)]
theorem hexN_length (n c : Nat) : (hexN n c).length = c := by
  induction c generalizing n with
  | zero => rfl
  | succ c ih => simp [hexN, ih]
theorem hexN_head (n c : Nat) : hexN n (c + 1) = hexD (n / 16 ^ c % 16) :: hexN n c := by
  induction c generalizing n with
  | zero => simp [hexN]
  | succ c ih =>
    rw [hexN, ih (n / 16), List.cons_append]
    congr 1
    rw [Nat.div_div_eq_div_mul]
    congr 3
    rw [Nat.pow_succ, Nat.mul_comm]
def hexI (n c : Nat) : List Int := (hexN n c).map fun x : Nat => (x : Int)
def hexS (n c : Nat) : ByteArray := strOfNums (hexI n c)
theorem hexS_size (n c : Nat) : (hexS n c).size = c := by rw [hexS, strOfNums_size, hexI, List.length_map, hexN_length]
theorem wI_and15 (n : W) : Go.bits .and .u64 (wI n) 15 = ((n.toNat % 16 : Nat) : Int) := by
  unfold wI
  have h := u64_and_nat n.toNat 15 n.isLt (by omega)
  rw [show ((15 : Nat) : Int) = (15 : Int) from rfl] at h
  rw [h, show (15 : Nat) = 2 ^ 4 - 1 from rfl, Nat.and_two_pow_sub_one_eq_mod]
theorem wI_div16 (n : W) : wI n / (16 : Int) = wI (n >>> 4) := by
  unfold wI
  rw [BitVec.toNat_ushiftRight, Nat.shiftRight_eq_div_pow]
  simp
theorem shr4_toNat (n : W) : (n >>> 4).toNat = n.toNat / 16 := by rw [BitVec.toNat_ushiftRight, Nat.shiftRight_eq_div_pow]
theorem set_last (i : Nat) (d : Int) (suf : List Int) : (List.replicate (i + 1) (0 : Int) ++ suf).set i d = List.replicate i 0 ++ (d :: suf) := by
  rw [List.replicate_succ']
  rw [List.append_assoc, List.set_append_right _ _ (by simp)]
  simp
theorem hex_l0 : ∀ (i : Nat) (n : W) (suf : List Int), i ≤ 16 → Ev (fun k => sums_hex.l0 k (wI n) (List.replicate i 0 ++ suf) ((i : Int) - 1)) (strOfNums (hexI n.toNat i ++ suf)) := by
  intro i
  induction i with
  | zero =>
    intro n suf _
    refine Ev.step (f := fun _ => some (strOfNums (hexI n.toNat 0 ++ suf))) (fun k => ?_) (Ev.now _)
    simp only [sums_hex.l0]; rw [if_neg (by omega)]; rfl
  | succ i ih =>
    intro n suf hi
    have hd : n.toNat % 16 < 16 := Nat.mod_lt _ (by omega)
    refine Ev.step (f := fun k => sums_hex.l0 k (wI (n >>> 4)) (List.replicate i 0 ++ ((hexD (n.toNat % 16) : Int) :: suf)) ((i : Int) - 1)) (fun k => ?_) ?_
    · simp only [sums_hex.l0]
      rw [wI_and15, if_pos (by omega), if_pos (by omega), if_pos (by omega), if_pos (by omega), if_pos (by simp; omega), hexD_bt _ hd, wI_div16,
        show (((i + 1 : Nat) : Int) - 1).toNat = i from by omega, set_last, show wrap64 (((i + 1 : Nat) : Int) - 1 - 1) = (i : Int) - 1 from by unfold wrap64; omega]
    · have := ih (n >>> 4) ((hexD (n.toNat % 16) : Int) :: suf) (by omega)
      rw [shr4_toNat] at this
      simpa [hexI, hexN] using this
theorem hex_ev (n : W) (c : Nat) (hc : c ≤ 16) : Ev (fun k => sums_hex.f k (wI n) (c : Int)) (hexS n.toNat c) := by
  have h := hex_l0 c n [] hc
  simp only [List.append_nil] at h
  refine Ev.congr (fun k => ?_) h
  simp only [sums_hex.f]
  rw [if_pos (by omega), if_pos (by omega), Int.toNat_natCast, show wrap64 ((c : Int) - 1) = (c : Int) - 1 from by unfold wrap64; omega]
theorem Hex_ev (n : W) : Ev (fun k => sums_Hex.f k (wI n)) (hexS n.toNat 16) := Ev.bind (hex_ev n 16 (by omega)) (Ev.now _)
theorem shr_four (n : W) (i : Nat) (hi : i < 16) : Int.tmod (shr .u64 (wI n) ((4 * i : Nat) : Int)) 16 = ((n.toNat / 16 ^ i % 16 : Nat) : Int) := by
  unfold shr wI
  rw [show min (((4 * i : Nat) : Int)).toNat IntKind.u64.bits = 4 * i from by simp [IntKind.bits]; omega]
  rw [show ((2 : Int) ^ (4 * i)) = ((16 ^ i : Nat) : Int) from by rw [Int.pow_mul]; norm_cast]
  rw [← Int.natCast_ediv]
  generalize n.toNat / 16 ^ i = q
  rw [Int.tmod_eq_emod_of_nonneg (by omega)]
  omega
theorem digits_l0 (n : W) : ∀ (i : Nat) (acc : List Int), i ≤ 16 → acc.length + i ≤ 100 →
    Ev (fun k => sawmillref04_digits.l0 k (wI n) (⟨#[48, 49, 50, 51, 52, 53, 54, 55, 56, 57, 97, 98, 99, 100, 101, 102]⟩ : ByteArray) acc ((i : Int) - 1)) (strOfNums (acc ++ hexI n.toNat i)) := by
  intro i
  induction i with
  | zero =>
    intro acc _ _
    refine Ev.step (f := fun _ => some (strOfNums (acc ++ hexI n.toNat 0))) (fun k => ?_) (Ev.now _)
    simp only [sawmillref04_digits.l0]; rw [if_neg (by omega)]; simp [hexI, hexN]
  | succ i ih =>
    intro acc hi hl
    have hd : n.toNat / 16 ^ i % 16 < 16 := Nat.mod_lt _ (by omega)
    have hsh : IntKind.u64.wrap (wrap64 (4 * (((i + 1 : Nat) : Int) - 1))) = ((4 * i : Nat) : Int) := by
      rw [IntKind.wrap_u64]; unfold wrap64; omega
    · refine Ev.step (f := fun k => sawmillref04_digits.l0 k (wI n) (⟨#[48, 49, 50, 51, 52, 53, 54, 55, 56, 57, 97, 98, 99, 100, 101, 102]⟩ : ByteArray) (acc ++ [(hexD (n.toNat / 16 ^ i % 16) : Int)]) ((i : Int) - 1)) (fun k => ?_) ?_
      · simp only [sawmillref04_digits.l0]
        rw [if_pos (by omega), hsh, if_pos (by omega), shr_four n i (by omega), if_pos (by omega), if_pos (show ((n.toNat / 16 ^ i % 16 : Nat) : Int) < (((⟨#[48, 49, 50, 51, 52, 53, 54, 55, 56, 57, 97, 98, 99, 100, 101, 102]⟩ : ByteArray).size : Nat) : Int) from (show ((n.toNat / 16 ^ i % 16 : Nat) : Int) < (16 : Int) from by omega)), if_pos (by omega), hexD_bt _ hd, show wrap64 (((i + 1 : Nat) : Int) - 1 - 1) = (i : Int) - 1 from by unfold wrap64; omega]
      · have := ih (acc ++ [(hexD (n.toNat / 16 ^ i % 16) : Int)]) (by omega) (by simp; omega)
        rw [hexI, hexN_head]
        simpa [hexI] using this
theorem digits_ev (n : W) (c : Nat) (hc : c ≤ 16) : Ev (fun k => sawmillref04_digits.f k (wI n) (c : Int)) (hexS n.toNat c) := by
  have h := digits_l0 n c [] hc (by simp; omega)
  simp only [List.nil_append] at h
  refine Ev.congr (fun k => ?_) h
  simp only [sawmillref04_digits.f]
  rw [show wrap64 ((c : Int) - 1) = (c : Int) - 1 from by unfold wrap64; omega]
theorem Hex_ref_ev (n : W) : Ev (fun k => sawmillref04_Hex.f k (wI n)) (hexS n.toNat 16) := Ev.bind (digits_ev n 16 (by omega)) (Ev.now _)

/-! ### Number -/
/-- The value of a digit, if it is one. -/
def hexV (c : Nat) : Option Nat := if 48 ≤ c ∧ c ≤ 57 then some (c - 48) else if 97 ≤ c ∧ c ≤ 102 then some (c - 87) else none
theorem hexV_lt {c d : Nat} (h : hexV c = some d) : d < 16 := by
  unfold hexV at h
  split at h
  · injection h with h; omega
  · split at h
    · injection h with h; omega
    · cases h
theorem hexV_D {d : Nat} (h : d < 16) : hexV (hexD d) = some d := by
  unfold hexV hexD
  by_cases h1 : d < 10
  · rw [if_pos h1, if_pos (by omega)]; congr 1; omega
  · rw [if_neg h1, if_neg (by omega), if_pos (by omega)]; congr 1; omega
theorem hexD_V {c d : Nat} (h : hexV c = some d) : hexD d = c := by
  unfold hexV at h
  unfold hexD
  split at h
  · injection h with h; rw [if_pos (by omega)]; omega
  · split at h
    · injection h with h; rw [if_neg (by omega)]; omega
    · cases h
/-- The number that digits denote, behind those that were read; none if one is no digit. -/
def val : List Nat → Nat → Option Nat
  | [], n => some n
  | c :: l, n => (hexV c).bind fun d => val l (n * 16 % 18446744073709551616 + d)
def numOf (l : List Nat) (n : Nat) : Int × Int := match val l n with | some v => ((v : Int), 0) | none => (0, 5)
def cs (s : ByteArray) : List Nat := s.data.toList.map UInt8.toNat
theorem cs_length (s : ByteArray) : (cs s).length = s.size := by simp [cs]
theorem or_digit (n d : Nat) (hn : n < 18446744073709551616) (hd : d < 16) : Go.bits .or .u64 (IntKind.u64.wrap ((n : Int) * 16)) (d : Int) = ((n * 16 % 18446744073709551616 + d : Nat) : Int) := by
  have e : IntKind.u64.wrap ((n : Int) * 16) = ((n * 16 % 18446744073709551616 : Nat) : Int) := by rw [IntKind.wrap_u64]; omega
  rw [e, u64_or_nat _ _ (Nat.mod_lt _ (by omega)) (by omega)]
  congr 1
  have e2 : n * 16 % 18446744073709551616 = (n % 1152921504606846976) * 2 ^ 4 := by omega
  rw [e2, Nat.mul_comm, Nat.two_pow_add_eq_or_of_lt (by omega)]
theorem numl_of : ∀ (l : List UInt8) (n : Nat), n < 18446744073709551616 → sums_Number.l l (n : Int) = numOf (l.map UInt8.toNat) n
  | [], n, _ => rfl
  | c :: l, n, hn => by
    by_cases h1 : 48 ≤ c.toNat ∧ c.toNat ≤ 57
    · have hv : hexV c.toNat = some (c.toNat - 48) := by unfold hexV; rw [if_pos h1]
      rw [Number.l_digit c l _ (by omega) (by omega), show ((c.toNat : Int) - 48) = ((c.toNat - 48 : Nat) : Int) from by omega, or_digit n _ hn (by omega), numl_of l _ (by omega)]
      simp [numOf, val, hv]
    · by_cases h2 : 97 ≤ c.toNat ∧ c.toNat ≤ 102
      · have hv : hexV c.toNat = some (c.toNat - 87) := by unfold hexV; rw [if_neg h1, if_pos h2]
        rw [Number.l_letter c l _ (by omega) (by omega), show ((c.toNat : Int) - 97 + 10) = ((c.toNat - 87 : Nat) : Int) from by omega, or_digit n _ hn (by omega), numl_of l _ (by omega)]
        simp [numOf, val, hv]
      · have hv : hexV c.toNat = none := by unfold hexV; rw [if_neg h1, if_neg h2]
        rw [Number.l_bad c l _ (by omega) (by omega)]
        simp [numOf, val, hv]
def NumR (s : ByteArray) : Int × Int := if (s.size : Int) < 16 then (0, 3) else if (s.size : Int) > 16 then (0, 4) else numOf (cs s) 0
theorem number_val (s : ByteArray) : sums_Number.f s = some (NumR s) := by
  unfold sums_Number.f NumR
  split
  · rfl
  · split
    · rfl
    · have := numl_of s.data.toList 0 (by omega)
      rw [show ((0 : Nat) : Int) = (0 : Int) from rfl] at this
      rw [this]; rfl
theorem bt_cs (s : ByteArray) (i : Nat) (h : i < s.size) : bt s (i : Int) = (((cs s)[i]'(by rw [cs_length]; exact h)) : Int) := by
  unfold bt cs
  have h' : (i : Int).toNat < s.size := by omega
  rw [dif_pos h']
  simp
  rfl
theorem cs_drop (s : ByteArray) (i : Nat) (h : i < s.size) : (cs s).drop i = (cs s)[i]'(by rw [cs_length]; exact h) :: (cs s).drop (i + 1) :=
  List.drop_eq_getElem_cons (by rw [cs_length]; exact h)
theorem cs_mem (s : ByteArray) (c : Nat) (h : c ∈ cs s) : c < 256 := by
  unfold cs at h
  obtain ⟨b, _, rfl⟩ := List.mem_map.1 h
  exact UInt8.toNat_lt _
theorem cs_lt (s : ByteArray) (i : Nat) (h : i < (cs s).length) : (cs s)[i] < 256 := cs_mem s _ (List.getElem_mem h)
theorem plus_digit (n d : Nat) (hn : n < 18446744073709551616) (hd : d < 16) : IntKind.u64.wrap (IntKind.u64.wrap ((n : Int) * 16) + (d : Int)) = ((n * 16 % 18446744073709551616 + d : Nat) : Int) := by
  rw [IntKind.wrap_u64, IntKind.wrap_u64]; omega
theorem num_ref_l0 (s : ByteArray) (hs : s.size < 9223372036854775808) : ∀ (d i n : Nat), n < 18446744073709551616 → i + d = s.size → Ev (fun k => sawmillref04_Number.l0 k s (n : Int) (i : Int)) (numOf ((cs s).drop i) n) := by
  intro d
  induction d with
  | zero =>
    intro i n hn hi
    refine Ev.step (f := fun _ => some (numOf ((cs s).drop i) n)) (fun k => ?_) (Ev.now _)
    simp only [sawmillref04_Number.l0]; rw [if_neg (by omega), List.drop_of_length_le (by rw [cs_length]; omega)]; rfl
  | succ d ih =>
    intro i n hn hi
    have hlt : i < s.size := by omega
    have hlt' : i < (cs s).length := by rw [cs_length]; exact hlt
    rw [cs_drop s i hlt]
    have hb := bt_cs s i hlt
    have hc := cs_lt s i hlt'
    generalize (cs s)[i] = c at *
    have hw : wrap64 ((i : Int) + 1) = ((i + 1 : Nat) : Int) := by unfold wrap64; omega
    by_cases h1 : 48 ≤ c ∧ c ≤ 57
    · have hv : hexV c = some (c - 48) := by unfold hexV; rw [if_pos h1]
      refine Ev.step (f := fun k => sawmillref04_Number.j1 k s n i (c : Int) true) (fun k => ?_) ?_
      · simp only [sawmillref04_Number.l0]; rw [if_pos (by omega), if_pos (by omega), hb, if_pos (by omega), decide_eq_true (by omega)]
      refine Ev.step (f := fun k => sawmillref04_Number.l0 k s ((n * 16 % 18446744073709551616 + (c - 48) : Nat) : Int) ((i + 1 : Nat) : Int)) (fun k => ?_) ?_
      · simp only [sawmillref04_Number.j1, if_true]; rw [show ((c : Int) - 48) % 256 = ((c - 48 : Nat) : Int) from by omega, plus_digit n _ hn (by omega), hw]
      · have := ih (i + 1) (n * 16 % 18446744073709551616 + (c - 48)) (by omega) (by omega)
        rw [show numOf (c :: (cs s).drop (i + 1)) n = numOf ((cs s).drop (i + 1)) (n * 16 % 18446744073709551616 + (c - 48)) from by simp [numOf, val, hv]]
        exact this
    · have hj : Ev (fun k => sawmillref04_Number.j1 k s n i (c : Int) false) (numOf (c :: (cs s).drop (i + 1)) n) := by
        by_cases h2 : 97 ≤ c ∧ c ≤ 102
        · have hv : hexV c = some (c - 87) := by unfold hexV; rw [if_neg h1, if_pos h2]
          refine Ev.step (f := fun k => sawmillref04_Number.l0 k s ((n * 16 % 18446744073709551616 + (c - 87) : Nat) : Int) ((i + 1 : Nat) : Int)) (fun k => ?_) ?_
          · simp only [sawmillref04_Number.j1]; rw [if_neg (by simp), if_pos (by omega), if_pos (by omega), show ((c : Int) - 97) % 256 + 10 = ((c - 87 : Nat) : Int) from by omega, plus_digit n _ hn (by omega), hw]
          · have := ih (i + 1) (n * 16 % 18446744073709551616 + (c - 87)) (by omega) (by omega)
            rw [show numOf (c :: (cs s).drop (i + 1)) n = numOf ((cs s).drop (i + 1)) (n * 16 % 18446744073709551616 + (c - 87)) from by simp [numOf, val, hv]]
            exact this
        · have hv : hexV c = none := by unfold hexV; rw [if_neg h1, if_neg h2]
          refine Ev.step (f := fun _ => some (numOf (c :: (cs s).drop (i + 1)) n)) (fun k => ?_) (Ev.now _)
          rw [show numOf (c :: (cs s).drop (i + 1)) n = (0, 5) from by simp [numOf, val, hv]]
          simp only [sawmillref04_Number.j1]; rw [if_neg (by simp)]
          by_cases h3 : (c : Int) ≥ 97
          · rw [if_pos h3, if_neg (by omega)]
          · rw [if_neg h3]
      refine Ev.step (f := fun k => sawmillref04_Number.j1 k s n i (c : Int) false) (fun k => ?_) hj
      simp only [sawmillref04_Number.l0]; rw [if_pos (by omega), if_pos (by omega), hb]
      by_cases h3 : (c : Int) ≥ 48
      · rw [if_pos h3, decide_eq_false (by omega)]
      · rw [if_neg h3]
theorem num_ref_ev (s : ByteArray) (hs : s.size < 9223372036854775808) : Ev (fun k => sawmillref04_Number.f k s) (NumR s) := by
  by_cases h0 : (s.size : Int) < 16
  · refine Ev.congr (f := fun _ => some (NumR s)) (fun k => ?_) (Ev.now _)
    simp only [sawmillref04_Number.f, NumR]; rw [if_pos h0, if_pos h0]
  · by_cases h1 : (s.size : Int) > 16
    · refine Ev.congr (f := fun _ => some (NumR s)) (fun k => ?_) (Ev.now _)
      simp only [sawmillref04_Number.f, NumR]; rw [if_neg h0, if_pos h1, if_neg h0, if_pos h1]
    · have := num_ref_l0 s hs s.size 0 0 (by omega) (by omega)
      refine Ev.congr (f := fun k => sawmillref04_Number.l0 k s ((0 : Nat) : Int) ((0 : Nat) : Int)) (fun k => ?_) ?_
      · simp only [sawmillref04_Number.f]; rw [if_neg h0, if_neg h1]; rfl
      · rw [show NumR s = numOf ((cs s).drop 0) 0 from by unfold NumR; rw [if_neg h0, if_neg h1, List.drop_zero]]
        exact this
theorem SumsDigits : sawmilllaw04_SumsDigits.Pure := by
  intro n s hn hs
  obtain ⟨n, rfl⟩ := of_wf64 hn
  suffices h : Ev (fun k => sawmilllaw04_SumsDigits.f k (wI n) s) true from h.rounds
  refine Ev.bind (Ev.now _) ?_
  by_cases h : (s.size : Int) ≤ 1000
  · simp only [h, decide_true, if_true]
    refine Ev.bind (Ev.congr (fun _ => number_val s) (Ev.now _)) (Ev.bind (num_ref_ev s (by omega)) (Ev.bind (Hex_ev n) (Ev.bind (Hex_ref_ev n) ?_)))
    simp only [if_true]
    exact Ev.bind awake_ev (Ev.now _)
  · simp only [h, decide_false, Bool.false_eq_true, if_false]
    exact Ev.bind awake_ev (Ev.now _)

/-! ### Seal and Open -/
theorem wrap_cI (c : B) : IntKind.u64.wrap (cI c) = wI (c.setWidth 64) := by
  rw [IntKind.wrap_u64]; unfold cI wI
  rw [BitVec.toNat_setWidth]
  have := c.isLt
  omega
/-- The eight digits of a string's checksum. -/
def tail8 (s : ByteArray) : ByteArray := hexS ((crcB s).setWidth 64).toNat 8
def sealS (s : ByteArray) : ByteArray := s ++ tail8 s
theorem tail8_size (s : ByteArray) : (tail8 s).size = 8 := hexS_size _ _
theorem sealS_size (s : ByteArray) : (sealS s).size = s.size + 8 := by rw [sealS, size_append, tail8_size]
theorem seal_ev (s : ByteArray) (hs : s.size < 9223372036854775000) : Ev (fun k => sums_Seal.f k s) (sealS s) := by
  refine Ev.bind (crc_ev s (by omega)) ?_
  simp only [wrap_cI]
  refine Ev.bind (hex_ev ((crcB s).setWidth 64) 8 (by omega)) ?_
  have h : s.size + (hexS ((crcB s).setWidth 64).toNat 8).size ≤ 9223372036854775807 := by rw [hexS_size]; omega
  simp only [h, if_true]
  exact Ev.now _
theorem seal_ref_ev (s : ByteArray) (hs : s.size < 9223372036854775000) : Ev (fun k => sawmillref04_Seal.f k s) (sealS s) := by
  refine Ev.bind (Ev.congr (fun k => crc_ref k s) (crc_ev s (by omega))) ?_
  simp only [wrap_cI]
  refine Ev.bind (digits_ev ((crcB s).setWidth 64) 8 (by omega)) ?_
  have h : s.size + (hexS ((crcB s).setWidth 64).toNat 8).size ≤ 9223372036854775807 := by rw [hexS_size]; omega
  simp only [h, if_true]
  exact Ev.now _
def OpenR (s : ByteArray) : ByteArray × Int :=
  if (s.size : Int) < 8 then (⟨#[]⟩, 3) else if sealS (s.extract 0 (s.size - 8)) = s then (s.extract 0 (s.size - 8), 0) else (⟨#[]⟩, 16)
theorem extract_size (s : ByteArray) (n : Nat) : (s.extract 0 n).size = min n s.size := by simp
theorem open_ev (s : ByteArray) (hs : s.size < 9223372036854775000) : Ev (fun k => sums_Open.f k s) (OpenR s) := by
  by_cases h0 : (s.size : Int) < 8
  · refine Ev.congr (f := fun _ => some (OpenR s)) (fun k => ?_) (Ev.now _)
    simp only [sums_Open.f, OpenR]; rw [if_pos h0, if_pos h0]
  · have hw : wrap64 ((s.size : Int) - 8) = ((s.size - 8 : Nat) : Int) := by unfold wrap64; omega
    have hx := seal_ev (s.extract 0 (s.size - 8)) (by rw [extract_size]; omega)
    refine Ev.congr (f := fun k => (sums_Seal.f k (s.extract 0 (s.size - 8))).bind fun t => if t.toList = s.toList then some (s.extract 0 (s.size - 8), 0) else some (⟨#[]⟩, 16)) (fun k => ?_) (Ev.bind hx ?_)
    · simp only [sums_Open.f]; rw [if_neg h0, hw, if_pos (by omega), if_pos (by omega), Int.toNat_natCast]
    · unfold OpenR
      rw [if_neg h0]
      simp only [toList_inj]
      by_cases he : sealS (s.extract 0 (s.size - 8)) = s
      · rw [if_pos he]; simp only [he, if_true]; exact Ev.now _
      · rw [if_neg he]; simp only [he, if_false]; exact Ev.now _
theorem open_ref_ev (s : ByteArray) (hs : s.size < 9223372036854775000) : Ev (fun k => sawmillref04_Open.f k s) (OpenR s) := by
  by_cases h0 : (s.size : Int) < 8
  · refine Ev.congr (f := fun _ => some (OpenR s)) (fun k => ?_) (Ev.now _)
    simp only [sawmillref04_Open.f, OpenR]; rw [if_pos (by unfold wrap64; omega), if_pos h0]
  · have hw : wrap64 ((s.size : Int) - 8) = ((s.size - 8 : Nat) : Int) := by unfold wrap64; omega
    have hx := seal_ref_ev (s.extract 0 (s.size - 8)) (by rw [extract_size]; omega)
    refine Ev.congr (f := fun k => (sawmillref04_Seal.f k (s.extract 0 (s.size - 8))).bind fun t => if t.toList = s.toList then some (s.extract 0 (s.size - 8), 0) else some (⟨#[]⟩, 16)) (fun k => ?_) (Ev.bind hx ?_)
    · simp only [sawmillref04_Open.f]; rw [hw, if_neg (by omega), if_pos (by omega), if_pos (by omega), Int.toNat_natCast]
    · unfold OpenR
      rw [if_neg h0]
      simp only [toList_inj]
      by_cases he : sealS (s.extract 0 (s.size - 8)) = s
      · rw [if_pos he]; simp only [he, if_true]; exact Ev.now _
      · rw [if_neg he]; simp only [he, if_false]; exact Ev.now _
theorem SumsSeals : sawmilllaw04_SumsSeals.Pure := by
  intro s hs
  suffices h : Ev (fun k => sawmilllaw04_SumsSeals.f k s) true from h.rounds
  refine Ev.bind (Ev.now _) ?_
  by_cases h : (s.size : Int) ≤ 1000
  · simp only [h, decide_true, if_true]
    refine Ev.bind (open_ev s (by omega)) (Ev.bind (open_ref_ev s (by omega)) (Ev.bind (seal_ev s (by omega)) (Ev.bind (seal_ref_ev s (by omega)) ?_)))
    simp only [if_true]
    exact Ev.bind awake_ev (Ev.now _)
  · simp only [h, decide_false, Bool.false_eq_true, if_false]
    exact Ev.bind awake_ev (Ev.now _)

/-! ### They invert each other -/
theorem open_seal (s : ByteArray) : OpenR (sealS s) = (s, 0) := by
  have e : (sealS s).extract 0 ((sealS s).size - 8) = s := by
    rw [sealS_size, Nat.add_sub_cancel, sealS]
    apply data_inj
    simp
    rw [List.take_of_length_le (by simp)]
  unfold OpenR
  rw [if_neg (by rw [sealS_size]; omega), e, if_pos rfl]
theorem val_append (l m : List Nat) : ∀ n, val (l ++ m) n = (val l n).bind (val m) := by
  induction l with
  | nil => intro n; rfl
  | cons c l ih => intro n; simp only [List.cons_append, val]; cases hexV c <;> simp [ih]
theorem val_hexN (c : Nat) : ∀ n, n < 16 ^ c → c ≤ 16 → val (hexN n c) 0 = some n := by
  induction c with
  | zero => intro n hn _; simp [hexN, val]; omega
  | succ c ih =>
    intro n hn hc
    have h1 : n / 16 < 16 ^ c := by rw [Nat.pow_succ] at hn; omega
    have h2 : (16 : Nat) ^ (c + 1) ≤ 16 ^ 16 := Nat.pow_le_pow_right (by omega) hc
    rw [hexN, val_append, ih _ h1 (by omega)]
    simp only [Option.bind_some, val, hexV_D (Nat.mod_lt n (by omega))]
    congr 1
    omega
theorem hexN_val : ∀ (l : List Nat) (v : Nat), l.length ≤ 16 → val l 0 = some v → hexN v l.length = l ∧ v < 16 ^ l.length := by
  intro l
  induction hl : l.length generalizing l with
  | zero => intro v _ h; obtain rfl := List.eq_nil_of_length_eq_zero hl; simp only [val, Option.some.injEq] at h; subst h; simp [hexN]
  | succ n ih =>
    intro v hn h
    obtain ⟨m, c, rfl⟩ : ∃ m c, l = m ++ [c] := ⟨l.dropLast, l.getLast (by intro e; rw [e] at hl; cases hl), (List.dropLast_concat_getLast _).symm⟩
    have hm : m.length = n := by simpa using hl
    rw [val_append] at h
    cases hv : val m 0 with
    | none => rw [hv] at h; cases h
    | some u =>
      rw [hv] at h
      simp only [Option.bind_some, val] at h
      cases hd : hexV c with
      | none => rw [hd] at h; cases h
      | some d =>
        rw [hd] at h
        simp only [Option.bind_some, Option.some.injEq] at h
        have hdl := hexV_lt hd
        obtain ⟨i1, i2⟩ := ih m hm u (by omega) hv
        have h2 : (16 : Nat) ^ n ≤ 16 ^ 15 := Nat.pow_le_pow_right (by omega) (by omega)
        have e : v = u * 16 + d := by omega
        subst e
        refine ⟨?_, by rw [Nat.pow_succ]; omega⟩
        rw [hexN, show (u * 16 + d) / 16 = u from by omega, show (u * 16 + d) % 16 = d from by omega, i1, hexD_V hd]
theorem hexN_mem (n c : Nat) (x : Nat) (hx : x ∈ hexN n c) : x < 256 := by
  induction c generalizing n with
  | zero => simp [hexN] at hx
  | succ c ih =>
    simp only [hexN, List.mem_append, List.mem_singleton] at hx
    rcases hx with hx | rfl
    · exact ih _ hx
    · exact hexD_lt _ (Nat.mod_lt _ (by omega))
theorem cs_hexS (n c : Nat) : cs (hexS n c) = hexN n c := by
  unfold cs hexS
  rw [strOfNums_data, hexI, List.map_map, List.map_map]
  conv => rhs; rw [← List.map_id (hexN n c)]
  apply List.map_congr_left
  intro x hx
  have : x < 256 := hexN_mem n c x hx
  simp
  omega
theorem cs_inj {a b : ByteArray} (h : cs a = cs b) : a = b := by
  apply data_inj
  unfold cs at h
  exact (List.map_inj_right (fun _ _ e => UInt8.toNat_inj.1 e)).1 h
theorem num_hex (n : W) : NumR (hexS n.toNat 16) = (wI n, 0) := by
  unfold NumR
  rw [hexS_size, if_neg (by omega), if_neg (by omega), cs_hexS]
  unfold numOf
  rw [val_hexN 16 n.toNat (by have := n.isLt; omega) (by omega)]
  rfl
theorem num_cases (s : ByteArray) : (∃ v : W, NumR s = (wI v, 0) ∧ hexS v.toNat 16 = s) ∨ ((NumR s).1 = 0 ∧ (NumR s).2 ≠ 0) := by
  unfold NumR
  by_cases h0 : (s.size : Int) < 16
  · rw [if_pos h0]; exact .inr ⟨rfl, by simp⟩
  · rw [if_neg h0]
    by_cases h1 : (s.size : Int) > 16
    · rw [if_pos h1]; exact .inr ⟨rfl, by simp⟩
    · rw [if_neg h1]
      unfold numOf
      cases hv : val (cs s) 0 with
      | none => exact .inr ⟨rfl, by simp⟩
      | some v =>
        have hl : (cs s).length = 16 := by rw [cs_length]; omega
        obtain ⟨h2, h3⟩ := hexN_val (cs s) v (by omega) hv
        rw [hl] at h2 h3
        have e : (BitVec.ofNat 64 v).toNat = v := by rw [BitVec.toNat_ofNat]; omega
        refine .inl ⟨BitVec.ofNat 64 v, ?_, ?_⟩
        · unfold wI; rw [e]
        · rw [e]; apply cs_inj; rw [cs_hexS]; exact h2
theorem open_cases (s : ByteArray) : (∃ b, OpenR s = (b, 0) ∧ sealS b = s ∧ b.size ≤ s.size) ∨ ((OpenR s).1 = ⟨#[]⟩ ∧ (OpenR s).2 ≠ 0) := by
  unfold OpenR
  split
  · exact .inr ⟨rfl, by simp⟩
  · split
    · rename_i h
      exact .inl ⟨_, rfl, h, by rw [extract_size]; omega⟩
    · exact .inr ⟨rfl, by simp⟩
theorem back_j0 (s : ByteArray) (hs : s.size ≤ 1000) : Ev (fun k => sawmilllaw04_SumsBack.j0 k s (NumR s).1 (NumR s).2 (OpenR s).1 (OpenR s).2 false) true := by
  have hopen : Ev (fun k => if (OpenR s).2 = 0 then ((sums_Seal.f k (OpenR s).1).bind fun t => if t.toList = s.toList then ((sawmilllaw04_awake.f k).bind fun t => some t) else some false)
      else (if (OpenR s).1.toList = ([] : List UInt8) then ((sawmilllaw04_awake.f k).bind fun t => some t) else some false)) true := by
    rcases open_cases s with ⟨b, h1, h2, h3⟩ | ⟨h1, h2⟩
    · rw [h1]
      simp only [if_true]
      refine Ev.bind (seal_ev b (by omega)) ?_
      rw [h2]
      simp only [if_true]
      exact Ev.bind awake_ev (Ev.now _)
    · simp only [h1, h2, if_false]
      have : (⟨#[]⟩ : ByteArray).toList = [] := ByteArray.toList_eq _
      simp only [this, if_true]
      exact Ev.bind awake_ev (Ev.now _)
  rcases num_cases s with ⟨v, h1, h2⟩ | ⟨h1, h2⟩
  · rw [h1]
    refine Ev.step (fun k => by simp only [sawmilllaw04_SumsBack.j0, Bool.false_eq_true, if_false, if_true]; rfl) ?_
    refine Ev.bind (Hex_ev v) ?_
    rw [h2]
    simp only [if_true]
    exact hopen
  · refine Ev.step (fun k => by simp only [sawmilllaw04_SumsBack.j0, Bool.false_eq_true, if_false, h1, h2, if_true]; rfl) ?_
    exact hopen
theorem SumsBack : sawmilllaw04_SumsBack.Pure := by
  intro n s hn hs
  obtain ⟨n, rfl⟩ := of_wf64 hn
  suffices h : Ev (fun k => sawmilllaw04_SumsBack.f k (wI n) s) true from h.rounds
  refine Ev.bind (Ev.now _) ?_
  by_cases h : (s.size : Int) ≤ 1000
  · simp only [h, decide_true, if_true]
    refine Ev.bind (Hex_ev n) (Ev.bind (Ev.congr (fun _ => number_val _) (Ev.now _)) (Ev.bind (Ev.congr (fun _ => number_val s) (Ev.now _)) (Ev.bind (seal_ev s (by omega)) (Ev.bind (open_ev (sealS s) (by rw [sealS_size]; omega)) (Ev.bind (open_ev s (by omega)) ?_)))))
    rw [num_hex, open_seal]
    simp only [if_true, bne_self_eq_false]
    exact back_j0 s (by omega)
  · simp only [h, decide_false, Bool.false_eq_true, if_false]
    exact Ev.bind awake_ev (Ev.now _)
end Go.Proofs.Ytgjcahmddhladaa.Plain
