/- The checksum CRC-32 over bit vectors: its register is linear, and a burst of up to four bytes changes it. Plain bit vectors, no program. -/
set_option linter.unusedSimpArgs false
namespace Go.Proofs.Ytgjcahmddhladaa.CrcLaw
abbrev B := BitVec 32
def poly : B := 0xedb88320#32
def cstep (c : B) : B := (c >>> 1) ^^^ (if c.getLsbD 0 then poly else 0#32)
theorem cstep_xor (a b : B) : cstep (a ^^^ b) = cstep a ^^^ cstep b := by
  unfold cstep
  rw [BitVec.ushiftRight_xor_distrib, BitVec.getLsbD_xor]
  apply BitVec.eq_of_getLsbD_eq
  intro i _
  cases a.getLsbD 0 <;> cases b.getLsbD 0 <;> simp [BitVec.getLsbD_xor] <;> cases (a >>> 1).getLsbD i <;> cases (b >>> 1).getLsbD i <;> cases poly.getLsbD i <;> simp_all
theorem cstep_zero : cstep 0#32 = 0#32 := by decide
theorem cstep_ne {x : B} (h : x ≠ 0#32) : cstep x ≠ 0#32 := by
  intro he
  apply h
  unfold cstep at he
  by_cases h0 : x.getLsbD 0 = true
  · rw [if_pos h0] at he
    have := congrArg (fun y : B => y.getLsbD 31) he
    simp [poly] at this
  · rw [if_neg h0] at he
    simp only [BitVec.xor_zero] at he
    apply BitVec.eq_of_getLsbD_eq
    intro i hi
    rcases i with _ | i
    · simpa using h0
    · have := congrArg (fun y : B => y.getLsbD i) he
      simp only [BitVec.getLsbD_ushiftRight, BitVec.getLsbD_zero] at this
      rw [Nat.add_comm] at this
      simpa using this
def F8 (c : B) : B := cstep (cstep (cstep (cstep (cstep (cstep (cstep (cstep c)))))))
theorem F8_xor (a b : B) : F8 (a ^^^ b) = F8 a ^^^ F8 b := by simp only [F8, cstep_xor]
theorem F8_zero : F8 0#32 = 0#32 := by decide
theorem F8_ne {x : B} (h : x ≠ 0#32) : F8 x ≠ 0#32 := by
  unfold F8
  exact cstep_ne (cstep_ne (cstep_ne (cstep_ne (cstep_ne (cstep_ne (cstep_ne (cstep_ne h)))))))
theorem cstep_even (x : B) (h : x.toNat < 2 ^ 31) : cstep (x <<< 1) = x := by
  unfold cstep
  have h0 : (x <<< 1).getLsbD 0 = false := by simp
  rw [h0]
  simp only [Bool.false_eq_true, if_false, BitVec.xor_zero]
  apply BitVec.eq_of_toNat_eq
  simp [BitVec.toNat_ushiftRight, BitVec.toNat_shiftLeft, Nat.shiftLeft_eq, Nat.shiftRight_eq_div_pow]
  omega
theorem shl_shl (x : B) (n m : Nat) : x <<< n <<< m = x <<< (n + m) := by rw [BitVec.shiftLeft_add]
theorem F8_shl (x : B) (h : x.toNat < 2 ^ 24) : F8 (x <<< 8) = x := by
  have e : ∀ k, k < 8 → (x <<< k).toNat < 2 ^ 31 := by
    intro k hk
    rw [BitVec.toNat_shiftLeft, Nat.shiftLeft_eq]
    have : 2 ^ k ≤ 2 ^ 7 := Nat.pow_le_pow_right (by omega) (by omega)
    have h1 : x.toNat * 2 ^ k ≤ x.toNat * 2 ^ 7 := Nat.mul_le_mul_left _ this
    have := Nat.mod_le (x.toNat * 2 ^ k) (2 ^ 32)
    omega
  unfold F8
  have s : ∀ k, k < 8 → cstep (x <<< (k + 1)) = x <<< k := by
    intro k hk
    rw [← shl_shl]
    exact cstep_even _ (e k hk)
  rw [s 7 (by omega), s 6 (by omega), s 5 (by omega), s 4 (by omega), s 3 (by omega), s 2 (by omega), s 1 (by omega), s 0 (by omega)]
  simp
/-- the register behind a list of bytes -/
def crun (c : B) (l : List (BitVec 8)) : B := l.foldl (fun c b => F8 (c ^^^ b.setWidth 32)) c
end Go.Proofs.Ytgjcahmddhladaa.CrcLaw
namespace Go.Proofs.Ytgjcahmddhladaa.CrcLaw
theorem crun_append (c : B) (l m : List (BitVec 8)) : crun c (l ++ m) = crun (crun c l) m := by simp [crun, List.foldl_append]
theorem crun_cons (c : B) (x : BitVec 8) (l : List (BitVec 8)) : crun c (x :: l) = crun (F8 (c ^^^ x.setWidth 32)) l := rfl
theorem setWidth_xor8 (x y : BitVec 8) : (x ^^^ y).setWidth 32 = x.setWidth 32 ^^^ y.setWidth 32 := by
  apply BitVec.eq_of_getLsbD_eq; intro i _; simp [BitVec.getLsbD_setWidth]
theorem xor4 (a b c d : B) : (a ^^^ b) ^^^ (c ^^^ d) = (a ^^^ c) ^^^ (b ^^^ d) := by
  apply BitVec.eq_of_getLsbD_eq; intro i _; simp only [BitVec.getLsbD_xor]
  cases a.getLsbD i <;> cases b.getLsbD i <;> cases c.getLsbD i <;> cases d.getLsbD i <;> rfl
/-- the register is linear -/
theorem crun_xor : ∀ (l m : List (BitVec 8)) (a b : B), l.length = m.length → crun (a ^^^ b) (List.zipWith (· ^^^ ·) l m) = crun a l ^^^ crun b m
  | [], [], _, _, _ => by simp [crun]
  | x :: l, y :: m, a, b, h => by
    simp only [List.zipWith_cons_cons, crun_cons]
    rw [setWidth_xor8, xor4, F8_xor]
    exact crun_xor l m _ _ (by simpa using h)
theorem crun_zeros (n : Nat) : ∀ c : B, c ≠ 0#32 → crun c (List.replicate n 0#8) ≠ 0#32 := by
  induction n with
  | zero => intro c h; simpa [crun] using h
  | succ n ih =>
    intro c h
    rw [List.replicate_succ, crun_cons]
    exact ih _ (F8_ne (by simpa using h))
theorem crun_zero_zeros (n : Nat) : crun 0#32 (List.replicate n 0#8) = 0#32 := by
  induction n with
  | zero => rfl
  | succ n ih =>
    rw [List.replicate_succ, crun_cons]
    have : F8 (0#32 ^^^ (0#8).setWidth 32) = 0#32 := by decide
    rw [this]; exact ih
/-- a burst: up to four bytes -/
theorem crun_burst (a b c d : BitVec 8) (h : ¬ (a = 0 ∧ b = 0 ∧ c = 0 ∧ d = 0)) : crun 0#32 [a, b, c, d] ≠ 0#32 := by
  have e : crun 0#32 [a, b, c, d] = F8 (F8 (F8 (F8 (a.setWidth 32 ^^^ b.setWidth 32 <<< 8 ^^^ c.setWidth 32 <<< 16 ^^^ d.setWidth 32 <<< 24)))) := by
    have lt8 : ∀ x : BitVec 8, (x.setWidth 32).toNat < 2 ^ 8 := by intro x; rw [BitVec.toNat_setWidth]; have := x.isLt; omega
    have p : ∀ (x : BitVec 8) (k : Nat), k ≤ 16 → F8 (x.setWidth 32 <<< (k + 8)) = x.setWidth 32 <<< k := by
      intro x k hk
      rw [← shl_shl]
      apply F8_shl
      rw [BitVec.toNat_shiftLeft, Nat.shiftLeft_eq]
      have h1 := lt8 x
      have h2 : 2 ^ k ≤ 2 ^ 16 := Nat.pow_le_pow_right (by omega) hk
      have h3 : (x.setWidth 32).toNat * 2 ^ k ≤ (x.setWidth 32).toNat * 2 ^ 16 := Nat.mul_le_mul_left _ h2
      have := Nat.mod_le ((x.setWidth 32).toNat * 2 ^ k) (2 ^ 32)
      omega
    simp only [crun, List.foldl_cons, List.foldl_nil, F8_xor, BitVec.zero_xor, F8_zero]
    rw [p b 0 (by omega), p c 8 (by omega), p d 16 (by omega), p c 0 (by omega), p d 8 (by omega), p d 0 (by omega)]
    simp
  rw [e]
  apply F8_ne; apply F8_ne; apply F8_ne; apply F8_ne
  intro hz
  apply h
  have bit : ∀ (i : Nat), i < 32 → (a.setWidth 32 ^^^ b.setWidth 32 <<< 8 ^^^ c.setWidth 32 <<< 16 ^^^ d.setWidth 32 <<< 24).getLsbD i = false := by
    intro i _; rw [hz]; simp
  simp only [BitVec.getLsbD_xor, BitVec.getLsbD_shiftLeft, BitVec.getLsbD_setWidth] at bit
  have ge : ∀ (x : BitVec 8) (k : Nat), 8 ≤ k → x.getLsbD k = false := fun x k hk => BitVec.getLsbD_of_ge _ _ hk
  have dt : ∀ (p : Prop) [Decidable p], p → decide p = true := fun p _ hp => decide_eq_true hp
  have df : ∀ (p : Prop) [Decidable p], ¬ p → decide p = false := fun p _ hp => decide_eq_false hp
  refine ⟨?_, ?_, ?_, ?_⟩
  · apply BitVec.eq_of_getLsbD_eq; intro i hi
    have := bit i (by omega)
    rw [dt (i < 8) hi, dt (i < 16) (by omega), dt (i < 24) (by omega), dt (i < 32) (by omega)] at this
    simp at this
    rw [this]; simp
  · apply BitVec.eq_of_getLsbD_eq; intro i hi
    have := bit (8 + i) (by omega)
    rw [ge a _ (by omega), df (8 + i < 8) (by omega), dt (8 + i < 16) (by omega), dt (8 + i < 24) (by omega), dt (8 + i < 32) (by omega), show 8 + i - 8 = i from by omega, dt (i < 32) (by omega)] at this
    simp at this
    rw [this]; simp
  · apply BitVec.eq_of_getLsbD_eq; intro i hi
    have := bit (16 + i) (by omega)
    rw [ge a _ (by omega), ge b _ (by omega), df (16 + i < 16) (by omega), dt (16 + i < 24) (by omega), dt (16 + i < 32) (by omega), show 16 + i - 16 = i from by omega, dt (i < 32) (by omega)] at this
    simp at this
    rw [this]; simp
  · apply BitVec.eq_of_getLsbD_eq; intro i hi
    have := bit (24 + i) (by omega)
    rw [ge a _ (by omega), ge b _ (by omega), ge c _ (by omega), df (24 + i < 24) (by omega), dt (24 + i < 32) (by omega), show 24 + i - 24 = i from by omega, dt (i < 32) (by omega)] at this
    simp at this
    rw [this]; simp
end Go.Proofs.Ytgjcahmddhladaa.CrcLaw
