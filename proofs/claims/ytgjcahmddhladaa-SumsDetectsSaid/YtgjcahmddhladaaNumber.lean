/- What Number of the package sums returns, for every string: the walk through its loop over the runes. -/
import Derived.Test.YtgjcahmddhladaaProg
import Derived.WalkKit
import Derived.WalkSpells
import Derived.WalkLawsBesides
import Derived.Laws.RangeAny
import Derived.Lib.Hide
namespace Go.Proofs.Ytgjcahmddhladaa
open Go.RowKit

/-- What the loop makes of the bytes that are left. -/
def sums_Number.l : List UInt8 → Int → Int × Int
  | [], n => (n, 0)
  | c :: l, n =>
    if 48 ≤ c.toNat ∧ c.toNat ≤ 57 then sums_Number.l l (Go.bits .or .u64 (IntKind.u64.wrap (n * 16)) ((c.toNat : Int) - 48))
    else if 97 ≤ c.toNat ∧ c.toNat ≤ 102 then sums_Number.l l (Go.bits .or .u64 (IntKind.u64.wrap (n * 16)) ((c.toNat : Int) - 97 + 10))
    else (0, 5)
def sums_Number.f (a0 : ByteArray) : Option (Int × Int) := if (a0.size : Int) < 16 then some (0, 3) else if (a0.size : Int) > 16 then some (0, 4) else some (sums_Number.l a0.data.toList 0)

theorem Number.drop_cons (s : ByteArray) (pos : Nat) (h : pos < s.size) : s.data.toList.drop pos = s[pos] :: s.data.toList.drop (pos + 1) :=
  List.drop_eq_getElem_cons (by simpa using h)
theorem Number.l_nil (n : Int) : sums_Number.l [] n = (n, 0) := rfl
theorem Number.l_digit (c : UInt8) (l : List UInt8) (n : Int) (h0 : (48 : Int) ≤ (c.toNat : Int)) (h1 : (c.toNat : Int) ≤ 57) :
    sums_Number.l (c :: l) n = sums_Number.l l (Go.bits .or .u64 (IntKind.u64.wrap (n * 16)) ((c.toNat : Int) - 48)) := by
  rw [sums_Number.l, if_pos ⟨by omega, by omega⟩]
theorem Number.l_letter (c : UInt8) (l : List UInt8) (n : Int) (h0 : (97 : Int) ≤ (c.toNat : Int)) (h1 : (c.toNat : Int) ≤ 102) :
    sums_Number.l (c :: l) n = sums_Number.l l (Go.bits .or .u64 (IntKind.u64.wrap (n * 16)) ((c.toNat : Int) - 97 + 10)) := by
  rw [sums_Number.l, if_neg (by omega), if_pos ⟨by omega, by omega⟩]
theorem Number.l_bad (c : UInt8) (l : List UInt8) (n : Int) (h0 : ¬ ((48 : Int) ≤ (c.toNat : Int) ∧ (c.toNat : Int) ≤ 57)) (h1 : ¬ ((97 : Int) ≤ (c.toNat : Int) ∧ (c.toNat : Int) ≤ 102)) :
    sums_Number.l (c :: l) n = (0, 5) := by
  rw [sums_Number.l, if_neg (by omega), if_neg (by omega)]

set_option maxHeartbeats 1000000 in
theorem Number.sixteen (s : ByteArray) (w : World) (h0 : ¬ (s.size : Int) < 16) (h1 : ¬ (s.size : Int) > 16) (p : Int × Int) (hp : sums_Number.l s.data.toList 0 = p) :
    Calls Try.prog 15 #[.string s] w fun e w' => e = .returned (.tuple #[.int .u64 p.1, .int .i64 p.2]) ∧ Below w.heap.size w w' := by
  have hs0 : 16 ≤ (s.size : Int) := by omega
  have hs1 : (s.size : Int) ≤ 16 := by omega
  have HP := Lib.hid hp
  clear hp h0 h1
  go_enter Try.func15, Try.ntmps15
  go_wp2
  go_loopw [4] (fun n w' => ∃ (pos : Nat) (acc : Int), w' = w.iter s pos ∧ n = .int .u64 acc ∧ Hid (sums_Number.l (s.data.toList.drop pos) acc = p)) (fun _ w' => s.size - w'.iterPos w.heap.size)
  case atStart => exact ⟨0, 0, rfl, rfl, by simpa using HP⟩
  case round =>
    obtain ⟨pos, acc, rfl, rfl, HR⟩ := hrel
    have hbel : ∀ q, Below w.heap.size w (w.iter s q) := fun q => (Below.refl _ _).alloc (Nat.le_refl _) _
    have HBL := Lib.hid hbel
    clear hbel
    by_cases hp : pos < s.size
    · have hnx : ∀ ty, (Instr.next (.pointer (some ⟨w.heap.size, 0, none⟩)) true ty).run Try.prog (w.iter s pos) = _ := fun ty => run_next_any w s pos ty hp
      have hd := Number.drop_cons s pos hp
      have H1 := HR.out
      rw [hd] at H1
      have HR1 := Lib.hid H1
      clear H1 HR hd HP
      by_cases ha : (s[pos]'hp).toNat < 128
      · rw [decode_ascii s pos hp ha] at hnx
        generalize s[pos]'hp = c at *
        go_wp2
        · have g0 : (48 : Int) ≤ (c.toNat : Int) := by assumption
          have g1 : (c.toNat : Int) ≤ 57 := by assumption
          go_roundw
          case rel => exact ⟨pos + 1, _, rfl, rfl, by have := HR1.out; rw [Number.l_digit c _ _ g0 g1] at this; exact this⟩
          case measure => simp; omega
        · have g0 : (97 : Int) ≤ (c.toNat : Int) := by assumption
          have g1 : (c.toNat : Int) ≤ 102 := by assumption
          go_roundw
          case rel => exact ⟨pos + 1, _, rfl, rfl, by have := HR1.out; rw [Number.l_letter c _ _ g0 g1] at this; exact this⟩
          case measure => simp; omega
        all_goals
          have e := HR1.out
          rw [Number.l_bad c _ _ (by omega) (by omega)] at e
          subst e
          go_ret2
          exact ⟨rfl, HBL.out _⟩
      · have hh := decode_high s pos hp (by omega)
        generalize s[pos]'hp = c at *
        generalize Utf8.decode s pos = dw at *
        obtain ⟨r, d⟩ := dw
        simp only at hnx hh
        obtain ⟨hh1, hh2⟩ := hh
        have hr : (128 : Int) ≤ (r : Int) := by omega
        clear hh1
        go_wp2
        all_goals
          have e := HR1.out
          rw [Number.l_bad c _ _ (by omega) (by omega)] at e
          subst e
          go_ret2
          exact ⟨rfl, HBL.out _⟩
    · have hnx : ∀ ty, (Instr.next (.pointer (some ⟨w.heap.size, 0, none⟩)) true ty).run Try.prog (w.iter s pos) = _ := fun ty => run_next_end w s pos ty hp
      have e := HR.out
      rw [List.drop_of_length_le (by simp; omega), Number.l_nil] at e
      subst e
      clear HP HR
      go_wp2
      go_ret2
      exact ⟨rfl, HBL.out _⟩
theorem sums_Number.calls_pair (a0 : ByteArray) (p : Int × Int) (w : World) (h : sums_Number.f a0 = some p) :
    Calls Try.prog 15 #[.string a0] w fun e w' => e = .returned (.tuple #[.int .u64 p.1, .int .i64 p.2]) ∧ Below w.heap.size w w' := by
  unfold sums_Number.f at h
  by_cases h0 : (a0.size : Int) < 16
  · rw [if_pos h0] at h
    obtain rfl := Option.some.inj h
    clear h
    go_enter Try.func15, Try.ntmps15
    go_wp2
    go_ret2
    exact ⟨rfl, Below.refl _ _⟩
  · rw [if_neg h0] at h
    by_cases h1 : (a0.size : Int) > 16
    · rw [if_pos h1] at h
      obtain rfl := Option.some.inj h
      clear h
      have h1' : (16 : Int) < (a0.size : Int) := h1
      have h0' : (16 : Int) ≤ (a0.size : Int) := by omega
      clear h0 h1
      go_enter Try.func15, Try.ntmps15
      go_wp2
      go_ret2
      exact ⟨rfl, Below.refl _ _⟩
    · rw [if_neg h1] at h
      exact Number.sixteen a0 w h0 h1 p (Option.some.inj h)
theorem sums_Number.calls (a0 : ByteArray) (r0 r1 : Int) (w : World) (h : sums_Number.f a0 = some (r0, r1)) :
    Calls Try.prog 15 #[.string a0] w fun e w' => e = .returned (.tuple #[.int .u64 r0, .int .i64 r1]) ∧ Below w.heap.size w w' := sums_Number.calls_pair a0 (r0, r1) w h
end Go.Proofs.Ytgjcahmddhladaa
