/- Chain is Hash of the bytes of the hash before and of the string, and another last byte gives another hash: the walk. No condition. -/
import Derived.Test.YtgjcahmddhladaaXors
set_option linter.unusedSimpArgs false
set_option linter.unusedVariables false
namespace Go.Proofs.Ytgjcahmddhladaa.Chains
open Go.RowKit Go.Proofs.Ytgjcahmddhladaa Go.Proofs.Ytgjcahmddhladaa.PAll Go.Proofs.Ytgjcahmddhladaa.Plain Go.Proofs.YtgjcahmddhladaaW.PrintWords
open Xors
theorem hash_calls (s : ByteArray) (hs : s.size < 9223372036854775808) (w : World) : Calls Try.prog 23 #[.string s] w fun e w' => e = .returned (.int .u64 (wI (hashW (bs s)))) ∧ Drawn w w' := by
  obtain ⟨k, hk⟩ := (hash_ev s hs).rounds
  exact (sums_Hash.calls k s _ w hk).mono fun e w' ⟨he, hd⟩ => ⟨he, hd.out⟩
theorem chain_calls (n : W) (s : ByteArray) (hs : s.size < 9223372036854775808) (p : Int) (hp : p = wI n) (w : World) : Calls Try.prog 25 #[.int .u64 p, .string s] w fun e w' => e = .returned (.int .u64 (wI (chainW n (bs s)))) ∧ Drawn w w' := by
  subst hp
  obtain ⟨k, hk⟩ := (chain_ev n s hs).rounds
  exact (sums_Chain.calls k _ s _ w hk).mono fun e w' ⟨he, hd⟩ => ⟨he, hd.out⟩
theorem bytes_calls (n : W) (p : Int) (hp : p = wI n) (w : World) : Calls Try.prog 27 #[.int .u64 p] w fun e w' => (∃ r, e = .returned (.string r) ∧ Hid (bs r = be n 8 ∧ r.size = 8)) ∧ Below w.heap.size w w' := by
  subst hp
  obtain ⟨r, h1, h2, h3⟩ := bytes_ev n
  obtain ⟨k, hk⟩ := (Ev.congr (fun k => bytesOf_same k _ _ _) h1 : Ev (fun k => sawmilllaw04_bytesOf.f k (wI n)) r).rounds
  exact (sawmilllaw04_bytesOf.calls k _ r w hk).mono fun e w' ⟨he, hd⟩ => ⟨⟨r, he, h2, h3⟩, hd⟩
/-- The bytes of s, the last one changed. -/
def changed (s : ByteArray) (x : Int) : ByteArray := strOfNums ((bytesI s).set (s.size - 1) (Go.bits .xor .u8 ((bytesI s)[s.size - 1]?.getD 0) x))
theorem changed_size (s : ByteArray) (x : Int) : (changed s x).size = s.size := by rw [changed, strOfNums_size, List.length_set, bytesI_length]
set_option maxHeartbeats 1000000 in
theorem some_ (p : W) (s : ByteArray) (x : Int) (w : World) (hn : (s.size : Int) ≤ 1000) (h0 : 0 < s.size) (b : Bool) (hb : (wI (hashW (bs (changed s x))) == wI (hashW (bs s))) = b) (hx : (x == 0) = b) :
    Calls Try.prog 10 #[.int .u64 (wI p), .string s, .int .u8 x] w fun e w' => e = .returned (.bool true) ∧ Below w.heap.size w w' := by
  have hcv := fun (w : World) (s : ByteArray) => Lib.run_convert_string_bytes (P := Try.prog) w 9 36 5 s Try.underlying9 Try.underlying36 Try.underlying5
  have hsh : decide ((s.size : Int) ≤ 1000) = true := decide_eq_true hn
  have HBX := Lib.hid hb
  have HX := Lib.hid hx
  clear hb hx
  go_enter Try.func10, Try.ntmps10
  go_wp2_with fail
  refine (short_calls s w).mono ?_
  rintro e w' ⟨rfl, n1, rfl⟩
  have hrow0 := BRow.made (w.drewN n1) s
  have hbel0 := below_bytesWorld (w.drewN n1) s
  simp only [World.heap_drewN] at hrow0 hbel0
  have hbel := below_undrewN hbel0
  have hlt : s.size - 1 < s.size := by omega
  have hcell := hrow0.cell hlt
  have hfree := hrow0.free hlt
  have hrow1 := hrow0.set_ hlt (Go.bits .xor .u8 ((bytesI s)[s.size - 1]?.getD 0) x)
  have hst := hrow1.string (P := Try.prog) (cap := grownCap (w.drewN n1) s.size 0 5) 36 5 Try.underlying36 Try.underlying5 9 Try.underlying9
  rw [show strOfNums ((bytesI s).set (s.size - 1) (Go.bits .xor .u8 ((bytesI s)[s.size - 1]?.getD 0) x)) = changed s x from rfl] at hst
  have hbel1 := hbel.setCell (p := ⟨w.heap.size, s.size - 1, none⟩) (Nat.le_refl _) (.int .u8 (Go.bits .xor .u8 ((bytesI s)[s.size - 1]?.getD 0) x))
  have hsz : (changed s x).size < 9223372036854775808 := by rw [changed_size]; omega
  generalize changed s x = X at *
  have HB1 := Lib.hid hbel1
  clear hrow0 hbel0 hrow1 hbel hbel1
  go_wp2_with fail
  refine (hash_calls X hsz _).mono ?_
  rintro e w' ⟨rfl, n2, rfl⟩
  go_wp2_with fail
  refine (hash_calls s (by omega) _).mono ?_
  rintro e w' ⟨rfl, n3, rfl⟩
  have e1 := HBX.out
  have e2 := HX.out
  subst e1
  have e3 : ((wI (hashW (bs X)) == wI (hashW (bs s))) != (x == 0)) = false := by rw [e2]; simp
  go_wp2_with fail
  refine (chain_calls p s (by omega) _ rfl _).mono ?_
  rintro e w' ⟨rfl, n4, rfl⟩
  go_wp2_with fail
  refine (bytes_calls p _ rfl _).mono ?_
  rintro e w2 ⟨⟨r, rfl, HR⟩, hb2⟩
  have hadd : r.size + s.size ≤ 9223372036854775807 := by have := HR.out.2; omega
  have hs3 : (r ++ s).size < 9223372036854775808 := by rw [size_append]; omega
  have hfin : (wI (chainW p (bs s)) == wI (hashW (bs (r ++ s)))) = true := by rw [bs_append, HR.out.1]; exact beq_self_eq_true _
  go_wp2_with fail
  refine (hash_calls (r ++ s) hs3 _).mono ?_
  rintro e w' ⟨rfl, n5, rfl⟩
  go_wp2_with fail
  refine (awake_calls _).mono ?_
  rintro e w' ⟨rfl, hb3⟩
  go_wp2_with fail
  go_ret
  exact ⟨rfl, below_then (below_drewN' _ (below_then (below_drewN' _ HB1.out) (by simpa using HB1.out.size) hb2)) (by have h1 := HB1.out.size; have h2 := hb2.size; simp at h1 h2 ⊢; omega) hb3⟩
set_option maxHeartbeats 1000000 in
theorem none_ (p : W) (s : ByteArray) (x : Int) (w : World) (h0 : s.size = 0) :
    Calls Try.prog 10 #[.int .u64 (wI p), .string s, .int .u8 x] w fun e w' => e = .returned (.bool true) ∧ Below w.heap.size w w' := by
  have hcv := fun (w : World) (s : ByteArray) => Lib.run_convert_string_bytes (P := Try.prog) w 9 36 5 s Try.underlying9 Try.underlying36 Try.underlying5
  have hsh : decide ((s.size : Int) ≤ 1000) = true := decide_eq_true (by omega)
  have hle : (s.size : Int) ≤ 0 := by omega
  clear h0
  go_enter Try.func10, Try.ntmps10
  go_wp2_with fail
  refine (short_calls s w).mono ?_
  rintro e w' ⟨rfl, n1, rfl⟩
  have hbel0 := below_bytesWorld (w.drewN n1) s
  simp only [World.heap_drewN] at hbel0
  have HB1 := Lib.hid (below_undrewN hbel0)
  clear hbel0
  go_wp2_with fail
  refine (chain_calls p s (by omega) _ rfl _).mono ?_
  rintro e w' ⟨rfl, n4, rfl⟩
  go_wp2_with fail
  refine (bytes_calls p _ rfl _).mono ?_
  rintro e w2 ⟨⟨r, rfl, HR⟩, hb2⟩
  have hadd : r.size + s.size ≤ 9223372036854775807 := by have := HR.out.2; omega
  have hs3 : (r ++ s).size < 9223372036854775808 := by rw [size_append]; omega
  have hfin : (wI (chainW p (bs s)) == wI (hashW (bs (r ++ s)))) = true := by rw [bs_append, HR.out.1]; exact beq_self_eq_true _
  go_wp2_with fail
  refine (hash_calls (r ++ s) hs3 _).mono ?_
  rintro e w' ⟨rfl, n5, rfl⟩
  go_wp2_with fail
  refine (awake_calls _).mono ?_
  rintro e w' ⟨rfl, hb3⟩
  go_wp2_with fail
  go_ret
  exact ⟨rfl, below_then (below_drewN' _ (below_then (below_drewN' _ HB1.out) (by simpa using HB1.out.size) hb2)) (by have h1 := HB1.out.size; have h2 := hb2.size; simp at h1 h2 ⊢; omega) hb3⟩
set_option maxHeartbeats 1000000 in
theorem long (p : W) (s : ByteArray) (x : Int) (w : World) (hn : ¬ (s.size : Int) ≤ 1000) :
    Calls Try.prog 10 #[.int .u64 (wI p), .string s, .int .u8 x] w fun e w' => e = .returned (.bool true) ∧ Below w.heap.size w w' := by
  have hsh : decide ((s.size : Int) ≤ 1000) = false := decide_eq_false hn
  go_enter Try.func10, Try.ntmps10
  go_wp2_with fail
  refine (short_calls s w).mono ?_
  rintro e w' ⟨rfl, n1, rfl⟩
  go_wp2_with fail
  refine (awake_calls _).mono ?_
  rintro e w' ⟨rfl, hb⟩
  go_wp2_with fail
  go_ret
  exact ⟨rfl, below_undrewN hb⟩
/-! Another last byte gives another hash. -/
theorem mul_inj {a b : W} (h : a * 1099511628211#64 = b * 1099511628211#64) : a = b := by
  have e := congrArg (· * 14886173955864302971#64) h
  simp only [BitVec.mul_assoc] at e
  rw [show 1099511628211#64 * 14886173955864302971#64 = 1#64 from by decide] at e
  simpa using e
theorem hround_inj {h : W} {a b : BitVec 8} (e : hround h a = hround h b) : a = b := by
  have e1 := mul_inj e
  have e2 : a.setWidth 64 = b.setWidth 64 := by
    have := congrArg (h ^^^ ·) e1
    simpa [← BitVec.xor_assoc] using this
  have e3 := congrArg (BitVec.setWidth 8) e2
  simpa using e3
theorem hrun_snoc (h : W) (l : List (BitVec 8)) (x : BitVec 8) : hrun h (l ++ [x]) = hround (hrun h l) x := by simp [hrun]
theorem hash_last (s : ByteArray) (x : BitVec 8) (h0 : 0 < s.size) : (hashW (bs (changed s (x.toNat : Int))) = hashW (bs s)) ↔ x = 0 := by
  have hne : bs s ≠ [] := by intro e; have := bs_length s; rw [e] at this; simp at this; omega
  obtain ⟨l, y, hl⟩ : ∃ l y, bs s = l ++ [y] := ⟨_, _, (List.dropLast_concat_getLast hne).symm⟩
  have hlen : s.size = l.length + 1 := by rw [← bs_length, hl]; simp
  have hbi : bytesI s = (bs s).map fun b => (b.toNat : Int) := by simp [bytesI, bs]
  have hc : bs (changed s (x.toNat : Int)) = l ++ [y ^^^ x] := by
    rw [changed, strOfNums_bs, hbi, hl, hlen]
    simp only [Nat.add_sub_cancel, List.map_append, List.map_cons, List.map_nil]
    rw [List.getElem?_append_right (by simp), List.set_append_right _ _ (by simp)]
    simp only [List.length_map, Nat.sub_self, List.getElem?_cons_zero, Option.getD_some, List.set_cons_zero, List.map_append, List.map_map, List.map_cons, List.map_nil, xor8]
    congr 1
    · conv => rhs; rw [← List.map_id l]
      apply List.map_congr_left
      intro b _
      simp
    · simp
  unfold hashW
  rw [hc, hl, hrun_snoc, hrun_snoc]
  constructor
  · intro e
    have := hround_inj e
    have := congrArg (y ^^^ ·) this
    simpa [← BitVec.xor_assoc] using this
  · rintro rfl
    simp
theorem of_wf8 {a : Int} (h : (Lit.int .u8 a).wf = true) : ∃ n : BitVec 8, a = (n.toNat : Int) := by
  have : 0 ≤ a ∧ a ≤ 255 := by simpa [Lit.wf, IntKind.min, IntKind.max, IntKind.signed, IntKind.bits] using h
  refine ⟨BitVec.ofNat 8 a.toNat, ?_⟩
  rw [BitVec.toNat_ofNat]
  omega
theorem wI_inj {a b : W} (h : wI a = wI b) : a = b := by
  unfold wI at h
  exact BitVec.eq_of_toNat_eq (by omega)
theorem rowWalk (p : Int) (s : ByteArray) (x : Int) (w : World) (hp : (Lit.int .u64 p).wf = true) (_ : s.size ≤ 140737488351232) (hx : (Lit.int .u8 x).wf = true) :
    Calls Try.prog 10 #[.int .u64 p, .string s, .int .u8 x] w fun e w' => e = .returned (.bool true) ∧ Below w.heap.size w w' := by
  obtain ⟨p, rfl⟩ := of_wf64 hp
  obtain ⟨x, rfl⟩ := of_wf8 hx
  by_cases hn : (s.size : Int) ≤ 1000
  · by_cases h0 : 0 < s.size
    · have hl := hash_last s x h0
      by_cases he : x = 0
      · have e1 := hl.2 he
        exact some_ p s _ w hn h0 true (by rw [e1]; exact beq_self_eq_true _) (by subst he; rfl)
      · have e1 : ¬ hashW (bs (changed s (x.toNat : Int))) = hashW (bs s) := fun e => he (hl.1 e)
        refine some_ p s _ w hn h0 false (beq_eq_false_iff_ne.2 fun e => e1 (wI_inj e)) (beq_eq_false_iff_ne.2 fun e => he ?_)
        apply BitVec.eq_of_toNat_eq
        have : x.toNat = 0 := by omega
        rw [this]; rfl
    · exact none_ p s _ w (by omega)
  · exact long p s _ w hn
end Go.Proofs.Ytgjcahmddhladaa.Chains
