/- The walk of BooksSums. -/
import Derived.Test.YtjdcpddcngcioaaDoorBooksLaws2
set_option linter.unusedVariables false
set_option linter.unusedSimpArgs false
namespace Go.Proofs.YtjdcpddcngcioaaDoor.BooksPlain
open Go.RowKit Go.Proofs.YtjdcpddcngcioaaDoor.PBk Go.Proofs.YtjdcpddcngcioaaDoorW.PrintWords Go.Proofs.YtjdcpddcngcioaaDoorW.PrintLast Go.Proofs.YtjdcpddcngcioaaDoorW.PrintMore
open Go.Proofs.YtjdcpddcngcioaaDoor
theorem box5 {w : World} {g : Nat} {a b c d v : Int} (h : w.heap[g]? = some (.cells #[.int .i64 a, .int .i64 b, .int .i64 c, .int .i64 d, .int .i64 v] 23)) :
    w.cell? ⟨g, 0, none⟩ = some (.int .i64 a) ∧ w.cell? ⟨g, 1, none⟩ = some (.int .i64 b) ∧ w.cell? ⟨g, 2, none⟩ = some (.int .i64 c) ∧ w.cell? ⟨g, 3, none⟩ = some (.int .i64 d) ∧ w.cell? ⟨g, 4, none⟩ = some (.int .i64 v) := by
  refine ⟨?_, ?_, ?_, ?_, ?_⟩ <;> (simp only [World.cell?, h]; rfl)
theorem new1 (w : World) (o : Obj) (n : Nat) (h : n = w.heap.size) : (w.alloc o).heap[n]? = some o := by subst h; exact (MapKept.heap_alloc w o).1
theorem old1 (w : World) (o : Obj) (n : Nat) (h : n < w.heap.size) : (w.alloc o).heap[n]? = w.heap[n]? := (MapKept.heap_alloc w o).2 n h
set_option maxRecDepth 100000 in
theorem sums_bad0 (k1 k2 k3 k4 : Nat) (a b c d v a' b' c' d' v' : Int) (p q r : List S50) (e1 e2 e3 e4 x0 x1 x2 x3 x4 : Int) (w : World) (hG : GlobG w)
    (h1 : books_Sawn.f k1 a b c d v = some (p, e1)) (h2 : books_Sawn.f k2 a' b' c' d' v' = some (q, e2)) (h3 : yield_Add.f k3 a b c d v a' b' c' d' v' = some (x0, x1, x2, x3, x4, e3))
    (h4 : books_Sawn.f k4 x0 x1 x2 x3 x4 = some (r, e4))  (c0 : (e1 != 0) = true) :
    Calls Tryd.prog 7 #[.agg #[.int .i64 a, .int .i64 b, .int .i64 c, .int .i64 d, .int .i64 v], .agg #[.int .i64 a', .int .i64 b', .int .i64 c', .int .i64 d', .int .i64 v']] w fun e w' => e = .returned (.bool true) ∧ Below w.heap.size w w' := by
  have hu23 := Tryd.underlying23
  have HB0 := Lib.hid (((Below.refl w.heap.size w).alloc (Nat.le_refl _) (.cells #[.int .i64 a, .int .i64 b, .int .i64 c, .int .i64 d, .int .i64 v] 23)).alloc (by simp) (.cells #[.int .i64 a', .int .i64 b', .int .i64 c', .int .i64 d', .int .i64 v'] 23))
  have HG := Lib.hid hG
  have H1 := Lib.hid h1
  have H2 := Lib.hid h2
  have H3 := Lib.hid h3
  have H4 := Lib.hid h4
  clear hG h1 h2 h3 h4
  go_enter Tryd.func7, Tryd.ntmps7
  obtain ⟨W2, hW2⟩ : ∃ W2, W2 = ((w.alloc (.cells #[.int .i64 a, .int .i64 b, .int .i64 c, .int .i64 d, .int .i64 v] 23)).alloc (.cells #[.int .i64 a', .int .i64 b', .int .i64 c', .int .i64 d', .int .i64 v'] 23)) := ⟨_, rfl⟩
  have kA : W2.heap[w.heap.size]? = some (.cells #[.int .i64 a, .int .i64 b, .int .i64 c, .int .i64 d, .int .i64 v] 23) := by rw [hW2]; exact (old1 _ _ _ (by simp)).trans (new1 _ _ _ rfl)
  have kB : W2.heap[w.heap.size + 1]? = some (.cells #[.int .i64 a', .int .i64 b', .int .i64 c', .int .i64 d', .int .i64 v'] 23) := by rw [hW2]; exact new1 _ _ _ (by simp)
  have hs2 : W2.heap.size = w.heap.size + 2 := by rw [hW2]; simp
  rw [← hW2] at HB0
  have KA := Lib.hid kA
  have KB := Lib.hid kB
  have HS := Lib.hid hs2
  have HW := Lib.hid hW2
  clear kA kB hs2 hW2
  go_wp2_with (first
    | (go_at_call 13; rw [← HW.out]; (with_reducible refine (books_Sawn.calls k1 a b c d v p e1 _ (HG.out.below HB0.out) H1.out).mono ?_); rintro e w1 ⟨v1, rfl, hR1, hb1⟩; have HR1 := Lib.hid hR1; have HB1 := Lib.hid hb1; obtain ⟨q0, q1, q2, q3, q4⟩ := box5 ((hb1.block (w.heap.size + 1) (by rw [HS.out]; omega)).trans KB.out); clear hR1 hb1)
    | (go_at_call 13; (with_reducible refine (books_Sawn.calls k2 a' b' c' d' v' q e2 _ ((HG.out.below HB0.out).below HB1.out) H2.out).mono ?_); rintro e w2 ⟨v2, rfl, hR2, hb2⟩; have HR2 := Lib.hid hR2; have HB2 := Lib.hid hb2; clear q0 q1 q2 q3 q4; obtain ⟨p0, p1, p2, p3, p4⟩ := box5 ((hb2.block w.heap.size (by have := HB1.out.size; have := HS.out; omega)).trans ((HB1.out.block w.heap.size (by rw [HS.out]; omega)).trans KA.out)); obtain ⟨q0, q1, q2, q3, q4⟩ := box5 ((hb2.block (w.heap.size + 1) (by have := HB1.out.size; have := HS.out; omega)).trans ((HB1.out.block (w.heap.size + 1) (by rw [HS.out]; omega)).trans KB.out)); clear hR2 hb2)
    | (go_at_call 39; (with_reducible refine (yield_Add.calls k3 a b c d v a' b' c' d' v' x0 x1 x2 x3 x4 e3 _ H3.out).mono ?_); rintro e w3 ⟨rfl, hb3⟩; have HB3 := Lib.hid ((((HB0.out.trans (HB1.out.mono (by rw [HS.out]; omega))).trans (HB2.out.mono (by have := HB1.out.size; have := HS.out; omega))).trans (hb3.mono (by have := HB2.out.size; have := HB1.out.size; have := HS.out; omega))).alloc (by have := hb3.size; have := HB2.out.size; have := HB1.out.size; have := HS.out; omega) (.cells #[.int .i64 x0, .int .i64 x1, .int .i64 x2, .int .i64 x3, .int .i64 x4] 23)); have HB3b := Lib.hid hb3; clear q0 q1 q2 q3 q4 p0 p1 p2 p3 p4 hb3)
    | (go_at_call 13; (with_reducible refine (books_Sawn.calls k4 x0 x1 x2 x3 x4 r e4 _ (HG.out.below HB3.out) H4.out).mono ?_); rintro e w4 ⟨v4, rfl, hR4, hb4⟩; have HR4 := Lib.hid hR4; obtain ⟨q0, q1, q2, q3, q4⟩ := box5 ((hb4.block w3.heap.size (by simp)).trans (new1 _ _ _ rfl)); have HB4 := Lib.hid (HB3.out.trans (hb4.mono (by have := HB3.out.size; omega))); have HB4b := Lib.hid hb4; clear hR4 hb4)
    | (go_at_call 20; (with_reducible refine (sawmilllaw52_awake.calls 100 true _ (HG.out.below HB4.out) awake_true).mono ?_); rintro e w5 ⟨rfl, hb5⟩; have HB5 := Lib.hid (HB4.out.trans (hb5.mono (by have := HB4.out.size; omega))); clear hb5)
    )
  go_ret
  exact ⟨rfl, HB5.out⟩
set_option maxRecDepth 100000 in
theorem sums_bad1 (k1 k2 k3 k4 : Nat) (a b c d v a' b' c' d' v' : Int) (p q r : List S50) (e1 e2 e3 e4 x0 x1 x2 x3 x4 : Int) (w : World) (hG : GlobG w)
    (h1 : books_Sawn.f k1 a b c d v = some (p, e1)) (h2 : books_Sawn.f k2 a' b' c' d' v' = some (q, e2)) (h3 : yield_Add.f k3 a b c d v a' b' c' d' v' = some (x0, x1, x2, x3, x4, e3))
    (h4 : books_Sawn.f k4 x0 x1 x2 x3 x4 = some (r, e4))  (c0 : (e1 != 0) = false) (c1 : (e2 != 0) = true) :
    Calls Tryd.prog 7 #[.agg #[.int .i64 a, .int .i64 b, .int .i64 c, .int .i64 d, .int .i64 v], .agg #[.int .i64 a', .int .i64 b', .int .i64 c', .int .i64 d', .int .i64 v']] w fun e w' => e = .returned (.bool true) ∧ Below w.heap.size w w' := by
  have hu23 := Tryd.underlying23
  have HB0 := Lib.hid (((Below.refl w.heap.size w).alloc (Nat.le_refl _) (.cells #[.int .i64 a, .int .i64 b, .int .i64 c, .int .i64 d, .int .i64 v] 23)).alloc (by simp) (.cells #[.int .i64 a', .int .i64 b', .int .i64 c', .int .i64 d', .int .i64 v'] 23))
  have HG := Lib.hid hG
  have H1 := Lib.hid h1
  have H2 := Lib.hid h2
  have H3 := Lib.hid h3
  have H4 := Lib.hid h4
  clear hG h1 h2 h3 h4
  go_enter Tryd.func7, Tryd.ntmps7
  obtain ⟨W2, hW2⟩ : ∃ W2, W2 = ((w.alloc (.cells #[.int .i64 a, .int .i64 b, .int .i64 c, .int .i64 d, .int .i64 v] 23)).alloc (.cells #[.int .i64 a', .int .i64 b', .int .i64 c', .int .i64 d', .int .i64 v'] 23)) := ⟨_, rfl⟩
  have kA : W2.heap[w.heap.size]? = some (.cells #[.int .i64 a, .int .i64 b, .int .i64 c, .int .i64 d, .int .i64 v] 23) := by rw [hW2]; exact (old1 _ _ _ (by simp)).trans (new1 _ _ _ rfl)
  have kB : W2.heap[w.heap.size + 1]? = some (.cells #[.int .i64 a', .int .i64 b', .int .i64 c', .int .i64 d', .int .i64 v'] 23) := by rw [hW2]; exact new1 _ _ _ (by simp)
  have hs2 : W2.heap.size = w.heap.size + 2 := by rw [hW2]; simp
  rw [← hW2] at HB0
  have KA := Lib.hid kA
  have KB := Lib.hid kB
  have HS := Lib.hid hs2
  have HW := Lib.hid hW2
  clear kA kB hs2 hW2
  go_wp2_with (first
    | (go_at_call 13; rw [← HW.out]; (with_reducible refine (books_Sawn.calls k1 a b c d v p e1 _ (HG.out.below HB0.out) H1.out).mono ?_); rintro e w1 ⟨v1, rfl, hR1, hb1⟩; have HR1 := Lib.hid hR1; have HB1 := Lib.hid hb1; obtain ⟨q0, q1, q2, q3, q4⟩ := box5 ((hb1.block (w.heap.size + 1) (by rw [HS.out]; omega)).trans KB.out); clear hR1 hb1)
    | (go_at_call 13; (with_reducible refine (books_Sawn.calls k2 a' b' c' d' v' q e2 _ ((HG.out.below HB0.out).below HB1.out) H2.out).mono ?_); rintro e w2 ⟨v2, rfl, hR2, hb2⟩; have HR2 := Lib.hid hR2; have HB2 := Lib.hid hb2; clear q0 q1 q2 q3 q4; obtain ⟨p0, p1, p2, p3, p4⟩ := box5 ((hb2.block w.heap.size (by have := HB1.out.size; have := HS.out; omega)).trans ((HB1.out.block w.heap.size (by rw [HS.out]; omega)).trans KA.out)); obtain ⟨q0, q1, q2, q3, q4⟩ := box5 ((hb2.block (w.heap.size + 1) (by have := HB1.out.size; have := HS.out; omega)).trans ((HB1.out.block (w.heap.size + 1) (by rw [HS.out]; omega)).trans KB.out)); clear hR2 hb2)
    | (go_at_call 39; (with_reducible refine (yield_Add.calls k3 a b c d v a' b' c' d' v' x0 x1 x2 x3 x4 e3 _ H3.out).mono ?_); rintro e w3 ⟨rfl, hb3⟩; have HB3 := Lib.hid ((((HB0.out.trans (HB1.out.mono (by rw [HS.out]; omega))).trans (HB2.out.mono (by have := HB1.out.size; have := HS.out; omega))).trans (hb3.mono (by have := HB2.out.size; have := HB1.out.size; have := HS.out; omega))).alloc (by have := hb3.size; have := HB2.out.size; have := HB1.out.size; have := HS.out; omega) (.cells #[.int .i64 x0, .int .i64 x1, .int .i64 x2, .int .i64 x3, .int .i64 x4] 23)); have HB3b := Lib.hid hb3; clear q0 q1 q2 q3 q4 p0 p1 p2 p3 p4 hb3)
    | (go_at_call 13; (with_reducible refine (books_Sawn.calls k4 x0 x1 x2 x3 x4 r e4 _ (HG.out.below HB3.out) H4.out).mono ?_); rintro e w4 ⟨v4, rfl, hR4, hb4⟩; have HR4 := Lib.hid hR4; obtain ⟨q0, q1, q2, q3, q4⟩ := box5 ((hb4.block w3.heap.size (by simp)).trans (new1 _ _ _ rfl)); have HB4 := Lib.hid (HB3.out.trans (hb4.mono (by have := HB3.out.size; omega))); have HB4b := Lib.hid hb4; clear hR4 hb4)
    | (go_at_call 20; (with_reducible refine (sawmilllaw52_awake.calls 100 true _ (HG.out.below HB4.out) awake_true).mono ?_); rintro e w5 ⟨rfl, hb5⟩; have HB5 := Lib.hid (HB4.out.trans (hb5.mono (by have := HB4.out.size; omega))); clear hb5)
    )
  go_ret
  exact ⟨rfl, HB5.out⟩
set_option maxRecDepth 100000 in
theorem sums_bad2 (k1 k2 k3 k4 : Nat) (a b c d v a' b' c' d' v' : Int) (p q r : List S50) (e1 e2 e3 e4 x0 x1 x2 x3 x4 : Int) (w : World) (hG : GlobG w)
    (h1 : books_Sawn.f k1 a b c d v = some (p, e1)) (h2 : books_Sawn.f k2 a' b' c' d' v' = some (q, e2)) (h3 : yield_Add.f k3 a b c d v a' b' c' d' v' = some (x0, x1, x2, x3, x4, e3))
    (h4 : books_Sawn.f k4 x0 x1 x2 x3 x4 = some (r, e4))  (c0 : (e1 != 0) = false) (c1 : (e2 != 0) = false) (c2 : (e3 != 0) = true) :
    Calls Tryd.prog 7 #[.agg #[.int .i64 a, .int .i64 b, .int .i64 c, .int .i64 d, .int .i64 v], .agg #[.int .i64 a', .int .i64 b', .int .i64 c', .int .i64 d', .int .i64 v']] w fun e w' => e = .returned (.bool true) ∧ Below w.heap.size w w' := by
  have hu23 := Tryd.underlying23
  have HB0 := Lib.hid (((Below.refl w.heap.size w).alloc (Nat.le_refl _) (.cells #[.int .i64 a, .int .i64 b, .int .i64 c, .int .i64 d, .int .i64 v] 23)).alloc (by simp) (.cells #[.int .i64 a', .int .i64 b', .int .i64 c', .int .i64 d', .int .i64 v'] 23))
  have HG := Lib.hid hG
  have H1 := Lib.hid h1
  have H2 := Lib.hid h2
  have H3 := Lib.hid h3
  have H4 := Lib.hid h4
  clear hG h1 h2 h3 h4
  go_enter Tryd.func7, Tryd.ntmps7
  obtain ⟨W2, hW2⟩ : ∃ W2, W2 = ((w.alloc (.cells #[.int .i64 a, .int .i64 b, .int .i64 c, .int .i64 d, .int .i64 v] 23)).alloc (.cells #[.int .i64 a', .int .i64 b', .int .i64 c', .int .i64 d', .int .i64 v'] 23)) := ⟨_, rfl⟩
  have kA : W2.heap[w.heap.size]? = some (.cells #[.int .i64 a, .int .i64 b, .int .i64 c, .int .i64 d, .int .i64 v] 23) := by rw [hW2]; exact (old1 _ _ _ (by simp)).trans (new1 _ _ _ rfl)
  have kB : W2.heap[w.heap.size + 1]? = some (.cells #[.int .i64 a', .int .i64 b', .int .i64 c', .int .i64 d', .int .i64 v'] 23) := by rw [hW2]; exact new1 _ _ _ (by simp)
  have hs2 : W2.heap.size = w.heap.size + 2 := by rw [hW2]; simp
  rw [← hW2] at HB0
  have KA := Lib.hid kA
  have KB := Lib.hid kB
  have HS := Lib.hid hs2
  have HW := Lib.hid hW2
  clear kA kB hs2 hW2
  go_wp2_with (first
    | (go_at_call 13; rw [← HW.out]; (with_reducible refine (books_Sawn.calls k1 a b c d v p e1 _ (HG.out.below HB0.out) H1.out).mono ?_); rintro e w1 ⟨v1, rfl, hR1, hb1⟩; have HR1 := Lib.hid hR1; have HB1 := Lib.hid hb1; obtain ⟨q0, q1, q2, q3, q4⟩ := box5 ((hb1.block (w.heap.size + 1) (by rw [HS.out]; omega)).trans KB.out); clear hR1 hb1)
    | (go_at_call 13; (with_reducible refine (books_Sawn.calls k2 a' b' c' d' v' q e2 _ ((HG.out.below HB0.out).below HB1.out) H2.out).mono ?_); rintro e w2 ⟨v2, rfl, hR2, hb2⟩; have HR2 := Lib.hid hR2; have HB2 := Lib.hid hb2; clear q0 q1 q2 q3 q4; obtain ⟨p0, p1, p2, p3, p4⟩ := box5 ((hb2.block w.heap.size (by have := HB1.out.size; have := HS.out; omega)).trans ((HB1.out.block w.heap.size (by rw [HS.out]; omega)).trans KA.out)); obtain ⟨q0, q1, q2, q3, q4⟩ := box5 ((hb2.block (w.heap.size + 1) (by have := HB1.out.size; have := HS.out; omega)).trans ((HB1.out.block (w.heap.size + 1) (by rw [HS.out]; omega)).trans KB.out)); clear hR2 hb2)
    | (go_at_call 39; (with_reducible refine (yield_Add.calls k3 a b c d v a' b' c' d' v' x0 x1 x2 x3 x4 e3 _ H3.out).mono ?_); rintro e w3 ⟨rfl, hb3⟩; have HB3 := Lib.hid ((((HB0.out.trans (HB1.out.mono (by rw [HS.out]; omega))).trans (HB2.out.mono (by have := HB1.out.size; have := HS.out; omega))).trans (hb3.mono (by have := HB2.out.size; have := HB1.out.size; have := HS.out; omega))).alloc (by have := hb3.size; have := HB2.out.size; have := HB1.out.size; have := HS.out; omega) (.cells #[.int .i64 x0, .int .i64 x1, .int .i64 x2, .int .i64 x3, .int .i64 x4] 23)); have HB3b := Lib.hid hb3; clear q0 q1 q2 q3 q4 p0 p1 p2 p3 p4 hb3)
    | (go_at_call 13; (with_reducible refine (books_Sawn.calls k4 x0 x1 x2 x3 x4 r e4 _ (HG.out.below HB3.out) H4.out).mono ?_); rintro e w4 ⟨v4, rfl, hR4, hb4⟩; have HR4 := Lib.hid hR4; obtain ⟨q0, q1, q2, q3, q4⟩ := box5 ((hb4.block w3.heap.size (by simp)).trans (new1 _ _ _ rfl)); have HB4 := Lib.hid (HB3.out.trans (hb4.mono (by have := HB3.out.size; omega))); have HB4b := Lib.hid hb4; clear hR4 hb4)
    | (go_at_call 20; (with_reducible refine (sawmilllaw52_awake.calls 100 true _ (HG.out.below HB4.out) awake_true).mono ?_); rintro e w5 ⟨rfl, hb5⟩; have HB5 := Lib.hid (HB4.out.trans (hb5.mono (by have := HB4.out.size; omega))); clear hb5)
    )
  go_ret
  exact ⟨rfl, HB5.out⟩
set_option maxRecDepth 100000 in
theorem sums_bad3 (k1 k2 k3 k4 : Nat) (a b c d v a' b' c' d' v' : Int) (p q r : List S50) (e1 e2 e3 e4 x0 x1 x2 x3 x4 : Int) (w : World) (hG : GlobG w)
    (h1 : books_Sawn.f k1 a b c d v = some (p, e1)) (h2 : books_Sawn.f k2 a' b' c' d' v' = some (q, e2)) (h3 : yield_Add.f k3 a b c d v a' b' c' d' v' = some (x0, x1, x2, x3, x4, e3))
    (h4 : books_Sawn.f k4 x0 x1 x2 x3 x4 = some (r, e4))  (c0 : (e1 != 0) = false) (c1 : (e2 != 0) = false) (c2 : (e3 != 0) = false) (c3 : decide (72057594037927936 < x0) = true) :
    Calls Tryd.prog 7 #[.agg #[.int .i64 a, .int .i64 b, .int .i64 c, .int .i64 d, .int .i64 v], .agg #[.int .i64 a', .int .i64 b', .int .i64 c', .int .i64 d', .int .i64 v']] w fun e w' => e = .returned (.bool true) ∧ Below w.heap.size w w' := by
  have hu23 := Tryd.underlying23
  have HB0 := Lib.hid (((Below.refl w.heap.size w).alloc (Nat.le_refl _) (.cells #[.int .i64 a, .int .i64 b, .int .i64 c, .int .i64 d, .int .i64 v] 23)).alloc (by simp) (.cells #[.int .i64 a', .int .i64 b', .int .i64 c', .int .i64 d', .int .i64 v'] 23))
  have HG := Lib.hid hG
  have H1 := Lib.hid h1
  have H2 := Lib.hid h2
  have H3 := Lib.hid h3
  have H4 := Lib.hid h4
  clear hG h1 h2 h3 h4
  go_enter Tryd.func7, Tryd.ntmps7
  obtain ⟨W2, hW2⟩ : ∃ W2, W2 = ((w.alloc (.cells #[.int .i64 a, .int .i64 b, .int .i64 c, .int .i64 d, .int .i64 v] 23)).alloc (.cells #[.int .i64 a', .int .i64 b', .int .i64 c', .int .i64 d', .int .i64 v'] 23)) := ⟨_, rfl⟩
  have kA : W2.heap[w.heap.size]? = some (.cells #[.int .i64 a, .int .i64 b, .int .i64 c, .int .i64 d, .int .i64 v] 23) := by rw [hW2]; exact (old1 _ _ _ (by simp)).trans (new1 _ _ _ rfl)
  have kB : W2.heap[w.heap.size + 1]? = some (.cells #[.int .i64 a', .int .i64 b', .int .i64 c', .int .i64 d', .int .i64 v'] 23) := by rw [hW2]; exact new1 _ _ _ (by simp)
  have hs2 : W2.heap.size = w.heap.size + 2 := by rw [hW2]; simp
  rw [← hW2] at HB0
  have KA := Lib.hid kA
  have KB := Lib.hid kB
  have HS := Lib.hid hs2
  have HW := Lib.hid hW2
  clear kA kB hs2 hW2
  go_wp2_with (first
    | (go_at_call 13; rw [← HW.out]; (with_reducible refine (books_Sawn.calls k1 a b c d v p e1 _ (HG.out.below HB0.out) H1.out).mono ?_); rintro e w1 ⟨v1, rfl, hR1, hb1⟩; have HR1 := Lib.hid hR1; have HB1 := Lib.hid hb1; obtain ⟨q0, q1, q2, q3, q4⟩ := box5 ((hb1.block (w.heap.size + 1) (by rw [HS.out]; omega)).trans KB.out); clear hR1 hb1)
    | (go_at_call 13; (with_reducible refine (books_Sawn.calls k2 a' b' c' d' v' q e2 _ ((HG.out.below HB0.out).below HB1.out) H2.out).mono ?_); rintro e w2 ⟨v2, rfl, hR2, hb2⟩; have HR2 := Lib.hid hR2; have HB2 := Lib.hid hb2; clear q0 q1 q2 q3 q4; obtain ⟨p0, p1, p2, p3, p4⟩ := box5 ((hb2.block w.heap.size (by have := HB1.out.size; have := HS.out; omega)).trans ((HB1.out.block w.heap.size (by rw [HS.out]; omega)).trans KA.out)); obtain ⟨q0, q1, q2, q3, q4⟩ := box5 ((hb2.block (w.heap.size + 1) (by have := HB1.out.size; have := HS.out; omega)).trans ((HB1.out.block (w.heap.size + 1) (by rw [HS.out]; omega)).trans KB.out)); clear hR2 hb2)
    | (go_at_call 39; (with_reducible refine (yield_Add.calls k3 a b c d v a' b' c' d' v' x0 x1 x2 x3 x4 e3 _ H3.out).mono ?_); rintro e w3 ⟨rfl, hb3⟩; have HB3 := Lib.hid ((((HB0.out.trans (HB1.out.mono (by rw [HS.out]; omega))).trans (HB2.out.mono (by have := HB1.out.size; have := HS.out; omega))).trans (hb3.mono (by have := HB2.out.size; have := HB1.out.size; have := HS.out; omega))).alloc (by have := hb3.size; have := HB2.out.size; have := HB1.out.size; have := HS.out; omega) (.cells #[.int .i64 x0, .int .i64 x1, .int .i64 x2, .int .i64 x3, .int .i64 x4] 23)); have HB3b := Lib.hid hb3; clear q0 q1 q2 q3 q4 p0 p1 p2 p3 p4 hb3)
    | (go_at_call 13; (with_reducible refine (books_Sawn.calls k4 x0 x1 x2 x3 x4 r e4 _ (HG.out.below HB3.out) H4.out).mono ?_); rintro e w4 ⟨v4, rfl, hR4, hb4⟩; have HR4 := Lib.hid hR4; obtain ⟨q0, q1, q2, q3, q4⟩ := box5 ((hb4.block w3.heap.size (by simp)).trans (new1 _ _ _ rfl)); have HB4 := Lib.hid (HB3.out.trans (hb4.mono (by have := HB3.out.size; omega))); have HB4b := Lib.hid hb4; clear hR4 hb4)
    | (go_at_call 20; (with_reducible refine (sawmilllaw52_awake.calls 100 true _ (HG.out.below HB4.out) awake_true).mono ?_); rintro e w5 ⟨rfl, hb5⟩; have HB5 := Lib.hid (HB4.out.trans (hb5.mono (by have := HB4.out.size; omega))); clear hb5)
    )
  go_ret
  exact ⟨rfl, HB5.out⟩
set_option maxRecDepth 100000 in
theorem sums_good (k1 k2 k3 k4 : Nat) (a b c d v a' b' c' d' v' : Int) (p q r : List S50) (e1 e2 e3 e4 x0 x1 x2 x3 x4 : Int) (w : World) (hG : GlobG w)
    (h1 : books_Sawn.f k1 a b c d v = some (p, e1)) (h2 : books_Sawn.f k2 a' b' c' d' v' = some (q, e2)) (h3 : yield_Add.f k3 a b c d v a' b' c' d' v' = some (x0, x1, x2, x3, x4, e3))
    (h4 : books_Sawn.f k4 x0 x1 x2 x3 x4 = some (r, e4))  (c0 : (e1 != 0) = false) (c1 : (e2 != 0) = false) (c2 : (e3 != 0) = false) (c3 : decide (72057594037927936 < x0) = false) (c4 : (e4 != 0) = false) (hp : p.length < 1000) (hq : q.length < 1000) (hr : r.length < 1000) (hj : ∀ j, j < 8 → amt r (nmT j) 0 = wrap64 (amt p (nmT j) 0 + amt q (nmT j) 0)) :
    Calls Tryd.prog 7 #[.agg #[.int .i64 a, .int .i64 b, .int .i64 c, .int .i64 d, .int .i64 v], .agg #[.int .i64 a', .int .i64 b', .int .i64 c', .int .i64 d', .int .i64 v']] w fun e w' => e = .returned (.bool true) ∧ Below w.heap.size w w' := by
  have hu23 := Tryd.underlying23
  have HB0 := Lib.hid (((Below.refl w.heap.size w).alloc (Nat.le_refl _) (.cells #[.int .i64 a, .int .i64 b, .int .i64 c, .int .i64 d, .int .i64 v] 23)).alloc (by simp) (.cells #[.int .i64 a', .int .i64 b', .int .i64 c', .int .i64 d', .int .i64 v'] 23))
  have HG := Lib.hid hG
  have H1 := Lib.hid h1
  have H2 := Lib.hid h2
  have H3 := Lib.hid h3
  have H4 := Lib.hid h4
  clear hG h1 h2 h3 h4
  have HJ := Lib.hid hj
  have HP := Lib.hid hp
  have HQ := Lib.hid hq
  have HRL := Lib.hid hr
  clear hj hp hq hr
  go_enter Tryd.func7, Tryd.ntmps7
  obtain ⟨W2, hW2⟩ : ∃ W2, W2 = ((w.alloc (.cells #[.int .i64 a, .int .i64 b, .int .i64 c, .int .i64 d, .int .i64 v] 23)).alloc (.cells #[.int .i64 a', .int .i64 b', .int .i64 c', .int .i64 d', .int .i64 v'] 23)) := ⟨_, rfl⟩
  have kA : W2.heap[w.heap.size]? = some (.cells #[.int .i64 a, .int .i64 b, .int .i64 c, .int .i64 d, .int .i64 v] 23) := by rw [hW2]; exact (old1 _ _ _ (by simp)).trans (new1 _ _ _ rfl)
  have kB : W2.heap[w.heap.size + 1]? = some (.cells #[.int .i64 a', .int .i64 b', .int .i64 c', .int .i64 d', .int .i64 v'] 23) := by rw [hW2]; exact new1 _ _ _ (by simp)
  have hs2 : W2.heap.size = w.heap.size + 2 := by rw [hW2]; simp
  rw [← hW2] at HB0
  have KA := Lib.hid kA
  have KB := Lib.hid kB
  have HS := Lib.hid hs2
  have HW := Lib.hid hW2
  clear kA kB hs2 hW2
  go_wp2_with (first
    | (go_at_call 13; rw [← HW.out]; (with_reducible refine (books_Sawn.calls k1 a b c d v p e1 _ (HG.out.below HB0.out) H1.out).mono ?_); rintro e w1 ⟨v1, rfl, hR1, hb1⟩; have HR1 := Lib.hid hR1; have HB1 := Lib.hid hb1; obtain ⟨q0, q1, q2, q3, q4⟩ := box5 ((hb1.block (w.heap.size + 1) (by rw [HS.out]; omega)).trans KB.out); clear hR1 hb1)
    | (go_at_call 13; (with_reducible refine (books_Sawn.calls k2 a' b' c' d' v' q e2 _ ((HG.out.below HB0.out).below HB1.out) H2.out).mono ?_); rintro e w2 ⟨v2, rfl, hR2, hb2⟩; have HR2 := Lib.hid hR2; have HB2 := Lib.hid hb2; clear q0 q1 q2 q3 q4; obtain ⟨p0, p1, p2, p3, p4⟩ := box5 ((hb2.block w.heap.size (by have := HB1.out.size; have := HS.out; omega)).trans ((HB1.out.block w.heap.size (by rw [HS.out]; omega)).trans KA.out)); obtain ⟨q0, q1, q2, q3, q4⟩ := box5 ((hb2.block (w.heap.size + 1) (by have := HB1.out.size; have := HS.out; omega)).trans ((HB1.out.block (w.heap.size + 1) (by rw [HS.out]; omega)).trans KB.out)); clear hR2 hb2)
    | (go_at_call 39; (with_reducible refine (yield_Add.calls k3 a b c d v a' b' c' d' v' x0 x1 x2 x3 x4 e3 _ H3.out).mono ?_); rintro e w3 ⟨rfl, hb3⟩; have HB3 := Lib.hid ((((HB0.out.trans (HB1.out.mono (by rw [HS.out]; omega))).trans (HB2.out.mono (by have := HB1.out.size; have := HS.out; omega))).trans (hb3.mono (by have := HB2.out.size; have := HB1.out.size; have := HS.out; omega))).alloc (by have := hb3.size; have := HB2.out.size; have := HB1.out.size; have := HS.out; omega) (.cells #[.int .i64 x0, .int .i64 x1, .int .i64 x2, .int .i64 x3, .int .i64 x4] 23)); have HB3b := Lib.hid hb3; clear q0 q1 q2 q3 q4 p0 p1 p2 p3 p4 hb3)
    | (go_at_call 13; (with_reducible refine (books_Sawn.calls k4 x0 x1 x2 x3 x4 r e4 _ (HG.out.below HB3.out) H4.out).mono ?_); rintro e w4 ⟨v4, rfl, hR4, hb4⟩; have HR4 := Lib.hid hR4; obtain ⟨q0, q1, q2, q3, q4⟩ := box5 ((hb4.block w3.heap.size (by simp)).trans (new1 _ _ _ rfl)); have HB4 := Lib.hid (HB3.out.trans (hb4.mono (by have := HB3.out.size; omega))); have HB4b := Lib.hid hb4; clear hR4 hb4)
    | (go_at_call 20; (with_reducible refine (sawmilllaw52_awake.calls 100 true _ (HG.out.below HB4.out) awake_true).mono ?_); rintro e w5 ⟨rfl, hb5⟩; have HB5 := Lib.hid (HB4.out.trans (hb5.mono (by have := HB4.out.size; omega))); clear hb5)
    | (go_at_call 31; (with_reducible refine (books_Accounts.calls names8 _ (HG.out.below HB4.out) rfl).mono ?_); rintro e w5 ⟨v5, rfl, hR5, hb5⟩; have HR5 := Lib.hid hR5; have HB5b := Lib.hid hb5; have HB5 := Lib.hid (HB4.out.trans (hb5.mono (by have := HB4.out.size; omega))); clear hR5 hb5)
    )
  have b34 : Below w3.heap.size w3 w4 := ((Below.refl _ _).alloc (Nat.le_refl _) _).trans (HB4b.out.mono (by simp))
  have b35 := b34.trans (HB5b.out.mono b34.size)
  have b25 := HB3b.out.trans (b35.mono HB3b.out.size)
  have b15 := HB2.out.trans (b25.mono HB2.out.size)
  obtain ⟨A1, y1, rfl⟩ := Kd.R_slice HR1.out
  obtain ⟨A2, y2, rfl⟩ := Kd.R_slice HR2.out
  obtain ⟨A4, y4, rfl⟩ := Kd.R_slice HR4.out
  obtain ⟨A5, y5, rfl⟩ := Kd.R_slice HR5.out
  have C1 := Lib.hid (Kd.C_below (Kd.R_reads' HR1.out).2.2 b15)
  have C2 := Lib.hid (Kd.C_below (Kd.R_reads' HR2.out).2.2 b25)
  have C4 := Lib.hid (Kd.C_below (Kd.R_reads' HR4.out).2.2 HB5b.out)
  have CN := Lib.hid (Kd.R_reads' HR5.out).2.2
  have L1 := Lib.hid (Kd.R_reads' HR1.out).2.1
  have L2 := Lib.hid (Kd.R_reads' HR2.out).2.1
  have L4 := Lib.hid (Kd.R_reads' HR4.out).2.1
  have n8 : names8.length = 8 := rfl
  clear b34 b35 b25 b15 q0 q1 q2 q3 q4
  go_loopw [14] (fun i wr => ∃ k nd : Nat, i = .int .i64 (k : Int) ∧ k ≤ 8 ∧ wr = w5.drewN nd) (fun i _ => 8 - (intOf i).toNat)
  case atStart => exact ⟨0, 0, rfl, by omega, rfl⟩
  case round =>
    obtain ⟨k, nd, rfl, hk, hwr⟩ := hrel
    have D1 := Lib.hid (show Kd.C k50 wr A1 p.length p by rw [hwr]; exact Kd.C_drewN C1.out _)
    have D2 := Lib.hid (show Kd.C k50 wr A2 q.length q by rw [hwr]; exact Kd.C_drewN C2.out _)
    have D4 := Lib.hid (show Kd.C k50 wr A4 r.length r by rw [hwr]; exact Kd.C_drewN C4.out _)
    have DN := Lib.hid (show Kd.C Kd.string wr A5 names8.length names8 by rw [hwr]; exact Kd.C_drewN CN.out _)
    have HWR := Lib.hid hwr
    clear hwr
    by_cases hlt : k < 8
    · obtain ⟨ad, e, hx⟩ := Kd.at_string DN.out (k : Int) (by omega) (by rw [n8]; omega)
      rw [names_at k hlt] at hx
      obtain ⟨kr, hr1⟩ := (amount_ev r (nmT k) HRL.out).rounds
      obtain ⟨kp, hp1⟩ := (amount_ev p (nmT k) HP.out).rounds
      obtain ⟨kq, hq1⟩ := (amount_ev q (nmT k) HQ.out).rounds
      have hj := HJ.out k hlt
      have HR9 := Lib.hid hr1
      have HP9 := Lib.hid hp1
      have HQ9 := Lib.hid hq1
      subst e
      rw [Int.toNat_natCast] at hx
      have b1 : (0 : Int) ≤ (k : Int) := by omega
      have b2 : (k : Int) < (names8.length : Int) := by rw [n8]; omega
      have t1 := eq_true b1
      have t2 := eq_true b2
      have hne : (amt r (nmT k) 0 != wrap64 (amt p (nmT k) 0 + amt q (nmT k) 0)) = false := by rw [hj]; simp
      clear hr1 hp1 hq1 hj
      go_wp2
      go_quiet (first
        | (go_at_call 40; (with_reducible refine (sawmillref52_Amount.calls kr A4 y4 r (nmT k) _ _ ?s1 L4.out HR9.out).mono ?_); (case s1 => exact Kd.C_drewN D4.out _); rintro e w' ⟨rfl, nd2, rfl⟩; exact ⟨rfl, _, World.drewN_drewN _ _ _⟩)
        | (go_at_call 40; (with_reducible refine (sawmillref52_Amount.calls kp A1 y1 p (nmT k) _ _ ?s1 L1.out HP9.out).mono ?_); (case s1 => exact Kd.C_drewN D1.out _); rintro e w' ⟨rfl, nd2, rfl⟩; exact ⟨rfl, _, World.drewN_drewN _ _ _⟩)
        | (go_at_call 40; (with_reducible refine (sawmillref52_Amount.calls kq A2 y2 q (nmT k) _ _ ?s1 L2.out HQ9.out).mono ?_); (case s1 => exact Kd.C_drewN D2.out _); rintro e w' ⟨rfl, nd2, rfl⟩; exact ⟨rfl, _, World.drewN_drewN _ _ _⟩))
      go_wp2
      go_roundw
      case rel => exact ⟨k + 1, _, by go_num, by omega, by rw [HWR.out]; exact World.drewN_drewN _ _ _⟩
      case measure => simp [intOf]; omega
    · have BW := Lib.hid (show Below w.heap.size w wr by rw [HWR.out]; exact ⟨HB5.out.os, HB5.out.tape, HB5.out.output, HB5.out.size, HB5.out.block⟩)
      have b2 : ¬ ((k : Int) < (names8.length : Int)) := by rw [n8]; omega
      have t2 := eq_false b2
      go_wp2_with (go_at_call 20; (with_reducible refine (sawmilllaw52_awake.calls 100 true _ (HG.out.below BW.out) awake_true).mono ?_); rintro e w6 ⟨rfl, hb6⟩; have HB6 := Lib.hid (BW.out.trans (hb6.mono BW.out.size)); clear hb6)
      go_ret
      exact ⟨rfl, HB6.out⟩
theorem sumsWalk (a b c d v a' b' c' d' v' : Int) (W : World) (hb : I64 b) (hc : I64 c) (hd : I64 d) (hb' : I64 b') (hc' : I64 c') (hd' : I64 d') (hG : GlobG W) :
    Calls Tryd.prog 7 #[.agg #[.int .i64 a, .int .i64 b, .int .i64 c, .int .i64 d, .int .i64 v], .agg #[.int .i64 a', .int .i64 b', .int .i64 c', .int .i64 d', .int .i64 v']] W fun e w' => e = .returned (.bool true) ∧ Below W.heap.size W w' := by
  have hin := addM_in a b c d v a' b' c' d' v'
  obtain ⟨k1, h1⟩ := (sawn_ev a b c d v hb hc hd).rounds
  obtain ⟨k2, h2⟩ := (sawn_ev a' b' c' d' v' hb' hc' hd').rounds
  obtain ⟨k3, h3⟩ := (add_ev a b c d v a' b' c' d' v').rounds
  obtain ⟨p, e1, hS1⟩ : ∃ p e1, sawnM a b c d = (p, e1) := ⟨_, _, rfl⟩
  obtain ⟨q, e2, hS2⟩ : ∃ p e1, sawnM a' b' c' d' = (p, e1) := ⟨_, _, rfl⟩
  obtain ⟨x0, x1, x2, x3, x4, e3, hA⟩ : ∃ x0 x1 x2 x3 x4 e3, addM a b c d v a' b' c' d' v' = (x0, x1, x2, x3, x4, e3) := ⟨_, _, _, _, _, _, rfl⟩
  rw [hA] at hin h3
  obtain ⟨k4, h4⟩ := (sawn_ev x0 x1 x2 x3 x4 hin.1 hin.2.1 hin.2.2).rounds
  obtain ⟨r, e4, hS4⟩ : ∃ p e1, sawnM x0 x1 x2 x3 = (p, e1) := ⟨_, _, rfl⟩
  rw [hS1] at h1
  rw [hS2] at h2
  rw [hS4] at h4
  by_cases e1z : e1 = 0
  · by_cases e2z : e2 = 0
    · by_cases e3z : e3 = 0
      · by_cases e4z : x0 ≤ 72057594037927936
        · obtain ⟨p1, p2, p3⟩ := sawnM_ok (a := a) (b := b) (c := c) (d := d) (by rw [hS1]; exact e1z)
          obtain ⟨q1, q2, q3⟩ := sawnM_ok (a := a') (b := b') (c := c') (d := d') (by rw [hS2]; exact e2z)
          have l1 := sawnM_len a b c d
          have l2 := sawnM_len a' b' c' d'
          have l3 := sawnM_len x0 x1 x2 x3
          rw [hS1] at l1
          rw [hS2] at l2
          rw [hS4] at l3
          have s1 := bal_small p1
          have s2 := bal_small q1
          have ha : addM a b c d v a' b' c' d' v' = (wrap64 (a + a'), wrap64 (b + b'), wrap64 (c + c'), wrap64 (d + d'), wrap64 (v + v'), 0) := by
            unfold addM at hA ⊢
            by_cases w1 : wM [a, b, c, d] v = true
            · rw [if_pos w1] at hA ⊢
              by_cases w2 : wM [a', b', c', d'] v' = true
              · rw [if_pos w2]
              · rw [if_neg w2] at hA; simp at hA; omega
            · rw [if_neg w1] at hA; simp at hA; omega
          rw [ha] at hA
          simp only [Prod.mk.injEq] at hA
          obtain ⟨rfl, rfl, rfl, rfl, rfl, rfl⟩ := hA
          have ea : wrap64 (a + a') = a + a' := by unfold wrap64; omega
          have eb : wrap64 (b + b') = b + b' := by unfold wrap64; omega
          have ec : wrap64 (c + c') = c + c' := by unfold wrap64; omega
          have ed : wrap64 (d + d') = d + d' := by unfold wrap64; omega
          have hbal : balM (a + a') (b + b') (c + c') (d + d') = true := by
            unfold balM wM
            simp only [List.all_cons, List.all_nil, Bool.and_true, Bool.and_eq_true, decide_eq_true_eq, beq_iff_eq]
            unfold wrap64 at e4z ⊢
            omega
          have hs : sawnM (a + a') (b + b') (c + c') (d + d') = (bpost (sawnL (a + a') (b + b') (c + c') (d + d')), 0) := by
            unfold sawnM
            rw [if_pos hbal, if_neg (by unfold wrap64 at e4z; omega)]
          rw [ea, eb, ec, ed, hs] at hS4
          rw [p3] at hS1
          rw [q3] at hS2
          simp only [Prod.mk.injEq] at hS1 hS2 hS4
          obtain ⟨rfl, rfl⟩ := hS1
          obtain ⟨rfl, rfl⟩ := hS2
          obtain ⟨rfl, rfl⟩ := hS4
          refine sums_good k1 k2 k3 k4 a b c d v a' b' c' d' v' _ _ _ _ _ _ _ _ _ _ _ _ W hG h1 h2 h3 h4 rfl rfl rfl (by simpa using e4z) rfl l1 l2 l3 (fun j hj => ?_)
          rw [sawn_at _ _ _ _ (by unfold I64; omega) (by unfold I64; omega) (by unfold I64; omega) j hj, sawn_at _ _ _ _ hb hc hd j hj, sawn_at _ _ _ _ hb' hc' hd' j hj]
          split
          · unfold wrap64; omega
          · split
            · unfold wrap64; omega
            · split
              · unfold wrap64; omega
              · split
                · unfold wrap64; omega
                · unfold wrap64; omega
        · exact sums_bad3 k1 k2 k3 k4 a b c d v a' b' c' d' v' _ _ _ _ _ _ _ _ _ _ _ _ W hG h1 h2 h3 h4 (by simpa using e1z) (by simpa using e2z) (by simpa using e3z) (by simp; omega)
      · exact sums_bad2 k1 k2 k3 k4 a b c d v a' b' c' d' v' _ _ _ _ _ _ _ _ _ _ _ _ W hG h1 h2 h3 h4 (by simpa using e1z) (by simpa using e2z) (by simpa using e3z)
    · exact sums_bad1 k1 k2 k3 k4 a b c d v a' b' c' d' v' _ _ _ _ _ _ _ _ _ _ _ _ W hG h1 h2 h3 h4 (by simpa using e1z) (by simpa using e2z)
  · exact sums_bad0 k1 k2 k3 k4 a b c d v a' b' c' d' v' _ _ _ _ _ _ _ _ _ _ _ _ W hG h1 h2 h3 h4 (by simpa using e1z)
end Go.Proofs.YtjdcpddcngcioaaDoor.BooksPlain
