/- A slice of steps among the arguments, opened as a list of steps. -/
import Derived.Test.YtmbelohcebfdcaaAwake
import Derived.ProofKit
import Derived.OpenShut
import Derived.Deep.Slices
import Derived.Deep.Fields
import Derived.Deep.Strs
import Derived.SizedLaws
import Derived.ChangeOld
set_option linter.unusedVariables false
set_option linter.unusedSimpArgs false
namespace Go.Proofs.Ytmbelohcebfdcaa.Acc
open Go.RowKit Go.Maps
theorem cells36 : Try.prog.cellsOf 36 = 3 := by kernel_rfl
theorem cells3 : Try.prog.cellsOf 3 = 1 := by kernel_rfl
theorem cells4 : Try.prog.cellsOf 4 = 1 := by kernel_rfl
/-- The steps lie in w from A on. -/
def Steps (w : World) (A : Option Addr) (zs : List (Bool × Int × Int)) : Prop := ∀ i, (h : i < zs.length) → ∃ ad, A = some ad ∧ ad.block < w.heap.size ∧
  w.cell? (ad.add (i * 3)) = some (.bool zs[i].1) ∧ w.cell? ⟨(ad.add (i * 3)).block, (ad.add (i * 3)).off + 1, none⟩ = some (.int .i64 zs[i].2.1) ∧ w.cell? ⟨(ad.add (i * 3)).block, (ad.add (i * 3)).off + 2, none⟩ = some (.int .i64 zs[i].2.2)
theorem Steps.below {w w' : World} {A : Option Addr} {zs : List (Bool × Int × Int)} {B : Nat} (h : Steps w A zs) (hb : Below B w w') (hB : w.heap.size ≤ B) : Steps w' A zs := by
  intro i hi
  obtain ⟨ad, hA, hl, h0, h1, h2⟩ := h i hi
  have e : (ad.add (i * 3)).block = ad.block := add_blk ad _
  exact ⟨ad, hA, Nat.lt_of_lt_of_le hl hb.size, (hb.cell (by rw [e]; omega)).trans h0, (hb.cell (by simp only [e]; omega)).trans h1, (hb.cell (by simp only [e]; omega)).trans h2⟩
set_option maxRecDepth 100000 in
theorem open_steps {H : Type} {enc : TypeId × Value → H} {w : World} {base : Nat} {spare : Nat → Bool} {held : Bool} {r : Reach} {b0 : Nat} {v : Value} {d : DataW H} {p : List MemPlace}
    (hv : Value.okWide Try.prog w r b0 23 v) (h : DataW.Trod enc Try.prog w base spare held 23 v d p) :
    ∃ a cap zs, v = .slice a zs.length cap ∧ Steps w a zs := by
  obtain ⟨a, len, cap, rfl⟩ := Go.WideShapes.okWide_slice Try.underlying23 hv
  obtain ⟨fuel, hf⟩ := h
  rcases Go.Deep.open_slice Try.underlying23 hf with ⟨hcs, _⟩ | ⟨a', len', cap', m, n, D, Pl, hcs, _, hle, hmax, hm, _, hel⟩
  · simp [Value.cells] at hcs
    obtain ⟨rfl, rfl, rfl⟩ := hcs
    exact ⟨none, 0, [], rfl, fun i hi => by simp at hi⟩
  · simp [Value.cells] at hcs
    obtain ⟨rfl, rfl, rfl⟩ := hcs
    have hlm : len ≤ m := by rw [hm]; split <;> omega
    have one : ∀ i, i < len → ∃ z : Bool × Int × Int, a'.block < w.heap.size ∧ w.cell? (a'.add (i * 3)) = some (.bool z.1) ∧ w.cell? ⟨(a'.add (i * 3)).block, (a'.add (i * 3)).off + 1, none⟩ = some (.int .i64 z.2.1) ∧ w.cell? ⟨(a'.add (i * 3)).block, (a'.add (i * 3)).off + 2, none⟩ = some (.int .i64 z.2.2) := by
      intro i hi
      obtain ⟨cs', hc, hx⟩ := hel i (by omega)
      rw [cells36] at hc
      obtain ⟨_, hl, hg⟩ := World.cells?_some hc
      obtain ⟨xs, k, _, _, _, hlen, hfs⟩ := DataW.trod_struct Try.underlying36 hx
      match cs', hl with
      | [c0, c1, c2], _ =>
        have e0 := hfs 0 _ rfl
        have e1 := hfs 1 _ rfl
        have e2 := hfs 2 _ rfl
        match xs, hlen with
        | [y0, y1, y2], _ =>
          obtain ⟨b, hb, _⟩ := DataW.trod_bool Try.underlying4 (show DataW.trod enc Try.prog w base spare held k 4 [c0] = some y0 from e0)
          obtain ⟨q, hq, _⟩ := DataW.trod_int Try.underlying3 (show DataW.trod enc Try.prog w base spare held k 3 [c1] = some y1 from e1)
          obtain ⟨u, hu, _⟩ := DataW.trod_int Try.underlying3 (show DataW.trod enc Try.prog w base spare held k 3 [c2] = some y2 from e2)
          simp only [List.cons.injEq, and_true] at hb hq hu
          subst hb hq hu
          refine ⟨(b, q, u), ?_, ?_, ?_, ?_⟩
          · have := World.cells?_block hc (by omega)
            rwa [add_blk] at this
          · exact hg 0 (by omega)
          · exact hg 1 (by omega)
          · exact hg 2 (by omega)
    refine ⟨some a', cap, List.ofFn (n := len) fun i => Classical.choose (one i.1 i.2), by rw [List.length_ofFn], fun i hi => ⟨a', rfl, ?_⟩⟩
    have hi2 : i < len := by simpa using hi
    have := Classical.choose_spec (one i hi2)
    rw [List.getElem_ofFn]
    exact this
/-- An array of integers by value among the arguments. -/
theorem open_arr {H : Type} {enc : TypeId × Value → H} {w : World} {base : Nat} {spare : Nat → Bool} {held : Bool} {r : Reach} {b0 n : Nat} {t : TypeId} {v : Value} {d : DataW H} {p : List MemPlace}
    (ht : Try.prog.underlying t = some (.array n 3)) (hC : Try.prog.cellsOf t = n) (hv : Value.okWide Try.prog w r b0 t v) (h : DataW.Trod enc Try.prog w base spare held t v d p) : ∃ l : List Value, v = .agg ⟨l⟩ ∧ l.length = n ∧ ∀ i, (hi : i < l.length) → ∃ a, l[i] = .int .i64 a := by
  simp only [Value.okWide, ht] at hv
  obtain ⟨⟨l⟩, rfl, hsz, _⟩ := hv
  have hl : l.length = n := by rw [← hC]; simpa using hsz
  refine ⟨l, rfl, hl, fun i hi => ?_⟩
  obtain ⟨fuel, hx⟩ := h
  obtain ⟨xs, m, _, _, _, hlen, hg⟩ := DataW.trod_array ht hx
  have he := hg i (by omega)
  rw [cells3, Nat.mul_one] at he
  have hcl : (l.drop i).take 1 = [l[i]] := by
    rw [List.take_one, List.head?_drop, List.getElem?_eq_getElem hi]
    rfl
  simp only [Value.cells] at he
  rw [hcl, List.getElem?_eq_getElem (show i < xs.length by omega)] at he
  obtain ⟨a, ha, _⟩ := DataW.trod_int Try.underlying3 he
  simp only [List.cons.injEq, and_true] at ha
  exact ⟨a, ha⟩
theorem cells40 : Try.prog.cellsOf 40 = 2 := by kernel_rfl
theorem cells22 : Try.prog.cellsOf 22 = 3 := by kernel_rfl
theorem open_arr2 {H : Type} {enc : TypeId × Value → H} {w : World} {base : Nat} {spare : Nat → Bool} {held : Bool} {r : Reach} {b0 : Nat} {v : Value} {d : DataW H} {p : List MemPlace}
    (hv : Value.okWide Try.prog w r b0 40 v) (h : DataW.Trod enc Try.prog w base spare held 40 v d p) : ∃ a b, v = .agg #[.int .i64 a, .int .i64 b] := by
  obtain ⟨l, rfl, hl, hg⟩ := open_arr Try.underlying40 cells40 hv h
  match l, hl with
  | [x, y], _ =>
    obtain ⟨a, ha⟩ := hg 0 (by simp)
    obtain ⟨b, hb⟩ := hg 1 (by simp)
    simp only [List.getElem_cons_zero, List.getElem_cons_succ] at ha hb
    exact ⟨a, b, by rw [ha, hb]⟩
theorem open_arr3 {H : Type} {enc : TypeId × Value → H} {w : World} {base : Nat} {spare : Nat → Bool} {held : Bool} {r : Reach} {b0 : Nat} {v : Value} {d : DataW H} {p : List MemPlace}
    (hv : Value.okWide Try.prog w r b0 22 v) (h : DataW.Trod enc Try.prog w base spare held 22 v d p) : ∃ a b c, v = .agg #[.int .i64 a, .int .i64 b, .int .i64 c] := by
  obtain ⟨l, rfl, hl, hg⟩ := open_arr Try.underlying22 cells22 hv h
  match l, hl with
  | [x, y, z], _ =>
    obtain ⟨a, ha⟩ := hg 0 (by simp)
    obtain ⟨b, hb⟩ := hg 1 (by simp)
    obtain ⟨c, hc⟩ := hg 2 (by simp)
    simp only [List.getElem_cons_zero, List.getElem_cons_succ] at ha hb hc
    exact ⟨a, b, c, by rw [ha, hb, hc]⟩
end Go.Proofs.Ytmbelohcebfdcaa.Acc
