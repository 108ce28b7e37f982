/- From a row's condition on the package's table, and from expressions, features and rules among the arguments, to what the walks ask. -/
import Derived.Test.YthdgofbchfcfcaaDoorRows
import Derived.Test.YthdgofbchfcfcaaDoorRuleBase
import Derived.ProofKit
import Derived.Deep.Slices
import Derived.Deep.Fields
import Derived.Deep.Strs
import Derived.Lib.LaidTab
import Derived.Lib.SmallJoins
set_option linter.unusedVariables false
set_option linter.unusedSimpArgs false
namespace Go.Proofs.YthdgofbchfcfcaaDoor.RuleRow
open Go.ChangeShapes Go.WideShapes Go.ChangeAt Go.RowKit Go.Deep
open Go.Proofs.YthdgofbchfcfcaaDoorW.PrintWords Go.Proofs.YthdgofbchfcfcaaDoorW.PrintLast Go.Proofs.YthdgofbchfcfcaaDoorW.PrintMore
open Go.Proofs.YthdgofbchfcfcaaDoor.PRu
theorem gForms : Tryd.prog.globalNamed "sawmill/rule.forms" = some 0 := by kernel_rfl
theorem gFormsType : (Tryd.prog.globals[0]?).map (·.type) = some 71 := by kernel_rfl
theorem cells71 : Tryd.prog.cellsOf 71 = 36 := by kernel_rfl
theorem cells70 : Tryd.prog.cellsOf 70 = 3 := by kernel_rfl
theorem cells3 : Tryd.prog.cellsOf 3 = 1 := by kernel_rfl
theorem cells4 : Tryd.prog.cellsOf 4 = 1 := by kernel_rfl
theorem cells9 : Tryd.prog.cellsOf 9 = 1 := by kernel_rfl
theorem cells22 : Tryd.prog.cellsOf 22 = 1 := by kernel_rfl
theorem cells24 : Tryd.prog.cellsOf 24 = 4 := by kernel_rfl
theorem cells40 : Tryd.prog.cellsOf 40 = 2 := by kernel_rfl
theorem cells47 : Tryd.prog.cellsOf 47 = 5 := by kernel_rfl
theorem under22 : Tryd.prog.underlying 22 = some (.slice 24) := by kernel_rfl
variable {H : Type} {enc : TypeId × Value → H} {w : World} {base : Nat} {spare : Nat → Bool} {held : Bool}
/-- A slice whose elements can be opened. -/
theorem open_sl {α : Type} {t e : TypeId} {d : Kd α} {fuel : Nat} {v : Value} {x : DataW H × List MemPlace} (ht : Tryd.prog.underlying t = some (.slice e)) (hsz : d.sz = Tryd.prog.cellsOf e)
    (hel : ∀ n, n < fuel → ∀ cs y, DataW.trod enc Tryd.prog w base spare held n e cs = some y → ∃ z : α, d.K w z cs) (h : DataW.trod enc Tryd.prog w base spare held fuel t [v] = some x) :
    ∃ A c, ∃ l : List α, v = .slice A l.length c ∧ l.length ≤ c ∧ d.C w A l.length l := by
  rcases DataW.trod_slice ht h with ⟨hcs, _⟩ | ⟨a, len, cap, elems, rest, n, rfl, hcs, _, _, hlc, hmax, hlen, hg, _, _⟩
  · simp at hcs
    exact ⟨none, 0, [], hcs, Nat.le_refl _, Kd.C_nil d w⟩
  · simp at hcs
    subst hcs
    have one : ∀ i, i < len → ∃ z : α, ∃ cs', w.cells? base (a.add (i * Tryd.prog.cellsOf e)) (Tryd.prog.cellsOf e) = some cs' ∧ d.K w z cs' := by
      intro i hi
      have h1 := hg i hi
      rw [List.getElem?_eq_getElem (by omega)] at h1
      obtain ⟨cs', h2, h3⟩ := Option.bind_eq_some_iff.1 h1
      obtain ⟨z, hz⟩ := hel n (by omega) cs' _ h3
      exact ⟨z, cs', h2, hz⟩
    refine ⟨some a, cap, List.ofFn (n := len) fun i => Classical.choose (one i.1 i.2), by rw [List.length_ofFn], by rw [List.length_ofFn]; exact hlc, rfl, ?_, fun _ => ⟨a, rfl, ?_⟩⟩
    · rw [List.length_ofFn]
      have : len ≤ 2 ^ 63 - 1 := Nat.le_trans hlc hmax
      omega
    · intro j p hp
      have hj : j < len := by
        have := (List.getElem?_eq_some_iff.1 hp).1
        rwa [List.length_ofFn] at this
      rw [List.getElem?_eq_getElem (by rwa [List.length_ofFn]), List.getElem_ofFn] at hp
      obtain ⟨cs', hc, hK⟩ := Classical.choose_spec (one j hj)
      obtain rfl := Option.some.inj hp
      obtain ⟨_, hl, hcell⟩ := World.cells?_some hc
      refine ⟨cs', hl.trans hsz.symm, hK, fun i u hu => ?_⟩
      have hi : i < Tryd.prog.cellsOf e := by
        have := (List.getElem?_eq_some_iff.1 hu).1
        omega
      have h4 := hcell i hi
      rw [hsz, ← hu, ← h4, Addr.add_add]
theorem one {cs : List Value} {k : Nat} (h : k < cs.length) : (cs.drop k).take 1 = [cs[k]] := by
  rw [List.take_one, List.head?_drop, List.getElem?_eq_getElem h]
  rfl
theorem isInt {n : Nat} {c : Value} {y : DataW H × List MemPlace} (h : DataW.trod enc Tryd.prog w base spare held n 3 [c] = some y) : ∃ a, c = .int .i64 a := by
  obtain ⟨a, hc, _⟩ := DataW.trod_int Tryd.underlying3 h
  simp only [List.cons.injEq, and_true] at hc
  exact ⟨a, hc⟩
theorem isStr {n : Nat} {c : Value} {y : DataW H × List MemPlace} (h : DataW.trod enc Tryd.prog w base spare held n 9 [c] = some y) : ∃ a, c = .string a := by
  obtain ⟨a, hc, _⟩ := DataW.trod_string Tryd.underlying9 h
  simp only [List.cons.injEq, and_true] at hc
  exact ⟨a, hc⟩
set_option maxRecDepth 100000 in
/-- An expression's cells. -/
theorem e24 : ∀ (fuel : Nat) (cs : List Value) (y : DataW H × List MemPlace), DataW.trod enc Tryd.prog w base spare held fuel 24 cs = some y → ∃ x : S24, k24.K w x cs := by
  intro fuel
  induction fuel using Nat.strongRecOn with
  | ind fuel ih =>
    intro cs y h
    obtain ⟨xs, n, rfl, _, hl, hlen, hf⟩ := DataW.trod_struct Tryd.underlying24 h
    rw [cells24] at hl
    match cs, hl with
    | [c0, c1, c2, c3], _ =>
      have e0 := hf 0 _ rfl
      have e1 := hf 1 _ rfl
      have e2 := hf 2 _ rfl
      have e3 := hf 3 _ rfl
      match xs, hlen with
      | [y0, y1, y2, y3], _ =>
        obtain ⟨a, rfl⟩ := isInt (show DataW.trod enc Tryd.prog w base spare held n 3 [c0] = some y0 from e0)
        obtain ⟨b, rfl⟩ := isInt (show DataW.trod enc Tryd.prog w base spare held n 3 [c1] = some y1 from e1)
        obtain ⟨s, rfl⟩ := isStr (show DataW.trod enc Tryd.prog w base spare held n 9 [c2] = some y2 from e2)
        obtain ⟨A, c, l, rfl, hlc, hC⟩ := open_sl (d := k24) under22 (sz24 0 ▸ cells24.symm ▸ rfl) (fun m hm cs y hy => ih m (by omega) cs y hy) (show DataW.trod enc Tryd.prog w base spare held n 22 [c3] = some y3 from e3)
        exact ⟨⟨a, b, s, l⟩, k24_mk w ⟨a, b, s, l⟩ hlc hC⟩
set_option maxRecDepth 100000 in
theorem e40 (fuel : Nat) (cs : List Value) (y : DataW H × List MemPlace) (h : DataW.trod enc Tryd.prog w base spare held fuel 40 cs = some y) : ∃ x : S40, k40.K w x cs := by
  obtain ⟨xs, n, rfl, _, hl, hlen, hf⟩ := DataW.trod_struct Tryd.underlying40 h
  rw [cells40] at hl
  match cs, hl with
  | [c0, c1], _ =>
    have e0 := hf 0 _ rfl
    have e1 := hf 1 _ rfl
    match xs, hlen with
    | [y0, y1], _ =>
      obtain ⟨s, rfl⟩ := isStr (show DataW.trod enc Tryd.prog w base spare held n 9 [c0] = some y0 from e0)
      obtain ⟨a, rfl⟩ := isInt (show DataW.trod enc Tryd.prog w base spare held n 3 [c1] = some y1 from e1)
      exact ⟨⟨s, a⟩, k40_mk w ⟨s, a⟩⟩
set_option maxRecDepth 100000 in
theorem e47 (fuel : Nat) (cs : List Value) (y : DataW H × List MemPlace) (h : DataW.trod enc Tryd.prog w base spare held fuel 47 cs = some y) : ∃ x : S47, k47.K w x cs := by
  obtain ⟨xs, n, rfl, _, hl, hlen, hf⟩ := DataW.trod_struct Tryd.underlying47 h
  rw [cells47] at hl
  match cs, hl with
  | [c0, c1, c2, c3, c4], _ =>
    have e0 := hf 0 _ rfl
    have e1 := hf 1 _ rfl
    match xs, hlen with
    | [y0, y1], _ =>
      obtain ⟨a, rfl⟩ := isInt (show DataW.trod enc Tryd.prog w base spare held n 3 [c0] = some y0 from e0)
      obtain ⟨x, hx⟩ := e24 n _ y1 (show DataW.trod enc Tryd.prog w base spare held n 24 [c1, c2, c3, c4] = some y1 from e1)
      obtain ⟨A3, c3', he, l3, g3⟩ := k24_open hx
      simp only [List.cons.injEq, and_true] at he
      obtain ⟨rfl, rfl, rfl, rfl⟩ := he
      exact ⟨⟨a, x⟩, k47_mk w ⟨a, x⟩ l3 g3⟩
set_option maxRecDepth 100000 in
theorem open_expr {r : Reach} {b0 : Nat} {v : Value} {d : DataW H} {p : List MemPlace} (hv : Value.okWide Tryd.prog w r b0 24 v) (h : DataW.Trod enc Tryd.prog w base spare held 24 v d p) :
    ∃ (x : S24) (A : Option Addr) (c : Nat), v = .agg #[.int .i64 x.f0, .int .i64 x.f1, .string x.f2, .slice A x.f3.length c] ∧ x.f3.length ≤ c ∧ k24.C w A x.f3.length x.f3 := by
  obtain ⟨⟨cs⟩, rfl, _⟩ := okWide_struct Tryd.underlying24 hv
  obtain ⟨fuel, hx⟩ := h
  obtain ⟨x, hK⟩ := e24 fuel _ _ hx
  obtain ⟨A, c, he, hl, hC⟩ := k24_open hK
  have he : cs = _ := he
  subst he
  exact ⟨x, A, c, rfl, hl, hC⟩
set_option maxRecDepth 100000 in
theorem open_feature {r : Reach} {b0 : Nat} {v : Value} {d : DataW H} {p : List MemPlace} (hv : Value.okWide Tryd.prog w r b0 40 v) (h : DataW.Trod enc Tryd.prog w base spare held 40 v d p) :
    ∃ (x : S40), v = .agg #[.string x.f0, .int .i64 x.f1] := by
  obtain ⟨⟨cs⟩, rfl, _⟩ := okWide_struct Tryd.underlying40 hv
  obtain ⟨fuel, hx⟩ := h
  obtain ⟨x, hK⟩ := e40 fuel _ _ hx
  have he : cs = _ := k40_open hK
  subst he
  exact ⟨x, rfl⟩
theorem open_features {r : Reach} {b0 : Nat} {v : Value} {d : DataW H} {p : List MemPlace} (hv : Value.okWide Tryd.prog w r b0 25 v) (h : DataW.Trod enc Tryd.prog w base spare held 25 v d p) :
    ∃ (A : Option Addr) (c : Nat) (l : List S40), v = .slice A l.length c ∧ l.length ≤ c ∧ k40.C w A l.length l := by
  obtain ⟨a, len, cap, rfl⟩ := okWide_slice Tryd.underlying25 hv
  obtain ⟨fuel, hx⟩ := h
  exact open_sl (d := k40) Tryd.underlying25 cells40.symm (fun n _ cs y hy => e40 n cs y hy) hx
theorem open_rules {r : Reach} {b0 : Nat} {v : Value} {d : DataW H} {p : List MemPlace} (hv : Value.okWide Tryd.prog w r b0 42 v) (h : DataW.Trod enc Tryd.prog w base spare held 42 v d p) :
    ∃ (A : Option Addr) (c : Nat) (l : List S47), v = .slice A l.length c ∧ l.length ≤ c ∧ k47.C w A l.length l := by
  obtain ⟨a, len, cap, rfl⟩ := okWide_slice Tryd.underlying42 hv
  obtain ⟨fuel, hx⟩ := h
  exact open_sl (d := k47) Tryd.underlying42 cells47.symm (fun n _ cs y hy => e47 n cs y hy) hx
/-! the table -/
theorem chunks : ∀ (zs : List (Int × Bool × Bool)) (cs : List Value), cs.length = 3 * zs.length → (∀ i z, zs[i]? = some z → (cs.drop (i * 3)).take 3 = [.int .i64 z.1, .bool z.2.1, .bool z.2.2]) → cs = zs.flatMap fun z => [.int .i64 z.1, .bool z.2.1, .bool z.2.2]
  | [], cs, h, _ => by
    rw [List.length_nil, Nat.mul_zero] at h
    rw [List.length_eq_zero_iff.1 h]; rfl
  | z :: zs, cs, h, hz => by
    rw [List.length_cons] at h
    have h0 := hz 0 z rfl
    rw [Nat.zero_mul, List.drop_zero] at h0
    have ih := chunks zs (cs.drop 3) (by rw [List.length_drop]; omega) (fun i z' hi => by
      have := hz (i + 1) z' (by rw [List.getElem?_cons_succ]; exact hi)
      rw [List.drop_drop]
      rwa [show 3 + i * 3 = (i + 1) * 3 by omega])
    rw [List.flatMap_cons, ← h0, ← ih, List.take_append_drop]
def zForms : List (Int × Bool × Bool) := [(0, false, false), (0, false, false), (0, false, false), (2, false, false), (2, false, false), (2, false, false), (2, false, true), (2, false, true), (2, false, true), (1, true, true), (2, true, true), (2, true, true)]
set_option maxRecDepth 100000 in
theorem form_cells {fuel : Nat} {cs : List Value} {a : Int} {b c : Bool} {p : List MemPlace} (h : DataW.trod enc Tryd.prog w base spare held fuel 70 cs = some (.agg [.lit (.int .i64 a), .lit (.bool b), .lit (.bool c)], p)) : cs = [.int .i64 a, .bool b, .bool c] := by
  obtain ⟨xs, n, rfl, hx, hl, hlen, hf⟩ := DataW.trod_struct (by kernel_rfl : Tryd.prog.underlying 70 = some (.struct #[{ name := "args", type := 3, offset := 0, embedded := false, tag := "", pkgPath := "sawmill/rule", byteOffset := 0 }, { name := "takes", type := 4, offset := 1, embedded := false, tag := "", pkgPath := "sawmill/rule", byteOffset := 8 }, { name := "condition", type := 4, offset := 2, embedded := false, tag := "", pkgPath := "sawmill/rule", byteOffset := 9 }])) h
  rw [cells70] at hl
  match cs, hl with
  | [c0, c1, c2], _ =>
    have e0 := hf 0 _ rfl
    have e1 := hf 1 _ rfl
    have e2 := hf 2 _ rfl
    match xs, hlen with
    | [y0, y1, y2], _ =>
      obtain ⟨a', hc0, rfl, _⟩ := DataW.trod_int Tryd.underlying3 (show DataW.trod enc Tryd.prog w base spare held n 3 [c0] = some y0 from e0)
      obtain ⟨b', hc1, rfl⟩ := DataW.trod_bool Tryd.underlying4 (show DataW.trod enc Tryd.prog w base spare held n 4 [c1] = some y1 from e1)
      obtain ⟨c', hc2, rfl⟩ := DataW.trod_bool Tryd.underlying4 (show DataW.trod enc Tryd.prog w base spare held n 4 [c2] = some y2 from e2)
      simp only [List.cons.injEq, and_true] at hc0 hc1 hc2
      subst hc0 hc1 hc2
      simp at hx
      obtain ⟨⟨rfl, rfl, rfl⟩, _⟩ := hx
      rfl
set_option maxRecDepth 100000 in
theorem globG {W : World} {rest : List (String × DataW Unit)} (h : laidMet Tryd.prog (("sawmill/rule.forms", Rows.laid_sawmill_rule_forms) :: rest) W) : GlobG W := by
  obtain ⟨ps, ⟨g', t', cs, fuel, p, q, hg', ht', hvar, hd, _, _⟩, _⟩ := h
  obtain rfl := Option.some.inj (gForms.symm.trans hg')
  obtain rfl := Option.some.inj (gFormsType.symm.trans ht')
  obtain ⟨xs, m, rfl, hx, hl, hlen, hg⟩ := DataW.trod_array (by kernel_rfl : Tryd.prog.underlying 71 = some (.array 12 70)) hd
  rw [cells71] at hl
  have hxs : xs.map (·.1) = zForms.map fun z => (.agg [.lit (.int .i64 z.1), .lit (.bool z.2.1), .lit (.bool z.2.2)] : DataW Unit) := by
    have := congrArg Prod.fst hx
    simp only [Rows.laid_sawmill_rule_forms, DataW.agg.injEq] at this
    exact this.symm
  have hcs : cs.toList = _ := chunks zForms cs.toList (by rw [hl]; rfl) (fun i z hz => by
    have hi : i < 12 := (List.getElem?_eq_some_iff.1 hz).1
    have h1 := hg i hi
    rw [cells70] at h1
    rw [List.getElem?_eq_getElem (by omega)] at h1
    refine form_cells (p := (xs[i]'(by omega)).2) (h1.trans ?_)
    have h2 : (xs.map (·.1))[i]? = (zForms.map fun z => (.agg [.lit (.int .i64 z.1), .lit (.bool z.2.1), .lit (.bool z.2.2)] : DataW Unit))[i]? := by rw [hxs]
    rw [List.getElem?_map, List.getElem?_map, hz, List.getElem?_eq_getElem (by omega)] at h2
    have h3 := Option.some.inj h2
    exact congrArg some (Prod.ext h3 rfl))
  have hcs2 : cs = ⟨zForms.flatMap fun z => [.int .i64 z.1, .bool z.2.1, .bool z.2.2]⟩ := Array.ext' hcs
  subst hcs2
  unfold World.var? at hvar
  rw [gForms] at hvar
  simp only [Option.bind_some] at hvar
  unfold GlobG
  split at hvar
  · rename_i c t fr hh
    exact ⟨t, fr, by rw [hh, Option.some.inj hvar]; rfl⟩
  · cases hvar
end Go.Proofs.YthdgofbchfcfcaaDoor.RuleRow
