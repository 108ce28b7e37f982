/- From a row's condition on the package's table, and from a struct among the arguments, to what the walks ask. -/
import Derived.Test.YtjdcpddcngcioaaDoorRows
import Derived.Test.YtjdcpddcngcioaaDoorBooksLaws
import Derived.ProofKit
import Derived.Lib.LaidTab
import Derived.Lib.SmallJoins
set_option linter.unusedVariables false
namespace Go.Proofs.YtjdcpddcngcioaaDoor.BooksRow
open Go.ChangeShapes Go.WideShapes Go.ChangeAt Go.RowKit
open Go.Proofs.YtjdcpddcngcioaaDoor.PBk Go.Proofs.YtjdcpddcngcioaaDoor.BooksPlain Go.Deep
theorem gNames : Tryd.prog.globalNamed "sawmill/books.names" = some 0 := by kernel_rfl
theorem gNamesType : (Tryd.prog.globals[0]?).map (·.type) = some 96 := by kernel_rfl
theorem cells96 : Tryd.prog.cellsOf 96 = 8 := by kernel_rfl
theorem cells9 : Tryd.prog.cellsOf 9 = 1 := by kernel_rfl
theorem cells3 : Tryd.prog.cellsOf 3 = 1 := by kernel_rfl
theorem cells23 : Tryd.prog.cellsOf 23 = 5 := by kernel_rfl
theorem cells25 : Tryd.prog.cellsOf 25 = 4 := by kernel_rfl
/-- An array of strings that reads as a list of strings holds just these. -/
theorem cells_of_strs {H : Type} {enc : TypeId × Value → H} {P : Program} {w : World} {base : Nat} {sp : Nat → Bool} {held : Bool} {fuel : Nat} {t e : TypeId} {n : Nat} {cs : List Value} {zs : List (List UInt8)} {p : List MemPlace}
    (ht : P.underlying t = some (.array n e)) (he : P.underlying e = some .string) (hce : P.cellsOf e = 1) (hct : P.cellsOf t = n)
    (h : DataW.trod enc P w base sp held fuel t cs = some (.agg (zs.map fun z => .lit (.string z)), p)) : cs = zs.map fun z => Value.string ⟨z.toArray⟩ := by
  cases fuel with
  | zero => simp [DataW.trod] at h
  | succ fuel =>
    simp only [DataW.trod, ht, hce, hct, Nat.mul_one] at h
    split at h
    · rename_i hl
      obtain ⟨xs, hm, hx⟩ := Option.map_eq_some_iff.1 h
      have hxs : xs.map (·.1) = zs.map fun z => (DataW.lit (.string z) : DataW H) := by
        have := congrArg Prod.fst hx
        simpa using this
      have hxl : xs.length = n := by simpa using Lib.mapM_length hm
      have hzl : zs.length = n := by
        have := congrArg List.length hxs
        simp at this
        omega
      apply List.ext_getElem?
      intro i
      by_cases hi : i < n
      · obtain ⟨b, hb, hf⟩ := Lib.mapM_at hm i i (by simp [hi])
        obtain ⟨z, hc, rfl, _⟩ := DataW.trod_string he hf
        have h1 : cs[i]? = some (.string z) := by
          have := congrArg (·[0]?) hc
          simpa [List.getElem?_take, List.getElem?_drop] using this
        have h2 : (xs.map (·.1))[i]? = some (DataW.lit (.string z.data.toList) : DataW H) := by simp [hb]
        rw [hxs] at h2
        simp only [List.getElem?_map, Option.map_eq_some_iff, DataW.lit.injEq, Lit.string.injEq] at h2
        obtain ⟨z', hz', rfl⟩ := h2
        simp [h1, hz']
      · rw [List.getElem?_eq_none (by omega), List.getElem?_eq_none (by simp; omega)]
    · cases h
theorem globG {W : World} {rest : List (String × DataW Unit)} (h : laidMet Tryd.prog (("sawmill/books.names", Rows.laid_sawmill_books_names) :: rest) W) : GlobG W := by
  obtain ⟨ps, ⟨g', t', cs, fuel, p, q, hg', ht', hvar, hd, _, _⟩, _⟩ := h
  obtain rfl := Option.some.inj (gNames.symm.trans hg')
  obtain rfl := Option.some.inj (gNamesType.symm.trans ht')
  have hcs : cs.toList = _ := cells_of_strs (zs := [[102, 111, 114, 101, 115, 116], [108, 111, 103, 115], [103, 114, 101, 101, 110], [100, 114, 121], [99, 104, 105, 112, 115], [100, 117, 115, 116], [115, 104, 105, 112, 112, 101, 100], [115, 111, 108, 100]]) Tryd.underlying96 Tryd.underlying9 cells9 cells96 hd
  have hcs2 : cs = #[.string (nmT 0), .string (nmT 1), .string (nmT 2), .string (nmT 3), .string (nmT 4), .string (nmT 5), .string (nmT 6), .string (nmT 7)] := by
    apply Array.ext'
    rw [hcs]
    rfl
  subst hcs2
  unfold World.var? at hvar
  rw [gNames] at hvar
  simp only [Option.bind_some] at hvar
  unfold GlobG
  split at hvar
  · rename_i c t fr hh
    exact ⟨t, fr, by rw [hh, Option.some.inj hvar]⟩
  · cases hvar
theorem list5 {α : Type} (l : List α) (h : (⟨l⟩ : Array α).size = 5) : ∃ a b c d e, l = [a, b, c, d, e] := by
  match l, h with
  | [a, b, c, d, e], _ => exact ⟨a, b, c, d, e, rfl⟩
theorem list4 {α : Type} (l : List α) (h : (⟨l⟩ : Array α).size = 4) : ∃ a b c d, l = [a, b, c, d] := by
  match l, h with
  | [a, b, c, d], _ => exact ⟨a, b, c, d, rfl⟩
theorem open_fields {H : Type} {enc : TypeId × Value → H} {P : Program} {w : World} {base : Nat} {spare : Nat → Bool} {held : Bool} {r : Reach} {b0 : Nat} {t : TypeId} {fs : Array Field} {v : Value} {d : DataW H} {p : List MemPlace}
    (hs : P.underlying t = some (.struct fs)) (hone : oneCellFields P fs = true) (hC : P.cellsOf t = fs.size) (hv : Value.okWide P w r b0 t v) (h : DataW.Trod enc P w base spare held t v d p) :
    ∃ cs : Array Value, v = .agg cs ∧ cs.size = fs.size ∧ ∀ (i : Nat) (f : Field), fs[i]? = some f → ∀ c, cs[i]? = some c → ∃ n y, DataW.trod enc P w base spare held n f.type [c] = some y := by
  obtain ⟨cs, rfl, hsz⟩ := okWide_struct hs hv
  refine ⟨cs, rfl, hsz.trans hC, fun i f hf c hc => ?_⟩
  obtain ⟨fuel, hx⟩ := h
  obtain ⟨xs, n, rfl, _, _, hlen, hg⟩ := DataW.trod_struct hs hx
  obtain ⟨o, k⟩ := hone_of hone i f hf
  have hi : i < fs.size := (Array.getElem?_eq_some_iff.1 hf).1
  have he := hg i f hf
  have hcl : (cs.toList.drop i).take 1 = [c] := by
    have hil : i < cs.toList.length := by simp; omega
    have hc2 : cs.toList[i] = c := by
      have := (Array.getElem?_eq_some_iff.1 hc).2
      simpa using this
    rw [List.take_one, List.head?_drop, List.getElem?_eq_getElem hil, hc2]
    rfl
  rw [o, k] at he
  simp only [Value.cells] at he
  rw [hcl, List.getElem?_eq_getElem (show i < xs.length by omega)] at he
  exact ⟨n, _, he⟩
theorem int_of {H : Type} {enc : TypeId × Value → H} {P : Program} {w : World} {base : Nat} {spare : Nat → Bool} {held : Bool} {t : TypeId} {c : Value} (ht : P.underlying t = some (.int .i64)) (h : ∃ n y, DataW.trod enc P w base spare held n t [c] = some y) : ∃ a, c = .int .i64 a ∧ I64 a := by
  obtain ⟨n, y, h⟩ := h
  obtain ⟨a, hc, _, hw⟩ := DataW.trod_int ht h
  simp only [List.cons.injEq, and_true] at hc
  exact ⟨a, hc, of_wf hw⟩
theorem bool_of {H : Type} {enc : TypeId × Value → H} {P : Program} {w : World} {base : Nat} {spare : Nat → Bool} {held : Bool} {t : TypeId} {c : Value} (ht : P.underlying t = some .bool) (h : ∃ n y, DataW.trod enc P w base spare held n t [c] = some y) : ∃ a, c = .bool a := by
  obtain ⟨n, y, h⟩ := h
  obtain ⟨a, hc, _⟩ := DataW.trod_bool ht h
  simp only [List.cons.injEq, and_true] at hc
  exact ⟨a, hc⟩
set_option maxRecDepth 100000 in
theorem open_yield {H : Type} {enc : TypeId × Value → H} {w : World} {base : Nat} {spare : Nat → Bool} {held : Bool} {r : Reach} {b0 : Nat} {v : Value} {d : DataW H} {p : List MemPlace}
    (hv : Value.okWide Tryd.prog w r b0 23 v) (h : DataW.Trod enc Tryd.prog w base spare held 23 v d p) :
    ∃ a b c e g, v = .agg #[.int .i64 a, .int .i64 b, .int .i64 c, .int .i64 e, .int .i64 g] ∧ I64 a ∧ I64 b ∧ I64 c ∧ I64 e ∧ I64 g := by
  obtain ⟨⟨cs⟩, rfl, hsz, hf⟩ := open_fields Tryd.underlying23 (by kernel_rfl) cells23 hv h
  obtain ⟨x0, x1, x2, x3, x4, rfl⟩ := list5 cs hsz
  obtain ⟨a, rfl, wa⟩ := int_of Tryd.underlying3 (hf 0 _ rfl x0 rfl)
  obtain ⟨b, rfl, wb⟩ := int_of Tryd.underlying3 (hf 1 _ rfl x1 rfl)
  obtain ⟨c, rfl, wc⟩ := int_of Tryd.underlying3 (hf 2 _ rfl x2 rfl)
  obtain ⟨e, rfl, we⟩ := int_of Tryd.underlying3 (hf 3 _ rfl x3 rfl)
  obtain ⟨g, rfl, wg⟩ := int_of Tryd.underlying3 (hf 4 _ rfl x4 rfl)
  exact ⟨a, b, c, e, g, rfl, wa, wb, wc, we, wg⟩
set_option maxRecDepth 100000 in
theorem open_cut {H : Type} {enc : TypeId × Value → H} {w : World} {base : Nat} {spare : Nat → Bool} {held : Bool} {r : Reach} {b0 : Nat} {v : Value} {d : DataW H} {p : List MemPlace}
    (hv : Value.okWide Tryd.prog w r b0 25 v) (h : DataW.Trod enc Tryd.prog w base spare held 25 v d p) :
    ∃ a b c e, v = .agg #[.bool a, .int .i64 b, .int .i64 c, .int .i64 e] ∧ I64 b ∧ I64 c ∧ I64 e := by
  obtain ⟨⟨cs⟩, rfl, hsz, hf⟩ := open_fields Tryd.underlying25 (by kernel_rfl) cells25 hv h
  obtain ⟨x0, x1, x2, x3, rfl⟩ := list4 cs hsz
  obtain ⟨a, rfl⟩ := bool_of Tryd.underlying4 (hf 0 _ rfl x0 rfl)
  obtain ⟨b, rfl, wb⟩ := int_of Tryd.underlying3 (hf 1 _ rfl x1 rfl)
  obtain ⟨c, rfl, wc⟩ := int_of Tryd.underlying3 (hf 2 _ rfl x2 rfl)
  obtain ⟨e, rfl, we⟩ := int_of Tryd.underlying3 (hf 3 _ rfl x3 rfl)
  exact ⟨a, b, c, e, rfl, wb, wc, we⟩
end Go.Proofs.YtjdcpddcngcioaaDoor.BooksRow
