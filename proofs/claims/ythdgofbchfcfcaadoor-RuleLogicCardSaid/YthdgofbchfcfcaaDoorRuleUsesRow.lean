/- DERIVED: THE SHELF's CONTRACTS AT THIS DUMP, IN PLAIN WORDS (tools/lay-plain.mjs out of 'YthdgofbchfcfcaaDoorLaysT.lean', which tools/lay-shelf.mjs wrote): THE SAME DECLARATIONS UNDER THE SAME NAMES: 'import', 'namespace', 'open', 'def', 'theorem' AND NOTHING ELSE: no command of the shelf's: FOR A HAND-IN. Each laying: the table of numbers ('.._ren') and one theorem, a field a fact of the dump's own or the kernel's comparison; each contract: ONE APPLICATION. Sort and Compact of a row of strings by the library's contracts, and the walk of Uses of the package rule. The contract asks that no list is beyond any machine. -/
import Derived.Ground.NamesProg
import Derived.Shelf.Slices.In.CompactS
import Derived.Shelf.Slices.In.SortNone
import Derived.Test.YthdgofbchfcfcaaDoorProg
import Derived.Test.YthdgofbchfcfcaaDoorRuleRefUses
import Derived.Sort.EveryDepth
import Derived.Sort.OwnSorted
import Derived.Sort.Grow
import Derived.Lib.OwnBridge
namespace Go.Proofs
open Go.Shelf
def Tryd.laysSort_ren : Go.Shelf.Ren := ⟨fun | 190 => 39 | 125 => 55 | 258 => 54 | 128 => 73 | 129 => 74 | 302 => 64 | 303 => 65 | 304 => 66 | 305 => 67 | 306 => 68 | 307 => 69 | 308 => 70 | 309 => 71 | 310 => 72 | 333 => 75 | 329 => 76 | 330 => 77 | 334 => 78 | 335 => 79 | 336 => 80 | 344 => 81 | n => n, fun | 31 => 29 | 9 => 9 | 3 => 3 | 46 => 76 | 0 => 0 | 51 => 92 | 53 => 94 | 4 => 4 | 183 => 85 | 182 => 84 | 131 => 66 | 5 => 5 | 218 => 95 | 222 => 99 | 228 => 101 | 229 => 102 | n => n, fun | n => n⟩
theorem Tryd.laysSort : Go.Proofs.Lays.n190 Tryd.prog Tryd.laysSort_ren := {
  mixed := by kernel_rfl
  f125 := Tryd.func55.trans (congrArg some (by kernel_rfl))
  f128 := Tryd.func73.trans (congrArg some (by kernel_rfl))
  f129 := Tryd.func74.trans (congrArg some (by kernel_rfl))
  f190 := Tryd.func39.trans (congrArg some (by kernel_rfl))
  f258 := Tryd.func54.trans (congrArg some (by kernel_rfl))
  f302 := Tryd.func64.trans (congrArg some (by kernel_rfl))
  f303 := Tryd.func65.trans (congrArg some (by kernel_rfl))
  f304 := Tryd.func66.trans (congrArg some (by kernel_rfl))
  f305 := Tryd.func67.trans (congrArg some (by kernel_rfl))
  f306 := Tryd.func68.trans (congrArg some (by kernel_rfl))
  f307 := Tryd.func69.trans (congrArg some (by kernel_rfl))
  f308 := Tryd.func70.trans (congrArg some (by kernel_rfl))
  f309 := Tryd.func71.trans (congrArg some (by kernel_rfl))
  f310 := Tryd.func72.trans (congrArg some (by kernel_rfl))
  f329 := Tryd.func76.trans (congrArg some (by kernel_rfl))
  f330 := Tryd.func77.trans (congrArg some (by kernel_rfl))
  f333 := Tryd.func75.trans (congrArg some (by kernel_rfl))
  f334 := Tryd.func78.trans (congrArg some (by kernel_rfl))
  f335 := Tryd.func79.trans (congrArg some (by kernel_rfl))
  f336 := Tryd.func80.trans (congrArg some (by kernel_rfl))
  f344 := Tryd.func81.trans (congrArg some (by kernel_rfl))
  t0 := Tryd.underlying0
  a0 := Tryd.isAgg0
  z0 := Tryd.sizeOf0
  v0 := Tryd.zeroValue0
  t3 := Tryd.underlying3
  a3 := Tryd.isAgg3
  z3 := Tryd.sizeOf3
  v3 := Tryd.zeroValue3
  t4 := Tryd.underlying4
  a4 := Tryd.isAgg4
  z4 := Tryd.sizeOf4
  v4 := Tryd.zeroValue4
  t5 := Tryd.underlying5
  a5 := Tryd.isAgg5
  z5 := Tryd.sizeOf5
  v5 := Tryd.zeroValue5
  t9 := Tryd.underlying9
  a9 := Tryd.isAgg9
  z9 := Tryd.sizeOf9
  v9 := Tryd.zeroValue9
  t31 := Tryd.underlying29
  a31 := Tryd.isAgg29
  z31 := Tryd.sizeOf29
  v31 := Tryd.zeroValue29
  t46 := Tryd.underlying76
  a46 := Tryd.isAgg76
  z46 := Tryd.sizeOf76
  v46 := Tryd.zeroValue76
  t51 := Tryd.underlying92
  a51 := Tryd.isAgg92
  z51 := Tryd.sizeOf92
  v51 := Tryd.zeroValue92
  t53 := Tryd.underlying94
  a53 := Tryd.isAgg94
  z53 := Tryd.sizeOf94
  v53 := Tryd.zeroValue94
  t131 := Tryd.underlying66
  a131 := Tryd.isAgg66
  z131 := Tryd.sizeOf66
  v131 := Tryd.zeroValue66
  t182 := Tryd.underlying84
  a182 := Tryd.isAgg84
  z182 := Tryd.sizeOf84
  v182 := Tryd.zeroValue84
  t183 := Tryd.underlying85
  a183 := Tryd.isAgg85
  z183 := Tryd.sizeOf85
  v183 := Tryd.zeroValue85
  t218 := Tryd.underlying95
  a218 := Tryd.isAgg95
  z218 := Tryd.sizeOf95
  v218 := Tryd.zeroValue95
  t222 := Tryd.underlying99
  a222 := Tryd.isAgg99
  z222 := Tryd.sizeOf99
  v222 := Tryd.zeroValue99
  t228 := Tryd.underlying101
  a228 := Tryd.isAgg101
  z228 := Tryd.sizeOf101
  v228 := Tryd.zeroValue101
  t229 := Tryd.underlying102
  a229 := Tryd.isAgg102
  z229 := Tryd.sizeOf102
  v229 := Tryd.zeroValue102 }
def Tryd.laysCompact_ren : Go.Shelf.Ren := ⟨fun | 194 => 40 | n => n, fun | 31 => 29 | 9 => 9 | 3 => 3 | 4 => 4 | 0 => 0 | n => n, fun | n => n⟩
theorem Tryd.laysCompact : Go.Proofs.Lays.n194 Tryd.prog Tryd.laysCompact_ren := {
  mixed := by kernel_rfl
  f194 := Tryd.func40.trans (congrArg some (by kernel_rfl))
  t0 := Tryd.underlying0
  a0 := Tryd.isAgg0
  z0 := Tryd.sizeOf0
  v0 := Tryd.zeroValue0
  t3 := Tryd.underlying3
  a3 := Tryd.isAgg3
  z3 := Tryd.sizeOf3
  v3 := Tryd.zeroValue3
  t4 := Tryd.underlying4
  a4 := Tryd.isAgg4
  z4 := Tryd.sizeOf4
  v4 := Tryd.zeroValue4
  t9 := Tryd.underlying9
  a9 := Tryd.isAgg9
  z9 := Tryd.sizeOf9
  v9 := Tryd.zeroValue9
  t31 := Tryd.underlying29
  a31 := Tryd.isAgg29
  z31 := Tryd.sizeOf29
  v31 := Tryd.zeroValue29 }
end Go.Proofs

set_option linter.unusedVariables false
set_option linter.unusedSimpArgs false
namespace Go.Proofs.YthdgofbchfcfcaaDoor.PRu
open Go.RowKit Go.Proofs.YthdgofbchfcfcaaDoorW.PrintWords Go.Proofs.YthdgofbchfcfcaaDoorW.PrintLast Go.Proofs.YthdgofbchfcfcaaDoorW.PrintMore Go.Shelf Go.Sort
def toL (xs : List ByteArray) : List (List UInt8) := xs.map fun x => x.data.toList
def ofL (l : List (List UInt8)) : List ByteArray := l.map fun x => ⟨⟨x⟩⟩
theorem toL_ofL (l : List (List UInt8)) : toL (ofL l) = l := by
  unfold toL ofL
  rw [List.map_map]
  exact List.map_id _
theorem ofL_toL (l : List ByteArray) : ofL (toL l) = l := by
  unfold toL ofL
  rw [List.map_map]
  exact List.map_id _
theorem enc_ofL (l : List (List UInt8)) : l.map encStr = (ofL l).map Value.string := by
  rw [← Lib.map_encStr, show List.map (fun x : ByteArray => x.data.toList) (ofL l) = l from toL_ofL l]
def sortL (l : List (List UInt8)) : List (List UInt8) := l.mergeSort fun x y => decide (x ≤ y)
theorem row_nil {base : Nat} {ok : Nat → Prop} {w : World} {xs : List ByteArray} (h : Kd.R Kd.string 9 w base ok (.slice none 0 0) xs) : xs = [] := by
  obtain ⟨A, c, e, _, _⟩ := Kd.R_reads h
  injection e with _ e2 _
  exact List.eq_nil_of_length_eq_zero e2.symm
theorem sort_row (base : Nat) (ok : Nat → Prop) (v : Value) (xs : List ByteArray) (w : World) (h : Kd.R Kd.string 9 w base ok v xs) (hl : xs.length < 4611686018427387904) :
    Calls Tryd.prog 39 #[v] w fun e w' => e = .returned (.tuple #[]) ∧ Kd.R Kd.string 9 w' base ok v (ofL (sortL (toL xs))) ∧ w.grownBy w' v.ownBlock := by
  by_cases hv : v = .slice none 0 0
  · subst hv
    have hx := row_nil h
    subst hx
    refine (calls_of_every_depth fun D => AnyS.slices_Sort_string_none_alone Tryd.laysSort D none 0 w).mono ?_
    rintro e w' ⟨rfl, rfl⟩
    exact ⟨rfl, by simpa [toL, sortL, ofL] using h, ⟨rfl, rfl, rfl, Nat.le_refl _, fun _ _ _ => rfl⟩⟩
  · have ho : w.ownsRow base 9 1 v xs.length ((toL xs).map encStr) := by
      have h0 := Kd.own_of_R h
      unfold toL
      rw [Lib.map_encStr]
      exact h0
    have hok := h.1
    obtain ⟨g, cap, rfl, hbg, hgl, hnc, hcm, hlen, hH⟩ := Lib.holds_of_ownsRow ho hv
    have hs := calls_of_every_depth fun D => AnyS.slices_Sort_string_alone Tryd.laysSort D g 0 cap (toL xs) w hH hgl (by rw [hlen]; omega)
    rw [hlen] at hs
    refine hs.mono ?_
    rintro e w' ⟨rfl, nn, os, rfl⟩
    refine ⟨rfl, ?_, ?_⟩
    · rcases ho.2 with ⟨h0, _⟩ | ⟨g', cap', cur, hv2, hbase, hb, h1, h2, h3, h4⟩
      · cases h0
      cases hv2
      have hs2 := ownsRow_sorted (n := nn) (os := os) (ss := toL xs) (ts := sortL (toL xs)) (by unfold sortL; rw [List.length_mergeSort]) hbase hb (by rw [hlen]; exact h1) h2 h3
      rw [hlen, enc_ofL] at hs2
      have hl2 : (ofL (sortL (toL xs))).length = xs.length := by unfold ofL sortL; rw [List.length_map, List.length_mergeSort, hlen]
      refine Kd.R_of_own (enc := Value.string) ?_ hok
      rw [hl2]
      exact hs2
    · exact grownBy_sorted _
theorem compact_row (base : Nat) (ok : Nat → Prop) (v : Value) (xs : List ByteArray) (w : World) (h : Kd.R Kd.string 9 w base ok v xs) (hl : xs.length < 4611686018427387904) :
    Calls Tryd.prog 40 #[v] w fun e w' => ∃ v', e = .returned v' ∧ Kd.R Kd.string 9 w' base ok v' (ofL (Lib.compact (toL xs))) ∧ w.grownBy w' v.ownBlock := by
  by_cases hv : v = .slice none 0 0
  · subst hv
    have hx := row_nil h
    subst hx
    refine (calls_of_every_depth fun D => AnyS.slices_Compact_string_empty_in Tryd.laysCompact D none 0 w).mono ?_
    rintro e w' ⟨rfl, rfl⟩
    exact ⟨_, rfl, h, ⟨rfl, rfl, rfl, Nat.le_refl _, fun _ _ _ => rfl⟩⟩
  · have ho : w.ownsRow base 9 1 v xs.length ((toL xs).map encStr) := by
      have h0 := Kd.own_of_R h
      unfold toL
      rw [Lib.map_encStr]
      exact h0
    have hok := h.1
    obtain ⟨g, cap, rfl, hbg, hgl, hnc, hcm, hlen, hH⟩ := Lib.holds_of_ownsRow ho hv
    have hs := calls_of_every_depth fun D => AnyS.slices_Compact_string_in Tryd.laysCompact D g 0 cap (toL xs) w hH (by rw [hlen]; omega) (by rw [hlen]; exact hnc)
    rw [hlen] at hs
    refine hs.mono ?_
    rintro e w' ⟨rfl, q, rfl⟩
    refine ⟨_, rfl, ?_, ?_⟩
    · have hle := Lib.compact_length_le (toL xs)
      have hc := Lib.ownsRow_putRow (q := q) (k := (Lib.compact (toL xs)).length) (ys := Lib.compact (toL xs) ++ List.replicate (xs.length - (Lib.compact (toL xs)).length) []) ho (by simp; omega) (by omega)
      rw [List.take_left, enc_ofL] at hc
      refine Kd.R_of_own (enc := Value.string) ?_ (fun k hk => hok k (by simpa [Value.ownBlock] using hk))
      rw [show (ofL (Lib.compact (toL xs))).length = (Lib.compact (toL xs)).length by unfold ofL; rw [List.length_map]]
      exact hc
    · refine ⟨rfl, rfl, rfl, by simp [putRow, mapBlock, Sort.ahead], fun k hk hne => ?_⟩
      have : g ≠ k := fun e => hne (by simp [Value.ownBlock, e])
      simp [putRow, mapBlock, Sort.ahead, Array.getElem?_modify, this]
def usesF (e : S24) : List ByteArray := ofL (Lib.compact (sortL (toL (usesN 8 e))))
def rule_Uses.f (a0_0 : Int) (a0_1 : Int) (a0_2 : ByteArray) (l0_3 : List S24) : Option (List ByteArray) :=
  if (limB 8 ⟨a0_0, a0_1, a0_2, l0_3⟩ && decide ((usesN 8 ⟨a0_0, a0_1, a0_2, l0_3⟩).length ≤ 4398046511104)) = true then some (usesF ⟨a0_0, a0_1, a0_2, l0_3⟩) else none
theorem blkA' (w : World) (a b : Obj) : ((w.alloc a).alloc b).heap[w.heap.size]? = some a := by
  have hb := (Below.refl (w.alloc a).heap.size (w.alloc a)).alloc (Nat.le_refl _) b
  exact (hb.block w.heap.size (by simp)).trans (MapKept.heap_alloc w a).1
theorem blkB' (w : World) (a b : Obj) : ((w.alloc a).alloc b).heap[w.heap.size + 1]? = some b := by
  have h := (MapKept.heap_alloc (w.alloc a) b).1
  simpa using h
theorem blk3A (w : World) (a b c : Obj) : (((w.alloc a).alloc b).alloc c).heap[w.heap.size]? = some a := by
  have h1 := (Below.refl ((w.alloc a).alloc b).heap.size ((w.alloc a).alloc b)).alloc (Nat.le_refl _) c
  exact (h1.block _ (by simp; omega)).trans (blkA' w a b)
theorem blk3B (w : World) (a b c : Obj) : (((w.alloc a).alloc b).alloc c).heap[w.heap.size + 1]? = some b := by
  have h1 := (Below.refl ((w.alloc a).alloc b).heap.size ((w.alloc a).alloc b)).alloc (Nat.le_refl _) c
  exact (h1.block _ (by simp)).trans (blkB' w a b)
theorem blk3C (w : World) (a b c : Obj) : (((w.alloc a).alloc b).alloc c).heap[w.heap.size + 1 + 1]? = some c := by
  have h := (MapKept.heap_alloc ((w.alloc a).alloc b) c).1
  simpa using h
theorem run_store_func {P : Program} {w : World} {a : Addr} {m : Mode} (f : Fn) (x y : Array Value) : (store a (.func f x y) m).run P w = stored P w a (.func f x y) m := run_store P w a _ m rfl
attribute [local go_sem] run_store_func
set_option maxRecDepth 100000 in
theorem uses_walk (op nn : Int) (nm : ByteArray) (A0 : Option Addr) (c0 : Nat) (ar : List S24) (w : World) (hr0 : Kd.C k24 w A0 ar.length ar) (hc0 : ar.length ≤ c0) (hlim : limB 8 ⟨op, nn, nm, ar⟩ = true) (hlen : (usesN 8 ⟨op, nn, nm, ar⟩).length ≤ 4398046511104) :
    Calls Tryd.prog 17 #[.agg #[.int .i64 op, .int .i64 nn, .string nm, .slice A0 ar.length c0]] w fun e w' => ∃ v', e = .returned v' ∧ Kd.R Kd.string 9 w' w.heap.size (fun _ => True) v' (usesF ⟨op, nn, nm, ar⟩) ∧ Below w.heap.size w w' := by
  obtain ⟨bo, hbo⟩ : ∃ bo, bo = w.heap.size + 1 := ⟨_, rfl⟩
  obtain ⟨bw, hbw⟩ : ∃ bw, bw = w.heap.size + 1 + 1 := ⟨_, rfl⟩
  obtain ⟨W0, hW0⟩ : ∃ W0, W0 = ((w.alloc (.cells #[.int .i64 op, .int .i64 nn, .string nm, .slice A0 ar.length c0] 24)).alloc (.cells #[.slice none 0 0] 29)).alloc (.cells #[.func (.func 38) #[] #[.pointer (some ⟨w.heap.size + 1, 0, none⟩), .pointer (some ⟨w.heap.size + 1 + 1, 0, none⟩)]] 61) := ⟨_, rfl⟩
  have hbel : Below w.heap.size w W0 := hW0 ▸ ((((Below.refl _ _).alloc (Nat.le_refl _) _).alloc (by simp) _).alloc (by simp; omega) _)
  have HS := Lib.hid (show Lst w bo bw (.slice none 0 0) [] W0 from ⟨by rw [hbo, hW0]; exact blk3B _ _ _ _, by rw [hbw, hbo, hW0]; exact blk3C _ _ _ _, Kd.R_nil _ _ _ _ _, hbel⟩)
  have HU := Lib.hid (uses_38 w bo bw (by omega) (by omega) (by omega) 8 (by omega) op nn nm ar hlim A0 c0 1 W0 (.slice none 0 0) [] (by decide) HS.out hr0 (by simpa using hlen))
  have HWW := Lib.hid hW0
  have HBO := Lib.hid hbo
  have HBW := Lib.hid hbw
  have HLEN := Lib.hid hlen
  rw [hbo, hbw] at HU
  clear hW0 hbel hlim hlen hr0 hbo hbw
  go_enter Tryd.func17, Tryd.ntmps17
  go_wp2_with (first
    | (go_at_call 38; rw [← HWW.out]; (with_reducible refine HU.out.mono ?_); rintro e wz ⟨rfl, v1, hl1, _, _⟩; obtain ⟨A1, c1, hv1, _, _⟩ := Kd.R_reads hl1.own; generalize hm : ([] ++ usesN 8 ⟨op, nn, nm, ar⟩).length = m1 at hv1; subst hv1; obtain ⟨z0, z1⟩ := cell1 hl1.var; have HL1 := Lib.hid hl1; clear hl1)
    | (go_at_call 39; (with_reducible refine (sort_row w.heap.size (fun k => k ≠ w.heap.size + 1 ∧ k ≠ w.heap.size + 1 + 1) _ _ _ HL1.out.own (by have := HLEN.out; rw [List.nil_append]; omega)).mono ?_); rintro e wy ⟨rfl, hs, hg⟩; have z2 : wy.cell? ⟨w.heap.size + 1, 0, none⟩ = some (.slice A1 m1 c1) := (cell1 ((hg.block (w.heap.size + 1) (Array.getElem?_eq_some_iff.1 HL1.out.var).1 (fun he => (HL1.out.own.1 (w.heap.size + 1) he.symm).1 rfl)).trans HL1.out.var)).1; have HSO := Lib.hid hs; have HGO := Lib.hid hg; clear hs hg)
    | (go_at_call 40; (with_reducible refine (compact_row w.heap.size (fun k => k ≠ w.heap.size + 1 ∧ k ≠ w.heap.size + 1 + 1) _ _ _ HSO.out (by have := HLEN.out; unfold ofL sortL toL; rw [List.nil_append, List.length_map, List.length_mergeSort, List.length_map]; omega)).mono ?_); rintro e wx ⟨v2, rfl, hc, hg⟩; have HCO := Lib.hid hc; have HGC := Lib.hid hg; clear hc hg))
  go_ret
  refine ⟨v2, rfl, ?_, ?_⟩
  · have h := HCO.out
    rw [toL_ofL, List.nil_append] at h
    exact Kd.R_mono h (fun _ _ => trivial)
  · have h1 := HL1.out.bel.grown HGO.out HL1.out.bel.size (fun j hj => ((Kd.R_bound HL1.out.own).1 j hj).2.1)
    exact h1.grown HGC.out h1.size (fun j hj => ((Kd.R_bound HSO.out).1 j hj).2.1)
theorem rule_Uses.calls (a0_0 : Int) (a0_1 : Int) (a0_2 : ByteArray) (A0_3 : Option Addr) (c0_3 : Nat) (l0_3 : List S24) (r : List ByteArray) (w : World) (hr0_3 : Kd.C k24 w A0_3 l0_3.length l0_3) (hc0_3 : l0_3.length ≤ c0_3) (h : rule_Uses.f a0_0 a0_1 a0_2 l0_3 = some r) :
    Calls Tryd.prog 17 #[.agg #[.int .i64 a0_0, .int .i64 a0_1, .string a0_2, .slice A0_3 l0_3.length c0_3]] w fun e w' => ∃ v0_ : Value, e = .returned (v0_) ∧ Kd.R Kd.string 9 w' w.heap.size (fun _ => True) v0_ r ∧ Below w.heap.size w w' := by
  unfold rule_Uses.f at h
  split at h
  · rename_i hl
    simp only [Bool.and_eq_true, decide_eq_true_eq] at hl
    injection h with h
    subst h
    exact uses_walk _ _ _ _ _ _ _ hr0_3 hc0_3 hl.1 hl.2
  · cases h
end Go.Proofs.YthdgofbchfcfcaaDoor.PRu
