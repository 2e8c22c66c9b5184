/-
  Arguments opened: a struct's fields, a slice's elements as values of a type.
-/
import Derived.Test.YtnahbfmbmpoljaaGreatDoorLawKit
import Derived.Test.YtnahbfmbmpoljaaGreatDoorSliceRead
import Derived.Test.YtnahbfmbmpoljaaGreatDoorWords
namespace Go.Proofs.YtnahbfmbmpoljaaGreatDoor
open Go.ChangeShapes Go.WideShapes Go.ChangeAt Go.RowKit

section
variable {H : Type} {enc : TypeId × Value → H} {P : Program} {w : World} {base : Nat} {sp : Nat → Bool} {hd : Bool}

theorem trod_fields {t : TypeId} {fs : Array Field} {fuel : Nat} {cs : List Value} {x : DataW H × List MemPlace} (ht : P.underlying t = some (.struct fs)) (h : DataW.trod enc P w base sp hd fuel t cs = some x) :
    cs.length = P.cellsOf t ∧ ∀ (i : Nat) (f : Field), fs[i]? = some f → ∃ n y, DataW.trod enc P w base sp hd n f.type ((cs.drop f.offset).take (P.cellsOf f.type)) = some y := by
  obtain ⟨xs, n, _, _, hl, hxl, hf⟩ := DataW.trod_struct ht h
  refine ⟨hl, fun i f hi => ?_⟩
  have hlt : i < xs.length := by rw [hxl]; exact (Array.getElem?_eq_some_iff.1 hi).1
  exact ⟨n, xs[i], by rw [hf i f hi]; exact List.getElem?_eq_getElem hlt⟩

theorem leaf_string {t : TypeId} {fuel : Nat} {cs : List Value} {x : DataW H × List MemPlace} (ht : P.underlying t = some .string) (h : DataW.trod enc P w base sp hd fuel t cs = some x) :
    ∃ s : { s : ByteArray // s.size ≤ 9223372036854775807 }, cs = [.string s.1] := by
  obtain ⟨s, e, _, z⟩ := DataW.trod_string ht h
  exact ⟨⟨s, z⟩, e⟩
theorem leaf_int {t : TypeId} {fuel : Nat} {cs : List Value} {x : DataW H × List MemPlace} (ht : P.underlying t = some (.int .i64)) (h : DataW.trod enc P w base sp hd fuel t cs = some x) :
    ∃ n : { n : Int // -9223372036854775808 ≤ n ∧ n ≤ 9223372036854775807 }, cs = [.int .i64 n.1] := by
  obtain ⟨n, e, _, z⟩ := DataW.trod_int ht h
  exact ⟨⟨n, bounds_i64 z⟩, e⟩
theorem leaf_bool {t : TypeId} {fuel : Nat} {cs : List Value} {x : DataW H × List MemPlace} (ht : P.underlying t = some .bool) (h : DataW.trod enc P w base sp hd fuel t cs = some x) :
    ∃ b : Bool, cs = [.bool b] := by
  obtain ⟨b, e, _⟩ := DataW.trod_bool ht h
  exact ⟨b, e⟩

/-- A struct by value. -/
theorem open_val {α : Type} {E : α → List Value} {t : TypeId} {fs : Array Field} {r : Reach} {b0 : Nat} {v : Value} {d : DataW H} {p : List MemPlace} (ht : P.underlying t = some (.struct fs))
    (hel : ∀ fuel cs x, DataW.trod enc P w base sp hd fuel t cs = some x → ∃ y : α, cs = E y) (hv : Value.okWide P w r b0 t v) (h : DataW.Trod enc P w base sp hd t v d p) :
    ∃ y : α, v = .agg (E y).toArray := by
  obtain ⟨cs, rfl, _⟩ := okWide_struct ht hv
  obtain ⟨fuel, hf⟩ := h
  obtain ⟨y, e⟩ := hel _ _ _ hf
  refine ⟨y, ?_⟩
  have e2 : cs.toList = E y := by simpa [Value.cells] using e
  rw [← e2]

/-- A slice of values of a type. -/
theorem open_rows {α : Type} [Inhabited α] {E : α → List Value} {k : Nat} (hk : ∀ x : α, (E x).length = k) (h0 : 0 < k) {t e : TypeId} {r : Reach} {b0 : Nat} {v : Value} {d : DataW H} {p : List MemPlace} (ht : P.underlying t = some (.slice e)) (hc : P.cellsOf e = k)
    (hel : ∀ fuel cs x, DataW.trod enc P w 0 (fun _ => true) true fuel e cs = some x → ∃ y : α, cs = E y) (hv : Value.okWide P w r b0 t v) (h : DataW.Trod enc P w 0 (fun _ => true) true t v d p) :
    ∃ (A : Option Addr) (l : List α) (c : Nat), v = .slice A l.length c ∧ l.length ≤ c ∧ c ≤ maxLen ∧ Rw E k w w.heap.size A l := by
  obtain ⟨A, n, c, rfl, hn, hcm, hrd⟩ := slice_read ht (by omega) hv h
  rw [hc] at hrd
  by_cases hpos : 0 < n
  · obtain ⟨g, o, fuel, rfl, hg, hx⟩ := hrd hpos
    have hx2 : ∀ i, ∃ y : α, i < n → ∀ j u, (E y)[j]? = some u → w.cell? ⟨g, o + i * k + j, none⟩ = some u := by
      intro i
      by_cases hi : i < n
      · obtain ⟨cs, x, hl, hcell, htr⟩ := hx i hi
        obtain ⟨y, e⟩ := hel _ _ _ htr
        refine ⟨y, fun _ j u hu => ?_⟩
        rw [hcell j (by rw [← hk y]; exact (List.getElem?_eq_some_iff.1 hu).1), e]
        exact hu
      · exact ⟨default, fun h => absurd h hi⟩
    refine ⟨_, (List.range n).map fun i => (hx2 i).choose, c, by simp, by simpa using hn, hcm, fun _ => ⟨g, o, rfl, hg, fun i x hxi j u hu => ?_⟩⟩
    rw [List.getElem?_map] at hxi
    by_cases hi : i < n
    · rw [List.getElem?_range hi] at hxi
      simp only [Option.map_some, Option.some.injEq] at hxi
      rw [← hxi] at hu
      exact (hx2 i).choose_spec hi j u hu
    · rw [List.getElem?_eq_none (by simp; omega)] at hxi
      cases hxi
  · obtain rfl : n = 0 := by omega
    exact ⟨A, [], c, rfl, by simp, hcm, Rw.nil⟩
end
end Go.Proofs.YtnahbfmbmpoljaaGreatDoor
