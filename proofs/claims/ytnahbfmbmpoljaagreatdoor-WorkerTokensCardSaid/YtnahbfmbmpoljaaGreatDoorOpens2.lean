/-
  Arguments opened, further: a slice within a struct; slices of structs whose readings say more than their cells.
-/
import Derived.Test.YtnahbfmbmpoljaaGreatDoorOpens
import Derived.Test.YtnahbfmbmpoljaaGreatDoorIdent4
namespace Go.Proofs.YtnahbfmbmpoljaaGreatDoor
open Go.ChangeShapes Go.WideShapes Go.ChangeAt Go.RowKit

section
variable {H : Type} {enc : TypeId × Value → H} {P : Program} {w : World}

theorem cells_read {t e : TypeId} {fuel : Nat} {cs : List Value} {x : DataW H × List MemPlace} (ht : P.underlying t = some (.slice e)) (hs : 0 < P.cellsOf e)
    (h : DataW.trod enc P w 0 (fun _ => true) true fuel t cs = some x) :
    ∃ A n c, cs = [.slice A n c] ∧ n ≤ c ∧ c ≤ maxLen ∧ (0 < n → ∃ g o fuel, A = some ⟨g, o, none⟩ ∧ g < w.heap.size ∧
      ∀ i, i < n → ∃ cs x, cs.length = P.cellsOf e ∧ (∀ j, j < P.cellsOf e → w.cell? ⟨g, o + i * P.cellsOf e + j, none⟩ = cs[j]?) ∧ DataW.trod enc P w 0 (fun _ => true) true fuel e cs = some x) := by
  rcases Go.Deep.open_slice ht h with ⟨rfl, _⟩ | ⟨a, len, cap, m, k, D, Pl, rfl, _, hl, hm, hmm, _, hx⟩
  · exact ⟨none, 0, 0, rfl, Nat.le_refl _, Nat.zero_le _, fun h => absurd h (by omega)⟩
  · simp only [if_true] at hmm
    subst hmm
    refine ⟨some a, _, _, rfl, hl, hm, fun hn => ?_⟩
    obtain ⟨cs0, h0, _⟩ := hx 0 (by omega)
    obtain ⟨_, hlen0, hc0⟩ := World.cells?_some h0
    have hz := hc0 0 hs
    rw [List.getElem?_eq_getElem (by omega)] at hz
    have hsp := World.cell?_spot hz
    have hlt := World.block_lt_of_cell? w _ hz
    simp only [Nat.zero_mul, Go.Deep.add_add, Nat.zero_add] at hsp hlt
    simp [Addr.add] at hsp hlt
    obtain ⟨g, o, s⟩ := a
    simp at hsp hlt
    subst hsp
    refine ⟨g, o, k, rfl, hlt, fun i hi => ?_⟩
    obtain ⟨cs', h1, h2⟩ := hx i (by omega)
    obtain ⟨_, hlen, hc⟩ := World.cells?_some h1
    refine ⟨cs', _, hlen, fun j hj => ?_, h2⟩
    have := hc j hj
    rwa [Go.Deep.add_add, add_plain, ← Nat.add_assoc] at this

/-- A slice's cells as a list of values of a type, of which more is said. -/
theorem cells_rows {α : Type} [Inhabited α] {E : α → List Value} {Q : α → Prop} {k : Nat} (hk : ∀ x : α, (E x).length = k) (h0 : 0 < k) {t e : TypeId} {fuel : Nat} {cs : List Value} {x : DataW H × List MemPlace} (ht : P.underlying t = some (.slice e)) (hc : P.cellsOf e = k)
    (hel : ∀ fuel cs x, DataW.trod enc P w 0 (fun _ => true) true fuel e cs = some x → ∃ y : α, cs = E y ∧ Q y) (h : DataW.trod enc P w 0 (fun _ => true) true fuel t cs = some x) :
    ∃ (A : Option Addr) (l : List α) (c : Nat), cs = [.slice A l.length c] ∧ l.length ≤ c ∧ c ≤ maxLen ∧ Rw E k w w.heap.size A l ∧ ∀ y ∈ l, Q y := by
  obtain ⟨A, n, c, rfl, hn, hcm, hrd⟩ := cells_read ht (by omega) h
  rw [hc] at hrd
  by_cases hpos : 0 < n
  · obtain ⟨g, o, fuel, rfl, hg, hx⟩ := hrd hpos
    have hx2 : ∀ i, ∃ y : α, i < n → Q y ∧ ∀ j u, (E y)[j]? = some u → w.cell? ⟨g, o + i * k + j, none⟩ = some u := by
      intro i
      by_cases hi : i < n
      · obtain ⟨cs, x, hl, hcell, htr⟩ := hx i hi
        obtain ⟨y, e, q⟩ := hel _ _ _ htr
        refine ⟨y, fun _ => ⟨q, fun j u hu => ?_⟩⟩
        rw [hcell j (by rw [← hk y]; exact (List.getElem?_eq_some_iff.1 hu).1), e]
        exact hu
      · exact ⟨default, fun h => absurd h hi⟩
    refine ⟨_, (List.range n).map fun i => (hx2 i).choose, c, by simp, by simpa using hn, hcm, fun _ => ⟨g, o, rfl, hg, fun i x hxi j u hu => ?_⟩, fun y hy => ?_⟩
    · rw [List.getElem?_map] at hxi
      by_cases hi : i < n
      · rw [List.getElem?_range hi] at hxi
        simp only [Option.map_some, Option.some.injEq] at hxi
        rw [← hxi] at hu
        exact ((hx2 i).choose_spec hi).2 j u hu
      · rw [List.getElem?_eq_none (by simp; omega)] at hxi
        cases hxi
    · obtain ⟨i, hi, rfl⟩ := List.mem_map.1 hy
      exact ((hx2 i).choose_spec (List.mem_range.1 hi)).1
  · obtain rfl : n = 0 := by omega
    exact ⟨A, [], c, rfl, by simp, hcm, Rw.nil, fun _ h => absurd h (by simp)⟩

/-- A slice argument, of whose elements more is said. -/
theorem open_rowsq {α : Type} [Inhabited α] {E : α → List Value} {Q : α → Prop} {k : Nat} (hk : ∀ x : α, (E x).length = k) (h0 : 0 < k) {t e : TypeId} {r : Reach} {b0 : Nat} {v : Value} {d : DataW H} {p : List MemPlace} (ht : P.underlying t = some (.slice e)) (hc : P.cellsOf e = k)
    (hel : ∀ fuel cs x, DataW.trod enc P w 0 (fun _ => true) true fuel e cs = some x → ∃ y : α, cs = E y ∧ Q y) (hv : Value.okWide P w r b0 t v) (h : DataW.Trod enc P w 0 (fun _ => true) true t v d p) :
    ∃ (A : Option Addr) (l : List α) (c : Nat), v = .slice A l.length c ∧ l.length ≤ c ∧ c ≤ maxLen ∧ Rw E k w w.heap.size A l ∧ ∀ y ∈ l, Q y := by
  obtain ⟨A0, n, c0, rfl⟩ := okWide_slice ht hv
  obtain ⟨fuel, hf⟩ := h
  obtain ⟨A, l, c, e1, h1, h2, h3, h4⟩ := cells_rows hk h0 ht hc hel hf
  simp [Value.cells] at e1
  obtain ⟨rfl, rfl, rfl⟩ := e1
  exact ⟨_, l, _, rfl, h1, h2, h3, h4⟩

/-- A struct by value, of which more is said. -/
theorem open_valq {α : Type} {E : α → List Value} {Q : α → Prop} {t : TypeId} {fs : Array Field} {r : Reach} {b0 : Nat} {v : Value} {d : DataW H} {p : List MemPlace} (ht : P.underlying t = some (.struct fs))
    (hel : ∀ fuel cs x, DataW.trod enc P w 0 (fun _ => true) true fuel t cs = some x → ∃ y : α, cs = E y ∧ Q y) (hv : Value.okWide P w r b0 t v) (h : DataW.Trod enc P w 0 (fun _ => true) true t v d p) :
    ∃ y : α, v = .agg (E y).toArray ∧ Q y := by
  obtain ⟨cs, rfl, _⟩ := okWide_struct ht hv
  obtain ⟨fuel, hf⟩ := h
  obtain ⟨y, e, q⟩ := hel _ _ _ hf
  refine ⟨y, ?_, q⟩
  have e2 : cs.toList = E y := by simpa [Value.cells] using e
  rw [← e2]
end

/-- An int, as Go has it. -/
abbrev I64 : Type := { n : Int // -9223372036854775808 ≤ n ∧ n ≤ 9223372036854775807 }
instance : Inhabited I64 := ⟨⟨0, by omega⟩⟩
def iE (n : I64) : List Value := [.int .i64 n.1]
theorem iE_len (n : I64) : (iE n).length = 1 := rfl
theorem iE_one (n : I64) : ∀ u ∈ iE n, u.oneCell' = true := by intro u hu; simp [iE] at hu; subst hu; rfl

theorem leaf_strs {H : Type} {enc : TypeId × Value → H} {w : World} {fuel : Nat} {cs : List Value} {x : DataW H × List MemPlace} (h : DataW.trod enc Tryz.prog w 0 (fun _ => true) true fuel 22 cs = some x) :
    ∃ (A : Option Addr) (l : List Str) (c : Nat), cs = [.slice A l.length c] ∧ l.length ≤ c ∧ c ≤ maxLen ∧ Rw sE 1 w w.heap.size A l := by
  obtain ⟨A, l, c, e, h1, h2, h3, _⟩ := cells_rows (α := Str) (E := sE) (Q := fun _ => True) sE_len (by omega) Tryz.underlying22 (by kernel_rfl) (fun fuel cs x h => by
    obtain ⟨s, e⟩ := leaf_string Tryz.underlying9 h
    exact ⟨s, e, trivial⟩) h
  exact ⟨A, l, c, e, h1, h2, h3⟩
end Go.Proofs.YtnahbfmbmpoljaaGreatDoor
