/-
  A slice that came in: its cells, element by element, at a plain address.
-/
import Derived.Test.YtnahbfmbmpoljaaGreatDoorLawKit
import Derived.Deep.Slices
namespace Go.Proofs.YtnahbfmbmpoljaaGreatDoor
open Go.ChangeShapes Go.WideShapes Go.ChangeAt Go.RowKit

section
variable {H : Type} {enc : TypeId × Value → H} {P : Program}

theorem slice_read {w : World} {t e : TypeId} {r : Reach} {b0 : Nat} {v : Value} {d : DataW H} {p : List MemPlace} (ht : P.underlying t = some (.slice e)) (hs : 0 < P.cellsOf e)
    (hok : Value.okWide P w r b0 t v) (h : DataW.Trod enc P w 0 (fun _ => true) true t v d p) :
    ∃ A n c, v = .slice A n c ∧ n ≤ c ∧ c ≤ maxLen ∧ (0 < n → ∃ g o fuel, A = some ⟨g, o, none⟩ ∧ g < w.heap.size ∧
      ∀ i, i < n → ∃ cs x, cs.length = P.cellsOf e ∧ (∀ j, j < P.cellsOf e → w.cell? ⟨g, o + i * P.cellsOf e + j, none⟩ = cs[j]?) ∧ DataW.trod enc P w 0 (fun _ => true) true fuel e cs = some x) := by
  obtain ⟨A, n, c, rfl⟩ := okWide_slice ht hok
  obtain ⟨fuel, hf⟩ := h
  rcases Go.Deep.open_slice ht hf with ⟨hcs, _⟩ | ⟨a, len, cap, m, k, D, Pl, hcs, _, hl, hm, hmm, _, hx⟩
  · simp [Value.cells] at hcs
    obtain ⟨rfl, rfl, rfl⟩ := hcs
    exact ⟨none, 0, 0, rfl, Nat.le_refl _, Nat.zero_le _, fun h => absurd h (by omega)⟩
  · simp [Value.cells] at hcs
    obtain ⟨rfl, e1, e2⟩ := hcs
    subst e1 e2
    simp only [if_true] at hmm
    subst hmm
    refine ⟨some a, _, _, rfl, hl, hm, fun hn => ?_⟩
    obtain ⟨cs0, h0, _⟩ := hx 0 (by omega)
    obtain ⟨_, hlen0, hc0⟩ := World.cells?_some h0
    have hz := hc0 0 hs
    rw [List.getElem?_eq_getElem (by omega)] at hz
    have hsp := World.cell?_spot hz
    have hlt := World.block_lt_of_cell? w _ hz
    simp only [Nat.zero_mul, Go.Deep.add_add, Nat.zero_add] at hsp hlt
    simp [Addr.add] at hsp hlt
    obtain ⟨g, o, s⟩ := a
    simp at hsp hlt
    subst hsp
    refine ⟨g, o, k, rfl, hlt, fun i hi => ?_⟩
    obtain ⟨cs', h1, h2⟩ := hx i (by omega)
    obtain ⟨_, hlen, hc⟩ := World.cells?_some h1
    refine ⟨cs', _, hlen, fun j hj => ?_, h2⟩
    have := hc j hj
    rwa [Go.Deep.add_add, add_plain, ← Nat.add_assoc] at this
end
end Go.Proofs.YtnahbfmbmpoljaaGreatDoor
