/-
  'Bel B w w2': below block B the world w2 is as w was, and no fewer draws were made: for what a sort's comparison leaves.
-/
import Derived.Below
import Derived.Sort.Grow
import Derived.Deep.Draws
namespace Go.Proofs.YtnahbfmbmpoljaaGreatDoor
open Go.RowKit

structure Bel (B : Nat) (w w' : World) : Prop extends Below B w w' where
  more : w.drawn ≤ w'.drawn
variable {B : Nat} {a b c w w' : World}
theorem Bel.refl (B : Nat) (w : World) : Bel B w w := ⟨Below.refl B w, Nat.le_refl _⟩
theorem Bel.trans (h : Bel B a b) (k : Bel B b c) : Bel B a c := ⟨h.toBelow.trans k.toBelow, Nat.le_trans h.more k.more⟩
theorem Bel.mono {B' : Nat} (h : Bel B w w') (hB : B' ≤ B) : Bel B' w w' := ⟨h.toBelow.mono hB, h.more⟩
theorem Bel.drew (h : Bel B a w) : Bel B a w.drew := ⟨h.toBelow.drew, Nat.le_trans h.more (Nat.le_succ _)⟩
theorem Bel.drewN (h : Bel B a w) (n : Nat) : Bel B a (w.drewN n) := ⟨⟨h.os, h.tape, h.output, h.size, h.block⟩, Nat.le_trans h.more (Nat.le_add_right _ _)⟩
theorem Bel.alloc (h : Bel B a w) (hB : B ≤ w.heap.size) (o : Obj) : Bel B a (w.alloc o) := ⟨h.toBelow.alloc hB o, h.more⟩
theorem Bel.setCell (h : Bel B a w) {p : Addr} (hp : B ≤ p.block) (u : Value) : Bel B a (w.setCell p u) := ⟨h.toBelow.setCell hp u, h.more⟩

/-- All that has turned: draws, and new blocks. -/
theorem Bel.grow (h : Bel w.heap.size w w') : ∃ q os, w' = Go.Sort.grow (w.drewN q) os := by
  refine ⟨w'.drawn - w.drawn, w'.heap.extract w.heap.size w'.heap.size, ?_⟩
  obtain ⟨h1, hm⟩ := h
  have hh : w'.heap = w.heap ++ w'.heap.extract w.heap.size w'.heap.size := by
    apply Array.ext_getElem?
    intro i
    by_cases hi : i < w.heap.size
    · rw [h1.block i hi, Array.getElem?_append_left hi]
    · rw [Array.getElem?_append_right (by omega), Array.getElem?_extract]
      have hz := h1.size
      by_cases hj : i < w'.heap.size
      · rw [if_pos (by omega)]; congr 1; omega
      · rw [if_neg (by omega), Array.getElem?_eq_none (by omega)]
  obtain ⟨e1, e2, e3, e4, e5⟩ := h1
  cases w with
  | mk heap tape drawn os output =>
    cases w' with
    | mk heap' tape' drawn' os' output' =>
      simp only at *
      subst e1 e2 e3
      simp only [Go.Sort.grow, World.drewN, World.mk.injEq, true_and, and_true]
      exact ⟨hh, by omega⟩
end Go.Proofs.YtnahbfmbmpoljaaGreatDoor
