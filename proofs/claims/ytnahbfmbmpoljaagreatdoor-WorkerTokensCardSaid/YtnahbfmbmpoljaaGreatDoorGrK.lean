/-
  A row with one more element: what else an insertion leaves as it was.
-/
import Derived.Test.YtnahbfmbmpoljaaGreatDoorCopyK
import Derived.Maps.AppendAt
import Derived.Maps.Range
import Derived.Maps.RangeWalk
namespace Go.Proofs.YtnahbfmbmpoljaaGreatDoor
open Go.RowKit

theorem drew_cell (w : World) (a : Addr) : w.drew.cell? a = w.cell? a := rfl
theorem drew_frozen (w : World) (a : Addr) : w.drew.frozen? a = w.frozen? a := rfl
theorem grown_setCell (w : World) (b i : Nat) (v : Value) : w.grownBy (w.setCell ⟨b, i, none⟩ v) (some b) :=
  ⟨rfl, rfl, rfl, by simp [World.setCell], fun k _ hk => Below.heap_setCell _ _ _ _ (fun e => hk (by simp [e]))⟩
theorem grown_setCells (g : Nat) : ∀ (vs : List Value) (o : Nat) (w : World), w.grownBy (w.setCells g o vs) (some g)
  | [], _, w => World.grownBy.refl w _
  | v :: r, o, w => by
    rw [World.setCells]
    exact (grown_setCell w g o v).trans (grown_setCells g r (o + 1) _)
theorem grown_shift (w : World) (g i j : Nat) (us vs : List Value) : w.grownBy ((w.drew.setCells g i us).setCells g j vs) (some g) :=
  (show w.grownBy w.drew (some g) from ⟨rfl, rfl, rfl, Nat.le_refl _, fun _ _ _ => rfl⟩).trans ((grown_setCells g us i w.drew).trans (grown_setCells g vs j _))
theorem grown_grow (w : World) (row : Option Nat) (ob : Obj) (i j : Nat) (us vs : List Value) : w.grownBy ((((w.drew.alloc ob).setCells w.heap.size i us).drew).setCells w.heap.size j vs) row := by
  have h0 : w.grownBy (w.drew.alloc ob) none := (show w.grownBy w.drew none from ⟨rfl, rfl, rfl, Nat.le_refl _, fun _ _ _ => rfl⟩).trans (World.grownBy_alloc _ _ _)
  have h1 : (w.drew.alloc ob).grownBy (((w.drew.alloc ob).setCells w.heap.size i us).drew) (some w.heap.size) := (grown_setCells w.heap.size us i _).trans ⟨rfl, rfl, rfl, Nat.le_refl _, fun _ _ _ => rfl⟩
  have h2 := h1.trans (grown_setCells w.heap.size vs j _)
  exact (h0.andThen h2 (fun k hk => .inl (by simp at hk; omega))).but row
end Go.Proofs.YtnahbfmbmpoljaaGreatDoor
