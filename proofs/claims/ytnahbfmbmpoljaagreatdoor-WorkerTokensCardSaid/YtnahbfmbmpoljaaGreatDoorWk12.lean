/-
  The walks of workers: whether two lists of workers are the same, by the reference.
-/
import Derived.Test.YtnahbfmbmpoljaaGreatDoorWk8



namespace Go.Proofs.YtnahbfmbmpoljaaGreatDoor
open Go.RowKit

/-- A list's row, and the lists of its workers. -/
structure RwW (w : World) (B : Nat) (A : Option Addr) (l : List Work) : Prop where
  row : Rw workE 9 w B A l
  labs : ∀ x ∈ l, LabWork w B x
theorem RwW.below {w w' : World} {B C : Nat} {A : Option Addr} {l : List Work} (h : RwW w B A l) (hb : Below C w w') (hB : B ≤ C) : RwW w' B A l := ⟨h.row.below hb hB, fun x hx => (h.labs x hx).below hb hB⟩
theorem RwW.more {w : World} {B B' : Nat} {A : Option Addr} {l : List Work} (h : RwW w B A l) (hB : B ≤ B') : RwW w B' A l := ⟨h.row.more hB, fun x hx => (h.labs x hx).more hB⟩
theorem RwW.nil {w : World} {B : Nat} {A : Option Addr} : RwW w B A [] := ⟨Rw.nil, fun _ h => absurd h (by simp)⟩

end Go.Proofs.YtnahbfmbmpoljaaGreatDoor
