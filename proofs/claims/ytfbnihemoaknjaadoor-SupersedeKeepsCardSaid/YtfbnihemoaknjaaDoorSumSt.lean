/-
  The readings of the structs of superseding.
-/
import Derived.Test.YtfbnihemoaknjaaDoorIdent4
import Derived.Test.YtfbnihemoaknjaaDoorOpens
namespace Go.Proofs.YtfbnihemoaknjaaDoor
open Go.ChangeShapes Go.WideShapes Go.ChangeAt Go.RowKit
/-- An int, as Go has it. -/
abbrev I64 : Type := { n : Int // -9223372036854775808 ≤ n ∧ n ≤ 9223372036854775807 }
instance : Inhabited I64 := ⟨⟨0, by omega⟩⟩
structure Sum where
  run : Str
  proj : Str
  ref : Str
  fork : Bool
  pipe : Str
  number : I64
  done : Bool
  keep : Bool
deriving DecidableEq, Inhabited
def sumE (x : Sum) : List Value := [.string x.run.1, .string x.proj.1, .string x.ref.1, .bool x.fork, .string x.pipe.1, .int .i64 x.number.1, .bool x.done, .bool x.keep]
theorem sumE_len (x : Sum) : (sumE x).length = 8 := rfl
theorem sumE_one (x : Sum) : ∀ u ∈ sumE x, u.oneCell' = true := by
  intro u hu
  simp only [sumE, List.mem_cons, List.not_mem_nil, or_false] at hu
  rcases hu with rfl | rfl | rfl | rfl | rfl | rfl | rfl | rfl <;> rfl
theorem sumE_of {H : Type} {enc : TypeId × Value → H} {w : World} {base : Nat} {sp : Nat → Bool} {hd : Bool} (fuel : Nat) (cs : List Value) (x : DataW H × List MemPlace) (h : DataW.trod enc Tryd.prog w base sp hd fuel 26 cs = some x) : ∃ y : Sum, cs = sumE y := by
  obtain ⟨hl, hf⟩ := trod_fields Tryd.underlying26 h
  rw [show Tryd.prog.cellsOf 26 = 8 by kernel_rfl] at hl
  match cs, hl with
  | [c0, c1, c2, c3, c4, c5, c6, c7], _ =>
    obtain ⟨n0, y0, h0⟩ := hf 0 _ rfl
    change DataW.trod _ _ _ _ _ _ _ 9 (List.take (Tryd.prog.cellsOf 9) (List.drop 0 _)) = _ at h0
    rw [show Tryd.prog.cellsOf 9 = 1 by kernel_rfl] at h0
    obtain ⟨v0, e0⟩ := leaf_string Tryd.underlying9 h0
    simp at e0
    obtain ⟨nhs1, yhs1, hs1⟩ := hf 1 _ rfl
    change DataW.trod _ _ _ _ _ _ _ 24 (List.take (Tryd.prog.cellsOf 24) (List.drop 1 _)) = _ at hs1
    rw [show Tryd.prog.cellsOf 24 = 3 by kernel_rfl] at hs1
    obtain ⟨_, hfhs1⟩ := trod_fields Tryd.underlying24 hs1
    obtain ⟨n1, y1, h1⟩ := hfhs1 0 _ rfl
    change DataW.trod _ _ _ _ _ _ _ 9 (List.take (Tryd.prog.cellsOf 9) (List.drop 0 _)) = _ at h1
    rw [show Tryd.prog.cellsOf 9 = 1 by kernel_rfl] at h1
    obtain ⟨v1, e1⟩ := leaf_string Tryd.underlying9 h1
    simp at e1
    obtain ⟨n2, y2, h2⟩ := hfhs1 1 _ rfl
    change DataW.trod _ _ _ _ _ _ _ 9 (List.take (Tryd.prog.cellsOf 9) (List.drop 1 _)) = _ at h2
    rw [show Tryd.prog.cellsOf 9 = 1 by kernel_rfl] at h2
    obtain ⟨v2, e2⟩ := leaf_string Tryd.underlying9 h2
    simp at e2
    obtain ⟨n3, y3, h3⟩ := hfhs1 2 _ rfl
    change DataW.trod _ _ _ _ _ _ _ 4 (List.take (Tryd.prog.cellsOf 4) (List.drop 2 _)) = _ at h3
    rw [show Tryd.prog.cellsOf 4 = 1 by kernel_rfl] at h3
    obtain ⟨v3, e3⟩ := leaf_bool Tryd.underlying4 h3
    simp at e3
    obtain ⟨n4, y4, h4⟩ := hf 2 _ rfl
    change DataW.trod _ _ _ _ _ _ _ 9 (List.take (Tryd.prog.cellsOf 9) (List.drop 4 _)) = _ at h4
    rw [show Tryd.prog.cellsOf 9 = 1 by kernel_rfl] at h4
    obtain ⟨v4, e4⟩ := leaf_string Tryd.underlying9 h4
    simp at e4
    obtain ⟨n5, y5, h5⟩ := hf 3 _ rfl
    change DataW.trod _ _ _ _ _ _ _ 3 (List.take (Tryd.prog.cellsOf 3) (List.drop 5 _)) = _ at h5
    rw [show Tryd.prog.cellsOf 3 = 1 by kernel_rfl] at h5
    obtain ⟨v5, e5⟩ := leaf_int Tryd.underlying3 h5
    simp at e5
    obtain ⟨n6, y6, h6⟩ := hf 4 _ rfl
    change DataW.trod _ _ _ _ _ _ _ 4 (List.take (Tryd.prog.cellsOf 4) (List.drop 6 _)) = _ at h6
    rw [show Tryd.prog.cellsOf 4 = 1 by kernel_rfl] at h6
    obtain ⟨v6, e6⟩ := leaf_bool Tryd.underlying4 h6
    simp at e6
    obtain ⟨n7, y7, h7⟩ := hf 5 _ rfl
    change DataW.trod _ _ _ _ _ _ _ 4 (List.take (Tryd.prog.cellsOf 4) (List.drop 7 _)) = _ at h7
    rw [show Tryd.prog.cellsOf 4 = 1 by kernel_rfl] at h7
    obtain ⟨v7, e7⟩ := leaf_bool Tryd.underlying4 h7
    simp at e7
    subst e0 e1 e2 e3 e4 e5 e6 e7
    exact ⟨⟨v0, v1, v2, v3, v4, v5, v6, v7⟩, rfl⟩
end Go.Proofs.YtfbnihemoaknjaaDoor
