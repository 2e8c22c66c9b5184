/-
  The readings of the shares.
-/
import Derived.Test.YtopicpghhpkgbaaDoorOpens2
namespace Go.Proofs.YtopicpghhpkgbaaDoor
open Go.ChangeShapes Go.WideShapes Go.ChangeAt Go.RowKit
structure Share where
  proj : Str
  weight : I64
  served : I64
deriving DecidableEq, Inhabited
def shareE (x : Share) : List Value := [.string x.proj.1, .int .i64 x.weight.1, .int .i64 x.served.1]
theorem shareE_len (x : Share) : (shareE x).length = 3 := rfl
theorem shareE_one (x : Share) : ∀ u ∈ shareE x, u.oneCell' = true := by
  intro u hu
  simp only [shareE, List.mem_cons, List.not_mem_nil, or_false] at hu
  rcases hu with rfl | rfl | rfl <;> rfl
set_option maxRecDepth 100000 in
theorem shareE_of {H : Type} {enc : TypeId × Value → H} {w : World} {base : Nat} {sp : Nat → Bool} {hd : Bool} (fuel : Nat) (cs : List Value) (x : DataW H × List MemPlace) (h : DataW.trod enc Tryd.prog w base sp hd fuel 39 cs = some x) : ∃ y : Share, cs = shareE y := by
  obtain ⟨hl, hf⟩ := trod_fields Tryd.underlying39 h
  rw [show Tryd.prog.cellsOf 39 = 3 by kernel_rfl] at hl
  match cs, hl with
  | [c0, c1, c2], _ =>
    obtain ⟨n0, y0, h0⟩ := hf 0 _ rfl
    change DataW.trod _ _ _ _ _ _ _ 9 (List.take (Tryd.prog.cellsOf 9) (List.drop 0 _)) = _ at h0
    rw [show Tryd.prog.cellsOf 9 = 1 by kernel_rfl] at h0
    obtain ⟨v0, e0⟩ := leaf_string Tryd.underlying9 h0
    simp at e0
    obtain ⟨n1, y1, h1⟩ := hf 1 _ rfl
    change DataW.trod _ _ _ _ _ _ _ 3 (List.take (Tryd.prog.cellsOf 3) (List.drop 1 _)) = _ at h1
    rw [show Tryd.prog.cellsOf 3 = 1 by kernel_rfl] at h1
    obtain ⟨v1, e1⟩ := leaf_int Tryd.underlying3 h1
    simp at e1
    obtain ⟨n2, y2, h2⟩ := hf 2 _ rfl
    change DataW.trod _ _ _ _ _ _ _ 3 (List.take (Tryd.prog.cellsOf 3) (List.drop 2 _)) = _ at h2
    rw [show Tryd.prog.cellsOf 3 = 1 by kernel_rfl] at h2
    obtain ⟨v2, e2⟩ := leaf_int Tryd.underlying3 h2
    simp at e2
    subst e0 e1 e2
    exact ⟨⟨v0, v1, v2⟩, rfl⟩
end Go.Proofs.YtopicpghhpkgbaaDoor
