/-
  The readings of the pending jobs.
-/
import Derived.Test.YtnhfbignnnicnaaDoorOpens2
namespace Go.Proofs.YtnhfbignnnicnaaDoor
open Go.ChangeShapes Go.WideShapes Go.ChangeAt Go.RowKit
structure Pend where
  run : Str
  job : Str
  proj : Str
  prio : I64
  since : I64
  cost : I64
  labsA : Option Addr
  labsC : Nat
  labs : List Str
  trust : I64
  group : Str
  policy : I64
deriving Inhabited
def pendE (x : Pend) : List Value := [.string x.run.1, .string x.job.1, .string x.proj.1, .int .i64 x.prio.1, .int .i64 x.since.1, .int .i64 x.cost.1, .slice x.labsA x.labs.length x.labsC, .int .i64 x.trust.1, .string x.group.1, .int .i64 x.policy.1]
theorem pendE_len (x : Pend) : (pendE x).length = 10 := rfl
theorem pendE_one (x : Pend) : ∀ u ∈ pendE x, u.oneCell' = true := by
  intro u hu
  simp only [pendE, List.mem_cons, List.not_mem_nil, or_false] at hu
  rcases hu with rfl | rfl | rfl | rfl | rfl | rfl | rfl | rfl | rfl | rfl <;> rfl
/-- The slices within read as what they hold, below a block. -/
def LabPend (w : World) (B : Nat) (x : Pend) : Prop := x.labs.length ≤ x.labsC ∧ x.labsC ≤ maxLen ∧ Rw sE 1 w B x.labsA x.labs
theorem LabPend.keep {w w' : World} {B : Nat} {x : Pend} (h : LabPend w B x) (hk : ∀ p : Addr, p.block < B → w'.cell? p = w.cell? p) : LabPend w' B x := ⟨h.1, h.2.1, h.2.2.keep hk⟩
theorem LabPend.more {w : World} {B B' : Nat} {x : Pend} (h : LabPend w B x) (hB : B ≤ B') : LabPend w B' x := ⟨h.1, h.2.1, h.2.2.more hB⟩
theorem LabPend.below {w w' : World} {B C : Nat} {x : Pend} (h : LabPend w B x) (hb : Below C w w') (hB : B ≤ C) : LabPend w' B x := h.keep fun _ hp => hb.cell (by omega)
set_option maxRecDepth 100000 in
theorem pendE_of {H : Type} {enc : TypeId × Value → H} {w : World}  (fuel : Nat) (cs : List Value) (x : DataW H × List MemPlace) (h : DataW.trod enc Tryd.prog w 0 (fun _ => true) true fuel 27 cs = some x) : ∃ y : Pend, cs = pendE y ∧ LabPend w w.heap.size y := by
  obtain ⟨hl, hf⟩ := trod_fields Tryd.underlying27 h
  rw [show Tryd.prog.cellsOf 27 = 10 by kernel_rfl] at hl
  match cs, hl with
  | [c0, c1, c2, c3, c4, c5, c6, c7, c8, c9], _ =>
    obtain ⟨nhs0, yhs0, hs0⟩ := hf 0 _ rfl
    change DataW.trod _ _ _ _ _ _ _ 24 (List.take (Tryd.prog.cellsOf 24) (List.drop 0 _)) = _ at hs0
    rw [show Tryd.prog.cellsOf 24 = 2 by kernel_rfl] at hs0
    obtain ⟨_, hfhs0⟩ := trod_fields Tryd.underlying24 hs0
    obtain ⟨n0, y0, h0⟩ := hfhs0 0 _ rfl
    change DataW.trod _ _ _ _ _ _ _ 9 (List.take (Tryd.prog.cellsOf 9) (List.drop 0 _)) = _ at h0
    rw [show Tryd.prog.cellsOf 9 = 1 by kernel_rfl] at h0
    obtain ⟨v0, e0⟩ := leaf_string Tryd.underlying9 h0
    simp at e0
    obtain ⟨n1, y1, h1⟩ := hfhs0 1 _ rfl
    change DataW.trod _ _ _ _ _ _ _ 9 (List.take (Tryd.prog.cellsOf 9) (List.drop 1 _)) = _ at h1
    rw [show Tryd.prog.cellsOf 9 = 1 by kernel_rfl] at h1
    obtain ⟨v1, e1⟩ := leaf_string Tryd.underlying9 h1
    simp at e1
    obtain ⟨n2, y2, h2⟩ := hf 1 _ rfl
    change DataW.trod _ _ _ _ _ _ _ 9 (List.take (Tryd.prog.cellsOf 9) (List.drop 2 _)) = _ at h2
    rw [show Tryd.prog.cellsOf 9 = 1 by kernel_rfl] at h2
    obtain ⟨v2, e2⟩ := leaf_string Tryd.underlying9 h2
    simp at e2
    obtain ⟨n3, y3, h3⟩ := hf 2 _ rfl
    change DataW.trod _ _ _ _ _ _ _ 3 (List.take (Tryd.prog.cellsOf 3) (List.drop 3 _)) = _ at h3
    rw [show Tryd.prog.cellsOf 3 = 1 by kernel_rfl] at h3
    obtain ⟨v3, e3⟩ := leaf_int Tryd.underlying3 h3
    simp at e3
    obtain ⟨n4, y4, h4⟩ := hf 3 _ rfl
    change DataW.trod _ _ _ _ _ _ _ 3 (List.take (Tryd.prog.cellsOf 3) (List.drop 4 _)) = _ at h4
    rw [show Tryd.prog.cellsOf 3 = 1 by kernel_rfl] at h4
    obtain ⟨v4, e4⟩ := leaf_int Tryd.underlying3 h4
    simp at e4
    obtain ⟨n5, y5, h5⟩ := hf 4 _ rfl
    change DataW.trod _ _ _ _ _ _ _ 3 (List.take (Tryd.prog.cellsOf 3) (List.drop 5 _)) = _ at h5
    rw [show Tryd.prog.cellsOf 3 = 1 by kernel_rfl] at h5
    obtain ⟨v5, e5⟩ := leaf_int Tryd.underlying3 h5
    simp at e5
    obtain ⟨n6, y6, h6⟩ := hf 5 _ rfl
    change DataW.trod _ _ _ _ _ _ _ 25 (List.take (Tryd.prog.cellsOf 25) (List.drop 6 _)) = _ at h6
    rw [show Tryd.prog.cellsOf 25 = 1 by kernel_rfl] at h6
    obtain ⟨A6, v6, C6, e6, q6⟩ := leaf_strs h6
    simp at e6
    obtain ⟨n7, y7, h7⟩ := hf 6 _ rfl
    change DataW.trod _ _ _ _ _ _ _ 3 (List.take (Tryd.prog.cellsOf 3) (List.drop 7 _)) = _ at h7
    rw [show Tryd.prog.cellsOf 3 = 1 by kernel_rfl] at h7
    obtain ⟨v7, e7⟩ := leaf_int Tryd.underlying3 h7
    simp at e7
    obtain ⟨n8, y8, h8⟩ := hf 7 _ rfl
    change DataW.trod _ _ _ _ _ _ _ 9 (List.take (Tryd.prog.cellsOf 9) (List.drop 8 _)) = _ at h8
    rw [show Tryd.prog.cellsOf 9 = 1 by kernel_rfl] at h8
    obtain ⟨v8, e8⟩ := leaf_string Tryd.underlying9 h8
    simp at e8
    obtain ⟨n9, y9, h9⟩ := hf 8 _ rfl
    change DataW.trod _ _ _ _ _ _ _ 3 (List.take (Tryd.prog.cellsOf 3) (List.drop 9 _)) = _ at h9
    rw [show Tryd.prog.cellsOf 3 = 1 by kernel_rfl] at h9
    obtain ⟨v9, e9⟩ := leaf_int Tryd.underlying3 h9
    simp at e9
    subst e0 e1 e2 e3 e4 e5 e6 e7 e8 e9
    exact ⟨⟨v0, v1, v2, v3, v4, v5, A6, C6, v6, v7, v8, v9⟩, rfl, q6.1, q6.2.1, q6.2.2⟩
end Go.Proofs.YtnhfbignnnicnaaDoor
