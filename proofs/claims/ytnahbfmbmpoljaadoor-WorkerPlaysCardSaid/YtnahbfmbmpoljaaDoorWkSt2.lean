/-
  The readings of the workers.
  The readings of the calls.
-/
import Derived.Test.YtnahbfmbmpoljaaDoorNames4

namespace Go.Proofs.YtnahbfmbmpoljaaDoor
open Go.ChangeShapes Go.WideShapes Go.ChangeAt Go.RowKit
theorem leaf_ints {H : Type} {enc : TypeId × Value → H} {w : World} {fuel : Nat} {cs : List Value} {x : DataW H × List MemPlace} (h : DataW.trod enc Tryd.prog w 0 (fun _ => true) true fuel 23 cs = some x) :
    ∃ (A : Option Addr) (l : List I64) (c : Nat), cs = [.slice A l.length c] ∧ l.length ≤ c ∧ c ≤ maxLen ∧ Rw iE 1 w w.heap.size A l := by
  obtain ⟨A, l, c, e, h1, h2, h3, _⟩ := cells_rows (α := I64) (E := iE) (Q := fun _ => True) iE_len (by omega) Tryd.underlying23 (by kernel_rfl) (fun fuel cs x h => by
    obtain ⟨s, e⟩ := leaf_int Tryd.underlying3 h
    exact ⟨s, e, trivial⟩) h
  exact ⟨A, l, c, e, h1, h2, h3⟩
structure Work where
  id : Str
  labsA : Option Addr
  labsC : Nat
  labs : List Str
  trust : I64
  slots : I64
  pre : Bool
  phase : I64
  beat : I64
  till : I64
  toksA : Option Addr
  toksC : Nat
  toks : List I64
deriving Inhabited
def workE (x : Work) : List Value := [.string x.id.1, .slice x.labsA x.labs.length x.labsC, .int .i64 x.trust.1, .int .i64 x.slots.1, .bool x.pre, .int .i64 x.phase.1, .int .i64 x.beat.1, .int .i64 x.till.1, .slice x.toksA x.toks.length x.toksC]
theorem workE_len (x : Work) : (workE x).length = 9 := rfl
theorem workE_one (x : Work) : ∀ u ∈ workE x, u.oneCell' = true := by
  intro u hu
  simp only [workE, List.mem_cons, List.not_mem_nil, or_false] at hu
  rcases hu with rfl | rfl | rfl | rfl | rfl | rfl | rfl | rfl | rfl <;> rfl
/-- The slices within read as what they hold, below a block. -/
def LabWork (w : World) (B : Nat) (x : Work) : Prop := x.labs.length ≤ x.labsC ∧ x.labsC ≤ maxLen ∧ Rw sE 1 w B x.labsA x.labs ∧ x.toks.length ≤ x.toksC ∧ x.toksC ≤ maxLen ∧ Rw iE 1 w B x.toksA x.toks
theorem LabWork.keep {w w' : World} {B : Nat} {x : Work} (h : LabWork w B x) (hk : ∀ p : Addr, p.block < B → w'.cell? p = w.cell? p) : LabWork w' B x := ⟨h.1, h.2.1, h.2.2.1.keep hk, h.2.2.2.1, h.2.2.2.2.1, h.2.2.2.2.2.keep hk⟩
theorem LabWork.more {w : World} {B B' : Nat} {x : Work} (h : LabWork w B x) (hB : B ≤ B') : LabWork w B' x := ⟨h.1, h.2.1, h.2.2.1.more hB, h.2.2.2.1, h.2.2.2.2.1, h.2.2.2.2.2.more hB⟩
theorem LabWork.below {w w' : World} {B C : Nat} {x : Work} (h : LabWork w B x) (hb : Below C w w') (hB : B ≤ C) : LabWork w' B x := h.keep fun _ hp => hb.cell (by omega)
set_option maxRecDepth 100000 in
theorem workE_of {H : Type} {enc : TypeId × Value → H} {w : World}  (fuel : Nat) (cs : List Value) (x : DataW H × List MemPlace) (h : DataW.trod enc Tryd.prog w 0 (fun _ => true) true fuel 25 cs = some x) : ∃ y : Work, cs = workE y ∧ LabWork w w.heap.size y := by
  obtain ⟨hl, hf⟩ := trod_fields Tryd.underlying25 h
  rw [show Tryd.prog.cellsOf 25 = 9 by kernel_rfl] at hl
  match cs, hl with
  | [c0, c1, c2, c3, c4, c5, c6, c7, c8], _ =>
    obtain ⟨n0, y0, h0⟩ := hf 0 _ rfl
    change DataW.trod _ _ _ _ _ _ _ 9 (List.take (Tryd.prog.cellsOf 9) (List.drop 0 _)) = _ at h0
    rw [show Tryd.prog.cellsOf 9 = 1 by kernel_rfl] at h0
    obtain ⟨v0, e0⟩ := leaf_string Tryd.underlying9 h0
    simp at e0
    obtain ⟨n1, y1, h1⟩ := hf 1 _ rfl
    change DataW.trod _ _ _ _ _ _ _ 22 (List.take (Tryd.prog.cellsOf 22) (List.drop 1 _)) = _ at h1
    rw [show Tryd.prog.cellsOf 22 = 1 by kernel_rfl] at h1
    obtain ⟨A1, v1, C1, e1, q1⟩ := leaf_strs h1
    simp at e1
    obtain ⟨n2, y2, h2⟩ := hf 2 _ rfl
    change DataW.trod _ _ _ _ _ _ _ 3 (List.take (Tryd.prog.cellsOf 3) (List.drop 2 _)) = _ at h2
    rw [show Tryd.prog.cellsOf 3 = 1 by kernel_rfl] at h2
    obtain ⟨v2, e2⟩ := leaf_int Tryd.underlying3 h2
    simp at e2
    obtain ⟨n3, y3, h3⟩ := hf 3 _ rfl
    change DataW.trod _ _ _ _ _ _ _ 3 (List.take (Tryd.prog.cellsOf 3) (List.drop 3 _)) = _ at h3
    rw [show Tryd.prog.cellsOf 3 = 1 by kernel_rfl] at h3
    obtain ⟨v3, e3⟩ := leaf_int Tryd.underlying3 h3
    simp at e3
    obtain ⟨n4, y4, h4⟩ := hf 4 _ rfl
    change DataW.trod _ _ _ _ _ _ _ 4 (List.take (Tryd.prog.cellsOf 4) (List.drop 4 _)) = _ at h4
    rw [show Tryd.prog.cellsOf 4 = 1 by kernel_rfl] at h4
    obtain ⟨v4, e4⟩ := leaf_bool Tryd.underlying4 h4
    simp at e4
    obtain ⟨n5, y5, h5⟩ := hf 5 _ rfl
    change DataW.trod _ _ _ _ _ _ _ 3 (List.take (Tryd.prog.cellsOf 3) (List.drop 5 _)) = _ at h5
    rw [show Tryd.prog.cellsOf 3 = 1 by kernel_rfl] at h5
    obtain ⟨v5, e5⟩ := leaf_int Tryd.underlying3 h5
    simp at e5
    obtain ⟨n6, y6, h6⟩ := hf 6 _ rfl
    change DataW.trod _ _ _ _ _ _ _ 3 (List.take (Tryd.prog.cellsOf 3) (List.drop 6 _)) = _ at h6
    rw [show Tryd.prog.cellsOf 3 = 1 by kernel_rfl] at h6
    obtain ⟨v6, e6⟩ := leaf_int Tryd.underlying3 h6
    simp at e6
    obtain ⟨n7, y7, h7⟩ := hf 7 _ rfl
    change DataW.trod _ _ _ _ _ _ _ 3 (List.take (Tryd.prog.cellsOf 3) (List.drop 7 _)) = _ at h7
    rw [show Tryd.prog.cellsOf 3 = 1 by kernel_rfl] at h7
    obtain ⟨v7, e7⟩ := leaf_int Tryd.underlying3 h7
    simp at e7
    obtain ⟨n8, y8, h8⟩ := hf 8 _ rfl
    change DataW.trod _ _ _ _ _ _ _ 23 (List.take (Tryd.prog.cellsOf 23) (List.drop 8 _)) = _ at h8
    rw [show Tryd.prog.cellsOf 23 = 1 by kernel_rfl] at h8
    obtain ⟨A8, v8, C8, e8, q8⟩ := leaf_ints h8
    simp at e8
    subst e0 e1 e2 e3 e4 e5 e6 e7 e8
    exact ⟨⟨v0, A1, C1, v1, v2, v3, v4, v5, v6, v7, A8, C8, v8⟩, rfl, q1.1, q1.2.1, q1.2.2, q8.1, q8.2.1, q8.2.2⟩
end Go.Proofs.YtnahbfmbmpoljaaDoor

namespace Go.Proofs.YtnahbfmbmpoljaaDoor
open Go.ChangeShapes Go.WideShapes Go.ChangeAt Go.RowKit
structure Mov where
  kind : I64
  wait : I64
  event : I64
  token : I64
deriving DecidableEq, Inhabited
def movE (x : Mov) : List Value := [.int .i64 x.kind.1, .int .i64 x.wait.1, .int .i64 x.event.1, .int .i64 x.token.1]
theorem movE_len (x : Mov) : (movE x).length = 4 := rfl
theorem movE_one (x : Mov) : ∀ u ∈ movE x, u.oneCell' = true := by
  intro u hu
  simp only [movE, List.mem_cons, List.not_mem_nil, or_false] at hu
  rcases hu with rfl | rfl | rfl | rfl <;> rfl
set_option maxRecDepth 100000 in
theorem movE_of {H : Type} {enc : TypeId × Value → H} {w : World} {base : Nat} {sp : Nat → Bool} {hd : Bool} (fuel : Nat) (cs : List Value) (x : DataW H × List MemPlace) (h : DataW.trod enc Tryd.prog w base sp hd fuel 49 cs = some x) : ∃ y : Mov, cs = movE y := by
  obtain ⟨hl, hf⟩ := trod_fields Tryd.underlying49 h
  rw [show Tryd.prog.cellsOf 49 = 4 by kernel_rfl] at hl
  match cs, hl with
  | [c0, c1, c2, c3], _ =>
    obtain ⟨n0, y0, h0⟩ := hf 0 _ rfl
    change DataW.trod _ _ _ _ _ _ _ 3 (List.take (Tryd.prog.cellsOf 3) (List.drop 0 _)) = _ at h0
    rw [show Tryd.prog.cellsOf 3 = 1 by kernel_rfl] at h0
    obtain ⟨v0, e0⟩ := leaf_int Tryd.underlying3 h0
    simp at e0
    obtain ⟨n1, y1, h1⟩ := hf 1 _ rfl
    change DataW.trod _ _ _ _ _ _ _ 3 (List.take (Tryd.prog.cellsOf 3) (List.drop 1 _)) = _ at h1
    rw [show Tryd.prog.cellsOf 3 = 1 by kernel_rfl] at h1
    obtain ⟨v1, e1⟩ := leaf_int Tryd.underlying3 h1
    simp at e1
    obtain ⟨n2, y2, h2⟩ := hf 2 _ rfl
    change DataW.trod _ _ _ _ _ _ _ 3 (List.take (Tryd.prog.cellsOf 3) (List.drop 2 _)) = _ at h2
    rw [show Tryd.prog.cellsOf 3 = 1 by kernel_rfl] at h2
    obtain ⟨v2, e2⟩ := leaf_int Tryd.underlying3 h2
    simp at e2
    obtain ⟨n3, y3, h3⟩ := hf 3 _ rfl
    change DataW.trod _ _ _ _ _ _ _ 3 (List.take (Tryd.prog.cellsOf 3) (List.drop 3 _)) = _ at h3
    rw [show Tryd.prog.cellsOf 3 = 1 by kernel_rfl] at h3
    obtain ⟨v3, e3⟩ := leaf_int Tryd.underlying3 h3
    simp at e3
    subst e0 e1 e2 e3
    exact ⟨⟨v0, v1, v2, v3⟩, rfl⟩
end Go.Proofs.YtnahbfmbmpoljaaDoor
