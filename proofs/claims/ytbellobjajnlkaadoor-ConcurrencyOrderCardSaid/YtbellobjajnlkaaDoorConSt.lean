/-
  The readings of references to jobs, of groups and of calls.
-/
import Derived.Test.YtbellobjajnlkaaDoorNames4
import Derived.Test.YtbellobjajnlkaaDoorCon012
namespace Go.Proofs.YtbellobjajnlkaaDoor
open Go.ChangeShapes Go.WideShapes Go.ChangeAt Go.RowKit
def jRefE (x : JRef) : List Value := [.string x.run.1, .string x.job.1]
theorem jRefE_len (x : JRef) : (jRefE x).length = 2 := rfl
theorem jRefE_one (x : JRef) : ∀ u ∈ jRefE x, u.oneCell' = true := by
  intro u hu
  simp only [jRefE, List.mem_cons, List.not_mem_nil, or_false] at hu
  rcases hu with rfl | rfl <;> rfl
set_option maxRecDepth 100000 in
theorem jRefE_of {H : Type} {enc : TypeId × Value → H} {w : World} {base : Nat} {sp : Nat → Bool} {hd : Bool} (fuel : Nat) (cs : List Value) (x : DataW H × List MemPlace) (h : DataW.trod enc Tryd.prog w base sp hd fuel 29 cs = some x) : ∃ y : JRef, cs = jRefE y := by
  obtain ⟨hl, hf⟩ := trod_fields Tryd.underlying29 h
  rw [show Tryd.prog.cellsOf 29 = 2 by kernel_rfl] at hl
  match cs, hl with
  | [c0, c1], _ =>
    obtain ⟨n0, y0, h0⟩ := hf 0 _ rfl
    change DataW.trod _ _ _ _ _ _ _ 9 (List.take (Tryd.prog.cellsOf 9) (List.drop 0 _)) = _ at h0
    rw [show Tryd.prog.cellsOf 9 = 1 by kernel_rfl] at h0
    obtain ⟨v0, e0⟩ := leaf_string Tryd.underlying9 h0
    simp at e0
    obtain ⟨n1, y1, h1⟩ := hf 1 _ rfl
    change DataW.trod _ _ _ _ _ _ _ 9 (List.take (Tryd.prog.cellsOf 9) (List.drop 1 _)) = _ at h1
    rw [show Tryd.prog.cellsOf 9 = 1 by kernel_rfl] at h1
    obtain ⟨v1, e1⟩ := leaf_string Tryd.underlying9 h1
    simp at e1
    subst e0 e1
    exact ⟨⟨v0, v1⟩, rfl⟩
theorem leaf_refs {H : Type} {enc : TypeId × Value → H} {w : World} {fuel : Nat} {cs : List Value} {x : DataW H × List MemPlace} (h : DataW.trod enc Tryd.prog w 0 (fun _ => true) true fuel 33 cs = some x) :
    ∃ (A : Option Addr) (l : List JRef) (c : Nat), cs = [.slice A l.length c] ∧ l.length ≤ c ∧ c ≤ maxLen ∧ Rw jRefE 2 w w.heap.size A l := by
  obtain ⟨A, l, c, e, h1, h2, h3, _⟩ := cells_rows (α := JRef) (E := jRefE) (Q := fun _ => True) jRefE_len (by omega) Tryd.underlying33 (by kernel_rfl) (fun fuel cs x h => by
    obtain ⟨s, e⟩ := jRefE_of fuel cs x h
    exact ⟨s, e, trivial⟩) h
  exact ⟨A, l, c, e, h1, h2, h3⟩
structure Grp where
  name : Str
  run : Str
  job : Str
  waitA : Option Addr
  waitC : Nat
  wait : List JRef
deriving Inhabited
def grpE (x : Grp) : List Value := [.string x.name.1, .string x.run.1, .string x.job.1, .slice x.waitA x.wait.length x.waitC]
theorem grpE_len (x : Grp) : (grpE x).length = 4 := rfl
theorem grpE_one (x : Grp) : ∀ u ∈ grpE x, u.oneCell' = true := by
  intro u hu
  simp only [grpE, List.mem_cons, List.not_mem_nil, or_false] at hu
  rcases hu with rfl | rfl | rfl | rfl <;> rfl
/-- The slices within read as what they hold, below a block. -/
def LabGrp (w : World) (B : Nat) (x : Grp) : Prop := x.wait.length ≤ x.waitC ∧ x.waitC ≤ maxLen ∧ Rw jRefE 2 w B x.waitA x.wait
theorem LabGrp.keep {w w' : World} {B : Nat} {x : Grp} (h : LabGrp w B x) (hk : ∀ p : Addr, p.block < B → w'.cell? p = w.cell? p) : LabGrp w' B x := ⟨h.1, h.2.1, h.2.2.keep hk⟩
theorem LabGrp.more {w : World} {B B' : Nat} {x : Grp} (h : LabGrp w B x) (hB : B ≤ B') : LabGrp w B' x := ⟨h.1, h.2.1, h.2.2.more hB⟩
theorem LabGrp.below {w w' : World} {B C : Nat} {x : Grp} (h : LabGrp w B x) (hb : Below C w w') (hB : B ≤ C) : LabGrp w' B x := h.keep fun _ hp => hb.cell (by omega)
set_option maxRecDepth 100000 in
theorem grpE_of {H : Type} {enc : TypeId × Value → H} {w : World}  (fuel : Nat) (cs : List Value) (x : DataW H × List MemPlace) (h : DataW.trod enc Tryd.prog w 0 (fun _ => true) true fuel 45 cs = some x) : ∃ y : Grp, cs = grpE y ∧ LabGrp w w.heap.size y := by
  obtain ⟨hl, hf⟩ := trod_fields Tryd.underlying45 h
  rw [show Tryd.prog.cellsOf 45 = 4 by kernel_rfl] at hl
  match cs, hl with
  | [c0, c1, c2, c3], _ =>
    obtain ⟨n0, y0, h0⟩ := hf 0 _ rfl
    change DataW.trod _ _ _ _ _ _ _ 9 (List.take (Tryd.prog.cellsOf 9) (List.drop 0 _)) = _ at h0
    rw [show Tryd.prog.cellsOf 9 = 1 by kernel_rfl] at h0
    obtain ⟨v0, e0⟩ := leaf_string Tryd.underlying9 h0
    simp at e0
    obtain ⟨nhs1, yhs1, hs1⟩ := hf 1 _ rfl
    change DataW.trod _ _ _ _ _ _ _ 29 (List.take (Tryd.prog.cellsOf 29) (List.drop 1 _)) = _ at hs1
    rw [show Tryd.prog.cellsOf 29 = 2 by kernel_rfl] at hs1
    obtain ⟨_, hfhs1⟩ := trod_fields Tryd.underlying29 hs1
    obtain ⟨n1, y1, h1⟩ := hfhs1 0 _ rfl
    change DataW.trod _ _ _ _ _ _ _ 9 (List.take (Tryd.prog.cellsOf 9) (List.drop 0 _)) = _ at h1
    rw [show Tryd.prog.cellsOf 9 = 1 by kernel_rfl] at h1
    obtain ⟨v1, e1⟩ := leaf_string Tryd.underlying9 h1
    simp at e1
    obtain ⟨n2, y2, h2⟩ := hfhs1 1 _ rfl
    change DataW.trod _ _ _ _ _ _ _ 9 (List.take (Tryd.prog.cellsOf 9) (List.drop 1 _)) = _ at h2
    rw [show Tryd.prog.cellsOf 9 = 1 by kernel_rfl] at h2
    obtain ⟨v2, e2⟩ := leaf_string Tryd.underlying9 h2
    simp at e2
    obtain ⟨n3, y3, h3⟩ := hf 2 _ rfl
    change DataW.trod _ _ _ _ _ _ _ 33 (List.take (Tryd.prog.cellsOf 33) (List.drop 3 _)) = _ at h3
    rw [show Tryd.prog.cellsOf 33 = 1 by kernel_rfl] at h3
    obtain ⟨A3, v3, C3, e3, q3⟩ := leaf_refs h3
    simp at e3
    subst e0 e1 e2 e3
    exact ⟨⟨v0, v1, v2, A3, C3, v3⟩, rfl, q3.1, q3.2.1, q3.2.2⟩
structure Mov where
  kind : I64
  name : Str
  run : Str
  job : Str
  policy : I64
deriving DecidableEq, Inhabited
def movE (x : Mov) : List Value := [.int .i64 x.kind.1, .string x.name.1, .string x.run.1, .string x.job.1, .int .i64 x.policy.1]
theorem movE_len (x : Mov) : (movE x).length = 5 := rfl
theorem movE_one (x : Mov) : ∀ u ∈ movE x, u.oneCell' = true := by
  intro u hu
  simp only [movE, List.mem_cons, List.not_mem_nil, or_false] at hu
  rcases hu with rfl | rfl | rfl | rfl | rfl <;> rfl
set_option maxRecDepth 100000 in
theorem movE_of {H : Type} {enc : TypeId × Value → H} {w : World} {base : Nat} {sp : Nat → Bool} {hd : Bool} (fuel : Nat) (cs : List Value) (x : DataW H × List MemPlace) (h : DataW.trod enc Tryd.prog w base sp hd fuel 31 cs = some x) : ∃ y : Mov, cs = movE y := by
  obtain ⟨hl, hf⟩ := trod_fields Tryd.underlying31 h
  rw [show Tryd.prog.cellsOf 31 = 5 by kernel_rfl] at hl
  match cs, hl with
  | [c0, c1, c2, c3, c4], _ =>
    obtain ⟨n0, y0, h0⟩ := hf 0 _ rfl
    change DataW.trod _ _ _ _ _ _ _ 3 (List.take (Tryd.prog.cellsOf 3) (List.drop 0 _)) = _ at h0
    rw [show Tryd.prog.cellsOf 3 = 1 by kernel_rfl] at h0
    obtain ⟨v0, e0⟩ := leaf_int Tryd.underlying3 h0
    simp at e0
    obtain ⟨n1, y1, h1⟩ := hf 1 _ rfl
    change DataW.trod _ _ _ _ _ _ _ 9 (List.take (Tryd.prog.cellsOf 9) (List.drop 1 _)) = _ at h1
    rw [show Tryd.prog.cellsOf 9 = 1 by kernel_rfl] at h1
    obtain ⟨v1, e1⟩ := leaf_string Tryd.underlying9 h1
    simp at e1
    obtain ⟨nhs2, yhs2, hs2⟩ := hf 2 _ rfl
    change DataW.trod _ _ _ _ _ _ _ 29 (List.take (Tryd.prog.cellsOf 29) (List.drop 2 _)) = _ at hs2
    rw [show Tryd.prog.cellsOf 29 = 2 by kernel_rfl] at hs2
    obtain ⟨_, hfhs2⟩ := trod_fields Tryd.underlying29 hs2
    obtain ⟨n2, y2, h2⟩ := hfhs2 0 _ rfl
    change DataW.trod _ _ _ _ _ _ _ 9 (List.take (Tryd.prog.cellsOf 9) (List.drop 0 _)) = _ at h2
    rw [show Tryd.prog.cellsOf 9 = 1 by kernel_rfl] at h2
    obtain ⟨v2, e2⟩ := leaf_string Tryd.underlying9 h2
    simp at e2
    obtain ⟨n3, y3, h3⟩ := hfhs2 1 _ rfl
    change DataW.trod _ _ _ _ _ _ _ 9 (List.take (Tryd.prog.cellsOf 9) (List.drop 1 _)) = _ at h3
    rw [show Tryd.prog.cellsOf 9 = 1 by kernel_rfl] at h3
    obtain ⟨v3, e3⟩ := leaf_string Tryd.underlying9 h3
    simp at e3
    obtain ⟨n4, y4, h4⟩ := hf 3 _ rfl
    change DataW.trod _ _ _ _ _ _ _ 3 (List.take (Tryd.prog.cellsOf 3) (List.drop 4 _)) = _ at h4
    rw [show Tryd.prog.cellsOf 3 = 1 by kernel_rfl] at h4
    obtain ⟨v4, e4⟩ := leaf_int Tryd.underlying3 h4
    simp at e4
    subst e0 e1 e2 e3 e4
    exact ⟨⟨v0, v1, v2, v3, v4⟩, rfl⟩
/-- A group without where its waiting jobs lie. -/
def Grp.g (x : Grp) : G := ⟨x.name, ⟨x.run, x.job⟩, x.wait⟩
def atG (x : Grp) (A : Option Addr) (C : Nat) : Grp := { x with waitA := A, waitC := C }
theorem atG_g (x : Grp) (A : Option Addr) (C : Nat) : (atG x A C).g = x.g := rfl
/-- A list of groups that reads as one, with their waiting jobs. -/
structure RwG (w : World) (B : Nat) (A : Option Addr) (l : List Grp) : Prop where
  row : Rw grpE 4 w B A l
  labs : ∀ x ∈ l, LabGrp w B x
theorem RwG.below {w w' : World} {B C : Nat} {A : Option Addr} {l : List Grp} (h : RwG w B A l) (hb : Below C w w') (hB : B ≤ C) : RwG w' B A l := ⟨h.row.below hb hB, fun x hx => (h.labs x hx).below hb hB⟩
theorem RwG.more {w : World} {B B' : Nat} {A : Option Addr} {l : List Grp} (h : RwG w B A l) (hB : B ≤ B') : RwG w B' A l := ⟨h.row.more hB, fun x hx => (h.labs x hx).more hB⟩
theorem RwG.nil {w : World} {B : Nat} {A : Option Addr} : RwG w B A [] := ⟨Rw.nil, fun _ h => absurd h (by simp)⟩
/-- The groups of a list lie in memory of the call's own, apart from a row. -/
def OwnG (w : World) (B : Nat) (x : Grp) : Prop := Own jRefE 2 29 w B (.slice x.waitA x.wait.length x.waitC) x.wait
theorem OwnG.lab {w : World} {B : Nat} {x : Grp} (h : OwnG w B x) : LabGrp w w.heap.size x := by
  obtain ⟨A, C, e, h1, h2, _⟩ := h.form
  simp only [Value.slice.injEq] at e
  obtain ⟨rfl, _, rfl⟩ := e
  exact ⟨h1, h2, h.reads jRefE_len⟩
end Go.Proofs.YtbellobjajnlkaaDoor
