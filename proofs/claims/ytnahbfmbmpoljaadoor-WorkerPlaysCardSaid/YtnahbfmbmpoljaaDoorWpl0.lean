/-
  WorkerPlays: what a call keeps of a worker (plain); the law's loop: its body and its invariant.
-/
import Derived.Test.YtnahbfmbmpoljaaDoorWk22
import Derived.Test.YtnahbfmbmpoljaaDoorWk23
import Derived.Test.YtnahbfmbmpoljaaDoorWk27
import Derived.Test.YtnahbfmbmpoljaaDoorWk2830
import Derived.Test.YtnahbfmbmpoljaaDoorWk29
import Derived.Test.YtnahbfmbmpoljaaDoorWkSt2
import Derived.Test.YtnahbfmbmpoljaaDoorBase1
import Derived.Test.YtnahbfmbmpoljaaDoorLayTab
import Derived.Deep.RegionHeld3
import Derived.Deep.DeepCutAuto
import Derived.Deep.CutBlock



namespace Go.Proofs.YtnahbfmbmpoljaaDoor.workerPlays
open Go.ChangeShapes Go.WideShapes Go.ChangeAt Go.RowKit Go.Joins
theorem short_ok {x : Work} (h : shortB x = true) : LabOk x ∧ x.labs.length ≤ 1000000 ∧ x.toks.length ≤ 1000000 := by
  obtain ⟨h1, _, h2, h3⟩ := short_in h
  exact ⟨⟨fun s hs => by have := h1 s hs; omega, by omega, by omega⟩, by omega, by omega⟩
/-- What every worker of the sequence is. -/
structure Good (x y : Work) : Prop where
  ok : wErr y = 0
  id : y.id = x.id
  labs : y.labs = x.labs
theorem Good.lab {x y : Work} (h : Good x y) (ho : LabOk x) (hn : x.labs.length ≤ 1000000) : LabOk y ∧ y.labs.length ≤ 1000000 ∧ y.toks.length ≤ 1000000 := by
  have h6 := (wErr_ok h.ok).2.2.2.2.2
  have hr := range_ok (wErr_ok h.ok).2.2.1
  refine ⟨⟨by rw [h.labs]; exact ho.1, by rw [h.labs]; omega, by omega⟩, by rw [h.labs]; exact hn, by omega⟩
/-- What a call keeps of a worker. -/
structure Keeps (y Y : Work) : Prop where
  ok : wErr Y = 0
  phase : y.phase.1 ≤ Y.phase.1
  id : Y.id = y.id
  slots : Y.slots = y.slots
  beat : y.beat.1 ≤ Y.beat.1
  labs : Y.labs = y.labs
theorem Keeps.good {x y Y : Work} (h : Keeps y Y) (hg : Good x y) : Good x Y := ⟨h.ok, h.id.trans hg.id, h.labs.trans hg.labs⟩
theorem Keeps.at {y Y : Work} (h : Keeps y Y) (A : Option Addr) (C : Nat) (A2 : Option Addr) (C2 : Nat) : Keeps y (atW Y A C A2 C2) := ⟨by rw [← h.ok]; exact wErr_core (core_atW Y A C A2 C2), h.phase, h.id, h.slots, h.beat, h.labs⟩
theorem Keeps.refl {y : Work} (h : wErr y = 0) : Keeps y y := ⟨h, Int.le_refl _, rfl, rfl, Int.le_refl _, rfl⟩
theorem keeps_step {y : Work} {ev : Int} {now : I64} (h : wErr y = 0) (ht : timeB now.1 = true) : Keeps y (stepW y ev now) := by
  obtain ⟨h1, h2, h3, h4, h5⟩ := step_keeps (ev := ev) h ht
  exact ⟨h1, h2, h3, h4, h5, (stepW_lists y ev now).1⟩
theorem attW_labs (y : Work) (t : I64) : (attW y t).labs = y.labs := by unfold attW; split <;> rfl
theorem keeps_att {y : Work} {t : I64} (h : wErr y = 0) : Keeps y (attW y t) := by
  obtain ⟨h1, h2, h3, h4, h5⟩ := att_keeps (t := t) h
  exact ⟨h1, by rw [h2]; exact Int.le_refl _, h3, h4, by rw [h5]; exact Int.le_refl _, attW_labs y t⟩
theorem keeps_det {y : Work} {t : I64} (h : wErr y = 0) : Keeps y (detW y t) := ⟨det_keeps h, Int.le_refl _, rfl, rfl, Int.le_refl _, rfl⟩
theorem bcell {W w1 : World} (hb : Below W.heap.size W w1) : (∀ b o, b < W.heap.size → w1.cell? ⟨b, o, none⟩ = W.cell? ⟨b, o, none⟩) ∧ (∀ b o, b < W.heap.size → w1.frozen? ⟨b, o, none⟩ = W.frozen? ⟨b, o, none⟩) :=
  ⟨fun b o h => hb.cell (p := ⟨b, o, none⟩) h, fun b o h => hb.frozen (p := ⟨b, o, none⟩) h⟩
/-- A slice whose block is let alone reads as before. -/
theorem rw_apart {α : Type} {enc : α → List Value} {k : Nat} {w w' : World} {B : Nat} {A : Option Addr} {l : List α} (h : Rw enc k w B A l) (hk : ∀ g o, A = some ⟨g, o, none⟩ → ∀ q, w'.cell? ⟨g, q, none⟩ = w.cell? ⟨g, q, none⟩) : Rw enc k w' B A l := fun hn => by
  obtain ⟨g, o, e, hb, hc⟩ := h hn
  exact ⟨g, o, e, hb, fun i x hx j u hu => (hk g o e _).trans (hc i x hx j u hu)⟩
/-- A worker's lists lie apart from a block. -/
def Sep (b : Nat) (w : World) (y : Work) : Prop := ∀ W', w.heap.size ≤ W'.heap.size → (∀ p : Addr, p.block < w.heap.size → p.block ≠ b → W'.cell? p = w.cell? p) → LabWork W' W'.heap.size y
theorem Sep.lab {b : Nat} {w : World} {y : Work} (h : Sep b w y) : LabWork w w.heap.size y := h w (Nat.le_refl _) fun _ _ _ => rfl
theorem Sep.below {b : Nat} {w w' : World} {y : Work} (h : Sep b w y) (hb : Below w.heap.size w w') : Sep b w' y := fun W' hs hc => h W' (Nat.le_trans hb.size hs) fun p hp hn => (hc p (Nat.lt_of_lt_of_le hp hb.size) hn).trans (hb.cell hp)
theorem Sep.old {b : Nat} {w0 w : World} {y : Work} (h : LabWork w0 b y) (hb : Below b w0 w) (hl : b < w.heap.size) : Sep b w y := fun W' hs hc => (h.keep fun p hp => (hc p (by omega) (by omega)).trans (hb.cell hp)).more (by omega)
theorem Sep.own {b B : Nat} {w : World} {y : Work} (h : OwnW w B y) (hB : b < B) : Sep b w y := fun W' hs hc => by
  obtain ⟨l1, l2, l3, l4, l5, l6⟩ := h.lab
  refine ⟨l1, l2, (rw_apart l3 fun g o e q => ?_).more hs, l4, l5, (rw_apart l6 fun g o e q => ?_).more hs⟩
  · obtain ⟨h1, h2⟩ := h.1.lt g (by rw [e]; rfl)
    exact hc ⟨g, q, none⟩ h2 (by show g ≠ b; omega)
  · obtain ⟨h1, h2⟩ := h.2.lt g (by rw [e]; rfl)
    exact hc ⟨g, q, none⟩ h2 (by show g ≠ b; omega)
theorem Sep.put {b j : Nat} {w : World} {y : Work} (h : Sep b w y) (v : Value) : Sep b (w.setCell ⟨b, j, none⟩ v) y := fun W' hs hc => h W' (by rw [World.size_setCell] at hs; exact hs) fun p hp hn => (hc p (by rw [World.size_setCell]; exact hp) hn).trans (World.cell?_setCell_other w _ p v (fun e => hn (by rw [← e])))

/-- The first loop of a code. -/
def firstLoop : Code → Option Code
  | .loop c => some c
  | .seq a b => match firstLoop a with
    | some c => some c
    | none => firstLoop b
  | .block _ c => firstLoop c
  | .scope c => firstLoop c
  | .cond _ a b => match firstLoop a with
    | some c => some c
    | none => firstLoop b
  | _ => none
noncomputable def body : Code := ((Tryd.f8.body.bind firstLoop).getD .skip)
/-- What holds ahead of each round. -/
def WR (x : Work) (l : List Mov) (w : World) (vn vi : Value) (wr : World) : Prop := ∃ (k : Nat) (n : I64) (y : Work), vn = .int .i64 n.1 ∧ vi = .int .i64 (k : Int) ∧ k ≤ l.length ∧ 0 ≤ n.1 ∧ n.1 ≤ 1125899906842624 ∧ Good x y ∧ Sep w.heap.size wr y ∧ (wr.cell? ⟨w.heap.size, 0, none⟩ = some (.string y.id.1) ∧ wr.cell? ⟨w.heap.size, 1, none⟩ = some (.slice y.labsA y.labs.length y.labsC) ∧ wr.cell? ⟨w.heap.size, 2, none⟩ = some (.int .i64 y.trust.1) ∧ wr.cell? ⟨w.heap.size, 3, none⟩ = some (.int .i64 y.slots.1) ∧ wr.cell? ⟨w.heap.size, 4, none⟩ = some (.bool y.pre) ∧ wr.cell? ⟨w.heap.size, 5, none⟩ = some (.int .i64 y.phase.1) ∧ wr.cell? ⟨w.heap.size, 6, none⟩ = some (.int .i64 y.beat.1) ∧ wr.cell? ⟨w.heap.size, 7, none⟩ = some (.int .i64 y.till.1) ∧ wr.cell? ⟨w.heap.size, 8, none⟩ = some (.slice y.toksA y.toks.length y.toksC)) ∧ (∀ j, wr.frozen? ⟨w.heap.size, j, none⟩ = false) ∧ w.heap.size < wr.heap.size ∧ Below w.heap.size w wr
set_option maxRecDepth 1000000 in
def WI (x : Work) (l : List Mov) (w : World) (A : Option Addr) (c : Nat) (z0 z3 z11 z12 z13 z14 z15 z16 z17 z18 z19 z20 z21 z22 z23 z24 z25 z26 z195 : Value) (a : Act) (wr : World) : Prop := ∃ u4 u5 u6 u7 u8 u9 u10 u27 u28 u29 u30 u31 u32 u33 u34 u35 u36 u37 u38 u39 u40 u41 u42 u43 u44 u45 u46 u47 u48 u49 u50 u51 u52 u53 u54 u55 u56 u57 u58 u59 u60 u61 u62 u63 u64 u65 u66 u67 u68 u69 u70 u71 u72 u73 u74 u75 u76 u77 u78 u79 u80 u81 u82 u83 u84 u85 u86 u87 u88 u89 u90 u91 u92 u93 u94 u95 u96 u97 u98 u99 u100 u101 u102 u103 u104 u105 u106 u107 u108 u109 u110 u111 u112 u113 u114 u115 u116 u117 u118 u119 u120 u121 u122 u123 u124 u125 u126 u127 u128 u129 u130 u131 u132 u133 u134 u135 u136 u137 u138 u139 u140 u141 u142 u143 u144 u145 u146 u147 u148 u149 u150 u151 u152 u153 u154 u155 u156 u157 u158 u159 u160 u161 u162 u163 u164 u165 u166 u167 u168 u169 u170 u171 u172 u173 u174 u175 u176 u177 u178 u179 u180 u181 u182 u183 u184 u185 u186 u187 u188 u189 u190 u191 u192 u193 u194 : Value, WR x l w u5 u6 wr ∧ a = (⟨#[z0, (.slice A l.length c), (.pointer (some ⟨w.heap.size, 0, none⟩)), z3, u4, u5, u6, u7, u8, u9, u10, z11, z12, z13, z14, z15, z16, z17, z18, z19, z20, z21, z22, z23, z24, z25, z26, u27, u28, u29, u30, u31, u32, u33, u34, u35, u36, u37, u38, u39, u40, u41, u42, u43, u44, u45, u46, u47, u48, u49, u50, u51, u52, u53, u54, u55, u56, u57, u58, u59, u60, u61, u62, u63, u64, u65, u66, u67, u68, u69, u70, u71, u72, u73, u74, u75, u76, u77, u78, u79, u80, u81, u82, u83, u84, u85, u86, u87, u88, u89, u90, u91, u92, u93, u94, u95, u96, u97, u98, u99, u100, u101, u102, u103, u104, u105, u106, u107, u108, u109, u110, u111, u112, u113, u114, u115, u116, u117, u118, u119, u120, u121, u122, u123, u124, u125, u126, u127, u128, u129, u130, u131, u132, u133, u134, u135, u136, u137, u138, u139, u140, u141, u142, u143, u144, u145, u146, u147, u148, u149, u150, u151, u152, u153, u154, u155, u156, u157, u158, u159, u160, u161, u162, u163, u164, u165, u166, u167, u168, u169, u170, u171, u172, u173, u174, u175, u176, u177, u178, u179, u180, u181, u182, u183, u184, u185, u186, u187, u188, u189, u190, u191, u192, u193, u194, z195], []⟩ : Act)
def Wmu (l : List Mov) (a : Act) (_ : World) : Nat := l.length - (intOf (a.tmps.getD 6 undef)).toNat
set_option maxRecDepth 1000000 in
/-- How the loop ends; how it returns. -/
def WX (w : World) (l : List Mov) (A : Option Addr) (c : Nat) (z0 z3 z11 z12 z13 z14 z15 z16 z17 z18 z19 z20 z21 z22 z23 z24 z25 z26 z195 : Value) (a : Act) (wr : World) : Prop := ∃ u4 u5 u6 u7 u8 u9 u10 u27 u28 u29 u30 u31 u32 u33 u34 u35 u36 u37 u38 u39 u40 u41 u42 u43 u44 u45 u46 u47 u48 u49 u50 u51 u52 u53 u54 u55 u56 u57 u58 u59 u60 u61 u62 u63 u64 u65 u66 u67 u68 u69 u70 u71 u72 u73 u74 u75 u76 u77 u78 u79 u80 u81 u82 u83 u84 u85 u86 u87 u88 u89 u90 u91 u92 u93 u94 u95 u96 u97 u98 u99 u100 u101 u102 u103 u104 u105 u106 u107 u108 u109 u110 u111 u112 u113 u114 u115 u116 u117 u118 u119 u120 u121 u122 u123 u124 u125 u126 u127 u128 u129 u130 u131 u132 u133 u134 u135 u136 u137 u138 u139 u140 u141 u142 u143 u144 u145 u146 u147 u148 u149 u150 u151 u152 u153 u154 u155 u156 u157 u158 u159 u160 u161 u162 u163 u164 u165 u166 u167 u168 u169 u170 u171 u172 u173 u174 u175 u176 u177 u178 u179 u180 u181 u182 u183 u184 u185 u186 u187 u188 u189 u190 u191 u192 u193 u194 : Value, Below w.heap.size w wr ∧ a = (⟨#[z0, (.slice A l.length c), (.pointer (some ⟨w.heap.size, 0, none⟩)), z3, u4, u5, u6, u7, u8, u9, u10, z11, z12, z13, z14, z15, z16, z17, z18, z19, z20, z21, z22, z23, z24, z25, z26, u27, u28, u29, u30, u31, u32, u33, u34, u35, u36, u37, u38, u39, u40, u41, u42, u43, u44, u45, u46, u47, u48, u49, u50, u51, u52, u53, u54, u55, u56, u57, u58, u59, u60, u61, u62, u63, u64, u65, u66, u67, u68, u69, u70, u71, u72, u73, u74, u75, u76, u77, u78, u79, u80, u81, u82, u83, u84, u85, u86, u87, u88, u89, u90, u91, u92, u93, u94, u95, u96, u97, u98, u99, u100, u101, u102, u103, u104, u105, u106, u107, u108, u109, u110, u111, u112, u113, u114, u115, u116, u117, u118, u119, u120, u121, u122, u123, u124, u125, u126, u127, u128, u129, u130, u131, u132, u133, u134, u135, u136, u137, u138, u139, u140, u141, u142, u143, u144, u145, u146, u147, u148, u149, u150, u151, u152, u153, u154, u155, u156, u157, u158, u159, u160, u161, u162, u163, u164, u165, u166, u167, u168, u169, u170, u171, u172, u173, u174, u175, u176, u177, u178, u179, u180, u181, u182, u183, u184, u185, u186, u187, u188, u189, u190, u191, u192, u193, u194, z195], []⟩ : Act)
def WT (w : World) (a : Act) (wr : World) : Prop := a.tmps.getD 4 undef = .bool true ∧ a.defers = [] ∧ Below w.heap.size w wr
end Go.Proofs.YtnahbfmbmpoljaaDoor.workerPlays
