/-
  The walks of workers: whether two lists of workers are the same, by the reference.
-/
import Derived.Test.YtnahbfmbmpoljaaDoorWk8



namespace Go.Proofs.YtnahbfmbmpoljaaDoor
open Go.RowKit

/-- A list's row, and the lists of its workers. -/
structure RwW (w : World) (B : Nat) (A : Option Addr) (l : List Work) : Prop where
  row : Rw workE 9 w B A l
  labs : ∀ x ∈ l, LabWork w B x
theorem RwW.below {w w' : World} {B C : Nat} {A : Option Addr} {l : List Work} (h : RwW w B A l) (hb : Below C w w') (hB : B ≤ C) : RwW w' B A l := ⟨h.row.below hb hB, fun x hx => (h.labs x hx).below hb hB⟩
theorem RwW.more {w : World} {B B' : Nat} {A : Option Addr} {l : List Work} (h : RwW w B A l) (hB : B ≤ B') : RwW w B' A l := ⟨h.row.more hB, fun x hx => (h.labs x hx).more hB⟩
theorem RwW.nil {w : World} {B : Nat} {A : Option Addr} : RwW w B A [] := ⟨Rw.nil, fun _ h => absurd h (by simp)⟩

set_option maxRecDepth 100000 in
set_option maxHeartbeats 4000000 in
theorem samelist_any (A B : Option Addr) (c d : Nat) (a b : List Work) (w : World) (hab : a.map core = b.map core) (ha : RwW w w.heap.size A a) (hb : RwW w w.heap.size B b) (hn : a.length ≤ 9223372036854775807) :
    Calls Tryd.prog 15 #[.slice A a.length c, .slice B b.length d] w fun e w' => e = .returned (.bool true) ∧ Below w.heap.size w w' := by
  have hl : a.length = b.length := by simpa using congrArg List.length hab
  have hl1 : ((a.length : Int) != (b.length : Int)) = false := by rw [hl]; simp
  have hlb : a.length ≤ b.length := Nat.le_of_eq hl
  have hcore : Hid (∀ (k : Nat) (x y : Work), a[k]? = some x → b[k]? = some y → core x = core y) := Lib.hid fun k x y hx hy => by
    have := congrArg (·[k]?) hab
    simp only [List.getElem?_map, hx, hy] at this
    simpa using this
  clear hab
  replace hl := Lib.hid hl
  replace ha := Lib.hid ha
  replace hb := Lib.hid hb
  obtain ⟨H, hH⟩ : ∃ H, w.heap.size = H := ⟨_, rfl⟩
  rw [hH] at ha hb ⊢
  have hH2 := Nat.le_of_eq hH
  have hH3 := Nat.le_of_eq hH.symm
  replace hH := Lib.hid hH
  go_enter Tryd.func15, Tryd.ntmps15
  go_wp2_with fail
  go_loopw [5] (fun vi wr => ∃ k : Nat, k ≤ a.length ∧ vi = .int .i64 (k : Int) ∧ Below H w wr) (fun vi _ => a.length - (intOf vi).toNat)
  case atStart => exact ⟨0, Nat.zero_le _, rfl, Below.refl _ _⟩
  case round =>
    obtain ⟨k, hk, rfl, hbw⟩ := hrel
    have hz := hbw.size
    by_cases hlt : k < a.length
    · obtain ⟨x, hx⟩ := get_some (show k < a.length by omega)
      obtain ⟨y, hy⟩ := get_some (show k < b.length by omega)
      obtain ⟨g1, o1, rfl, hg1, q⟩ := ha.out.row (by omega)
      obtain ⟨g2, o2, rfl, hg2, p⟩ := hb.out.row (by omega)
      replace q := fun j u hu => (hbw.cell (p := ⟨g1, o1 + k * 9 + j, none⟩) hg1).trans (q k x hx j u hu)
      replace p := fun j u hu => (hbw.cell (p := ⟨g2, o2 + k * 9 + j, none⟩) hg2).trans (p k y hy j u hu)
      have q0 := q 0 (.string x.id.1) rfl
      try rw [Nat.add_zero] at q0
      have q1 := q 1 (.slice x.labsA x.labs.length x.labsC) rfl
      have q2 := q 2 (.int .i64 x.trust.1) rfl
      have q3 := q 3 (.int .i64 x.slots.1) rfl
      have q4 := q 4 (.bool x.pre) rfl
      have q5 := q 5 (.int .i64 x.phase.1) rfl
      have q6 := q 6 (.int .i64 x.beat.1) rfl
      have q7 := q 7 (.int .i64 x.till.1) rfl
      have q8 := q 8 (.slice x.toksA x.toks.length x.toksC) rfl
      have p0 := p 0 (.string y.id.1) rfl
      try rw [Nat.add_zero] at p0
      have p1 := p 1 (.slice y.labsA y.labs.length y.labsC) rfl
      have p2 := p 2 (.int .i64 y.trust.1) rfl
      have p3 := p 3 (.int .i64 y.slots.1) rfl
      have p4 := p 4 (.bool y.pre) rfl
      have p5 := p 5 (.int .i64 y.phase.1) rfl
      have p6 := p 6 (.int .i64 y.beat.1) rfl
      have p7 := p 7 (.int .i64 y.till.1) rfl
      have p8 := p 8 (.slice y.toksA y.toks.length y.toksC) rfl
      clear q p
      replace q0 := fun d os => cell_regrown q0 d os
      replace q1 := fun d os => cell_regrown q1 d os
      replace q2 := fun d os => cell_regrown q2 d os
      replace q3 := fun d os => cell_regrown q3 d os
      replace q4 := fun d os => cell_regrown q4 d os
      replace q5 := fun d os => cell_regrown q5 d os
      replace q6 := fun d os => cell_regrown q6 d os
      replace q7 := fun d os => cell_regrown q7 d os
      replace q8 := fun d os => cell_regrown q8 d os
      replace p0 := fun d os => cell_regrown p0 d os
      replace p1 := fun d os => cell_regrown p1 d os
      replace p2 := fun d os => cell_regrown p2 d os
      replace p3 := fun d os => cell_regrown p3 d os
      replace p4 := fun d os => cell_regrown p4 d os
      replace p5 := fun d os => cell_regrown p5 d os
      replace p6 := fun d os => cell_regrown p6 d os
      replace p7 := fun d os => cell_regrown p7 d os
      replace p8 := fun d os => cell_regrown p8 d os
      have i0 : (0 : Int) ≤ (k : Int) := by omega
      have i1 : (k : Int) < (a.length : Int) := by omega
      have i2 : (k : Int) < (b.length : Int) := by omega
      have lx : Hid (LabWork wr wr.heap.size x) := Lib.hid (((ha.out.labs x (List.mem_of_getElem? hx)).below hbw (Nat.le_refl _)).more (by omega))
      have ly : Hid (LabWork wr wr.heap.size y) := Lib.hid (((hb.out.labs y (List.mem_of_getElem? hy)).below hbw (Nat.le_refl _)).more (by omega))
      have hcxy := Lib.hid (hcore.out k x y hx hy)
      clear hx hy
      have hcall : Hid (∀ d os, Calls Tryd.prog 18 #[(.agg #[.string x.id.1, .slice x.labsA x.labs.length x.labsC, .int .i64 x.trust.1, .int .i64 x.slots.1, .bool x.pre, .int .i64 x.phase.1, .int .i64 x.beat.1, .int .i64 x.till.1, .slice x.toksA x.toks.length x.toksC]), (.agg #[.string y.id.1, .slice y.labsA y.labs.length y.labsC, .int .i64 y.trust.1, .int .i64 y.slots.1, .bool y.pre, .int .i64 y.phase.1, .int .i64 y.beat.1, .int .i64 y.till.1, .slice y.toksA y.toks.length y.toksC])] (Sort.grow (redrawn wr d) os) fun e w' => e = .returned (.bool true) ∧ Below (Sort.grow (redrawn wr d) os).heap.size (Sort.grow (redrawn wr d) os) w') :=
        Lib.hid fun d os => same_any x y _ hcxy.out ((lx.out.below (below_regrown wr d os) (Nat.le_refl _)).more (below_regrown wr d os).size) ((ly.out.below (below_regrown wr d os) (Nat.le_refl _)).more (below_regrown wr d os).size)
      go_wp2_with fail
      refine wp_region_quiet_below (by kernel_rfl) (by kernel_rfl) ?_
      repeat (go_big_quiet_step ((go_at_call 18; exact Calls.regrown_of (hcall.out _ _))))
      refine wpQuiet_nil ?_
      intro w2 hw2
      have hb2 := below_of_regrown hw2
      clear hw2
      have hz2 := hb2.size
      go_wp2_with fail
      go_roundw
      case rel => exact ⟨k + 1, by omega, by go_num, hbw.trans (hb2.mono (by omega))⟩
      case measure => simp [intOf]; omega
    · have i1 : ¬ (k : Int) < (a.length : Int) := by omega
      go_wp2_with fail
      go_ret
      exact ⟨rfl, hbw⟩
end Go.Proofs.YtnahbfmbmpoljaaDoor
