/-
  The walks of the queue: whether two queues are the same; the first job of a reference, by the reference and by the program.
-/
import Derived.Test.YtnhfbignnnicnaaDoorQue3
import Derived.Lib.QuietBelow



namespace Go.Proofs.YtnhfbignnnicnaaDoor
open Go.RowKit
attribute [local go_sem ↓] eq_ref

theorem blk_at {W w1 : World} (hb : Below W.heap.size W w1) (g : Nat) (hg : g < W.heap.size) : (∀ o, w1.cell? ⟨g, o, none⟩ = W.cell? ⟨g, o, none⟩) ∧ (∀ o, w1.frozen? ⟨g, o, none⟩ = W.frozen? ⟨g, o, none⟩) :=
  ⟨fun o => hb.cell (p := ⟨g, o, none⟩) hg, fun o => hb.frozen (p := ⟨g, o, none⟩) hg⟩
theorem box_cells (w : World) (cs : Array Value) (T : TypeId) (j : Nat) (u : Value) (h : cs.toList[j]? = some u) : (w.alloc (.cells cs T)).cell? ⟨w.heap.size, j, none⟩ = some u := by
  rw [cell_of_row _ _ _ cs T (0, 0) (heap_alloc_new w _), ← Array.getElem?_toList]
  exact h
theorem below_of_regrown {w w' : World} (h : ∃ p : Regrown, w' = Sort.grow (redrawn w p.d) p.os) : Below w.heap.size w w' := by
  obtain ⟨p, rfl⟩ := h
  exact below_regrown w p.d p.os
/-- A queue's row, and the labels of its jobs. -/
structure RwL (w : World) (B : Nat) (A : Option Addr) (l : List Pend) : Prop where
  row : Rw pendE 10 w B A l
  labs : ∀ x ∈ l, LabPend w B x
theorem RwL.below {w w' : World} {B C : Nat} {A : Option Addr} {l : List Pend} (h : RwL w B A l) (hb : Below C w w') (hB : B ≤ C) : RwL w' B A l := ⟨h.row.below hb hB, fun x hx => (h.labs x hx).below hb hB⟩
theorem RwL.more {w : World} {B B' : Nat} {A : Option Addr} {l : List Pend} (h : RwL w B A l) (hB : B ≤ B') : RwL w B' A l := ⟨h.row.more hB, fun x hx => (h.labs x hx).more hB⟩
theorem RwL.nil {w : World} {B : Nat} {A : Option Addr} : RwL w B A [] := ⟨Rw.nil, fun _ h => absurd h (by simp)⟩

def sameQ (l m : List Pend) : Bool := decide (l.length = m.length) && (l.zip m).all fun z => sameJ z.1 z.2
theorem sameQ_core {l m : List Pend} (h : l.map core = m.map core) : sameQ l m = true := by
  have hl : l.length = m.length := by simpa using congrArg List.length h
  unfold sameQ
  rw [Bool.and_eq_true, decide_eq_true_eq, List.all_eq_true]
  refine ⟨hl, fun z hz => ?_⟩
  obtain ⟨i, hi, rfl⟩ := List.mem_iff_getElem.1 hz
  rw [List.length_zip] at hi
  rw [List.getElem_zip]
  refine sameJ_core ?_
  have := congrArg (·[i]?) h
  simp only [List.getElem?_map] at this
  rw [List.getElem?_eq_getElem (by omega), List.getElem?_eq_getElem (by omega)] at this
  simpa using this

set_option maxRecDepth 100000 in
set_option maxHeartbeats 4000000 in
theorem samequeue_any (A B : Option Addr) (c d : Nat) (a b : List Pend) (w : World) (ha : RwL w w.heap.size A a) (hb : RwL w w.heap.size B b) (hn : a.length ≤ 9223372036854775807) (hm : b.length ≤ 9223372036854775807) :
    Calls Tryd.prog 16 #[.slice A a.length c, .slice B b.length d] w fun e w' => e = .returned (.bool (sameQ a b)) ∧ Below w.heap.size w w' := by
  by_cases hl : a.length = b.length
  · have hl1 : ((a.length : Int) != (b.length : Int)) = false := by rw [hl]; simp
    have hlb : a.length ≤ b.length := Nat.le_of_eq hl
    have hlz : (a.zip b).length = a.length := by rw [List.length_zip]; omega
    have hsq : Hid (sameQ a b = (a.zip b).all fun z => sameJ z.1 z.2) := Lib.hid (by unfold sameQ; rw [decide_eq_true hl]; rfl)
    replace hl := Lib.hid hl
    replace hlz := Lib.hid hlz
    replace ha := Lib.hid ha
    replace hb := Lib.hid hb
    obtain ⟨H, hH⟩ : ∃ H, w.heap.size = H := ⟨_, rfl⟩
    rw [hH] at ha hb ⊢
    have hH2 := Nat.le_of_eq hH
    have hH3 := Nat.le_of_eq hH.symm
    replace hH := Lib.hid hH
    go_enter Tryd.func16, Tryd.ntmps16
    go_wp2_with fail
    go_loopw [5] (fun vi wr => ∃ k : Nat, k ≤ a.length ∧ vi = .int .i64 (k : Int) ∧ ((a.zip b).take k).all (fun z => sameJ z.1 z.2) = true ∧ Below H w wr) (fun vi _ => a.length - (intOf vi).toNat)
    case atStart => exact ⟨0, Nat.zero_le _, rfl, rfl, Below.refl _ _⟩
    case round =>
      obtain ⟨k, hk, rfl, ht, hbw⟩ := hrel
      have hz := hbw.size
      replace ht := Lib.hid ht
      by_cases hlt : k < a.length
      · obtain ⟨x, hx⟩ := get_some (show k < a.length by omega)
        obtain ⟨y, hy⟩ := get_some (show k < b.length by omega)
        obtain ⟨g1, o1, rfl, hg1, q⟩ := ha.out.row (by omega)
        obtain ⟨g2, o2, rfl, hg2, p⟩ := hb.out.row (by omega)
        replace q := fun j u hu => (hbw.cell (p := ⟨g1, o1 + k * 10 + j, none⟩) hg1).trans (q k x hx j u hu)
        replace p := fun j u hu => (hbw.cell (p := ⟨g2, o2 + k * 10 + j, none⟩) hg2).trans (p k y hy j u hu)
        have q0 := q 0 (.string x.run.1) rfl
        try rw [Nat.add_zero] at q0
        have q1 := q 1 (.string x.job.1) rfl
        have q2 := q 2 (.string x.proj.1) rfl
        have q3 := q 3 (.int .i64 x.prio.1) rfl
        have q4 := q 4 (.int .i64 x.since.1) rfl
        have q5 := q 5 (.int .i64 x.cost.1) rfl
        have q6 := q 6 (.slice x.labsA x.labs.length x.labsC) rfl
        have q7 := q 7 (.int .i64 x.trust.1) rfl
        have q8 := q 8 (.string x.group.1) rfl
        have q9 := q 9 (.int .i64 x.policy.1) rfl
        have p0 := p 0 (.string y.run.1) rfl
        try rw [Nat.add_zero] at p0
        have p1 := p 1 (.string y.job.1) rfl
        have p2 := p 2 (.string y.proj.1) rfl
        have p3 := p 3 (.int .i64 y.prio.1) rfl
        have p4 := p 4 (.int .i64 y.since.1) rfl
        have p5 := p 5 (.int .i64 y.cost.1) rfl
        have p6 := p 6 (.slice y.labsA y.labs.length y.labsC) rfl
        have p7 := p 7 (.int .i64 y.trust.1) rfl
        have p8 := p 8 (.string y.group.1) rfl
        have p9 := p 9 (.int .i64 y.policy.1) rfl
        clear q p
        replace q0 := fun d os => cell_regrown q0 d os
        replace q1 := fun d os => cell_regrown q1 d os
        replace q2 := fun d os => cell_regrown q2 d os
        replace q3 := fun d os => cell_regrown q3 d os
        replace q4 := fun d os => cell_regrown q4 d os
        replace q5 := fun d os => cell_regrown q5 d os
        replace q6 := fun d os => cell_regrown q6 d os
        replace q7 := fun d os => cell_regrown q7 d os
        replace q8 := fun d os => cell_regrown q8 d os
        replace q9 := fun d os => cell_regrown q9 d os
        replace p0 := fun d os => cell_regrown p0 d os
        replace p1 := fun d os => cell_regrown p1 d os
        replace p2 := fun d os => cell_regrown p2 d os
        replace p3 := fun d os => cell_regrown p3 d os
        replace p4 := fun d os => cell_regrown p4 d os
        replace p5 := fun d os => cell_regrown p5 d os
        replace p6 := fun d os => cell_regrown p6 d os
        replace p7 := fun d os => cell_regrown p7 d os
        replace p8 := fun d os => cell_regrown p8 d os
        replace p9 := fun d os => cell_regrown p9 d os
        have i0 : (0 : Int) ≤ (k : Int) := by omega
        have i1 : (k : Int) < (a.length : Int) := by omega
        have i2 : (k : Int) < (b.length : Int) := by omega
        have hxz : Hid ((a.zip b)[k]? = some (x, y)) := Lib.hid (by rw [List.getElem?_zip_eq_some]; exact ⟨hx, hy⟩)
        have lx : Hid (LabPend wr wr.heap.size x) := Lib.hid (((ha.out.labs x (List.mem_of_getElem? hx)).below hbw (Nat.le_refl _)).more (by omega))
        have ly : Hid (LabPend wr wr.heap.size y) := Lib.hid (((hb.out.labs y (List.mem_of_getElem? hy)).below hbw (Nat.le_refl _)).more (by omega))
        clear hx hy
        have hcall : Hid (∀ d os, Calls Tryd.prog 23 #[.agg #[.string x.run.1, .string x.job.1, .string x.proj.1, .int .i64 x.prio.1, .int .i64 x.since.1, .int .i64 x.cost.1, .slice x.labsA x.labs.length x.labsC, .int .i64 x.trust.1, .string x.group.1, .int .i64 x.policy.1], .agg #[.string y.run.1, .string y.job.1, .string y.proj.1, .int .i64 y.prio.1, .int .i64 y.since.1, .int .i64 y.cost.1, .slice y.labsA y.labs.length y.labsC, .int .i64 y.trust.1, .string y.group.1, .int .i64 y.policy.1]] (Sort.grow (redrawn wr d) os) fun e w' => e = .returned (.bool (sameJ x y)) ∧ Below (Sort.grow (redrawn wr d) os).heap.size (Sort.grow (redrawn wr d) os) w') :=
          Lib.hid fun d os => samejob_any x y _ ((lx.out.below (below_regrown wr d os) (Nat.le_refl _)).more (below_regrown wr d os).size) ((ly.out.below (below_regrown wr d os) (Nat.le_refl _)).more (below_regrown wr d os).size)
        rcases hs : sameJ x y with _ | _
        · have hf : Hid (sameQ a b = false) := Lib.hid (by
            rw [hsq.out, List.all_eq_false]
            exact ⟨(x, y), List.mem_of_getElem? hxz.out, by simp [hs]⟩)
          simp only [hs] at hcall
          go_wp2_with fail
          refine wp_region_quiet_below (by kernel_rfl) (by kernel_rfl) ?_
          repeat (go_big_quiet_step ((go_at_call 23; exact Calls.regrown_of (hcall.out _ _))))
          refine wpQuiet_nil ?_
          intro w2 hw2
          have hb2 := below_of_regrown hw2
          clear hw2
          have hz2 := hb2.size
          go_wp2_with fail
          go_ret
          exact ⟨ret_bool hf.out.symm, hbw.trans (hb2.mono (by omega))⟩
        · simp only [hs] at hcall
          go_wp2_with fail
          refine wp_region_quiet_below (by kernel_rfl) (by kernel_rfl) ?_
          repeat (go_big_quiet_step ((go_at_call 23; exact Calls.regrown_of (hcall.out _ _))))
          refine wpQuiet_nil ?_
          intro w2 hw2
          have hb2 := below_of_regrown hw2
          clear hw2
          have hz2 := hb2.size
          go_wp2_with fail
          go_roundw
          case rel => exact ⟨k + 1, by omega, by go_num, by rw [List.take_add_one, hxz.out, List.all_append, ht.out]; simp [hs], hbw.trans (hb2.mono (by omega))⟩
          case measure => simp [intOf]; omega
      · have i1 : ¬ (k : Int) < (a.length : Int) := by omega
        have hf : Hid (sameQ a b = true) := Lib.hid (by
          have := ht.out
          rw [List.take_of_length_le (by have := hlz.out; omega)] at this
          rw [hsq.out, this])
        go_wp2_with fail
        go_ret
        exact ⟨ret_bool hf.out.symm, hbw⟩
  · have hl1 : ((a.length : Int) != (b.length : Int)) = true := by rw [bne_iff_ne]; omega
    have hne : sameQ a b = false := by unfold sameQ; rw [decide_eq_false hl]; rfl
    rw [hne]
    go_enter Tryd.func16, Tryd.ntmps16
    go_wp2_with fail
    go_ret
    exact ⟨rfl, Below.refl _ _⟩
end Go.Proofs.YtnhfbignnnicnaaDoor
