/-
  The walks of the queue: the reference's comparison, and its order.
-/
import Derived.Test.YtnhfbignnnicnaaDoorQue13



namespace Go.Proofs.YtnhfbignnnicnaaDoor
open Go.RowKit

def befB (now : Int) (p q : Pend) : Bool := decide (cfP now p q < 0)
theorem cmpI_neg {a b : Int} : Id.cmpI a b < 0 ↔ a < b := by unfold Id.cmpI; split <;> (try split) <;> omega
theorem cmpI_zero {a b : Int} : Id.cmpI a b = 0 ↔ a = b := by unfold Id.cmpI; split <;> (try split) <;> omega
theorem bef_rank {now : Int} {p q : Pend} (h : rankS p now ≠ rankS q now) : befB now p q = decide (rankS p now > rankS q now) := by
  unfold befB cfP orI
  have : Id.cmpI (rankS q now) (rankS p now) ≠ 0 := fun e => h (cmpI_zero.1 e).symm
  rw [if_pos this, decide_eq_decide, cmpI_neg]
theorem bef_since {now : Int} {p q : Pend} (h : rankS p now = rankS q now) (h2 : p.since.1 ≠ q.since.1) : befB now p q = decide (p.since.1 < q.since.1) := by
  unfold befB cfP orI orI
  have e1 : Id.cmpI (rankS q now) (rankS p now) = 0 := cmpI_zero.2 h.symm
  have e2 : Id.cmpI p.since.1 q.since.1 ≠ 0 := fun e => h2 (cmpI_zero.1 e)
  rw [if_neg (by omega), if_pos e2, decide_eq_decide, cmpI_neg]
theorem bef_run {now : Int} {p q : Pend} (h : rankS p now = rankS q now) (h2 : p.since.1 = q.since.1) (h3 : cmpS p.run q.run ≠ 0) : befB now p q = decide (cmpS p.run q.run < 0) := by
  unfold befB cfP orI orI orI
  rw [if_neg (by rw [cmpI_zero.2 h.symm]; omega), if_neg (by rw [cmpI_zero.2 h2]; omega), if_pos h3]
theorem bef_job {now : Int} {p q : Pend} (h : rankS p now = rankS q now) (h2 : p.since.1 = q.since.1) (h3 : cmpS p.run q.run = 0) : befB now p q = decide (cmpS p.job q.job < 0) := by
  unfold befB cfP orI orI orI orI
  rw [if_neg (by rw [cmpI_zero.2 h.symm]; omega), if_neg (by rw [cmpI_zero.2 h2]; omega), if_neg (by rw [h3]; omega)]
  by_cases h4 : cmpS p.job q.job = 0
  · rw [if_neg (by rw [h4]; omega), h4]; rfl
  · rw [if_pos h4]

set_option maxRecDepth 100000 in
set_option maxHeartbeats 8000000 in
theorem before_any (p q : Pend) (now : I64) (w : World) :
    Calls Tryd.prog 42 #[.agg #[.string p.run.1, .string p.job.1, .string p.proj.1, .int .i64 p.prio.1, .int .i64 p.since.1, .int .i64 p.cost.1, .slice p.labsA p.labs.length p.labsC, .int .i64 p.trust.1, .string p.group.1, .int .i64 p.policy.1], .agg #[.string q.run.1, .string q.job.1, .string q.proj.1, .int .i64 q.prio.1, .int .i64 q.since.1, .int .i64 q.cost.1, .slice q.labsA q.labs.length q.labsC, .int .i64 q.trust.1, .string q.group.1, .int .i64 q.policy.1], .int .i64 now.1] w fun e w' => e = .returned (.bool (befB now.1 p q)) ∧ Below w.heap.size w w' := by
  have r1 := fun W => rrank_any p now W
  have r2 := fun W => rrank_any q now W
  have s1 : Hid (∀ W, Calls Tryd.prog 55 #[.string p.run.1, .string q.run.1] W fun e w' => e = .returned (.int .i64 (cmpS p.run q.run)) ∧ ∃ n, w' = W.drewN n) := Lib.hid fun W => rcompare_any _ _ p.run.2 q.run.2 W
  have s2 : Hid (∀ W, Calls Tryd.prog 55 #[.string p.job.1, .string q.job.1] W fun e w' => e = .returned (.int .i64 (cmpS p.job q.job)) ∧ ∃ n, w' = W.drewN n) := Lib.hid fun W => rcompare_any _ _ p.job.2 q.job.2 W
  have k1 := bef_rank (now := now.1) (p := p) (q := q)
  have k2 := bef_since (now := now.1) (p := p) (q := q)
  have k3 := bef_run (now := now.1) (p := p) (q := q)
  have k4 := bef_job (now := now.1) (p := p) (q := q)
  generalize rankS p now.1 = ra at r1 k1 k2 k3 k4
  generalize rankS q now.1 = rb at r2 k1 k2 k3 k4
  replace r1 := Lib.hid r1
  replace r2 := Lib.hid r2
  by_cases c1 : ra = rb
  · have c1b : (ra != rb) = false := by rw [c1]; simp
    by_cases c2 : p.since.1 = q.since.1
    · have c2b : (p.since.1 != q.since.1) = false := by rw [c2]; simp
      by_cases c3 : cmpS p.run q.run = 0
      · have c3b : (cmpS p.run q.run != 0) = false := by rw [c3]; rfl
        replace k4 := Lib.hid (k4 c1 c2 c3)
        clear k1 k2 k3
        replace c1 := Lib.hid c1
        replace c2 := Lib.hid c2
        replace c3 := Lib.hid c3
        go_enter Tryd.func42, Tryd.ntmps42
        go_wp2_with fail
        have hb0 : Below w.heap.size w ((w.alloc (.cells (pendE p).toArray 27)).alloc (.cells (pendE q).toArray 27)) := ((Below.refl _ _).alloc (Nat.le_refl _) _).alloc (by simp) _
        have hz0 : ((w.alloc (.cells (pendE p).toArray 27)).alloc (.cells (pendE q).toArray 27)).heap.size = w.heap.size + 2 := by simp
        have hca : ∀ j u, (pendE p)[j]? = some u → ((w.alloc (.cells (pendE p).toArray 27)).alloc (.cells (pendE q).toArray 27)).cell? ⟨w.heap.size, j, none⟩ = some u := fun j u hu => by
          rw [World.cell?_alloc_lt _ _ _ (by simp)]
          exact box_cells w (pendE p).toArray 27 j u hu
        have hcb : ∀ j u, (pendE q)[j]? = some u → ((w.alloc (.cells (pendE p).toArray 27)).alloc (.cells (pendE q).toArray 27)).cell? ⟨w.heap.size + 1, j, none⟩ = some u := fun j u hu => by
          have := box_cells (w.alloc (.cells (pendE p).toArray 27)) (pendE q).toArray 27 j u hu
          simpa using this
        simp only [pendE] at hb0 hz0 hca hcb
        generalize (w.alloc (.cells #[.string p.run.1, .string p.job.1, .string p.proj.1, .int .i64 p.prio.1, .int .i64 p.since.1, .int .i64 p.cost.1, .slice p.labsA p.labs.length p.labsC, .int .i64 p.trust.1, .string p.group.1, .int .i64 p.policy.1] 27)).alloc (.cells #[.string q.run.1, .string q.job.1, .string q.proj.1, .int .i64 q.prio.1, .int .i64 q.since.1, .int .i64 q.cost.1, .slice q.labsA q.labs.length q.labsC, .int .i64 q.trust.1, .string q.group.1, .int .i64 q.policy.1] 27) = W0 at *
        have hz0' := Nat.le_of_eq hz0
        have hz0'' := Nat.le_of_eq hz0.symm
        replace hz0 := Lib.hid hz0
        have a0 := hca 0 (.string p.run.1) rfl
        try rw [Nat.add_zero] at a0
        have a1 := hca 1 (.string p.job.1) rfl
        have a2 := hca 2 (.string p.proj.1) rfl
        have a3 := hca 3 (.int .i64 p.prio.1) rfl
        have a4 := hca 4 (.int .i64 p.since.1) rfl
        have a5 := hca 5 (.int .i64 p.cost.1) rfl
        have a6 := hca 6 (.slice p.labsA p.labs.length p.labsC) rfl
        have a7 := hca 7 (.int .i64 p.trust.1) rfl
        have a8 := hca 8 (.string p.group.1) rfl
        have a9 := hca 9 (.int .i64 p.policy.1) rfl
        have b0 := hcb 0 (.string q.run.1) rfl
        try rw [Nat.add_zero] at b0
        have b1 := hcb 1 (.string q.job.1) rfl
        have b2 := hcb 2 (.string q.proj.1) rfl
        have b3 := hcb 3 (.int .i64 q.prio.1) rfl
        have b4 := hcb 4 (.int .i64 q.since.1) rfl
        have b5 := hcb 5 (.int .i64 q.cost.1) rfl
        have b6 := hcb 6 (.slice q.labsA q.labs.length q.labsC) rfl
        have b7 := hcb 7 (.int .i64 q.trust.1) rfl
        have b8 := hcb 8 (.string q.group.1) rfl
        have b9 := hcb 9 (.int .i64 q.policy.1) rfl
        replace hca := Lib.hid hca
        replace hcb := Lib.hid hcb
        replace a0 := fun d os => cell_regrown a0 d os
        replace a1 := fun d os => cell_regrown a1 d os
        replace a2 := fun d os => cell_regrown a2 d os
        replace a3 := fun d os => cell_regrown a3 d os
        replace a4 := fun d os => cell_regrown a4 d os
        replace a5 := fun d os => cell_regrown a5 d os
        replace a6 := fun d os => cell_regrown a6 d os
        replace a7 := fun d os => cell_regrown a7 d os
        replace a8 := fun d os => cell_regrown a8 d os
        replace a9 := fun d os => cell_regrown a9 d os
        replace b0 := fun d os => cell_regrown b0 d os
        replace b1 := fun d os => cell_regrown b1 d os
        replace b2 := fun d os => cell_regrown b2 d os
        replace b3 := fun d os => cell_regrown b3 d os
        replace b4 := fun d os => cell_regrown b4 d os
        replace b5 := fun d os => cell_regrown b5 d os
        replace b6 := fun d os => cell_regrown b6 d os
        replace b7 := fun d os => cell_regrown b7 d os
        replace b8 := fun d os => cell_regrown b8 d os
        replace b9 := fun d os => cell_regrown b9 d os
        refine wp_region_quiet_below (by kernel_rfl) (by kernel_rfl) ?_
        repeat (go_big_quiet_step ((go_at_call 19; first | (with_reducible exact Calls.regrown_of (r1.out _)) | (with_reducible exact Calls.regrown_of (r2.out _)))))
        refine wpQuiet_nil ?_
        intro w2 hw2
        have hb2 := below_of_regrown hw2
        clear hw2
        have hz2 := hb2.size
        clear a0 a1 a2 a3 a4 a5 a6 a7 a8 a9 b0 b1 b2 b3 b4 b5 b6 b7 b8 b9
        replace hca := fun j u hu => (hb2.cell (p := ⟨w.heap.size, j, none⟩) (by show w.heap.size < _; omega)).trans (hca.out j u hu)
        replace hcb := fun j u hu => (hb2.cell (p := ⟨w.heap.size + 1, j, none⟩) (by show w.heap.size + 1 < _; omega)).trans (hcb.out j u hu)
        have a0 := hca 0 (.string p.run.1) rfl
        try rw [Nat.add_zero] at a0
        have a1 := hca 1 (.string p.job.1) rfl
        have a2 := hca 2 (.string p.proj.1) rfl
        have a3 := hca 3 (.int .i64 p.prio.1) rfl
        have a4 := hca 4 (.int .i64 p.since.1) rfl
        have a5 := hca 5 (.int .i64 p.cost.1) rfl
        have a6 := hca 6 (.slice p.labsA p.labs.length p.labsC) rfl
        have a7 := hca 7 (.int .i64 p.trust.1) rfl
        have a8 := hca 8 (.string p.group.1) rfl
        have a9 := hca 9 (.int .i64 p.policy.1) rfl
        have b0 := hcb 0 (.string q.run.1) rfl
        try rw [Nat.add_zero] at b0
        have b1 := hcb 1 (.string q.job.1) rfl
        have b2 := hcb 2 (.string q.proj.1) rfl
        have b3 := hcb 3 (.int .i64 q.prio.1) rfl
        have b4 := hcb 4 (.int .i64 q.since.1) rfl
        have b5 := hcb 5 (.int .i64 q.cost.1) rfl
        have b6 := hcb 6 (.slice q.labsA q.labs.length q.labsC) rfl
        have b7 := hcb 7 (.int .i64 q.trust.1) rfl
        have b8 := hcb 8 (.string q.group.1) rfl
        have b9 := hcb 9 (.int .i64 q.policy.1) rfl
        clear hca hcb
        replace hb2 := hb0.trans (hb2.mono (by omega))
        go_wp2_with (first
          | (go_at_call 55; with_reducible refine (s1.out _).mono ?_; rintro e w3 ⟨rfl, n3, rfl⟩)
          | (go_at_call 55; with_reducible refine (s2.out _).mono ?_; rintro e w4 ⟨rfl, n4, rfl⟩))
        go_ret
        exact ⟨ret_bool k4.out.symm, below_drewN hb2 _⟩
      · have c3b : (cmpS p.run q.run != 0) = true := by rw [bne_iff_ne]; exact c3
        replace k3 := Lib.hid (k3 c1 c2 c3)
        clear k1 k2 k4
        replace c1 := Lib.hid c1
        replace c2 := Lib.hid c2
        replace c3 := Lib.hid c3
        go_enter Tryd.func42, Tryd.ntmps42
        go_wp2_with fail
        have hb0 : Below w.heap.size w ((w.alloc (.cells (pendE p).toArray 27)).alloc (.cells (pendE q).toArray 27)) := ((Below.refl _ _).alloc (Nat.le_refl _) _).alloc (by simp) _
        have hz0 : ((w.alloc (.cells (pendE p).toArray 27)).alloc (.cells (pendE q).toArray 27)).heap.size = w.heap.size + 2 := by simp
        have hca : ∀ j u, (pendE p)[j]? = some u → ((w.alloc (.cells (pendE p).toArray 27)).alloc (.cells (pendE q).toArray 27)).cell? ⟨w.heap.size, j, none⟩ = some u := fun j u hu => by
          rw [World.cell?_alloc_lt _ _ _ (by simp)]
          exact box_cells w (pendE p).toArray 27 j u hu
        have hcb : ∀ j u, (pendE q)[j]? = some u → ((w.alloc (.cells (pendE p).toArray 27)).alloc (.cells (pendE q).toArray 27)).cell? ⟨w.heap.size + 1, j, none⟩ = some u := fun j u hu => by
          have := box_cells (w.alloc (.cells (pendE p).toArray 27)) (pendE q).toArray 27 j u hu
          simpa using this
        simp only [pendE] at hb0 hz0 hca hcb
        generalize (w.alloc (.cells #[.string p.run.1, .string p.job.1, .string p.proj.1, .int .i64 p.prio.1, .int .i64 p.since.1, .int .i64 p.cost.1, .slice p.labsA p.labs.length p.labsC, .int .i64 p.trust.1, .string p.group.1, .int .i64 p.policy.1] 27)).alloc (.cells #[.string q.run.1, .string q.job.1, .string q.proj.1, .int .i64 q.prio.1, .int .i64 q.since.1, .int .i64 q.cost.1, .slice q.labsA q.labs.length q.labsC, .int .i64 q.trust.1, .string q.group.1, .int .i64 q.policy.1] 27) = W0 at *
        have hz0' := Nat.le_of_eq hz0
        have hz0'' := Nat.le_of_eq hz0.symm
        replace hz0 := Lib.hid hz0
        have a0 := hca 0 (.string p.run.1) rfl
        try rw [Nat.add_zero] at a0
        have a1 := hca 1 (.string p.job.1) rfl
        have a2 := hca 2 (.string p.proj.1) rfl
        have a3 := hca 3 (.int .i64 p.prio.1) rfl
        have a4 := hca 4 (.int .i64 p.since.1) rfl
        have a5 := hca 5 (.int .i64 p.cost.1) rfl
        have a6 := hca 6 (.slice p.labsA p.labs.length p.labsC) rfl
        have a7 := hca 7 (.int .i64 p.trust.1) rfl
        have a8 := hca 8 (.string p.group.1) rfl
        have a9 := hca 9 (.int .i64 p.policy.1) rfl
        have b0 := hcb 0 (.string q.run.1) rfl
        try rw [Nat.add_zero] at b0
        have b1 := hcb 1 (.string q.job.1) rfl
        have b2 := hcb 2 (.string q.proj.1) rfl
        have b3 := hcb 3 (.int .i64 q.prio.1) rfl
        have b4 := hcb 4 (.int .i64 q.since.1) rfl
        have b5 := hcb 5 (.int .i64 q.cost.1) rfl
        have b6 := hcb 6 (.slice q.labsA q.labs.length q.labsC) rfl
        have b7 := hcb 7 (.int .i64 q.trust.1) rfl
        have b8 := hcb 8 (.string q.group.1) rfl
        have b9 := hcb 9 (.int .i64 q.policy.1) rfl
        replace hca := Lib.hid hca
        replace hcb := Lib.hid hcb
        replace a0 := fun d os => cell_regrown a0 d os
        replace a1 := fun d os => cell_regrown a1 d os
        replace a2 := fun d os => cell_regrown a2 d os
        replace a3 := fun d os => cell_regrown a3 d os
        replace a4 := fun d os => cell_regrown a4 d os
        replace a5 := fun d os => cell_regrown a5 d os
        replace a6 := fun d os => cell_regrown a6 d os
        replace a7 := fun d os => cell_regrown a7 d os
        replace a8 := fun d os => cell_regrown a8 d os
        replace a9 := fun d os => cell_regrown a9 d os
        replace b0 := fun d os => cell_regrown b0 d os
        replace b1 := fun d os => cell_regrown b1 d os
        replace b2 := fun d os => cell_regrown b2 d os
        replace b3 := fun d os => cell_regrown b3 d os
        replace b4 := fun d os => cell_regrown b4 d os
        replace b5 := fun d os => cell_regrown b5 d os
        replace b6 := fun d os => cell_regrown b6 d os
        replace b7 := fun d os => cell_regrown b7 d os
        replace b8 := fun d os => cell_regrown b8 d os
        replace b9 := fun d os => cell_regrown b9 d os
        refine wp_region_quiet_below (by kernel_rfl) (by kernel_rfl) ?_
        repeat (go_big_quiet_step ((go_at_call 19; first | (with_reducible exact Calls.regrown_of (r1.out _)) | (with_reducible exact Calls.regrown_of (r2.out _)))))
        refine wpQuiet_nil ?_
        intro w2 hw2
        have hb2 := below_of_regrown hw2
        clear hw2
        have hz2 := hb2.size
        clear a0 a1 a2 a3 a4 a5 a6 a7 a8 a9 b0 b1 b2 b3 b4 b5 b6 b7 b8 b9
        replace hca := fun j u hu => (hb2.cell (p := ⟨w.heap.size, j, none⟩) (by show w.heap.size < _; omega)).trans (hca.out j u hu)
        replace hcb := fun j u hu => (hb2.cell (p := ⟨w.heap.size + 1, j, none⟩) (by show w.heap.size + 1 < _; omega)).trans (hcb.out j u hu)
        have a0 := hca 0 (.string p.run.1) rfl
        try rw [Nat.add_zero] at a0
        have a1 := hca 1 (.string p.job.1) rfl
        have a2 := hca 2 (.string p.proj.1) rfl
        have a3 := hca 3 (.int .i64 p.prio.1) rfl
        have a4 := hca 4 (.int .i64 p.since.1) rfl
        have a5 := hca 5 (.int .i64 p.cost.1) rfl
        have a6 := hca 6 (.slice p.labsA p.labs.length p.labsC) rfl
        have a7 := hca 7 (.int .i64 p.trust.1) rfl
        have a8 := hca 8 (.string p.group.1) rfl
        have a9 := hca 9 (.int .i64 p.policy.1) rfl
        have b0 := hcb 0 (.string q.run.1) rfl
        try rw [Nat.add_zero] at b0
        have b1 := hcb 1 (.string q.job.1) rfl
        have b2 := hcb 2 (.string q.proj.1) rfl
        have b3 := hcb 3 (.int .i64 q.prio.1) rfl
        have b4 := hcb 4 (.int .i64 q.since.1) rfl
        have b5 := hcb 5 (.int .i64 q.cost.1) rfl
        have b6 := hcb 6 (.slice q.labsA q.labs.length q.labsC) rfl
        have b7 := hcb 7 (.int .i64 q.trust.1) rfl
        have b8 := hcb 8 (.string q.group.1) rfl
        have b9 := hcb 9 (.int .i64 q.policy.1) rfl
        clear hca hcb
        replace hb2 := hb0.trans (hb2.mono (by omega))
        go_wp2_with (first
          | (go_at_call 55; with_reducible refine (s1.out _).mono ?_; rintro e w3 ⟨rfl, n3, rfl⟩)
          | (go_at_call 55; with_reducible refine (s2.out _).mono ?_; rintro e w4 ⟨rfl, n4, rfl⟩))
        go_ret
        exact ⟨ret_bool k3.out.symm, below_drewN hb2 _⟩
    · have c2b : (p.since.1 != q.since.1) = true := by rw [bne_iff_ne]; exact c2
      replace k2 := Lib.hid (k2 c1 c2)
      clear k1 k3 k4
      replace c1 := Lib.hid c1
      replace c2 := Lib.hid c2
      go_enter Tryd.func42, Tryd.ntmps42
      go_wp2_with fail
      have hb0 : Below w.heap.size w ((w.alloc (.cells (pendE p).toArray 27)).alloc (.cells (pendE q).toArray 27)) := ((Below.refl _ _).alloc (Nat.le_refl _) _).alloc (by simp) _
      have hz0 : ((w.alloc (.cells (pendE p).toArray 27)).alloc (.cells (pendE q).toArray 27)).heap.size = w.heap.size + 2 := by simp
      have hca : ∀ j u, (pendE p)[j]? = some u → ((w.alloc (.cells (pendE p).toArray 27)).alloc (.cells (pendE q).toArray 27)).cell? ⟨w.heap.size, j, none⟩ = some u := fun j u hu => by
        rw [World.cell?_alloc_lt _ _ _ (by simp)]
        exact box_cells w (pendE p).toArray 27 j u hu
      have hcb : ∀ j u, (pendE q)[j]? = some u → ((w.alloc (.cells (pendE p).toArray 27)).alloc (.cells (pendE q).toArray 27)).cell? ⟨w.heap.size + 1, j, none⟩ = some u := fun j u hu => by
        have := box_cells (w.alloc (.cells (pendE p).toArray 27)) (pendE q).toArray 27 j u hu
        simpa using this
      simp only [pendE] at hb0 hz0 hca hcb
      generalize (w.alloc (.cells #[.string p.run.1, .string p.job.1, .string p.proj.1, .int .i64 p.prio.1, .int .i64 p.since.1, .int .i64 p.cost.1, .slice p.labsA p.labs.length p.labsC, .int .i64 p.trust.1, .string p.group.1, .int .i64 p.policy.1] 27)).alloc (.cells #[.string q.run.1, .string q.job.1, .string q.proj.1, .int .i64 q.prio.1, .int .i64 q.since.1, .int .i64 q.cost.1, .slice q.labsA q.labs.length q.labsC, .int .i64 q.trust.1, .string q.group.1, .int .i64 q.policy.1] 27) = W0 at *
      have hz0' := Nat.le_of_eq hz0
      have hz0'' := Nat.le_of_eq hz0.symm
      replace hz0 := Lib.hid hz0
      have a0 := hca 0 (.string p.run.1) rfl
      try rw [Nat.add_zero] at a0
      have a1 := hca 1 (.string p.job.1) rfl
      have a2 := hca 2 (.string p.proj.1) rfl
      have a3 := hca 3 (.int .i64 p.prio.1) rfl
      have a4 := hca 4 (.int .i64 p.since.1) rfl
      have a5 := hca 5 (.int .i64 p.cost.1) rfl
      have a6 := hca 6 (.slice p.labsA p.labs.length p.labsC) rfl
      have a7 := hca 7 (.int .i64 p.trust.1) rfl
      have a8 := hca 8 (.string p.group.1) rfl
      have a9 := hca 9 (.int .i64 p.policy.1) rfl
      have b0 := hcb 0 (.string q.run.1) rfl
      try rw [Nat.add_zero] at b0
      have b1 := hcb 1 (.string q.job.1) rfl
      have b2 := hcb 2 (.string q.proj.1) rfl
      have b3 := hcb 3 (.int .i64 q.prio.1) rfl
      have b4 := hcb 4 (.int .i64 q.since.1) rfl
      have b5 := hcb 5 (.int .i64 q.cost.1) rfl
      have b6 := hcb 6 (.slice q.labsA q.labs.length q.labsC) rfl
      have b7 := hcb 7 (.int .i64 q.trust.1) rfl
      have b8 := hcb 8 (.string q.group.1) rfl
      have b9 := hcb 9 (.int .i64 q.policy.1) rfl
      replace hca := Lib.hid hca
      replace hcb := Lib.hid hcb
      replace a0 := fun d os => cell_regrown a0 d os
      replace a1 := fun d os => cell_regrown a1 d os
      replace a2 := fun d os => cell_regrown a2 d os
      replace a3 := fun d os => cell_regrown a3 d os
      replace a4 := fun d os => cell_regrown a4 d os
      replace a5 := fun d os => cell_regrown a5 d os
      replace a6 := fun d os => cell_regrown a6 d os
      replace a7 := fun d os => cell_regrown a7 d os
      replace a8 := fun d os => cell_regrown a8 d os
      replace a9 := fun d os => cell_regrown a9 d os
      replace b0 := fun d os => cell_regrown b0 d os
      replace b1 := fun d os => cell_regrown b1 d os
      replace b2 := fun d os => cell_regrown b2 d os
      replace b3 := fun d os => cell_regrown b3 d os
      replace b4 := fun d os => cell_regrown b4 d os
      replace b5 := fun d os => cell_regrown b5 d os
      replace b6 := fun d os => cell_regrown b6 d os
      replace b7 := fun d os => cell_regrown b7 d os
      replace b8 := fun d os => cell_regrown b8 d os
      replace b9 := fun d os => cell_regrown b9 d os
      refine wp_region_quiet_below (by kernel_rfl) (by kernel_rfl) ?_
      repeat (go_big_quiet_step ((go_at_call 19; first | (with_reducible exact Calls.regrown_of (r1.out _)) | (with_reducible exact Calls.regrown_of (r2.out _)))))
      refine wpQuiet_nil ?_
      intro w2 hw2
      have hb2 := below_of_regrown hw2
      clear hw2
      have hz2 := hb2.size
      clear a0 a1 a2 a3 a4 a5 a6 a7 a8 a9 b0 b1 b2 b3 b4 b5 b6 b7 b8 b9
      replace hca := fun j u hu => (hb2.cell (p := ⟨w.heap.size, j, none⟩) (by show w.heap.size < _; omega)).trans (hca.out j u hu)
      replace hcb := fun j u hu => (hb2.cell (p := ⟨w.heap.size + 1, j, none⟩) (by show w.heap.size + 1 < _; omega)).trans (hcb.out j u hu)
      have a0 := hca 0 (.string p.run.1) rfl
      try rw [Nat.add_zero] at a0
      have a1 := hca 1 (.string p.job.1) rfl
      have a2 := hca 2 (.string p.proj.1) rfl
      have a3 := hca 3 (.int .i64 p.prio.1) rfl
      have a4 := hca 4 (.int .i64 p.since.1) rfl
      have a5 := hca 5 (.int .i64 p.cost.1) rfl
      have a6 := hca 6 (.slice p.labsA p.labs.length p.labsC) rfl
      have a7 := hca 7 (.int .i64 p.trust.1) rfl
      have a8 := hca 8 (.string p.group.1) rfl
      have a9 := hca 9 (.int .i64 p.policy.1) rfl
      have b0 := hcb 0 (.string q.run.1) rfl
      try rw [Nat.add_zero] at b0
      have b1 := hcb 1 (.string q.job.1) rfl
      have b2 := hcb 2 (.string q.proj.1) rfl
      have b3 := hcb 3 (.int .i64 q.prio.1) rfl
      have b4 := hcb 4 (.int .i64 q.since.1) rfl
      have b5 := hcb 5 (.int .i64 q.cost.1) rfl
      have b6 := hcb 6 (.slice q.labsA q.labs.length q.labsC) rfl
      have b7 := hcb 7 (.int .i64 q.trust.1) rfl
      have b8 := hcb 8 (.string q.group.1) rfl
      have b9 := hcb 9 (.int .i64 q.policy.1) rfl
      clear hca hcb
      replace hb2 := hb0.trans (hb2.mono (by omega))
      go_wp2_with (first
        | (go_at_call 55; with_reducible refine (s1.out _).mono ?_; rintro e w3 ⟨rfl, n3, rfl⟩)
        | (go_at_call 55; with_reducible refine (s2.out _).mono ?_; rintro e w4 ⟨rfl, n4, rfl⟩))
      go_ret
      exact ⟨ret_bool k2.out.symm, hb2⟩
  · have c1b : (ra != rb) = true := by rw [bne_iff_ne]; exact c1
    replace k1 := Lib.hid (k1 c1)
    clear k2 k3 k4
    replace c1 := Lib.hid c1
    go_enter Tryd.func42, Tryd.ntmps42
    go_wp2_with fail
    have hb0 : Below w.heap.size w ((w.alloc (.cells (pendE p).toArray 27)).alloc (.cells (pendE q).toArray 27)) := ((Below.refl _ _).alloc (Nat.le_refl _) _).alloc (by simp) _
    have hz0 : ((w.alloc (.cells (pendE p).toArray 27)).alloc (.cells (pendE q).toArray 27)).heap.size = w.heap.size + 2 := by simp
    have hca : ∀ j u, (pendE p)[j]? = some u → ((w.alloc (.cells (pendE p).toArray 27)).alloc (.cells (pendE q).toArray 27)).cell? ⟨w.heap.size, j, none⟩ = some u := fun j u hu => by
      rw [World.cell?_alloc_lt _ _ _ (by simp)]
      exact box_cells w (pendE p).toArray 27 j u hu
    have hcb : ∀ j u, (pendE q)[j]? = some u → ((w.alloc (.cells (pendE p).toArray 27)).alloc (.cells (pendE q).toArray 27)).cell? ⟨w.heap.size + 1, j, none⟩ = some u := fun j u hu => by
      have := box_cells (w.alloc (.cells (pendE p).toArray 27)) (pendE q).toArray 27 j u hu
      simpa using this
    simp only [pendE] at hb0 hz0 hca hcb
    generalize (w.alloc (.cells #[.string p.run.1, .string p.job.1, .string p.proj.1, .int .i64 p.prio.1, .int .i64 p.since.1, .int .i64 p.cost.1, .slice p.labsA p.labs.length p.labsC, .int .i64 p.trust.1, .string p.group.1, .int .i64 p.policy.1] 27)).alloc (.cells #[.string q.run.1, .string q.job.1, .string q.proj.1, .int .i64 q.prio.1, .int .i64 q.since.1, .int .i64 q.cost.1, .slice q.labsA q.labs.length q.labsC, .int .i64 q.trust.1, .string q.group.1, .int .i64 q.policy.1] 27) = W0 at *
    have hz0' := Nat.le_of_eq hz0
    have hz0'' := Nat.le_of_eq hz0.symm
    replace hz0 := Lib.hid hz0
    have a0 := hca 0 (.string p.run.1) rfl
    try rw [Nat.add_zero] at a0
    have a1 := hca 1 (.string p.job.1) rfl
    have a2 := hca 2 (.string p.proj.1) rfl
    have a3 := hca 3 (.int .i64 p.prio.1) rfl
    have a4 := hca 4 (.int .i64 p.since.1) rfl
    have a5 := hca 5 (.int .i64 p.cost.1) rfl
    have a6 := hca 6 (.slice p.labsA p.labs.length p.labsC) rfl
    have a7 := hca 7 (.int .i64 p.trust.1) rfl
    have a8 := hca 8 (.string p.group.1) rfl
    have a9 := hca 9 (.int .i64 p.policy.1) rfl
    have b0 := hcb 0 (.string q.run.1) rfl
    try rw [Nat.add_zero] at b0
    have b1 := hcb 1 (.string q.job.1) rfl
    have b2 := hcb 2 (.string q.proj.1) rfl
    have b3 := hcb 3 (.int .i64 q.prio.1) rfl
    have b4 := hcb 4 (.int .i64 q.since.1) rfl
    have b5 := hcb 5 (.int .i64 q.cost.1) rfl
    have b6 := hcb 6 (.slice q.labsA q.labs.length q.labsC) rfl
    have b7 := hcb 7 (.int .i64 q.trust.1) rfl
    have b8 := hcb 8 (.string q.group.1) rfl
    have b9 := hcb 9 (.int .i64 q.policy.1) rfl
    replace hca := Lib.hid hca
    replace hcb := Lib.hid hcb
    replace a0 := fun d os => cell_regrown a0 d os
    replace a1 := fun d os => cell_regrown a1 d os
    replace a2 := fun d os => cell_regrown a2 d os
    replace a3 := fun d os => cell_regrown a3 d os
    replace a4 := fun d os => cell_regrown a4 d os
    replace a5 := fun d os => cell_regrown a5 d os
    replace a6 := fun d os => cell_regrown a6 d os
    replace a7 := fun d os => cell_regrown a7 d os
    replace a8 := fun d os => cell_regrown a8 d os
    replace a9 := fun d os => cell_regrown a9 d os
    replace b0 := fun d os => cell_regrown b0 d os
    replace b1 := fun d os => cell_regrown b1 d os
    replace b2 := fun d os => cell_regrown b2 d os
    replace b3 := fun d os => cell_regrown b3 d os
    replace b4 := fun d os => cell_regrown b4 d os
    replace b5 := fun d os => cell_regrown b5 d os
    replace b6 := fun d os => cell_regrown b6 d os
    replace b7 := fun d os => cell_regrown b7 d os
    replace b8 := fun d os => cell_regrown b8 d os
    replace b9 := fun d os => cell_regrown b9 d os
    refine wp_region_quiet_below (by kernel_rfl) (by kernel_rfl) ?_
    repeat (go_big_quiet_step ((go_at_call 19; first | (with_reducible exact Calls.regrown_of (r1.out _)) | (with_reducible exact Calls.regrown_of (r2.out _)))))
    refine wpQuiet_nil ?_
    intro w2 hw2
    have hb2 := below_of_regrown hw2
    clear hw2
    have hz2 := hb2.size
    clear a0 a1 a2 a3 a4 a5 a6 a7 a8 a9 b0 b1 b2 b3 b4 b5 b6 b7 b8 b9
    replace hca := fun j u hu => (hb2.cell (p := ⟨w.heap.size, j, none⟩) (by show w.heap.size < _; omega)).trans (hca.out j u hu)
    replace hcb := fun j u hu => (hb2.cell (p := ⟨w.heap.size + 1, j, none⟩) (by show w.heap.size + 1 < _; omega)).trans (hcb.out j u hu)
    have a0 := hca 0 (.string p.run.1) rfl
    try rw [Nat.add_zero] at a0
    have a1 := hca 1 (.string p.job.1) rfl
    have a2 := hca 2 (.string p.proj.1) rfl
    have a3 := hca 3 (.int .i64 p.prio.1) rfl
    have a4 := hca 4 (.int .i64 p.since.1) rfl
    have a5 := hca 5 (.int .i64 p.cost.1) rfl
    have a6 := hca 6 (.slice p.labsA p.labs.length p.labsC) rfl
    have a7 := hca 7 (.int .i64 p.trust.1) rfl
    have a8 := hca 8 (.string p.group.1) rfl
    have a9 := hca 9 (.int .i64 p.policy.1) rfl
    have b0 := hcb 0 (.string q.run.1) rfl
    try rw [Nat.add_zero] at b0
    have b1 := hcb 1 (.string q.job.1) rfl
    have b2 := hcb 2 (.string q.proj.1) rfl
    have b3 := hcb 3 (.int .i64 q.prio.1) rfl
    have b4 := hcb 4 (.int .i64 q.since.1) rfl
    have b5 := hcb 5 (.int .i64 q.cost.1) rfl
    have b6 := hcb 6 (.slice q.labsA q.labs.length q.labsC) rfl
    have b7 := hcb 7 (.int .i64 q.trust.1) rfl
    have b8 := hcb 8 (.string q.group.1) rfl
    have b9 := hcb 9 (.int .i64 q.policy.1) rfl
    clear hca hcb
    replace hb2 := hb0.trans (hb2.mono (by omega))
    go_wp2_with (first
      | (go_at_call 55; with_reducible refine (s1.out _).mono ?_; rintro e w3 ⟨rfl, n3, rfl⟩)
      | (go_at_call 55; with_reducible refine (s2.out _).mono ?_; rintro e w4 ⟨rfl, n4, rfl⟩))
    go_ret
    exact ⟨ret_bool k1.out.symm, hb2⟩
end Go.Proofs.YtnhfbignnnicnaaDoor
