/-
  The walks of the queue: the comparison by rank, age and name.
-/
import Derived.Test.YtnhfbignnnicnaaDoorQue8



namespace Go.Proofs.YtnhfbignnnicnaaDoor
open Go.RowKit

/-- How two jobs are compared at a time. -/
def cfP (now : Int) (p q : Pend) : Int := orI [Id.cmpI (rankS q now) (rankS p now), Id.cmpI p.since.1 q.since.1, cmpS p.run q.run, cmpS p.job q.job]

set_option maxRecDepth 100000 in
set_option maxHeartbeats 4000000 in
theorem order1_any (p q : Pend) (now : I64) (b : Nat) (w : World) (hb : w.cell? ⟨b, 0, none⟩ = some (.int .i64 now.1)) :
    Calls Tryd.prog 38 #[.agg #[.string p.run.1, .string p.job.1, .string p.proj.1, .int .i64 p.prio.1, .int .i64 p.since.1, .int .i64 p.cost.1, .slice p.labsA p.labs.length p.labsC, .int .i64 p.trust.1, .string p.group.1, .int .i64 p.policy.1], .agg #[.string q.run.1, .string q.job.1, .string q.proj.1, .int .i64 q.prio.1, .int .i64 q.since.1, .int .i64 q.cost.1, .slice q.labsA q.labs.length q.labsC, .int .i64 q.trust.1, .string q.group.1, .int .i64 q.policy.1], .pointer (some ⟨b, 0, none⟩)] w fun e w' => e = .returned (.int .i64 (cfP now.1 p q)) ∧ Bel w.heap.size w w' := by
  have hbl : b < w.heap.size := World.block_lt_of_cell? _ _ hb
  have hst : Hid (∀ W, Calls Tryd.prog 41 #[.string p.run.1, .string q.run.1] W fun e w' => e = .returned (.int .i64 (cmpS p.run q.run)) ∧ Bel W.heap.size W w') := Lib.hid fun W => compare_any _ _ p.run.2 q.run.2 W
  have hst2 : Hid (∀ W, Calls Tryd.prog 41 #[.string p.job.1, .string q.job.1] W fun e w' => e = .returned (.int .i64 (cmpS p.job q.job)) ∧ Bel W.heap.size W w') := Lib.hid fun W => compare_any _ _ p.job.2 q.job.2 W
  have hrp : Hid (∀ W, Calls Tryd.prog 18 #[.agg #[.string p.run.1, .string p.job.1, .string p.proj.1, .int .i64 p.prio.1, .int .i64 p.since.1, .int .i64 p.cost.1, .slice p.labsA p.labs.length p.labsC, .int .i64 p.trust.1, .string p.group.1, .int .i64 p.policy.1], .int .i64 now.1] W fun e w' => e = .returned (.int .i64 (rankS p now.1)) ∧ Bel W.heap.size W w') := Lib.hid fun W => (rank_any p now W).mono fun _ _ h => ⟨h.1, by rw [h.2]; exact (Bel.refl _ _).alloc (Nat.le_refl _) _⟩
  have hrq : Hid (∀ W, Calls Tryd.prog 18 #[.agg #[.string q.run.1, .string q.job.1, .string q.proj.1, .int .i64 q.prio.1, .int .i64 q.since.1, .int .i64 q.cost.1, .slice q.labsA q.labs.length q.labsC, .int .i64 q.trust.1, .string q.group.1, .int .i64 q.policy.1], .int .i64 now.1] W fun e w' => e = .returned (.int .i64 (rankS q now.1)) ∧ Bel W.heap.size W w') := Lib.hid fun W => (rank_any q now W).mono fun _ _ h => ⟨h.1, by rw [h.2]; exact (Bel.refl _ _).alloc (Nat.le_refl _) _⟩
  go_enter Tryd.func38, Tryd.ntmps38
  go_wp2_with fail
  have hbne : b ≠ w.heap.size := by omega
  have hbne1 : b ≠ w.heap.size + 1 := by omega
  go_region_held3 (fun w' => w'.cell? ⟨w.heap.size, 0, none⟩ = some (.string p.run.1) ∧ w'.cell? ⟨w.heap.size, 1, none⟩ = some (.string p.job.1) ∧ w'.cell? ⟨w.heap.size, 2, none⟩ = some (.string p.proj.1) ∧ w'.cell? ⟨w.heap.size, 3, none⟩ = some (.int .i64 p.prio.1) ∧ w'.cell? ⟨w.heap.size, 4, none⟩ = some (.int .i64 p.since.1) ∧ w'.cell? ⟨w.heap.size, 5, none⟩ = some (.int .i64 p.cost.1) ∧ w'.cell? ⟨w.heap.size, 6, none⟩ = some (.slice p.labsA p.labs.length p.labsC) ∧ w'.cell? ⟨w.heap.size, 7, none⟩ = some (.int .i64 p.trust.1) ∧ w'.cell? ⟨w.heap.size, 8, none⟩ = some (.string p.group.1) ∧ w'.cell? ⟨w.heap.size, 9, none⟩ = some (.int .i64 p.policy.1) ∧ w'.cell? ⟨(w.heap.size + 1), 0, none⟩ = some (.string q.run.1) ∧ w'.cell? ⟨(w.heap.size + 1), 1, none⟩ = some (.string q.job.1) ∧ w'.cell? ⟨(w.heap.size + 1), 2, none⟩ = some (.string q.proj.1) ∧ w'.cell? ⟨(w.heap.size + 1), 3, none⟩ = some (.int .i64 q.prio.1) ∧ w'.cell? ⟨(w.heap.size + 1), 4, none⟩ = some (.int .i64 q.since.1) ∧ w'.cell? ⟨(w.heap.size + 1), 5, none⟩ = some (.int .i64 q.cost.1) ∧ w'.cell? ⟨(w.heap.size + 1), 6, none⟩ = some (.slice q.labsA q.labs.length q.labsC) ∧ w'.cell? ⟨(w.heap.size + 1), 7, none⟩ = some (.int .i64 q.trust.1) ∧ w'.cell? ⟨(w.heap.size + 1), 8, none⟩ = some (.string q.group.1) ∧ w'.cell? ⟨(w.heap.size + 1), 9, none⟩ = some (.int .i64 q.policy.1) ∧ w'.cell? ⟨b, 0, none⟩ = some (.int .i64 now.1)) (go_keep)
    (first
      | (go_at_call 18; with_reducible refine (hrp.out _).mono ?_; rintro e w5 ⟨rfl, hb5⟩; have hz5 := hb5.size; (try simp at hz5); obtain ⟨hc5, hf5⟩ := blk_at hb5.toBelow w.heap.size (by (try simp) <;> omega); obtain ⟨hd5, hg5⟩ := blk_at hb5.toBelow (w.heap.size + 1) (by (try simp) <;> omega); obtain ⟨he5, hh5⟩ := blk_at hb5.toBelow b (by (try simp) <;> omega))
      | (go_at_call 18; with_reducible refine (hrq.out _).mono ?_; rintro e w6 ⟨rfl, hb6⟩; have hz6 := hb6.size; (try simp at hz6); obtain ⟨hc6, hf6⟩ := blk_at hb6.toBelow w.heap.size (by (try simp) <;> omega); obtain ⟨hd6, hg6⟩ := blk_at hb6.toBelow (w.heap.size + 1) (by (try simp) <;> omega); obtain ⟨he6, hh6⟩ := blk_at hb6.toBelow b (by (try simp) <;> omega))
      | (go_at_call 40; go_must (refine (cmpInt_any _ _ _).mono ?_; rintro e w2 ⟨rfl, rfl⟩))
      | (go_at_call 41; with_reducible refine (hst.out _).mono ?_; rintro e w3 ⟨rfl, hb3⟩; have hz3 := hb3.size; (try simp at hz3); obtain ⟨hc3, hf3⟩ := blk_at hb3.toBelow w.heap.size (by (try simp) <;> omega); obtain ⟨hd3, hg3⟩ := blk_at hb3.toBelow (w.heap.size + 1) (by (try simp) <;> omega); obtain ⟨he3, hh3⟩ := blk_at hb3.toBelow b (by (try simp) <;> omega))
      | (go_at_call 41; with_reducible refine (hst2.out _).mono ?_; rintro e w4 ⟨rfl, hb4⟩; have hz4 := hb4.size; (try simp at hz4); obtain ⟨hc4, hf4⟩ := blk_at hb4.toBelow w.heap.size (by (try simp) <;> omega); obtain ⟨hd4, hg4⟩ := blk_at hb4.toBelow (w.heap.size + 1) (by (try simp) <;> omega); obtain ⟨he4, hh4⟩ := blk_at hb4.toBelow b (by (try simp) <;> omega); have hbl4 : ∀ o, (w4.alloc o).cell? ⟨b, 0, none⟩ = w4.cell? ⟨b, 0, none⟩ := fun o => World.cell?_alloc_lt _ _ _ (by show b < _; omega))
      | (go_at_call 39; go_must (refine (or_any _ _ 4 4 [Id.cmpI (rankS q now.1) (rankS p now.1), Id.cmpI p.since.1 q.since.1, cmpS p.run q.run, cmpS p.job q.job] _ rfl (by omega) (by intro i hi; rcases i with _ | _ | _ | _ | i <;> first | (simp; done) | (exfalso; omega))).mono ?_; rintro e w2 ⟨rfl, rfl⟩)))
  all_goals go_wp2_with fail
  all_goals go_ret
  all_goals exact ⟨rfl, (by repeat (first | (with_reducible exact Bel.refl _ _) | (with_reducible refine Bel.drew ?_) | (with_reducible refine Bel.drewN ?_ _) | ((with_reducible refine Bel.alloc ?_ ?_ _); rotate_left; focus ((try simp) <;> omega)) | ((with_reducible refine Bel.setCell ?_ ?_ _); rotate_left; focus ((try simp) <;> omega)) | ((with_reducible refine Bel.trans ?_ (Bel.mono (by assumption) ?_)); rotate_left; focus ((try simp) <;> omega))))⟩
end Go.Proofs.YtnhfbignnnicnaaDoor
