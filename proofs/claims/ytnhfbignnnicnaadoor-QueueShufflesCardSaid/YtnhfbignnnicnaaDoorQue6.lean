/-
  The walks of the queue: a job in new memory, a queue in new memory; the laws' own job.
-/
import Derived.Test.YtnhfbignnnicnaaDoorQue5



namespace Go.Proofs.YtnhfbignnnicnaaDoor
open Go.RowKit

theorem Own.base {α : Type} {enc : α → List Value} {k : Nat} {e : TypeId} {w : World} {b b' : Nat} {v : Value} {l : List α} (h : Own enc k e w b v l) (hb : b' ≤ b) : Own enc k e w b' v l := by
  refine ⟨h.1, ?_⟩
  rcases h.2 with hn | ⟨g, cap, cur, rfl, hb1, r⟩
  · exact .inl hn
  · exact .inr ⟨g, cap, cur, rfl, by omega, r⟩

def atLabs (p : Pend) (A : Option Addr) (C : Nat) : Pend := { p with labsA := A, labsC := C }
theorem core_atLabs (p : Pend) (A : Option Addr) (C : Nat) : core (atLabs p A C) = core p := rfl

set_option maxHeartbeats 1000000 in
theorem clones_any (A : Option Addr) (c : Nat) (l : List Str) (w : World) (hr : Rw sE 1 w w.heap.size A l) (hn : l.length * 16 ≤ 140737488355328) :
    Calls Tryd.prog 48 #[.slice A l.length c] w fun e w' => ∃ A' C', e = .returned (.slice A' l.length C') ∧ Own sE 1 9 w' w.heap.size (.slice A' l.length C') l ∧ Below w.heap.size w w' := by
  rcases A with _ | a
  · have hl : l = [] := by
      rcases Nat.eq_zero_or_pos l.length with h0 | h0
      · exact List.eq_nil_of_length_eq_zero h0
      · obtain ⟨g, o, e, _⟩ := hr h0
        cases e
    subst hl
    refine (cloneS_any_nil _ _ w).mono ?_
    rintro e w1 ⟨rfl, rfl⟩
    exact ⟨none, 0, rfl, Own.nil _ _ _, Below.refl _ _⟩
  · refine (cloneS_any_some a c l w hr hn).mono ?_
    rintro e w1 ⟨v, rfl, hown, _, hb1⟩
    obtain ⟨A1, c1, rfl, _, _, _⟩ := hown.form
    exact ⟨A1, c1, rfl, hown, hb1⟩

set_option maxRecDepth 100000 in
set_option maxHeartbeats 2000000 in
theorem copied_any (p : Pend) (w : World) (hp : LabPend w w.heap.size p) (hn : p.labs.length * 16 ≤ 140737488355328) :
    Calls Tryd.prog 32 #[.agg #[.string p.run.1, .string p.job.1, .string p.proj.1, .int .i64 p.prio.1, .int .i64 p.since.1, .int .i64 p.cost.1, .slice p.labsA p.labs.length p.labsC, .int .i64 p.trust.1, .string p.group.1, .int .i64 p.policy.1]] w fun e w' => ∃ A' C', e = .returned (.agg (pendE (atLabs p A' C')).toArray) ∧ Own sE 1 9 w' w.heap.size (.slice A' p.labs.length C') p.labs ∧ Below w.heap.size w w' := by
  have hh := fun W (hb : Below w.heap.size w W) => clones_any p.labsA p.labsC p.labs W ((hp.2.2.below hb (Nat.le_refl _)).more hb.size) hn
  replace hh := Lib.hid hh
  go_enter Tryd.func32, Tryd.ntmps32
  go_wp2_with (go_at_call 48; go_must (refine (hh.out _ (by repeat (first | (with_reducible exact Below.refl _ _) | (with_reducible refine Below.drew ?_) | (with_reducible refine below_drewN ?_ _) | ((with_reducible refine Below.alloc ?_ ?_ _); rotate_left; focus ((try simp) <;> omega)) | ((with_reducible refine Below.setCell ?_ ?_ _); rotate_left; focus ((try simp) <;> omega)) | ((with_reducible refine Below.trans ?_ (Below.mono (by assumption) ?_)); rotate_left; focus ((try simp) <;> omega))))).mono ?_; rintro e w1 ⟨A1, C1, rfl, hown, hb1⟩; have hz1 := hb1.size; (try simp at hz1); obtain ⟨hc1, hf1⟩ := blk_at hb1 w.heap.size (by simp <;> omega); obtain ⟨hc2, hf2⟩ := blk_at hb1 (w.heap.size + 1) (by simp); have hlt := hown.lt; simp only [World.size_alloc] at hlt; replace hb1 := hb1.mono (B' := w.heap.size) (by simp <;> omega)))
  refine bodyPost_ret (v := .agg (pendE (atLabs p A1 C1)).toArray) (by simp [results, Tryd.results32, go_sem, pendE, atLabs, hc2]) rfl ⟨A1, C1, rfl, ?_, (by repeat (first | (with_reducible exact Below.refl _ _) | (with_reducible refine Below.drew ?_) | (with_reducible refine below_drewN ?_ _) | ((with_reducible refine Below.alloc ?_ ?_ _); rotate_left; focus ((try simp) <;> omega)) | ((with_reducible refine Below.setCell ?_ ?_ _); rotate_left; focus ((try simp) <;> omega)) | ((with_reducible refine Below.trans ?_ (Below.mono (by assumption) ?_)); rotate_left; focus ((try simp) <;> omega))))⟩
  replace hown : Own sE 1 9 w1 w.heap.size (.slice A1 p.labs.length C1) p.labs := hown.base (by simp <;> omega)
  repeat (refine Own.setCell ?_ (fun g hg => by have := (hlt g hg).1; show g ≠ _; (try simp) <;> omega) _)
  exact hown
end Go.Proofs.YtnhfbignnnicnaaDoor
