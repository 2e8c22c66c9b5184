/-
  The walks of histories: whether a name is a path, by the reference.
-/
import Derived.Test.YtddepmelnemniaaGreatDoorHis7


namespace Go.Proofs.YtddepmelnemniaaGreatDoor
open Go.RowKit

theorem pathB_eq (s : Str) : (pathE s == 0) = pathB s := by
  unfold pathB
  rw [Bool.eq_iff_iff, beq_iff_eq, decide_eq_true_eq]
theorem rispath_any (s : Str) (w : World) (hs : s.1.size < 4294967281) : Calls Tryz.prog 54 #[.string s.1] w fun e w' => e = .returned (.bool (pathB s)) ∧ Below w.heap.size w w' := by
  have hc := Lib.hid fun W => rparts_any s W hs
  have hb := pathB_eq s
  generalize pathB s = B at *
  generalize pathE s = E at *
  go_enter Tryz.func54, Tryz.ntmps54
  go_wp2_with (go_at_call 82; go_must (refine (hc.out _).mono ?_; rintro e w1 ⟨A1, c1, rfl, _, _, hb1⟩; have hz1 := hb1.size))
  go_ret
  exact ⟨rfl, (by repeat (first | (with_reducible exact Below.refl _ _) | (with_reducible refine Below.drew ?_) | (with_reducible refine below_drewN ?_ _) | ((with_reducible refine Below.alloc ?_ ?_ _); rotate_left; focus ((try simp) <;> omega)) | ((with_reducible refine Below.setCell ?_ ?_ _); rotate_left; focus ((try simp) <;> omega)) | ((with_reducible refine Below.trans ?_ (Below.mono (by assumption) ?_)); rotate_left; focus ((try simp) <;> omega))))⟩
end Go.Proofs.YtddepmelnemniaaGreatDoor
