/-
  The walks of histories: times.
-/
import Derived.Test.YtddepmelnemniaaGreatDoorHisP
import Derived.Test.YtddepmelnemniaaGreatDoorPar2


namespace Go.Proofs.YtddepmelnemniaaGreatDoor
open Go.RowKit

set_option maxHeartbeats 400000 in
theorem limit_any (n lo hi : Int) (w : World) :
    Calls Tryz.prog 57 #[.int .i64 n, .int .i64 lo, .int .i64 hi] w fun e w' => e = .returned (.int .i64 (max lo (min n hi))) ∧ w = w' := by
  go_enter Tryz.func57, Tryz.ntmps57
  go_wp2
  all_goals
    go_ret
    refine ⟨ret_int ?_, rfl⟩
    omega
theorem time_any (n : Int) (w : World) : Calls Tryz.prog 33 #[.int .i64 n] w fun e w' => e = .returned (.bool (timeB n)) ∧ w = w' := by
  have hT : (n == max 0 (min n 1125899906842624)) = timeB n := by
    unfold timeB
    rw [Bool.eq_iff_iff, beq_iff_eq, Bool.and_eq_true, decide_eq_true_eq, decide_eq_true_eq]
    omega
  obtain ⟨T, hT2⟩ : ∃ T, timeB n = T := ⟨_, rfl⟩
  rw [hT2] at hT ⊢
  replace hT2 := Lib.hid hT2
  go_enter Tryz.func33, Tryz.ntmps33
  go_wp2_with (go_at_call 57; go_must (refine (limit_any _ _ _ _).mono ?_; rintro e w' ⟨rfl, rfl⟩))
  go_ret
  exact ⟨rfl, rfl⟩
end Go.Proofs.YtddepmelnemniaaGreatDoor
