/-
  The walks of histories: the reference's sample.
-/
import Derived.Test.YtddepmelnemniaaGreatDoorHis6


namespace Go.Proofs.YtddepmelnemniaaGreatDoor
open Go.RowKit

theorem smpErr_def (s : Samp) (last : Int) : smpErr s last = if s.status.1 < 1 ∨ 3 < s.status.1 then 1 else if s.time.1 < 0 ∨ 1125899906842624 < s.time.1 ∨ s.stamp.1 < 0 ∨ 1125899906842624 < s.stamp.1 then 2 else if s.stamp.1 < last then 22 else 0 := by
  have h : (timeB s.time.1 = false ∨ timeB s.stamp.1 = false) ↔ (s.time.1 < 0 ∨ 1125899906842624 < s.time.1 ∨ s.stamp.1 < 0 ∨ 1125899906842624 < s.stamp.1) := by
    unfold timeB
    simp only [Bool.and_eq_false_iff, decide_eq_false_iff_not]
    omega
  unfold smpErr
  simp only [h]
set_option maxRecDepth 100000 in
set_option maxHeartbeats 2000000 in
theorem rsample_any (s : Samp) (last : Int) (w : World) : Calls Tryz.prog 56 #[.agg #[.int .u64 s.code.1, .int .i64 s.status.1, .int .i64 s.time.1, .int .i64 s.stamp.1], .int .i64 last] w fun e w' => e = .returned (.int .i64 (smpErr s last)) ∧ Below w.heap.size w w' := by
  have hd := Lib.hid (smpErr_def s last)
  obtain ⟨R, hR⟩ : ∃ R, smpErr s last = R := ⟨_, rfl⟩
  rw [hR] at hd ⊢
  replace hR := Lib.hid hR
  by_cases h1 : s.status.1 < 1 ∨ 3 < s.status.1
  · have hf : Hid (R = 1) := Lib.hid (by rw [hd.out, if_pos h1])
    go_enter Tryz.func56, Tryz.ntmps56
    go_wp2_with fail
    all_goals (try (exfalso; omega))
    all_goals go_ret
    all_goals exact ⟨by rw [hf.out]; rfl, (by repeat (first | (with_reducible exact Below.refl _ _) | (with_reducible refine Below.drew ?_) | (with_reducible refine below_drewN ?_ _) | ((with_reducible refine Below.alloc ?_ ?_ _); rotate_left; focus ((try simp) <;> omega)) | ((with_reducible refine Below.setCell ?_ ?_ _); rotate_left; focus ((try simp) <;> omega)) | ((with_reducible refine Below.trans ?_ (Below.mono (by assumption) ?_)); rotate_left; focus ((try simp) <;> omega))))⟩
  have h11 : ¬ s.status.1 < 1 := by omega
  have h12 : ¬ 3 < s.status.1 := by omega
  by_cases h2 : s.time.1 < 0 ∨ 1125899906842624 < s.time.1 ∨ s.stamp.1 < 0 ∨ 1125899906842624 < s.stamp.1
  · have hf : Hid (R = 2) := Lib.hid (by rw [hd.out, if_neg h1, if_pos h2])
    replace h1 := Lib.hid h1
    go_enter Tryz.func56, Tryz.ntmps56
    go_wp2_with fail
    all_goals (try (exfalso; omega))
    all_goals go_ret
    all_goals exact ⟨by rw [hf.out]; rfl, (by repeat (first | (with_reducible exact Below.refl _ _) | (with_reducible refine Below.drew ?_) | (with_reducible refine below_drewN ?_ _) | ((with_reducible refine Below.alloc ?_ ?_ _); rotate_left; focus ((try simp) <;> omega)) | ((with_reducible refine Below.setCell ?_ ?_ _); rotate_left; focus ((try simp) <;> omega)) | ((with_reducible refine Below.trans ?_ (Below.mono (by assumption) ?_)); rotate_left; focus ((try simp) <;> omega))))⟩
  have h21 : ¬ s.time.1 < 0 := by omega
  have h22 : ¬ 1125899906842624 < s.time.1 := by omega
  have h23 : ¬ s.stamp.1 < 0 := by omega
  have h24 : ¬ 1125899906842624 < s.stamp.1 := by omega
  by_cases h3 : s.stamp.1 < last
  · have hf : Hid (R = 22) := Lib.hid (by rw [hd.out, if_neg h1, if_neg h2, if_pos h3])
    replace h1 := Lib.hid h1
    replace h2 := Lib.hid h2
    go_enter Tryz.func56, Tryz.ntmps56
    go_wp2_with fail
    go_ret
    exact ⟨by rw [hf.out]; rfl, (by repeat (first | (with_reducible exact Below.refl _ _) | (with_reducible refine Below.drew ?_) | (with_reducible refine below_drewN ?_ _) | ((with_reducible refine Below.alloc ?_ ?_ _); rotate_left; focus ((try simp) <;> omega)) | ((with_reducible refine Below.setCell ?_ ?_ _); rotate_left; focus ((try simp) <;> omega)) | ((with_reducible refine Below.trans ?_ (Below.mono (by assumption) ?_)); rotate_left; focus ((try simp) <;> omega))))⟩
  · have hf : Hid (R = 0) := Lib.hid (by rw [hd.out, if_neg h1, if_neg h2, if_neg h3])
    replace h1 := Lib.hid h1
    replace h2 := Lib.hid h2
    go_enter Tryz.func56, Tryz.ntmps56
    go_wp2_with fail
    go_ret
    exact ⟨by rw [hf.out]; rfl, (by repeat (first | (with_reducible exact Below.refl _ _) | (with_reducible refine Below.drew ?_) | (with_reducible refine below_drewN ?_ _) | ((with_reducible refine Below.alloc ?_ ?_ _); rotate_left; focus ((try simp) <;> omega)) | ((with_reducible refine Below.setCell ?_ ?_ _); rotate_left; focus ((try simp) <;> omega)) | ((with_reducible refine Below.trans ?_ (Below.mono (by assumption) ?_)); rotate_left; focus ((try simp) <;> omega))))⟩
end Go.Proofs.YtddepmelnemniaaGreatDoor
