/-
  The walks of workers: whether one is lost, by the program and the reference.
-/
import Derived.Test.YtnahbfmbmpoljaaDoorWk2



namespace Go.Proofs.YtnahbfmbmpoljaaDoor
open Go.RowKit

/-- A worker was silent for 30 seconds; it is lost. -/
def lateB (x : Work) (now : Int) : Bool := decide (x.beat.1 ≤ now) && decide (30000 ≤ now - x.beat.1)
def lostB (x : Work) (now : Int) : Bool := lateB x now || decide (x.phase.1 = 3) || (decide (x.phase.1 = 2) && decide (x.till.1 ≤ now))
theorem sub_u64 {a b : Int} (ha : -9223372036854775808 ≤ a ∧ a ≤ 9223372036854775807) (hb : -9223372036854775808 ≤ b ∧ b ≤ 9223372036854775807) (h : b ≤ a) : IntKind.u64.wrap (IntKind.u64.wrap a - IntKind.u64.wrap b) = a - b := by
  have hw : ∀ n : Int, IntKind.u64.wrap n = n % 18446744073709551616 := fun n => by simp [IntKind.wrap, IntKind.bits, IntKind.signed]
  rw [hw, hw, hw, ← Int.sub_emod]
  omega
set_option maxRecDepth 100000 in
set_option maxHeartbeats 4000000 in
theorem lost_any (x : Work) (now : I64) (w : World) : Calls Tryd.prog 19 #[(.agg #[.string x.id.1, .slice x.labsA x.labs.length x.labsC, .int .i64 x.trust.1, .int .i64 x.slots.1, .bool x.pre, .int .i64 x.phase.1, .int .i64 x.beat.1, .int .i64 x.till.1, .slice x.toksA x.toks.length x.toksC]), .int .i64 now.1] w fun e w' => e = .returned (.bool (lostB x now.1)) ∧ Below w.heap.size w w' := by
  have hd : lostB x now.1 = (lateB x now.1 || decide (x.phase.1 = 3) || (decide (x.phase.1 = 2) && decide (x.till.1 ≤ now.1))) := rfl
  by_cases hb : x.beat.1 ≤ now.1
  · have hb2 : now.1 ≥ x.beat.1 := hb
    have hs := sub_u64 now.2 x.beat.2 hb
    have hla : lateB x now.1 = decide (30000 ≤ now.1 - x.beat.1) := by unfold lateB; rw [decide_eq_true hb]; rfl
    rw [hla] at hd
    clear hla
    obtain ⟨d, hdd⟩ : ∃ d, now.1 - x.beat.1 = d := ⟨_, rfl⟩
    rw [hdd] at hd hs
    replace hdd := Lib.hid hdd
    by_cases h30 : 30000 ≤ d
    · have hfin := Lib.hid (show lostB x now.1 = true by rw [hd, decide_eq_true h30]; rfl)
      have h31 : d ≥ 30000 := h30
      clear hd
      go_enter Tryd.func19, Tryd.ntmps19
      go_wp2_with fail
      go_ret
      exact ⟨ret_bool hfin.out.symm, (by repeat (first | (with_reducible exact Below.refl _ _) | (with_reducible refine Below.drew ?_) | (with_reducible refine below_drewN ?_ _) | ((with_reducible refine Below.alloc ?_ ?_ _); rotate_left; focus ((try simp) <;> omega)) | ((with_reducible refine Below.setCell ?_ ?_ _); rotate_left; focus ((try simp) <;> omega)) | ((with_reducible refine Below.trans ?_ (Below.mono (by assumption) ?_)); rotate_left; focus ((try simp) <;> omega))))⟩
    · rw [decide_eq_false h30] at hd
      have h31 : ¬ d ≥ 30000 := h30
      by_cases h3 : x.phase.1 = 3
      · have hfin := Lib.hid (show lostB x now.1 = true by rw [hd, decide_eq_true h3]; rfl)
        clear hd
        go_enter Tryd.func19, Tryd.ntmps19
        go_wp2_with fail
        go_ret
        exact ⟨ret_bool hfin.out.symm, (by repeat (first | (with_reducible exact Below.refl _ _) | (with_reducible refine Below.drew ?_) | (with_reducible refine below_drewN ?_ _) | ((with_reducible refine Below.alloc ?_ ?_ _); rotate_left; focus ((try simp) <;> omega)) | ((with_reducible refine Below.setCell ?_ ?_ _); rotate_left; focus ((try simp) <;> omega)) | ((with_reducible refine Below.trans ?_ (Below.mono (by assumption) ?_)); rotate_left; focus ((try simp) <;> omega))))⟩
      by_cases h2 : x.phase.1 = 2
      · have hfin := Lib.hid (show lostB x now.1 = decide (x.till.1 ≤ now.1) by rw [hd, decide_eq_false h3, decide_eq_true h2]; rfl)
        clear hd
        replace h3 := Lib.hid h3
        go_enter Tryd.func19, Tryd.ntmps19
        go_wp2_with fail
        go_ret
        exact ⟨ret_bool hfin.out.symm, (by repeat (first | (with_reducible exact Below.refl _ _) | (with_reducible refine Below.drew ?_) | (with_reducible refine below_drewN ?_ _) | ((with_reducible refine Below.alloc ?_ ?_ _); rotate_left; focus ((try simp) <;> omega)) | ((with_reducible refine Below.setCell ?_ ?_ _); rotate_left; focus ((try simp) <;> omega)) | ((with_reducible refine Below.trans ?_ (Below.mono (by assumption) ?_)); rotate_left; focus ((try simp) <;> omega))))⟩
      · have hfin := Lib.hid (show lostB x now.1 = (x.phase.1 == 3) by rw [hd, decide_eq_false h3, decide_eq_false h2]; symm; simpa using h3)
        clear hd
        go_enter Tryd.func19, Tryd.ntmps19
        go_wp2_with fail
        go_ret
        exact ⟨ret_bool hfin.out.symm, (by repeat (first | (with_reducible exact Below.refl _ _) | (with_reducible refine Below.drew ?_) | (with_reducible refine below_drewN ?_ _) | ((with_reducible refine Below.alloc ?_ ?_ _); rotate_left; focus ((try simp) <;> omega)) | ((with_reducible refine Below.setCell ?_ ?_ _); rotate_left; focus ((try simp) <;> omega)) | ((with_reducible refine Below.trans ?_ (Below.mono (by assumption) ?_)); rotate_left; focus ((try simp) <;> omega))))⟩
  · have hb2 : ¬ now.1 ≥ x.beat.1 := hb
    have hla : lateB x now.1 = false := by unfold lateB; rw [decide_eq_false hb]; rfl
    rw [hla] at hd
    clear hla
    by_cases h3 : x.phase.1 = 3
    · have hfin := Lib.hid (show lostB x now.1 = true by rw [hd, decide_eq_true h3]; rfl)
      clear hd
      go_enter Tryd.func19, Tryd.ntmps19
      go_wp2_with fail
      go_ret
      exact ⟨ret_bool hfin.out.symm, (by repeat (first | (with_reducible exact Below.refl _ _) | (with_reducible refine Below.drew ?_) | (with_reducible refine below_drewN ?_ _) | ((with_reducible refine Below.alloc ?_ ?_ _); rotate_left; focus ((try simp) <;> omega)) | ((with_reducible refine Below.setCell ?_ ?_ _); rotate_left; focus ((try simp) <;> omega)) | ((with_reducible refine Below.trans ?_ (Below.mono (by assumption) ?_)); rotate_left; focus ((try simp) <;> omega))))⟩
    by_cases h2 : x.phase.1 = 2
    · have hfin := Lib.hid (show lostB x now.1 = decide (x.till.1 ≤ now.1) by rw [hd, decide_eq_false h3, decide_eq_true h2]; rfl)
      clear hd
      replace h3 := Lib.hid h3
      go_enter Tryd.func19, Tryd.ntmps19
      go_wp2_with fail
      go_ret
      exact ⟨ret_bool hfin.out.symm, (by repeat (first | (with_reducible exact Below.refl _ _) | (with_reducible refine Below.drew ?_) | (with_reducible refine below_drewN ?_ _) | ((with_reducible refine Below.alloc ?_ ?_ _); rotate_left; focus ((try simp) <;> omega)) | ((with_reducible refine Below.setCell ?_ ?_ _); rotate_left; focus ((try simp) <;> omega)) | ((with_reducible refine Below.trans ?_ (Below.mono (by assumption) ?_)); rotate_left; focus ((try simp) <;> omega))))⟩
    · have hfin := Lib.hid (show lostB x now.1 = (x.phase.1 == 3) by rw [hd, decide_eq_false h3, decide_eq_false h2]; symm; simpa using h3)
      clear hd
      go_enter Tryd.func19, Tryd.ntmps19
      go_wp2_with fail
      go_ret
      exact ⟨ret_bool hfin.out.symm, (by repeat (first | (with_reducible exact Below.refl _ _) | (with_reducible refine Below.drew ?_) | (with_reducible refine below_drewN ?_ _) | ((with_reducible refine Below.alloc ?_ ?_ _); rotate_left; focus ((try simp) <;> omega)) | ((with_reducible refine Below.setCell ?_ ?_ _); rotate_left; focus ((try simp) <;> omega)) | ((with_reducible refine Below.trans ?_ (Below.mono (by assumption) ?_)); rotate_left; focus ((try simp) <;> omega))))⟩
end Go.Proofs.YtnahbfmbmpoljaaDoor
