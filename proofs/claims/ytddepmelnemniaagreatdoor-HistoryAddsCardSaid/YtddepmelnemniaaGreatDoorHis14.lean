/-
  The walks of histories: the word of a status, by the reference.
-/
import Derived.Test.YtddepmelnemniaaGreatDoorHis13


namespace Go.Proofs.YtddepmelnemniaaGreatDoor
open Go.RowKit

def wordB (n : Int) : ByteArray := if n = 1 then ⟨#[112, 97, 115, 115]⟩ else if n = 2 then ⟨#[102, 97, 105, 108]⟩ else if n = 3 then ⟨#[115, 107, 105, 112]⟩ else ⟨#[]⟩
theorem word_none {n : Int} : (wordB n).toList.isEmpty = true ↔ (n < 1 ∨ 3 < n) := by
  rw [Lib.toList_data]
  unfold wordB
  by_cases h1 : n = 1
  · rw [if_pos h1]; subst h1; decide
  · rw [if_neg h1]
    by_cases h2 : n = 2
    · rw [if_pos h2]; subst h2; decide
    · rw [if_neg h2]
      by_cases h3 : n = 3
      · rw [if_pos h3]; subst h3; decide
      · rw [if_neg h3]
        exact ⟨fun _ => by omega, fun _ => by decide⟩
set_option maxHeartbeats 2000000 in
theorem rword_any (n : Int) (w : World) : Calls Tryz.prog 62 #[.int .i64 n] w fun e w' => e = .returned (.string (wordB n)) ∧ w = w' := by
  obtain ⟨R, hR⟩ : ∃ R, wordB n = R := ⟨_, rfl⟩
  rw [hR]
  unfold wordB at hR
  by_cases h1 : n = 1
  · rw [if_pos h1] at hR
    subst hR
    subst h1
    go_enter Tryz.func62, Tryz.ntmps62
    go_wp2_with fail
    go_ret
    exact ⟨rfl, rfl⟩
  rw [if_neg h1] at hR
  have k1 : (n == 1) = false := by rw [beq_eq_false_iff_ne]; exact h1
  by_cases h2 : n = 2
  · rw [if_pos h2] at hR
    subst hR
    subst h2
    clear k1 h1
    go_enter Tryz.func62, Tryz.ntmps62
    go_wp2_with fail
    go_ret
    exact ⟨rfl, rfl⟩
  rw [if_neg h2] at hR
  have k2 : (n == 2) = false := by rw [beq_eq_false_iff_ne]; exact h2
  by_cases h3 : n = 3
  · rw [if_pos h3] at hR
    subst hR
    subst h3
    clear k1 h1 k2 h2
    go_enter Tryz.func62, Tryz.ntmps62
    go_wp2_with fail
    go_ret
    exact ⟨rfl, rfl⟩
  rw [if_neg h3] at hR
  have k3 : (n == 3) = false := by rw [beq_eq_false_iff_ne]; exact h3
  subst hR
  replace h1 := Lib.hid h1
  replace h2 := Lib.hid h2
  replace h3 := Lib.hid h3
  go_enter Tryz.func62, Tryz.ntmps62
  go_wp2_with fail
  go_ret
  exact ⟨rfl, rfl⟩
end Go.Proofs.YtddepmelnemniaaGreatDoor
