/-
  The walks of histories: the word of a status, by the reference.
-/
import Derived.Test.YtddepmelnemniaaDoorHis13


namespace Go.Proofs.YtddepmelnemniaaDoor
open Go.RowKit

def wordB (n : Int) : ByteArray := if n = 1 then ⟨#[112, 97, 115, 115]⟩ else if n = 2 then ⟨#[102, 97, 105, 108]⟩ else if n = 3 then ⟨#[115, 107, 105, 112]⟩ else ⟨#[]⟩
theorem word_none {n : Int} : (wordB n).toList.isEmpty = true ↔ (n < 1 ∨ 3 < n) := by
  rw [Lib.toList_data]
  unfold wordB
  by_cases h1 : n = 1
  · rw [if_pos h1]; subst h1; decide
  · rw [if_neg h1]
    by_cases h2 : n = 2
    · rw [if_pos h2]; subst h2; decide
    · rw [if_neg h2]
      by_cases h3 : n = 3
      · rw [if_pos h3]; subst h3; decide
      · rw [if_neg h3]
        exact ⟨fun _ => by omega, fun _ => by decide⟩
end Go.Proofs.YtddepmelnemniaaDoor
