/-
  A map whose keys are references to jobs: what the library's laws on maps want of them.
-/
import Derived.Test.YtbellobjajnlkaaDoorCon5
import Derived.Test.YtbellobjajnlkaaDoorMapB
import Derived.DeepKeys4
import Derived.MapViews
namespace Go.Proofs.YtbellobjajnlkaaDoor
open Go.RowKit Go.Maps

theorem laidOutR : laidOutB Tryd.prog = true := by kernel_rfl
theorem lawR : WideMaps.KeyLaw Tryd.prog 29 := deep_law_laid laidOutR (m := 3) (by omega) (of_decide_eq_true (by kernel_rfl)) (by kernel_rfl) (by kernel_rfl)
theorem keyedR : Keyed Tryd.prog 29 := Keyed.of_law lawR
def keyR (r : JRef) : Lit := .string (keyBytes [.string r.run.1.data.toList, .string r.job.1.data.toList])
theorem key_ref (r : JRef) (h : shortR r) : keyOf Tryd.prog 29 (.agg #[.string r.run.1, .string r.job.1]) = some (keyR r) := by
  obtain ⟨h1, h2⟩ := h
  have e0 : Tryd.prog.keyType 29 = true := by kernel_rfl
  have e1 : (Value.agg #[.string r.run.1, .string r.job.1]).formed Tryd.prog 29 = true := by
    simp [Value.formed, Tryd.underlying29, show Tryd.prog.cellsOf 29 = 2 by kernel_rfl]
  have hs1 : r.run.1.size ≤ maxLen := by unfold maxLen; omega
  have hs2 : r.job.1.size ≤ maxLen := by unfold maxLen; omega
  have e2 : Tryd.prog.keyLits (Tryd.prog.types.size + 1) 29 [.string r.run.1, .string r.job.1] = some [.string r.run.1.data.toList, .string r.job.1.data.toList] := by
    obtain ⟨n, hn⟩ : ∃ n, Tryd.prog.types.size = n + 1 := ⟨Tryd.prog.types.size - 1, by have : 0 < Tryd.prog.types.size := of_decide_eq_true (by kernel_rfl); omega⟩
    rw [hn]
    simp [Program.keyLits, Tryd.underlying29, Tryd.underlying9, show Tryd.prog.cellsOf 29 = 2 by kernel_rfl, show Tryd.prog.cellsOf 9 = 1 by kernel_rfl, hs1, hs2]
  unfold keyOf
  rw [Tryd.underlying29]
  simp only [e0, e1, Bool.and_self, if_true]
  show (Tryd.prog.keyLits _ _ [.string r.run.1, .string r.job.1]).map _ = _
  rw [e2]
  rfl
theorem key_inj {r s : JRef} (hr : shortR r) (hs : shortR s) (h : keyR r = keyR s) : r = s := by
  have := keyedR.inj (key_ref r hr) (by rw [h]; exact key_ref s hs)
  simp only [Value.agg.injEq] at this
  simp at this
  cases r; cases s
  simp only [JRef.mk.injEq]
  exact ⟨Subtype.ext this.1, Subtype.ext this.2⟩
/-- The keys of the first jobs of a list. -/
def SeenR (l : List JRef) (k : Nat) (x : Lit) : Prop := ∃ r ∈ l.take k, x = keyR r
theorem seenR_iff {l : List JRef} {k : Nat} {r : JRef} (hl : ∀ s ∈ l, shortR s) (hr : shortR r) : SeenR l k (keyR r) ↔ r ∈ l.take k := by
  constructor
  · rintro ⟨s, hs, e⟩
    rwa [key_inj hr (hl s (List.mem_of_mem_take hs)) e]
  · exact fun h => ⟨r, h, rfl⟩
theorem seenR_succ {l : List JRef} {k : Nat} {r : JRef} (hr : l[k]? = some r) (x : Lit) : SeenR l (k + 1) x ↔ x = keyR r ∨ SeenR l k x := by
  unfold SeenR
  rw [List.take_add_one, hr]
  constructor
  · rintro ⟨s, hs, e⟩
    rcases List.mem_append.1 hs with h | h
    · exact Or.inr ⟨s, h, e⟩
    · left
      obtain rfl : s = r := by simpa using h
      exact e
  · rintro (e | ⟨s, hs, e⟩)
    · exact ⟨r, by simp, e⟩
    · exact ⟨s, by simp [hs], e⟩
theorem seenR_zero (l : List JRef) (x : Lit) : ¬ SeenR l 0 x := fun ⟨_, h, _⟩ => by simp at h
end Go.Proofs.YtbellobjajnlkaaDoor
