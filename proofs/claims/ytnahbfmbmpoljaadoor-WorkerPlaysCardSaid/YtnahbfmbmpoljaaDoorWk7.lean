/-
  Workers: what an event, a lease and its end do to a worker (plain).
-/
import Derived.Test.YtnahbfmbmpoljaaDoorWk8
namespace Go.Proofs.YtnahbfmbmpoljaaDoor
open Go.RowKit

def maxN (a b : I64) : I64 := if a.1 < b.1 then b else a
def tillN (now : I64) : I64 := ⟨if now.1 + 5000 < 1125899906842624 then now.1 + 5000 else 1125899906842624, by have := now.2; constructor <;> split <;> omega⟩
/-- The error of an event. -/
def stepE (x : Work) (ev now : Int) : Int := if wErr x ≠ 0 then 1 else if ev < 1 then 2 else if 4 < ev then 2 else if timeB now = false then 2 else if x.phase.1 = 3 then 16 else if ev = 3 ∧ x.pre = false then 16 else 0
/-- A worker after an event that is processed. -/
def stepF (x : Work) (ev : Int) (now : I64) : Work :=
  if ev = 1 then { x with beat := maxN x.beat now }
  else if ev = 2 then (if x.phase.1 = 0 then { x with phase := ⟨1, by omega⟩ } else x)
  else if ev = 3 then (if x.phase.1 = 2 then x else { x with phase := ⟨2, by omega⟩, till := tillN now })
  else { x with phase := ⟨3, by omega⟩, till := ⟨0, by omega⟩ }
def stepW (x : Work) (ev : Int) (now : I64) : Work := if stepE x ev now.1 ≠ 0 then x else stepF x ev now
theorem stepF_lists (x : Work) (ev : Int) (now : I64) : (stepF x ev now).labs = x.labs ∧ (stepF x ev now).toks = x.toks ∧ (stepF x ev now).labsA = x.labsA ∧ (stepF x ev now).labsC = x.labsC ∧ (stepF x ev now).toksA = x.toksA ∧ (stepF x ev now).toksC = x.toksC := by
  unfold stepF
  split
  · exact ⟨rfl, rfl, rfl, rfl, rfl, rfl⟩
  split
  · split <;> exact ⟨rfl, rfl, rfl, rfl, rfl, rfl⟩
  split
  · split <;> exact ⟨rfl, rfl, rfl, rfl, rfl, rfl⟩
  · exact ⟨rfl, rfl, rfl, rfl, rfl, rfl⟩
theorem stepW_lists (x : Work) (ev : Int) (now : I64) : (stepW x ev now).labs = x.labs ∧ (stepW x ev now).toks = x.toks ∧ (stepW x ev now).labsA = x.labsA ∧ (stepW x ev now).labsC = x.labsC ∧ (stepW x ev now).toksA = x.toksA ∧ (stepW x ev now).toksC = x.toksC := by
  unfold stepW
  split
  · exact ⟨rfl, rfl, rfl, rfl, rfl, rfl⟩
  · exact stepF_lists x ev now
theorem stepW_no {x : Work} {ev : Int} {now : I64} {e : Int} (h : stepE x ev now.1 = e) (he : e ≠ 0) : stepW x ev now = x := by
  unfold stepW; rw [if_pos (by rw [h]; exact he)]
theorem stepW_ok {x : Work} {ev : Int} {now : I64} (h : stepE x ev now.1 = 0) : stepW x ev now = stepF x ev now := by
  unfold stepW; rw [if_neg (by rw [h]; decide)]
theorem stepE_1 {x : Work} {ev now : Int} (h : wErr x ≠ 0) : stepE x ev now = 1 := by unfold stepE; rw [if_pos h]
theorem stepE_2 {x : Work} {ev now : Int} (h : wErr x = 0) (h2 : ev < 1 ∨ 4 < ev ∨ timeB now = false) : stepE x ev now = 2 := by
  unfold stepE
  rw [if_neg (by omega)]
  by_cases h3 : ev < 1
  · rw [if_pos h3]
  rw [if_neg h3]
  by_cases h4 : 4 < ev
  · rw [if_pos h4]
  rw [if_neg h4, if_pos]
  rcases h2 with h | h | h
  · exact absurd h h3
  · exact absurd h h4
  · exact h
theorem stepE_3 {x : Work} {ev now : Int} (h : wErr x = 0) (h2 : ¬ ev < 1) (h3 : ¬ 4 < ev) (h4 : timeB now = true) : stepE x ev now = if x.phase.1 = 3 then 16 else if ev = 3 ∧ x.pre = false then 16 else 0 := by
  unfold stepE
  rw [if_neg (by omega), if_neg h2, if_neg h3, if_neg (by rw [h4]; decide)]
theorem stepF_at (x : Work) (A : Option Addr) (C : Nat) (A2 : Option Addr) (C2 : Nat) (ev : Int) (now : I64) : stepF (atW x A C A2 C2) ev now = atW (stepF x ev now) A C A2 C2 := by
  have hp : (atW x A C A2 C2).phase = x.phase := rfl
  unfold stepF
  rw [hp]
  by_cases h1 : ev = 1
  · simp only [if_pos h1]; rfl
  by_cases h2 : ev = 2
  · by_cases h : x.phase.1 = 0
    · simp only [if_neg h1, if_pos h2, if_pos h]; rfl
    · simp only [if_neg h1, if_pos h2, if_neg h]
  by_cases h3 : ev = 3
  · by_cases h : x.phase.1 = 2
    · simp only [if_neg h1, if_neg h2, if_pos h3, if_pos h]
    · simp only [if_neg h1, if_neg h2, if_pos h3, if_neg h]; rfl
  · simp only [if_neg h1, if_neg h2, if_neg h3]; rfl
theorem core_stepF {x y : Work} (h : core x = core y) (ev : Int) (now : I64) : core (stepF x ev now) = core (stepF y ev now) := by
  rw [atW_of h, stepF_at, core_atW]
theorem wErr_core {x y : Work} (h : core x = core y) : wErr x = wErr y := by
  cases x; cases y
  simp only [core, atW, Work.mk.injEq] at h
  obtain ⟨rfl, _, _, rfl, rfl, rfl, rfl, rfl, rfl, rfl, _, _, rfl⟩ := h
  rfl

/-- Whether a worker holds a token; the place of a token among ascending ones. -/
def hasT (l : List I64) (t : Int) : Bool := l.any fun y => y.1 == t
def plT (l : List I64) (t : Int) : Nat := (l.takeWhile fun y => decide (y.1 < t)).length
def attE (x : Work) (t : Int) : Int := if wErr x ≠ 0 then 1 else if t < 1 then 2 else if 1125899906842624 < t then 2 else if hasT x.toks t = true then 7 else if x.phase.1 ≠ 0 then 16 else if x.slots.1 ≤ (x.toks.length : Int) then 21 else 0
def attL (l : List I64) (t : I64) : List I64 := l.take (plT l t.1) ++ t :: l.drop (plT l t.1)
def attW (x : Work) (t : I64) : Work := if attE x t.1 ≠ 0 then x else { x with toks := attL x.toks t }
def detL (l : List I64) (t : I64) : List I64 := l.filter fun y => decide (y.1 ≠ t.1)
def detW (x : Work) (t : I64) : Work := { x with toks := detL x.toks t }
end Go.Proofs.YtnahbfmbmpoljaaDoor
