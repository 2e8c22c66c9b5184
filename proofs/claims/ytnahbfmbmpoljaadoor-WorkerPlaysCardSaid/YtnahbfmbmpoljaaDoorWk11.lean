/-
  The walks of workers: an event, by the program.
-/
import Derived.Test.YtnahbfmbmpoljaaDoorWk5
import Derived.Test.YtnahbfmbmpoljaaDoorWk10



namespace Go.Proofs.YtnahbfmbmpoljaaDoor
open Go.RowKit

theorem possB_eq {x : Work} {ev now : Int} (h0 : wErr x = 0) (h1 : ¬ ev < 1) (h4 : ¬ 4 < ev) (ht : timeB now = true) : stepE x ev now = if possB x ev = true then 0 else 16 := by
  rw [stepE_3 h0 h1 h4 ht]
  unfold possB
  by_cases hp : x.phase.1 = 3
  · rw [if_pos hp, decide_eq_false (fun h => h hp), Bool.false_and, if_neg (by decide)]
  · rw [if_neg hp, decide_eq_true hp, Bool.true_and]
    by_cases h3 : ev = 3
    · rw [decide_eq_false (fun h => h h3), Bool.false_or]
      rcases x.pre with _ | _
      · rw [if_pos ⟨h3, rfl⟩, if_neg (by decide)]
      · rw [if_neg (fun h => absurd h.2 (by decide)), if_pos rfl]
    · rw [if_neg (fun h => h3 h.1), decide_eq_true h3, Bool.true_or, if_pos rfl]
theorem notF_at (x : Work) (A : Option Addr) (C : Nat) (A2 : Option Addr) (C2 : Nat) (now : I64) : notF (atW x A C A2 C2) now = atW (notF x now) A C A2 C2 := by
  have hp : (atW x A C A2 C2).phase = x.phase := rfl
  unfold notF
  rw [hp]
  by_cases h : x.phase.1 = 0 ∨ x.phase.1 = 1
  · simp only [if_pos h]; rfl
  · simp only [if_neg h]
theorem notF_step {x : Work} {now : I64} (hr : rangeB x = true) (hp : x.phase.1 ≠ 3) : notF x now = stepF x 3 now := by
  have e : stepF x 3 now = if x.phase.1 = 2 then x else { x with phase := ⟨2, by omega⟩, till := tillN now } := by
    unfold stepF
    rw [if_neg (by decide), if_neg (by decide), if_pos rfl]
  have := range_ok hr
  rw [e]
  unfold notF
  by_cases h2 : x.phase.1 = 2
  · rw [if_pos h2, if_neg (by omega)]
  · rw [if_neg h2, if_pos (by omega)]
theorem OwnW.of {w : World} {B : Nat} {x y : Work} (h : OwnW w B x) (h1 : y.labs = x.labs) (h2 : y.toks = x.toks) (h3 : y.labsA = x.labsA) (h4 : y.labsC = x.labsC) (h5 : y.toksA = x.toksA) (h6 : y.toksC = x.toksC) : OwnW w B y := by
  unfold OwnW
  rw [h1, h2, h3, h4, h5, h6]
  exact h
/-- The memory of a copied worker is as it was. -/
theorem OwnW.keep {w w' : World} {B : Nat} {x : Work} (h : OwnW w B x) (hs : ∀ g, B ≤ g → g < w.heap.size → w'.heap[g]? = w.heap[g]?) : OwnW w' B x := by
  have k : ∀ {α : Type} {enc : α → List Value} {k : Nat} {e : TypeId} {v : Value} {l : List α}, Own enc k e w B v l → Own enc k e w' B v l := fun {α enc k e v l} ho => by
    refine ⟨ho.1, ?_⟩
    rcases ho.2 with hn | ⟨g, cap, cur, rfl, hb1, hg, r⟩
    · exact .inl hn
    · refine .inr ⟨g, cap, cur, rfl, hb1, (hs g hb1 ?_).trans hg, r⟩
      rcases Nat.lt_or_ge g w.heap.size with h2 | h2
      · exact h2
      · rw [Array.getElem?_eq_none h2] at hg; cases hg
  exact ⟨k h.1, k h.2⟩
theorem notc_any (x : Work) (now : I64) (A : Option Addr) (C : Nat) (A2 : Option Addr) (C2 : Nat) (w : World) (h0 : 0 ≤ now.1) (h1 : now.1 ≤ 1125899906842624) :
    Calls Tryd.prog 44 #[(.agg #[.string x.id.1, .slice A x.labs.length C, .int .i64 x.trust.1, .int .i64 x.slots.1, .bool x.pre, .int .i64 x.phase.1, .int .i64 x.beat.1, .int .i64 x.till.1, .slice A2 x.toks.length C2]), .int .i64 now.1] w fun e w' => e = .returned (.agg #[.string x.id.1, .slice A x.labs.length C, .int .i64 x.trust.1, .int .i64 x.slots.1, .bool x.pre, .int .i64 (notF x now).phase.1, .int .i64 x.beat.1, .int .i64 (notF x now).till.1, .slice A2 x.toks.length C2]) ∧ Below w.heap.size w w' :=
  (noticed_any (atW x A C A2 C2) now w h0 h1).mono fun e w' h => ⟨by
    rw [h.1, notF_at]
    unfold notF
    split <;> rfl, h.2⟩
theorem notF_eq (x : Work) (now : I64) : { x with phase := (notF x now).phase, till := (notF x now).till } = notF x now := by
  unfold notF
  split <;> rfl
end Go.Proofs.YtnahbfmbmpoljaaDoor
