/-
  The walks of provenance: what is reached, by the reference.
-/
import Derived.Test.YtjkijknjngiieaaDoorPrx4


namespace Go.Proofs.YtjkijknjngiieaaDoor
open Go.RowKit

theorem own_cell1 {α : Type} {enc : α → List Value} {e : TypeId} {w : World} {H g cap n k : Nat} {l : List α} {x : α} {u : Value} (hk : ∀ x : α, (enc x).length = 1) (h : Own enc 1 e w H (.slice (some ⟨g, 0, none⟩) n cap) l) (hx : l[k]? = some x) (hu : enc x = [u]) : w.cell? ⟨g, k, none⟩ = some u := by
  have hl := (List.getElem?_eq_some_iff.1 hx).1
  obtain ⟨gg, o, e1, hg, hc⟩ := (Own.reads hk h) (by omega)
  simp only [Option.some.injEq, Addr.mk.injEq, and_true] at e1
  obtain ⟨rfl, rfl⟩ := e1
  have := hc k x hx 0 u (by rw [hu]; rfl)
  simpa using this
theorem own_frz1 {α : Type} {enc : α → List Value} {e : TypeId} {w : World} {H g cap n k j : Nat} {l : List α} (h : Own enc j e w H (.slice (some ⟨g, 0, none⟩) n cap) l) : w.frozen? ⟨g, k, none⟩ = false := by
  obtain ⟨_, _, _, cur, hg, _⟩ := own_block h
  simp [World.frozen?, hg]
/-- Unmarked places, as the memory tells. -/
def unW (n g : Nat) (w : World) : Nat := (List.range n).countP (fun k => match w.cell? ⟨g, k, none⟩ with | some (.bool b) => !b | _ => false)
theorem unW_of {w : World} {H g : Nat} {m : List Bool} (h : Own bE 1 4 w H (.slice (some ⟨g, 0, none⟩) m.length m.length) m) : unW m.length g w = muM m := by
  unfold unW
  rw [muM_range]
  apply List.countP_congr
  intro k hk
  rw [List.mem_range] at hk
  obtain ⟨b, hb⟩ := get_some hk
  rw [own_cell1 bE_len h hb rfl, hb]
def moreV : Value → Nat
  | .bool true => 1
  | _ => 0
/-- A pass over the links: what is known of it before the p-th input of the k-th link. -/
structure Pass (ls : List Lnk) (run : Str) (m0 m : List Bool) (mo : Bool) (k : Nat) : Prop where
  stay : mo = false → m = m0 ∧ ∀ j, j < k → m[j]? = some true → Clo ls run m j
  less : mo = true → muM m < muM m0
  le : muM m ≤ muM m0
theorem Pass.start {ls : List Lnk} {run : Str} (m : List Bool) : Pass ls run m m false 0 := ⟨fun _ => ⟨rfl, fun j hj => by omega⟩, fun h => (by cases h), Nat.le_refl _⟩
theorem Pass.next {ls : List Lnk} {run : Str} {m0 m : List Bool} {mo : Bool} {k : Nat} (h : Pass ls run m0 m mo k) (hc : mo = false → m[k]? = some true → Clo ls run m k) : Pass ls run m0 m mo (k + 1) :=
  ⟨fun e => ⟨(h.stay e).1, fun j hj hm => by
    by_cases hjk : j = k
    · subst hjk; exact hc e hm
    · exact (h.stay e).2 j (by omega) hm⟩, h.less, h.le⟩
theorem Pass.mark {ls : List Lnk} {run : Str} {m0 m : List Bool} {mo : Bool} {k i : Nat} (h : Pass ls run m0 m mo k) (hi : m[i]? = some false) : Pass ls run m0 (m.set i true) true k :=
  ⟨fun e => (by cases e), fun _ => (by have := muM_set hi; have := h.le; omega), by have := muM_set hi; have := h.le; omega⟩
end Go.Proofs.YtjkijknjngiieaaDoor
