/-
  The walks of provenance: all links checked, by the program.
-/
import Derived.Test.YtjkijknjngiieaaDoorPrw12


namespace Go.Proofs.YtjkijknjngiieaaDoor
open Go.RowKit Go.Maps

theorem MapI.update {P : Program} {w : World} {b n : Nat} {F G : Lit → Option Int} {k e t : TypeId} {kl : Lit} (hown : MapI P k e w b n F) (KP : Keyed P k) (ht : P.underlying t = some (.map k e)) (he : P.underlying e = some (.int .i64)) (hn : n < maxLen) {key : Value} {c : Int} (hc : (Lit.int .i64 c).wf = true) (hkey : keyOf P k key = some kl) (hkl : WideAt.IsKeyLit kl) (hG : G kl = some c ∧ ∀ x, x ≠ kl → G x = F x) :
    ∃ w', (Instr.mapUpdate t (.map (some b)) key (.int .i64 c)).run P w = .ok () w' ∧ MapI P k e w' b (n + 1) G ∧ w.grownBy w' (some b) := by
  obtain ⟨D, h1, h2, h3⟩ := hown
  obtain ⟨w', hrun, r1, r2⟩ := h1.update KP ht hn hkey (plainElem_int he hc)
  refine ⟨w', hrun, ⟨_, r1, h2.put _ _, fun y => ?_⟩, r2⟩
  by_cases hy : y = kl
  · subst hy
    rw [hG.1]
    exact ⟨has_put_same h2 hkl _, atKey_put_same h2 hkl _ _⟩
  · rw [hG.2 y hy, has_put_other hy, atKey_put_other hy]
    exact h3 y
theorem ver_stop {_all _r : List Lnk} {_l : Lnk} {k : Nat} {L : List Lkr} {x : Lkr} (hx : L[k]? = some x) : (L.drop k).map Lkr.h = x.h :: (L.drop (k + 1)).map Lkr.h := by rw [drop_at hx]; rfl
end Go.Proofs.YtjkijknjngiieaaDoor
