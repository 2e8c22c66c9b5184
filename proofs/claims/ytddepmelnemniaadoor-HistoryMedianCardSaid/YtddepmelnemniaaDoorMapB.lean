/-
  A map to bools that the call itself has made, written with true alone: a set of keys.
-/
import Derived.Test.YtddepmelnemniaaDoorBase1
import Derived.Maps.Own
import Derived.Maps.OwnOps
import Derived.Maps.Views
namespace Go.Proofs.YtddepmelnemniaaDoor
open Go.Maps Go.RowKit

section
variable {P : Program} {k e t : TypeId} {w w' : World} {b n : Nat} {S : Lit → Prop} {kl : Lit}

/-- Block b is a map of at most n entries: true at the keys of S, false (or not there) at all others. -/
def MapB (P : Program) (k e : TypeId) (w : World) (b n : Nat) (S : Lit → Prop) : Prop :=
  ∃ D : DataW Unit, w.ownsMap P k (plainElem P e) b n D ∧ IsMap D ∧ ∀ x, (S x → D.atKey x (.lit (.bool false)) = .lit (.bool true)) ∧ (¬ S x → D.atKey x (.lit (.bool false)) = .lit (.bool false))

theorem bool_inv (he : P.underlying e = some .bool) {v : Value} {z : DataW Unit × List MemPlace} (h : plainElem P e v = some z) : ∃ x, v = .bool x ∧ z = (.lit (.bool x), []) := by
  unfold plainElem at h
  rw [he] at h
  cases v <;> simp at h
  exact ⟨_, rfl, h.symm⟩
theorem MapB.made (w : World) (P : Program) (k e : TypeId) : MapB P k e (w.alloc (.map #[] 0)) w.heap.size 0 (fun _ => False) :=
  ⟨.map [], World.ownsMap_made w P k _, ⟨[], rfl⟩, fun _x => ⟨fun h => h.elim, fun _ => rfl⟩⟩
theorem MapB.lt (h : MapB P k e w b n S) : b < w.heap.size := by
  obtain ⟨D, h1, _⟩ := h
  exact h1.lt
theorem MapB.keep (h : MapB P k e w b n S) {B : Nat} (hb : Below B w w') (hB : b < B) : MapB P k e w' b n S := by
  obtain ⟨D, ⟨es, clock, h1, h2⟩, h3⟩ := h
  exact ⟨D, ⟨es, clock, (hb.block b hB).trans h1, h2⟩, h3⟩
theorem MapB.look (h : MapB P k e w b n S) (K : Keyed P k) (ht : P.underlying t = some (.map k e)) (he : P.underlying e = some .bool) (hz : (zeroValue e).run P w = .ok (.bool false) w) {key : Value} (hkey : keyOf P k key = some kl) {r : Bool} (hr : r = true ↔ S kl) :
    (Instr.lookup t (.map (some b)) key false).run P w = .ok (.bool r) w := by
  obtain ⟨D, h1, _, h3⟩ := h
  obtain ⟨v, ps, hrun, hv⟩ := h1.lookup K ht hz (plainElem_bool he false) hkey
  obtain ⟨x, rfl, hx⟩ := bool_inv he hv
  simp only [Prod.mk.injEq] at hx
  rw [hrun]
  rcases r with _ | _
  · have hn : ¬ S kl := fun h => by have := hr.2 h; cases this
    have := (h3 kl).2 hn
    rw [hx.1] at this
    obtain rfl : x = false := by simpa using this
    rfl
  · have := (h3 kl).1 (hr.1 rfl)
    rw [hx.1] at this
    obtain rfl : x = true := by simpa using this
    rfl
theorem wpList_look_mapb {ops : Array Oper} {rest : List Oper} {o : Oper} {a : Act} {Q : Exit → Act → World → Prop}
    (hg : o.guard = none) (m x : Operand) (t : TypeId) (hop : o.op = Op.lookup t m x false) (k e : TypeId) (K : Keyed P k) (ht : P.underlying t = some (.map k e)) (he : P.underlying e = some .bool) (hz : (zeroValue e).run P w = .ok (.bool false) w) (b n : Nat) (S : Lit → Prop)
    (hm : a.eval m = .map (some b)) (hown : MapB P k e w b n S) (key : Value) (kl : Lit) (hx : a.eval x = key) (hkey : keyOf P k key = some kl) (r : Bool) (hr : r = true ↔ S kl)
    (hK : wpList P ops Q rest (a.put o.dst (.bool r)) w) : wpList P ops Q (o :: rest) a w := by
  refine wpList_plain hg fun K' hK' => ?_
  have hrun := hown.look K ht he hz hkey hr
  unfold Oper.wp
  simp [execOp, hop, hm, hx, hrun, Result.andThen]
  exact hK' _ _ hK
theorem wpList_put_mapb {ops : Array Oper} {rest : List Oper} {o : Oper} {a : Act} {Q : Exit → Act → World → Prop}
    (hg : o.guard = none) (m x v : Operand) (t : TypeId) (hop : o.op = Op.mapUpdate t m x v) (k e : TypeId) (K : Keyed P k) (ht : P.underlying t = some (.map k e)) (he : P.underlying e = some .bool) (b n : Nat) (S : Lit → Prop)
    (hm : a.eval m = .map (some b)) (hown : MapB P k e w b n S) (hn : n < maxLen) (key : Value) (kl : Lit) (hx : a.eval x = key) (hv : a.eval v = .bool true) (hkey : keyOf P k key = some kl) (hkl : WideAt.IsKeyLit kl)
    (hK : ∀ w', MapB P k e w' b (n + 1) (fun x => x = kl ∨ S x) → w.grownBy w' (some b) → wpList P ops Q rest (a.put o.dst undef) w') : wpList P ops Q (o :: rest) a w := by
  obtain ⟨D, h1, h2, h3⟩ := hown
  refine wpList_mapUpdate_own (H := Unit) w hg m x v t hop k e K ht (plainElem P e) b n D hm h1 hn key (.bool true) kl hx hv hkey (.lit (.bool true)) [] (plainElem_bool he true) fun w' h4 h5 => hK w' ⟨_, h4, ?_, fun y => ?_⟩ h5
  · obtain ⟨es, rfl⟩ := h2
    exact ⟨_, rfl⟩
  · by_cases hy : y = kl
    · subst hy
      exact ⟨fun _ => atKey_put_same h2 hkl _ _, fun h => absurd (Or.inl rfl) h⟩
    · rw [atKey_put_other hy]
      exact ⟨fun h => (h3 y).1 (h.resolve_left hy), fun h => (h3 y).2 fun h' => h (Or.inr h')⟩
end
end Go.Proofs.YtddepmelnemniaaDoor
