/-
  A map to bools that the call itself has made, written with true alone: a set of keys.
  A map to ints that the call itself has made: what is known of each key.
-/
import Derived.Test.YtdjepnilmgembaaGreatDoorBase1
import Derived.Maps.Own
import Derived.Maps.OwnOps
import Derived.Maps.Views
import Derived.Maps.OwnSet

namespace Go.Proofs.YtdjepnilmgembaaGreatDoor
open Go.Maps Go.RowKit

section
variable {P : Program} {k e t : TypeId} {w w' : World} {b n : Nat} {S : Lit → Prop} {kl : Lit}

/-- Block b is a map of at most n entries: true at the keys of S, false (or not there) at all others. -/
def MapB (P : Program) (k e : TypeId) (w : World) (b n : Nat) (S : Lit → Prop) : Prop :=
  ∃ D : DataW Unit, w.ownsMap P k (plainElem P e) b n D ∧ IsMap D ∧ ∀ x, (S x → D.atKey x (.lit (.bool false)) = .lit (.bool true)) ∧ (¬ S x → D.atKey x (.lit (.bool false)) = .lit (.bool false))

theorem bool_inv (he : P.underlying e = some .bool) {v : Value} {z : DataW Unit × List MemPlace} (h : plainElem P e v = some z) : ∃ x, v = .bool x ∧ z = (.lit (.bool x), []) := by
  unfold plainElem at h
  rw [he] at h
  cases v <;> simp at h
  exact ⟨_, rfl, h.symm⟩
theorem MapB.made (w : World) (P : Program) (k e : TypeId) : MapB P k e (w.alloc (.map #[] 0)) w.heap.size 0 (fun _ => False) :=
  ⟨.map [], World.ownsMap_made w P k _, ⟨[], rfl⟩, fun _x => ⟨fun h => h.elim, fun _ => rfl⟩⟩
theorem MapB.lt (h : MapB P k e w b n S) : b < w.heap.size := by
  obtain ⟨D, h1, _⟩ := h
  exact h1.lt
theorem MapB.keep (h : MapB P k e w b n S) {B : Nat} (hb : Below B w w') (hB : b < B) : MapB P k e w' b n S := by
  obtain ⟨D, ⟨es, clock, h1, h2⟩, h3⟩ := h
  exact ⟨D, ⟨es, clock, (hb.block b hB).trans h1, h2⟩, h3⟩
theorem MapB.look (h : MapB P k e w b n S) (K : Keyed P k) (ht : P.underlying t = some (.map k e)) (he : P.underlying e = some .bool) (hz : (zeroValue e).run P w = .ok (.bool false) w) {key : Value} (hkey : keyOf P k key = some kl) {r : Bool} (hr : r = true ↔ S kl) :
    (Instr.lookup t (.map (some b)) key false).run P w = .ok (.bool r) w := by
  obtain ⟨D, h1, _, h3⟩ := h
  obtain ⟨v, ps, hrun, hv⟩ := h1.lookup K ht hz (plainElem_bool he false) hkey
  obtain ⟨x, rfl, hx⟩ := bool_inv he hv
  simp only [Prod.mk.injEq] at hx
  rw [hrun]
  rcases r with _ | _
  · have hn : ¬ S kl := fun h => by have := hr.2 h; cases this
    have := (h3 kl).2 hn
    rw [hx.1] at this
    obtain rfl : x = false := by simpa using this
    rfl
  · have := (h3 kl).1 (hr.1 rfl)
    rw [hx.1] at this
    obtain rfl : x = true := by simpa using this
    rfl
theorem wpList_look_mapb {ops : Array Oper} {rest : List Oper} {o : Oper} {a : Act} {Q : Exit → Act → World → Prop}
    (hg : o.guard = none) (m x : Operand) (t : TypeId) (hop : o.op = Op.lookup t m x false) (k e : TypeId) (K : Keyed P k) (ht : P.underlying t = some (.map k e)) (he : P.underlying e = some .bool) (hz : (zeroValue e).run P w = .ok (.bool false) w) (b n : Nat) (S : Lit → Prop)
    (hm : a.eval m = .map (some b)) (hown : MapB P k e w b n S) (key : Value) (kl : Lit) (hx : a.eval x = key) (hkey : keyOf P k key = some kl) (r : Bool) (hr : r = true ↔ S kl)
    (hK : wpList P ops Q rest (a.put o.dst (.bool r)) w) : wpList P ops Q (o :: rest) a w := by
  refine wpList_plain hg fun K' hK' => ?_
  have hrun := hown.look K ht he hz hkey hr
  unfold Oper.wp
  simp [execOp, hop, hm, hx, hrun, Result.andThen]
  exact hK' _ _ hK
theorem wpList_put_mapb {ops : Array Oper} {rest : List Oper} {o : Oper} {a : Act} {Q : Exit → Act → World → Prop}
    (hg : o.guard = none) (m x v : Operand) (t : TypeId) (hop : o.op = Op.mapUpdate t m x v) (k e : TypeId) (K : Keyed P k) (ht : P.underlying t = some (.map k e)) (he : P.underlying e = some .bool) (b n : Nat) (S : Lit → Prop)
    (hm : a.eval m = .map (some b)) (hown : MapB P k e w b n S) (hn : n < maxLen) (key : Value) (kl : Lit) (hx : a.eval x = key) (hv : a.eval v = .bool true) (hkey : keyOf P k key = some kl) (hkl : WideAt.IsKeyLit kl)
    (hK : ∀ w', MapB P k e w' b (n + 1) (fun x => x = kl ∨ S x) → w.grownBy w' (some b) → wpList P ops Q rest (a.put o.dst undef) w') : wpList P ops Q (o :: rest) a w := by
  obtain ⟨D, h1, h2, h3⟩ := hown
  refine wpList_mapUpdate_own (H := Unit) w hg m x v t hop k e K ht (plainElem P e) b n D hm h1 hn key (.bool true) kl hx hv hkey (.lit (.bool true)) [] (plainElem_bool he true) fun w' h4 h5 => hK w' ⟨_, h4, ?_, fun y => ?_⟩ h5
  · obtain ⟨es, rfl⟩ := h2
    exact ⟨_, rfl⟩
  · by_cases hy : y = kl
    · subst hy
      exact ⟨fun _ => atKey_put_same h2 hkl _ _, fun h => absurd (Or.inl rfl) h⟩
    · rw [atKey_put_other hy]
      exact ⟨fun h => (h3 y).1 (h.resolve_left hy), fun h => (h3 y).2 fun h' => h (Or.inr h')⟩
end
end Go.Proofs.YtdjepnilmgembaaGreatDoor

namespace Go.Proofs.YtdjepnilmgembaaGreatDoor
open Go.Maps Go.RowKit

section
variable {P : Program} {k e : TypeId} {w w' : World} {b n : Nat} {F : Lit → Option Int} {kl : Lit}

/-- Block b is a map of at most n entries: at each key what F tells, or nothing. -/
def MapI (P : Program) (k e : TypeId) (w : World) (b n : Nat) (F : Lit → Option Int) : Prop :=
  ∃ D : DataW Unit, w.ownsMap P k (plainElem P e) b n D ∧ IsMap D ∧ ∀ x, has D x = (F x).isSome ∧ D.atKey x (.lit (.int .i64 0)) = .lit (.int .i64 ((F x).getD 0))
theorem MapI.made (w : World) (P : Program) (k e : TypeId) : MapI P k e (w.alloc (.map #[] 0)) w.heap.size 0 (fun _ => none) :=
  ⟨.map [], World.ownsMap_made w P k _, ⟨[], rfl⟩, fun _ => ⟨rfl, rfl⟩⟩
theorem MapI.lt (h : MapI P k e w b n F) : b < w.heap.size := by
  obtain ⟨D, h1, _⟩ := h
  exact h1.lt
theorem MapI.keep (h : MapI P k e w b n F) {B : Nat} (hb : Below B w w') (hB : b < B) : MapI P k e w' b n F := by
  obtain ⟨D, ⟨es, clock, h1, h2⟩, h3⟩ := h
  exact ⟨D, ⟨es, clock, (hb.block b hB).trans h1, h2⟩, h3⟩
theorem MapI.block (h : MapI P k e w b n F) (hb : w'.heap[b]? = w.heap[b]?) : MapI P k e w' b n F := by
  obtain ⟨D, ⟨es, clock, h1, h2⟩, h3⟩ := h
  exact ⟨D, ⟨es, clock, hb.trans h1, h2⟩, h3⟩
theorem MapI.congr {G : Lit → Option Int} (h : MapI P k e w b n F) (hst : ∀ x, G x = F x) : MapI P k e w b n G := by
  obtain ⟨D, h1, h2, h3⟩ := h
  exact ⟨D, h1, h2, fun x => by rw [hst x]; exact h3 x⟩
theorem MapI.look {t : TypeId} (h : MapI P k e w b n F) (K : Keyed P k) (ht : P.underlying t = some (.map k e)) (he : P.underlying e = some (.int .i64)) (hz : (zeroValue e).run P w = .ok (.int .i64 0) w) {key : Value} (hkey : keyOf P k key = some kl) {r : Option Int} (hr : F kl = r) :
    (Instr.lookup t (.map (some b)) key true).run P w = .ok (.tuple #[.int .i64 (r.getD 0), .bool r.isSome]) w := by
  obtain ⟨D, h1, _, h3⟩ := h
  subst hr
  obtain ⟨v, ps, hrun, hv⟩ := h1.look_ok K ht hz (plainElem_int he (by decide)) hkey
  obtain ⟨c, rfl, hc, _⟩ := plainElem_int_inv he hv
  obtain ⟨h4, h5⟩ := h3 kl
  rw [h5] at hc
  simp only [Prod.mk.injEq, DataW.lit.injEq, Lit.int.injEq, true_and] at hc
  rw [hrun, ← hc.1, h4]
theorem wpList_look_mapi {ops : Array Oper} {rest : List Oper} {o : Oper} {a : Act} {Q : Exit → Act → World → Prop}
    (hg : o.guard = none) (m x : Operand) (t : TypeId) (hop : o.op = Op.lookup t m x true) (k e : TypeId) (K : Keyed P k) (ht : P.underlying t = some (.map k e)) (he : P.underlying e = some (.int .i64)) (hz : (zeroValue e).run P w = .ok (.int .i64 0) w) (b n : Nat) (F : Lit → Option Int)
    (hm : a.eval m = .map (some b)) (hown : MapI P k e w b n F) (key : Value) (kl : Lit) (hx : a.eval x = key) (hkey : keyOf P k key = some kl) (r : Option Int) (hr : F kl = r)
    (hK : wpList P ops Q rest (a.put o.dst (.tuple #[.int .i64 (r.getD 0), .bool r.isSome])) w) : wpList P ops Q (o :: rest) a w := by
  obtain ⟨D, h1, _, h3⟩ := hown
  subst hr
  refine wpList_lookup_own_ok_int w hg m x t hop k e .i64 K ht he hz b n D hm h1 key kl hx hkey fun c hc _ => ?_
  obtain ⟨h4, h5⟩ := h3 kl
  rw [h5] at hc
  simp only [DataW.lit.injEq, Lit.int.injEq, true_and] at hc
  rw [← hc, h4]
  exact hK
theorem wpList_put_mapi {ops : Array Oper} {rest : List Oper} {o : Oper} {a : Act} {Q : Exit → Act → World → Prop}
    (hg : o.guard = none) (m x v : Operand) (t : TypeId) (hop : o.op = Op.mapUpdate t m x v) (k e : TypeId) (K : Keyed P k) (ht : P.underlying t = some (.map k e)) (he : P.underlying e = some (.int .i64)) (b n : Nat) (F : Lit → Option Int)
    (hm : a.eval m = .map (some b)) (hown : MapI P k e w b n F) (hn : n < maxLen) (key : Value) (kl : Lit) (hx : a.eval x = key) (c : Int) (hv : a.eval v = .int .i64 c) (hc : (Lit.int .i64 c).wf = true) (hkey : keyOf P k key = some kl) (hkl : WideAt.IsKeyLit kl)
    (G : Lit → Option Int) (hG : G kl = some c ∧ ∀ x, x ≠ kl → G x = F x)
    (hK : ∀ w', MapI P k e w' b (n + 1) G → w.grownBy w' (some b) → wpList P ops Q rest (a.put o.dst undef) w') : wpList P ops Q (o :: rest) a w := by
  obtain ⟨D, h1, h2, h3⟩ := hown
  refine wpList_mapUpdate_own (H := Unit) w hg m x v t hop k e K ht (plainElem P e) b n D hm h1 hn key (.int .i64 c) kl hx hv hkey (.lit (.int .i64 c)) [] (plainElem_int he hc) fun w' h4 h5 => hK w' ⟨_, h4, h2.put _ _, fun y => ?_⟩ h5
  by_cases hy : y = kl
  · subst hy
    rw [hG.1]
    exact ⟨has_put_same h2 hkl _, atKey_put_same h2 hkl _ _⟩
  · rw [hG.2 y hy, has_put_other hy, atKey_put_other hy]
    exact h3 y
end
end Go.Proofs.YtdjepnilmgembaaGreatDoor
