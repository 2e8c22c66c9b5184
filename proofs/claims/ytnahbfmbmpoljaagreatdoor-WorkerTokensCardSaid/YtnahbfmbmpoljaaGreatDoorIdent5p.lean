/-
  Plain laws for the reference's lists of strings.
-/
import Derived.Test.YtnahbfmbmpoljaaGreatDoorIdent4

namespace Go.Proofs.YtnahbfmbmpoljaaGreatDoor
open Go.RowKit

theorem str_neq {x y : Str} (h : x ≠ y) : (x.1.toList == y.1.toList) = false := by rw [eq_str]; simpa using h
theorem str_eqq {x y : Str} (h : x = y) : (x.1.toList == y.1.toList) = true := by rw [eq_str]; simpa using h
theorem get_some {α : Type} {l : List α} {k : Nat} (h : k < l.length) : ∃ x, l[k]? = some x := ⟨l[k], List.getElem?_eq_getElem h⟩
theorem take_eq_succ {α : Type} {a b : List α} {k : Nat} {x : α} (h : a.take k = b.take k) (ha : a[k]? = some x) (hb : b[k]? = some x) : a.take (k + 1) = b.take (k + 1) := by
  rw [List.take_add_one, List.take_add_one, h, ha, hb]

/-- Whether a list has a string. -/
def hasB (s : Str) (a : List Str) : Bool := a.any fun x => decide (x = s)
theorem hasB_iff {s : Str} {a : List Str} : hasB s a = true ↔ s ∈ a := by
  unfold hasB; rw [List.any_eq_true]
  exact ⟨fun ⟨x, hx, he⟩ => by rw [← of_decide_eq_true he]; exact hx, fun h => ⟨s, h, by simp⟩⟩
theorem hasB_true {s : Str} {a : List Str} (h : s ∈ a) : hasB s a = true := hasB_iff.2 h
theorem hasB_false {s : Str} {a : List Str} (h : s ∉ a) : hasB s a = false := by rw [← Bool.not_eq_true, hasB_iff]; exact h

theorem quiet_add {P : Program} {f : FuncId} {args : Array Value} {w : World} {a n : Nat} {v : Value}
    (h : Calls P f args (w.drewN (a + n)) fun e w' => e = .returned v ∧ ∃ m, w' = (w.drewN (a + n)).drewN m) :
    Calls P f args (w.drewN (a + n)) fun e w'' => e = .returned v ∧ ∃ m, w'' = w.drewN (a + m) :=
  h.mono fun _ _ ⟨he, m, hm⟩ => ⟨he, n + m, by rw [hm, World.drewN_drewN, Nat.add_assoc]⟩
theorem quiet_first {P : Program} {f : FuncId} {args : Array Value} {w : World} {n : Nat} {v : Value}
    (h : Calls P f args (w.drewN n) fun e w' => e = .returned v ∧ ∃ m, w' = (w.drewN n).drewN m) :
    Calls P f args (w.drewN n) fun e w'' => e = .returned v ∧ ∃ m, w'' = w.drewN m :=
  h.mono fun _ _ ⟨he, m, hm⟩ => ⟨he, n + m, by rw [hm, World.drewN_drewN]⟩

theorem asc_of_adj {α : Type} {cf : α → α → Int} (hO : Ord3 cf) : ∀ {l : List α}, (∀ j x y, l[j]? = some x → l[j + 1]? = some y → cf x y < 0) → Asc cf l
  | [], _ => List.Pairwise.nil
  | [a], _ => by simp [Asc]
  | a :: b :: l, h => by
    have hab := h 0 a b rfl rfl
    have ih := asc_of_adj hO (l := b :: l) (fun j x y hx hy => h (j + 1) x y (by simpa using hx) (by simpa using hy))
    rw [Asc, List.pairwise_cons]
    refine ⟨fun y hy => ?_, ih⟩
    rcases List.mem_cons.1 hy with e | hy
    · rw [e]; exact hab
    · exact hO.trans _ _ _ hab ((List.pairwise_cons.1 ih).1 y hy)
theorem adj_of_asc {α : Type} {cf : α → α → Int} {l : List α} (h : Asc cf l) {j : Nat} {x y : α} (hx : l[j]? = some x) (hy : l[j + 1]? = some y) : cf x y < 0 := by
  obtain ⟨h1, rfl⟩ := List.getElem?_eq_some_iff.1 hx
  obtain ⟨h2, rfl⟩ := List.getElem?_eq_some_iff.1 hy
  exact (List.pairwise_iff_getElem.1 h) j (j + 1) h1 h2 (by omega)
end Go.Proofs.YtnahbfmbmpoljaaGreatDoor
