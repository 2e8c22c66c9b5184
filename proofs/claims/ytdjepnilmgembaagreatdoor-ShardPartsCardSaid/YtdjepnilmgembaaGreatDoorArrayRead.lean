/-
  An argument that is an array of 2, 4 or 6 numbers, opened.
-/
import Derived.OpenShut
import Derived.Lib.SmallJoins

namespace Go.Proofs.YtdjepnilmgembaaGreatDoor
open Go.ChangeShapes Go.WideShapes Go.RowKit
variable {H : Type} {enc : TypeId × Value → H} {P : Program} {w : World} {base : Nat} {spare : Nat → Bool} {held : Bool}

theorem num_at {t e : TypeId} {n fuel : Nat} {cs : List Value} {x : DataW H × List MemPlace} (ht : P.underlying t = some (.array n e)) (he : P.underlying e = some (.int .i64)) (hce : P.cellsOf e = 1)
    (h : DataW.trod enc P w base spare held fuel t cs = some x) (hl : cs.length = n) (i : Nat) (hi : i < n) :
    ∃ z, cs[i]? = some (.int .i64 z) ∧ -9223372036854775808 ≤ z ∧ z ≤ 9223372036854775807 := by
  obtain ⟨xs, m, _, _, _, hxl, hall⟩ := DataW.trod_array ht h
  have h1 := hall i hi
  rw [hce, Nat.mul_one] at h1
  obtain ⟨v, hv⟩ : ∃ v, cs[i]? = some v := ⟨cs[i], by simp [hl, hi]⟩
  obtain ⟨y, hy⟩ : ∃ y, xs[i]? = some y := ⟨xs[i], by simp [hxl, hi]⟩
  have e1 : (cs.drop i).take 1 = [v] := by
    have hi2 : i < cs.length := by omega
    rw [List.getElem?_eq_getElem hi2] at hv
    rw [List.drop_eq_getElem_cons hi2, List.take_succ_cons, List.take_zero, Option.some.inj hv]
  rw [e1, hy] at h1
  obtain ⟨z, e0, _, wz⟩ := DataW.trod_int he h1
  have e2 : v = .int .i64 z := by simpa using e0
  subst e2
  exact ⟨z, hv, bounds_i64 wz⟩

theorem okWide_array {r : Reach} {b0 : Nat} {t e : TypeId} {n : Nat} {v : Value} (ht : P.underlying t = some (.array n e)) (h : Value.okWide P w r b0 t v) : ∃ cs, v = .agg cs ∧ cs.size = P.cellsOf t := by
  simp only [Value.okWide, ht] at h
  obtain ⟨cs, h1, h2, _⟩ := h
  exact ⟨cs, h1, h2⟩

theorem arr2 {cs : Array Value} (h : cs.size = 2) : ∃ a b, cs = #[a, b] := by
  obtain ⟨l⟩ := cs
  match l, h with
  | [a, b], _ => exact ⟨a, b, rfl⟩

theorem arr4 {cs : Array Value} (h : cs.size = 4) : ∃ a b c d, cs = #[a, b, c, d] := by
  obtain ⟨l⟩ := cs
  match l, h with
  | [a, b, c, d], _ => exact ⟨a, b, c, d, rfl⟩

theorem open_arr2 {r : Reach} {b0 : Nat} {t e : TypeId} {v : Value} {d : DataW H} {p : List MemPlace} (ht : P.underlying t = some (.array 2 e)) (he : P.underlying e = some (.int .i64)) (hce : P.cellsOf e = 1) (hct : P.cellsOf t = 2)
    (hv : Value.okWide P w r b0 t v) (h : DataW.Trod enc P w base spare held t v d p) :
    ∃ a b : Int, v = .agg #[.int .i64 a, .int .i64 b] ∧ (-9223372036854775808 ≤ a ∧ a ≤ 9223372036854775807) ∧ (-9223372036854775808 ≤ b ∧ b ≤ 9223372036854775807) := by
  obtain ⟨cs, rfl, hsz⟩ := okWide_array ht hv
  obtain ⟨c0, c1, rfl⟩ := arr2 (hsz.trans hct)
  obtain ⟨fuel, hf⟩ := h
  obtain ⟨a, e0, b0⟩ := num_at ht he hce hf rfl 0 (by omega)
  obtain ⟨b, e1, b1⟩ := num_at ht he hce hf rfl 1 (by omega)
  simp [Value.cells] at e0 e1
  subst e0 e1
  exact ⟨a, b, rfl, b0, b1⟩

theorem open_arr4 {r : Reach} {b0 : Nat} {t e : TypeId} {v : Value} {d : DataW H} {p : List MemPlace} (ht : P.underlying t = some (.array 4 e)) (he : P.underlying e = some (.int .i64)) (hce : P.cellsOf e = 1) (hct : P.cellsOf t = 4)
    (hv : Value.okWide P w r b0 t v) (h : DataW.Trod enc P w base spare held t v d p) :
    ∃ a b c d : Int, v = .agg #[.int .i64 a, .int .i64 b, .int .i64 c, .int .i64 d] ∧ (-9223372036854775808 ≤ a ∧ a ≤ 9223372036854775807) ∧ (-9223372036854775808 ≤ b ∧ b ≤ 9223372036854775807) ∧ (-9223372036854775808 ≤ c ∧ c ≤ 9223372036854775807) ∧ (-9223372036854775808 ≤ d ∧ d ≤ 9223372036854775807) := by
  obtain ⟨cs, rfl, hsz⟩ := okWide_array ht hv
  obtain ⟨c0, c1, c2, c3, rfl⟩ := arr4 (hsz.trans hct)
  obtain ⟨fuel, hf⟩ := h
  obtain ⟨a, e0, b0⟩ := num_at ht he hce hf rfl 0 (by omega)
  obtain ⟨b, e1, b1⟩ := num_at ht he hce hf rfl 1 (by omega)
  obtain ⟨c, e2, b2⟩ := num_at ht he hce hf rfl 2 (by omega)
  obtain ⟨d, e3, b3⟩ := num_at ht he hce hf rfl 3 (by omega)
  simp [Value.cells] at e0 e1 e2 e3
  subst e0 e1 e2 e3
  exact ⟨a, b, c, d, rfl, b0, b1, b2, b3⟩

theorem array6' {cs : Array Value} (h : cs.size = 6) : ∃ a b c d e f, cs = #[a, b, c, d, e, f] := by
  obtain ⟨l⟩ := cs
  match l, h with
  | [a, b, c, d, e, f], _ => exact ⟨a, b, c, d, e, f, rfl⟩

theorem open_arr6 {r : Reach} {b0 : Nat} {t e : TypeId} {v : Value} {d : DataW H} {p : List MemPlace} (ht : P.underlying t = some (.array 6 e)) (he : P.underlying e = some (.int .i64)) (hce : P.cellsOf e = 1) (hct : P.cellsOf t = 6)
    (hv : Value.okWide P w r b0 t v) (h : DataW.Trod enc P w base spare held t v d p) :
    ∃ a b c d e f : Int, v = .agg #[.int .i64 a, .int .i64 b, .int .i64 c, .int .i64 d, .int .i64 e, .int .i64 f] ∧ (-9223372036854775808 ≤ a ∧ a ≤ 9223372036854775807) ∧ (-9223372036854775808 ≤ b ∧ b ≤ 9223372036854775807) ∧ (-9223372036854775808 ≤ c ∧ c ≤ 9223372036854775807) ∧ (-9223372036854775808 ≤ d ∧ d ≤ 9223372036854775807) ∧ (-9223372036854775808 ≤ e ∧ e ≤ 9223372036854775807) ∧ (-9223372036854775808 ≤ f ∧ f ≤ 9223372036854775807) := by
  obtain ⟨cs, rfl, hsz⟩ := okWide_array ht hv
  obtain ⟨c0, c1, c2, c3, c4, c5, rfl⟩ := array6' (hsz.trans hct)
  obtain ⟨fuel, hf⟩ := h
  obtain ⟨a, e0, b0⟩ := num_at ht he hce hf rfl 0 (by omega)
  obtain ⟨b, e1, b1⟩ := num_at ht he hce hf rfl 1 (by omega)
  obtain ⟨c, e2, b2⟩ := num_at ht he hce hf rfl 2 (by omega)
  obtain ⟨d, e3, b3⟩ := num_at ht he hce hf rfl 3 (by omega)
  obtain ⟨e, e4, b4⟩ := num_at ht he hce hf rfl 4 (by omega)
  obtain ⟨f, e5, b5⟩ := num_at ht he hce hf rfl 5 (by omega)
  simp [Value.cells] at e0 e1 e2 e3 e4 e5
  subst e0 e1 e2 e3 e4 e5
  exact ⟨a, b, c, d, e, f, rfl, b0, b1, b2, b3, b4, b5⟩
end Go.Proofs.YtdjepnilmgembaaGreatDoor
