/-
  Paths: the parts of a path, by the reference.
-/
import Derived.Test.YtjkijknjngiieaaDoorComm0


namespace Go.Proofs.YtjkijknjngiieaaDoor
open Go.RowKit

theorem str_info : (Tryd.prog.info? 9).map (fun i => (i.zero, i.size, i.bytes)) = some (some (Value.string ByteArray.empty), 1, 16) := by kernel_rfl
/-- What stands between the slashes up to a place. -/
structure CutAt (s : Str) (out : List Str) (a i : Nat) : Prop where
  now : i ≤ s.1.size → parts s = out ++ (splL (s.1.data.toList.drop a)).map mkS
  fin : s.1.size < i → parts s = out
  le : a ≤ i
  ile : i ≤ s.1.size + 1
  few : out.length ≤ i
  no : ∀ j, a ≤ j → j < i → s.1.data.toList[j]? ≠ some 47
theorem CutAt.start (s : Str) : CutAt s [] 0 0 := ⟨fun _ => by unfold parts; simp, fun h => absurd h (by omega), Nat.le_refl _, Nat.zero_le _, Nat.le_refl _, fun j _ h => absurd h (by omega)⟩
theorem piece (s : Str) {a i : Nat} (_h1 : a ≤ i) (h2 : i ≤ s.1.size) : s.1.extract a i = (mkS ((s.1.data.toList.drop a).take (i - a))).1 := by
  have hl : ((s.1.data.toList.drop a).take (i - a)).length ≤ 9223372036854775807 := by
    rw [List.length_take, List.length_drop]
    have := s.2
    have e : s.1.data.toList.length = s.1.size := by rw [Array.length_toList]; rfl
    omega
  rw [mkS_bytes hl]
  have e : (s.1.extract a i).data.toList = (s.1.data.toList.drop a).take (i - a) := by
    have := ext_toList s.1 a i
    rwa [Lib.toList_data, Lib.toList_data] at this
  rw [← e]
theorem CutAt.skip {s : Str} {out : List Str} {a i : Nat} (h : CutAt s out a i) (hi : i < s.1.size) (hc : s.1.data.toList[i]? ≠ some 47) : CutAt s out a (i + 1) :=
  ⟨fun _ => h.now (by omega), fun h2 => absurd h2 (by omega), by have := h.le; omega, by omega, by have := h.few; omega, fun j h1 h2 => by
    by_cases e : j = i
    · subst e; exact hc
    · exact h.no j h1 (by omega)⟩
theorem CutAt.cut {s : Str} {out : List Str} {a i : Nat} (h : CutAt s out a i) (hi : i < s.1.size) (hc : s.1.data.toList[i]? = some 47) : CutAt s (out ++ [mkS ((s.1.data.toList.drop a).take (i - a))]) (i + 1) (i + 1) := by
  have hle := h.le
  refine ⟨fun _ => ?_, fun h2 => absurd h2 (by omega), Nat.le_refl _, by omega, by have := h.few; simp; omega, fun j h1 h2 => absurd h2 (by omega)⟩
  have h1 := splL_hit (l := s.1.data.toList.drop a) (n := i - a) (fun j hj => by rw [List.getElem?_drop]; exact h.no (a + j) (by omega) (by omega)) (by rw [List.getElem?_drop, show a + (i - a) = i by omega]; exact hc)
  rw [h.now (by omega), h1, List.map_cons, List.drop_drop, show a + (i - a + 1) = i + 1 by omega]
  simp
theorem CutAt.last {s : Str} {out : List Str} {a i : Nat} (h : CutAt s out a i) (hi : i = s.1.size) : CutAt s (out ++ [mkS ((s.1.data.toList.drop a).take (i - a))]) (i + 1) (i + 1) := by
  have hle := h.le
  have e : s.1.data.toList.length = s.1.size := by rw [Array.length_toList]; rfl
  refine ⟨fun h2 => absurd h2 (by omega), fun _ => ?_, Nat.le_refl _, by omega, by have := h.few; simp; omega, fun j h1 h2 => absurd h2 (by omega)⟩
  have h1 := splL_end (l := s.1.data.toList.drop a) (fun j hj => by rw [List.length_drop] at hj; rw [List.getElem?_drop]; exact h.no (a + j) (by omega) (by omega))
  rw [h.now (by omega), h1, List.take_of_length_le (by rw [List.length_drop]; omega)]
  simp
theorem byte_eq {s : Str} {i : Nat} (hi : i < s.1.size) : s.1.data.toList[i]? = some s.1[i] := by
  have := toList_get s.1 i hi
  rwa [Lib.toList_data] at this
end Go.Proofs.YtjkijknjngiieaaDoor
