/-
  The walks of histories: whether a result has a name, by the reference.
-/
import Derived.Test.YtddepmelnemniaaGreatDoorHis12


namespace Go.Proofs.YtddepmelnemniaaGreatDoor
open Go.RowKit

theorem hasS_no {l : List Res} {p : Str} (h : ∀ x ∈ l, x.name ≠ p) : hasS (l.map Res.name) p = false := by
  rw [Bool.eq_false_iff]
  intro e
  obtain ⟨x, hx, e2⟩ := List.mem_map.1 (hasS_iff.1 e)
  exact h x hx e2
set_option maxRecDepth 100000 in
set_option maxHeartbeats 2000000 in
theorem rhasn_any (A : Option Addr) (c : Nat) (l : List Res) (p : Str) (w : World) (hr : Rw resE 3 w w.heap.size A l) (hn : l.length ≤ 9223372036854775807) :
    Calls Tryz.prog 17 #[.slice A l.length c, .string p.1] w fun e w' => e = .returned (.bool (hasS (l.map Res.name) p)) ∧ w = w' := by
  have hc : Hid (∀ k x, l[k]? = some x → ∃ g o, A = some ⟨g, o, none⟩ ∧ w.cell? ⟨g, o + k * 3, none⟩ = some (.string x.name.1)) := Lib.hid (fun k x hx => by
    have hk := (List.getElem?_eq_some_iff.1 hx).1
    obtain ⟨g, o, e, _, h⟩ := hr (by omega)
    exact ⟨g, o, e, by simpa using h k x hx 0 (.string x.name.1) rfl⟩)
  clear hr
  obtain ⟨R, hR⟩ : ∃ R, hasS (l.map Res.name) p = R := ⟨_, rfl⟩
  rw [hR]
  replace hR := Lib.hid hR
  go_enter Tryz.func17, Tryz.ntmps17
  go_wp2_with fail
  go_loop [5] (fun vi => ∃ k : Nat, k ≤ l.length ∧ vi = .int .i64 (k : Int) ∧ ∀ x ∈ l.take k, x.name ≠ p) (fun vi => l.length - (intOf vi).toNat)
  case atStart => exact ⟨0, Nat.zero_le _, rfl, by simp⟩
  case round =>
    obtain ⟨k, hk, rfl, ht⟩ := hrel
    replace ht := Lib.hid ht
    by_cases hkl : k < l.length
    · obtain ⟨x, hx⟩ := get_some hkl
      obtain ⟨g, o, rfl, q⟩ := hc.out k x hx
      have i0 : (0 : Int) ≤ (k : Int) := by omega
      have i1 : (k : Int) < (l.length : Int) := by omega
      by_cases he : x.name = p
      · have hsb : (x.name.1.toList == p.1.toList) = true := by rw [eq_str]; exact decide_eq_true he
        have hf : Hid (R = true) := Lib.hid (by rw [← hR.out]; exact hasS_iff.2 (List.mem_map.2 ⟨x, List.mem_of_getElem? hx, he⟩))
        replace hx := Lib.hid hx
        replace he := Lib.hid he
        go_wp2_with fail
        go_ret
        exact ⟨by rw [hf.out]; rfl, rfl⟩
      · have hsb : (x.name.1.toList == p.1.toList) = false := by rw [eq_str]; exact decide_eq_false he
        have hn2 : Hid (∀ y ∈ l.take (k + 1), y.name ≠ p) := Lib.hid fun y hy => by
          rw [List.take_add_one, hx] at hy
          rcases List.mem_append.1 hy with h | h
          · exact ht.out y h
          · obtain rfl : y = x := by simpa using h
            exact he
        replace hx := Lib.hid hx
        replace he := Lib.hid he
        go_wp2_with fail
        go_round
        case rel => exact ⟨k + 1, by omega, by go_num, hn2.out⟩
        case measure => simp [intOf]; omega
    · have i1 : ¬ (k : Int) < (l.length : Int) := by omega
      have hf : Hid (R = false) := Lib.hid (by rw [← hR.out]; exact hasS_no (by have h := ht.out; rwa [List.take_of_length_le (by omega)] at h))
      go_wp2_with fail
      go_ret
      exact ⟨by rw [hf.out]; rfl, rfl⟩
end Go.Proofs.YtddepmelnemniaaGreatDoor
