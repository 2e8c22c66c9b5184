/-
  The walks of histories: the index of a name, by the reference.
-/
import Derived.Test.YtddepmelnemniaaGreatDoorHis10


namespace Go.Proofs.YtddepmelnemniaaGreatDoor
open Go.RowKit

theorem rindex_any (A : Option Addr) (c : Nat) (l : List Hst) (p : Str) (w : World) (hr : Rw hstE 2 w w.heap.size A l) (hn : l.length ≤ 9223372036854775807) :
    Calls Tryz.prog 42 #[.slice A l.length c, .string p.1] w fun e w' => e = .returned (.int .i64 (findN p (l.map Hst.h))) ∧ w = w' := by
  have hc : Hid (∀ k x, l[k]? = some x → ∃ g o, A = some ⟨g, o, none⟩ ∧ w.cell? ⟨g, o + k * 2, none⟩ = some (.string x.name.1)) := Lib.hid (fun k x hx => by
    have hk := (List.getElem?_eq_some_iff.1 hx).1
    obtain ⟨g, o, e, _, h⟩ := hr (by omega)
    exact ⟨g, o, e, by simpa using h k x hx 0 (.string x.name.1) rfl⟩)
  clear hr
  obtain ⟨R, hR⟩ : ∃ R, findN p (l.map Hst.h) = R := ⟨_, rfl⟩
  rw [hR]
  replace hR := Lib.hid hR
  go_enter Tryz.func42, Tryz.ntmps42
  go_wp2_with fail
  go_loop [5] (fun vi => ∃ k : Nat, k ≤ l.length ∧ vi = .int .i64 (k : Int) ∧ ((l.map Hst.h).take k).all (fun y => !isName p y) = true) (fun vi => l.length - (intOf vi).toNat)
  case atStart => exact ⟨0, Nat.zero_le _, rfl, rfl⟩
  case round =>
    obtain ⟨k, hk, rfl, ht⟩ := hrel
    replace ht := Lib.hid ht
    by_cases hkl : k < l.length
    · obtain ⟨x, hx⟩ := get_some hkl
      obtain ⟨g, o, rfl, q⟩ := hc.out k x hx
      have hxm : (l.map Hst.h)[k]? = some x.h := by rw [List.getElem?_map, hx]; rfl
      have i0 : (0 : Int) ≤ (k : Int) := by omega
      have i1 : (k : Int) < (l.length : Int) := by omega
      rcases hs : isName p x.h with _ | _
      · have hsb : (x.name.1.toList == p.1.toList) = false := hs
        replace hx := Lib.hid hx
        replace hxm := Lib.hid hxm
        replace hs := Lib.hid hs
        go_wp2_with fail
        go_round
        case rel => exact ⟨k + 1, by omega, by go_num, by rw [List.take_add_one, hxm.out, List.all_append, ht.out]; simp [hs.out]⟩
        case measure => simp [intOf]; omega
      · have hsb : (x.name.1.toList == p.1.toList) = true := hs
        have hf : Hid (R = k) := Lib.hid (by rw [← hR.out]; exact findN_at ht.out hxm hs)
        replace hx := Lib.hid hx
        replace hxm := Lib.hid hxm
        replace hs := Lib.hid hs
        go_wp2_with fail
        go_ret
        exact ⟨ret_int hf.out.symm, rfl⟩
    · have i1 : ¬ (k : Int) < (l.length : Int) := by omega
      have hf : Hid (R = -1) := Lib.hid (by rw [← hR.out]; exact findN_none (by have h := ht.out; rwa [List.take_of_length_le (by simp; omega)] at h))
      go_wp2_with fail
      go_ret
      exact ⟨ret_int hf.out.symm, rfl⟩
end Go.Proofs.YtddepmelnemniaaGreatDoor
