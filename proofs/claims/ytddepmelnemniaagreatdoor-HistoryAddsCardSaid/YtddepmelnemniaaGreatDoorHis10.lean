/-
  The walks of histories: whether histories are valid, by the reference.
-/
import Derived.Test.YtddepmelnemniaaGreatDoorHis9


namespace Go.Proofs.YtddepmelnemniaaGreatDoor
open Go.RowKit

set_option maxRecDepth 100000 in
set_option maxHeartbeats 4000000 in
theorem rvalid_any (A : Option Addr) (c : Nat) (l : List Hst) (w : World) (hr : RwH w w.heap.size A l) (hn : l.length ≤ 9223372036854775807) (hs : ∀ x ∈ l, x.name.1.size < 4294967281) :
    Calls Tryz.prog 11 #[.slice A l.length c] w fun e w' => e = .returned (.int .i64 (valErr (l.map Hst.h))) ∧ Below w.heap.size w w' := by
  obtain ⟨R, hR⟩ : ∃ R, valErr (l.map Hst.h) = R := ⟨_, rfl⟩
  rw [hR]
  by_cases hl : 4096 < l.length
  · have hf : Hid (R = 15) := Lib.hid (by rw [← hR]; unfold valErr; rw [if_pos (by rw [List.length_map]; exact hl)])
    have hlz : (4096 : Int) < (l.length : Int) := by omega
    replace hR := Lib.hid hR
    clear hr
    go_enter Tryz.func11, Tryz.ntmps11
    go_wp2_with fail
    go_ret
    exact ⟨by rw [hf.out]; rfl, (by repeat (first | (with_reducible exact Below.refl _ _) | (with_reducible refine Below.drew ?_) | (with_reducible refine below_drewN ?_ _) | ((with_reducible refine Below.alloc ?_ ?_ _); rotate_left; focus ((try simp) <;> omega)) | ((with_reducible refine Below.setCell ?_ ?_ _); rotate_left; focus ((try simp) <;> omega)) | ((with_reducible refine Below.trans ?_ (Below.mono (by assumption) ?_)); rotate_left; focus ((try simp) <;> omega))))⟩
  have hR0 : Hid (hissErr none (l.map Hst.h) = R) := Lib.hid (by rw [← hR]; unfold valErr; rw [if_neg (by rw [List.length_map]; exact hl)])
  have hlz : ¬ (4096 : Int) < (l.length : Int) := by omega
  have hhi : Hid (∀ (k : Nat) (x : Hst), l[k]? = some x → ∀ W, Below w.heap.size w W → Calls Tryz.prog 30 #[.slice A l.length c, .int .i64 (k : Int)] W fun e w' => e = .returned (.int .i64 (hisErr (prevN (l.map Hst.h) k) x.h)) ∧ Below W.heap.size W w') := Lib.hid fun k x hx W hb => rhistory_any A c l k x hx W ((hr.below hb (Nat.le_refl _)).more hb.size) hn (hs x (List.mem_of_getElem? hx))
  replace hR := Lib.hid hR
  clear hr hs
  go_enter Tryz.func11, Tryz.ntmps11
  go_wp2_with fail
  go_loopw [3] (fun vi wr => ∃ k : Nat, k ≤ l.length ∧ vi = .int .i64 (k : Int) ∧ hissErr (prevN (l.map Hst.h) k) ((l.map Hst.h).drop k) = R ∧ Below w.heap.size w wr) (fun vi _ => l.length - (intOf vi).toNat)
  case atStart => exact ⟨0, Nat.zero_le _, rfl, hR0.out, Below.refl _ _⟩
  case round =>
    obtain ⟨k, hk, rfl, ht, hbw⟩ := hrel
    have hz := hbw.size
    by_cases hkl : k < l.length
    · obtain ⟨x, hx⟩ := get_some hkl
      have hxm : (l.map Hst.h)[k]? = some x.h := by rw [List.getElem?_map, hx]; rfl
      rw [hiss_at hxm] at ht
      have hnx := prevN_succ hxm
      have i1 : (k : Int) < (l.length : Int) := by omega
      have hh0 := hhi.out k x hx
      obtain ⟨E, hE⟩ : ∃ E, hisErr (prevN (l.map Hst.h) k) x.h = E := ⟨_, rfl⟩
      rw [hE] at hh0 ht
      have hh := Lib.hid hh0
      clear hh0
      replace hE := Lib.hid hE
      replace hx := Lib.hid hx
      replace hxm := Lib.hid hxm
      by_cases h0 : E = 0
      · rw [if_pos h0] at ht
        subst h0
        have hn2 : Hid (hissErr (prevN (l.map Hst.h) (k + 1)) ((l.map Hst.h).drop (k + 1)) = R) := Lib.hid (by rw [hnx]; exact ht)
        replace ht := Lib.hid ht
        replace hnx := Lib.hid hnx
        go_wp2_with (go_at_call 30; go_must (refine (hh.out _ (by repeat (first | (with_reducible exact Below.refl _ _) | (with_reducible refine Below.drew ?_) | (with_reducible refine below_drewN ?_ _) | ((with_reducible refine Below.alloc ?_ ?_ _); rotate_left; focus ((try simp) <;> omega)) | ((with_reducible refine Below.setCell ?_ ?_ _); rotate_left; focus ((try simp) <;> omega)) | ((with_reducible refine Below.trans ?_ (Below.mono (by assumption) ?_)); rotate_left; focus ((try simp) <;> omega))))).mono ?_; rintro e w1 ⟨rfl, hb1⟩; have hz1 := hb1.size))
        go_roundw
        case rel => exact ⟨k + 1, by omega, by go_num, hn2.out, (by repeat (first | (with_reducible exact Below.refl _ _) | (with_reducible refine Below.drew ?_) | (with_reducible refine below_drewN ?_ _) | ((with_reducible refine Below.alloc ?_ ?_ _); rotate_left; focus ((try simp) <;> omega)) | ((with_reducible refine Below.setCell ?_ ?_ _); rotate_left; focus ((try simp) <;> omega)) | ((with_reducible refine Below.trans ?_ (Below.mono (by assumption) ?_)); rotate_left; focus ((try simp) <;> omega))))⟩
        case measure => simp [intOf]; omega
      · rw [if_neg h0] at ht
        have hf : Hid (R = E) := Lib.hid ht.symm
        have hEb : (E != 0) = true := by rw [bne_iff_ne]; exact h0
        clear ht
        replace h0 := Lib.hid h0
        replace hnx := Lib.hid hnx
        go_wp2_with (go_at_call 30; go_must (refine (hh.out _ (by repeat (first | (with_reducible exact Below.refl _ _) | (with_reducible refine Below.drew ?_) | (with_reducible refine below_drewN ?_ _) | ((with_reducible refine Below.alloc ?_ ?_ _); rotate_left; focus ((try simp) <;> omega)) | ((with_reducible refine Below.setCell ?_ ?_ _); rotate_left; focus ((try simp) <;> omega)) | ((with_reducible refine Below.trans ?_ (Below.mono (by assumption) ?_)); rotate_left; focus ((try simp) <;> omega))))).mono ?_; rintro e w1 ⟨rfl, hb1⟩; have hz1 := hb1.size))
        go_ret
        exact ⟨by rw [hf.out]; rfl, (by repeat (first | (with_reducible exact Below.refl _ _) | (with_reducible refine Below.drew ?_) | (with_reducible refine below_drewN ?_ _) | ((with_reducible refine Below.alloc ?_ ?_ _); rotate_left; focus ((try simp) <;> omega)) | ((with_reducible refine Below.setCell ?_ ?_ _); rotate_left; focus ((try simp) <;> omega)) | ((with_reducible refine Below.trans ?_ (Below.mono (by assumption) ?_)); rotate_left; focus ((try simp) <;> omega))))⟩
    · have i1 : ¬ (k : Int) < (l.length : Int) := by omega
      have hf : Hid (R = 0) := Lib.hid (by rw [← ht, hiss_end (by rw [List.length_map]; exact hkl)])
      replace ht := Lib.hid ht
      go_wp2_with fail
      go_ret
      exact ⟨by rw [hf.out]; rfl, hbw⟩
end Go.Proofs.YtddepmelnemniaaGreatDoor
