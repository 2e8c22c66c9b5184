/-
  FairnessJoins: for every list of shares (at most 66, with short names), every project of a short name that is not among them and every weight, the project that is added begins at the smallest ratio of the others, less than one unit above it; the example holds. No condition.
-/
import Derived.Test.YtopicpghhpkgbaaDoorFa13
import Derived.Test.YtopicpghhpkgbaaDoorLayTab





namespace Go.Proofs.YtopicpghhpkgbaaDoor.fairnessJoins
open Go.ChangeShapes Go.WideShapes Go.ChangeAt Go.RowKit Go.Joins
theorem own : ownKnob Tryd.prog.godebug = none := by kernel_rfl
theorem laidOut : laidOutB Tryd.prog = true := by kernel_rfl

set_option maxRecDepth 100000 in
set_option maxHeartbeats 8000000 in
theorem walk (A : Option Addr) (c : Nat) (l : List Share) (p : Str) (wt : I64) (w : World) (hr : Rw shareE 3 w w.heap.size A l) (hlc : l.length ≤ c) (hm : l.length ≤ 9223372036854775807) :
    Calls Tryd.prog 6 #[.slice A l.length c, .string p.1, .int .i64 wt.1] w fun e w' => e = .returned (.bool true) ∧ Below w.heap.size w w' := by
  have hrd : Hid (∀ W, Below w.heap.size w W → Rw shareE 3 W W.heap.size A l) := Lib.hid fun W hb => (hr.below hb (Nat.le_refl _)).more hb.size
  have hxc : Hid (0 < l.length → ∃ g o, A = some ⟨g, o, none⟩ ∧ g < w.heap.size ∧ ∀ W, Below w.heap.size w W → ∀ k x, l[k]? = some x → ∀ j u, (shareE x)[j]? = some u → W.cell? ⟨g, o + k * 3 + j, none⟩ = some u) := Lib.hid fun h0 => by
    obtain ⟨g, o, e, hg, hq⟩ := hr h0
    exact ⟨g, o, e, hg, fun W hb k x hx j u hu => (hb.cell (p := ⟨g, o + k * 3 + j, none⟩) hg).trans (hq k x hx j u hu)⟩
  clear hr
  have hva : Hid (∀ W, Below w.heap.size w W → Calls Tryd.prog 19 #[.slice A l.length c] W fun e w' => e = .returned (.bool (validS l)) ∧ Below W.heap.size W w') := Lib.hid fun W hb => rvalid_any A c l W (hrd.out W hb) (by omega)
  have hfi : Hid (∀ W, Below w.heap.size w W → Calls Tryd.prog 20 #[.slice A l.length c, .string p.1] W fun e w' => e = .returned (.int .i64 (findP p l)) ∧ W = w') := Lib.hid fun W hb => rfind_any A c l p W (hrd.out W hb) (by omega)
  rcases hf : fewB l with _ | _
  · go_enter Tryd.func6, Tryd.ntmps6
    go_wp2_with (first | (go_at_call 9; go_must (refine (few_any A c l _ (hrd.out _ (by repeat (first | (with_reducible exact Below.refl _ _) | (with_reducible refine Below.drew ?_) | (with_reducible refine below_drewN ?_ _) | ((with_reducible refine Below.alloc ?_ ?_ _); rotate_left; focus ((try simp) <;> omega)) | ((with_reducible refine Below.setCell ?_ ?_ _); rotate_left; focus ((try simp) <;> omega)) | ((with_reducible refine Below.trans ?_ (Below.mono (by assumption) ?_)); rotate_left; focus ((try simp) <;> omega))))) hm).mono ?_; rw [hf]; rintro e w1 ⟨rfl, rfl⟩)) | (go_at_call 10; go_must (refine (awake_any _).mono ?_; rintro e w9 ⟨rfl, hb9⟩)))
    go_ret
    exact ⟨rfl, (by repeat (first | (with_reducible exact Below.refl _ _) | (with_reducible refine Below.drew ?_) | (with_reducible refine below_drewN ?_ _) | ((with_reducible refine Below.alloc ?_ ?_ _); rotate_left; focus ((try simp) <;> omega)) | ((with_reducible refine Below.setCell ?_ ?_ _); rotate_left; focus ((try simp) <;> omega)) | ((with_reducible refine Below.trans ?_ (Below.mono (by assumption) ?_)); rotate_left; focus ((try simp) <;> omega))))⟩
  have h66 := fewG_len hf
  by_cases c1 : (p.1.size : Int) > 100
  · go_enter Tryd.func6, Tryd.ntmps6
    go_wp2_with (first | (go_at_call 9; go_must (refine (few_any A c l _ (hrd.out _ (by repeat (first | (with_reducible exact Below.refl _ _) | (with_reducible refine Below.drew ?_) | (with_reducible refine below_drewN ?_ _) | ((with_reducible refine Below.alloc ?_ ?_ _); rotate_left; focus ((try simp) <;> omega)) | ((with_reducible refine Below.setCell ?_ ?_ _); rotate_left; focus ((try simp) <;> omega)) | ((with_reducible refine Below.trans ?_ (Below.mono (by assumption) ?_)); rotate_left; focus ((try simp) <;> omega))))) hm).mono ?_; rw [hf]; rintro e w1 ⟨rfl, rfl⟩)) | (go_at_call 10; go_must (refine (awake_any _).mono ?_; rintro e w9 ⟨rfl, hb9⟩)))
    go_ret
    exact ⟨rfl, (by repeat (first | (with_reducible exact Below.refl _ _) | (with_reducible refine Below.drew ?_) | (with_reducible refine below_drewN ?_ _) | ((with_reducible refine Below.alloc ?_ ?_ _); rotate_left; focus ((try simp) <;> omega)) | ((with_reducible refine Below.setCell ?_ ?_ _); rotate_left; focus ((try simp) <;> omega)) | ((with_reducible refine Below.trans ?_ (Below.mono (by assumption) ?_)); rotate_left; focus ((try simp) <;> omega))))⟩
  rcases hv : validS l with _ | _
  · rw [hv] at hva
    go_enter Tryd.func6, Tryd.ntmps6
    go_wp2_with (first | (go_at_call 9; go_must (refine (few_any A c l _ (hrd.out _ (by repeat (first | (with_reducible exact Below.refl _ _) | (with_reducible refine Below.drew ?_) | (with_reducible refine below_drewN ?_ _) | ((with_reducible refine Below.alloc ?_ ?_ _); rotate_left; focus ((try simp) <;> omega)) | ((with_reducible refine Below.setCell ?_ ?_ _); rotate_left; focus ((try simp) <;> omega)) | ((with_reducible refine Below.trans ?_ (Below.mono (by assumption) ?_)); rotate_left; focus ((try simp) <;> omega))))) hm).mono ?_; rw [hf]; rintro e w1 ⟨rfl, rfl⟩)) | (go_at_call 19; go_must (refine (hva.out _ (by repeat (first | (with_reducible exact Below.refl _ _) | (with_reducible refine Below.drew ?_) | (with_reducible refine below_drewN ?_ _) | ((with_reducible refine Below.alloc ?_ ?_ _); rotate_left; focus ((try simp) <;> omega)) | ((with_reducible refine Below.setCell ?_ ?_ _); rotate_left; focus ((try simp) <;> omega)) | ((with_reducible refine Below.trans ?_ (Below.mono (by assumption) ?_)); rotate_left; focus ((try simp) <;> omega))))).mono ?_; rintro e w1 ⟨rfl, hb1⟩; have hz1 := hb1.size)) | (go_at_call 10; go_must (refine (awake_any _).mono ?_; rintro e w9 ⟨rfl, hb9⟩)))
    go_ret
    exact ⟨rfl, (by repeat (first | (with_reducible exact Below.refl _ _) | (with_reducible refine Below.drew ?_) | (with_reducible refine below_drewN ?_ _) | ((with_reducible refine Below.alloc ?_ ?_ _); rotate_left; focus ((try simp) <;> omega)) | ((with_reducible refine Below.setCell ?_ ?_ _); rotate_left; focus ((try simp) <;> omega)) | ((with_reducible refine Below.trans ?_ (Below.mono (by assumption) ?_)); rotate_left; focus ((try simp) <;> omega))))⟩
  rw [hv] at hva
  by_cases hfp : 0 ≤ findP p l
  · generalize findP p l = F at hfi hfp
    go_enter Tryd.func6, Tryd.ntmps6
    go_wp2_with (first | (go_at_call 9; go_must (refine (few_any A c l _ (hrd.out _ (by repeat (first | (with_reducible exact Below.refl _ _) | (with_reducible refine Below.drew ?_) | (with_reducible refine below_drewN ?_ _) | ((with_reducible refine Below.alloc ?_ ?_ _); rotate_left; focus ((try simp) <;> omega)) | ((with_reducible refine Below.setCell ?_ ?_ _); rotate_left; focus ((try simp) <;> omega)) | ((with_reducible refine Below.trans ?_ (Below.mono (by assumption) ?_)); rotate_left; focus ((try simp) <;> omega))))) hm).mono ?_; rw [hf]; rintro e w1 ⟨rfl, rfl⟩)) | (go_at_call 19; go_must (refine (hva.out _ (by repeat (first | (with_reducible exact Below.refl _ _) | (with_reducible refine Below.drew ?_) | (with_reducible refine below_drewN ?_ _) | ((with_reducible refine Below.alloc ?_ ?_ _); rotate_left; focus ((try simp) <;> omega)) | ((with_reducible refine Below.setCell ?_ ?_ _); rotate_left; focus ((try simp) <;> omega)) | ((with_reducible refine Below.trans ?_ (Below.mono (by assumption) ?_)); rotate_left; focus ((try simp) <;> omega))))).mono ?_; rintro e w1 ⟨rfl, hb1⟩; have hz1 := hb1.size)) | (go_at_call 20; go_must (refine (hfi.out _ (by repeat (first | (with_reducible exact Below.refl _ _) | (with_reducible refine Below.drew ?_) | (with_reducible refine below_drewN ?_ _) | ((with_reducible refine Below.alloc ?_ ?_ _); rotate_left; focus ((try simp) <;> omega)) | ((with_reducible refine Below.setCell ?_ ?_ _); rotate_left; focus ((try simp) <;> omega)) | ((with_reducible refine Below.trans ?_ (Below.mono (by assumption) ?_)); rotate_left; focus ((try simp) <;> omega))))).mono ?_; rintro e w2 ⟨rfl, rfl⟩)) | (go_at_call 10; go_must (refine (awake_any _).mono ?_; rintro e w9 ⟨rfl, hb9⟩)))
    go_ret
    exact ⟨rfl, (by repeat (first | (with_reducible exact Below.refl _ _) | (with_reducible refine Below.drew ?_) | (with_reducible refine below_drewN ?_ _) | ((with_reducible refine Below.alloc ?_ ?_ _); rotate_left; focus ((try simp) <;> omega)) | ((with_reducible refine Below.setCell ?_ ?_ _); rotate_left; focus ((try simp) <;> omega)) | ((with_reducible refine Below.trans ?_ (Below.mono (by assumption) ?_)); rotate_left; focus ((try simp) <;> omega))))⟩
  have hfn : findP p l = -1 := by
    unfold findP at hfp ⊢
    split
    · rename_i h; rw [if_pos h] at hfp; omega
    · rfl
  rw [hfn] at hfi
  have h1 : Hid (∀ W, Below w.heap.size w W → _) := Lib.hid fun W hb => add_any A c l p wt W (hrd.out W hb) hlc (by omega)
  by_cases hE : addE l p wt.1 = 0
  · obtain ⟨k0, V, hk0, hlen, hy, hfL, hV0, hVz, hunder, habove⟩ := joins_plain hv hfn hE
    obtain ⟨L, hL⟩ : ∃ L, addL l p wt = L := ⟨_, rfl⟩
    rw [hL] at h1 hk0 hlen hy hfL
    rw [hE] at h1
    have hfiL : Hid (∀ W A3 c3, Rw shareE 3 W W.heap.size A3 L → Calls Tryd.prog 20 #[.slice A3 L.length c3, .string p.1] W fun e w' => e = .returned (.int .i64 (k0 : Int)) ∧ W = w') := Lib.hid fun W A3 c3 h => by rw [← hfL]; exact rfind_any A3 c3 L p W h (by omega)
    have hyc : Hid (∀ W A3, Rw shareE 3 W W.heap.size A3 L → ∃ g o, A3 = some ⟨g, o, none⟩ ∧ g < W.heap.size ∧ ∀ W', Below W.heap.size W W' → ∀ j u, (shareE (⟨p, wt, V⟩ : Share))[j]? = some u → W'.cell? ⟨g, o + k0 * 3 + j, none⟩ = some u) := Lib.hid fun W A3 h => by
      obtain ⟨g, o, e, hg, hq⟩ := h (by omega)
      exact ⟨g, o, e, hg, fun W' hb j u hu => (hb.cell (p := ⟨g, o + k0 * 3 + j, none⟩) hg).trans (hq k0 _ hy j u hu)⟩
    have k1 : (0 : Int) ≤ (k0 : Int) := by omega
    have k2 : ¬ (k0 : Int) < 0 := by omega
    have hlz : ((L.length : Int) != (l.length : Int) + 1) = false := by rw [bne_eq_false_iff_eq]; omega
    have k3 : (k0 : Int) < (L.length : Int) := by omega
    have hww : (wt.1 == wt.1) = true := by simp
    have hlw : IntKind.i64.wrap ((l.length : Int) + 1) = (l.length : Int) + 1 := IntWalk.i64_in _ (by omega)
    replace hL := Lib.hid hL
    replace hE := Lib.hid hE
    replace hfn := Lib.hid hfn
    replace hfL := Lib.hid hfL
    replace hy := Lib.hid hy
    replace hv := Lib.hid hv
    replace hlen := Lib.hid hlen
    replace hunder := Lib.hid hunder
    replace habove := Lib.hid habove
    replace hVz := Lib.hid hVz
    clear hfp
    obtain ⟨jm, xm, hjm⟩ : ∃ jm, ∃ xm : Share, 0 < l.length → l[jm]? = some xm ∧ lesS ⟨p, wt, V⟩ xm = false := by
      rcases Nat.eq_zero_or_pos l.length with h | h
      · exact ⟨0, zS, fun h2 => by omega⟩
      · obtain ⟨j, x, h1, h2⟩ := habove.out h
        exact ⟨j, x, fun _ => ⟨h1, h2⟩⟩
    replace hjm := Lib.hid hjm
    rcases Nat.eq_zero_or_pos l.length with h0 | h0
    · have hfw : Hid (∀ W, Below w.heap.size w W → Calls Tryd.prog 9 #[.slice A l.length c] W fun e w' => e = .returned (.bool true) ∧ W = w') := Lib.hid fun W hb => by rw [← hf]; exact few_any A c l W (hrd.out W hb) hm
      have hz2 : (V.1 == 0) = true := by rw [hVz.out h0]; rfl
      have hVz2 : V.1 = 0 := hVz.out h0
      have hl1 : (L.length : Int) = 1 := by have := hlen.out; omega
      clear hlz
      rw [h0] at hfw hva hfi h1 ⊢
      replace h0 := Lib.hid h0
      go_enter Tryd.func6, Tryd.ntmps6
      go_wp2_with (first
        | (go_at_call 9; go_must (refine (hfw.out _ (by repeat (first | (with_reducible exact Below.refl _ _) | (with_reducible refine Below.drew ?_) | (with_reducible refine below_drewN ?_ _) | ((with_reducible refine Below.alloc ?_ ?_ _); rotate_left; focus ((try simp) <;> omega)) | ((with_reducible refine Below.setCell ?_ ?_ _); rotate_left; focus ((try simp) <;> omega)) | ((with_reducible refine Below.trans ?_ (Below.mono (by assumption) ?_)); rotate_left; focus ((try simp) <;> omega))))).mono ?_; rintro e w1 ⟨rfl, rfl⟩))
        | (go_at_call 19; go_must (refine (hva.out _ (by repeat (first | (with_reducible exact Below.refl _ _) | (with_reducible refine Below.drew ?_) | (with_reducible refine below_drewN ?_ _) | ((with_reducible refine Below.alloc ?_ ?_ _); rotate_left; focus ((try simp) <;> omega)) | ((with_reducible refine Below.setCell ?_ ?_ _); rotate_left; focus ((try simp) <;> omega)) | ((with_reducible refine Below.trans ?_ (Below.mono (by assumption) ?_)); rotate_left; focus ((try simp) <;> omega))))).mono ?_; rintro e w1 ⟨rfl, hb1⟩; have hz1 := hb1.size))
        | (go_at_call 20; with_reducible refine (hfi.out _ (by repeat (first | (with_reducible exact Below.refl _ _) | (with_reducible refine Below.drew ?_) | (with_reducible refine below_drewN ?_ _) | ((with_reducible refine Below.alloc ?_ ?_ _); rotate_left; focus ((try simp) <;> omega)) | ((with_reducible refine Below.setCell ?_ ?_ _); rotate_left; focus ((try simp) <;> omega)) | ((with_reducible refine Below.trans ?_ (Below.mono (by assumption) ?_)); rotate_left; focus ((try simp) <;> omega))))).mono ?_; rintro e w2 ⟨rfl, rfl⟩)
        | (go_at_call 11; go_must (refine (h1.out _ (by repeat (first | (with_reducible exact Below.refl _ _) | (with_reducible refine Below.drew ?_) | (with_reducible refine below_drewN ?_ _) | ((with_reducible refine Below.alloc ?_ ?_ _); rotate_left; focus ((try simp) <;> omega)) | ((with_reducible refine Below.setCell ?_ ?_ _); rotate_left; focus ((try simp) <;> omega)) | ((with_reducible refine Below.trans ?_ (Below.mono (by assumption) ?_)); rotate_left; focus ((try simp) <;> omega))))).mono ?_; rintro e w3 ⟨A3, c3, rfl, hr3, hl3, hb3⟩; have hz3 := hb3.size; obtain ⟨g3, o3, rfl, hg3, hy3⟩ := hyc.out _ _ hr3; replace hy3 := Lib.hid hy3))
        | (go_at_call 20; with_reducible refine (hfiL.out _ _ _ hr3).mono ?_; rintro e w4 ⟨rfl, rfl⟩; have y1 := hy3.out w3 (Below.refl _ _) 1 (.int .i64 wt.1) rfl; have y2 := hy3.out w3 (Below.refl _ _) 2 (.int .i64 V.1) rfl))
      go_loopw [10, 11] (fun vu vi wr => vu = .bool true ∧ vi = .int .i64 0 ∧ wr = w3) (fun _ _ _ => 0)
      case atStart => exact ⟨rfl, rfl, rfl⟩
      case round =>
        obtain ⟨rfl, rfl, rfl⟩ := hrel
        go_wp2_with fail
        obtain ⟨W5, hW5⟩ : ∃ W5, wr = W5 := ⟨_, rfl⟩
        subst hW5
        go_loopw [13, 14] (fun va vi wq => va = .bool true ∧ vi = .int .i64 0 ∧ wq = wr) (fun _ _ _ => 0)
        case atStart => exact ⟨rfl, rfl, rfl⟩
        case round =>
          obtain ⟨rfl, rfl, rfl⟩ := hrel
          go_wp2_with (go_at_call 10; go_must (refine (awake_any _).mono ?_; rintro e w9 ⟨rfl, hb9⟩))
          go_ret
          exact ⟨rfl, (by repeat (first | (with_reducible exact Below.refl _ _) | (with_reducible refine Below.drew ?_) | (with_reducible refine below_drewN ?_ _) | ((with_reducible refine Below.alloc ?_ ?_ _); rotate_left; focus ((try simp) <;> omega)) | ((with_reducible refine Below.setCell ?_ ?_ _); rotate_left; focus ((try simp) <;> omega)) | ((with_reducible refine Below.trans ?_ (Below.mono (by assumption) ?_)); rotate_left; focus ((try simp) <;> omega))))⟩
    · have hz0 : (l.length : Int) > 0 := by omega
      have lz1 : ((l.length : Int) == 0) = false := by rw [beq_eq_false_iff_ne]; omega
      go_enter Tryd.func6, Tryd.ntmps6
      go_wp2_with (first
        | (go_at_call 9; go_must (refine (few_any A c l _ (hrd.out _ (by repeat (first | (with_reducible exact Below.refl _ _) | (with_reducible refine Below.drew ?_) | (with_reducible refine below_drewN ?_ _) | ((with_reducible refine Below.alloc ?_ ?_ _); rotate_left; focus ((try simp) <;> omega)) | ((with_reducible refine Below.setCell ?_ ?_ _); rotate_left; focus ((try simp) <;> omega)) | ((with_reducible refine Below.trans ?_ (Below.mono (by assumption) ?_)); rotate_left; focus ((try simp) <;> omega))))) hm).mono ?_; rw [hf]; rintro e w1 ⟨rfl, rfl⟩))
        | (go_at_call 19; go_must (refine (hva.out _ (by repeat (first | (with_reducible exact Below.refl _ _) | (with_reducible refine Below.drew ?_) | (with_reducible refine below_drewN ?_ _) | ((with_reducible refine Below.alloc ?_ ?_ _); rotate_left; focus ((try simp) <;> omega)) | ((with_reducible refine Below.setCell ?_ ?_ _); rotate_left; focus ((try simp) <;> omega)) | ((with_reducible refine Below.trans ?_ (Below.mono (by assumption) ?_)); rotate_left; focus ((try simp) <;> omega))))).mono ?_; rintro e w1 ⟨rfl, hb1⟩; have hz1 := hb1.size))
        | (go_at_call 20; with_reducible refine (hfi.out _ (by repeat (first | (with_reducible exact Below.refl _ _) | (with_reducible refine Below.drew ?_) | (with_reducible refine below_drewN ?_ _) | ((with_reducible refine Below.alloc ?_ ?_ _); rotate_left; focus ((try simp) <;> omega)) | ((with_reducible refine Below.setCell ?_ ?_ _); rotate_left; focus ((try simp) <;> omega)) | ((with_reducible refine Below.trans ?_ (Below.mono (by assumption) ?_)); rotate_left; focus ((try simp) <;> omega))))).mono ?_; rintro e w2 ⟨rfl, rfl⟩)
        | (go_at_call 11; go_must (refine (h1.out _ (by repeat (first | (with_reducible exact Below.refl _ _) | (with_reducible refine Below.drew ?_) | (with_reducible refine below_drewN ?_ _) | ((with_reducible refine Below.alloc ?_ ?_ _); rotate_left; focus ((try simp) <;> omega)) | ((with_reducible refine Below.setCell ?_ ?_ _); rotate_left; focus ((try simp) <;> omega)) | ((with_reducible refine Below.trans ?_ (Below.mono (by assumption) ?_)); rotate_left; focus ((try simp) <;> omega))))).mono ?_; rintro e w3 ⟨A3, c3, rfl, hr3, hl3, hb3⟩; have hz3 := hb3.size; obtain ⟨g3, o3, rfl, hg3, hy3⟩ := hyc.out _ _ hr3; replace hy3 := Lib.hid hy3))
        | (go_at_call 20; with_reducible refine (hfiL.out _ _ _ hr3).mono ?_; rintro e w4 ⟨rfl, rfl⟩; have y1 := hy3.out w3 (Below.refl _ _) 1 (.int .i64 wt.1) rfl; have y2 := hy3.out w3 (Below.refl _ _) 2 (.int .i64 V.1) rfl))
      clear y1 y2
      have hb03 : Below w.heap.size w w3 := (by repeat (first | (with_reducible exact Below.refl _ _) | (with_reducible refine Below.drew ?_) | (with_reducible refine below_drewN ?_ _) | ((with_reducible refine Below.alloc ?_ ?_ _); rotate_left; focus ((try simp) <;> omega)) | ((with_reducible refine Below.setCell ?_ ?_ _); rotate_left; focus ((try simp) <;> omega)) | ((with_reducible refine Below.trans ?_ (Below.mono (by assumption) ?_)); rotate_left; focus ((try simp) <;> omega))))
      go_loopw [10, 11] (fun vu vi wr => ∃ k : Nat, k ≤ l.length ∧ vu = .bool true ∧ vi = .int .i64 (k : Int) ∧ Below w3.heap.size w3 wr) (fun _ vi _ => l.length - (intOf vi).toNat)
      case atStart => exact ⟨0, Nat.zero_le _, rfl, rfl, Below.refl _ _⟩
      case round =>
        obtain ⟨k, hk, rfl, rfl, hbw⟩ := hrel
        have hz := hbw.size
        have y2 := hy3.out wr hbw 2 (.int .i64 V.1) rfl
        by_cases hkl : k < l.length
        · have i0 : (0 : Int) ≤ (k : Int) := by omega
          have i1 : (k : Int) < (l.length : Int) := by omega
          by_cases hVp : V.1 > 0
          · obtain ⟨x, hx⟩ := get_some hkl
            obtain ⟨g, o, rfl, hg, hq⟩ := hxc.out (by omega)
            obtain ⟨Z, hZ⟩ := as_i64 (n := V.1 - 1) (by have := V.2; omega)
            have hzw : IntKind.i64.wrap (V.1 - 1) = Z.1 := by rw [hZ]; exact IntWalk.i64_in _ (by have := Z.2; omega)
            have hls := fun W => rless_any ⟨p, wt, Z⟩ x W
            rw [hunder.out Z hZ.symm x (List.mem_of_getElem? hx)] at hls
            replace hls := Lib.hid hls
            replace hZ := Lib.hid hZ
            have q := hq wr (hb03.trans (hbw.mono (by omega))) k x hx
            have q0 := q 0 (.string x.proj.1) rfl
            rw [Nat.add_zero] at q0
            have q1 := q 1 (.int .i64 x.weight.1) rfl
            have q2 := q 2 (.int .i64 x.served.1) rfl
            clear q hq
            replace hx := Lib.hid hx
            obtain ⟨W1, hW1⟩ : ∃ W1, wr.alloc (.cells #[.string p.1, .int .i64 wt.1, .int .i64 Z.1] 39) = W1 := ⟨_, rfl⟩
            have hbA : Below wr.heap.size wr W1 := by rw [← hW1]; exact (Below.refl _ _).alloc (Nat.le_refl _) _
            have hzA : W1.heap.size = wr.heap.size + 1 := by rw [← hW1]; simp
            have a0 := box_cells wr #[.string p.1, .int .i64 wt.1, .int .i64 Z.1] 39 0 _ rfl
            have a1 := box_cells wr #[.string p.1, .int .i64 wt.1, .int .i64 Z.1] 39 1 _ rfl
            have a2 := box_cells wr #[.string p.1, .int .i64 wt.1, .int .i64 Z.1] 39 2 _ rfl
            rw [hW1] at a0 a1 a2
            have hzA1 := Nat.le_of_eq hzA
            have hzA2 := Nat.le_of_eq hzA.symm
            replace hzA := Lib.hid hzA
            go_wp2_with fail
            clear hW1 y2
            have p0 := fun d os => cell_regrown ((hbA.cell (p := ⟨g, o + k * 3, none⟩) (by show g < _; omega)).trans q0) d os
            have p1 := fun d os => cell_regrown ((hbA.cell (p := ⟨g, o + k * 3 + 1, none⟩) (by show g < _; omega)).trans q1) d os
            have p2 := fun d os => cell_regrown ((hbA.cell (p := ⟨g, o + k * 3 + 2, none⟩) (by show g < _; omega)).trans q2) d os
            clear q0 q1 q2
            replace a0 := fun d os => cell_regrown a0 d os
            replace a1 := fun d os => cell_regrown a1 d os
            replace a2 := fun d os => cell_regrown a2 d os
            refine wp_region_quiet_below (by kernel_rfl) (by kernel_rfl) ?_
            repeat (go_big_quiet_step ((go_at_call 21; exact Calls.regrown_of (hls.out _))))
            refine wpQuiet_nil ?_
            intro w7 hw7
            have hb7 := below_of_regrown hw7
            clear hw7
            have hz7 := hb7.size
            go_wp2_with fail
            go_roundw
            case rel => exact ⟨k + 1, by omega, rfl, by go_num, (hbw.trans (hbA.mono (by omega))).trans (hb7.mono (by omega))⟩
            case measure => simp [intOf]; omega
          · go_wp2_with fail
            clear y2 hk hkl
            obtain ⟨W5, hW5⟩ : ∃ W5, wr = W5 := ⟨_, rfl⟩
            subst hW5
            go_loopw [13, 14] (fun va vi wq => ∃ (k : Nat) (t : Bool), k ≤ l.length ∧ va = .bool t ∧ vi = .int .i64 (k : Int) ∧ (0 < l.length → jm < k → t = true) ∧ (l.length = 0 → t = true) ∧ Below w3.heap.size w3 wq) (fun _ vi _ => l.length - (intOf vi).toNat)
            case atStart => exact ⟨0, false, Nat.zero_le _, rfl, rfl, fun _ h => absurd h (by omega), fun h => by first | rfl | (exfalso; have := h0; omega), hbw⟩
            case round =>
              clear hbw hz
              obtain ⟨k, t, hk, rfl, rfl, ht1, ht2, hbw⟩ := hrel
              have hz := hbw.size
              replace ht1 := Lib.hid ht1
              replace ht2 := Lib.hid ht2
              by_cases hkl : k < l.length
              · have i0 : (0 : Int) ≤ (k : Int) := by omega
                have i1 : (k : Int) < (l.length : Int) := by omega
                rcases t with _ | _
                · obtain ⟨x, hx⟩ := get_some hkl
                  obtain ⟨g, o, rfl, hg, hq⟩ := hxc.out (by omega)
                  obtain ⟨C, hC⟩ : ∃ C, lesS ⟨p, wt, V⟩ x = C := ⟨_, rfl⟩
                  have hnx : Hid (0 < l.length → jm < k + 1 → (!C) = true) := Lib.hid fun h hj => by
                    by_cases e : jm < k
                    · have := ht1.out h e; cases this
                    · obtain rfl : jm = k := by omega
                      obtain ⟨e1, e2⟩ := hjm.out h
                      rw [hx] at e1
                      obtain rfl : x = xm := by simpa using e1
                      rw [← hC, e2]; rfl
                  have hls : Hid (∀ W, Calls Tryd.prog 21 #[.agg #[.string p.1, .int .i64 wt.1, .int .i64 V.1], .agg #[.string x.proj.1, .int .i64 x.weight.1, .int .i64 x.served.1]] W fun e w' => e = .returned (.bool C) ∧ Below W.heap.size W w') := Lib.hid fun W => by rw [← hC]; exact rless_any ⟨p, wt, V⟩ x W
                  have q := hq wr (hb03.trans (hbw.mono (by omega))) k x hx
                  have q0 := fun d os => cell_regrown (q 0 (.string x.proj.1) rfl) d os
                  have q1 := fun d os => cell_regrown (q 1 (.int .i64 x.weight.1) rfl) d os
                  have q2 := fun d os => cell_regrown (q 2 (.int .i64 x.served.1) rfl) d os
                  have r0 := fun d os => cell_regrown (hy3.out wr hbw 0 (.string p.1) rfl) d os
                  have r1 := fun d os => cell_regrown (hy3.out wr hbw 1 (.int .i64 wt.1) rfl) d os
                  have r2 := fun d os => cell_regrown (hy3.out wr hbw 2 (.int .i64 V.1) rfl) d os
                  rw [Nat.add_zero] at q0 r0
                  clear q hq
                  replace hx := Lib.hid hx
                  replace hC := Lib.hid hC
                  go_wp2_with fail
                  refine wp_region_quiet_below (by kernel_rfl) (by kernel_rfl) ?_
                  repeat (go_big_quiet_step ((go_at_call 21; exact Calls.regrown_of (hls.out _))))
                  refine wpQuiet_nil ?_
                  intro w8 hw8
                  have hb8 := below_of_regrown hw8
                  clear hw8
                  have hz8 := hb8.size
                  go_wp2_with fail
                  go_roundw
                  case rel => exact ⟨k + 1, !C, by omega, rfl, by go_num, hnx.out, fun h => by omega, hbw.trans (hb8.mono (by omega))⟩
                  case measure => simp [intOf]; omega
                · go_wp2_with fail
                  refine wp_region_quiet_below (by kernel_rfl) (by kernel_rfl) ?_
                  repeat (go_big_quiet_step (fail))
                  refine wpQuiet_nil ?_
                  intro w8 hw8
                  have hb8 := below_of_regrown hw8
                  clear hw8
                  have hz8 := hb8.size
                  go_wp2_with fail
                  go_roundw
                  case rel => exact ⟨k + 1, true, by omega, rfl, by go_num, fun _ _ => rfl, fun _ => rfl, hbw.trans (hb8.mono (by omega))⟩
                  case measure => simp [intOf]; omega
              · have i1 : ¬ (k : Int) < (l.length : Int) := by omega
                obtain rfl : t = true := by
                  rcases Nat.eq_zero_or_pos l.length with h | h
                  · exact ht2.out h
                  · have := (List.getElem?_eq_some_iff.1 (hjm.out h).1).1
                    exact ht1.out h (by omega)
                go_wp2_with (go_at_call 10; go_must (refine (awake_any _).mono ?_; rintro e w9 ⟨rfl, hb9⟩))
                go_ret
                exact ⟨rfl, (by repeat (first | (with_reducible exact Below.refl _ _) | (with_reducible refine Below.drew ?_) | (with_reducible refine below_drewN ?_ _) | ((with_reducible refine Below.alloc ?_ ?_ _); rotate_left; focus ((try simp) <;> omega)) | ((with_reducible refine Below.setCell ?_ ?_ _); rotate_left; focus ((try simp) <;> omega)) | ((with_reducible refine Below.trans ?_ (Below.mono (by assumption) ?_)); rotate_left; focus ((try simp) <;> omega))))⟩
        · have i1 : ¬ (k : Int) < (l.length : Int) := by omega
          go_wp2_with fail
          clear y2 hk hkl
          obtain ⟨W5, hW5⟩ : ∃ W5, wr = W5 := ⟨_, rfl⟩
          subst hW5
          go_loopw [13, 14] (fun va vi wq => ∃ (k : Nat) (t : Bool), k ≤ l.length ∧ va = .bool t ∧ vi = .int .i64 (k : Int) ∧ (0 < l.length → jm < k → t = true) ∧ (l.length = 0 → t = true) ∧ Below w3.heap.size w3 wq) (fun _ vi _ => l.length - (intOf vi).toNat)
          case atStart => exact ⟨0, false, Nat.zero_le _, rfl, rfl, fun _ h => absurd h (by omega), fun h => by first | rfl | (exfalso; have := h0; omega), hbw⟩
          case round =>
            clear hbw hz
            obtain ⟨k, t, hk, rfl, rfl, ht1, ht2, hbw⟩ := hrel
            have hz := hbw.size
            replace ht1 := Lib.hid ht1
            replace ht2 := Lib.hid ht2
            by_cases hkl : k < l.length
            · have i0 : (0 : Int) ≤ (k : Int) := by omega
              have i1 : (k : Int) < (l.length : Int) := by omega
              rcases t with _ | _
              · obtain ⟨x, hx⟩ := get_some hkl
                obtain ⟨g, o, rfl, hg, hq⟩ := hxc.out (by omega)
                obtain ⟨C, hC⟩ : ∃ C, lesS ⟨p, wt, V⟩ x = C := ⟨_, rfl⟩
                have hnx : Hid (0 < l.length → jm < k + 1 → (!C) = true) := Lib.hid fun h hj => by
                  by_cases e : jm < k
                  · have := ht1.out h e; cases this
                  · obtain rfl : jm = k := by omega
                    obtain ⟨e1, e2⟩ := hjm.out h
                    rw [hx] at e1
                    obtain rfl : x = xm := by simpa using e1
                    rw [← hC, e2]; rfl
                have hls : Hid (∀ W, Calls Tryd.prog 21 #[.agg #[.string p.1, .int .i64 wt.1, .int .i64 V.1], .agg #[.string x.proj.1, .int .i64 x.weight.1, .int .i64 x.served.1]] W fun e w' => e = .returned (.bool C) ∧ Below W.heap.size W w') := Lib.hid fun W => by rw [← hC]; exact rless_any ⟨p, wt, V⟩ x W
                have q := hq wr (hb03.trans (hbw.mono (by omega))) k x hx
                have q0 := fun d os => cell_regrown (q 0 (.string x.proj.1) rfl) d os
                have q1 := fun d os => cell_regrown (q 1 (.int .i64 x.weight.1) rfl) d os
                have q2 := fun d os => cell_regrown (q 2 (.int .i64 x.served.1) rfl) d os
                have r0 := fun d os => cell_regrown (hy3.out wr hbw 0 (.string p.1) rfl) d os
                have r1 := fun d os => cell_regrown (hy3.out wr hbw 1 (.int .i64 wt.1) rfl) d os
                have r2 := fun d os => cell_regrown (hy3.out wr hbw 2 (.int .i64 V.1) rfl) d os
                rw [Nat.add_zero] at q0 r0
                clear q hq
                replace hx := Lib.hid hx
                replace hC := Lib.hid hC
                go_wp2_with fail
                refine wp_region_quiet_below (by kernel_rfl) (by kernel_rfl) ?_
                repeat (go_big_quiet_step ((go_at_call 21; exact Calls.regrown_of (hls.out _))))
                refine wpQuiet_nil ?_
                intro w8 hw8
                have hb8 := below_of_regrown hw8
                clear hw8
                have hz8 := hb8.size
                go_wp2_with fail
                go_roundw
                case rel => exact ⟨k + 1, !C, by omega, rfl, by go_num, hnx.out, fun h => by omega, hbw.trans (hb8.mono (by omega))⟩
                case measure => simp [intOf]; omega
              · go_wp2_with fail
                refine wp_region_quiet_below (by kernel_rfl) (by kernel_rfl) ?_
                repeat (go_big_quiet_step (fail))
                refine wpQuiet_nil ?_
                intro w8 hw8
                have hb8 := below_of_regrown hw8
                clear hw8
                have hz8 := hb8.size
                go_wp2_with fail
                go_roundw
                case rel => exact ⟨k + 1, true, by omega, rfl, by go_num, fun _ _ => rfl, fun _ => rfl, hbw.trans (hb8.mono (by omega))⟩
                case measure => simp [intOf]; omega
            · have i1 : ¬ (k : Int) < (l.length : Int) := by omega
              obtain rfl : t = true := by
                rcases Nat.eq_zero_or_pos l.length with h | h
                · exact ht2.out h
                · have := (List.getElem?_eq_some_iff.1 (hjm.out h).1).1
                  exact ht1.out h (by omega)
              go_wp2_with (go_at_call 10; go_must (refine (awake_any _).mono ?_; rintro e w9 ⟨rfl, hb9⟩))
              go_ret
              exact ⟨rfl, (by repeat (first | (with_reducible exact Below.refl _ _) | (with_reducible refine Below.drew ?_) | (with_reducible refine below_drewN ?_ _) | ((with_reducible refine Below.alloc ?_ ?_ _); rotate_left; focus ((try simp) <;> omega)) | ((with_reducible refine Below.setCell ?_ ?_ _); rotate_left; focus ((try simp) <;> omega)) | ((with_reducible refine Below.trans ?_ (Below.mono (by assumption) ?_)); rotate_left; focus ((try simp) <;> omega))))⟩
  · obtain ⟨E, hEE⟩ : ∃ E, addE l p wt.1 = E := ⟨_, rfl⟩
    rw [add_err hE, hEE] at h1
    rw [hEE] at hE
    replace hEE := Lib.hid hEE
    have hsm : Hid (∀ W A3 c3, Below w.heap.size w W → Rw shareE 3 W W.heap.size A3 l → Calls Tryd.prog 13 #[.slice A3 l.length c3, .slice A l.length c] W fun e w' => e = .returned (.bool true) ∧ Below W.heap.size W w') := Lib.hid fun W A3 c3 hb h => sameS_any A3 A c3 c l W h (hrd.out W hb) (by omega)
    replace hfn := Lib.hid hfn
    clear hfp
    go_enter Tryd.func6, Tryd.ntmps6
    go_wp2_with (first
      | (go_at_call 9; go_must (refine (few_any A c l _ (hrd.out _ (by repeat (first | (with_reducible exact Below.refl _ _) | (with_reducible refine Below.drew ?_) | (with_reducible refine below_drewN ?_ _) | ((with_reducible refine Below.alloc ?_ ?_ _); rotate_left; focus ((try simp) <;> omega)) | ((with_reducible refine Below.setCell ?_ ?_ _); rotate_left; focus ((try simp) <;> omega)) | ((with_reducible refine Below.trans ?_ (Below.mono (by assumption) ?_)); rotate_left; focus ((try simp) <;> omega))))) hm).mono ?_; rw [hf]; rintro e w1 ⟨rfl, rfl⟩))
      | (go_at_call 19; go_must (refine (hva.out _ (by repeat (first | (with_reducible exact Below.refl _ _) | (with_reducible refine Below.drew ?_) | (with_reducible refine below_drewN ?_ _) | ((with_reducible refine Below.alloc ?_ ?_ _); rotate_left; focus ((try simp) <;> omega)) | ((with_reducible refine Below.setCell ?_ ?_ _); rotate_left; focus ((try simp) <;> omega)) | ((with_reducible refine Below.trans ?_ (Below.mono (by assumption) ?_)); rotate_left; focus ((try simp) <;> omega))))).mono ?_; rintro e w1 ⟨rfl, hb1⟩; have hz1 := hb1.size))
      | (go_at_call 20; go_must (refine (hfi.out _ (by repeat (first | (with_reducible exact Below.refl _ _) | (with_reducible refine Below.drew ?_) | (with_reducible refine below_drewN ?_ _) | ((with_reducible refine Below.alloc ?_ ?_ _); rotate_left; focus ((try simp) <;> omega)) | ((with_reducible refine Below.setCell ?_ ?_ _); rotate_left; focus ((try simp) <;> omega)) | ((with_reducible refine Below.trans ?_ (Below.mono (by assumption) ?_)); rotate_left; focus ((try simp) <;> omega))))).mono ?_; rintro e w2 ⟨rfl, rfl⟩))
      | (go_at_call 11; go_must (refine (h1.out _ (by repeat (first | (with_reducible exact Below.refl _ _) | (with_reducible refine Below.drew ?_) | (with_reducible refine below_drewN ?_ _) | ((with_reducible refine Below.alloc ?_ ?_ _); rotate_left; focus ((try simp) <;> omega)) | ((with_reducible refine Below.setCell ?_ ?_ _); rotate_left; focus ((try simp) <;> omega)) | ((with_reducible refine Below.trans ?_ (Below.mono (by assumption) ?_)); rotate_left; focus ((try simp) <;> omega))))).mono ?_; rintro e w3 ⟨A3, c3, rfl, hr3, hl3, hb3⟩; have hz3 := hb3.size))
      | (go_at_call 13; go_must (refine (hsm.out _ A3 c3 (by repeat (first | (with_reducible exact Below.refl _ _) | (with_reducible refine Below.drew ?_) | (with_reducible refine below_drewN ?_ _) | ((with_reducible refine Below.alloc ?_ ?_ _); rotate_left; focus ((try simp) <;> omega)) | ((with_reducible refine Below.setCell ?_ ?_ _); rotate_left; focus ((try simp) <;> omega)) | ((with_reducible refine Below.trans ?_ (Below.mono (by assumption) ?_)); rotate_left; focus ((try simp) <;> omega)))) hr3).mono ?_; rintro e w5 ⟨rfl, hb5⟩; have hz5 := hb5.size))
      | (go_at_call 10; go_must (refine (awake_any _).mono ?_; rintro e w9 ⟨rfl, hb9⟩)))
    go_ret
    exact ⟨rfl, (by repeat (first | (with_reducible exact Below.refl _ _) | (with_reducible refine Below.drew ?_) | (with_reducible refine below_drewN ?_ _) | ((with_reducible refine Below.alloc ?_ ?_ _); rotate_left; focus ((try simp) <;> omega)) | ((with_reducible refine Below.setCell ?_ ?_ _); rotate_left; focus ((try simp) <;> omega)) | ((with_reducible refine Below.trans ?_ (Below.mono (by assumption) ?_)); rotate_left; focus ((try simp) <;> omega))))⟩
/-- A world for the witness: the settled one, the listed tables holding what their initialisers lay. -/
noncomputable def laidWorld (os : Os) : World :=
  { World.holding Tryd.prog os ⟨#[], #[], []⟩ with heap := layAll Tryd.prog Rows.fairnessJoinsRow.laid (World.holding Tryd.prog os ⟨#[], #[], []⟩).heap }
theorem laid_met (os : Os) : laidMet Tryd.prog Rows.fairnessJoinsRow.laid ((laidWorld os).forCall (fun _ _ => 0) ⟨#[], #[.slice none 0 0, .string ByteArray.empty, .int .i64 0], []⟩).memory :=
  laidMet_of_run' 8 (by kernel_rfl) (by kernel_rfl)
theorem reads (os : Os) {H : Type} (enc : TypeId × Value → H) : ∃ places, DataW.whole enc Tryd.prog ((laidWorld os).forCall (fun _ _ => 0) ⟨#[], #[.slice none 0 0, .string ByteArray.empty, .int .i64 0], []⟩).memory Tryd.f6.params.toList Rows.fairnessJoinsSpec.vars false (#[.slice none 0 0, .string ByteArray.empty, .int .i64 0] : Array Value).toList 8 = some ([.nil, .lit (.string []), .lit (.int .i64 0)], [], places) :=
  ⟨[], by kernel_rfl⟩

set_option maxRecDepth 100000 in
theorem contract (H : Type) (enc : TypeId × Value → H) (W : World) (base : Nat) (args : Array Value) (ds gs : List (DataW H)) (before : List MemPlace)
    (hval : ∀ (j : Nat) t v, Tryd.f6.params[j]? = some t → args[j]? = some v → Value.okWide Tryd.prog W .any base t v)
    (hW : DataW.Whole enc Tryd.prog Tryd.f6.params.toList Rows.fairnessJoinsSpec.vars false W args.toList ds gs before) :
    Calls Tryd.prog 6 args W fun e W' => ∃ v, e = .returned v ∧ Rows.fairnessJoinsSpec.post enc Tryd.prog Tryd.f6 false true false false W args v W' := by
  have hW' := hW
  obtain ⟨p, q, hA0, hV, rfl, hfz, hnd⟩ := hW
  have hA : DataW.TrodAll enc Tryd.prog W 0 (fun _ => true) true Tryd.f6.params.toList args.toList ds p := hA0
  have hA1 := hA
  rw [Tryd.params6] at hA hval
  obtain ⟨rfl, rfl⟩ := trodVars_none hV
  simp only [List.append_nil] at hW'
  have hcall : Calls Tryd.prog 6 args W fun e w' => e = .returned (.bool true) ∧ Below W.heap.size W w' := by
    clear hA0 hV hfz hnd
    obtain ⟨v0, vs0, d0, ds0, p0, q0, hargs, rfl, rfl, h0, r0⟩ := trodAll_cons hA
    obtain ⟨v1, vs1, d1, ds1, p1, q1, rfl, rfl, rfl, h1, r1⟩ := trodAll_cons r0
    obtain ⟨v2, vs2, d2, ds2, p2, q2, rfl, rfl, rfl, h2, r2⟩ := trodAll_cons r1
    obtain ⟨rfl, rfl, rfl⟩ := trodAll_nil r2
    obtain rfl : args = #[v0, v1, v2] := by cases args; simp_all
    obtain ⟨A, l, c, rfl, hlc, hcm, hr⟩ := open_rows shareE_len (by omega) Tryd.underlying22 (by kernel_rfl) shareE_of (hval 0 22 v0 rfl rfl) h0
    unfold maxLen at hcm
    obtain ⟨p, rfl, rfl, rfl, y1⟩ := Go.ChangeMaps.open_string Tryd.underlying9 (hval 1 9 v1 rfl rfl) h1
    obtain ⟨a2, rfl, rfl, rfl, w2⟩ := open_int Tryd.underlying3 (hval 2 3 v2 rfl rfl) h2
    exact walk A c l ⟨p, y1⟩ ⟨a2, bounds_i64 w2⟩ W hr hlc (by omega)
  have hds : ds.length = 3 := (trodAll_length hA).1
  refine hcall.mono fun e W' ⟨he, hb⟩ => ?_
  subst he
  refine ⟨_, rfl, law_post hW' rfl hA1 (by kernel_rfl) laidOut Tryd.underlying4 (by kernel_rfl) ?_ hb⟩
  match ds, hds with
  | [_, _, _], _ => rfl

set_option maxRecDepth 100000 in
theorem lifted (os : Os) (started : os.Started) (H : Type) (enc : TypeId × Value → H) (F : Stop.Interp) :
    ReturnsInHanded {} Tryd.checked os 6 .any ((OpenSpec.ofChange Rows.fairnessJoinsSpec).preRow enc Tryd.prog Tryd.f6 Rows.fairnessJoinsRow.domain false Rows.fairnessJoinsRow.laid) (((OpenSpec.ofChange Rows.fairnessJoinsSpec).at F).post enc Tryd.prog Tryd.f6 false true false false) := by
  obtain ⟨places, hx⟩ := reads os enc
  refine returnsInHanded_of_row (C := Tryd.checked) (s := OpenSpec.ofChange Rows.fairnessJoinsSpec) own started (by kernel_rfl) Tryd.func6
    (witness_row_at (enc := enc) (C := Tryd.checked) false (laidWorld os) #[.slice none 0 0, .string ByteArray.empty, .int .i64 0] rfl (by kernel_rfl) (by kernel_rfl) (by kernel_rfl)
      (OpenSpec.preRow_of_cond 8 hx (by kernel_rfl) (fun k hk => by cases hk) (by kernel_rfl) (laid_met os))) ?_
  intro W base args ds gs before hval hW _ _ _ _ _ _
  exact contract H enc W base args ds gs before hval hW

theorem said : Rows.FairnessJoinsSaid :=
  OpenClaim.holds_of_cond 6 Tryd.f6 rfl rfl rfl rfl rfl rfl rfl ⟨rfl, rfl, rfl, rfl, rfl⟩ rfl rfl rfl rfl rfl (by kernel_rfl) Tryd.func6 (by kernel_rfl)
    (of_decide_eq_true (by kernel_rfl)) (by unfold Func.isWrapper; first | (rw [if_pos (by decide +kernel)]; kernel_rfl) | (rw [if_neg (by decide +kernel)]; exact ⟨rfl, rfl⟩))
    (fun os started H enc _ F => by rw [OpenClaim.pre_eq_preRow]; exact lifted os started H enc F)

theorem plain (f : FuncId) (fn : Func) (hf : Tryd.pinned.checked.prog.funcNamed Rows.fairnessJoinsRow.func = some f) (hfn : Tryd.pinned.checked.prog.funcs[f]? = some fn) :
    false = Tryd.pinned.checked.prog.looks [] ∧ ∀ (j : Nat) t, fn.params[j]? = some t → Tryd.pinned.checked.prog.wantsStandIn t = false := by
  obtain rfl : f = 6 := Option.some.inj ((show Tryd.prog.funcNamed Rows.fairnessJoinsRow.func = some 6 by kernel_rfl).symm.trans hf) |>.symm
  obtain rfl : fn = Tryd.f6 := (Option.some.inj (Tryd.func6.symm.trans hfn)).symm
  refine ⟨by kernel_rfl, fun j t ht => ?_⟩
  have hall : (Tryd.f6.params.toList.all fun t => !(Tryd.pinned.checked.prog.wantsStandIn t)) = true := by kernel_rfl
  have hm : t ∈ Tryd.f6.params.toList := Array.mem_toList_iff.2 (Array.mem_of_getElem? ht)
  simpa using List.all_eq_true.1 hall t hm

theorem proved : Rows.FairnessJoinsCardSaid :=
  Claim7.holds_tied_plain_at .later [] _ _ _ _ said (fun _ h => by cases h) (by kernel_rfl) (fun _ h => by cases h) fairnessJoins_row_tie rfl ⟨rfl, rfl⟩ (by kernel_rfl) rfl plain (by kernel_rfl)
#print axioms proved
end Go.Proofs.YtopicpghhpkgbaaDoor.fairnessJoins
