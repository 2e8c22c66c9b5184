/-
  FairnessOrder: for every list of shares (at most 66, with short names) and every list of projects (at most 100, with short names), Order has each project once, the ratios do not decrease, and Pick returns the first one that is listed; the example holds. No condition.
-/
import Derived.Test.YtopicpghhpkgbaaDoorFa15
import Derived.Test.YtopicpghhpkgbaaDoorLayTab





namespace Go.Proofs.YtopicpghhpkgbaaDoor.fairnessOrder
open Go.ChangeShapes Go.WideShapes Go.ChangeAt Go.RowKit Go.Joins
theorem own : ownKnob Tryd.prog.godebug = none := by kernel_rfl
theorem laidOut : laidOutB Tryd.prog = true := by kernel_rfl

set_option maxRecDepth 100000 in
set_option maxHeartbeats 16000000 in
theorem walk (A B : Option Addr) (c d : Nat) (l : List Share) (ps : List Str) (w : World) (hr : Rw shareE 3 w w.heap.size A l) (hp : Rw sE 1 w w.heap.size B ps) (hm : l.length ≤ 9223372036854775807) (hdm : ps.length ≤ 9223372036854775807) :
    Calls Tryd.prog 7 #[.slice A l.length c, .slice B ps.length d] w fun e w' => e = .returned (.bool true) ∧ Below w.heap.size w w' := by
  have hrd : Hid (∀ W, Below w.heap.size w W → Rw shareE 3 W W.heap.size A l) := Lib.hid fun W hb => (hr.below hb (Nat.le_refl _)).more hb.size
  have hpd : Hid (∀ W, Below w.heap.size w W → Rw sE 1 W W.heap.size B ps) := Lib.hid fun W hb => (hp.below hb (Nat.le_refl _)).more hb.size
  have hxc : Hid (0 < l.length → ∃ g o, A = some ⟨g, o, none⟩ ∧ g < w.heap.size ∧ ∀ W, Below w.heap.size w W → ∀ k x, l[k]? = some x → ∀ j u, (shareE x)[j]? = some u → W.cell? ⟨g, o + k * 3 + j, none⟩ = some u) := Lib.hid fun h0 => by
    obtain ⟨g, o, e, hg, hq⟩ := hr h0
    exact ⟨g, o, e, hg, fun W hb k x hx j u hu => (hb.cell (p := ⟨g, o + k * 3 + j, none⟩) hg).trans (hq k x hx j u hu)⟩
  have hpc : Hid (∀ i t, ps[i]? = some t → ∃ g o, B = some ⟨g, o, none⟩ ∧ ∀ W, Below w.heap.size w W → W.cell? ⟨g, o + i, none⟩ = some (.string t.1)) := Lib.hid fun i s hs => by
    have hi := (List.getElem?_eq_some_iff.1 hs).1
    obtain ⟨g, o, e, hg, hc⟩ := hp.str (by omega)
    exact ⟨g, o, e, fun W hb => (hb.cell (p := ⟨g, o + i, none⟩) hg).trans (hc i s hs)⟩
  clear hr hp
  rcases hf : fewB l with _ | _
  · go_enter Tryd.func7, Tryd.ntmps7
    go_wp2_with (first | (go_at_call 9; go_must (refine (few_any A c l _ (hrd.out _ (by repeat (first | (with_reducible exact Below.refl _ _) | (with_reducible refine Below.drew ?_) | (with_reducible refine below_drewN ?_ _) | ((with_reducible refine Below.alloc ?_ ?_ _); rotate_left; focus ((try simp) <;> omega)) | ((with_reducible refine Below.setCell ?_ ?_ _); rotate_left; focus ((try simp) <;> omega)) | ((with_reducible refine Below.trans ?_ (Below.mono (by assumption) ?_)); rotate_left; focus ((try simp) <;> omega))))) hm).mono ?_; rw [hf]; rintro e w1 ⟨rfl, rfl⟩)) | (go_at_call 10; go_must (refine (awake_any _).mono ?_; rintro e w9 ⟨rfl, hb9⟩)))
    go_ret
    exact ⟨rfl, (by repeat (first | (with_reducible exact Below.refl _ _) | (with_reducible refine Below.drew ?_) | (with_reducible refine below_drewN ?_ _) | ((with_reducible refine Below.alloc ?_ ?_ _); rotate_left; focus ((try simp) <;> omega)) | ((with_reducible refine Below.setCell ?_ ?_ _); rotate_left; focus ((try simp) <;> omega)) | ((with_reducible refine Below.trans ?_ (Below.mono (by assumption) ?_)); rotate_left; focus ((try simp) <;> omega))))⟩
  have h66 := fewG_len hf
  rcases hs : shortB ps with _ | _
  · go_enter Tryd.func7, Tryd.ntmps7
    go_wp2_with (first | (go_at_call 9; go_must (refine (few_any A c l _ (hrd.out _ (by repeat (first | (with_reducible exact Below.refl _ _) | (with_reducible refine Below.drew ?_) | (with_reducible refine below_drewN ?_ _) | ((with_reducible refine Below.alloc ?_ ?_ _); rotate_left; focus ((try simp) <;> omega)) | ((with_reducible refine Below.setCell ?_ ?_ _); rotate_left; focus ((try simp) <;> omega)) | ((with_reducible refine Below.trans ?_ (Below.mono (by assumption) ?_)); rotate_left; focus ((try simp) <;> omega))))) hm).mono ?_; rw [hf]; rintro e w1 ⟨rfl, rfl⟩)) | (go_at_call 16; go_must (refine (short_any B d ps _ (hpd.out _ (by repeat (first | (with_reducible exact Below.refl _ _) | (with_reducible refine Below.drew ?_) | (with_reducible refine below_drewN ?_ _) | ((with_reducible refine Below.alloc ?_ ?_ _); rotate_left; focus ((try simp) <;> omega)) | ((with_reducible refine Below.setCell ?_ ?_ _); rotate_left; focus ((try simp) <;> omega)) | ((with_reducible refine Below.trans ?_ (Below.mono (by assumption) ?_)); rotate_left; focus ((try simp) <;> omega))))) hdm).mono ?_; rw [hs]; rintro e w2 ⟨rfl, rfl⟩)) | (go_at_call 10; go_must (refine (awake_any _).mono ?_; rintro e w9 ⟨rfl, hb9⟩)))
    go_ret
    exact ⟨rfl, (by repeat (first | (with_reducible exact Below.refl _ _) | (with_reducible refine Below.drew ?_) | (with_reducible refine below_drewN ?_ _) | ((with_reducible refine Below.alloc ?_ ?_ _); rotate_left; focus ((try simp) <;> omega)) | ((with_reducible refine Below.setCell ?_ ?_ _); rotate_left; focus ((try simp) <;> omega)) | ((with_reducible refine Below.trans ?_ (Below.mono (by assumption) ?_)); rotate_left; focus ((try simp) <;> omega))))⟩
  have h100 := fewG_len hs
  have hva : Hid (∀ W, Below w.heap.size w W → Calls Tryd.prog 19 #[.slice A l.length c] W fun e w' => e = .returned (.bool (validS l)) ∧ Below W.heap.size W w') := Lib.hid fun W hb => rvalid_any A c l W (hrd.out W hb) (by omega)
  have hor0 := fun W hb => ordS_any A c l W (hrd.out W hb) (by omega)
  rcases hv : validS l with _ | _
  · rw [hv] at hva
    have hor : Hid (∀ W, Below w.heap.size w W → Calls Tryd.prog 22 #[.slice A l.length c] W fun e w' => ∃ A' c', e = .returned (.slice A' 0 c') ∧ Below W.heap.size W w') := Lib.hid fun W hb => (hor0 W hb).mono fun _ _ ⟨A', c', os, h1, h2, _, _, h3⟩ => ⟨A', c', by rw [h1, h2.1 hv]; rfl, h3⟩
    clear hor0
    go_enter Tryd.func7, Tryd.ntmps7
    go_wp2_with (first | (go_at_call 9; go_must (refine (few_any A c l _ (hrd.out _ (by repeat (first | (with_reducible exact Below.refl _ _) | (with_reducible refine Below.drew ?_) | (with_reducible refine below_drewN ?_ _) | ((with_reducible refine Below.alloc ?_ ?_ _); rotate_left; focus ((try simp) <;> omega)) | ((with_reducible refine Below.setCell ?_ ?_ _); rotate_left; focus ((try simp) <;> omega)) | ((with_reducible refine Below.trans ?_ (Below.mono (by assumption) ?_)); rotate_left; focus ((try simp) <;> omega))))) hm).mono ?_; rw [hf]; rintro e w1 ⟨rfl, rfl⟩)) | (go_at_call 16; go_must (refine (short_any B d ps _ (hpd.out _ (by repeat (first | (with_reducible exact Below.refl _ _) | (with_reducible refine Below.drew ?_) | (with_reducible refine below_drewN ?_ _) | ((with_reducible refine Below.alloc ?_ ?_ _); rotate_left; focus ((try simp) <;> omega)) | ((with_reducible refine Below.setCell ?_ ?_ _); rotate_left; focus ((try simp) <;> omega)) | ((with_reducible refine Below.trans ?_ (Below.mono (by assumption) ?_)); rotate_left; focus ((try simp) <;> omega))))) hdm).mono ?_; rw [hs]; rintro e w2 ⟨rfl, rfl⟩)) | (go_at_call 22; go_must (refine (hor.out _ (by repeat (first | (with_reducible exact Below.refl _ _) | (with_reducible refine Below.drew ?_) | (with_reducible refine below_drewN ?_ _) | ((with_reducible refine Below.alloc ?_ ?_ _); rotate_left; focus ((try simp) <;> omega)) | ((with_reducible refine Below.setCell ?_ ?_ _); rotate_left; focus ((try simp) <;> omega)) | ((with_reducible refine Below.trans ?_ (Below.mono (by assumption) ?_)); rotate_left; focus ((try simp) <;> omega))))).mono ?_; rintro e w3 ⟨A3, c3, rfl, hb3⟩; have hz3 := hb3.size)) | (go_at_call 19; go_must (refine (hva.out _ (by repeat (first | (with_reducible exact Below.refl _ _) | (with_reducible refine Below.drew ?_) | (with_reducible refine below_drewN ?_ _) | ((with_reducible refine Below.alloc ?_ ?_ _); rotate_left; focus ((try simp) <;> omega)) | ((with_reducible refine Below.setCell ?_ ?_ _); rotate_left; focus ((try simp) <;> omega)) | ((with_reducible refine Below.trans ?_ (Below.mono (by assumption) ?_)); rotate_left; focus ((try simp) <;> omega))))).mono ?_; rintro e w4 ⟨rfl, hb4⟩; have hz4 := hb4.size)) | (go_at_call 10; go_must (refine (awake_any _).mono ?_; rintro e w9 ⟨rfl, hb9⟩)))
    go_ret
    exact ⟨rfl, (by repeat (first | (with_reducible exact Below.refl _ _) | (with_reducible refine Below.drew ?_) | (with_reducible refine below_drewN ?_ _) | ((with_reducible refine Below.alloc ?_ ?_ _); rotate_left; focus ((try simp) <;> omega)) | ((with_reducible refine Below.setCell ?_ ?_ _); rotate_left; focus ((try simp) <;> omega)) | ((with_reducible refine Below.trans ?_ (Below.mono (by assumption) ?_)); rotate_left; focus ((try simp) <;> omega))))⟩
  · rw [hv] at hva
    have hor : Hid (∀ W, Below w.heap.size w W → Calls Tryd.prog 22 #[.slice A l.length c] W fun e w' => ∃ A' c', ∃ s : List Share, e = .returned (.slice A' s.length c') ∧ s.Perm l ∧ s.Pairwise (fun a b => befB b a = false) ∧ Rw sE 1 w' w'.heap.size A' (s.map (·.proj)) ∧ Below W.heap.size W w') := Lib.hid fun W hb => (hor0 W hb).mono fun _ _ ⟨A', c', os, h1, h2, h3, _, h4⟩ => by
      obtain ⟨s, p1, p2, rfl⟩ := h2.2 hv
      exact ⟨A', c', s, by rw [h1, List.length_map], p1, p2, h3, h4⟩
    have hasc : Hid (AscP l) := Lib.hid (valid_asc hv)
    have hfi0 : Hid (∀ W, Below w.heap.size w W → ∀ t : Str, Calls Tryd.prog 20 #[.slice A l.length c, .string t.1] W fun e w' => e = .returned (.int .i64 (findP t l)) ∧ W = w') := Lib.hid fun W hb t => rfind_any A c l t W (hrd.out W hb) (by omega)
    have hpk : Hid (∀ W b f, Below w.heap.size w W → Picked l ps b f → Calls Tryd.prog 17 #[.slice A l.length c, .slice B ps.length d] W fun e w' => e = .returned (.tuple #[.string b.proj.1, .bool f]) ∧ Below W.heap.size W w') := Lib.hid fun W b f hb hp => (pick_any A B c d l ps W (hrd.out W hb) (hpd.out W hb) (by omega) (by omega)).mono fun _ _ h => ⟨pick_of hv h.1 hp, h.2⟩
    clear hor0
    replace hv := Lib.hid hv
    go_enter Tryd.func7, Tryd.ntmps7
    go_wp2_with (first
      | (go_at_call 9; go_must (refine (few_any A c l _ (hrd.out _ (by repeat (first | (with_reducible exact Below.refl _ _) | (with_reducible refine Below.drew ?_) | (with_reducible refine below_drewN ?_ _) | ((with_reducible refine Below.alloc ?_ ?_ _); rotate_left; focus ((try simp) <;> omega)) | ((with_reducible refine Below.setCell ?_ ?_ _); rotate_left; focus ((try simp) <;> omega)) | ((with_reducible refine Below.trans ?_ (Below.mono (by assumption) ?_)); rotate_left; focus ((try simp) <;> omega))))) hm).mono ?_; rw [hf]; rintro e w1 ⟨rfl, rfl⟩))
      | (go_at_call 16; go_must (refine (short_any B d ps _ (hpd.out _ (by repeat (first | (with_reducible exact Below.refl _ _) | (with_reducible refine Below.drew ?_) | (with_reducible refine below_drewN ?_ _) | ((with_reducible refine Below.alloc ?_ ?_ _); rotate_left; focus ((try simp) <;> omega)) | ((with_reducible refine Below.setCell ?_ ?_ _); rotate_left; focus ((try simp) <;> omega)) | ((with_reducible refine Below.trans ?_ (Below.mono (by assumption) ?_)); rotate_left; focus ((try simp) <;> omega))))) hdm).mono ?_; rw [hs]; rintro e w2 ⟨rfl, rfl⟩))
      | (go_at_call 22; go_must (refine (hor.out _ (by repeat (first | (with_reducible exact Below.refl _ _) | (with_reducible refine Below.drew ?_) | (with_reducible refine below_drewN ?_ _) | ((with_reducible refine Below.alloc ?_ ?_ _); rotate_left; focus ((try simp) <;> omega)) | ((with_reducible refine Below.setCell ?_ ?_ _); rotate_left; focus ((try simp) <;> omega)) | ((with_reducible refine Below.trans ?_ (Below.mono (by assumption) ?_)); rotate_left; focus ((try simp) <;> omega))))).mono ?_; rintro e w3 ⟨A3, c3, s, rfl, hpm, hpw, hr3, hb3⟩; have hz3 := hb3.size; have hlen := Nat.le_of_eq hpm.length_eq; have hlen2 := Nat.le_of_eq hpm.length_eq.symm; have hsl : ((s.length : Int) != (l.length : Int)) = false := (by rw [hpm.length_eq]; simp); replace hpm := Lib.hid hpm; replace hpw := Lib.hid hpw; replace hr3 := Lib.hid hr3))
      | (go_at_call 19; go_must (refine (hva.out _ (by repeat (first | (with_reducible exact Below.refl _ _) | (with_reducible refine Below.drew ?_) | (with_reducible refine below_drewN ?_ _) | ((with_reducible refine Below.alloc ?_ ?_ _); rotate_left; focus ((try simp) <;> omega)) | ((with_reducible refine Below.setCell ?_ ?_ _); rotate_left; focus ((try simp) <;> omega)) | ((with_reducible refine Below.trans ?_ (Below.mono (by assumption) ?_)); rotate_left; focus ((try simp) <;> omega))))).mono ?_; rintro e w4 ⟨rfl, hb4⟩; have hz4 := hb4.size)))
    have hoc : Hid (∀ k y, s[k]? = some y → ∃ g o, A3 = some ⟨g, o, none⟩ ∧ g < w3.heap.size ∧ ∀ W, Below w3.heap.size w3 W → W.cell? ⟨g, o + k, none⟩ = some (.string y.proj.1)) := Lib.hid fun k y hy => by
      have hk := (List.getElem?_eq_some_iff.1 hy).1
      obtain ⟨g, o, e, hg, h⟩ := hr3.out.str (by rw [List.length_map]; omega)
      exact ⟨g, o, e, hg, fun W hb => (hb.cell (p := ⟨g, o + k, none⟩) hg).trans (h k y.proj (by rw [List.getElem?_map, hy]; rfl))⟩
    have hb34 : Below w3.heap.size w3 w4 := hb4
    have hb03 : Below w.heap.size w w3 := (by repeat (first | (with_reducible exact Below.refl _ _) | (with_reducible refine Below.drew ?_) | (with_reducible refine below_drewN ?_ _) | ((with_reducible refine Below.alloc ?_ ?_ _); rotate_left; focus ((try simp) <;> omega)) | ((with_reducible refine Below.setCell ?_ ?_ _); rotate_left; focus ((try simp) <;> omega)) | ((with_reducible refine Below.trans ?_ (Below.mono (by assumption) ?_)); rotate_left; focus ((try simp) <;> omega))))
    go_loopw [6, 7, 8] (fun vw vf vi wr => ∃ (i : Nat) (b : Share) (f : Bool), i ≤ s.length ∧ vw = .string b.proj.1 ∧ vf = .bool f ∧ vi = .int .i64 (i : Int) ∧ FW ps s i b f ∧ Below w3.heap.size w3 wr) (fun _ _ vi _ => s.length - (intOf vi).toNat)
    case atStart => exact ⟨0, zS, false, Nat.zero_le _, rfl, rfl, rfl, FW.start, hb34⟩
    case round =>
      obtain ⟨i, b, f, hi, rfl, rfl, rfl, hfw, hbw⟩ := hrel
      have hz := hbw.size
      replace hfw := Lib.hid hfw
      by_cases hil : i < s.length
      · obtain ⟨y, hy⟩ := get_some hil
        obtain ⟨g3, o3, rfl, hg3, hc3⟩ := hoc.out i y hy
        have yc := hc3 wr hbw
        have hyl := hpm.out.mem_iff.1 (List.mem_of_getElem? hy)
        obtain ⟨k, hfk, hk⟩ := findP_mem hasc.out hyl
        have hkl := (List.getElem?_eq_some_iff.1 hk).1
        have i0 : (0 : Int) ≤ (i : Int) := by omega
        have i1 : (i : Int) < (s.length : Int) := by omega
        have k0 : (0 : Int) ≤ (k : Int) := by omega
        have k1 : (k : Int) < (l.length : Int) := by omega
        have k2 : ¬ (k : Int) < 0 := by omega
        have hfi : Hid (∀ W, Below w.heap.size w W → Calls Tryd.prog 20 #[.slice A l.length c, .string y.proj.1] W fun e w' => e = .returned (.int .i64 (k : Int)) ∧ W = w') := Lib.hid fun W hb => by rw [← hfk]; exact hfi0.out W hb y.proj
        replace hfk := Lib.hid hfk
        replace hy := Lib.hid hy
        replace hk := Lib.hid hk
        replace hc3 := Lib.hid hc3
        go_wp2_with (go_at_call 20; go_must (refine (hfi.out _ (hb03.trans (hbw.mono (by omega)))).mono ?_; rintro e w5 ⟨rfl, rfl⟩))
        clear yc
        obtain ⟨W1, hW1⟩ : ∃ W1, wr = W1 := ⟨_, rfl⟩
        subst hW1
        go_loopw [10] (fun vj wq => ∃ j : Nat, j ≤ i ∧ vj = .int .i64 (j : Int) ∧ Below w3.heap.size w3 wq) (fun vj _ => i - (intOf vj).toNat)
        case atStart => exact ⟨0, Nat.zero_le _, rfl, hbw⟩
        case round =>
          clear hbw hz
          obtain ⟨j, hj, rfl, hbw⟩ := hrel
          have hz := hbw.size
          by_cases hji : j < i
          · obtain ⟨z, hzz⟩ := get_some (show j < s.length by omega)
            obtain ⟨g4, o4, e4, hg4, hc4⟩ := hoc.out j z hzz
            obtain ⟨rfl, rfl⟩ : g3 = g4 ∧ o3 = o4 := by simpa using e4
            have zc := fun d os => cell_regrown (hc4 wr hbw) d os
            have yc := fun d os => cell_regrown (hc3.out wr hbw) d os
            have hne : (z.proj.1.toList == y.proj.1.toList) = false := by
              rw [eq_str]; exact decide_eq_false (order_ne hasc.out hpm.out hji hzz hy.out)
            have j0 : (0 : Int) ≤ (j : Int) := by omega
            have j1 : (j : Int) < (s.length : Int) := by omega
            have j2 : (j : Int) < (i : Int) := by omega
            clear e4 hc4
            replace hzz := Lib.hid hzz
            go_wp2_with fail
            refine wp_region_quiet_below (by kernel_rfl) (by kernel_rfl) ?_
            repeat (go_big_quiet_step (fail))
            refine wpQuiet_nil ?_
            intro w7 hw7
            have hb7 := below_of_regrown hw7
            clear hw7
            have hz7 := hb7.size
            go_wp2_with fail
            go_roundw
            case rel => exact ⟨j + 1, by omega, by go_num, hbw.trans (hb7.mono (by omega))⟩
            case measure => simp [intOf]; omega
          · have j2 : ¬ (j : Int) < (i : Int) := by omega
            go_wp2_with fail
            clear hj hji j2
            have hb0r : Below w.heap.size w wr := hb03.trans (hbw.mono (by omega))
            rcases Nat.eq_zero_or_pos i with hi0 | hi0
            · have i2 : decide ((i : Int) > 0) = false := decide_eq_false (by omega)
              have i3 : decide (0 < i) = false := decide_eq_false (by omega)
              have i5 : ¬ 0 < i := by omega
              replace hi0 := Lib.hid hi0
              refine wp_region_quiet_below (by kernel_rfl) (by kernel_rfl) ?_
              repeat (go_big_quiet_step (fail))
              refine wpQuiet_nil ?_
              intro w7 hw7
              have hb7 := below_of_regrown hw7
              clear hw7
              have hz7 := hb7.size
              replace hb7 := hbw.trans (hb7.mono (by omega))
              clear i2 i3 i5
              go_wp2_with fail
              go_loopw [6, 7, 11] (fun vw vf vj wq => ∃ (j : Nat) (b : Share) (f : Bool), j ≤ ps.length ∧ vw = .string b.proj.1 ∧ vf = .bool f ∧ vj = .int .i64 (j : Int) ∧ FI ps s i y b f j ∧ Below w3.heap.size w3 wq) (fun _ _ vj _ => ps.length - (intOf vj).toNat)
              case atStart => exact ⟨0, b, f, Nat.zero_le _, rfl, rfl, rfl, hfw.out.enter, hb7⟩
              case round =>
                clear hb7 hz7 hbw hz hfw
                obtain ⟨j, b, f, hj, rfl, rfl, rfl, hfw, hbw⟩ := hrel
                have hz := hbw.size
                replace hfw := Lib.hid hfw
                by_cases hjl : j < ps.length
                · have j1 : (j : Int) < (ps.length : Int) := by omega
                  rcases f with _ | _
                  · obtain ⟨t, ht⟩ := get_some hjl
                    obtain ⟨g5, o5, rfl, hc5⟩ := hpc.out j t ht
                    have tc := fun d os => cell_regrown (hc5 wr (hb03.trans (hbw.mono (by omega)))) d os
                    have yc0 := hc3.out wr hbw
                    have yc := fun d os => cell_regrown yc0 d os
                    have j0 : (0 : Int) ≤ (j : Int) := by omega
                    by_cases he : t = y.proj
                    · have heq : (t.1.toList == y.proj.1.toList) = true := by rw [eq_str]; exact decide_eq_true he
                      have hnx := Lib.hid (hfw.out.yes ht he hy.out)
                      replace ht := Lib.hid ht
                      replace he := Lib.hid he
                      clear hc5 yc0
                      go_wp2_with fail
                      refine wp_region_quiet_below (by kernel_rfl) (by kernel_rfl) ?_
                      repeat (go_big_quiet_step (fail))
                      refine wpQuiet_nil ?_
                      intro w8 hw8
                      have hb8 := below_of_regrown hw8
                      clear hw8
                      have hz8 := hb8.size
                      have yc1 := (hb8.cell (p := ⟨g3, o3 + i, none⟩) (by show g3 < _; omega)).trans (hc3.out wr hbw)
                      go_wp2_with fail
                      go_roundw
                      case rel => exact ⟨j + 1, y, true, by omega, rfl, rfl, by go_num, hnx.out, hbw.trans (hb8.mono (by omega))⟩
                      case measure => simp [intOf]; omega
                    · have heq : (t.1.toList == y.proj.1.toList) = false := by rw [eq_str]; exact decide_eq_false he
                      have hnx := Lib.hid (hfw.out.no ht he)
                      replace ht := Lib.hid ht
                      clear hc5 yc0
                      go_wp2_with fail
                      refine wp_region_quiet_below (by kernel_rfl) (by kernel_rfl) ?_
                      repeat (go_big_quiet_step (fail))
                      refine wpQuiet_nil ?_
                      intro w8 hw8
                      have hb8 := below_of_regrown hw8
                      clear hw8
                      have hz8 := hb8.size
                      go_wp2_with fail
                      go_roundw
                      case rel => exact ⟨j + 1, b, false, by omega, rfl, rfl, by go_num, hnx.out, hbw.trans (hb8.mono (by omega))⟩
                      case measure => simp [intOf]; omega
                  · have hnx := Lib.hid (hfw.out.leave (Or.inl rfl) hy.out)
                    go_wp2_with fail
                    go_roundw
                    case rel => exact ⟨i + 1, b, true, by omega, rfl, rfl, by go_num, hnx.out, hbw⟩
                    case measure => simp [intOf]; omega
                · have j1 : ¬ (j : Int) < (ps.length : Int) := by omega
                  have hnx := Lib.hid (hfw.out.leave (Or.inr (by omega)) hy.out)
                  go_wp2_with fail
                  go_roundw
                  case rel => exact ⟨i + 1, b, f, by omega, rfl, rfl, by go_num, hnx.out, hbw⟩
                  case measure => simp [intOf]; omega
            · have i2 : decide ((i : Int) > 0) = true := decide_eq_true (by omega)
              obtain ⟨i', hii⟩ : ∃ i', i = i' + 1 := ⟨i - 1, by omega⟩
              have i4 : IntKind.i64.wrap ((i : Int) - 1) = (i' : Int) := by
                rw [show ((i : Int) - 1) = (i' : Int) by omega]; exact IntWalk.i64_in _ (by omega)
              obtain ⟨z, hzz⟩ := get_some (show i' < s.length by omega)
              obtain ⟨g4, o4, e4, hg4, hc4⟩ := hoc.out i' z hzz
              obtain ⟨rfl, rfl⟩ : g3 = g4 ∧ o3 = o4 := by simpa using e4
              obtain ⟨m, hfm, hmm⟩ := findP_mem hasc.out (hpm.out.mem_iff.1 (List.mem_of_getElem? hzz))
              have hml := (List.getElem?_eq_some_iff.1 hmm).1
              have m0 : (0 : Int) ≤ (m : Int) := by omega
              have m1 : (m : Int) < (l.length : Int) := by omega
              have n0 : (0 : Int) ≤ (i' : Int) := by omega
              have n1 : (i' : Int) < (s.length : Int) := by omega
              have hlt := Lib.hid (show i' < i by omega)
              replace hii := Lib.hid hii
              obtain ⟨g, o, rfl, hg, hq⟩ := hxc.out (by omega)
              have hls := fun W => rless_any y z W
              rw [bef_les (order_less hpw.out hlt.out hzz hy.out)] at hls
              replace hls := Lib.hid hls
              have hfz : Hid (∀ d os, Calls Tryd.prog 20 #[.slice (some ⟨g, o, none⟩) l.length c, .string z.proj.1] (Sort.grow (redrawn wr d) os) fun e w' => e = .returned (.int .i64 (m : Int)) ∧ (Sort.grow (redrawn wr d) os) = w') := Lib.hid fun d os => by rw [← hfm]; exact hfi0.out _ (hb0r.trans ((below_regrown wr d os).mono (by omega))) z.proj
              have zc := fun d os => cell_regrown (hc4 wr hbw) d os
              have q := hq wr hb0r
              have q0 := fun d os => cell_regrown (q k y hk.out 0 (.string y.proj.1) rfl) d os
              have q1 := fun d os => cell_regrown (q k y hk.out 1 (.int .i64 y.weight.1) rfl) d os
              have q2 := fun d os => cell_regrown (q k y hk.out 2 (.int .i64 y.served.1) rfl) d os
              have r0 := fun d os => cell_regrown (q m z hmm 0 (.string z.proj.1) rfl) d os
              have r1 := fun d os => cell_regrown (q m z hmm 1 (.int .i64 z.weight.1) rfl) d os
              have r2 := fun d os => cell_regrown (q m z hmm 2 (.int .i64 z.served.1) rfl) d os
              rw [Nat.add_zero] at q0 r0
              clear q hq e4 hc4
              replace hzz := Lib.hid hzz
              replace hmm := Lib.hid hmm
              replace hfm := Lib.hid hfm
              refine wp_region_quiet_below (by kernel_rfl) (by kernel_rfl) ?_
              repeat (go_big_quiet_step ((first | (go_at_call 20; exact Calls.regrown_of ((hfz.out _ _).mono fun _ _ ⟨h1, h2⟩ => ⟨h1, by rw [← h2]; exact Below.refl _ _⟩)) | (go_at_call 21; exact Calls.regrown_of (hls.out _)))))
              refine wpQuiet_nil ?_
              intro w7 hw7
              have hb7 := below_of_regrown hw7
              clear hw7
              have hz7 := hb7.size
              replace hb7 := hbw.trans (hb7.mono (by omega))
              clear q0 q1 q2 r0 r1 r2 zc
              go_wp2_with fail
              go_loopw [6, 7, 11] (fun vw vf vj wq => ∃ (j : Nat) (b : Share) (f : Bool), j ≤ ps.length ∧ vw = .string b.proj.1 ∧ vf = .bool f ∧ vj = .int .i64 (j : Int) ∧ FI ps s i y b f j ∧ Below w3.heap.size w3 wq) (fun _ _ vj _ => ps.length - (intOf vj).toNat)
              case atStart => exact ⟨0, b, f, Nat.zero_le _, rfl, rfl, rfl, hfw.out.enter, hb7⟩
              case round =>
                clear hb7 hz7 hbw hz hfw
                obtain ⟨j, b, f, hj, rfl, rfl, rfl, hfw, hbw⟩ := hrel
                have hz := hbw.size
                replace hfw := Lib.hid hfw
                by_cases hjl : j < ps.length
                · have j1 : (j : Int) < (ps.length : Int) := by omega
                  rcases f with _ | _
                  · obtain ⟨t, ht⟩ := get_some hjl
                    obtain ⟨g5, o5, rfl, hc5⟩ := hpc.out j t ht
                    have tc := fun d os => cell_regrown (hc5 wr (hb03.trans (hbw.mono (by omega)))) d os
                    have yc0 := hc3.out wr hbw
                    have yc := fun d os => cell_regrown yc0 d os
                    have j0 : (0 : Int) ≤ (j : Int) := by omega
                    by_cases he : t = y.proj
                    · have heq : (t.1.toList == y.proj.1.toList) = true := by rw [eq_str]; exact decide_eq_true he
                      have hnx := Lib.hid (hfw.out.yes ht he hy.out)
                      replace ht := Lib.hid ht
                      replace he := Lib.hid he
                      clear hc5 yc0
                      go_wp2_with fail
                      refine wp_region_quiet_below (by kernel_rfl) (by kernel_rfl) ?_
                      repeat (go_big_quiet_step (fail))
                      refine wpQuiet_nil ?_
                      intro w8 hw8
                      have hb8 := below_of_regrown hw8
                      clear hw8
                      have hz8 := hb8.size
                      have yc1 := (hb8.cell (p := ⟨g3, o3 + i, none⟩) (by show g3 < _; omega)).trans (hc3.out wr hbw)
                      go_wp2_with fail
                      go_roundw
                      case rel => exact ⟨j + 1, y, true, by omega, rfl, rfl, by go_num, hnx.out, hbw.trans (hb8.mono (by omega))⟩
                      case measure => simp [intOf]; omega
                    · have heq : (t.1.toList == y.proj.1.toList) = false := by rw [eq_str]; exact decide_eq_false he
                      have hnx := Lib.hid (hfw.out.no ht he)
                      replace ht := Lib.hid ht
                      clear hc5 yc0
                      go_wp2_with fail
                      refine wp_region_quiet_below (by kernel_rfl) (by kernel_rfl) ?_
                      repeat (go_big_quiet_step (fail))
                      refine wpQuiet_nil ?_
                      intro w8 hw8
                      have hb8 := below_of_regrown hw8
                      clear hw8
                      have hz8 := hb8.size
                      go_wp2_with fail
                      go_roundw
                      case rel => exact ⟨j + 1, b, false, by omega, rfl, rfl, by go_num, hnx.out, hbw.trans (hb8.mono (by omega))⟩
                      case measure => simp [intOf]; omega
                  · have hnx := Lib.hid (hfw.out.leave (Or.inl rfl) hy.out)
                    go_wp2_with fail
                    go_roundw
                    case rel => exact ⟨i + 1, b, true, by omega, rfl, rfl, by go_num, hnx.out, hbw⟩
                    case measure => simp [intOf]; omega
                · have j1 : ¬ (j : Int) < (ps.length : Int) := by omega
                  have hnx := Lib.hid (hfw.out.leave (Or.inr (by omega)) hy.out)
                  go_wp2_with fail
                  go_roundw
                  case rel => exact ⟨i + 1, b, f, by omega, rfl, rfl, by go_num, hnx.out, hbw⟩
                  case measure => simp [intOf]; omega
      · have i1 : ¬ (i : Int) < (s.length : Int) := by omega
        have hpk2 := hpk.out wr b f (hb03.trans (hbw.mono (by omega))) (FW.picked hpm.out hpw.out hfw.out (by omega))
        replace hpk2 := Lib.hid hpk2
        have hbb := beq_self_eq_true b.proj.1.toList
        have hss := beq_self_eq_true f
        go_wp2_with (first
          | (go_at_call 17; go_must (refine hpk2.out.mono ?_; rintro e w8 ⟨rfl, hb8⟩; have hz8 := hb8.size))
          | (go_at_call 10; go_must (refine (awake_any _).mono ?_; rintro e w9 ⟨rfl, hb9⟩)))
        go_ret
        exact ⟨rfl, (by repeat (first | (with_reducible exact Below.refl _ _) | (with_reducible refine Below.drew ?_) | (with_reducible refine below_drewN ?_ _) | ((with_reducible refine Below.alloc ?_ ?_ _); rotate_left; focus ((try simp) <;> omega)) | ((with_reducible refine Below.setCell ?_ ?_ _); rotate_left; focus ((try simp) <;> omega)) | ((with_reducible refine Below.trans ?_ (Below.mono (by assumption) ?_)); rotate_left; focus ((try simp) <;> omega))))⟩

/-- A world for the witness: the settled one, the listed tables holding what their initialisers lay. -/
noncomputable def laidWorld (os : Os) : World :=
  { World.holding Tryd.prog os ⟨#[], #[], []⟩ with heap := layAll Tryd.prog Rows.fairnessOrderRow.laid (World.holding Tryd.prog os ⟨#[], #[], []⟩).heap }
theorem laid_met (os : Os) : laidMet Tryd.prog Rows.fairnessOrderRow.laid ((laidWorld os).forCall (fun _ _ => 0) ⟨#[], #[.slice none 0 0, .slice none 0 0], []⟩).memory :=
  laidMet_of_run' 8 (by kernel_rfl) (by kernel_rfl)
theorem reads (os : Os) {H : Type} (enc : TypeId × Value → H) : ∃ places, DataW.whole enc Tryd.prog ((laidWorld os).forCall (fun _ _ => 0) ⟨#[], #[.slice none 0 0, .slice none 0 0], []⟩).memory Tryd.f7.params.toList Rows.fairnessOrderSpec.vars false (#[.slice none 0 0, .slice none 0 0] : Array Value).toList 8 = some ([.nil, .nil], [], places) :=
  ⟨[], by kernel_rfl⟩

set_option maxRecDepth 100000 in
theorem contract (H : Type) (enc : TypeId × Value → H) (W : World) (base : Nat) (args : Array Value) (ds gs : List (DataW H)) (before : List MemPlace)
    (hval : ∀ (j : Nat) t v, Tryd.f7.params[j]? = some t → args[j]? = some v → Value.okWide Tryd.prog W .any base t v)
    (hW : DataW.Whole enc Tryd.prog Tryd.f7.params.toList Rows.fairnessOrderSpec.vars false W args.toList ds gs before) :
    Calls Tryd.prog 7 args W fun e W' => ∃ v, e = .returned v ∧ Rows.fairnessOrderSpec.post enc Tryd.prog Tryd.f7 false true false false W args v W' := by
  have hW' := hW
  obtain ⟨p, q, hA0, hV, rfl, hfz, hnd⟩ := hW
  have hA : DataW.TrodAll enc Tryd.prog W 0 (fun _ => true) true Tryd.f7.params.toList args.toList ds p := hA0
  have hA1 := hA
  rw [Tryd.params7] at hA hval
  obtain ⟨rfl, rfl⟩ := trodVars_none hV
  simp only [List.append_nil] at hW'
  have hcall : Calls Tryd.prog 7 args W fun e w' => e = .returned (.bool true) ∧ Below W.heap.size W w' := by
    clear hA0 hV hfz hnd
    obtain ⟨v0, vs0, d0, ds0, p0, q0, hargs, rfl, rfl, h0, r0⟩ := trodAll_cons hA
    obtain ⟨v1, vs1, d1, ds1, p1, q1, rfl, rfl, rfl, h1, r1⟩ := trodAll_cons r0
    obtain ⟨rfl, rfl, rfl⟩ := trodAll_nil r1
    obtain rfl : args = #[v0, v1] := by cases args; simp_all
    obtain ⟨A, l, c, rfl, hlc, hcm, hr⟩ := open_rows shareE_len (by omega) Tryd.underlying22 (by kernel_rfl) shareE_of (hval 0 22 v0 rfl rfl) h0
    unfold maxLen at hcm
    obtain ⟨B, ps, d, rfl, hld, hdm, hp⟩ := open_rows sE_len (by omega) Tryd.underlying32 (by kernel_rfl) (fun fuel cs x h => leaf_string Tryd.underlying9 h) (hval 1 32 v1 rfl rfl) h1
    unfold maxLen at hdm
    exact walk A B c d l ps W hr hp (by omega) (by omega)
  have hds : ds.length = 2 := (trodAll_length hA).1
  refine hcall.mono fun e W' ⟨he, hb⟩ => ?_
  subst he
  refine ⟨_, rfl, law_post hW' rfl hA1 (by kernel_rfl) laidOut Tryd.underlying4 (by kernel_rfl) ?_ hb⟩
  match ds, hds with
  | [_, _], _ => rfl

set_option maxRecDepth 100000 in
theorem lifted (os : Os) (started : os.Started) (H : Type) (enc : TypeId × Value → H) (F : Stop.Interp) :
    ReturnsInHanded {} Tryd.checked os 7 .any ((OpenSpec.ofChange Rows.fairnessOrderSpec).preRow enc Tryd.prog Tryd.f7 Rows.fairnessOrderRow.domain false Rows.fairnessOrderRow.laid) (((OpenSpec.ofChange Rows.fairnessOrderSpec).at F).post enc Tryd.prog Tryd.f7 false true false false) := by
  obtain ⟨places, hx⟩ := reads os enc
  refine returnsInHanded_of_row (C := Tryd.checked) (s := OpenSpec.ofChange Rows.fairnessOrderSpec) own started (by kernel_rfl) Tryd.func7
    (witness_row_at (enc := enc) (C := Tryd.checked) false (laidWorld os) #[.slice none 0 0, .slice none 0 0] rfl (by kernel_rfl) (by kernel_rfl) (by kernel_rfl)
      (OpenSpec.preRow_of_cond 8 hx (by kernel_rfl) (fun k hk => by cases hk) (by kernel_rfl) (laid_met os))) ?_
  intro W base args ds gs before hval hW _ _ _ _ _ _
  exact contract H enc W base args ds gs before hval hW

theorem said : Rows.FairnessOrderSaid :=
  OpenClaim.holds_of_cond 7 Tryd.f7 rfl rfl rfl rfl rfl rfl rfl ⟨rfl, rfl, rfl, rfl, rfl⟩ rfl rfl rfl rfl rfl (by kernel_rfl) Tryd.func7 (by kernel_rfl)
    (of_decide_eq_true (by kernel_rfl)) (by unfold Func.isWrapper; first | (rw [if_pos (by decide +kernel)]; kernel_rfl) | (rw [if_neg (by decide +kernel)]; exact ⟨rfl, rfl⟩))
    (fun os started H enc _ F => by rw [OpenClaim.pre_eq_preRow]; exact lifted os started H enc F)

theorem plain (f : FuncId) (fn : Func) (hf : Tryd.pinned.checked.prog.funcNamed Rows.fairnessOrderRow.func = some f) (hfn : Tryd.pinned.checked.prog.funcs[f]? = some fn) :
    false = Tryd.pinned.checked.prog.looks [] ∧ ∀ (j : Nat) t, fn.params[j]? = some t → Tryd.pinned.checked.prog.wantsStandIn t = false := by
  obtain rfl : f = 7 := Option.some.inj ((show Tryd.prog.funcNamed Rows.fairnessOrderRow.func = some 7 by kernel_rfl).symm.trans hf) |>.symm
  obtain rfl : fn = Tryd.f7 := (Option.some.inj (Tryd.func7.symm.trans hfn)).symm
  refine ⟨by kernel_rfl, fun j t ht => ?_⟩
  have hall : (Tryd.f7.params.toList.all fun t => !(Tryd.pinned.checked.prog.wantsStandIn t)) = true := by kernel_rfl
  have hm : t ∈ Tryd.f7.params.toList := Array.mem_toList_iff.2 (Array.mem_of_getElem? ht)
  simpa using List.all_eq_true.1 hall t hm

theorem proved : Rows.FairnessOrderCardSaid :=
  Claim7.holds_tied_plain_at .later [] _ _ _ _ said (fun _ h => by cases h) (by kernel_rfl) (fun _ h => by cases h) fairnessOrder_row_tie rfl ⟨rfl, rfl⟩ (by kernel_rfl) rfl plain (by kernel_rfl)
#print axioms proved
end Go.Proofs.YtopicpghhpkgbaaDoor.fairnessOrder
