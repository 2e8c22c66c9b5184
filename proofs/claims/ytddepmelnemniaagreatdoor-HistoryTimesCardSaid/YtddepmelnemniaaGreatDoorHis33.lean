/-
  The walks of histories: rates and the times of all histories, by the reference.
-/
import Derived.Test.YtddepmelnemniaaGreatDoorHis32
import Derived.Deep.RegionHeld3


namespace Go.Proofs.YtddepmelnemniaaGreatDoor
open Go.RowKit

theorem meas_len (l : List Samp) : (measS l).length = (l.filter isM).length := by unfold measS timesS; rw [List.length_map]
theorem badn_succ {l : List Samp} {k : Nat} {s : Samp} (h : l[k]? = some s) : badN (l.take (k + 1)) = badN (l.take k) + if s.status.1 = 2 then 1 else 0 := by
  unfold badN
  rw [List.take_add_one, h, List.countP_append]
  by_cases h2 : s.status.1 = 2 <;> simp [h2]
set_option maxRecDepth 100000 in
set_option maxHeartbeats 4000000 in
theorem rrate_any (x : Hst) (w : World) (hx : LabHst w w.heap.size x) (hn : x.l.length ≤ 1000000) :
    Calls Tryz.prog 26 #[.agg #[.string x.name.1, .slice x.lA x.l.length x.lC]] w fun e w' => e = .returned (.int .i64 (rateI x.l)) ∧ Below w.heap.size w w' := by
  have hms : Hid (∀ W, Below w.heap.size w W → Calls Tryz.prog 44 #[.agg #[.string x.name.1, .slice x.lA x.l.length x.lC]] W fun e w' => ∃ A c, e = .returned (.slice A (measS x.l).length c) ∧ Own iE 1 3 w' W.heap.size (.slice A (measS x.l).length c) (measS x.l) ∧ Below W.heap.size W w') := Lib.hid fun W hb => rmeas_any x W ((hx.below hb (Nat.le_refl _)).more hb.size) hn
  have hrd : Hid (Rw sampE 4 w w.heap.size x.lA x.l) := Lib.hid hx.2.2
  have hml : (measT x.l).length = (measS x.l).length := by rw [meas_len]; exact List.length_map _
  have hrate : rateI x.l = if (measS x.l).length = 0 then 0 else 1000 * (badN x.l : Int) / ((measS x.l).length : Int) := by
    unfold rateI
    rw [hml]
    by_cases h : measT x.l = []
    · rw [if_pos h, if_pos (by rw [← hml, h]; rfl)]
    · rw [if_neg h, if_neg (fun e => h (List.eq_nil_of_length_eq_zero (by rw [hml]; exact e)))]
  have hble : badN x.l ≤ x.l.length := List.countP_le_length
  generalize measS x.l = M at *
  obtain ⟨R, hR⟩ : ∃ R, rateI x.l = R := ⟨_, rfl⟩
  rw [hR] at hrate ⊢
  replace hR := Lib.hid hR
  clear hx hml
  by_cases h0 : M.length = 0
  · rw [if_pos h0] at hrate
    subst hrate
    have h0b : ((M.length : Int) == 0) = true := by rw [h0]; rfl
    have hM0 : M = [] := List.eq_nil_of_length_eq_zero h0
    subst hM0
    clear h0 h0b
    go_enter Tryz.func26, Tryz.ntmps26
    go_wp2_with (go_at_call 44; go_must (refine (hms.out _ (by repeat (first | (with_reducible exact Below.refl _ _) | (with_reducible refine Below.drew ?_) | (with_reducible refine below_drewN ?_ _) | ((with_reducible refine Below.alloc ?_ ?_ _); rotate_left; focus ((try simp) <;> omega)) | ((with_reducible refine Below.setCell ?_ ?_ _); rotate_left; focus ((try simp) <;> omega)) | ((with_reducible refine Below.trans ?_ (Below.mono (by assumption) ?_)); rotate_left; focus ((try simp) <;> omega))))).mono ?_; rintro e w2 ⟨A2, c2, rfl, ho2, hb2⟩; have hz2 := hb2.size; (try simp at hz2)))
    go_ret
    exact ⟨rfl, (by repeat (first | (with_reducible exact Below.refl _ _) | (with_reducible refine Below.drew ?_) | (with_reducible refine below_drewN ?_ _) | ((with_reducible refine Below.alloc ?_ ?_ _); rotate_left; focus ((try simp) <;> omega)) | ((with_reducible refine Below.setCell ?_ ?_ _); rotate_left; focus ((try simp) <;> omega)) | ((with_reducible refine Below.trans ?_ (Below.mono (by assumption) ?_)); rotate_left; focus ((try simp) <;> omega))))⟩
  rw [if_neg h0] at hrate
  have h0b : ((M.length : Int) == 0) = false := by rw [beq_eq_false_iff_ne]; omega
  have h0n : ¬ (M.length : Int) = 0 := by omega
  have hMl : Hid (M.length ≤ 9223372036854775807 ∨ True) := Lib.hid (.inr trivial)
  obtain ⟨b, hb⟩ : ∃ b, badN x.l = b := ⟨_, rfl⟩
  rw [hb] at hrate hble
  have hq1 : 0 ≤ 1000 * (b : Int) / (M.length : Int) := Int.ediv_nonneg (by omega) (by omega)
  have hq2 : 1000 * (b : Int) / (M.length : Int) ≤ 1000 * (b : Int) := Int.ediv_le_self _ (by omega)
  have hqw : IntKind.i64.wrap (1000 * (b : Int) / (M.length : Int)) = 1000 * (b : Int) / (M.length : Int) := IntWalk.i64_in _ (by omega)
  replace hrate := Lib.hid hrate
  replace h0 := Lib.hid h0
  go_enter Tryz.func26, Tryz.ntmps26
  go_wp2_with (go_at_call 44; go_must (refine (hms.out _ (by repeat (first | (with_reducible exact Below.refl _ _) | (with_reducible refine Below.drew ?_) | (with_reducible refine below_drewN ?_ _) | ((with_reducible refine Below.alloc ?_ ?_ _); rotate_left; focus ((try simp) <;> omega)) | ((with_reducible refine Below.setCell ?_ ?_ _); rotate_left; focus ((try simp) <;> omega)) | ((with_reducible refine Below.trans ?_ (Below.mono (by assumption) ?_)); rotate_left; focus ((try simp) <;> omega))))).mono ?_; rintro e w2 ⟨A2, c2, rfl, ho2, hb2⟩; have hz2 := hb2.size; (try simp at hz2); obtain ⟨hd2, he2⟩ := blk_at hb2 w.heap.size (by (try simp) <;> omega)))
  have x1 : w2.cell? ⟨w.heap.size, 1, none⟩ = some (.slice x.lA x.l.length x.lC) := (hd2 _).trans (by go_simp)
  have hB2 : Hid (Below w.heap.size w w2) := Lib.hid (by repeat (first | (with_reducible exact Below.refl _ _) | (with_reducible refine Below.drew ?_) | (with_reducible refine below_drewN ?_ _) | ((with_reducible refine Below.alloc ?_ ?_ _); rotate_left; focus ((try simp) <;> omega)) | ((with_reducible refine Below.setCell ?_ ?_ _); rotate_left; focus ((try simp) <;> omega)) | ((with_reducible refine Below.trans ?_ (Below.mono (by assumption) ?_)); rotate_left; focus ((try simp) <;> omega))))
  clear hd2 he2
  replace ho2 := Lib.hid ho2
  go_loopw [4, 5] (fun vo vi wr => ∃ k : Nat, k ≤ x.l.length ∧ vi = .int .i64 (k : Int) ∧ vo = .int .i64 (badN (x.l.take k) : Int) ∧ Below w2.heap.size w2 wr) (fun _ vi _ => x.l.length - (intOf vi).toNat)
  case atStart => exact ⟨0, Nat.zero_le _, rfl, rfl, Below.refl _ _⟩
  case round =>
    obtain ⟨k, hk, rfl, rfl, hbw⟩ := hrel
    have hz := hbw.size
    have y1 := (hbw.cell (p := ⟨w.heap.size, 1, none⟩) (show w.heap.size < w2.heap.size by omega)).trans x1
    have hbk : badN (x.l.take k) ≤ k := by
      have h1 : badN (x.l.take k) ≤ (x.l.take k).length := List.countP_le_length
      rw [List.length_take] at h1
      omega
    by_cases hkl : k < x.l.length
    · obtain ⟨s, hs⟩ := get_some hkl
      obtain ⟨g, o, hA, hg, hq⟩ := hrd.out (by omega)
      have q1 := ((hB2.out.trans (hbw.mono hB2.out.size)).cell (p := ⟨g, o + k * 4 + 1, none⟩) hg).trans (hq k s hs 1 (.int .i64 s.status.1) rfl)
      rw [hA] at y1
      replace hA := Lib.hid hA
      clear hq x1
      have i0 : (0 : Int) ≤ (k : Int) := by omega
      have i1 : (k : Int) < (x.l.length : Int) := by omega
      have hbs := badn_succ hs
      replace hs := Lib.hid hs
      obtain ⟨d, hd⟩ : ∃ d, badN (x.l.take k) = d := ⟨_, rfl⟩
      rw [hd] at hbs hbk ⊢
      replace hd := Lib.hid hd
      by_cases h2 : s.status.1 = 2
      · rw [if_pos h2] at hbs
        have h2b : (s.status.1 == 2) = true := by rw [h2]; rfl
        replace hbs := Lib.hid hbs
        replace h2 := Lib.hid h2
        go_wp2_with fail
        go_roundw
        case rel => exact ⟨k + 1, hkl, by go_num, by rw [hbs.out]; go_num, hbw⟩
        case measure => simp [intOf]; omega
      · rw [if_neg h2] at hbs
        have h2b : (s.status.1 == 2) = false := by rw [beq_eq_false_iff_ne]; exact h2
        replace hbs := Lib.hid hbs
        replace h2 := Lib.hid h2
        go_wp2_with fail
        go_roundw
        case rel => exact ⟨k + 1, hkl, by go_num, by rw [hbs.out]; rfl, hbw⟩
        case measure => simp [intOf]; omega
    · have i1 : ¬ (k : Int) < (x.l.length : Int) := by omega
      obtain rfl : k = x.l.length := by omega
      rw [List.take_length, hb]
      replace hb := Lib.hid hb
      clear hbk
      go_wp2_with fail
      go_ret
      exact ⟨by rw [hrate.out]; rfl, hB2.out.trans (hbw.mono hB2.out.size)⟩
set_option maxRecDepth 100000 in
set_option maxHeartbeats 8000000 in
theorem rtimes_any (A : Option Addr) (c : Nat) (l : List Hst) (w : World) (hr : RwH w w.heap.size A l) (hn : l.length ≤ 1000000) (hm : ∀ x ∈ l, x.l.length ≤ 1000000) :
    Calls Tryz.prog 22 #[.slice A l.length c] w fun e w' => ∃ A' c' L, e = .returned (.slice A' L.length c') ∧ L = timesL (l.map Hst.h) ∧ Rw timE 2 w' w'.heap.size A' L ∧ L.length ≤ c' ∧ Below w.heap.size w w' := by
  obtain ⟨inf, hi0, iz0, iz1, iz2⟩ := info_parts tim_info
  have hms : Hid (∀ x ∈ l, ∀ W, Below w.heap.size w W → Calls Tryz.prog 44 #[.agg #[.string x.name.1, .slice x.lA x.l.length x.lC]] W fun e w' => ∃ A c, e = .returned (.slice A (measS x.l).length c) ∧ Own iE 1 3 w' W.heap.size (.slice A (measS x.l).length c) (measS x.l) ∧ Below W.heap.size W w') := Lib.hid fun x hx W hb => rmeas_any x W (((hr.labs x hx).below hb (Nat.le_refl _)).more hb.size) (hm x hx)
  have hts : Hid (∀ x ∈ l, ∀ W, Below w.heap.size w W → Calls Tryz.prog 24 #[.agg #[.string x.name.1, .slice x.lA x.l.length x.lC]] W fun e w' => e = .returned (.int .i64 (timeV x.l).1) ∧ Below W.heap.size W w') := Lib.hid fun x hx W hb => rtime_any x W (((hr.labs x hx).below hb (Nat.le_refl _)).more hb.size) (hm x hx)
  have hrow := Lib.hid hr.row
  clear hr hm
  go_enter Tryz.func22, Tryz.ntmps22
  go_wp2_with fail
  go_loopw [3, 4] (fun vo vi wr => ∃ k : Nat, k ≤ l.length ∧ vi = .int .i64 (k : Int) ∧ Own timE 2 75 wr w.heap.size vo (timesL ((l.map Hst.h).take k)) ∧ Below w.heap.size w wr) (fun _ vi _ => l.length - (intOf vi).toNat)
  case atStart => exact ⟨0, Nat.zero_le _, rfl, Own.nil _ _ _, Below.refl _ _⟩
  case round =>
    obtain ⟨k, hk, rfl, hown, hbw⟩ := hrel
    have hz := hbw.size
    have hvlt := Lib.hid hown.lt
    by_cases hkl : k < l.length
    · obtain ⟨x, hx⟩ := get_some hkl
      have hxm : (l.map Hst.h)[k]? = some x.h := by rw [List.getElem?_map, hx]; rfl
      have hsc := times_succ hxm
      obtain ⟨g, o, rfl, hg, hq⟩ := hrow.out (by omega)
      have q := fun j u hu => (hbw.cell (p := ⟨g, o + k * 2 + j, none⟩) hg).trans (hq k x hx j u hu)
      have q0 := q 0 (.string x.name.1) rfl
      rw [Nat.add_zero] at q0
      have q1 := q 1 (.slice x.lA x.l.length x.lC) rfl
      clear q hq
      have i0 : (0 : Int) ≤ (k : Int) := by omega
      have i1 : (k : Int) < (l.length : Int) := by omega
      have hgr : g < wr.heap.size := by omega
      have hxi := List.mem_of_getElem? hx
      have hm2 := hms.out x hxi
      have ht2 := Lib.hid (hts.out x hxi)
      have htl : (timesL ((l.map Hst.h).take k)).length ≤ k := by
        have h1 := times_le ((l.map Hst.h).take k)
        rw [List.length_take] at h1
        omega
      obtain ⟨T, hT⟩ : ∃ T, timesL ((l.map Hst.h).take k) = T := ⟨_, rfl⟩
      rw [hT] at hown htl hsc
      have hn1 : (x.h.l.filter isM).length = (measS x.l).length := (meas_len x.l).symm
      rw [hn1] at hsc
      obtain ⟨n, hn0⟩ : ∃ n, (measS x.l).length = n := ⟨_, rfl⟩
      rw [hn0] at hm2 hsc
      have hm3 := Lib.hid hm2
      clear hm2
      replace hT := Lib.hid hT
      replace hn0 := Lib.hid hn0
      replace hn1 := Lib.hid hn1
      replace hx := Lib.hid hx
      replace hxm := Lib.hid hxm
      replace hown := Lib.hid hown
      by_cases h0 : 0 < n
      · rw [if_pos h0] at hsc
        have h0z : (0 : Int) < (n : Int) := by omega
        replace hsc := Lib.hid hsc
        go_wp2_with (go_at_call 44; go_must (refine (hm3.out _ (by repeat (first | (with_reducible exact Below.refl _ _) | (with_reducible refine Below.drew ?_) | (with_reducible refine below_drewN ?_ _) | ((with_reducible refine Below.alloc ?_ ?_ _); rotate_left; focus ((try simp) <;> omega)) | ((with_reducible refine Below.setCell ?_ ?_ _); rotate_left; focus ((try simp) <;> omega)) | ((with_reducible refine Below.trans ?_ (Below.mono (by assumption) ?_)); rotate_left; focus ((try simp) <;> omega))))).mono ?_; rintro e w2 ⟨A2, c2, rfl, ho2, hb2⟩; have hz2 := hb2.size; (try simp at hz2); obtain ⟨hd2, he2⟩ := blk_at hb2 g (by (try simp) <;> omega)))
        have d0 : w2.cell? ⟨g, o + k * 2, none⟩ = some (.string x.name.1) := (hd2 _).trans q0
        have d1 : w2.cell? ⟨g, o + k * 2 + 1, none⟩ = some (.slice x.lA x.l.length x.lC) := (hd2 _).trans q1
        have hbr2 : Hid (Below wr.heap.size wr w2) := Lib.hid (by repeat (first | (with_reducible exact Below.refl _ _) | (with_reducible refine Below.drew ?_) | (with_reducible refine below_drewN ?_ _) | ((with_reducible refine Below.alloc ?_ ?_ _); rotate_left; focus ((try simp) <;> omega)) | ((with_reducible refine Below.setCell ?_ ?_ _); rotate_left; focus ((try simp) <;> omega)) | ((with_reducible refine Below.trans ?_ (Below.mono (by assumption) ?_)); rotate_left; focus ((try simp) <;> omega))))
        have hg2 : g < w2.heap.size := by omega
        clear hd2 he2 q0 q1
        replace ho2 := Lib.hid ho2
        go_region_held3 (fun w' => w'.cell? ⟨g, o + k * 2, none⟩ = some (.string x.name.1) ∧ w'.cell? ⟨g, o + k * 2 + 1, none⟩ = some (.slice x.lA x.l.length x.lC)) (first | (go_keep; done) | (go_simp; done) | go_keep)
          (first
          | (go_at_call 24; go_must (refine (ht2.out _ (by repeat (first | (with_reducible exact Below.refl _ _) | (with_reducible refine Below.drew ?_) | (with_reducible refine below_drewN ?_ _) | ((with_reducible refine Below.alloc ?_ ?_ _); rotate_left; focus ((try simp) <;> omega)) | ((with_reducible refine Below.setCell ?_ ?_ _); rotate_left; focus ((try simp) <;> omega)) | ((with_reducible refine Below.trans ?_ (Below.mono (by assumption) ?_)); rotate_left; focus ((try simp) <;> omega))))).mono ?_; rintro e w3 ⟨rfl, hb3⟩; have hz3 := hb3.size; (try simp at hz3); obtain ⟨hd3, he3⟩ := blk_at hb3 g (by (try simp) <;> omega)))
          | (refine step_append_rw rfl (.tmp 18) (.tmp 30) _ rfl timE_len timE_one w.heap.size 75 inf _ 24 Tryz.underlying52 hi0 iz0 iz1 iz2 rfl (by omega) _ T rfl (((hown.out.all hbr2.out).drew.all hb3).alloc _) _ (some ⟨w3.heap.size, 0, none⟩) 1 1 [⟨x.name, timeV x.l⟩] rfl rfl (rw_tim rfl (Nat.lt_succ_self _)) (by simp [maxLen]; omega) (by omega) (by (try simp) <;> omega) ?_
             intro v4 w4 hown4 hg4 hat4
             have hz4 := hg4.size
             (try simp at hz4)
             obtain ⟨hd4, he4⟩ := grown_blk hg4 g (by (try simp) <;> omega) (fun e => by have := (hvlt.out _ e.symm).1; omega)))
        all_goals go_wp2_with fail
        all_goals go_roundw
        case rel => exact ⟨k + 1, hkl, by go_num, by rw [hsc.out]; exact hown4, (by refine Below.grown ?_ hg4 ?_ (fun q hq => (hvlt.out q hq).1); (exact (by repeat (first | (with_reducible exact Below.refl _ _) | (with_reducible refine Below.drew ?_) | (with_reducible refine below_drewN ?_ _) | ((with_reducible refine Below.alloc ?_ ?_ _); rotate_left; focus ((try simp) <;> omega)) | ((with_reducible refine Below.setCell ?_ ?_ _); rotate_left; focus ((try simp) <;> omega)) | ((with_reducible refine Below.trans ?_ (Below.mono (by assumption) ?_)); rotate_left; focus ((try simp) <;> omega))))); ((try simp) <;> omega))⟩
        case measure => simp [intOf]; omega
      · rw [if_neg h0, List.append_nil] at hsc
        have h0z : ¬ (0 : Int) < (n : Int) := by omega
        replace hsc := Lib.hid hsc
        go_wp2_with (go_at_call 44; go_must (refine (hm3.out _ (by repeat (first | (with_reducible exact Below.refl _ _) | (with_reducible refine Below.drew ?_) | (with_reducible refine below_drewN ?_ _) | ((with_reducible refine Below.alloc ?_ ?_ _); rotate_left; focus ((try simp) <;> omega)) | ((with_reducible refine Below.setCell ?_ ?_ _); rotate_left; focus ((try simp) <;> omega)) | ((with_reducible refine Below.trans ?_ (Below.mono (by assumption) ?_)); rotate_left; focus ((try simp) <;> omega))))).mono ?_; rintro e w2 ⟨A2, c2, rfl, ho2, hb2⟩; have hz2 := hb2.size; (try simp at hz2)))
        go_roundw
        case rel => exact ⟨k + 1, hkl, by go_num, by rw [hsc.out]; exact hown.out.all hb2, (by repeat (first | (with_reducible exact Below.refl _ _) | (with_reducible refine Below.drew ?_) | (with_reducible refine below_drewN ?_ _) | ((with_reducible refine Below.alloc ?_ ?_ _); rotate_left; focus ((try simp) <;> omega)) | ((with_reducible refine Below.setCell ?_ ?_ _); rotate_left; focus ((try simp) <;> omega)) | ((with_reducible refine Below.trans ?_ (Below.mono (by assumption) ?_)); rotate_left; focus ((try simp) <;> omega))))⟩
        case measure => simp [intOf]; omega
    · have i1 : ¬ (k : Int) < (l.length : Int) := by omega
      obtain rfl : k = l.length := by omega
      rw [show (l.map Hst.h).take l.length = l.map Hst.h from List.take_of_length_le (by simp)] at hown
      obtain ⟨L, hL⟩ : ∃ L, timesL (l.map Hst.h) = L := ⟨_, rfl⟩
      rw [hL] at hown
      obtain ⟨A4, c4, e4, h1, _, _⟩ := hown.form
      subst e4
      replace hL := Lib.hid hL
      have hrd := Lib.hid (hown.reads timE_len)
      go_wp2_with fail
      go_ret
      exact ⟨A4, c4, L, rfl, hL.out.symm, hrd.out, h1, hbw⟩
end Go.Proofs.YtddepmelnemniaaGreatDoor
