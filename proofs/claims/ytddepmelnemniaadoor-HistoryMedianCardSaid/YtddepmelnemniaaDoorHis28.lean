/-
  The walks of histories: the times of all tests, the rate of a test, by the program.
-/
import Derived.Test.YtddepmelnemniaaDoorHis27
import Derived.Test.YtddepmelnemniaaDoorNums6
import Derived.Deep.RegionHeld3


namespace Go.Proofs.YtddepmelnemniaaDoor
open Go.RowKit

theorem med_mem {l : List Int} (h : l ≠ []) : medI l ∈ l := (srt_perm l).mem_iff.1 (List.mem_of_getElem? (med_get h))
theorem time_in (l : List Samp) : -9223372036854775808 ≤ timeI l ∧ timeI l ≤ 9223372036854775807 := by
  unfold timeI
  by_cases h : measT l = []
  · unfold medI
    rw [if_pos h]
    omega
  · obtain ⟨s, _, e⟩ := List.mem_map.1 (med_mem h)
    have e2 : s.time.1 = medI (measT l) := e
    rw [← e2]
    exact s.time.2
def timeV (l : List Samp) : I64 := ⟨timeI l, time_in l⟩
/-- The times of all histories with measured samples. -/
def timesL (l : List Hs) : List Tim := (l.filter fun h => decide (0 < (h.l.filter isM).length)).map fun h => ⟨h.name, timeV h.l⟩
theorem times_succ {l : List Hs} {k : Nat} {h : Hs} (hk : l[k]? = some h) : timesL (l.take (k + 1)) = timesL (l.take k) ++ if 0 < (h.l.filter isM).length then [⟨h.name, timeV h.l⟩] else [] := by
  unfold timesL
  rw [List.take_add_one, hk, List.filter_append, List.map_append]
  congr 1
  show ([h].filter _).map _ = _
  by_cases h0 : 0 < (h.l.filter isM).length
  · have hp : (fun h : Hs => decide (0 < (h.l.filter isM).length)) h = true := decide_eq_true h0
    rw [if_pos h0, List.filter_cons_of_pos (p := fun h : Hs => decide (0 < (h.l.filter isM).length)) hp]; rfl
  · have hp : ¬ (fun h : Hs => decide (0 < (h.l.filter isM).length)) h = true := fun e => h0 (of_decide_eq_true e)
    rw [if_neg h0, List.filter_cons_of_neg (p := fun h : Hs => decide (0 < (h.l.filter isM).length)) hp]; rfl
theorem times_le (l : List Hs) : (timesL l).length ≤ l.length := by
  unfold timesL
  rw [List.length_map]
  exact List.length_filter_le _ _
theorem tim_info : (Tryd.prog.info? 59).map (fun i => (i.zero, i.size, i.bytes)) = some (some (.agg #[.string ByteArray.empty, .int .i64 0]), 2, 24) := by kernel_rfl
theorem rw_tim {w : World} {g B : Nat} {x : Tim} (hg : g = w.heap.size) (hB : g < B) : Rw timE 2 (w.alloc (.cells #[.string x.name.1, .int .i64 x.time.1] 59)) B (some ⟨g, 0, none⟩) [x] := by
  subst hg
  refine fun _ => ⟨_, 0, rfl, hB, fun i y hy j u hu => ?_⟩
  match i, hy with
  | 0, hy =>
    obtain rfl : x = y := by simpa using hy
    match j, hu with
    | 0, hu => obtain rfl : Value.string x.name.1 = u := by simpa [timE] using hu
               exact box_cells w _ _ 0 _ rfl
    | 1, hu => obtain rfl : Value.int .i64 x.time.1 = u := by simpa [timE] using hu
               exact box_cells w _ _ 1 _ rfl
    | j + 2, hu => simp [timE] at hu
  | i + 1, hy => simp at hy
set_option maxRecDepth 100000 in
set_option maxHeartbeats 8000000 in
theorem times_any (A : Option Addr) (c : Nat) (l : List Hst) (w : World) (hr : RwH w w.heap.size A l) (hn : l.length ≤ 1000000) (hm : ∀ x ∈ l, x.l.length ≤ 1000000) :
    Calls Tryd.prog 10 #[.slice A l.length c] w fun e w' => ∃ A' c' L, e = .returned (.slice A' L.length c') ∧ L = timesL (l.map Hst.h) ∧ Rw timE 2 w' w'.heap.size A' L ∧ L.length ≤ c' ∧ Below w.heap.size w w' := by
  obtain ⟨inf, hi0, iz0, iz1, iz2⟩ := info_parts tim_info
  have hms : Hid (∀ x ∈ l, ∀ W, Below w.heap.size w W → Calls Tryd.prog 11 #[.agg #[.string x.name.1, .slice x.lA x.l.length x.lC]] W fun e w' => ∃ A c, e = .returned (.slice A (x.l.filter isM).length c) ∧ Own sampE 4 42 w' W.heap.size (.slice A (x.l.filter isM).length c) (x.l.filter isM) ∧ Below W.heap.size W w') := Lib.hid fun x hx W hb => measured_any x W (((hr.labs x hx).below hb (Nat.le_refl _)).more hb.size) (hm x hx)
  have hts : Hid (∀ x ∈ l, ∀ W, Below w.heap.size w W → Calls Tryd.prog 6 #[.agg #[.string x.name.1, .slice x.lA x.l.length x.lC]] W fun e w' => e = .returned (.int .i64 (timeV x.l).1) ∧ Below W.heap.size W w') := Lib.hid fun x hx W hb => timeof_any x W (((hr.labs x hx).below hb (Nat.le_refl _)).more hb.size) (hm x hx)
  have hrow := Lib.hid hr.row
  clear hr hm
  go_enter Tryd.func10, Tryd.ntmps10
  go_wp2_with fail
  go_loopw [3, 8] (fun vo vi wr => ∃ k : Nat, k ≤ l.length ∧ vi = .int .i64 (k : Int) ∧ Own timE 2 59 wr w.heap.size vo (timesL ((l.map Hst.h).take k)) ∧ Below w.heap.size w wr) (fun _ vi _ => l.length - (intOf vi).toNat)
  case atStart => exact ⟨0, Nat.zero_le _, rfl, Own.nil _ _ _, Below.refl _ _⟩
  case round =>
    obtain ⟨k, hk, rfl, hown, hbw⟩ := hrel
    have hz := hbw.size
    have hvlt := Lib.hid hown.lt
    by_cases hkl : k < l.length
    · obtain ⟨x, hx⟩ := get_some hkl
      have hxm : (l.map Hst.h)[k]? = some x.h := by rw [List.getElem?_map, hx]; rfl
      have hsc := times_succ hxm
      obtain ⟨g, o, rfl, hg, hq⟩ := hrow.out (by omega)
      have q := fun j u hu => (hbw.cell (p := ⟨g, o + k * 2 + j, none⟩) hg).trans (hq k x hx j u hu)
      have q0 := q 0 (.string x.name.1) rfl
      rw [Nat.add_zero] at q0
      have q1 := q 1 (.slice x.lA x.l.length x.lC) rfl
      clear q hq
      have i0 : (0 : Int) ≤ (k : Int) := by omega
      have i1 : (k : Int) < (l.length : Int) := by omega
      have hxi := List.mem_of_getElem? hx
      have hm2 := hms.out x hxi
      have ht2 := Lib.hid (hts.out x hxi)
      have htl : (timesL ((l.map Hst.h).take k)).length ≤ k := by
        have h1 := times_le ((l.map Hst.h).take k)
        rw [List.length_take] at h1
        omega
      obtain ⟨T, hT⟩ : ∃ T, timesL ((l.map Hst.h).take k) = T := ⟨_, rfl⟩
      rw [hT] at hown htl hsc
      obtain ⟨n, hn0⟩ : ∃ n, (x.l.filter isM).length = n := ⟨_, rfl⟩
      have hn1 : (x.h.l.filter isM).length = n := hn0
      rw [hn0] at hm2
      rw [hn1] at hsc
      have hm3 := Lib.hid hm2
      clear hm2
      replace hT := Lib.hid hT
      replace hn0 := Lib.hid hn0
      replace hn1 := Lib.hid hn1
      replace hx := Lib.hid hx
      replace hxm := Lib.hid hxm
      replace hown := Lib.hid hown
      by_cases h0 : 0 < n
      · rw [if_pos h0] at hsc
        have h0z : (0 : Int) < (n : Int) := by omega
        replace hsc := Lib.hid hsc
        go_wp2_with (go_at_call 11; go_must (refine (hm3.out _ (by repeat (first | (with_reducible exact Below.refl _ _) | (with_reducible refine Below.drew ?_) | (with_reducible refine below_drewN ?_ _) | ((with_reducible refine Below.alloc ?_ ?_ _); rotate_left; focus ((try simp) <;> omega)) | ((with_reducible refine Below.setCell ?_ ?_ _); rotate_left; focus ((try simp) <;> omega)) | ((with_reducible refine Below.trans ?_ (Below.mono (by assumption) ?_)); rotate_left; focus ((try simp) <;> omega))))).mono ?_; rintro e w2 ⟨A2, c2, rfl, ho2, hb2⟩; have hz2 := hb2.size; (try simp at hz2); obtain ⟨hd2, he2⟩ := blk_at hb2 wr.heap.size (by (try simp) <;> omega)))
        have d0 : w2.cell? ⟨wr.heap.size, 0, none⟩ = some (.string x.name.1) := (hd2 _).trans (by go_simp)
        have d1 : w2.cell? ⟨wr.heap.size, 1, none⟩ = some (.slice x.lA x.l.length x.lC) := (hd2 _).trans (by go_simp)
        have hbw2 : Hid (Below w.heap.size w w2) := Lib.hid (by repeat (first | (with_reducible exact Below.refl _ _) | (with_reducible refine Below.drew ?_) | (with_reducible refine below_drewN ?_ _) | ((with_reducible refine Below.alloc ?_ ?_ _); rotate_left; focus ((try simp) <;> omega)) | ((with_reducible refine Below.setCell ?_ ?_ _); rotate_left; focus ((try simp) <;> omega)) | ((with_reducible refine Below.trans ?_ (Below.mono (by assumption) ?_)); rotate_left; focus ((try simp) <;> omega))))
        have hbr2 : Hid (Below wr.heap.size wr w2) := Lib.hid (by repeat (first | (with_reducible exact Below.refl _ _) | (with_reducible refine Below.drew ?_) | (with_reducible refine below_drewN ?_ _) | ((with_reducible refine Below.alloc ?_ ?_ _); rotate_left; focus ((try simp) <;> omega)) | ((with_reducible refine Below.setCell ?_ ?_ _); rotate_left; focus ((try simp) <;> omega)) | ((with_reducible refine Below.trans ?_ (Below.mono (by assumption) ?_)); rotate_left; focus ((try simp) <;> omega))))
        clear hd2 he2
        go_region_held3 (fun w' => w'.cell? ⟨wr.heap.size, 0, none⟩ = some (.string x.name.1) ∧ w'.cell? ⟨wr.heap.size, 1, none⟩ = some (.slice x.lA x.l.length x.lC)) (first | (go_keep; done) | (go_simp; done) | go_keep)
          (first
          | (go_at_call 6; go_must (refine (ht2.out _ (by repeat (first | (with_reducible exact Below.refl _ _) | (with_reducible refine Below.drew ?_) | (with_reducible refine below_drewN ?_ _) | ((with_reducible refine Below.alloc ?_ ?_ _); rotate_left; focus ((try simp) <;> omega)) | ((with_reducible refine Below.setCell ?_ ?_ _); rotate_left; focus ((try simp) <;> omega)) | ((with_reducible refine Below.trans ?_ (Below.mono (by assumption) ?_)); rotate_left; focus ((try simp) <;> omega))))).mono ?_; rintro e w3 ⟨rfl, hb3⟩; have hz3 := hb3.size; (try simp at hz3); obtain ⟨hd3, he3⟩ := blk_at hb3 wr.heap.size (by (try simp) <;> omega)))
          | (refine step_append_rw rfl (.tmp 16) (.tmp 22) _ rfl timE_len timE_one w.heap.size 59 inf _ 24 Tryd.underlying43 hi0 iz0 iz1 iz2 rfl (by omega) _ T rfl (((hown.out.all hbr2.out).drew.all hb3).alloc _) _ (some ⟨w3.heap.size, 0, none⟩) 1 1 [⟨x.name, timeV x.l⟩] rfl rfl (rw_tim rfl (Nat.lt_succ_self _)) (by simp [maxLen]; omega) (by omega) (by (try simp) <;> omega) ?_
             intro v4 w4 hown4 hg4 hat4
             have hz4 := hg4.size
             (try simp at hz4)
             obtain ⟨hd4, he4⟩ := grown_blk hg4 wr.heap.size (by (try simp) <;> omega) (fun e => by have := (hvlt.out _ e.symm).2; omega)))
        all_goals go_wp2_with fail
        all_goals go_roundw
        case rel => exact ⟨k + 1, hkl, by go_num, by rw [hsc.out]; exact hown4, (by refine Below.grown ?_ hg4 ?_ (fun q hq => (hvlt.out q hq).1); (exact (by repeat (first | (with_reducible exact Below.refl _ _) | (with_reducible refine Below.drew ?_) | (with_reducible refine below_drewN ?_ _) | ((with_reducible refine Below.alloc ?_ ?_ _); rotate_left; focus ((try simp) <;> omega)) | ((with_reducible refine Below.setCell ?_ ?_ _); rotate_left; focus ((try simp) <;> omega)) | ((with_reducible refine Below.trans ?_ (Below.mono (by assumption) ?_)); rotate_left; focus ((try simp) <;> omega))))); ((try simp) <;> omega))⟩
        case measure => simp [intOf]; omega
      · rw [if_neg h0, List.append_nil] at hsc
        have h0z : ¬ (0 : Int) < (n : Int) := by omega
        replace hsc := Lib.hid hsc
        go_wp2_with (go_at_call 11; go_must (refine (hm3.out _ (by repeat (first | (with_reducible exact Below.refl _ _) | (with_reducible refine Below.drew ?_) | (with_reducible refine below_drewN ?_ _) | ((with_reducible refine Below.alloc ?_ ?_ _); rotate_left; focus ((try simp) <;> omega)) | ((with_reducible refine Below.setCell ?_ ?_ _); rotate_left; focus ((try simp) <;> omega)) | ((with_reducible refine Below.trans ?_ (Below.mono (by assumption) ?_)); rotate_left; focus ((try simp) <;> omega))))).mono ?_; rintro e w2 ⟨A2, c2, rfl, ho2, hb2⟩; have hz2 := hb2.size; (try simp at hz2)))
        go_roundw
        case rel => exact ⟨k + 1, hkl, by go_num, by rw [hsc.out]; exact hown.out.all (by repeat (first | (with_reducible exact Below.refl _ _) | (with_reducible refine Below.drew ?_) | (with_reducible refine below_drewN ?_ _) | ((with_reducible refine Below.alloc ?_ ?_ _); rotate_left; focus ((try simp) <;> omega)) | ((with_reducible refine Below.setCell ?_ ?_ _); rotate_left; focus ((try simp) <;> omega)) | ((with_reducible refine Below.trans ?_ (Below.mono (by assumption) ?_)); rotate_left; focus ((try simp) <;> omega)))), (by repeat (first | (with_reducible exact Below.refl _ _) | (with_reducible refine Below.drew ?_) | (with_reducible refine below_drewN ?_ _) | ((with_reducible refine Below.alloc ?_ ?_ _); rotate_left; focus ((try simp) <;> omega)) | ((with_reducible refine Below.setCell ?_ ?_ _); rotate_left; focus ((try simp) <;> omega)) | ((with_reducible refine Below.trans ?_ (Below.mono (by assumption) ?_)); rotate_left; focus ((try simp) <;> omega))))⟩
        case measure => simp [intOf]; omega
    · have i1 : ¬ (k : Int) < (l.length : Int) := by omega
      obtain rfl : k = l.length := by omega
      rw [show (l.map Hst.h).take l.length = l.map Hst.h from List.take_of_length_le (by simp)] at hown
      obtain ⟨L, hL⟩ : ∃ L, timesL (l.map Hst.h) = L := ⟨_, rfl⟩
      rw [hL] at hown
      obtain ⟨A4, c4, e4, h1, _, _⟩ := hown.form
      subst e4
      replace hL := Lib.hid hL
      have hrd := Lib.hid (hown.reads timE_len)
      go_wp2_with fail
      go_ret
      exact ⟨A4, c4, L, rfl, hL.out.symm, hrd.out, h1, hbw⟩
/-- What num.Scale returns for failures among 1000. -/
theorem scale_rate {n b : Nat} (h0 : 0 < n) (hb : b ≤ n) (hn : n ≤ 1000000) : Num.scV (b : Int) 1000 (n : Int) = .tuple #[.int .i64 (1000 * (b : Int) / (n : Int)), .int .i64 0] := by
  have hd : ¬ (n : Int) = 0 := by omega
  have hN : Num.sN (b : Int) 1000 (n : Int) = false := by
    unfold Num.sN Num.pN Num.pP
    rw [show decide ((n : Int) < 0) = false from decide_eq_false (by omega)]
    simp
  have hsz : Num.sz (n : Int) = (n : Int) := by unfold Num.sz; rw [if_neg (by omega)]
  have hP : Num.pP (b : Int) 1000 = 1000 * (b : Int) := by
    unfold Num.pP Num.sz
    rw [if_neg (by omega), if_neg (by omega)]
    omega
  have hq1 : 0 ≤ 1000 * (b : Int) / (n : Int) := Int.ediv_nonneg (by omega) (by omega)
  have hq2 : 1000 * (b : Int) / (n : Int) ≤ 1000 * (b : Int) := Int.ediv_le_self _ (by omega)
  have hQ : Num.sQ (b : Int) 1000 (n : Int) = 1000 * (b : Int) / (n : Int) := by
    unfold Num.sQ
    rw [hN, if_neg (fun h => by cases h.1), hP, hsz]
  have h1 : (1000 * (b : Int) / (n : Int)) / 18446744073709551616 = 0 := Int.ediv_eq_zero_of_lt hq1 (by omega)
  have h2 : (1000 * (b : Int) / (n : Int)) % 18446744073709551616 = 1000 * (b : Int) / (n : Int) := Int.emod_eq_of_lt hq1 (by omega)
  have hB : Num.nrB false ((1000 * (b : Int) / (n : Int)) / 18446744073709551616) ((1000 * (b : Int) / (n : Int)) % 18446744073709551616) = true := by
    unfold Num.nrB
    rw [h1, h2]
    simp
    omega
  rw [Num.scV_ok hd hN hQ hB]
  unfold Num.nrI
  rw [if_pos hB, h2]
  rfl
theorem scale_none (b : Int) : Num.scV b 1000 0 = .tuple #[.int .i64 0, .int .i64 2] := rfl
def badM (l : List Samp) : Nat := l.countP fun s => decide (s.status.1 = 2)
theorem bad_succ {l : List Samp} {k : Nat} {s : Samp} (h : l[k]? = some s) : badM (l.take (k + 1)) = badM (l.take k) + if s.status.1 = 2 then 1 else 0 := by
  unfold badM
  rw [List.take_add_one, h, List.countP_append]
  by_cases h2 : s.status.1 = 2 <;> simp [h2]
set_option maxRecDepth 100000 in
set_option maxHeartbeats 4000000 in
theorem rate_any (x : Hst) (w : World) (hx : LabHst w w.heap.size x) (hn : x.l.length ≤ 1000000) :
    Calls Tryd.prog 7 #[.agg #[.string x.name.1, .slice x.lA x.l.length x.lC]] w fun e w' => e = .returned (.int .i64 (rateI x.l)) ∧ Below w.heap.size w w' := by
  have hms : Hid (∀ W, Below w.heap.size w W → Calls Tryd.prog 11 #[.agg #[.string x.name.1, .slice x.lA x.l.length x.lC]] W fun e w' => ∃ A c, e = .returned (.slice A (x.l.filter isM).length c) ∧ Own sampE 4 42 w' W.heap.size (.slice A (x.l.filter isM).length c) (x.l.filter isM) ∧ Below W.heap.size W w') := Lib.hid fun W hb => measured_any x W ((hx.below hb (Nat.le_refl _)).more hb.size) hn
  have hbm : badM (x.l.filter isM) = badN x.l := bad_meas x.l
  have hml : (measT x.l).length = (x.l.filter isM).length := List.length_map _
  have hrate : rateI x.l = if (x.l.filter isM).length = 0 then 0 else 1000 * (badN x.l : Int) / ((x.l.filter isM).length : Int) := by
    unfold rateI
    rw [hml]
    by_cases h : measT x.l = []
    · rw [if_pos h, if_pos (by rw [← hml, h]; rfl)]
    · rw [if_neg h, if_neg (fun e => h (List.eq_nil_of_length_eq_zero (by rw [hml]; exact e)))]
  have hble : badM (x.l.filter isM) ≤ (x.l.filter isM).length := List.countP_le_length
  rw [← hbm] at hrate
  obtain ⟨M, hM⟩ : ∃ M, x.l.filter isM = M := ⟨_, rfl⟩
  have hMn : M.length ≤ 1000000 := by rw [← hM]; have := List.length_filter_le isM x.l; omega
  rw [hM] at hms hrate hble
  obtain ⟨R, hR⟩ : ∃ R, rateI x.l = R := ⟨_, rfl⟩
  rw [hR] at hrate ⊢
  have hsc0 := fun (W : World) => Num.scale_any (badM M : Int) 1000 (M.length : Int) (by omega) (by omega) (by omega) (by omega) (by omega) (by omega) W
  have hsc1 : Num.scV (badM M : Int) 1000 (M.length : Int) = .tuple #[.int .i64 R, .int .i64 (if M.length = 0 then 2 else 0)] := by
    by_cases h0 : M.length = 0
    · rw [h0]
      rw [if_pos h0] at hrate
      rw [hrate]
      exact scale_none _
    · rw [if_neg h0] at hrate ⊢
      rw [hrate]
      exact scale_rate (by omega) hble hMn
  rw [hsc1] at hsc0
  obtain ⟨E, hE⟩ : ∃ E : Int, (if M.length = 0 then 2 else 0) = E := ⟨_, rfl⟩
  rw [hE] at hsc0
  have hsc := Lib.hid hsc0
  clear hsc0 hsc1 hx hrate hml
  replace hM := Lib.hid hM
  replace hR := Lib.hid hR
  replace hE := Lib.hid hE
  replace hbm := Lib.hid hbm
  go_enter Tryd.func7, Tryd.ntmps7
  go_wp2_with (go_at_call 11; go_must (refine (hms.out _ (by repeat (first | (with_reducible exact Below.refl _ _) | (with_reducible refine Below.drew ?_) | (with_reducible refine below_drewN ?_ _) | ((with_reducible refine Below.alloc ?_ ?_ _); rotate_left; focus ((try simp) <;> omega)) | ((with_reducible refine Below.setCell ?_ ?_ _); rotate_left; focus ((try simp) <;> omega)) | ((with_reducible refine Below.trans ?_ (Below.mono (by assumption) ?_)); rotate_left; focus ((try simp) <;> omega))))).mono ?_; rintro e w2 ⟨A2, c2, rfl, ho2, hb2⟩; have hz2 := hb2.size; (try simp at hz2)))
  have hrd := Lib.hid (ho2.reads sampE_len)
  go_loopw [4, 13] (fun vo vi wr => ∃ k : Nat, k ≤ M.length ∧ vi = .int .i64 (k : Int) ∧ vo = .int .i64 (badM (M.take k) : Int) ∧ Below w2.heap.size w2 wr) (fun _ vi _ => M.length - (intOf vi).toNat)
  case atStart => exact ⟨0, Nat.zero_le _, rfl, rfl, Below.refl _ _⟩
  case round =>
    obtain ⟨k, hk, rfl, rfl, hbw⟩ := hrel
    have hz := hbw.size
    have hbk : badM (M.take k) ≤ k := by
      have h1 : badM (M.take k) ≤ (M.take k).length := List.countP_le_length
      rw [List.length_take] at h1
      omega
    by_cases hkl : k < M.length
    · obtain ⟨s, hs⟩ := get_some hkl
      obtain ⟨g, o, rfl, hg, hq⟩ := hrd.out (by omega)
      have q := fun j u hu => (hbw.cell (p := ⟨g, o + k * 4 + j, none⟩) hg).trans (hq k s hs j u hu)
      have q0 := q 0 (.int .u64 s.code.1) rfl
      rw [Nat.add_zero] at q0
      have q1 := q 1 (.int .i64 s.status.1) rfl
      have q2 := q 2 (.int .i64 s.time.1) rfl
      have q3 := q 3 (.int .i64 s.stamp.1) rfl
      clear q hq
      have i0 : (0 : Int) ≤ (k : Int) := by omega
      have i1 : (k : Int) < (M.length : Int) := by omega
      have hbs := bad_succ hs
      replace hs := Lib.hid hs
      obtain ⟨b, hb⟩ : ∃ b, badM (M.take k) = b := ⟨_, rfl⟩
      rw [hb] at hbs hbk ⊢
      replace hb := Lib.hid hb
      by_cases h2 : s.status.1 = 2
      · rw [if_pos h2] at hbs
        have h2b : (s.status.1 == 2) = true := by rw [h2]; rfl
        replace hbs := Lib.hid hbs
        replace h2 := Lib.hid h2
        go_wp2_with fail
        go_roundw
        case rel => exact ⟨k + 1, hkl, by go_num, by rw [hbs.out]; go_num, (by repeat (first | (with_reducible exact Below.refl _ _) | (with_reducible refine Below.drew ?_) | (with_reducible refine below_drewN ?_ _) | ((with_reducible refine Below.alloc ?_ ?_ _); rotate_left; focus ((try simp) <;> omega)) | ((with_reducible refine Below.setCell ?_ ?_ _); rotate_left; focus ((try simp) <;> omega)) | ((with_reducible refine Below.trans ?_ (Below.mono (by assumption) ?_)); rotate_left; focus ((try simp) <;> omega))))⟩
        case measure => simp [intOf]; omega
      · rw [if_neg h2] at hbs
        have h2b : (s.status.1 == 2) = false := by rw [beq_eq_false_iff_ne]; exact h2
        replace hbs := Lib.hid hbs
        replace h2 := Lib.hid h2
        go_wp2_with fail
        go_roundw
        case rel => exact ⟨k + 1, hkl, by go_num, by rw [hbs.out]; rfl, (by repeat (first | (with_reducible exact Below.refl _ _) | (with_reducible refine Below.drew ?_) | (with_reducible refine below_drewN ?_ _) | ((with_reducible refine Below.alloc ?_ ?_ _); rotate_left; focus ((try simp) <;> omega)) | ((with_reducible refine Below.setCell ?_ ?_ _); rotate_left; focus ((try simp) <;> omega)) | ((with_reducible refine Below.trans ?_ (Below.mono (by assumption) ?_)); rotate_left; focus ((try simp) <;> omega))))⟩
        case measure => simp [intOf]; omega
    · have i1 : ¬ (k : Int) < (M.length : Int) := by omega
      obtain rfl : k = M.length := by omega
      rw [List.take_length]
      go_wp2_with (go_at_call 13; go_must (refine (hsc.out _).mono ?_; rintro e w5 ⟨rfl, hb5⟩; have hz5 := hb5.size))
      go_ret
      exact ⟨rfl, (show Below w.heap.size w w2 from (by repeat (first | (with_reducible exact Below.refl _ _) | (with_reducible refine Below.drew ?_) | (with_reducible refine below_drewN ?_ _) | ((with_reducible refine Below.alloc ?_ ?_ _); rotate_left; focus ((try simp) <;> omega)) | ((with_reducible refine Below.setCell ?_ ?_ _); rotate_left; focus ((try simp) <;> omega)) | ((with_reducible refine Below.trans ?_ (Below.mono (by assumption) ?_)); rotate_left; focus ((try simp) <;> omega))))).trans ((hbw.mono (by omega)).trans (hb5.mono (by omega)))⟩
end Go.Proofs.YtddepmelnemniaaDoor
