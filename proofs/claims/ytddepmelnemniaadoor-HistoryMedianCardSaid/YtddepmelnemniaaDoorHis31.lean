/-
  The walks of histories: the measured times, numbers in order, by the reference.
-/
import Derived.Test.YtddepmelnemniaaDoorHis30


namespace Go.Proofs.YtddepmelnemniaaDoor
open Go.RowKit

def measS (l : List Samp) : List I64 := timesS (l.filter isM)
theorem meas_yes {l : List Samp} {k : Nat} {s : Samp} (h : l[k]? = some s) (hs : isM s = true) : measS (l.take (k + 1)) = measS (l.take k) ++ [s.time] := by
  unfold measS timesS
  rw [filter_take h, if_pos hs, List.map_append]
  rfl
theorem meas_no {l : List Samp} {k : Nat} {s : Samp} (h : l[k]? = some s) (hs : isM s = false) : measS (l.take (k + 1)) = measS (l.take k) := by
  unfold measS
  rw [filter_take h, if_neg (by rw [hs]; decide), List.append_nil]
set_option maxRecDepth 100000 in
set_option maxHeartbeats 4000000 in
theorem rmeas_any (x : Hst) (w : World) (hx : LabHst w w.heap.size x) (hn : x.l.length ≤ 1000000) :
    Calls Tryd.prog 5 #[.agg #[.string x.name.1, .slice x.lA x.l.length x.lC]] w fun e w' => ∃ A c, e = .returned (.slice A (measS x.l).length c) ∧ Own iE 1 3 w' w.heap.size (.slice A (measS x.l).length c) (measS x.l) ∧ Below w.heap.size w w' := by
  obtain ⟨inf, hi0, iz0, iz1, iz2⟩ := info_parts int_info
  have hrd : Hid (Rw sampE 4 w w.heap.size x.lA x.l) := Lib.hid hx.2.2
  clear hx
  go_enter Tryd.func5, Tryd.ntmps5
  go_wp2_with fail
  go_loopw [3, 4] (fun vo vi wr => ∃ k : Nat, k ≤ x.l.length ∧ vi = .int .i64 (k : Int) ∧ Own iE 1 3 wr (w.heap.size + 1) vo (measS (x.l.take k)) ∧ Below w.heap.size w wr ∧ wr.cell? ⟨w.heap.size, 1, none⟩ = some (.slice x.lA x.l.length x.lC)) (fun _ vi _ => x.l.length - (intOf vi).toNat)
  case atStart => exact ⟨0, Nat.zero_le _, rfl, Own.nil _ _ _, (by repeat (first | (with_reducible exact Below.refl _ _) | (with_reducible refine Below.drew ?_) | (with_reducible refine below_drewN ?_ _) | ((with_reducible refine Below.alloc ?_ ?_ _); rotate_left; focus ((try simp) <;> omega)) | ((with_reducible refine Below.setCell ?_ ?_ _); rotate_left; focus ((try simp) <;> omega)) | ((with_reducible refine Below.trans ?_ (Below.mono (by assumption) ?_)); rotate_left; focus ((try simp) <;> omega)))), by go_simp⟩
  case round =>
    obtain ⟨k, hk, rfl, hown, hbw, hx1⟩ := hrel
    have hz := hbw.size
    have hxz := World.block_lt_of_cell? _ _ hx1
    simp only at hxz
    have hvlt : Hid (∀ q, u3.ownBlock = some q → w.heap.size ≤ q ∧ q < wr.heap.size) := Lib.hid fun q hq => ⟨by have := (hown.lt q hq).1; omega, (hown.lt q hq).2⟩
    have hvlt2 : Hid (∀ q, u3.ownBlock = some q → w.heap.size < q) := Lib.hid fun q hq => by have := (hown.lt q hq).1; omega
    have htl : (measS (x.l.take k)).length ≤ k := by
      unfold measS timesS
      rw [List.length_map]
      have h1 := List.length_filter_le isM (x.l.take k)
      rw [List.length_take] at h1
      omega
    obtain ⟨T, hT⟩ : ∃ T, measS (x.l.take k) = T := ⟨_, rfl⟩
    rw [hT] at hown htl
    by_cases hkl : k < x.l.length
    · obtain ⟨s, hs⟩ := get_some hkl
      obtain ⟨g, o, hA, hg, hq⟩ := hrd.out (by omega)
      have q := fun j u hu => (hbw.cell (p := ⟨g, o + k * 4 + j, none⟩) hg).trans (hq k s hs j u hu)
      have q1 := q 1 (.int .i64 s.status.1) rfl
      have q2 := q 2 (.int .i64 s.time.1) rfl
      clear q hq
      rw [hA] at hx1
      replace hA := Lib.hid hA
      have i0 : (0 : Int) ≤ (k : Int) := by omega
      have i1 : (k : Int) < (x.l.length : Int) := by omega
      have hgw : g < wr.heap.size := by omega
      have hyes := fun h => meas_yes hs h
      have hno := fun h => meas_no hs h
      rw [hT] at hyes hno
      replace hT := Lib.hid hT
      replace hs := Lib.hid hs
      replace hown := Lib.hid hown
      by_cases h1 : s.status.1 = 1
      · have hnx := Lib.hid (hyes (by unfold isM; rw [decide_eq_true h1]; rfl))
        have k1 : (s.status.1 == 1) = true := by rw [h1]; rfl
        clear hyes hno
        replace h1 := Lib.hid h1
        go_wp2_with (first
          | (at_builtin
             refine wpList_append_rw _ rfl (.tmp 28) (.tmp 35) _ rfl iE_len iE_one (w.heap.size + 1) 3 inf _ 8 Tryd.underlying26 hi0 iz0 iz1 iz2 rfl (by omega) _ T rfl (hown.out.alloc _) _ (some ⟨wr.heap.size, 0, none⟩) 1 1 [s.time] rfl rfl (rw_int1 rfl (Nat.lt_succ_self _)) ?_ ?_ ?_ ?_
             · (try simp [maxLen]) <;> omega
             · (try simp) <;> omega
             · (try simp) <;> omega
             intro v4 w4 hown4 hg4 hat4
             have hz4 := hg4.size))
        go_roundw
        case rel => exact ⟨k + 1, hkl, by go_num, by rw [hnx.out]; exact hown4, (by refine Below.grown ?_ hg4 ?_ (fun q hq => (hvlt.out q hq).1); (exact (by repeat (first | (with_reducible exact Below.refl _ _) | (with_reducible refine Below.drew ?_) | (with_reducible refine below_drewN ?_ _) | ((with_reducible refine Below.alloc ?_ ?_ _); rotate_left; focus ((try simp) <;> omega)) | ((with_reducible refine Below.setCell ?_ ?_ _); rotate_left; focus ((try simp) <;> omega)) | ((with_reducible refine Below.trans ?_ (Below.mono (by assumption) ?_)); rotate_left; focus ((try simp) <;> omega))))); ((try simp) <;> omega)), (by obtain ⟨u1, u2⟩ := grown_blk hg4 w.heap.size (by (try simp) <;> omega) (fun e => by have := (hvlt2.out _ e.symm); omega); exact (u1 1).trans (by go_simp; exact hA.out.symm))⟩
        case measure => simp [intOf]; omega
      · have k1 : (s.status.1 == 1) = false := by rw [beq_eq_false_iff_ne]; exact h1
        by_cases h2 : s.status.1 = 2
        · have hnx := Lib.hid (hyes (by unfold isM; rw [decide_eq_true h2, Bool.or_true]))
          have k2 : (s.status.1 == 2) = true := by rw [h2]; rfl
          clear hyes hno
          replace h1 := Lib.hid h1
          replace h2 := Lib.hid h2
          go_wp2_with (first
            | (at_builtin
               refine wpList_append_rw _ rfl (.tmp 28) (.tmp 35) _ rfl iE_len iE_one (w.heap.size + 1) 3 inf _ 8 Tryd.underlying26 hi0 iz0 iz1 iz2 rfl (by omega) _ T rfl (hown.out.alloc _) _ (some ⟨wr.heap.size, 0, none⟩) 1 1 [s.time] rfl rfl (rw_int1 rfl (Nat.lt_succ_self _)) ?_ ?_ ?_ ?_
               · (try simp [maxLen]) <;> omega
               · (try simp) <;> omega
               · (try simp) <;> omega
               intro v4 w4 hown4 hg4 hat4
               have hz4 := hg4.size))
          go_roundw
          case rel => exact ⟨k + 1, hkl, by go_num, by rw [hnx.out]; exact hown4, (by refine Below.grown ?_ hg4 ?_ (fun q hq => (hvlt.out q hq).1); (exact (by repeat (first | (with_reducible exact Below.refl _ _) | (with_reducible refine Below.drew ?_) | (with_reducible refine below_drewN ?_ _) | ((with_reducible refine Below.alloc ?_ ?_ _); rotate_left; focus ((try simp) <;> omega)) | ((with_reducible refine Below.setCell ?_ ?_ _); rotate_left; focus ((try simp) <;> omega)) | ((with_reducible refine Below.trans ?_ (Below.mono (by assumption) ?_)); rotate_left; focus ((try simp) <;> omega))))); ((try simp) <;> omega)), (by obtain ⟨u1, u2⟩ := grown_blk hg4 w.heap.size (by (try simp) <;> omega) (fun e => by have := (hvlt2.out _ e.symm); omega); exact (u1 1).trans (by go_simp; exact hA.out.symm))⟩
          case measure => simp [intOf]; omega
        · have hnx := Lib.hid (hno (by unfold isM; rw [decide_eq_false h1, decide_eq_false h2]; rfl))
          have k2 : (s.status.1 == 2) = false := by rw [beq_eq_false_iff_ne]; exact h2
          clear hyes hno
          replace h1 := Lib.hid h1
          replace h2 := Lib.hid h2
          go_wp2_with fail
          go_roundw
          case rel => exact ⟨k + 1, hkl, by go_num, by rw [hnx.out]; exact hown.out, hbw, by rw [hx1, hA.out]⟩
          case measure => simp [intOf]; omega
    · have i1 : ¬ (k : Int) < (x.l.length : Int) := by omega
      obtain rfl : k = x.l.length := by omega
      rw [List.take_length] at hT
      obtain ⟨A4, c4, e4, _, _, _⟩ := hown.form
      subst e4
      have hown2 := Lib.hid (Own.base hown (b' := w.heap.size) (by omega))
      replace hown := Lib.hid hown
      replace hT := Lib.hid hT
      go_wp2_with fail
      go_ret
      exact ⟨A4, c4, by rw [hT.out]; rfl, by rw [hT.out]; exact hown2.out, hbw⟩
end Go.Proofs.YtddepmelnemniaaDoor
