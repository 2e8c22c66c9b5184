/-
  The walks of the budget layer: New, Level, Spend, When, Refund, of the program and of the reference, each with what it returns as plain functions.
-/
import Derived.Test.YtalnbjcfcpkdlaaWalks1



namespace Go.Proofs.Ytalnbjcfcpkdlaa
open Go.RowKit
attribute [local go_sem ↓] eq_bucket






set_option maxHeartbeats 400000 in
theorem new_yes (r bu n : Int) (h : 0 ≤ r ∧ r ≤ 1000 ∧ 0 ≤ bu ∧ bu ≤ 1000000 ∧ 0 ≤ n ∧ n ≤ 1125899906842624) (w : World) :
    Calls Try.prog 9 #[.int .i64 r, .int .i64 bu, .int .i64 n] w fun e w' => e = .returned (.tuple #[.agg #[.int .i64 r, .int .i64 bu, .int .i64 (1000 * bu), .int .i64 n], .int .i64 0]) ∧ Below w.heap.size w w' := by
  have b1 : inB r 0 1000 = true := inB_iff.2 (by omega)
  have b2 : inB bu 0 1000000 = true := inB_iff.2 (by omega)
  have b3 : inB n 0 1125899906842624 = true := inB_iff.2 (by omega)
  obtain ⟨h1, h2, h3, h4, h5, h6⟩ := h
  go_enter Try.func9, Try.ntmps9
  go_wp2_with (first | (go_at_call 20; refine (within_any _ _ _ (by omega) _).mono ?_; rintro e w' ⟨rfl, rfl⟩))
  exact bodyPost_ret (v := .tuple #[.agg #[.int .i64 r, .int .i64 bu, .int .i64 (1000 * bu), .int .i64 n], .int .i64 0]) (by simp [results, Try.results9, go_sem]) rfl ⟨rfl, (by repeat (first | (with_reducible exact Below.refl _ _) | (with_reducible refine Below.drew ?_) | ((with_reducible refine Below.alloc ?_ ?_ _); rotate_left; focus ((try simp) <;> omega)) | ((with_reducible refine Below.setCell ?_ ?_ _); rotate_left; focus ((try simp) <;> omega)) | ((with_reducible refine Below.trans ?_ (Below.mono (by assumption) ?_)); rotate_left; focus ((try simp) <;> omega))))⟩

set_option maxHeartbeats 400000 in
theorem new_no (r bu n : Int) (h : ¬ (0 ≤ r ∧ r ≤ 1000 ∧ 0 ≤ bu ∧ bu ≤ 1000000 ∧ 0 ≤ n ∧ n ≤ 1125899906842624)) (w : World) :
    Calls Try.prog 9 #[.int .i64 r, .int .i64 bu, .int .i64 n] w fun e w' => e = .returned (.tuple #[.agg #[.int .i64 0, .int .i64 0, .int .i64 0, .int .i64 0], .int .i64 2]) ∧ Below w.heap.size w w' := by
  go_enter Try.func9, Try.ntmps9
  go_wp2_with (first | (go_at_call 20; refine (within_any _ _ _ (by omega) _).mono ?_; rintro e w' ⟨rfl, rfl⟩))
  all_goals first
    | (exfalso; (try simp only [inB_iff, inB_no, Bool.not_eq_true', Bool.not_eq_false', Bool.not_eq_true, Bool.not_eq_false] at *); omega)
    | (exact bodyPost_ret (v := .tuple #[.agg #[.int .i64 0, .int .i64 0, .int .i64 0, .int .i64 0], .int .i64 2]) (by simp [results, Try.results9, go_sem]) rfl ⟨rfl, (by repeat (first | (with_reducible exact Below.refl _ _) | (with_reducible refine Below.drew ?_) | ((with_reducible refine Below.alloc ?_ ?_ _); rotate_left; focus ((try simp) <;> omega)) | ((with_reducible refine Below.setCell ?_ ?_ _); rotate_left; focus ((try simp) <;> omega)) | ((with_reducible refine Below.trans ?_ (Below.mono (by assumption) ?_)); rotate_left; focus ((try simp) <;> omega))))⟩)
    | (go_wp2; exact bodyPost_ret (v := .tuple #[.agg #[.int .i64 0, .int .i64 0, .int .i64 0, .int .i64 0], .int .i64 2]) (by simp [results, Try.results9, go_sem]) rfl ⟨rfl, (by repeat (first | (with_reducible exact Below.refl _ _) | (with_reducible refine Below.drew ?_) | ((with_reducible refine Below.alloc ?_ ?_ _); rotate_left; focus ((try simp) <;> omega)) | ((with_reducible refine Below.setCell ?_ ?_ _); rotate_left; focus ((try simp) <;> omega)) | ((with_reducible refine Below.trans ?_ (Below.mono (by assumption) ?_)); rotate_left; focus ((try simp) <;> omega))))⟩)


set_option maxHeartbeats 400000 in
theorem rnew_yes (r bu n : Int) (h : 0 ≤ r ∧ r ≤ 1000 ∧ 0 ≤ bu ∧ bu ≤ 1000000 ∧ 0 ≤ n ∧ n ≤ 1125899906842624) (w : World) :
    Calls Try.prog 10 #[.int .i64 r, .int .i64 bu, .int .i64 n] w fun e w' => e = .returned (.tuple #[.agg #[.int .i64 r, .int .i64 bu, .int .i64 (1000 * bu), .int .i64 n], .int .i64 0]) ∧ Below w.heap.size w w' := by
  have b2 : inB bu 0 1000000 = true := inB_iff.2 (by omega)
  have b3 : inB n 0 1125899906842624 = true := inB_iff.2 (by omega)
  obtain ⟨h1, h2, h3, h4, h5, h6⟩ := h
  go_enter Try.func10, Try.ntmps10
  go_wp2_with (first | (go_at_call 21; refine (cost_any _ _).mono ?_; rintro e w' ⟨rfl, rfl⟩) | (go_at_call 22; refine (time_any _ _).mono ?_; rintro e w' ⟨rfl, rfl⟩))
  exact bodyPost_ret (v := .tuple #[.agg #[.int .i64 r, .int .i64 bu, .int .i64 (1000 * bu), .int .i64 n], .int .i64 0]) (by simp [results, Try.results10, go_sem]) rfl ⟨rfl, (by repeat (first | (with_reducible exact Below.refl _ _) | (with_reducible refine Below.drew ?_) | ((with_reducible refine Below.alloc ?_ ?_ _); rotate_left; focus ((try simp) <;> omega)) | ((with_reducible refine Below.setCell ?_ ?_ _); rotate_left; focus ((try simp) <;> omega)) | ((with_reducible refine Below.trans ?_ (Below.mono (by assumption) ?_)); rotate_left; focus ((try simp) <;> omega))))⟩

set_option maxHeartbeats 400000 in
theorem rnew_no (r bu n : Int) (h : ¬ (0 ≤ r ∧ r ≤ 1000 ∧ 0 ≤ bu ∧ bu ≤ 1000000 ∧ 0 ≤ n ∧ n ≤ 1125899906842624)) (w : World) :
    Calls Try.prog 10 #[.int .i64 r, .int .i64 bu, .int .i64 n] w fun e w' => e = .returned (.tuple #[.agg #[.int .i64 0, .int .i64 0, .int .i64 0, .int .i64 0], .int .i64 2]) ∧ Below w.heap.size w w' := by
  go_enter Try.func10, Try.ntmps10
  go_wp2_with (first | (go_at_call 21; refine (cost_any _ _).mono ?_; rintro e w' ⟨rfl, rfl⟩) | (go_at_call 22; refine (time_any _ _).mono ?_; rintro e w' ⟨rfl, rfl⟩))
  all_goals first
    | (exfalso; (try simp only [inB_iff, inB_no, Bool.not_eq_true', Bool.not_eq_false', Bool.not_eq_true, Bool.not_eq_false] at *); omega)
    | (exact bodyPost_ret (v := .tuple #[.agg #[.int .i64 0, .int .i64 0, .int .i64 0, .int .i64 0], .int .i64 2]) (by simp [results, Try.results10, go_sem]) rfl ⟨rfl, (by repeat (first | (with_reducible exact Below.refl _ _) | (with_reducible refine Below.drew ?_) | ((with_reducible refine Below.alloc ?_ ?_ _); rotate_left; focus ((try simp) <;> omega)) | ((with_reducible refine Below.setCell ?_ ?_ _); rotate_left; focus ((try simp) <;> omega)) | ((with_reducible refine Below.trans ?_ (Below.mono (by assumption) ?_)); rotate_left; focus ((try simp) <;> omega))))⟩)
    | (go_wp2; exact bodyPost_ret (v := .tuple #[.agg #[.int .i64 0, .int .i64 0, .int .i64 0, .int .i64 0], .int .i64 2]) (by simp [results, Try.results10, go_sem]) rfl ⟨rfl, (by repeat (first | (with_reducible exact Below.refl _ _) | (with_reducible refine Below.drew ?_) | ((with_reducible refine Below.alloc ?_ ?_ _); rotate_left; focus ((try simp) <;> omega)) | ((with_reducible refine Below.setCell ?_ ?_ _); rotate_left; focus ((try simp) <;> omega)) | ((with_reducible refine Below.trans ?_ (Below.mono (by assumption) ?_)); rotate_left; focus ((try simp) <;> omega))))⟩)

/-- What Level returns. -/
def Lvl (r bu l a n : Int) : Int := if Vld r bu l a ∧ 0 ≤ n ∧ n ≤ 1125899906842624 then lvl r bu l a n else 0

theorem lvl_bd {r bu l a n : Int} (h : Vld r bu l a) (hn : 0 ≤ n ∧ n ≤ 1125899906842624) : 0 ≤ lvl r bu l a n ∧ lvl r bu l a n ≤ 1000000000 ∧ lvl r bu l a n ≤ 1000 * bu := by
  obtain ⟨h1, h2, h3, h4, h5, h6, h7, h8⟩ := h
  unfold lvl
  by_cases hta : n ≤ a
  · rw [if_pos hta]; omega
  · obtain ⟨p1, p2⟩ := prod_bd h1 h2 (d := n - a) (by omega) (by omega)
    rw [if_neg hta]; omega

set_option maxHeartbeats 400000 in
theorem Level_any (r bu l a n : Int) (w : World) :
    Calls Try.prog 12 #[.agg #[.int .i64 r, .int .i64 bu, .int .i64 l, .int .i64 a], .int .i64 n] w fun e w' => e = .returned (.int .i64 (Lvl r bu l a n)) ∧ Below w.heap.size w w' := by
  by_cases hv : Vld r bu l a
  · have bv := vld_iff.2 hv
    by_cases hn : 0 ≤ n ∧ n ≤ 1125899906842624
    · have bn : inB n 0 1125899906842624 = true := inB_iff.2 hn
      have hR : Hid (Lvl r bu l a n = lvl r bu l a n) := by unfold Lvl; exact if_pos ⟨hv, hn⟩
      go_enter Try.func12, Try.ntmps12
      go_wp2_with (first | (go_at_call 20; refine (within_any _ _ _ (by omega) _).mono ?_; rintro e w' ⟨rfl, rfl⟩) | (go_at_call 23; refine (valid_any _ _ _ _ _).mono ?_; rintro e w1 ⟨rfl, hb1⟩; have hz1 := hb1.size; (try simp at hz1); obtain ⟨hc1, hf1⟩ := blk_at hb1 w.heap.size (by (try simp) <;> omega)) | (go_at_call 24; refine (level_any _ _ _ _ _ (by assumption) (by omega) _).mono ?_; rintro e w2 ⟨rfl, hb2⟩; have hz2 := hb2.size; (try simp at hz2); obtain ⟨hc2, hf2⟩ := blk_at hb2 w.heap.size (by (try simp) <;> omega)))
      go_ret
      exact ⟨ret_int hR.out.symm, (by repeat (first | (with_reducible exact Below.refl _ _) | (with_reducible refine Below.drew ?_) | ((with_reducible refine Below.alloc ?_ ?_ _); rotate_left; focus ((try simp) <;> omega)) | ((with_reducible refine Below.setCell ?_ ?_ _); rotate_left; focus ((try simp) <;> omega)) | ((with_reducible refine Below.trans ?_ (Below.mono (by assumption) ?_)); rotate_left; focus ((try simp) <;> omega))))⟩
    · have bn : inB n 0 1125899906842624 = false := inB_no.2 hn
      have hR : Hid (Lvl r bu l a n = 0) := by unfold Lvl; exact if_neg (fun h => hn h.2)
      go_enter Try.func12, Try.ntmps12
      go_wp2_with (first | (go_at_call 20; refine (within_any _ _ _ (by omega) _).mono ?_; rintro e w' ⟨rfl, rfl⟩) | (go_at_call 23; refine (valid_any _ _ _ _ _).mono ?_; rintro e w1 ⟨rfl, hb1⟩; have hz1 := hb1.size; (try simp at hz1); obtain ⟨hc1, hf1⟩ := blk_at hb1 w.heap.size (by (try simp) <;> omega)))
      go_ret
      exact ⟨ret_int hR.out.symm, (by repeat (first | (with_reducible exact Below.refl _ _) | (with_reducible refine Below.drew ?_) | ((with_reducible refine Below.alloc ?_ ?_ _); rotate_left; focus ((try simp) <;> omega)) | ((with_reducible refine Below.setCell ?_ ?_ _); rotate_left; focus ((try simp) <;> omega)) | ((with_reducible refine Below.trans ?_ (Below.mono (by assumption) ?_)); rotate_left; focus ((try simp) <;> omega))))⟩
  · have bv := vld_no.2 hv
    have hR : Hid (Lvl r bu l a n = 0) := by unfold Lvl; exact if_neg (fun h => hv h.1)
    go_enter Try.func12, Try.ntmps12
    go_wp2_with (first | (go_at_call 20; refine (within_any _ _ _ (by omega) _).mono ?_; rintro e w' ⟨rfl, rfl⟩) | (go_at_call 23; refine (valid_any _ _ _ _ _).mono ?_; rintro e w1 ⟨rfl, hb1⟩; have hz1 := hb1.size; (try simp at hz1); obtain ⟨hc1, hf1⟩ := blk_at hb1 w.heap.size (by (try simp) <;> omega)))
    go_ret
    exact ⟨ret_int hR.out.symm, (by repeat (first | (with_reducible exact Below.refl _ _) | (with_reducible refine Below.drew ?_) | ((with_reducible refine Below.alloc ?_ ?_ _); rotate_left; focus ((try simp) <;> omega)) | ((with_reducible refine Below.setCell ?_ ?_ _); rotate_left; focus ((try simp) <;> omega)) | ((with_reducible refine Below.trans ?_ (Below.mono (by assumption) ?_)); rotate_left; focus ((try simp) <;> omega))))⟩

theorem lvl_ref {r bu l a n : Int} (h : Vld r bu l a) : lvl r bu l a n = min (1000 * bu) (l + r * max 0 (n - a)) := by
  obtain ⟨h1, h2, h3, h4, h5, h6, h7, h8⟩ := h
  unfold lvl
  by_cases hta : n ≤ a
  · rw [if_pos hta, show max 0 (n - a) = 0 by omega]; omega
  · rw [if_neg hta, show max 0 (n - a) = n - a by omega]

set_option maxHeartbeats 400000 in
theorem rLevel_any (r bu l a n : Int) (w : World) :
    Calls Try.prog 13 #[.agg #[.int .i64 r, .int .i64 bu, .int .i64 l, .int .i64 a], .int .i64 n] w fun e w' => e = .returned (.int .i64 (Lvl r bu l a n)) ∧ Below w.heap.size w w' := by
  by_cases hv : Vld r bu l a
  · have bv := vld_iff.2 hv
    by_cases hn : 0 ≤ n ∧ n ≤ 1125899906842624
    · have bn : inB n 0 1125899906842624 = true := inB_iff.2 hn
      have hR : Hid (Lvl r bu l a n = min (1000 * bu) (l + r * max 0 (n - a))) := by rw [← lvl_ref hv]; unfold Lvl; exact if_pos ⟨hv, hn⟩
      obtain ⟨h1, h2, h3, h4, h5, h6, h7, h8⟩ := hv
      by_cases hta : n ≤ a
      · go_enter Try.func13, Try.ntmps13
        go_wp2_with (first | (go_at_call 22; refine (time_any _ _).mono ?_; rintro e w' ⟨rfl, rfl⟩) | (go_at_call 15; refine (right_any _ _ _ _ _).mono ?_; rintro e w1 ⟨rfl, hb1⟩; have hz1 := hb1.size; (try simp at hz1); obtain ⟨hc1, hf1⟩ := blk_at hb1 w.heap.size (by (try simp) <;> omega)))
        all_goals
          go_ret
          exact ⟨ret_int (by rw [hR.out, show max 0 (n - a) = 0 by omega]; omega), (by repeat (first | (with_reducible exact Below.refl _ _) | (with_reducible refine Below.drew ?_) | ((with_reducible refine Below.alloc ?_ ?_ _); rotate_left; focus ((try simp) <;> omega)) | ((with_reducible refine Below.setCell ?_ ?_ _); rotate_left; focus ((try simp) <;> omega)) | ((with_reducible refine Below.trans ?_ (Below.mono (by assumption) ?_)); rotate_left; focus ((try simp) <;> omega))))⟩
      · obtain ⟨p1, p2⟩ := prod_bd h1 h2 (d := n - a) (by omega) (by omega)
        go_enter Try.func13, Try.ntmps13
        go_wp2_with (first | (go_at_call 22; refine (time_any _ _).mono ?_; rintro e w' ⟨rfl, rfl⟩) | (go_at_call 15; refine (right_any _ _ _ _ _).mono ?_; rintro e w1 ⟨rfl, hb1⟩; have hz1 := hb1.size; (try simp at hz1); obtain ⟨hc1, hf1⟩ := blk_at hb1 w.heap.size (by (try simp) <;> omega)))
        all_goals
          go_ret
          exact ⟨ret_int (by rw [hR.out, show max 0 (n - a) = n - a by omega]; omega), (by repeat (first | (with_reducible exact Below.refl _ _) | (with_reducible refine Below.drew ?_) | ((with_reducible refine Below.alloc ?_ ?_ _); rotate_left; focus ((try simp) <;> omega)) | ((with_reducible refine Below.setCell ?_ ?_ _); rotate_left; focus ((try simp) <;> omega)) | ((with_reducible refine Below.trans ?_ (Below.mono (by assumption) ?_)); rotate_left; focus ((try simp) <;> omega))))⟩
    · have bn : inB n 0 1125899906842624 = false := inB_no.2 hn
      have hR : Hid (Lvl r bu l a n = 0) := by unfold Lvl; exact if_neg (fun h => hn h.2)
      go_enter Try.func13, Try.ntmps13
      go_wp2_with (first | (go_at_call 22; refine (time_any _ _).mono ?_; rintro e w' ⟨rfl, rfl⟩) | (go_at_call 15; refine (right_any _ _ _ _ _).mono ?_; rintro e w1 ⟨rfl, hb1⟩; have hz1 := hb1.size; (try simp at hz1); obtain ⟨hc1, hf1⟩ := blk_at hb1 w.heap.size (by (try simp) <;> omega)))
      go_ret
      exact ⟨ret_int hR.out.symm, (by repeat (first | (with_reducible exact Below.refl _ _) | (with_reducible refine Below.drew ?_) | ((with_reducible refine Below.alloc ?_ ?_ _); rotate_left; focus ((try simp) <;> omega)) | ((with_reducible refine Below.setCell ?_ ?_ _); rotate_left; focus ((try simp) <;> omega)) | ((with_reducible refine Below.trans ?_ (Below.mono (by assumption) ?_)); rotate_left; focus ((try simp) <;> omega))))⟩
  · have bv := vld_no.2 hv
    have hR : Hid (Lvl r bu l a n = 0) := by unfold Lvl; exact if_neg (fun h => hv h.1)
    go_enter Try.func13, Try.ntmps13
    go_wp2_with (first | (go_at_call 22; refine (time_any _ _).mono ?_; rintro e w' ⟨rfl, rfl⟩) | (go_at_call 15; refine (right_any _ _ _ _ _).mono ?_; rintro e w1 ⟨rfl, hb1⟩; have hz1 := hb1.size; (try simp at hz1); obtain ⟨hc1, hf1⟩ := blk_at hb1 w.heap.size (by (try simp) <;> omega)))
    go_ret
    exact ⟨ret_int hR.out.symm, (by repeat (first | (with_reducible exact Below.refl _ _) | (with_reducible refine Below.drew ?_) | ((with_reducible refine Below.alloc ?_ ?_ _); rotate_left; focus ((try simp) <;> omega)) | ((with_reducible refine Below.setCell ?_ ?_ _); rotate_left; focus ((try simp) <;> omega)) | ((with_reducible refine Below.trans ?_ (Below.mono (by assumption) ?_)); rotate_left; focus ((try simp) <;> omega))))⟩

end Go.Proofs.Ytalnbjcfcpkdlaa
