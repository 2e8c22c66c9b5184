/-
  BudgetWhen: for every bucket, time and cost, When returns the first time at which the cost can be spent, if there is one, and the first example holds. No condition.
-/
import Derived.Test.YtalnbjcfcpkdlaaWalks8
import Derived.Test.YtalnbjcfcpkdlaaLawKit
import Derived.Test.YtalnbjcfcpkdlaaLawParts





namespace Go.Proofs.Ytalnbjcfcpkdlaa.budgetWhen
open Go.ChangeShapes Go.WideShapes Go.ChangeAt Go.RowKit Go.Joins
attribute [local go_sem ↓] eq_bucket

theorem own : ownKnob Try.prog.godebug = none := by kernel_rfl
theorem laidOut : laidOutB Try.prog = true := by kernel_rfl

theorem lvl_late {r bu l a t : Int} (h : a < t) : lvl r bu l a t = min (1000 * bu) (l + r * (t - a)) := by unfold lvl; rw [if_neg (by omega)]
theorem lvl_from {r bu l a m t : Int} (h : Vld r bu l a) (hm : 0 ≤ m) (ham : a ≤ m) (hmt : m ≤ t) : lvl r bu l a t = if t = m then lvl r bu l a m else min (1000 * bu) (lvl r bu l a m + r * (t - m)) := by
  rw [← budgetParts.lvl_parts h hm hmt, show max a m = m by omega]
  by_cases e : t = m
  · rw [if_pos e, e]
    unfold lvl
    rw [if_pos (Int.le_refl m)]
  · rw [if_neg e]
    rw [lvl_late (by omega)]

/-- How many milliseconds bring so much. -/
theorem ceil_bd {x r : Int} (hr : 1 ≤ r) : r * ((x + r - 1) / r - 1) < x ∧ x ≤ r * ((x + r - 1) / r) := by
  have h1 : (x + r - 1) / r * r ≤ x + r - 1 := Int.ediv_mul_le _ (by omega)
  have h2 : x + r - 1 < ((x + r - 1) / r + 1) * r := Int.lt_ediv_add_one_mul_self _ (by omega)
  rw [Int.mul_comm r, Int.mul_comm r, Int.sub_mul]
  rw [Int.add_mul] at h2
  constructor <;> omega

theorem when_no {r bu l a n c : Int} (hv : Vld r bu l a) (hn : 0 ≤ n ∧ n ≤ 1125899906842624) (hc : 0 ≤ c ∧ c ≤ 1000000) (h : wB r bu l a n c = false) : Lvl r bu l a 1125899906842624 < 1000 * c := by
  have hL : Lvl r bu l a 1125899906842624 = lvl r bu l a 1125899906842624 := by unfold Lvl; exact if_pos ⟨hv, by omega⟩
  have hv' := hv
  obtain ⟨h1, h2, h3, h4, h5, h6, h7, h8⟩ := hv'
  have hq := lvl_bd hv (n := 1125899906842624) (by omega)
  have hf := lvl_from (m := max n a) (t := 1125899906842624) hv (by omega) (by omega) (by omega)
  unfold wB at h
  rw [vld_iff.2 hv, inB_iff.2 hn, inB_iff.2 hc] at h
  simp only [Bool.true_and, Bool.or_eq_false_iff, Bool.and_eq_false_iff, decide_eq_false_iff_not] at h
  obtain ⟨hneed, h⟩ := h
  rw [hL]
  rcases h with h | h | h
  · omega
  · have hr : r = 0 := by simpa using h
    subst hr
    rw [hf]
    split <;> omega
  · rw [hf]
    unfold wLate at h
    split
    · omega
    · have hr : 1 ≤ r := by
        rcases Int.lt_or_le 0 r with h0 | h0
        · omega
        · have : r = 0 := by omega
          subst this
          simp at h
          omega
      obtain ⟨c1, c2⟩ := ceil_bd (x := 1000 * c - lvl r bu l a (max n a)) hr
      have c3 := Int.mul_le_mul_of_nonneg_left (show 1125899906842624 - max n a ≤ (1000 * c - lvl r bu l a (max n a) + r - 1) / r - 1 by omega) h1
      omega

theorem when_yes {r bu l a n c : Int} (hv : Vld r bu l a) (hn : 0 ≤ n ∧ n ≤ 1125899906842624) (hc : 0 ≤ c ∧ c ≤ 1000000) (h : wB r bu l a n c = true) :
    n ≤ wT r bu l a n c ∧ a ≤ wT r bu l a n c ∧ wT r bu l a n c ≤ 1125899906842624 ∧ spE r bu l a (wT r bu l a n c) c = 0 ∧
      (wT r bu l a n c = n ∨ wT r bu l a n c = a ∨ Lvl r bu l a (wT r bu l a n c - 1) < 1000 * c) := by
  have hv' := hv
  obtain ⟨h1, h2, h3, h4, h5, h6, h7, h8⟩ := hv'
  have sp : ∀ t, 0 ≤ t → t ≤ 1125899906842624 → 1000 * c ≤ lvl r bu l a t → spE r bu l a t c = 0 := fun t t1 t2 hl =>
    (sp_0 (vld_iff.2 hv) (inB_iff.2 ⟨t1, t2⟩) (inB_iff.2 hc) (by omega)).1
  have hw : wT r bu l a n c = if 1000 * c - lvl r bu l a (max n a) ≤ 0 then max n a else wLate r bu l a n c := by unfold wT; rw [if_pos h]
  unfold wB at h
  rw [vld_iff.2 hv, inB_iff.2 hn, inB_iff.2 hc] at h
  simp only [Bool.true_and, Bool.or_eq_true, Bool.and_eq_true, decide_eq_true_eq] at h
  by_cases hneed : 1000 * c - lvl r bu l a (max n a) ≤ 0
  · rw [if_pos hneed] at hw
    rw [hw]
    exact ⟨by omega, by omega, by omega, sp _ (by omega) (by omega) (by omega), by omega⟩
  · rw [if_neg hneed] at hw
    rw [hw]
    obtain ⟨hcb, hr0, hlate⟩ := h.resolve_left hneed
    have hr : 1 ≤ r := by omega
    obtain ⟨c1, c2⟩ := ceil_bd (x := 1000 * c - lvl r bu l a (max n a)) hr
    have hk : 1 ≤ (1000 * c - lvl r bu l a (max n a) + r - 1) / r := by
      rcases Int.lt_or_le 0 ((1000 * c - lvl r bu l a (max n a) + r - 1) / r) with h0 | h0
      · omega
      · have := Int.mul_le_mul_of_nonneg_left h0 h1
        omega
    have e : wLate r bu l a n c = max n a + (1000 * c - lvl r bu l a (max n a) + r - 1) / r := rfl
    have f1 := lvl_from (m := max n a) (t := wLate r bu l a n c) hv (by omega) (by omega) (by omega)
    rw [if_neg (by omega), show wLate r bu l a n c - max n a = (1000 * c - lvl r bu l a (max n a) + r - 1) / r by omega] at f1
    refine ⟨by omega, by omega, by omega, sp _ (by omega) (by omega) (by omega), .inr (.inr ?_)⟩
    have f2 := lvl_from (m := max n a) (t := wLate r bu l a n c - 1) hv (by omega) (by omega) (by omega)
    have hL : Lvl r bu l a (wLate r bu l a n c - 1) = lvl r bu l a (wLate r bu l a n c - 1) := by unfold Lvl; exact if_pos ⟨hv, by omega, by omega⟩
    rw [hL, f2]
    split
    · omega
    · rw [show wLate r bu l a n c - 1 - max n a = (1000 * c - lvl r bu l a (max n a) + r - 1) / r - 1 by omega]
      omega

set_option maxHeartbeats 2000000 in
theorem walk_bad (r bu l a n c : Int) (w : World) (h : ¬ (Vld r bu l a ∧ (0 ≤ n ∧ n ≤ 1125899906842624) ∧ (0 ≤ c ∧ c ≤ 1000000))) :
    Calls Try.prog 5 #[.agg #[.int .i64 r, .int .i64 bu, .int .i64 l, .int .i64 a], .int .i64 n, .int .i64 c] w fun e w' => e = .returned (.bool true) ∧ Below w.heap.size w w' := by
  have hB : wB r bu l a n c = false := by
    unfold wB
    rw [Bool.eq_false_iff]
    intro hh
    simp only [Bool.and_eq_true] at hh
    exact h ⟨vld_iff.1 hh.1, inB_iff.1 hh.2.1, inB_iff.1 hh.2.2.1⟩
  have hT : wT r bu l a n c = 0 := by unfold wT; rw [hB]; rfl
  rcases bv : vld r bu l a with _ | _
  · go_enter Try.func5, Try.ntmps5
    go_wp2_with fail
    refine (when_any r bu l a n c _).mono ?_
    rintro e w1 ⟨rfl, hb1⟩
    unfold wV
    have hz1 := hb1.size; (try simp at hz1); obtain ⟨hc1, hf1⟩ := blk_at hb1 w.heap.size (by (try simp) <;> omega)
    have hlt1 : w.heap.size < w1.heap.size := by omega
    go_wp2_with (first | (go_at_call 15; refine (right_any _ _ _ _ _).mono ?_; rintro e w2 ⟨rfl, hb2⟩; have hz2 := hb2.size; (try simp at hz2); obtain ⟨hc2, hf2⟩ := blk_at hb2 w.heap.size (by (try simp) <;> omega); have hlt2 : w.heap.size < w2.heap.size := by omega))
    all_goals
      refine (awake_any _).mono ?_
      rintro e w9 ⟨rfl, hb9⟩
      have hz9 := hb9.size; try simp at hz9
      go_wp2_with fail
      go_ret
      exact ⟨rfl, (by repeat (first | (with_reducible exact Below.refl _ _) | (with_reducible refine Below.drew ?_) | ((with_reducible refine Below.alloc ?_ ?_ _); rotate_left; focus ((try simp) <;> omega)) | ((with_reducible refine Below.setCell ?_ ?_ _); rotate_left; focus ((try simp) <;> omega)) | ((with_reducible refine Below.trans ?_ (Below.mono (by assumption) ?_)); rotate_left; focus ((try simp) <;> omega))))⟩
  · have hnc : ¬ ((0 ≤ n ∧ n ≤ 1125899906842624) ∧ (0 ≤ c ∧ c ≤ 1000000)) := fun hh => h ⟨vld_iff.1 bv, hh⟩
    go_enter Try.func5, Try.ntmps5
    go_wp2_with fail
    refine (when_any r bu l a n c _).mono ?_
    rintro e w1 ⟨rfl, hb1⟩
    unfold wV
    have hz1 := hb1.size; (try simp at hz1); obtain ⟨hc1, hf1⟩ := blk_at hb1 w.heap.size (by (try simp) <;> omega)
    have hlt1 : w.heap.size < w1.heap.size := by omega
    go_wp2_with (first | (go_at_call 15; refine (right_any _ _ _ _ _).mono ?_; rintro e w2 ⟨rfl, hb2⟩; have hz2 := hb2.size; (try simp at hz2); obtain ⟨hc2, hf2⟩ := blk_at hb2 w.heap.size (by (try simp) <;> omega); have hlt2 : w.heap.size < w2.heap.size := by omega))
    all_goals
      refine (awake_any _).mono ?_
      rintro e w9 ⟨rfl, hb9⟩
      have hz9 := hb9.size; try simp at hz9
      go_wp2_with fail
      go_ret
      exact ⟨rfl, (by repeat (first | (with_reducible exact Below.refl _ _) | (with_reducible refine Below.drew ?_) | ((with_reducible refine Below.alloc ?_ ?_ _); rotate_left; focus ((try simp) <;> omega)) | ((with_reducible refine Below.setCell ?_ ?_ _); rotate_left; focus ((try simp) <;> omega)) | ((with_reducible refine Below.trans ?_ (Below.mono (by assumption) ?_)); rotate_left; focus ((try simp) <;> omega))))⟩

set_option maxHeartbeats 2000000 in
theorem walk_no (r bu l a n c : Int) (w : World) (bv : vld r bu l a = true) (hn : 0 ≤ n ∧ n ≤ 1125899906842624) (hc : 0 ≤ c ∧ c ≤ 1000000) (hB : wB r bu l a n c = false) :
    Calls Try.prog 5 #[.agg #[.int .i64 r, .int .i64 bu, .int .i64 l, .int .i64 a], .int .i64 n, .int .i64 c] w fun e w' => e = .returned (.bool true) ∧ Below w.heap.size w w' := by
  have hT : wT r bu l a n c = 0 := by unfold wT; rw [hB]; rfl
  have hlo := when_no (vld_iff.1 bv) hn hc hB
  obtain ⟨n1, n2⟩ := hn
  obtain ⟨c1, c2⟩ := hc
  go_enter Try.func5, Try.ntmps5
  go_wp2_with fail
  refine (when_any r bu l a n c _).mono ?_
  rintro e w1 ⟨rfl, hb1⟩
  unfold wV
  have hz1 := hb1.size; (try simp at hz1); obtain ⟨hc1, hf1⟩ := blk_at hb1 w.heap.size (by (try simp) <;> omega)
  have hlt1 : w.heap.size < w1.heap.size := by omega
  go_wp2_with (first | (go_at_call 15; refine (right_any _ _ _ _ _).mono ?_; rintro e w2 ⟨rfl, hb2⟩; have hz2 := hb2.size; (try simp at hz2); obtain ⟨hc2, hf2⟩ := blk_at hb2 w.heap.size (by (try simp) <;> omega); have hlt2 : w.heap.size < w2.heap.size := by omega))
  go_wp2_with (first | (go_at_call 12; refine (Level_any _ _ _ _ _ _).mono ?_; rintro e w4 ⟨rfl, hb4⟩; have hz4 := hb4.size; (try simp at hz4); obtain ⟨hc4, hf4⟩ := blk_at hb4 w.heap.size (by (try simp) <;> omega); have hlt4 : w.heap.size < w4.heap.size := by omega) | (go_at_call 16; refine (spend_any _ _ _ _ _ _ _).mono ?_; rintro e w5 ⟨rfl, hb5⟩; unfold spV; have hz5 := hb5.size; (try simp at hz5); obtain ⟨hc5, hf5⟩ := blk_at hb5 w.heap.size (by (try simp) <;> omega); have hlt5 : w.heap.size < w5.heap.size := by omega) | (go_at_call 11; refine (awake_any _).mono ?_; rintro e w9 ⟨rfl, hb9⟩; have hz9 := hb9.size; (try simp at hz9); obtain ⟨hc9, hf9⟩ := blk_at hb9 w.heap.size (by (try simp) <;> omega)))
  all_goals go_ret
  all_goals exact ⟨rfl, (by repeat (first | (with_reducible exact Below.refl _ _) | (with_reducible refine Below.drew ?_) | ((with_reducible refine Below.alloc ?_ ?_ _); rotate_left; focus ((try simp) <;> omega)) | ((with_reducible refine Below.setCell ?_ ?_ _); rotate_left; focus ((try simp) <;> omega)) | ((with_reducible refine Below.trans ?_ (Below.mono (by assumption) ?_)); rotate_left; focus ((try simp) <;> omega))))⟩

set_option maxHeartbeats 2000000 in
theorem walk_yes (r bu l a n c : Int) (w : World) (bv : vld r bu l a = true) (hn : 0 ≤ n ∧ n ≤ 1125899906842624) (hc : 0 ≤ c ∧ c ≤ 1000000) (hB : wB r bu l a n c = true) :
    Calls Try.prog 5 #[.agg #[.int .i64 r, .int .i64 bu, .int .i64 l, .int .i64 a], .int .i64 n, .int .i64 c] w fun e w' => e = .returned (.bool true) ∧ Below w.heap.size w w' := by
  obtain ⟨t1, t2, t3, t4, t5⟩ := when_yes (vld_iff.1 bv) hn hc hB
  obtain ⟨n1, n2⟩ := hn
  obtain ⟨c1, c2⟩ := hc
  have he : (spE r bu l a (wT r bu l a n c) c == 0) = true := by simpa using t4
  clear t4
  by_cases x1 : wT r bu l a n c = n
  · have y1 : (wT r bu l a n c == n) = true := by simpa using x1
    have H1 := Lib.hid x1
    clear x1 t5
    go_enter Try.func5, Try.ntmps5
    go_wp2_with fail
    refine (when_any r bu l a n c _).mono ?_
    rintro e w1 ⟨rfl, hb1⟩
    unfold wV
    have hz1 := hb1.size; (try simp at hz1); obtain ⟨hc1, hf1⟩ := blk_at hb1 w.heap.size (by (try simp) <;> omega)
    have hlt1 : w.heap.size < w1.heap.size := by omega
    go_wp2_with (first | (go_at_call 15; refine (right_any _ _ _ _ _).mono ?_; rintro e w2 ⟨rfl, hb2⟩; have hz2 := hb2.size; (try simp at hz2); obtain ⟨hc2, hf2⟩ := blk_at hb2 w.heap.size (by (try simp) <;> omega); have hlt2 : w.heap.size < w2.heap.size := by omega))
    go_wp2_with (first | (go_at_call 12; refine (Level_any _ _ _ _ _ _).mono ?_; rintro e w4 ⟨rfl, hb4⟩; have hz4 := hb4.size; (try simp at hz4); obtain ⟨hc4, hf4⟩ := blk_at hb4 w.heap.size (by (try simp) <;> omega); have hlt4 : w.heap.size < w4.heap.size := by omega) | (go_at_call 16; refine (spend_any _ _ _ _ _ _ _).mono ?_; rintro e w5 ⟨rfl, hb5⟩; unfold spV; have hz5 := hb5.size; (try simp at hz5); obtain ⟨hc5, hf5⟩ := blk_at hb5 w.heap.size (by (try simp) <;> omega); have hlt5 : w.heap.size < w5.heap.size := by omega) | (go_at_call 11; refine (awake_any _).mono ?_; rintro e w9 ⟨rfl, hb9⟩; have hz9 := hb9.size; (try simp at hz9); obtain ⟨hc9, hf9⟩ := blk_at hb9 w.heap.size (by (try simp) <;> omega)))
    all_goals go_ret
    all_goals exact ⟨rfl, (by repeat (first | (with_reducible exact Below.refl _ _) | (with_reducible refine Below.drew ?_) | ((with_reducible refine Below.alloc ?_ ?_ _); rotate_left; focus ((try simp) <;> omega)) | ((with_reducible refine Below.setCell ?_ ?_ _); rotate_left; focus ((try simp) <;> omega)) | ((with_reducible refine Below.trans ?_ (Below.mono (by assumption) ?_)); rotate_left; focus ((try simp) <;> omega))))⟩
  · have y1 : (wT r bu l a n c == n) = false := by simpa using x1
    by_cases x2 : wT r bu l a n c = a
    · have y2 : (wT r bu l a n c == a) = true := by simpa using x2
      have H2 := Lib.hid x2
      clear x1 x2 t5
      go_enter Try.func5, Try.ntmps5
      go_wp2_with fail
      refine (when_any r bu l a n c _).mono ?_
      rintro e w1 ⟨rfl, hb1⟩
      unfold wV
      have hz1 := hb1.size; (try simp at hz1); obtain ⟨hc1, hf1⟩ := blk_at hb1 w.heap.size (by (try simp) <;> omega)
      have hlt1 : w.heap.size < w1.heap.size := by omega
      go_wp2_with (first | (go_at_call 15; refine (right_any _ _ _ _ _).mono ?_; rintro e w2 ⟨rfl, hb2⟩; have hz2 := hb2.size; (try simp at hz2); obtain ⟨hc2, hf2⟩ := blk_at hb2 w.heap.size (by (try simp) <;> omega); have hlt2 : w.heap.size < w2.heap.size := by omega))
      go_wp2_with (first | (go_at_call 12; refine (Level_any _ _ _ _ _ _).mono ?_; rintro e w4 ⟨rfl, hb4⟩; have hz4 := hb4.size; (try simp at hz4); obtain ⟨hc4, hf4⟩ := blk_at hb4 w.heap.size (by (try simp) <;> omega); have hlt4 : w.heap.size < w4.heap.size := by omega) | (go_at_call 16; refine (spend_any _ _ _ _ _ _ _).mono ?_; rintro e w5 ⟨rfl, hb5⟩; unfold spV; have hz5 := hb5.size; (try simp at hz5); obtain ⟨hc5, hf5⟩ := blk_at hb5 w.heap.size (by (try simp) <;> omega); have hlt5 : w.heap.size < w5.heap.size := by omega) | (go_at_call 11; refine (awake_any _).mono ?_; rintro e w9 ⟨rfl, hb9⟩; have hz9 := hb9.size; (try simp at hz9); obtain ⟨hc9, hf9⟩ := blk_at hb9 w.heap.size (by (try simp) <;> omega)))
      all_goals go_ret
      all_goals exact ⟨rfl, (by repeat (first | (with_reducible exact Below.refl _ _) | (with_reducible refine Below.drew ?_) | ((with_reducible refine Below.alloc ?_ ?_ _); rotate_left; focus ((try simp) <;> omega)) | ((with_reducible refine Below.setCell ?_ ?_ _); rotate_left; focus ((try simp) <;> omega)) | ((with_reducible refine Below.trans ?_ (Below.mono (by assumption) ?_)); rotate_left; focus ((try simp) <;> omega))))⟩
    · have y2 : (wT r bu l a n c == a) = false := by simpa using x2
      have x3 : Lvl r bu l a (wT r bu l a n c - 1) < 1000 * c := (t5.resolve_left x1).resolve_left x2
      clear x1 x2 t5
      go_enter Try.func5, Try.ntmps5
      go_wp2_with fail
      refine (when_any r bu l a n c _).mono ?_
      rintro e w1 ⟨rfl, hb1⟩
      unfold wV
      have hz1 := hb1.size; (try simp at hz1); obtain ⟨hc1, hf1⟩ := blk_at hb1 w.heap.size (by (try simp) <;> omega)
      have hlt1 : w.heap.size < w1.heap.size := by omega
      go_wp2_with (first | (go_at_call 15; refine (right_any _ _ _ _ _).mono ?_; rintro e w2 ⟨rfl, hb2⟩; have hz2 := hb2.size; (try simp at hz2); obtain ⟨hc2, hf2⟩ := blk_at hb2 w.heap.size (by (try simp) <;> omega); have hlt2 : w.heap.size < w2.heap.size := by omega))
      go_wp2_with (first | (go_at_call 12; refine (Level_any _ _ _ _ _ _).mono ?_; rintro e w4 ⟨rfl, hb4⟩; have hz4 := hb4.size; (try simp at hz4); obtain ⟨hc4, hf4⟩ := blk_at hb4 w.heap.size (by (try simp) <;> omega); have hlt4 : w.heap.size < w4.heap.size := by omega) | (go_at_call 16; refine (spend_any _ _ _ _ _ _ _).mono ?_; rintro e w5 ⟨rfl, hb5⟩; unfold spV; have hz5 := hb5.size; (try simp at hz5); obtain ⟨hc5, hf5⟩ := blk_at hb5 w.heap.size (by (try simp) <;> omega); have hlt5 : w.heap.size < w5.heap.size := by omega) | (go_at_call 11; refine (awake_any _).mono ?_; rintro e w9 ⟨rfl, hb9⟩; have hz9 := hb9.size; (try simp at hz9); obtain ⟨hc9, hf9⟩ := blk_at hb9 w.heap.size (by (try simp) <;> omega)))
      all_goals go_ret
      all_goals exact ⟨rfl, (by repeat (first | (with_reducible exact Below.refl _ _) | (with_reducible refine Below.drew ?_) | ((with_reducible refine Below.alloc ?_ ?_ _); rotate_left; focus ((try simp) <;> omega)) | ((with_reducible refine Below.setCell ?_ ?_ _); rotate_left; focus ((try simp) <;> omega)) | ((with_reducible refine Below.trans ?_ (Below.mono (by assumption) ?_)); rotate_left; focus ((try simp) <;> omega))))⟩

theorem walk (r bu l a n c : Int) (w : World) :
    Calls Try.prog 5 #[.agg #[.int .i64 r, .int .i64 bu, .int .i64 l, .int .i64 a], .int .i64 n, .int .i64 c] w fun e w' => e = .returned (.bool true) ∧ Below w.heap.size w w' := by
  by_cases h : Vld r bu l a ∧ (0 ≤ n ∧ n ≤ 1125899906842624) ∧ (0 ≤ c ∧ c ≤ 1000000)
  · obtain ⟨hv, hn, hc⟩ := h
    rcases hB : wB r bu l a n c with _ | _
    · exact walk_no r bu l a n c w (vld_iff.2 hv) hn hc hB
    · exact walk_yes r bu l a n c w (vld_iff.2 hv) hn hc hB
  · exact walk_bad r bu l a n c w h

set_option maxRecDepth 100000 in
theorem lifted (os : Os) (started : os.Started) (H : Type) (enc : TypeId × Value → H) :
    ReturnsInHanded {} Try.checked os 5 .any (Rows.budgetWhenSpec.pre6 enc Try.prog Try.f5 Rows.budgetWhenRow.domain false) (Rows.budgetWhenSpec.post enc Try.prog Try.f5 false true false false) := by
  refine returnsInHanded_of_change (C := Try.checked) own started (by kernel_rfl) Try.func5
    (ChangeSpec.witness6 (enc := enc) (C := Try.checked) false ⟨#[], #[.agg #[.int .i64 0, .int .i64 0, .int .i64 0, .int .i64 0], .int .i64 0, .int .i64 0], []⟩ 8 (by kernel_rfl) (by kernel_rfl) (by kernel_rfl) (by kernel_rfl)) ?_
  intro W base args ds gs before hval0 hW hcnd _
  have hval : ∀ (j : Nat) t v, Try.f5.params[j]? = some t → args[j]? = some v → Value.okWide Try.prog W .any base t v := hval0
  have hW' := hW
  obtain ⟨p, q, hA0, hV, rfl, hfz, hnd⟩ := hW
  have hA : DataW.TrodAll enc Try.prog W 0 (fun _ => true) true Try.f5.params.toList args.toList ds p := hA0
  have hA1 := hA
  rw [Try.params5] at hA hval
  obtain ⟨rfl, rfl⟩ := trodVars_none hV
  simp only [List.append_nil] at hW'
  have hcall : Calls Try.prog 5 args W fun e w' => e = .returned (.bool true) ∧ Below W.heap.size W w' := by
    clear hA0 hval0 hV hcnd hfz hnd
    obtain ⟨v0, v1, v2, d0, d1, d2, p0, p1, p2, rfl, rfl, rfl, h0, h1, h2⟩ := trodAll_three hA
    obtain ⟨c0, c1, c2, c3, y0, y1, y2, y3, m, rfl, _, _, k0, k1, k2, k3⟩ := open_agg4 Try.underlying23 (by kernel_rfl) (show Try.prog.cellsOf 23 = 4 by kernel_rfl) (hval 0 23 v0 rfl rfl) h0
    obtain ⟨r, e0, _, wr⟩ := DataW.trod_int Try.underlying3 k0
    obtain rfl : c0 = .int .i64 r := by simpa using e0
    obtain ⟨bu, e1, _, wbu⟩ := DataW.trod_int Try.underlying3 k1
    obtain rfl : c1 = .int .i64 bu := by simpa using e1
    obtain ⟨l, e2, _, wl⟩ := DataW.trod_int Try.underlying3 k2
    obtain rfl : c2 = .int .i64 l := by simpa using e2
    obtain ⟨a, e3, _, wa⟩ := DataW.trod_int Try.underlying3 k3
    obtain rfl : c3 = .int .i64 a := by simpa using e3
    obtain ⟨a1, rfl, rfl, rfl, w1⟩ := open_int Try.underlying3 (hval 1 3 v1 rfl rfl) h1
    obtain ⟨a2, rfl, rfl, rfl, w2⟩ := open_int Try.underlying3 (hval 2 3 v2 rfl rfl) h2
    exact walk r bu l a a1 a2 W
  have hds : ds.length = 3 := (trodAll_length hA).1
  refine hcall.mono fun e W' ⟨he, hb⟩ => ?_
  subst he
  refine ⟨_, rfl, law_post hW' rfl hA1 (by kernel_rfl) laidOut Try.underlying4 (by kernel_rfl) ?_ hb⟩
  match ds, hds with
  | [_, _, _], _ => rfl

theorem proved : Rows.BudgetWhenSaid :=
  OpenClaim.holds_of_wide 5 Try.f5 rfl rfl rfl rfl rfl rfl rfl ⟨rfl, rfl, rfl, rfl, rfl⟩ rfl rfl rfl rfl rfl (by kernel_rfl) Try.func5 (by kernel_rfl)
    (of_decide_eq_true (by kernel_rfl)) (by unfold Func.isWrapper; first | (rw [if_pos (by decide +kernel)]; kernel_rfl) | (rw [if_neg (by decide +kernel)]; exact ⟨rfl, rfl⟩))
    (fun os started H enc _ => lifted os started H enc)
#print axioms proved
end Go.Proofs.Ytalnbjcfcpkdlaa.budgetWhen
