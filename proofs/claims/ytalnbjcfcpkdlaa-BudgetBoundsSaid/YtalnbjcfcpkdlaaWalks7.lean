/-
  The walks of the budget layer: When; the first example of the chapter.
-/
import Derived.Test.YtalnbjcfcpkdlaaWalks5




namespace Go.Proofs.Ytalnbjcfcpkdlaa
open Go.RowKit
attribute [local go_sem ↓] eq_bucket

/-- When a valid bucket will contain a cost, where it does not at once. -/
def wLate (r bu l a n c : Int) : Int := max n a + (1000 * c - lvl r bu l a (max n a) + r - 1) / r
/-- Whether When finds a time, and the time. -/
def wB (r bu l a n c : Int) : Bool :=
  vld r bu l a && (inB n 0 1125899906842624 && (inB c 0 1000000 && (decide (1000 * c - lvl r bu l a (max n a) ≤ 0) || (decide (c ≤ bu) && (decide (r ≠ 0) && decide (wLate r bu l a n c ≤ 1125899906842624))))))
def wT (r bu l a n c : Int) : Int :=
  if wB r bu l a n c = true then (if 1000 * c - lvl r bu l a (max n a) ≤ 0 then max n a else wLate r bu l a n c) else 0
def wV (r bu l a n c : Int) : Value := .tuple #[.int .i64 (wT r bu l a n c), .bool (wB r bu l a n c)]
theorem wV_no {r bu l a n c : Int} (h : wB r bu l a n c = false) : wV r bu l a n c = .tuple #[.int .i64 0, .bool false] := by
  unfold wV wT; rw [h]; simp
theorem wV_yes {r bu l a n c t : Int} (h : wB r bu l a n c = true) (ht : (if 1000 * c - lvl r bu l a (max n a) ≤ 0 then max n a else wLate r bu l a n c) = t) : wV r bu l a n c = .tuple #[.int .i64 t, .bool true] := by
  unfold wV wT; rw [h, ← ht]; simp

theorem late_bd {x r : Int} (hr : 1 ≤ r) (hr2 : r ≤ 1000) (hx : 1 ≤ x) (hx2 : x ≤ 1000000000) : 0 ≤ (x + r - 1) / r ∧ (x + r - 1) / r ≤ 1000000000 := by
  refine ⟨Int.ediv_nonneg (by omega) (by omega), ?_⟩
  have h1 : (x + r - 1) / r * r ≤ x + r - 1 := Int.ediv_mul_le _ (by omega)
  rcases Int.lt_or_le 1000000000 ((x + r - 1) / r) with h | h
  · have : 1000000001 * r ≤ (x + r - 1) / r * r := Int.mul_le_mul_of_nonneg_right h (by omega)
    omega
  · exact h

set_option maxHeartbeats 2000000 in
theorem when_any (r bu l a n c : Int) (w : World) :
    Calls Try.prog 14 #[.agg #[.int .i64 r, .int .i64 bu, .int .i64 l, .int .i64 a], .int .i64 n, .int .i64 c] w fun e w' => e = .returned (wV r bu l a n c) ∧ Below w.heap.size w w' := by
  rcases bv : vld r bu l a with _ | _
  · have hE := Lib.hid (wV_no (show wB r bu l a n c = false by unfold wB; simp [bv]))
    go_enter Try.func14, Try.ntmps14
    go_wp2_with (first | (go_at_call 20; refine (within_any _ _ _ (by omega) _).mono ?_; rintro e w' ⟨rfl, rfl⟩) | (go_at_call 23; refine (valid_any _ _ _ _ _).mono ?_; rintro e w1 ⟨rfl, hb1⟩; have hz1 := hb1.size; (try simp at hz1); obtain ⟨hc1, hf1⟩ := blk_at hb1 w.heap.size (by (try simp) <;> omega)))
    go_ret2
    exact ⟨by rw [hE.out]; rfl, (by repeat (first | (with_reducible exact Below.refl _ _) | (with_reducible refine Below.drew ?_) | ((with_reducible refine Below.alloc ?_ ?_ _); rotate_left; focus ((try simp) <;> omega)) | ((with_reducible refine Below.setCell ?_ ?_ _); rotate_left; focus ((try simp) <;> omega)) | ((with_reducible refine Below.trans ?_ (Below.mono (by assumption) ?_)); rotate_left; focus ((try simp) <;> omega))))⟩
  · have hv := vld_iff.1 bv
    rcases bn : inB n 0 1125899906842624 with _ | _
    · have hE := Lib.hid (wV_no (show wB r bu l a n c = false by unfold wB; simp [bn]))
      go_enter Try.func14, Try.ntmps14
      go_wp2_with (first | (go_at_call 20; refine (within_any _ _ _ (by omega) _).mono ?_; rintro e w' ⟨rfl, rfl⟩) | (go_at_call 23; refine (valid_any _ _ _ _ _).mono ?_; rintro e w1 ⟨rfl, hb1⟩; have hz1 := hb1.size; (try simp at hz1); obtain ⟨hc1, hf1⟩ := blk_at hb1 w.heap.size (by (try simp) <;> omega)))
      go_ret2
      exact ⟨by rw [hE.out]; rfl, (by repeat (first | (with_reducible exact Below.refl _ _) | (with_reducible refine Below.drew ?_) | ((with_reducible refine Below.alloc ?_ ?_ _); rotate_left; focus ((try simp) <;> omega)) | ((with_reducible refine Below.setCell ?_ ?_ _); rotate_left; focus ((try simp) <;> omega)) | ((with_reducible refine Below.trans ?_ (Below.mono (by assumption) ?_)); rotate_left; focus ((try simp) <;> omega))))⟩
    · rcases bc : inB c 0 1000000 with _ | _
      · have hE := Lib.hid (wV_no (show wB r bu l a n c = false by unfold wB; simp [bc]))
        go_enter Try.func14, Try.ntmps14
        go_wp2_with (first | (go_at_call 20; refine (within_any _ _ _ (by omega) _).mono ?_; rintro e w' ⟨rfl, rfl⟩) | (go_at_call 23; refine (valid_any _ _ _ _ _).mono ?_; rintro e w1 ⟨rfl, hb1⟩; have hz1 := hb1.size; (try simp at hz1); obtain ⟨hc1, hf1⟩ := blk_at hb1 w.heap.size (by (try simp) <;> omega)))
        go_ret2
        exact ⟨by rw [hE.out]; rfl, (by repeat (first | (with_reducible exact Below.refl _ _) | (with_reducible refine Below.drew ?_) | ((with_reducible refine Below.alloc ?_ ?_ _); rotate_left; focus ((try simp) <;> omega)) | ((with_reducible refine Below.setCell ?_ ?_ _); rotate_left; focus ((try simp) <;> omega)) | ((with_reducible refine Below.trans ?_ (Below.mono (by assumption) ?_)); rotate_left; focus ((try simp) <;> omega))))⟩
      · have hn := inB_iff.1 bn
        have hc := inB_iff.1 bc
        obtain ⟨_, _, _, _, _, _, _, _⟩ := (show Vld r bu l a from hv)
        by_cases hna : n < a
        · have hm := Lib.hid (show max n a = a by omega)
          obtain ⟨q1, q2, q3⟩ := lvl_bd hv (n := a) (by omega)
          by_cases h1 : 1000 * c - lvl r bu l a a ≤ 0
          · have hE := Lib.hid (wV_yes (t := a) (show wB r bu l a n c = true by unfold wB; simp [bv, bn, bc, hm.out, h1]) (by rw [hm.out, if_pos h1]))
            go_enter Try.func14, Try.ntmps14
            go_wp2_with (first | (go_at_call 20; refine (within_any _ _ _ (by omega) _).mono ?_; rintro e w' ⟨rfl, rfl⟩) | (go_at_call 23; refine (valid_any _ _ _ _ _).mono ?_; rintro e w1 ⟨rfl, hb1⟩; have hz1 := hb1.size; (try simp at hz1); obtain ⟨hc1, hf1⟩ := blk_at hb1 w.heap.size (by (try simp) <;> omega)) | (go_at_call 24; refine (level_any _ _ _ _ _ (by assumption) (by omega) _).mono ?_; rintro e w2 ⟨rfl, hb2⟩; have hz2 := hb2.size; (try simp at hz2); obtain ⟨hc2, hf2⟩ := blk_at hb2 w.heap.size (by (try simp) <;> omega)))
            go_ret2
            exact ⟨by rw [hE.out]; rfl, (by repeat (first | (with_reducible exact Below.refl _ _) | (with_reducible refine Below.drew ?_) | ((with_reducible refine Below.alloc ?_ ?_ _); rotate_left; focus ((try simp) <;> omega)) | ((with_reducible refine Below.setCell ?_ ?_ _); rotate_left; focus ((try simp) <;> omega)) | ((with_reducible refine Below.trans ?_ (Below.mono (by assumption) ?_)); rotate_left; focus ((try simp) <;> omega))))⟩
          · by_cases h2 : bu < c
            · have hE := Lib.hid (wV_no (show wB r bu l a n c = false by unfold wB; rw [Bool.eq_false_iff]; intro hh; simp only [Bool.and_eq_true, Bool.or_eq_true, decide_eq_true_eq, ne_eq, hm.out] at hh; first | omega | (simp at hh; done) | (simp at hh; omega)))
              go_enter Try.func14, Try.ntmps14
              go_wp2_with (first | (go_at_call 20; refine (within_any _ _ _ (by omega) _).mono ?_; rintro e w' ⟨rfl, rfl⟩) | (go_at_call 23; refine (valid_any _ _ _ _ _).mono ?_; rintro e w1 ⟨rfl, hb1⟩; have hz1 := hb1.size; (try simp at hz1); obtain ⟨hc1, hf1⟩ := blk_at hb1 w.heap.size (by (try simp) <;> omega)) | (go_at_call 24; refine (level_any _ _ _ _ _ (by assumption) (by omega) _).mono ?_; rintro e w2 ⟨rfl, hb2⟩; have hz2 := hb2.size; (try simp at hz2); obtain ⟨hc2, hf2⟩ := blk_at hb2 w.heap.size (by (try simp) <;> omega)))
              go_ret2
              exact ⟨by rw [hE.out]; rfl, (by repeat (first | (with_reducible exact Below.refl _ _) | (with_reducible refine Below.drew ?_) | ((with_reducible refine Below.alloc ?_ ?_ _); rotate_left; focus ((try simp) <;> omega)) | ((with_reducible refine Below.setCell ?_ ?_ _); rotate_left; focus ((try simp) <;> omega)) | ((with_reducible refine Below.trans ?_ (Below.mono (by assumption) ?_)); rotate_left; focus ((try simp) <;> omega))))⟩
            · by_cases h3 : r = 0
              · subst h3
                have hE := Lib.hid (wV_no (show wB 0 bu l a n c = false by unfold wB; rw [Bool.eq_false_iff]; intro hh; simp only [Bool.and_eq_true, Bool.or_eq_true, decide_eq_true_eq, ne_eq, hm.out] at hh; first | omega | (simp at hh; done) | (simp at hh; omega)))
                go_enter Try.func14, Try.ntmps14
                go_wp2_with (first | (go_at_call 20; refine (within_any _ _ _ (by omega) _).mono ?_; rintro e w' ⟨rfl, rfl⟩) | (go_at_call 23; refine (valid_any _ _ _ _ _).mono ?_; rintro e w1 ⟨rfl, hb1⟩; have hz1 := hb1.size; (try simp at hz1); obtain ⟨hc1, hf1⟩ := blk_at hb1 w.heap.size (by (try simp) <;> omega)) | (go_at_call 24; refine (level_any _ _ _ _ _ (by assumption) (by omega) _).mono ?_; rintro e w2 ⟨rfl, hb2⟩; have hz2 := hb2.size; (try simp at hz2); obtain ⟨hc2, hf2⟩ := blk_at hb2 w.heap.size (by (try simp) <;> omega)))
                go_ret2
                exact ⟨by rw [hE.out]; rfl, (by repeat (first | (with_reducible exact Below.refl _ _) | (with_reducible refine Below.drew ?_) | ((with_reducible refine Below.alloc ?_ ?_ _); rotate_left; focus ((try simp) <;> omega)) | ((with_reducible refine Below.setCell ?_ ?_ _); rotate_left; focus ((try simp) <;> omega)) | ((with_reducible refine Below.trans ?_ (Below.mono (by assumption) ?_)); rotate_left; focus ((try simp) <;> omega))))⟩
              · have h3' : (r == 0) = false := by simpa using h3
                obtain ⟨d1, d2⟩ := late_bd (x := 1000 * c - lvl r bu l a a) (r := r) (by omega) (by omega) (by omega) (by omega)
                have hlate := Lib.hid (show wLate r bu l a n c = a + (1000 * c - lvl r bu l a a + r - 1) / r by unfold wLate; rw [hm.out])
                by_cases h4 : 1125899906842624 < a + (1000 * c - lvl r bu l a a + r - 1) / r
                · have hE := Lib.hid (wV_no (show wB r bu l a n c = false by unfold wB; rw [Bool.eq_false_iff]; intro hh; simp only [Bool.and_eq_true, Bool.or_eq_true, decide_eq_true_eq, ne_eq, hm.out, hlate.out] at hh; first | omega | (simp at hh; done) | (simp at hh; omega)))
                  go_enter Try.func14, Try.ntmps14
                  go_wp2_with (first | (go_at_call 20; refine (within_any _ _ _ (by omega) _).mono ?_; rintro e w' ⟨rfl, rfl⟩) | (go_at_call 23; refine (valid_any _ _ _ _ _).mono ?_; rintro e w1 ⟨rfl, hb1⟩; have hz1 := hb1.size; (try simp at hz1); obtain ⟨hc1, hf1⟩ := blk_at hb1 w.heap.size (by (try simp) <;> omega)) | (go_at_call 24; refine (level_any _ _ _ _ _ (by assumption) (by omega) _).mono ?_; rintro e w2 ⟨rfl, hb2⟩; have hz2 := hb2.size; (try simp at hz2); obtain ⟨hc2, hf2⟩ := blk_at hb2 w.heap.size (by (try simp) <;> omega)))
                  go_ret2
                  exact ⟨by rw [hE.out]; rfl, (by repeat (first | (with_reducible exact Below.refl _ _) | (with_reducible refine Below.drew ?_) | ((with_reducible refine Below.alloc ?_ ?_ _); rotate_left; focus ((try simp) <;> omega)) | ((with_reducible refine Below.setCell ?_ ?_ _); rotate_left; focus ((try simp) <;> omega)) | ((with_reducible refine Below.trans ?_ (Below.mono (by assumption) ?_)); rotate_left; focus ((try simp) <;> omega))))⟩
                · have hE := Lib.hid (wV_yes (t := a + (1000 * c - lvl r bu l a a + r - 1) / r) (show wB r bu l a n c = true by unfold wB; simp [bv, bn, bc, hm.out, h1, h3, hlate.out, Int.not_lt.1 h4, Int.not_lt.1 h2]) (by rw [hm.out, if_neg h1, hlate.out]))
                  go_enter Try.func14, Try.ntmps14
                  go_wp2_with (first | (go_at_call 20; refine (within_any _ _ _ (by omega) _).mono ?_; rintro e w' ⟨rfl, rfl⟩) | (go_at_call 23; refine (valid_any _ _ _ _ _).mono ?_; rintro e w1 ⟨rfl, hb1⟩; have hz1 := hb1.size; (try simp at hz1); obtain ⟨hc1, hf1⟩ := blk_at hb1 w.heap.size (by (try simp) <;> omega)) | (go_at_call 24; refine (level_any _ _ _ _ _ (by assumption) (by omega) _).mono ?_; rintro e w2 ⟨rfl, hb2⟩; have hz2 := hb2.size; (try simp at hz2); obtain ⟨hc2, hf2⟩ := blk_at hb2 w.heap.size (by (try simp) <;> omega)))
                  go_ret2
                  exact ⟨by rw [hE.out]; rfl, (by repeat (first | (with_reducible exact Below.refl _ _) | (with_reducible refine Below.drew ?_) | ((with_reducible refine Below.alloc ?_ ?_ _); rotate_left; focus ((try simp) <;> omega)) | ((with_reducible refine Below.setCell ?_ ?_ _); rotate_left; focus ((try simp) <;> omega)) | ((with_reducible refine Below.trans ?_ (Below.mono (by assumption) ?_)); rotate_left; focus ((try simp) <;> omega))))⟩
        · have hm := Lib.hid (show max n a = n by omega)
          obtain ⟨q1, q2, q3⟩ := lvl_bd hv (n := n) (by omega)
          by_cases h1 : 1000 * c - lvl r bu l a n ≤ 0
          · have hE := Lib.hid (wV_yes (t := n) (show wB r bu l a n c = true by unfold wB; simp [bv, bn, bc, hm.out, h1]) (by rw [hm.out, if_pos h1]))
            go_enter Try.func14, Try.ntmps14
            go_wp2_with (first | (go_at_call 20; refine (within_any _ _ _ (by omega) _).mono ?_; rintro e w' ⟨rfl, rfl⟩) | (go_at_call 23; refine (valid_any _ _ _ _ _).mono ?_; rintro e w1 ⟨rfl, hb1⟩; have hz1 := hb1.size; (try simp at hz1); obtain ⟨hc1, hf1⟩ := blk_at hb1 w.heap.size (by (try simp) <;> omega)) | (go_at_call 24; refine (level_any _ _ _ _ _ (by assumption) (by omega) _).mono ?_; rintro e w2 ⟨rfl, hb2⟩; have hz2 := hb2.size; (try simp at hz2); obtain ⟨hc2, hf2⟩ := blk_at hb2 w.heap.size (by (try simp) <;> omega)))
            go_ret2
            exact ⟨by rw [hE.out]; rfl, (by repeat (first | (with_reducible exact Below.refl _ _) | (with_reducible refine Below.drew ?_) | ((with_reducible refine Below.alloc ?_ ?_ _); rotate_left; focus ((try simp) <;> omega)) | ((with_reducible refine Below.setCell ?_ ?_ _); rotate_left; focus ((try simp) <;> omega)) | ((with_reducible refine Below.trans ?_ (Below.mono (by assumption) ?_)); rotate_left; focus ((try simp) <;> omega))))⟩
          · by_cases h2 : bu < c
            · have hE := Lib.hid (wV_no (show wB r bu l a n c = false by unfold wB; rw [Bool.eq_false_iff]; intro hh; simp only [Bool.and_eq_true, Bool.or_eq_true, decide_eq_true_eq, ne_eq, hm.out] at hh; first | omega | (simp at hh; done) | (simp at hh; omega)))
              go_enter Try.func14, Try.ntmps14
              go_wp2_with (first | (go_at_call 20; refine (within_any _ _ _ (by omega) _).mono ?_; rintro e w' ⟨rfl, rfl⟩) | (go_at_call 23; refine (valid_any _ _ _ _ _).mono ?_; rintro e w1 ⟨rfl, hb1⟩; have hz1 := hb1.size; (try simp at hz1); obtain ⟨hc1, hf1⟩ := blk_at hb1 w.heap.size (by (try simp) <;> omega)) | (go_at_call 24; refine (level_any _ _ _ _ _ (by assumption) (by omega) _).mono ?_; rintro e w2 ⟨rfl, hb2⟩; have hz2 := hb2.size; (try simp at hz2); obtain ⟨hc2, hf2⟩ := blk_at hb2 w.heap.size (by (try simp) <;> omega)))
              go_ret2
              exact ⟨by rw [hE.out]; rfl, (by repeat (first | (with_reducible exact Below.refl _ _) | (with_reducible refine Below.drew ?_) | ((with_reducible refine Below.alloc ?_ ?_ _); rotate_left; focus ((try simp) <;> omega)) | ((with_reducible refine Below.setCell ?_ ?_ _); rotate_left; focus ((try simp) <;> omega)) | ((with_reducible refine Below.trans ?_ (Below.mono (by assumption) ?_)); rotate_left; focus ((try simp) <;> omega))))⟩
            · by_cases h3 : r = 0
              · subst h3
                have hE := Lib.hid (wV_no (show wB 0 bu l a n c = false by unfold wB; rw [Bool.eq_false_iff]; intro hh; simp only [Bool.and_eq_true, Bool.or_eq_true, decide_eq_true_eq, ne_eq, hm.out] at hh; first | omega | (simp at hh; done) | (simp at hh; omega)))
                go_enter Try.func14, Try.ntmps14
                go_wp2_with (first | (go_at_call 20; refine (within_any _ _ _ (by omega) _).mono ?_; rintro e w' ⟨rfl, rfl⟩) | (go_at_call 23; refine (valid_any _ _ _ _ _).mono ?_; rintro e w1 ⟨rfl, hb1⟩; have hz1 := hb1.size; (try simp at hz1); obtain ⟨hc1, hf1⟩ := blk_at hb1 w.heap.size (by (try simp) <;> omega)) | (go_at_call 24; refine (level_any _ _ _ _ _ (by assumption) (by omega) _).mono ?_; rintro e w2 ⟨rfl, hb2⟩; have hz2 := hb2.size; (try simp at hz2); obtain ⟨hc2, hf2⟩ := blk_at hb2 w.heap.size (by (try simp) <;> omega)))
                go_ret2
                exact ⟨by rw [hE.out]; rfl, (by repeat (first | (with_reducible exact Below.refl _ _) | (with_reducible refine Below.drew ?_) | ((with_reducible refine Below.alloc ?_ ?_ _); rotate_left; focus ((try simp) <;> omega)) | ((with_reducible refine Below.setCell ?_ ?_ _); rotate_left; focus ((try simp) <;> omega)) | ((with_reducible refine Below.trans ?_ (Below.mono (by assumption) ?_)); rotate_left; focus ((try simp) <;> omega))))⟩
              · have h3' : (r == 0) = false := by simpa using h3
                obtain ⟨d1, d2⟩ := late_bd (x := 1000 * c - lvl r bu l a n) (r := r) (by omega) (by omega) (by omega) (by omega)
                have hlate := Lib.hid (show wLate r bu l a n c = n + (1000 * c - lvl r bu l a n + r - 1) / r by unfold wLate; rw [hm.out])
                by_cases h4 : 1125899906842624 < n + (1000 * c - lvl r bu l a n + r - 1) / r
                · have hE := Lib.hid (wV_no (show wB r bu l a n c = false by unfold wB; rw [Bool.eq_false_iff]; intro hh; simp only [Bool.and_eq_true, Bool.or_eq_true, decide_eq_true_eq, ne_eq, hm.out, hlate.out] at hh; first | omega | (simp at hh; done) | (simp at hh; omega)))
                  go_enter Try.func14, Try.ntmps14
                  go_wp2_with (first | (go_at_call 20; refine (within_any _ _ _ (by omega) _).mono ?_; rintro e w' ⟨rfl, rfl⟩) | (go_at_call 23; refine (valid_any _ _ _ _ _).mono ?_; rintro e w1 ⟨rfl, hb1⟩; have hz1 := hb1.size; (try simp at hz1); obtain ⟨hc1, hf1⟩ := blk_at hb1 w.heap.size (by (try simp) <;> omega)) | (go_at_call 24; refine (level_any _ _ _ _ _ (by assumption) (by omega) _).mono ?_; rintro e w2 ⟨rfl, hb2⟩; have hz2 := hb2.size; (try simp at hz2); obtain ⟨hc2, hf2⟩ := blk_at hb2 w.heap.size (by (try simp) <;> omega)))
                  go_ret2
                  exact ⟨by rw [hE.out]; rfl, (by repeat (first | (with_reducible exact Below.refl _ _) | (with_reducible refine Below.drew ?_) | ((with_reducible refine Below.alloc ?_ ?_ _); rotate_left; focus ((try simp) <;> omega)) | ((with_reducible refine Below.setCell ?_ ?_ _); rotate_left; focus ((try simp) <;> omega)) | ((with_reducible refine Below.trans ?_ (Below.mono (by assumption) ?_)); rotate_left; focus ((try simp) <;> omega))))⟩
                · have hE := Lib.hid (wV_yes (t := n + (1000 * c - lvl r bu l a n + r - 1) / r) (show wB r bu l a n c = true by unfold wB; simp [bv, bn, bc, hm.out, h1, h3, hlate.out, Int.not_lt.1 h4, Int.not_lt.1 h2]) (by rw [hm.out, if_neg h1, hlate.out]))
                  go_enter Try.func14, Try.ntmps14
                  go_wp2_with (first | (go_at_call 20; refine (within_any _ _ _ (by omega) _).mono ?_; rintro e w' ⟨rfl, rfl⟩) | (go_at_call 23; refine (valid_any _ _ _ _ _).mono ?_; rintro e w1 ⟨rfl, hb1⟩; have hz1 := hb1.size; (try simp at hz1); obtain ⟨hc1, hf1⟩ := blk_at hb1 w.heap.size (by (try simp) <;> omega)) | (go_at_call 24; refine (level_any _ _ _ _ _ (by assumption) (by omega) _).mono ?_; rintro e w2 ⟨rfl, hb2⟩; have hz2 := hb2.size; (try simp at hz2); obtain ⟨hc2, hf2⟩ := blk_at hb2 w.heap.size (by (try simp) <;> omega)))
                  go_ret2
                  exact ⟨by rw [hE.out]; rfl, (by repeat (first | (with_reducible exact Below.refl _ _) | (with_reducible refine Below.drew ?_) | ((with_reducible refine Below.alloc ?_ ?_ _); rotate_left; focus ((try simp) <;> omega)) | ((with_reducible refine Below.setCell ?_ ?_ _); rotate_left; focus ((try simp) <;> omega)) | ((with_reducible refine Below.trans ?_ (Below.mono (by assumption) ?_)); rotate_left; focus ((try simp) <;> omega))))⟩

end Go.Proofs.Ytalnbjcfcpkdlaa
