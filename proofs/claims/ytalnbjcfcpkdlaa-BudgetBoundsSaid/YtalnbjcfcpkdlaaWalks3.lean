/-
  The walks of the budget layer: Spend, of the program and of the reference.
-/
import Derived.Test.YtalnbjcfcpkdlaaWalks2
import Derived.Lib.Hide



namespace Go.Proofs.Ytalnbjcfcpkdlaa
open Go.RowKit
attribute [local go_sem ↓] eq_bucket

/-- The error of Spend. -/
def spE (r bu l a n c : Int) : Int :=
  if vld r bu l a = false then 1 else if inB n 0 1125899906842624 = false ∨ inB c 0 1000000 = false then 2 else if lvl r bu l a n < 1000 * c then 15 else 0
def spL (r bu l a n c : Int) : Int := if spE r bu l a n c = 0 then lvl r bu l a n - 1000 * c else l
def spA (r bu l a n c : Int) : Int := if spE r bu l a n c = 0 then max a n else a

theorem sp_1 {r bu l a n c : Int} (h : vld r bu l a = false) : spE r bu l a n c = 1 ∧ spL r bu l a n c = l ∧ spA r bu l a n c = a := by
  have e : spE r bu l a n c = 1 := by unfold spE; rw [if_pos h]
  unfold spL spA; rw [e]; simp
theorem sp_2 {r bu l a n c : Int} (h : vld r bu l a = true) (h2 : inB n 0 1125899906842624 = false ∨ inB c 0 1000000 = false) : spE r bu l a n c = 2 ∧ spL r bu l a n c = l ∧ spA r bu l a n c = a := by
  have e : spE r bu l a n c = 2 := by unfold spE; rw [if_neg (by simp [h]), if_pos h2]
  unfold spL spA; rw [e]; simp
theorem sp_15 {r bu l a n c : Int} (h : vld r bu l a = true) (h2 : inB n 0 1125899906842624 = true) (h3 : inB c 0 1000000 = true) (h4 : lvl r bu l a n < 1000 * c) : spE r bu l a n c = 15 ∧ spL r bu l a n c = l ∧ spA r bu l a n c = a := by
  have e : spE r bu l a n c = 15 := by unfold spE; rw [if_neg (by simp [h]), if_neg (by simp [h2, h3]), if_pos h4]
  unfold spL spA; rw [e]; simp
theorem sp_0 {r bu l a n c : Int} (h : vld r bu l a = true) (h2 : inB n 0 1125899906842624 = true) (h3 : inB c 0 1000000 = true) (h4 : ¬ lvl r bu l a n < 1000 * c) : spE r bu l a n c = 0 ∧ spL r bu l a n c = lvl r bu l a n - 1000 * c ∧ spA r bu l a n c = max a n := by
  have e : spE r bu l a n c = 0 := by unfold spE; rw [if_neg (by simp [h]), if_neg (by simp [h2, h3]), if_neg h4]
  unfold spL spA; rw [e]; simp

def spV (r bu l a n c : Int) : Value := .tuple #[.agg #[.int .i64 r, .int .i64 bu, .int .i64 (spL r bu l a n c), .int .i64 (spA r bu l a n c)], .int .i64 (spE r bu l a n c)]
theorem spV_of {r bu l a n c e x y : Int} (h : spE r bu l a n c = e ∧ spL r bu l a n c = x ∧ spA r bu l a n c = y) : spV r bu l a n c = .tuple #[.agg #[.int .i64 r, .int .i64 bu, .int .i64 x, .int .i64 y], .int .i64 e] := by
  unfold spV; rw [h.1, h.2.1, h.2.2]

set_option maxHeartbeats 2000000 in
theorem spend_any (r bu l a n c : Int) (w : World) :
    Calls Try.prog 16 #[.agg #[.int .i64 r, .int .i64 bu, .int .i64 l, .int .i64 a], .int .i64 n, .int .i64 c] w fun e w' => e = .returned (spV r bu l a n c) ∧ Below w.heap.size w w' := by

  · rcases bv : vld r bu l a with _ | _
    · have hE := Lib.hid (sp_1 (n := n) (c := c) bv)
      go_enter Try.func16, Try.ntmps16
      go_wp2_with (first | (go_at_call 20; refine (within_any _ _ _ (by omega) _).mono ?_; rintro e w' ⟨rfl, rfl⟩) | (go_at_call 23; refine (valid_any _ _ _ _ _).mono ?_; rintro e w1 ⟨rfl, hb1⟩; have hz1 := hb1.size; (try simp at hz1); obtain ⟨hc1, hf1⟩ := blk_at hb1 w.heap.size (by (try simp) <;> omega); obtain ⟨hd1, he1⟩ := blk_at hb1 (w.heap.size + 1) (by (try simp) <;> omega)) | (go_at_call 24; refine (level_any _ _ _ _ _ (by assumption) (by omega) _).mono ?_; rintro e w2 ⟨rfl, hb2⟩; have hz2 := hb2.size; (try simp at hz2); obtain ⟨hc2, hf2⟩ := blk_at hb2 w.heap.size (by (try simp) <;> omega); obtain ⟨hd2, he2⟩ := blk_at hb2 (w.heap.size + 1) (by (try simp) <;> omega)))
      exact bodyPost_ret (v := .tuple #[.agg #[.int .i64 r, .int .i64 bu, .int .i64 l, .int .i64 a], .int .i64 1]) (by simp [results, Try.results16, go_sem, *]) rfl ⟨by rw [spV_of hE.out], (by repeat (first | (with_reducible exact Below.refl _ _) | (with_reducible refine Below.drew ?_) | ((with_reducible refine Below.alloc ?_ ?_ _); rotate_left; focus ((try simp) <;> omega)) | ((with_reducible refine Below.setCell ?_ ?_ _); rotate_left; focus ((try simp) <;> omega)) | ((with_reducible refine Below.trans ?_ (Below.mono (by assumption) ?_)); rotate_left; focus ((try simp) <;> omega))))⟩
    · have hv := vld_iff.1 bv
      rcases bn : inB n 0 1125899906842624 with _ | _
      · have hE := Lib.hid (sp_2 bv (.inl bn) (c := c))
        go_enter Try.func16, Try.ntmps16
        go_wp2_with (first | (go_at_call 20; refine (within_any _ _ _ (by omega) _).mono ?_; rintro e w' ⟨rfl, rfl⟩) | (go_at_call 23; refine (valid_any _ _ _ _ _).mono ?_; rintro e w1 ⟨rfl, hb1⟩; have hz1 := hb1.size; (try simp at hz1); obtain ⟨hc1, hf1⟩ := blk_at hb1 w.heap.size (by (try simp) <;> omega); obtain ⟨hd1, he1⟩ := blk_at hb1 (w.heap.size + 1) (by (try simp) <;> omega)) | (go_at_call 24; refine (level_any _ _ _ _ _ (by assumption) (by omega) _).mono ?_; rintro e w2 ⟨rfl, hb2⟩; have hz2 := hb2.size; (try simp at hz2); obtain ⟨hc2, hf2⟩ := blk_at hb2 w.heap.size (by (try simp) <;> omega); obtain ⟨hd2, he2⟩ := blk_at hb2 (w.heap.size + 1) (by (try simp) <;> omega)))
        exact bodyPost_ret (v := .tuple #[.agg #[.int .i64 r, .int .i64 bu, .int .i64 l, .int .i64 a], .int .i64 2]) (by simp [results, Try.results16, go_sem, *]) rfl ⟨by rw [spV_of hE.out], (by repeat (first | (with_reducible exact Below.refl _ _) | (with_reducible refine Below.drew ?_) | ((with_reducible refine Below.alloc ?_ ?_ _); rotate_left; focus ((try simp) <;> omega)) | ((with_reducible refine Below.setCell ?_ ?_ _); rotate_left; focus ((try simp) <;> omega)) | ((with_reducible refine Below.trans ?_ (Below.mono (by assumption) ?_)); rotate_left; focus ((try simp) <;> omega))))⟩
      · rcases bc : inB c 0 1000000 with _ | _
        · have hE := Lib.hid (sp_2 bv (.inr bc) (n := n))
          go_enter Try.func16, Try.ntmps16
          go_wp2_with (first | (go_at_call 20; refine (within_any _ _ _ (by omega) _).mono ?_; rintro e w' ⟨rfl, rfl⟩) | (go_at_call 23; refine (valid_any _ _ _ _ _).mono ?_; rintro e w1 ⟨rfl, hb1⟩; have hz1 := hb1.size; (try simp at hz1); obtain ⟨hc1, hf1⟩ := blk_at hb1 w.heap.size (by (try simp) <;> omega); obtain ⟨hd1, he1⟩ := blk_at hb1 (w.heap.size + 1) (by (try simp) <;> omega)) | (go_at_call 24; refine (level_any _ _ _ _ _ (by assumption) (by omega) _).mono ?_; rintro e w2 ⟨rfl, hb2⟩; have hz2 := hb2.size; (try simp at hz2); obtain ⟨hc2, hf2⟩ := blk_at hb2 w.heap.size (by (try simp) <;> omega); obtain ⟨hd2, he2⟩ := blk_at hb2 (w.heap.size + 1) (by (try simp) <;> omega)))
          exact bodyPost_ret (v := .tuple #[.agg #[.int .i64 r, .int .i64 bu, .int .i64 l, .int .i64 a], .int .i64 2]) (by simp [results, Try.results16, go_sem, *]) rfl ⟨by rw [spV_of hE.out], (by repeat (first | (with_reducible exact Below.refl _ _) | (with_reducible refine Below.drew ?_) | ((with_reducible refine Below.alloc ?_ ?_ _); rotate_left; focus ((try simp) <;> omega)) | ((with_reducible refine Below.setCell ?_ ?_ _); rotate_left; focus ((try simp) <;> omega)) | ((with_reducible refine Below.trans ?_ (Below.mono (by assumption) ?_)); rotate_left; focus ((try simp) <;> omega))))⟩
        · have hn := inB_iff.1 bn
          have hc := inB_iff.1 bc
          obtain ⟨q1, q2, q3⟩ := lvl_bd hv hn
          have hLv := Lib.hid (show Lvl r bu l a n = lvl r bu l a n by unfold Lvl; exact if_pos ⟨hv, hn⟩)
          by_cases hl : lvl r bu l a n < 1000 * c
          · have hE := Lib.hid (sp_15 bv bn bc hl)
            go_enter Try.func16, Try.ntmps16
            go_wp2_with (first | (go_at_call 20; refine (within_any _ _ _ (by omega) _).mono ?_; rintro e w' ⟨rfl, rfl⟩) | (go_at_call 23; refine (valid_any _ _ _ _ _).mono ?_; rintro e w1 ⟨rfl, hb1⟩; have hz1 := hb1.size; (try simp at hz1); obtain ⟨hc1, hf1⟩ := blk_at hb1 w.heap.size (by (try simp) <;> omega); obtain ⟨hd1, he1⟩ := blk_at hb1 (w.heap.size + 1) (by (try simp) <;> omega)) | (go_at_call 24; refine (level_any _ _ _ _ _ (by assumption) (by omega) _).mono ?_; rintro e w2 ⟨rfl, hb2⟩; have hz2 := hb2.size; (try simp at hz2); obtain ⟨hc2, hf2⟩ := blk_at hb2 w.heap.size (by (try simp) <;> omega); obtain ⟨hd2, he2⟩ := blk_at hb2 (w.heap.size + 1) (by (try simp) <;> omega)))
            exact bodyPost_ret (v := .tuple #[.agg #[.int .i64 r, .int .i64 bu, .int .i64 l, .int .i64 a], .int .i64 15]) (by simp [results, Try.results16, go_sem, *]) rfl ⟨by rw [spV_of hE.out], (by repeat (first | (with_reducible exact Below.refl _ _) | (with_reducible refine Below.drew ?_) | ((with_reducible refine Below.alloc ?_ ?_ _); rotate_left; focus ((try simp) <;> omega)) | ((with_reducible refine Below.setCell ?_ ?_ _); rotate_left; focus ((try simp) <;> omega)) | ((with_reducible refine Below.trans ?_ (Below.mono (by assumption) ?_)); rotate_left; focus ((try simp) <;> omega))))⟩
          · have hE := Lib.hid (sp_0 bv bn bc hl)
            by_cases ha : a < n
            · have hm := Lib.hid (show max a n = n by omega)
              go_enter Try.func16, Try.ntmps16
              go_wp2_with (first | (go_at_call 20; refine (within_any _ _ _ (by omega) _).mono ?_; rintro e w' ⟨rfl, rfl⟩) | (go_at_call 23; refine (valid_any _ _ _ _ _).mono ?_; rintro e w1 ⟨rfl, hb1⟩; have hz1 := hb1.size; (try simp at hz1); obtain ⟨hc1, hf1⟩ := blk_at hb1 w.heap.size (by (try simp) <;> omega); obtain ⟨hd1, he1⟩ := blk_at hb1 (w.heap.size + 1) (by (try simp) <;> omega)) | (go_at_call 24; refine (level_any _ _ _ _ _ (by assumption) (by omega) _).mono ?_; rintro e w2 ⟨rfl, hb2⟩; have hz2 := hb2.size; (try simp at hz2); obtain ⟨hc2, hf2⟩ := blk_at hb2 w.heap.size (by (try simp) <;> omega); obtain ⟨hd2, he2⟩ := blk_at hb2 (w.heap.size + 1) (by (try simp) <;> omega)))
              all_goals first
                | (exfalso; omega)
                | exact bodyPost_ret (v := .tuple #[.agg #[.int .i64 r, .int .i64 bu, .int .i64 (lvl r bu l a n - 1000 * c), .int .i64 n], .int .i64 0]) (by simp [results, Try.results16, go_sem, *]) rfl ⟨by rw [spV_of hE.out, hm.out], (by repeat (first | (with_reducible exact Below.refl _ _) | (with_reducible refine Below.drew ?_) | ((with_reducible refine Below.alloc ?_ ?_ _); rotate_left; focus ((try simp) <;> omega)) | ((with_reducible refine Below.setCell ?_ ?_ _); rotate_left; focus ((try simp) <;> omega)) | ((with_reducible refine Below.trans ?_ (Below.mono (by assumption) ?_)); rotate_left; focus ((try simp) <;> omega))))⟩
            · have hm := Lib.hid (show max a n = a by omega)
              go_enter Try.func16, Try.ntmps16
              go_wp2_with (first | (go_at_call 20; refine (within_any _ _ _ (by omega) _).mono ?_; rintro e w' ⟨rfl, rfl⟩) | (go_at_call 23; refine (valid_any _ _ _ _ _).mono ?_; rintro e w1 ⟨rfl, hb1⟩; have hz1 := hb1.size; (try simp at hz1); obtain ⟨hc1, hf1⟩ := blk_at hb1 w.heap.size (by (try simp) <;> omega); obtain ⟨hd1, he1⟩ := blk_at hb1 (w.heap.size + 1) (by (try simp) <;> omega)) | (go_at_call 24; refine (level_any _ _ _ _ _ (by assumption) (by omega) _).mono ?_; rintro e w2 ⟨rfl, hb2⟩; have hz2 := hb2.size; (try simp at hz2); obtain ⟨hc2, hf2⟩ := blk_at hb2 w.heap.size (by (try simp) <;> omega); obtain ⟨hd2, he2⟩ := blk_at hb2 (w.heap.size + 1) (by (try simp) <;> omega)))
              all_goals first
                | (exfalso; omega)
                | exact bodyPost_ret (v := .tuple #[.agg #[.int .i64 r, .int .i64 bu, .int .i64 (lvl r bu l a n - 1000 * c), .int .i64 a], .int .i64 0]) (by simp [results, Try.results16, go_sem, *]) rfl ⟨by rw [spV_of hE.out, hm.out], (by repeat (first | (with_reducible exact Below.refl _ _) | (with_reducible refine Below.drew ?_) | ((with_reducible refine Below.alloc ?_ ?_ _); rotate_left; focus ((try simp) <;> omega)) | ((with_reducible refine Below.setCell ?_ ?_ _); rotate_left; focus ((try simp) <;> omega)) | ((with_reducible refine Below.trans ?_ (Below.mono (by assumption) ?_)); rotate_left; focus ((try simp) <;> omega))))⟩

end Go.Proofs.Ytalnbjcfcpkdlaa
