/-
  The walks of the budget layer: Spend of the reference.
-/
import Derived.Test.YtalnbjcfcpkdlaaWalks3



namespace Go.Proofs.Ytalnbjcfcpkdlaa
open Go.RowKit
attribute [local go_sem ↓] eq_bucket

set_option maxHeartbeats 2000000 in
theorem rspend_any (r bu l a n c : Int) (w : World) :
    Calls Try.prog 17 #[.agg #[.int .i64 r, .int .i64 bu, .int .i64 l, .int .i64 a], .int .i64 n, .int .i64 c] w fun e w' => e = .returned (spV r bu l a n c) ∧ Below w.heap.size w w' := by
  · rcases bv : vld r bu l a with _ | _
    · have hE := Lib.hid (sp_1 (n := n) (c := c) bv)
      go_enter Try.func17, Try.ntmps17
      go_wp2_with (first | (go_at_call 21; refine (cost_any _ _).mono ?_; rintro e w' ⟨rfl, rfl⟩) | (go_at_call 22; refine (time_any _ _).mono ?_; rintro e w' ⟨rfl, rfl⟩) | (go_at_call 15; refine (right_any _ _ _ _ _).mono ?_; rintro e w1 ⟨rfl, hb1⟩; have hz1 := hb1.size; (try simp at hz1); obtain ⟨hc1, hf1⟩ := blk_at hb1 w.heap.size (by (try simp) <;> omega); obtain ⟨hd1, he1⟩ := blk_at hb1 (w.heap.size + 1) (by (try simp) <;> omega)) | (go_at_call 13; refine (rLevel_any _ _ _ _ _ _).mono ?_; rintro e w2 ⟨rfl, hb2⟩; rw [hLv.out]; have hz2 := hb2.size; (try simp at hz2); obtain ⟨hc2, hf2⟩ := blk_at hb2 w.heap.size (by (try simp) <;> omega); obtain ⟨hd2, he2⟩ := blk_at hb2 (w.heap.size + 1) (by (try simp) <;> omega)))
      exact bodyPost_ret (v := .tuple #[.agg #[.int .i64 r, .int .i64 bu, .int .i64 l, .int .i64 a], .int .i64 1]) (by simp [results, Try.results17, go_sem, *]) rfl ⟨by rw [spV_of hE.out], (by repeat (first | (with_reducible exact Below.refl _ _) | (with_reducible refine Below.drew ?_) | ((with_reducible refine Below.alloc ?_ ?_ _); rotate_left; focus ((try simp) <;> omega)) | ((with_reducible refine Below.setCell ?_ ?_ _); rotate_left; focus ((try simp) <;> omega)) | ((with_reducible refine Below.trans ?_ (Below.mono (by assumption) ?_)); rotate_left; focus ((try simp) <;> omega))))⟩
    · have hv := vld_iff.1 bv
      rcases bn : inB n 0 1125899906842624 with _ | _
      · have hE := Lib.hid (sp_2 bv (.inl bn) (c := c))
        go_enter Try.func17, Try.ntmps17
        go_wp2_with (first | (go_at_call 21; refine (cost_any _ _).mono ?_; rintro e w' ⟨rfl, rfl⟩) | (go_at_call 22; refine (time_any _ _).mono ?_; rintro e w' ⟨rfl, rfl⟩) | (go_at_call 15; refine (right_any _ _ _ _ _).mono ?_; rintro e w1 ⟨rfl, hb1⟩; have hz1 := hb1.size; (try simp at hz1); obtain ⟨hc1, hf1⟩ := blk_at hb1 w.heap.size (by (try simp) <;> omega); obtain ⟨hd1, he1⟩ := blk_at hb1 (w.heap.size + 1) (by (try simp) <;> omega)) | (go_at_call 13; refine (rLevel_any _ _ _ _ _ _).mono ?_; rintro e w2 ⟨rfl, hb2⟩; rw [hLv.out]; have hz2 := hb2.size; (try simp at hz2); obtain ⟨hc2, hf2⟩ := blk_at hb2 w.heap.size (by (try simp) <;> omega); obtain ⟨hd2, he2⟩ := blk_at hb2 (w.heap.size + 1) (by (try simp) <;> omega)))
        exact bodyPost_ret (v := .tuple #[.agg #[.int .i64 r, .int .i64 bu, .int .i64 l, .int .i64 a], .int .i64 2]) (by simp [results, Try.results17, go_sem, *]) rfl ⟨by rw [spV_of hE.out], (by repeat (first | (with_reducible exact Below.refl _ _) | (with_reducible refine Below.drew ?_) | ((with_reducible refine Below.alloc ?_ ?_ _); rotate_left; focus ((try simp) <;> omega)) | ((with_reducible refine Below.setCell ?_ ?_ _); rotate_left; focus ((try simp) <;> omega)) | ((with_reducible refine Below.trans ?_ (Below.mono (by assumption) ?_)); rotate_left; focus ((try simp) <;> omega))))⟩
      · rcases bc : inB c 0 1000000 with _ | _
        · have hE := Lib.hid (sp_2 bv (.inr bc) (n := n))
          go_enter Try.func17, Try.ntmps17
          go_wp2_with (first | (go_at_call 21; refine (cost_any _ _).mono ?_; rintro e w' ⟨rfl, rfl⟩) | (go_at_call 22; refine (time_any _ _).mono ?_; rintro e w' ⟨rfl, rfl⟩) | (go_at_call 15; refine (right_any _ _ _ _ _).mono ?_; rintro e w1 ⟨rfl, hb1⟩; have hz1 := hb1.size; (try simp at hz1); obtain ⟨hc1, hf1⟩ := blk_at hb1 w.heap.size (by (try simp) <;> omega); obtain ⟨hd1, he1⟩ := blk_at hb1 (w.heap.size + 1) (by (try simp) <;> omega)) | (go_at_call 13; refine (rLevel_any _ _ _ _ _ _).mono ?_; rintro e w2 ⟨rfl, hb2⟩; rw [hLv.out]; have hz2 := hb2.size; (try simp at hz2); obtain ⟨hc2, hf2⟩ := blk_at hb2 w.heap.size (by (try simp) <;> omega); obtain ⟨hd2, he2⟩ := blk_at hb2 (w.heap.size + 1) (by (try simp) <;> omega)))
          exact bodyPost_ret (v := .tuple #[.agg #[.int .i64 r, .int .i64 bu, .int .i64 l, .int .i64 a], .int .i64 2]) (by simp [results, Try.results17, go_sem, *]) rfl ⟨by rw [spV_of hE.out], (by repeat (first | (with_reducible exact Below.refl _ _) | (with_reducible refine Below.drew ?_) | ((with_reducible refine Below.alloc ?_ ?_ _); rotate_left; focus ((try simp) <;> omega)) | ((with_reducible refine Below.setCell ?_ ?_ _); rotate_left; focus ((try simp) <;> omega)) | ((with_reducible refine Below.trans ?_ (Below.mono (by assumption) ?_)); rotate_left; focus ((try simp) <;> omega))))⟩
        · have hn := inB_iff.1 bn
          have hc := inB_iff.1 bc
          obtain ⟨q1, q2, q3⟩ := lvl_bd hv hn
          have hLv := Lib.hid (show Lvl r bu l a n = lvl r bu l a n by unfold Lvl; exact if_pos ⟨hv, hn⟩)
          by_cases hl : lvl r bu l a n < 1000 * c
          · have hE := Lib.hid (sp_15 bv bn bc hl)
            go_enter Try.func17, Try.ntmps17
            go_wp2_with (first | (go_at_call 21; refine (cost_any _ _).mono ?_; rintro e w' ⟨rfl, rfl⟩) | (go_at_call 22; refine (time_any _ _).mono ?_; rintro e w' ⟨rfl, rfl⟩) | (go_at_call 15; refine (right_any _ _ _ _ _).mono ?_; rintro e w1 ⟨rfl, hb1⟩; have hz1 := hb1.size; (try simp at hz1); obtain ⟨hc1, hf1⟩ := blk_at hb1 w.heap.size (by (try simp) <;> omega); obtain ⟨hd1, he1⟩ := blk_at hb1 (w.heap.size + 1) (by (try simp) <;> omega)) | (go_at_call 13; refine (rLevel_any _ _ _ _ _ _).mono ?_; rintro e w2 ⟨rfl, hb2⟩; rw [hLv.out]; have hz2 := hb2.size; (try simp at hz2); obtain ⟨hc2, hf2⟩ := blk_at hb2 w.heap.size (by (try simp) <;> omega); obtain ⟨hd2, he2⟩ := blk_at hb2 (w.heap.size + 1) (by (try simp) <;> omega)))
            exact bodyPost_ret (v := .tuple #[.agg #[.int .i64 r, .int .i64 bu, .int .i64 l, .int .i64 a], .int .i64 15]) (by simp [results, Try.results17, go_sem, *]) rfl ⟨by rw [spV_of hE.out], (by repeat (first | (with_reducible exact Below.refl _ _) | (with_reducible refine Below.drew ?_) | ((with_reducible refine Below.alloc ?_ ?_ _); rotate_left; focus ((try simp) <;> omega)) | ((with_reducible refine Below.setCell ?_ ?_ _); rotate_left; focus ((try simp) <;> omega)) | ((with_reducible refine Below.trans ?_ (Below.mono (by assumption) ?_)); rotate_left; focus ((try simp) <;> omega))))⟩
          · have hE := Lib.hid (sp_0 bv bn bc hl)
            by_cases ha : a < n
            · have hm := Lib.hid (show max a n = n by omega)
              go_enter Try.func17, Try.ntmps17
              go_wp2_with (first | (go_at_call 21; refine (cost_any _ _).mono ?_; rintro e w' ⟨rfl, rfl⟩) | (go_at_call 22; refine (time_any _ _).mono ?_; rintro e w' ⟨rfl, rfl⟩) | (go_at_call 15; refine (right_any _ _ _ _ _).mono ?_; rintro e w1 ⟨rfl, hb1⟩; have hz1 := hb1.size; (try simp at hz1); obtain ⟨hc1, hf1⟩ := blk_at hb1 w.heap.size (by (try simp) <;> omega); obtain ⟨hd1, he1⟩ := blk_at hb1 (w.heap.size + 1) (by (try simp) <;> omega)) | (go_at_call 13; refine (rLevel_any _ _ _ _ _ _).mono ?_; rintro e w2 ⟨rfl, hb2⟩; rw [hLv.out]; have hz2 := hb2.size; (try simp at hz2); obtain ⟨hc2, hf2⟩ := blk_at hb2 w.heap.size (by (try simp) <;> omega); obtain ⟨hd2, he2⟩ := blk_at hb2 (w.heap.size + 1) (by (try simp) <;> omega)))
              all_goals first
                | (exfalso; omega)
                | exact bodyPost_ret (v := .tuple #[.agg #[.int .i64 r, .int .i64 bu, .int .i64 (lvl r bu l a n - 1000 * c), .int .i64 n], .int .i64 0]) (by simp [results, Try.results17, go_sem, *]) rfl ⟨by rw [spV_of hE.out, hm.out], (by repeat (first | (with_reducible exact Below.refl _ _) | (with_reducible refine Below.drew ?_) | ((with_reducible refine Below.alloc ?_ ?_ _); rotate_left; focus ((try simp) <;> omega)) | ((with_reducible refine Below.setCell ?_ ?_ _); rotate_left; focus ((try simp) <;> omega)) | ((with_reducible refine Below.trans ?_ (Below.mono (by assumption) ?_)); rotate_left; focus ((try simp) <;> omega))))⟩
            · have hm := Lib.hid (show max a n = a by omega)
              go_enter Try.func17, Try.ntmps17
              go_wp2_with (first | (go_at_call 21; refine (cost_any _ _).mono ?_; rintro e w' ⟨rfl, rfl⟩) | (go_at_call 22; refine (time_any _ _).mono ?_; rintro e w' ⟨rfl, rfl⟩) | (go_at_call 15; refine (right_any _ _ _ _ _).mono ?_; rintro e w1 ⟨rfl, hb1⟩; have hz1 := hb1.size; (try simp at hz1); obtain ⟨hc1, hf1⟩ := blk_at hb1 w.heap.size (by (try simp) <;> omega); obtain ⟨hd1, he1⟩ := blk_at hb1 (w.heap.size + 1) (by (try simp) <;> omega)) | (go_at_call 13; refine (rLevel_any _ _ _ _ _ _).mono ?_; rintro e w2 ⟨rfl, hb2⟩; rw [hLv.out]; have hz2 := hb2.size; (try simp at hz2); obtain ⟨hc2, hf2⟩ := blk_at hb2 w.heap.size (by (try simp) <;> omega); obtain ⟨hd2, he2⟩ := blk_at hb2 (w.heap.size + 1) (by (try simp) <;> omega)))
              all_goals first
                | (exfalso; omega)
                | exact bodyPost_ret (v := .tuple #[.agg #[.int .i64 r, .int .i64 bu, .int .i64 (lvl r bu l a n - 1000 * c), .int .i64 a], .int .i64 0]) (by simp [results, Try.results17, go_sem, *]) rfl ⟨by rw [spV_of hE.out, hm.out], (by repeat (first | (with_reducible exact Below.refl _ _) | (with_reducible refine Below.drew ?_) | ((with_reducible refine Below.alloc ?_ ?_ _); rotate_left; focus ((try simp) <;> omega)) | ((with_reducible refine Below.setCell ?_ ?_ _); rotate_left; focus ((try simp) <;> omega)) | ((with_reducible refine Below.trans ?_ (Below.mono (by assumption) ?_)); rotate_left; focus ((try simp) <;> omega))))⟩

end Go.Proofs.Ytalnbjcfcpkdlaa
