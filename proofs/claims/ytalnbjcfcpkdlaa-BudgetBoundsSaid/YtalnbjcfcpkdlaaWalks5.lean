/-
  The walks of the budget layer: Refund, of the program and of the reference.
-/
import Derived.Test.YtalnbjcfcpkdlaaWalks4




namespace Go.Proofs.Ytalnbjcfcpkdlaa
open Go.RowKit
attribute [local go_sem ↓] eq_bucket

/-- Whether a Refund is made. -/
def rfB (r bu l a n c : Int) : Bool := vld r bu l a && (inB n 0 1125899906842624 && inB c 0 1000000)
def rfL (r bu l a n c : Int) : Int := if rfB r bu l a n c = true then min (1000 * bu) (lvl r bu l a n + 1000 * c) else l
def rfA (r bu l a n c : Int) : Int := if rfB r bu l a n c = true then max a n else a
def rfV (r bu l a n c : Int) : Value := .agg #[.int .i64 r, .int .i64 bu, .int .i64 (rfL r bu l a n c), .int .i64 (rfA r bu l a n c)]
theorem rfV_no {r bu l a n c : Int} (h : vld r bu l a = false ∨ inB n 0 1125899906842624 = false ∨ inB c 0 1000000 = false) : rfV r bu l a n c = .agg #[.int .i64 r, .int .i64 bu, .int .i64 l, .int .i64 a] := by
  have e : rfB r bu l a n c = false := by unfold rfB; rcases h with h | h | h <;> simp [h]
  unfold rfV rfL rfA; rw [e]; simp
theorem rfV_yes {r bu l a n c x y : Int} (h : vld r bu l a = true) (h2 : inB n 0 1125899906842624 = true) (h3 : inB c 0 1000000 = true) (hx : min (1000 * bu) (lvl r bu l a n + 1000 * c) = x) (hy : max a n = y) : rfV r bu l a n c = .agg #[.int .i64 r, .int .i64 bu, .int .i64 x, .int .i64 y] := by
  have e : rfB r bu l a n c = true := by unfold rfB; simp [h, h2, h3]
  unfold rfV rfL rfA; rw [e, hx, hy]; simp

set_option maxHeartbeats 2000000 in
theorem refund_any (r bu l a n c : Int) (w : World) :
    Calls Try.prog 18 #[.agg #[.int .i64 r, .int .i64 bu, .int .i64 l, .int .i64 a], .int .i64 n, .int .i64 c] w fun e w' => e = .returned (rfV r bu l a n c) ∧ Below w.heap.size w w' := by
  rcases bv : vld r bu l a with _ | _
  · have hE := Lib.hid (rfV_no (r := r) (bu := bu) (l := l) (a := a) (n := n) (c := c) (.inl bv))
    go_enter Try.func18, Try.ntmps18
    go_wp2_with (first | (go_at_call 20; refine (within_any _ _ _ (by omega) _).mono ?_; rintro e w' ⟨rfl, rfl⟩) | (go_at_call 23; refine (valid_any _ _ _ _ _).mono ?_; rintro e w1 ⟨rfl, hb1⟩; have hz1 := hb1.size; (try simp at hz1); obtain ⟨hc1, hf1⟩ := blk_at hb1 w.heap.size (by (try simp) <;> omega); obtain ⟨hd1, he1⟩ := blk_at hb1 (w.heap.size + 1) (by (try simp) <;> omega)) | (go_at_call 24; refine (level_any _ _ _ _ _ (by assumption) (by omega) _).mono ?_; rintro e w2 ⟨rfl, hb2⟩; have hz2 := hb2.size; (try simp at hz2); obtain ⟨hc2, hf2⟩ := blk_at hb2 w.heap.size (by (try simp) <;> omega); obtain ⟨hd2, he2⟩ := blk_at hb2 (w.heap.size + 1) (by (try simp) <;> omega)))
    exact bodyPost_ret (v := .agg #[.int .i64 r, .int .i64 bu, .int .i64 l, .int .i64 a]) (by simp [results, Try.results18, go_sem, *]) rfl ⟨by rw [hE.out], (by repeat (first | (with_reducible exact Below.refl _ _) | (with_reducible refine Below.drew ?_) | ((with_reducible refine Below.alloc ?_ ?_ _); rotate_left; focus ((try simp) <;> omega)) | ((with_reducible refine Below.setCell ?_ ?_ _); rotate_left; focus ((try simp) <;> omega)) | ((with_reducible refine Below.trans ?_ (Below.mono (by assumption) ?_)); rotate_left; focus ((try simp) <;> omega))))⟩
  · have hv := vld_iff.1 bv
    rcases bn : inB n 0 1125899906842624 with _ | _
    · have hE := Lib.hid (rfV_no (r := r) (bu := bu) (l := l) (a := a) (n := n) (c := c) (.inr (.inl bn)))
      go_enter Try.func18, Try.ntmps18
      go_wp2_with (first | (go_at_call 20; refine (within_any _ _ _ (by omega) _).mono ?_; rintro e w' ⟨rfl, rfl⟩) | (go_at_call 23; refine (valid_any _ _ _ _ _).mono ?_; rintro e w1 ⟨rfl, hb1⟩; have hz1 := hb1.size; (try simp at hz1); obtain ⟨hc1, hf1⟩ := blk_at hb1 w.heap.size (by (try simp) <;> omega); obtain ⟨hd1, he1⟩ := blk_at hb1 (w.heap.size + 1) (by (try simp) <;> omega)) | (go_at_call 24; refine (level_any _ _ _ _ _ (by assumption) (by omega) _).mono ?_; rintro e w2 ⟨rfl, hb2⟩; have hz2 := hb2.size; (try simp at hz2); obtain ⟨hc2, hf2⟩ := blk_at hb2 w.heap.size (by (try simp) <;> omega); obtain ⟨hd2, he2⟩ := blk_at hb2 (w.heap.size + 1) (by (try simp) <;> omega)))
      exact bodyPost_ret (v := .agg #[.int .i64 r, .int .i64 bu, .int .i64 l, .int .i64 a]) (by simp [results, Try.results18, go_sem, *]) rfl ⟨by rw [hE.out], (by repeat (first | (with_reducible exact Below.refl _ _) | (with_reducible refine Below.drew ?_) | ((with_reducible refine Below.alloc ?_ ?_ _); rotate_left; focus ((try simp) <;> omega)) | ((with_reducible refine Below.setCell ?_ ?_ _); rotate_left; focus ((try simp) <;> omega)) | ((with_reducible refine Below.trans ?_ (Below.mono (by assumption) ?_)); rotate_left; focus ((try simp) <;> omega))))⟩
    · rcases bc : inB c 0 1000000 with _ | _
      · have hE := Lib.hid (rfV_no (r := r) (bu := bu) (l := l) (a := a) (n := n) (c := c) (.inr (.inr bc)))
        go_enter Try.func18, Try.ntmps18
        go_wp2_with (first | (go_at_call 20; refine (within_any _ _ _ (by omega) _).mono ?_; rintro e w' ⟨rfl, rfl⟩) | (go_at_call 23; refine (valid_any _ _ _ _ _).mono ?_; rintro e w1 ⟨rfl, hb1⟩; have hz1 := hb1.size; (try simp at hz1); obtain ⟨hc1, hf1⟩ := blk_at hb1 w.heap.size (by (try simp) <;> omega); obtain ⟨hd1, he1⟩ := blk_at hb1 (w.heap.size + 1) (by (try simp) <;> omega)) | (go_at_call 24; refine (level_any _ _ _ _ _ (by assumption) (by omega) _).mono ?_; rintro e w2 ⟨rfl, hb2⟩; have hz2 := hb2.size; (try simp at hz2); obtain ⟨hc2, hf2⟩ := blk_at hb2 w.heap.size (by (try simp) <;> omega); obtain ⟨hd2, he2⟩ := blk_at hb2 (w.heap.size + 1) (by (try simp) <;> omega)))
        exact bodyPost_ret (v := .agg #[.int .i64 r, .int .i64 bu, .int .i64 l, .int .i64 a]) (by simp [results, Try.results18, go_sem, *]) rfl ⟨by rw [hE.out], (by repeat (first | (with_reducible exact Below.refl _ _) | (with_reducible refine Below.drew ?_) | ((with_reducible refine Below.alloc ?_ ?_ _); rotate_left; focus ((try simp) <;> omega)) | ((with_reducible refine Below.setCell ?_ ?_ _); rotate_left; focus ((try simp) <;> omega)) | ((with_reducible refine Below.trans ?_ (Below.mono (by assumption) ?_)); rotate_left; focus ((try simp) <;> omega))))⟩
      · have hn := inB_iff.1 bn
        have hc := inB_iff.1 bc
        obtain ⟨q1, q2, q3⟩ := lvl_bd hv hn
        obtain ⟨_, _, _, _, _, _, _, _⟩ := (show Vld r bu l a from hv)
        have hLv := Lib.hid (show Lvl r bu l a n = lvl r bu l a n by unfold Lvl; exact if_pos ⟨hv, hn⟩)
        have hw1 : IntKind.i64.wrap (1000 * bu) = 1000 * bu := IntWalk.i64_in _ (by omega)
        have hw2 : IntKind.i64.wrap (1000 * c) = 1000 * c := IntWalk.i64_in _ (by omega)
        have hw3 : IntKind.i64.wrap (lvl r bu l a n + 1000 * c) = lvl r bu l a n + 1000 * c := IntWalk.i64_in _ (by omega)
        by_cases hl : lvl r bu l a n + 1000 * c < 1000 * bu
        · by_cases ha : a < n
          · have hE := Lib.hid (rfV_yes (x := (lvl r bu l a n + 1000 * c)) (y := n) bv bn bc (by omega) (by omega))
            go_enter Try.func18, Try.ntmps18
            go_wp2_with (first | (go_at_call 20; refine (within_any _ _ _ (by omega) _).mono ?_; rintro e w' ⟨rfl, rfl⟩) | (go_at_call 23; refine (valid_any _ _ _ _ _).mono ?_; rintro e w1 ⟨rfl, hb1⟩; have hz1 := hb1.size; (try simp at hz1); obtain ⟨hc1, hf1⟩ := blk_at hb1 w.heap.size (by (try simp) <;> omega); obtain ⟨hd1, he1⟩ := blk_at hb1 (w.heap.size + 1) (by (try simp) <;> omega)) | (go_at_call 24; refine (level_any _ _ _ _ _ (by assumption) (by omega) _).mono ?_; rintro e w2 ⟨rfl, hb2⟩; have hz2 := hb2.size; (try simp at hz2); obtain ⟨hc2, hf2⟩ := blk_at hb2 w.heap.size (by (try simp) <;> omega); obtain ⟨hd2, he2⟩ := blk_at hb2 (w.heap.size + 1) (by (try simp) <;> omega)))
            go_region_held3 (fun w' => w'.cell? ⟨w.heap.size, 0, none⟩ = some (.int .i64 r) ∧ w'.cell? ⟨w.heap.size, 1, none⟩ = some (.int .i64 bu) ∧ w'.cell? ⟨w.heap.size, 2, none⟩ = some (.int .i64 l) ∧ w'.cell? ⟨w.heap.size, 3, none⟩ = some (.int .i64 a)) (go_keep) (first | (go_at_call 24; refine (level_any _ _ _ _ _ (by assumption) (by omega) _).mono ?_; rintro e w2 ⟨rfl, hb2⟩; have hz2 := hb2.size; (try simp at hz2); obtain ⟨hc2, hf2⟩ := blk_at hb2 w.heap.size (by (try simp) <;> omega); obtain ⟨hd2, he2⟩ := blk_at hb2 (w.heap.size + 1) (by (try simp) <;> omega)))
            all_goals go_wp2
            all_goals first
              | (exfalso; omega)
              | exact bodyPost_ret (v := .agg #[.int .i64 r, .int .i64 bu, .int .i64 (lvl r bu l a n + 1000 * c), .int .i64 n]) (by simp [results, Try.results18, go_sem, *]) rfl ⟨by rw [hE.out], (by repeat (first | (with_reducible exact Below.refl _ _) | (with_reducible refine Below.drew ?_) | ((with_reducible refine Below.alloc ?_ ?_ _); rotate_left; focus ((try simp) <;> omega)) | ((with_reducible refine Below.setCell ?_ ?_ _); rotate_left; focus ((try simp) <;> omega)) | ((with_reducible refine Below.trans ?_ (Below.mono (by assumption) ?_)); rotate_left; focus ((try simp) <;> omega))))⟩
          · have hE := Lib.hid (rfV_yes (x := (lvl r bu l a n + 1000 * c)) (y := a) bv bn bc (by omega) (by omega))
            go_enter Try.func18, Try.ntmps18
            go_wp2_with (first | (go_at_call 20; refine (within_any _ _ _ (by omega) _).mono ?_; rintro e w' ⟨rfl, rfl⟩) | (go_at_call 23; refine (valid_any _ _ _ _ _).mono ?_; rintro e w1 ⟨rfl, hb1⟩; have hz1 := hb1.size; (try simp at hz1); obtain ⟨hc1, hf1⟩ := blk_at hb1 w.heap.size (by (try simp) <;> omega); obtain ⟨hd1, he1⟩ := blk_at hb1 (w.heap.size + 1) (by (try simp) <;> omega)) | (go_at_call 24; refine (level_any _ _ _ _ _ (by assumption) (by omega) _).mono ?_; rintro e w2 ⟨rfl, hb2⟩; have hz2 := hb2.size; (try simp at hz2); obtain ⟨hc2, hf2⟩ := blk_at hb2 w.heap.size (by (try simp) <;> omega); obtain ⟨hd2, he2⟩ := blk_at hb2 (w.heap.size + 1) (by (try simp) <;> omega)))
            go_region_held3 (fun w' => w'.cell? ⟨w.heap.size, 0, none⟩ = some (.int .i64 r) ∧ w'.cell? ⟨w.heap.size, 1, none⟩ = some (.int .i64 bu) ∧ w'.cell? ⟨w.heap.size, 2, none⟩ = some (.int .i64 l) ∧ w'.cell? ⟨w.heap.size, 3, none⟩ = some (.int .i64 a)) (go_keep) (first | (go_at_call 24; refine (level_any _ _ _ _ _ (by assumption) (by omega) _).mono ?_; rintro e w2 ⟨rfl, hb2⟩; have hz2 := hb2.size; (try simp at hz2); obtain ⟨hc2, hf2⟩ := blk_at hb2 w.heap.size (by (try simp) <;> omega); obtain ⟨hd2, he2⟩ := blk_at hb2 (w.heap.size + 1) (by (try simp) <;> omega)))
            all_goals go_wp2
            all_goals first
              | (exfalso; omega)
              | exact bodyPost_ret (v := .agg #[.int .i64 r, .int .i64 bu, .int .i64 (lvl r bu l a n + 1000 * c), .int .i64 a]) (by simp [results, Try.results18, go_sem, *]) rfl ⟨by rw [hE.out], (by repeat (first | (with_reducible exact Below.refl _ _) | (with_reducible refine Below.drew ?_) | ((with_reducible refine Below.alloc ?_ ?_ _); rotate_left; focus ((try simp) <;> omega)) | ((with_reducible refine Below.setCell ?_ ?_ _); rotate_left; focus ((try simp) <;> omega)) | ((with_reducible refine Below.trans ?_ (Below.mono (by assumption) ?_)); rotate_left; focus ((try simp) <;> omega))))⟩
        · by_cases ha : a < n
          · have hE := Lib.hid (rfV_yes (x := (1000 * bu)) (y := n) bv bn bc (by omega) (by omega))
            go_enter Try.func18, Try.ntmps18
            go_wp2_with (first | (go_at_call 20; refine (within_any _ _ _ (by omega) _).mono ?_; rintro e w' ⟨rfl, rfl⟩) | (go_at_call 23; refine (valid_any _ _ _ _ _).mono ?_; rintro e w1 ⟨rfl, hb1⟩; have hz1 := hb1.size; (try simp at hz1); obtain ⟨hc1, hf1⟩ := blk_at hb1 w.heap.size (by (try simp) <;> omega); obtain ⟨hd1, he1⟩ := blk_at hb1 (w.heap.size + 1) (by (try simp) <;> omega)) | (go_at_call 24; refine (level_any _ _ _ _ _ (by assumption) (by omega) _).mono ?_; rintro e w2 ⟨rfl, hb2⟩; have hz2 := hb2.size; (try simp at hz2); obtain ⟨hc2, hf2⟩ := blk_at hb2 w.heap.size (by (try simp) <;> omega); obtain ⟨hd2, he2⟩ := blk_at hb2 (w.heap.size + 1) (by (try simp) <;> omega)))
            go_region_held3 (fun w' => w'.cell? ⟨w.heap.size, 0, none⟩ = some (.int .i64 r) ∧ w'.cell? ⟨w.heap.size, 1, none⟩ = some (.int .i64 bu) ∧ w'.cell? ⟨w.heap.size, 2, none⟩ = some (.int .i64 l) ∧ w'.cell? ⟨w.heap.size, 3, none⟩ = some (.int .i64 a)) (go_keep) (first | (go_at_call 24; refine (level_any _ _ _ _ _ (by assumption) (by omega) _).mono ?_; rintro e w2 ⟨rfl, hb2⟩; have hz2 := hb2.size; (try simp at hz2); obtain ⟨hc2, hf2⟩ := blk_at hb2 w.heap.size (by (try simp) <;> omega); obtain ⟨hd2, he2⟩ := blk_at hb2 (w.heap.size + 1) (by (try simp) <;> omega)))
            all_goals go_wp2
            all_goals first
              | (exfalso; omega)
              | exact bodyPost_ret (v := .agg #[.int .i64 r, .int .i64 bu, .int .i64 (1000 * bu), .int .i64 n]) (by simp [results, Try.results18, go_sem, *]) rfl ⟨by rw [hE.out], (by repeat (first | (with_reducible exact Below.refl _ _) | (with_reducible refine Below.drew ?_) | ((with_reducible refine Below.alloc ?_ ?_ _); rotate_left; focus ((try simp) <;> omega)) | ((with_reducible refine Below.setCell ?_ ?_ _); rotate_left; focus ((try simp) <;> omega)) | ((with_reducible refine Below.trans ?_ (Below.mono (by assumption) ?_)); rotate_left; focus ((try simp) <;> omega))))⟩
          · have hE := Lib.hid (rfV_yes (x := (1000 * bu)) (y := a) bv bn bc (by omega) (by omega))
            go_enter Try.func18, Try.ntmps18
            go_wp2_with (first | (go_at_call 20; refine (within_any _ _ _ (by omega) _).mono ?_; rintro e w' ⟨rfl, rfl⟩) | (go_at_call 23; refine (valid_any _ _ _ _ _).mono ?_; rintro e w1 ⟨rfl, hb1⟩; have hz1 := hb1.size; (try simp at hz1); obtain ⟨hc1, hf1⟩ := blk_at hb1 w.heap.size (by (try simp) <;> omega); obtain ⟨hd1, he1⟩ := blk_at hb1 (w.heap.size + 1) (by (try simp) <;> omega)) | (go_at_call 24; refine (level_any _ _ _ _ _ (by assumption) (by omega) _).mono ?_; rintro e w2 ⟨rfl, hb2⟩; have hz2 := hb2.size; (try simp at hz2); obtain ⟨hc2, hf2⟩ := blk_at hb2 w.heap.size (by (try simp) <;> omega); obtain ⟨hd2, he2⟩ := blk_at hb2 (w.heap.size + 1) (by (try simp) <;> omega)))
            go_region_held3 (fun w' => w'.cell? ⟨w.heap.size, 0, none⟩ = some (.int .i64 r) ∧ w'.cell? ⟨w.heap.size, 1, none⟩ = some (.int .i64 bu) ∧ w'.cell? ⟨w.heap.size, 2, none⟩ = some (.int .i64 l) ∧ w'.cell? ⟨w.heap.size, 3, none⟩ = some (.int .i64 a)) (go_keep) (first | (go_at_call 24; refine (level_any _ _ _ _ _ (by assumption) (by omega) _).mono ?_; rintro e w2 ⟨rfl, hb2⟩; have hz2 := hb2.size; (try simp at hz2); obtain ⟨hc2, hf2⟩ := blk_at hb2 w.heap.size (by (try simp) <;> omega); obtain ⟨hd2, he2⟩ := blk_at hb2 (w.heap.size + 1) (by (try simp) <;> omega)))
            all_goals go_wp2
            all_goals first
              | (exfalso; omega)
              | exact bodyPost_ret (v := .agg #[.int .i64 r, .int .i64 bu, .int .i64 (1000 * bu), .int .i64 a]) (by simp [results, Try.results18, go_sem, *]) rfl ⟨by rw [hE.out], (by repeat (first | (with_reducible exact Below.refl _ _) | (with_reducible refine Below.drew ?_) | ((with_reducible refine Below.alloc ?_ ?_ _); rotate_left; focus ((try simp) <;> omega)) | ((with_reducible refine Below.setCell ?_ ?_ _); rotate_left; focus ((try simp) <;> omega)) | ((with_reducible refine Below.trans ?_ (Below.mono (by assumption) ?_)); rotate_left; focus ((try simp) <;> omega))))⟩

end Go.Proofs.Ytalnbjcfcpkdlaa
