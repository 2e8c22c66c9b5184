/-
  The walks of provenance: the error for which a link is not added, by the program.
-/
import Derived.Test.YtjkijknjngiieaaGreatDoorPrw3


namespace Go.Proofs.YtjkijknjngiieaaGreatDoor
open Go.RowKit

theorem lerr_rest {ls : List Lnk} {l : Lnk} (h1 : rightB l = true) (h2 : rangeB l = true) : lnkErr ls l = if ascB l.ins = false then 22 else if hasL ls l.run (nameL l) = true then 7 else if insErr ls l.run l.ins ≠ 0 then insErr ls l.run l.ins else if 4096 ≤ ls.length then 21 else 0 := by
  unfold lnkErr
  rw [if_neg (by rw [h1]; decide), if_neg (by rw [h2]; decide)]
theorem headR_of (x : Lkr) : headR x.h = (decide (1 ≤ x.attempt.1) && decide (x.attempt.1 ≤ 16) && sizeB x.size.1) := rfl
set_option maxRecDepth 100000 in
set_option maxHeartbeats 4000000 in
theorem check_first (A : Option Addr) (c : Nat) (l : List Lkr) (b n : Nat) (x : Lkr) (w : World) (_hr : Rw lkrE 8 w w.heap.size A l) (_hn : l.length ≤ 1000000) (_hmp : MapI Tryz.prog 86 3 w b n (ixF (l.map Lkr.h))) (hx : LabLkr w w.heap.size x) (hG : Glob w) (hm : MildK x) (h : rightB x.h = false ∨ rangeB x.h = false) : Calls Tryz.prog 33 #[.slice A l.length c, .map (some b), .agg #[.string x.run.1, .string x.job.1, .int .i64 x.attempt.1, .int .u64 x.spec.1, .slice x.insA x.ins.length x.insC, .string x.name.1, .int .u64 x.digest.1, .int .i64 x.size.1]] w fun e w' => e = .returned (.int .i64 (lnkErr (l.map Lkr.h) x.h)) ∧ Below w.heap.size w w' := by
  have hfo0 := fun W (hb : Below w.heap.size w W) => formed_any x W ((hx.below hb (Nat.le_refl _)).more hb.size) (hG.keep hb) hm
  by_cases h1 : rightB x.h = true
  rotate_left
  · rw [Bool.not_eq_true] at h1
    have hf : Hid (lnkErr (l.map Lkr.h) x.h = 1) := Lib.hid (lerr_1 h1)
    rw [h1] at hfo0
    have hfo := Lib.hid hfo0
    generalize lnkErr (l.map Lkr.h) x.h = R at *
    clear hfo0 h h1 hm hG hx
    go_enter Tryz.func33, Tryz.ntmps33
    go_wp2_with (go_at_call 61; go_must (refine (hfo.out _ (by repeat (first | (with_reducible exact Below.refl _ _) | (with_reducible refine Below.drew ?_) | (with_reducible refine below_drewN ?_ _) | ((with_reducible refine Below.alloc ?_ ?_ _); rotate_left; focus ((try simp) <;> omega)) | ((with_reducible refine Below.setCell ?_ ?_ _); rotate_left; focus ((try simp) <;> omega)) | ((with_reducible refine Below.trans ?_ (Below.mono (by assumption) ?_)); rotate_left; focus ((try simp) <;> omega))))).mono ?_; rintro e w1 ⟨rfl, hb1⟩; have hz1 := hb1.size; (try simp at hz1); obtain ⟨hc1, hf1⟩ := blk_at hb1 w.heap.size (by (try simp) <;> omega)))
    go_ret
    exact ⟨by rw [hf.out]; rfl, (by repeat (first | (with_reducible exact Below.refl _ _) | (with_reducible refine Below.drew ?_) | (with_reducible refine below_drewN ?_ _) | ((with_reducible refine Below.alloc ?_ ?_ _); rotate_left; focus ((try simp) <;> omega)) | ((with_reducible refine Below.setCell ?_ ?_ _); rotate_left; focus ((try simp) <;> omega)) | ((with_reducible refine Below.trans ?_ (Below.mono (by assumption) ?_)); rotate_left; focus ((try simp) <;> omega))))⟩
  · have h2 : rangeB x.h = false := h.resolve_left (by rw [h1]; decide)
    have hf : Hid (lnkErr (l.map Lkr.h) x.h = 2) := Lib.hid (lerr_2 h1 h2)
    rw [h1] at hfo0
    have hfo := Lib.hid hfo0
    have hsz0 : ∀ W, Calls Tryz.prog 62 #[.agg #[.string x.name.1, .int .u64 x.digest.1, .int .i64 x.size.1]] W fun e w' => e = .returned (.bool (sizeB x.size.1)) ∧ Below W.heap.size W w' := fun W => sized_any ⟨x.name, x.digest, x.size⟩ W
    have han0 := fun W (hb : Below w.heap.size w W) => anyo_any x.insA x.insC x.ins W ((hx.2.2.below hb (Nat.le_refl _)).more hb.size) (by have := hm.len; omega)
    have hrg := range_of x.h
    rw [headR_of, h2] at hrg
    change false = (_ && x.ins.all fun y => sizeB y.size.1) at hrg
    generalize lnkErr (l.map Lkr.h) x.h = R at *
    generalize (x.ins.all fun y => sizeB y.size.1) = I at hrg han0
    generalize sizeB x.size.1 = S at hrg hsz0
    have hsz := Lib.hid hsz0
    have han := Lib.hid han0
    clear hfo0 hsz0 han0 h h1 h2 hm hG hx
    by_cases a1 : x.attempt.1 < 1
    · clear hrg
      go_enter Tryz.func33, Tryz.ntmps33
      go_wp2_with (go_at_call 61; go_must (refine (hfo.out _ (by repeat (first | (with_reducible exact Below.refl _ _) | (with_reducible refine Below.drew ?_) | (with_reducible refine below_drewN ?_ _) | ((with_reducible refine Below.alloc ?_ ?_ _); rotate_left; focus ((try simp) <;> omega)) | ((with_reducible refine Below.setCell ?_ ?_ _); rotate_left; focus ((try simp) <;> omega)) | ((with_reducible refine Below.trans ?_ (Below.mono (by assumption) ?_)); rotate_left; focus ((try simp) <;> omega))))).mono ?_; rintro e w1 ⟨rfl, hb1⟩; have hz1 := hb1.size; (try simp at hz1); obtain ⟨hc1, hf1⟩ := blk_at hb1 w.heap.size (by (try simp) <;> omega)))
      go_ret
      exact ⟨by rw [hf.out]; rfl, (by repeat (first | (with_reducible exact Below.refl _ _) | (with_reducible refine Below.drew ?_) | (with_reducible refine below_drewN ?_ _) | ((with_reducible refine Below.alloc ?_ ?_ _); rotate_left; focus ((try simp) <;> omega)) | ((with_reducible refine Below.setCell ?_ ?_ _); rotate_left; focus ((try simp) <;> omega)) | ((with_reducible refine Below.trans ?_ (Below.mono (by assumption) ?_)); rotate_left; focus ((try simp) <;> omega))))⟩
    by_cases a2 : 16 < x.attempt.1
    · clear hrg
      go_enter Tryz.func33, Tryz.ntmps33
      go_wp2_with (go_at_call 61; go_must (refine (hfo.out _ (by repeat (first | (with_reducible exact Below.refl _ _) | (with_reducible refine Below.drew ?_) | (with_reducible refine below_drewN ?_ _) | ((with_reducible refine Below.alloc ?_ ?_ _); rotate_left; focus ((try simp) <;> omega)) | ((with_reducible refine Below.setCell ?_ ?_ _); rotate_left; focus ((try simp) <;> omega)) | ((with_reducible refine Below.trans ?_ (Below.mono (by assumption) ?_)); rotate_left; focus ((try simp) <;> omega))))).mono ?_; rintro e w1 ⟨rfl, hb1⟩; have hz1 := hb1.size; (try simp at hz1); obtain ⟨hc1, hf1⟩ := blk_at hb1 w.heap.size (by (try simp) <;> omega)))
      go_ret
      exact ⟨by rw [hf.out]; rfl, (by repeat (first | (with_reducible exact Below.refl _ _) | (with_reducible refine Below.drew ?_) | (with_reducible refine below_drewN ?_ _) | ((with_reducible refine Below.alloc ?_ ?_ _); rotate_left; focus ((try simp) <;> omega)) | ((with_reducible refine Below.setCell ?_ ?_ _); rotate_left; focus ((try simp) <;> omega)) | ((with_reducible refine Below.trans ?_ (Below.mono (by assumption) ?_)); rotate_left; focus ((try simp) <;> omega))))⟩
    rw [decide_eq_true (show 1 ≤ x.attempt.1 by omega), decide_eq_true (show x.attempt.1 ≤ 16 by omega)] at hrg
    rcases S with _ | _
    · clear hrg
      go_enter Tryz.func33, Tryz.ntmps33
      go_wp2_with (first | (go_at_call 61; go_must (refine (hfo.out _ (by repeat (first | (with_reducible exact Below.refl _ _) | (with_reducible refine Below.drew ?_) | (with_reducible refine below_drewN ?_ _) | ((with_reducible refine Below.alloc ?_ ?_ _); rotate_left; focus ((try simp) <;> omega)) | ((with_reducible refine Below.setCell ?_ ?_ _); rotate_left; focus ((try simp) <;> omega)) | ((with_reducible refine Below.trans ?_ (Below.mono (by assumption) ?_)); rotate_left; focus ((try simp) <;> omega))))).mono ?_; rintro e w1 ⟨rfl, hb1⟩; have hz1 := hb1.size; (try simp at hz1); obtain ⟨hc1, hf1⟩ := blk_at hb1 w.heap.size (by (try simp) <;> omega))) | (go_at_call 62; go_must (refine (hsz.out _).mono ?_; rintro e w2 ⟨rfl, hb2⟩; have hz2 := hb2.size; (try simp at hz2); obtain ⟨hc2, hf2⟩ := blk_at hb2 w.heap.size (by (try simp) <;> omega))))
      go_ret
      exact ⟨by rw [hf.out]; rfl, (by repeat (first | (with_reducible exact Below.refl _ _) | (with_reducible refine Below.drew ?_) | (with_reducible refine below_drewN ?_ _) | ((with_reducible refine Below.alloc ?_ ?_ _); rotate_left; focus ((try simp) <;> omega)) | ((with_reducible refine Below.setCell ?_ ?_ _); rotate_left; focus ((try simp) <;> omega)) | ((with_reducible refine Below.trans ?_ (Below.mono (by assumption) ?_)); rotate_left; focus ((try simp) <;> omega))))⟩
    · obtain rfl : I = false := by simpa using hrg.symm
      clear hrg
      go_enter Tryz.func33, Tryz.ntmps33
      go_wp2_with (first | (go_at_call 61; go_must (refine (hfo.out _ (by repeat (first | (with_reducible exact Below.refl _ _) | (with_reducible refine Below.drew ?_) | (with_reducible refine below_drewN ?_ _) | ((with_reducible refine Below.alloc ?_ ?_ _); rotate_left; focus ((try simp) <;> omega)) | ((with_reducible refine Below.setCell ?_ ?_ _); rotate_left; focus ((try simp) <;> omega)) | ((with_reducible refine Below.trans ?_ (Below.mono (by assumption) ?_)); rotate_left; focus ((try simp) <;> omega))))).mono ?_; rintro e w1 ⟨rfl, hb1⟩; have hz1 := hb1.size; (try simp at hz1); obtain ⟨hc1, hf1⟩ := blk_at hb1 w.heap.size (by (try simp) <;> omega))) | (go_at_call 62; go_must (refine (hsz.out _).mono ?_; rintro e w2 ⟨rfl, hb2⟩; have hz2 := hb2.size; (try simp at hz2); obtain ⟨hc2, hf2⟩ := blk_at hb2 w.heap.size (by (try simp) <;> omega))) | (go_at_call 63; go_must (refine (han.out _ (by repeat (first | (with_reducible exact Below.refl _ _) | (with_reducible refine Below.drew ?_) | (with_reducible refine below_drewN ?_ _) | ((with_reducible refine Below.alloc ?_ ?_ _); rotate_left; focus ((try simp) <;> omega)) | ((with_reducible refine Below.setCell ?_ ?_ _); rotate_left; focus ((try simp) <;> omega)) | ((with_reducible refine Below.trans ?_ (Below.mono (by assumption) ?_)); rotate_left; focus ((try simp) <;> omega))))).mono ?_; rintro e w3 ⟨rfl, hb3⟩; have hz3 := hb3.size; (try simp at hz3); obtain ⟨hc3, hf3⟩ := blk_at hb3 w.heap.size (by (try simp) <;> omega))))
      go_ret
      exact ⟨by rw [hf.out]; rfl, (by repeat (first | (with_reducible exact Below.refl _ _) | (with_reducible refine Below.drew ?_) | (with_reducible refine below_drewN ?_ _) | ((with_reducible refine Below.alloc ?_ ?_ _); rotate_left; focus ((try simp) <;> omega)) | ((with_reducible refine Below.setCell ?_ ?_ _); rotate_left; focus ((try simp) <;> omega)) | ((with_reducible refine Below.trans ?_ (Below.mono (by assumption) ?_)); rotate_left; focus ((try simp) <;> omega))))⟩
end Go.Proofs.YtjkijknjngiieaaGreatDoor
