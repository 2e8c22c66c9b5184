/-
  The walk of the budget layer's first example: it answers true.
-/
import Derived.Test.YtalnbjcfcpkdlaaWalks7




namespace Go.Proofs.Ytalnbjcfcpkdlaa
open Go.RowKit
attribute [local go_sem ↓] eq_bucket

theorem ex_sp : spV 10 5 5000 0 0 5 = .tuple #[.agg #[.int .i64 10, .int .i64 5, .int .i64 0, .int .i64 0], .int .i64 0] := by
  apply spV_of
  have e : spE 10 5 5000 0 0 5 = 0 := by decide
  refine ⟨e, ?_, ?_⟩
  · unfold spL; rw [e]; decide
  · unfold spA; rw [e]; decide
theorem ex_w : wV 10 5 0 0 0 2 = .tuple #[.int .i64 200, .bool true] := wV_yes (by decide) (by decide)
theorem ex_l1 : Lvl 10 5 5000 0 0 = 5000 := by decide
theorem ex_l2 : Lvl 10 5 0 0 100 = 1000 := by decide

set_option maxHeartbeats 2000000 in
theorem awake_any (w : World) :
    Calls Try.prog 11 #[] w fun e w' => e = .returned (.bool true) ∧ Below w.heap.size w w' := by
  go_enter Try.func11, Try.ntmps11
  go_wp2_with fail
  refine (new_yes 10 5 0 (by omega) _).mono ?_
  rintro e w1 ⟨rfl, hb1⟩
  have hz1 := hb1.size
  go_wp2_with fail
  refine (spend_any 10 5 _ 0 0 5 _).mono ?_
  rintro e w2 ⟨rfl, hb2⟩
  rw [ex_sp]
  have hz2 := hb2.size
  simp at hz2
  obtain ⟨hc2, hf2⟩ := blk_at hb2 w1.heap.size (by simp)
  go_wp2_with fail
  refine (when_any 10 5 0 0 0 2 _).mono ?_
  rintro e w3 ⟨rfl, hb3⟩
  rw [ex_w]
  have hz3 := hb3.size
  simp at hz3
  obtain ⟨hc3, hf3⟩ := blk_at hb3 w1.heap.size (by simp; omega)
  obtain ⟨hd3, he3⟩ := blk_at hb3 w2.heap.size (by simp)
  have hlt : w1.heap.size < w2.heap.size := by omega
  go_wp2_with fail
  refine (Level_any 10 5 5000 0 0 _).mono ?_
  rintro e w4 ⟨rfl, hb4⟩
  rw [ex_l1]
  have hz4 := hb4.size
  obtain ⟨hd4, he4⟩ := blk_at hb4 w2.heap.size (by omega)
  go_wp2_with fail
  refine (Level_any 10 5 0 0 100 _).mono ?_
  rintro e w5 ⟨rfl, hb5⟩
  rw [ex_l2]
  go_wp2_with fail
  go_ret
  exact ⟨rfl, (by repeat (first | (with_reducible exact Below.refl _ _) | (with_reducible refine Below.drew ?_) | ((with_reducible refine Below.alloc ?_ ?_ _); rotate_left; focus ((try simp) <;> omega)) | ((with_reducible refine Below.setCell ?_ ?_ _); rotate_left; focus ((try simp) <;> omega)) | ((with_reducible refine Below.trans ?_ (Below.mono (by assumption) ?_)); rotate_left; focus ((try simp) <;> omega))))⟩
end Go.Proofs.Ytalnbjcfcpkdlaa
