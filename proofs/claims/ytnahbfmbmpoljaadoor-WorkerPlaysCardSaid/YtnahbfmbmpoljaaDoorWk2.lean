/-
  The walks of workers: whether one is valid, by the program.
-/
import Derived.Test.YtnahbfmbmpoljaaDoorWk1



namespace Go.Proofs.YtnahbfmbmpoljaaDoor
open Go.RowKit

def LabOk (x : Work) : Prop := (∀ s ∈ x.labs, s.1.size < 4294967281) ∧ x.labs.length ≤ 9223372036854775807 ∧ x.toks.length ≤ 9223372036854775807
theorem err_1 {x : Work} (h : nameB x.id.1 = false) : wErr x = 10 := by unfold wErr; rw [if_pos h]
theorem err_2 {x : Work} (h : nameB x.id.1 = true) (h2 : labE x.labs ≠ 0) : wErr x = labE x.labs := by unfold wErr; rw [if_neg (by rw [h]; decide), if_pos h2]
theorem err_3 {x : Work} (h : nameB x.id.1 = true) (h2 : labE x.labs = 0) (h3 : rangeB x = false) : wErr x = 2 := by unfold wErr; rw [if_neg (by rw [h]; decide), if_neg (fun e => e h2), if_pos h3]
theorem err_4 {x : Work} (h : nameB x.id.1 = true) (h2 : labE x.labs = 0) (h3 : rangeB x = true) : wErr x = if tillB x = false then 16 else if toksB x.toks = false then 22 else if x.slots.1 < (x.toks.length : Int) then 15 else 0 := by unfold wErr; rw [if_neg (by rw [h]; decide), if_neg (fun e => e h2), if_neg (by rw [h3]; decide)]
theorem till_no {x : Work} (h : (x.till.1 ≠ 0 ∧ x.phase.1 ≠ 2) ∨ (x.phase.1 = 2 ∧ x.pre = false)) : tillB x = false := by
  unfold tillB
  rcases h with ⟨h1, h2⟩ | ⟨h1, h2⟩
  · simp [h1, h2]
  · simp [h1, h2]
theorem till_yes {x : Work} (h : (x.phase.1 = 2 ∧ x.pre = true) ∨ (x.phase.1 ≠ 2 ∧ x.till.1 = 0)) : tillB x = true := by
  unfold tillB
  rcases h with ⟨h1, h2⟩ | ⟨h1, h2⟩
  · simp [h1, h2]
  · simp [h1, h2]
set_option maxRecDepth 100000 in
set_option maxHeartbeats 8000000 in
theorem wvalid_any (x : Work) (w : World) (hx : LabWork w w.heap.size x) (ho : LabOk x) (hG : Glob w) :
    Calls Tryd.prog 10 #[(.agg #[.string x.id.1, .slice x.labsA x.labs.length x.labsC, .int .i64 x.trust.1, .int .i64 x.slots.1, .bool x.pre, .int .i64 x.phase.1, .int .i64 x.beat.1, .int .i64 x.till.1, .slice x.toksA x.toks.length x.toksC])] w fun e w' => e = .returned (.int .i64 (wErr x)) ∧ Below w.heap.size w w' := by
  have hnm0 := fun W => name_any x.id.1 W x.id.2
  have hlb0 := fun W (hb : Below w.heap.size w W) => lvalid_any x.labsA x.labsC x.labs W ((hx.2.2.1.below hb (Nat.le_refl _)).more hb.size) ho.2.1 ho.1 (hG.keep hb)
  have htk0 := fun W (hb : Below w.heap.size w W) => tokens_any x.toksA x.toksC x.toks W ((hx.2.2.2.2.2.below hb (Nat.le_refl _)).more hb.size) ho.2.2
  have htm10 := fun W => time_any x.beat.1 W
  have htm20 := fun W => time_any x.till.1 W
  rcases hnn : nameB x.id.1 with _ | _
  · have hfin := Lib.hid (err_1 hnn)
    rw [hnn] at hnm0
    have hnm : Hid (∀ W, Calls Tryd.prog 25 #[.string x.id.1] W fun e w' => e = .returned (.bool false) ∧ Below W.heap.size W w') := Lib.hid fun W => (hnm0 W).mono fun _ _ h => ⟨h.1, h.2.toBelow⟩
    clear hnm0 hlb0 htk0 htm10 htm20
    replace hnn := Lib.hid hnn
    replace hx := Lib.hid hx
    replace ho := Lib.hid ho
    go_enter Tryd.func10, Tryd.ntmps10
    go_wp2_with (first
      | (go_at_call 25; go_must (refine (hnm.out _).mono ?_; rintro e w1 ⟨rfl, hb1⟩; have hz1 := hb1.size; (try simp at hz1); obtain ⟨hc1, hf1⟩ := blk_at hb1 w.heap.size (by (try simp) <;> omega)))
      | (go_at_call 26; go_must (refine (hlb.out _ (by repeat (first | (with_reducible exact Below.refl _ _) | (with_reducible refine Below.drew ?_) | (with_reducible refine below_drewN ?_ _) | ((with_reducible refine Below.alloc ?_ ?_ _); rotate_left; focus ((try simp) <;> omega)) | ((with_reducible refine Below.setCell ?_ ?_ _); rotate_left; focus ((try simp) <;> omega)) | ((with_reducible refine Below.trans ?_ (Below.mono (by assumption) ?_)); rotate_left; focus ((try simp) <;> omega))))).mono ?_; rintro e w2 ⟨rfl, hb2⟩; have hz2 := hb2.size; (try simp at hz2); obtain ⟨hc2, hf2⟩ := blk_at hb2 w.heap.size (by (try simp) <;> omega)))
      | (go_at_call 27; go_must (first | (with_reducible refine (htm1.out _).mono ?_; rintro e w3 ⟨rfl, rfl⟩) | (with_reducible refine (htm2.out _).mono ?_; rintro e w4 ⟨rfl, rfl⟩)))
      | (go_at_call 28; go_must (refine (htk.out _ (by repeat (first | (with_reducible exact Below.refl _ _) | (with_reducible refine Below.drew ?_) | (with_reducible refine below_drewN ?_ _) | ((with_reducible refine Below.alloc ?_ ?_ _); rotate_left; focus ((try simp) <;> omega)) | ((with_reducible refine Below.setCell ?_ ?_ _); rotate_left; focus ((try simp) <;> omega)) | ((with_reducible refine Below.trans ?_ (Below.mono (by assumption) ?_)); rotate_left; focus ((try simp) <;> omega))))).mono ?_; rintro e w5 ⟨rfl, rfl⟩)))
    go_ret
    exact ⟨ret_int hfin.out.symm, (by repeat (first | (with_reducible exact Below.refl _ _) | (with_reducible refine Below.drew ?_) | (with_reducible refine below_drewN ?_ _) | ((with_reducible refine Below.alloc ?_ ?_ _); rotate_left; focus ((try simp) <;> omega)) | ((with_reducible refine Below.setCell ?_ ?_ _); rotate_left; focus ((try simp) <;> omega)) | ((with_reducible refine Below.trans ?_ (Below.mono (by assumption) ?_)); rotate_left; focus ((try simp) <;> omega))))⟩
  rw [hnn] at hnm0
  have hnm : Hid (∀ W, Calls Tryd.prog 25 #[.string x.id.1] W fun e w' => e = .returned (.bool true) ∧ Below W.heap.size W w') := Lib.hid fun W => (hnm0 W).mono fun _ _ h => ⟨h.1, h.2.toBelow⟩
  clear hnm0
  by_cases hll : labE x.labs ≠ 0
  · have hfin := Lib.hid (err_2 hnn hll)
    have hlb := Lib.hid hlb0
    clear hlb0 htk0 htm10 htm20
    have hle : (labE x.labs == 0) = false := by rw [beq_eq_false_iff_ne]; exact hll
    generalize labE x.labs = L at *
    replace hll := Lib.hid hll
    replace hnn := Lib.hid hnn
    replace hx := Lib.hid hx
    replace ho := Lib.hid ho
    go_enter Tryd.func10, Tryd.ntmps10
    go_wp2_with (first
      | (go_at_call 25; go_must (refine (hnm.out _).mono ?_; rintro e w1 ⟨rfl, hb1⟩; have hz1 := hb1.size; (try simp at hz1); obtain ⟨hc1, hf1⟩ := blk_at hb1 w.heap.size (by (try simp) <;> omega)))
      | (go_at_call 26; go_must (refine (hlb.out _ (by repeat (first | (with_reducible exact Below.refl _ _) | (with_reducible refine Below.drew ?_) | (with_reducible refine below_drewN ?_ _) | ((with_reducible refine Below.alloc ?_ ?_ _); rotate_left; focus ((try simp) <;> omega)) | ((with_reducible refine Below.setCell ?_ ?_ _); rotate_left; focus ((try simp) <;> omega)) | ((with_reducible refine Below.trans ?_ (Below.mono (by assumption) ?_)); rotate_left; focus ((try simp) <;> omega))))).mono ?_; rintro e w2 ⟨rfl, hb2⟩; have hz2 := hb2.size; (try simp at hz2); obtain ⟨hc2, hf2⟩ := blk_at hb2 w.heap.size (by (try simp) <;> omega)))
      | (go_at_call 27; go_must (first | (with_reducible refine (htm1.out _).mono ?_; rintro e w3 ⟨rfl, rfl⟩) | (with_reducible refine (htm2.out _).mono ?_; rintro e w4 ⟨rfl, rfl⟩)))
      | (go_at_call 28; go_must (refine (htk.out _ (by repeat (first | (with_reducible exact Below.refl _ _) | (with_reducible refine Below.drew ?_) | (with_reducible refine below_drewN ?_ _) | ((with_reducible refine Below.alloc ?_ ?_ _); rotate_left; focus ((try simp) <;> omega)) | ((with_reducible refine Below.setCell ?_ ?_ _); rotate_left; focus ((try simp) <;> omega)) | ((with_reducible refine Below.trans ?_ (Below.mono (by assumption) ?_)); rotate_left; focus ((try simp) <;> omega))))).mono ?_; rintro e w5 ⟨rfl, rfl⟩)))
    go_ret
    exact ⟨ret_int hfin.out.symm, (by repeat (first | (with_reducible exact Below.refl _ _) | (with_reducible refine Below.drew ?_) | (with_reducible refine below_drewN ?_ _) | ((with_reducible refine Below.alloc ?_ ?_ _); rotate_left; focus ((try simp) <;> omega)) | ((with_reducible refine Below.setCell ?_ ?_ _); rotate_left; focus ((try simp) <;> omega)) | ((with_reducible refine Below.trans ?_ (Below.mono (by assumption) ?_)); rotate_left; focus ((try simp) <;> omega))))⟩
  replace hll : labE x.labs = 0 := by omega
  rw [hll] at hlb0
  have hlb := Lib.hid hlb0
  have htk1 := Lib.hid htk0
  replace hx := Lib.hid hx
  replace ho := Lib.hid ho
  have htm11 := Lib.hid htm10
  have htm21 := Lib.hid htm20
  clear hlb0 htk0 htm10 htm20
  by_cases r1 : x.trust.1 < 0
  · have hfin := Lib.hid (err_3 hnn hll (show rangeB x = false by unfold rangeB; rw [decide_eq_false (show ¬ 0 ≤ x.trust.1 by omega)]; simp))
    replace hll := Lib.hid hll; replace hnn := Lib.hid hnn
    go_enter Tryd.func10, Tryd.ntmps10
    go_wp2_with (first
      | (go_at_call 25; go_must (refine (hnm.out _).mono ?_; rintro e w1 ⟨rfl, hb1⟩; have hz1 := hb1.size; (try simp at hz1); obtain ⟨hc1, hf1⟩ := blk_at hb1 w.heap.size (by (try simp) <;> omega)))
      | (go_at_call 26; go_must (refine (hlb.out _ (by repeat (first | (with_reducible exact Below.refl _ _) | (with_reducible refine Below.drew ?_) | (with_reducible refine below_drewN ?_ _) | ((with_reducible refine Below.alloc ?_ ?_ _); rotate_left; focus ((try simp) <;> omega)) | ((with_reducible refine Below.setCell ?_ ?_ _); rotate_left; focus ((try simp) <;> omega)) | ((with_reducible refine Below.trans ?_ (Below.mono (by assumption) ?_)); rotate_left; focus ((try simp) <;> omega))))).mono ?_; rintro e w2 ⟨rfl, hb2⟩; have hz2 := hb2.size; (try simp at hz2); obtain ⟨hc2, hf2⟩ := blk_at hb2 w.heap.size (by (try simp) <;> omega)))
      | (go_at_call 27; go_must (first | (with_reducible refine (htm1.out _).mono ?_; rintro e w3 ⟨rfl, rfl⟩) | (with_reducible refine (htm2.out _).mono ?_; rintro e w4 ⟨rfl, rfl⟩)))
      | (go_at_call 28; go_must (refine (htk.out _ (by repeat (first | (with_reducible exact Below.refl _ _) | (with_reducible refine Below.drew ?_) | (with_reducible refine below_drewN ?_ _) | ((with_reducible refine Below.alloc ?_ ?_ _); rotate_left; focus ((try simp) <;> omega)) | ((with_reducible refine Below.setCell ?_ ?_ _); rotate_left; focus ((try simp) <;> omega)) | ((with_reducible refine Below.trans ?_ (Below.mono (by assumption) ?_)); rotate_left; focus ((try simp) <;> omega))))).mono ?_; rintro e w5 ⟨rfl, rfl⟩)))
    go_ret
    exact ⟨ret_int hfin.out.symm, (by repeat (first | (with_reducible exact Below.refl _ _) | (with_reducible refine Below.drew ?_) | (with_reducible refine below_drewN ?_ _) | ((with_reducible refine Below.alloc ?_ ?_ _); rotate_left; focus ((try simp) <;> omega)) | ((with_reducible refine Below.setCell ?_ ?_ _); rotate_left; focus ((try simp) <;> omega)) | ((with_reducible refine Below.trans ?_ (Below.mono (by assumption) ?_)); rotate_left; focus ((try simp) <;> omega))))⟩
  by_cases r2 : x.trust.1 > 2
  · have hfin := Lib.hid (err_3 hnn hll (show rangeB x = false by unfold rangeB; rw [decide_eq_false (show ¬ x.trust.1 ≤ 2 by omega)]; simp))
    replace hll := Lib.hid hll; replace hnn := Lib.hid hnn
    go_enter Tryd.func10, Tryd.ntmps10
    go_wp2_with (first
      | (go_at_call 25; go_must (refine (hnm.out _).mono ?_; rintro e w1 ⟨rfl, hb1⟩; have hz1 := hb1.size; (try simp at hz1); obtain ⟨hc1, hf1⟩ := blk_at hb1 w.heap.size (by (try simp) <;> omega)))
      | (go_at_call 26; go_must (refine (hlb.out _ (by repeat (first | (with_reducible exact Below.refl _ _) | (with_reducible refine Below.drew ?_) | (with_reducible refine below_drewN ?_ _) | ((with_reducible refine Below.alloc ?_ ?_ _); rotate_left; focus ((try simp) <;> omega)) | ((with_reducible refine Below.setCell ?_ ?_ _); rotate_left; focus ((try simp) <;> omega)) | ((with_reducible refine Below.trans ?_ (Below.mono (by assumption) ?_)); rotate_left; focus ((try simp) <;> omega))))).mono ?_; rintro e w2 ⟨rfl, hb2⟩; have hz2 := hb2.size; (try simp at hz2); obtain ⟨hc2, hf2⟩ := blk_at hb2 w.heap.size (by (try simp) <;> omega)))
      | (go_at_call 27; go_must (first | (with_reducible refine (htm1.out _).mono ?_; rintro e w3 ⟨rfl, rfl⟩) | (with_reducible refine (htm2.out _).mono ?_; rintro e w4 ⟨rfl, rfl⟩)))
      | (go_at_call 28; go_must (refine (htk.out _ (by repeat (first | (with_reducible exact Below.refl _ _) | (with_reducible refine Below.drew ?_) | (with_reducible refine below_drewN ?_ _) | ((with_reducible refine Below.alloc ?_ ?_ _); rotate_left; focus ((try simp) <;> omega)) | ((with_reducible refine Below.setCell ?_ ?_ _); rotate_left; focus ((try simp) <;> omega)) | ((with_reducible refine Below.trans ?_ (Below.mono (by assumption) ?_)); rotate_left; focus ((try simp) <;> omega))))).mono ?_; rintro e w5 ⟨rfl, rfl⟩)))
    go_ret
    exact ⟨ret_int hfin.out.symm, (by repeat (first | (with_reducible exact Below.refl _ _) | (with_reducible refine Below.drew ?_) | (with_reducible refine below_drewN ?_ _) | ((with_reducible refine Below.alloc ?_ ?_ _); rotate_left; focus ((try simp) <;> omega)) | ((with_reducible refine Below.setCell ?_ ?_ _); rotate_left; focus ((try simp) <;> omega)) | ((with_reducible refine Below.trans ?_ (Below.mono (by assumption) ?_)); rotate_left; focus ((try simp) <;> omega))))⟩
  by_cases r3 : x.slots.1 < 1
  · have hfin := Lib.hid (err_3 hnn hll (show rangeB x = false by unfold rangeB; rw [decide_eq_false (show ¬ 1 ≤ x.slots.1 by omega)]; simp))
    replace hll := Lib.hid hll; replace hnn := Lib.hid hnn
    go_enter Tryd.func10, Tryd.ntmps10
    go_wp2_with (first
      | (go_at_call 25; go_must (refine (hnm.out _).mono ?_; rintro e w1 ⟨rfl, hb1⟩; have hz1 := hb1.size; (try simp at hz1); obtain ⟨hc1, hf1⟩ := blk_at hb1 w.heap.size (by (try simp) <;> omega)))
      | (go_at_call 26; go_must (refine (hlb.out _ (by repeat (first | (with_reducible exact Below.refl _ _) | (with_reducible refine Below.drew ?_) | (with_reducible refine below_drewN ?_ _) | ((with_reducible refine Below.alloc ?_ ?_ _); rotate_left; focus ((try simp) <;> omega)) | ((with_reducible refine Below.setCell ?_ ?_ _); rotate_left; focus ((try simp) <;> omega)) | ((with_reducible refine Below.trans ?_ (Below.mono (by assumption) ?_)); rotate_left; focus ((try simp) <;> omega))))).mono ?_; rintro e w2 ⟨rfl, hb2⟩; have hz2 := hb2.size; (try simp at hz2); obtain ⟨hc2, hf2⟩ := blk_at hb2 w.heap.size (by (try simp) <;> omega)))
      | (go_at_call 27; go_must (first | (with_reducible refine (htm1.out _).mono ?_; rintro e w3 ⟨rfl, rfl⟩) | (with_reducible refine (htm2.out _).mono ?_; rintro e w4 ⟨rfl, rfl⟩)))
      | (go_at_call 28; go_must (refine (htk.out _ (by repeat (first | (with_reducible exact Below.refl _ _) | (with_reducible refine Below.drew ?_) | (with_reducible refine below_drewN ?_ _) | ((with_reducible refine Below.alloc ?_ ?_ _); rotate_left; focus ((try simp) <;> omega)) | ((with_reducible refine Below.setCell ?_ ?_ _); rotate_left; focus ((try simp) <;> omega)) | ((with_reducible refine Below.trans ?_ (Below.mono (by assumption) ?_)); rotate_left; focus ((try simp) <;> omega))))).mono ?_; rintro e w5 ⟨rfl, rfl⟩)))
    go_ret
    exact ⟨ret_int hfin.out.symm, (by repeat (first | (with_reducible exact Below.refl _ _) | (with_reducible refine Below.drew ?_) | (with_reducible refine below_drewN ?_ _) | ((with_reducible refine Below.alloc ?_ ?_ _); rotate_left; focus ((try simp) <;> omega)) | ((with_reducible refine Below.setCell ?_ ?_ _); rotate_left; focus ((try simp) <;> omega)) | ((with_reducible refine Below.trans ?_ (Below.mono (by assumption) ?_)); rotate_left; focus ((try simp) <;> omega))))⟩
  by_cases r4 : x.slots.1 > 64
  · have hfin := Lib.hid (err_3 hnn hll (show rangeB x = false by unfold rangeB; rw [decide_eq_false (show ¬ x.slots.1 ≤ 64 by omega)]; simp))
    replace hll := Lib.hid hll; replace hnn := Lib.hid hnn
    go_enter Tryd.func10, Tryd.ntmps10
    go_wp2_with (first
      | (go_at_call 25; go_must (refine (hnm.out _).mono ?_; rintro e w1 ⟨rfl, hb1⟩; have hz1 := hb1.size; (try simp at hz1); obtain ⟨hc1, hf1⟩ := blk_at hb1 w.heap.size (by (try simp) <;> omega)))
      | (go_at_call 26; go_must (refine (hlb.out _ (by repeat (first | (with_reducible exact Below.refl _ _) | (with_reducible refine Below.drew ?_) | (with_reducible refine below_drewN ?_ _) | ((with_reducible refine Below.alloc ?_ ?_ _); rotate_left; focus ((try simp) <;> omega)) | ((with_reducible refine Below.setCell ?_ ?_ _); rotate_left; focus ((try simp) <;> omega)) | ((with_reducible refine Below.trans ?_ (Below.mono (by assumption) ?_)); rotate_left; focus ((try simp) <;> omega))))).mono ?_; rintro e w2 ⟨rfl, hb2⟩; have hz2 := hb2.size; (try simp at hz2); obtain ⟨hc2, hf2⟩ := blk_at hb2 w.heap.size (by (try simp) <;> omega)))
      | (go_at_call 27; go_must (first | (with_reducible refine (htm1.out _).mono ?_; rintro e w3 ⟨rfl, rfl⟩) | (with_reducible refine (htm2.out _).mono ?_; rintro e w4 ⟨rfl, rfl⟩)))
      | (go_at_call 28; go_must (refine (htk.out _ (by repeat (first | (with_reducible exact Below.refl _ _) | (with_reducible refine Below.drew ?_) | (with_reducible refine below_drewN ?_ _) | ((with_reducible refine Below.alloc ?_ ?_ _); rotate_left; focus ((try simp) <;> omega)) | ((with_reducible refine Below.setCell ?_ ?_ _); rotate_left; focus ((try simp) <;> omega)) | ((with_reducible refine Below.trans ?_ (Below.mono (by assumption) ?_)); rotate_left; focus ((try simp) <;> omega))))).mono ?_; rintro e w5 ⟨rfl, rfl⟩)))
    go_ret
    exact ⟨ret_int hfin.out.symm, (by repeat (first | (with_reducible exact Below.refl _ _) | (with_reducible refine Below.drew ?_) | (with_reducible refine below_drewN ?_ _) | ((with_reducible refine Below.alloc ?_ ?_ _); rotate_left; focus ((try simp) <;> omega)) | ((with_reducible refine Below.setCell ?_ ?_ _); rotate_left; focus ((try simp) <;> omega)) | ((with_reducible refine Below.trans ?_ (Below.mono (by assumption) ?_)); rotate_left; focus ((try simp) <;> omega))))⟩
  by_cases r5 : x.phase.1 < 0
  · have hfin := Lib.hid (err_3 hnn hll (show rangeB x = false by unfold rangeB; rw [decide_eq_false (show ¬ 0 ≤ x.phase.1 by omega)]; simp))
    replace hll := Lib.hid hll; replace hnn := Lib.hid hnn
    go_enter Tryd.func10, Tryd.ntmps10
    go_wp2_with (first
      | (go_at_call 25; go_must (refine (hnm.out _).mono ?_; rintro e w1 ⟨rfl, hb1⟩; have hz1 := hb1.size; (try simp at hz1); obtain ⟨hc1, hf1⟩ := blk_at hb1 w.heap.size (by (try simp) <;> omega)))
      | (go_at_call 26; go_must (refine (hlb.out _ (by repeat (first | (with_reducible exact Below.refl _ _) | (with_reducible refine Below.drew ?_) | (with_reducible refine below_drewN ?_ _) | ((with_reducible refine Below.alloc ?_ ?_ _); rotate_left; focus ((try simp) <;> omega)) | ((with_reducible refine Below.setCell ?_ ?_ _); rotate_left; focus ((try simp) <;> omega)) | ((with_reducible refine Below.trans ?_ (Below.mono (by assumption) ?_)); rotate_left; focus ((try simp) <;> omega))))).mono ?_; rintro e w2 ⟨rfl, hb2⟩; have hz2 := hb2.size; (try simp at hz2); obtain ⟨hc2, hf2⟩ := blk_at hb2 w.heap.size (by (try simp) <;> omega)))
      | (go_at_call 27; go_must (first | (with_reducible refine (htm1.out _).mono ?_; rintro e w3 ⟨rfl, rfl⟩) | (with_reducible refine (htm2.out _).mono ?_; rintro e w4 ⟨rfl, rfl⟩)))
      | (go_at_call 28; go_must (refine (htk.out _ (by repeat (first | (with_reducible exact Below.refl _ _) | (with_reducible refine Below.drew ?_) | (with_reducible refine below_drewN ?_ _) | ((with_reducible refine Below.alloc ?_ ?_ _); rotate_left; focus ((try simp) <;> omega)) | ((with_reducible refine Below.setCell ?_ ?_ _); rotate_left; focus ((try simp) <;> omega)) | ((with_reducible refine Below.trans ?_ (Below.mono (by assumption) ?_)); rotate_left; focus ((try simp) <;> omega))))).mono ?_; rintro e w5 ⟨rfl, rfl⟩)))
    go_ret
    exact ⟨ret_int hfin.out.symm, (by repeat (first | (with_reducible exact Below.refl _ _) | (with_reducible refine Below.drew ?_) | (with_reducible refine below_drewN ?_ _) | ((with_reducible refine Below.alloc ?_ ?_ _); rotate_left; focus ((try simp) <;> omega)) | ((with_reducible refine Below.setCell ?_ ?_ _); rotate_left; focus ((try simp) <;> omega)) | ((with_reducible refine Below.trans ?_ (Below.mono (by assumption) ?_)); rotate_left; focus ((try simp) <;> omega))))⟩
  by_cases r6 : x.phase.1 > 3
  · have hfin := Lib.hid (err_3 hnn hll (show rangeB x = false by unfold rangeB; rw [decide_eq_false (show ¬ x.phase.1 ≤ 3 by omega)]; simp))
    replace hll := Lib.hid hll; replace hnn := Lib.hid hnn
    go_enter Tryd.func10, Tryd.ntmps10
    go_wp2_with (first
      | (go_at_call 25; go_must (refine (hnm.out _).mono ?_; rintro e w1 ⟨rfl, hb1⟩; have hz1 := hb1.size; (try simp at hz1); obtain ⟨hc1, hf1⟩ := blk_at hb1 w.heap.size (by (try simp) <;> omega)))
      | (go_at_call 26; go_must (refine (hlb.out _ (by repeat (first | (with_reducible exact Below.refl _ _) | (with_reducible refine Below.drew ?_) | (with_reducible refine below_drewN ?_ _) | ((with_reducible refine Below.alloc ?_ ?_ _); rotate_left; focus ((try simp) <;> omega)) | ((with_reducible refine Below.setCell ?_ ?_ _); rotate_left; focus ((try simp) <;> omega)) | ((with_reducible refine Below.trans ?_ (Below.mono (by assumption) ?_)); rotate_left; focus ((try simp) <;> omega))))).mono ?_; rintro e w2 ⟨rfl, hb2⟩; have hz2 := hb2.size; (try simp at hz2); obtain ⟨hc2, hf2⟩ := blk_at hb2 w.heap.size (by (try simp) <;> omega)))
      | (go_at_call 27; go_must (first | (with_reducible refine (htm1.out _).mono ?_; rintro e w3 ⟨rfl, rfl⟩) | (with_reducible refine (htm2.out _).mono ?_; rintro e w4 ⟨rfl, rfl⟩)))
      | (go_at_call 28; go_must (refine (htk.out _ (by repeat (first | (with_reducible exact Below.refl _ _) | (with_reducible refine Below.drew ?_) | (with_reducible refine below_drewN ?_ _) | ((with_reducible refine Below.alloc ?_ ?_ _); rotate_left; focus ((try simp) <;> omega)) | ((with_reducible refine Below.setCell ?_ ?_ _); rotate_left; focus ((try simp) <;> omega)) | ((with_reducible refine Below.trans ?_ (Below.mono (by assumption) ?_)); rotate_left; focus ((try simp) <;> omega))))).mono ?_; rintro e w5 ⟨rfl, rfl⟩)))
    go_ret
    exact ⟨ret_int hfin.out.symm, (by repeat (first | (with_reducible exact Below.refl _ _) | (with_reducible refine Below.drew ?_) | (with_reducible refine below_drewN ?_ _) | ((with_reducible refine Below.alloc ?_ ?_ _); rotate_left; focus ((try simp) <;> omega)) | ((with_reducible refine Below.setCell ?_ ?_ _); rotate_left; focus ((try simp) <;> omega)) | ((with_reducible refine Below.trans ?_ (Below.mono (by assumption) ?_)); rotate_left; focus ((try simp) <;> omega))))⟩
  rcases r7 : timeB x.beat.1 with _ | _
  · have htm1 := Lib.hid htm11.out
    have htm2 := htm21
    rw [r7] at htm1
    have hfin := Lib.hid (err_3 hnn hll (show rangeB x = false by unfold rangeB; rw [r7]; simp))
    replace hll := Lib.hid hll; replace hnn := Lib.hid hnn; replace r7 := Lib.hid r7
    go_enter Tryd.func10, Tryd.ntmps10
    go_wp2_with (first
      | (go_at_call 25; go_must (refine (hnm.out _).mono ?_; rintro e w1 ⟨rfl, hb1⟩; have hz1 := hb1.size; (try simp at hz1); obtain ⟨hc1, hf1⟩ := blk_at hb1 w.heap.size (by (try simp) <;> omega)))
      | (go_at_call 26; go_must (refine (hlb.out _ (by repeat (first | (with_reducible exact Below.refl _ _) | (with_reducible refine Below.drew ?_) | (with_reducible refine below_drewN ?_ _) | ((with_reducible refine Below.alloc ?_ ?_ _); rotate_left; focus ((try simp) <;> omega)) | ((with_reducible refine Below.setCell ?_ ?_ _); rotate_left; focus ((try simp) <;> omega)) | ((with_reducible refine Below.trans ?_ (Below.mono (by assumption) ?_)); rotate_left; focus ((try simp) <;> omega))))).mono ?_; rintro e w2 ⟨rfl, hb2⟩; have hz2 := hb2.size; (try simp at hz2); obtain ⟨hc2, hf2⟩ := blk_at hb2 w.heap.size (by (try simp) <;> omega)))
      | (go_at_call 27; go_must (first | (with_reducible refine (htm1.out _).mono ?_; rintro e w3 ⟨rfl, rfl⟩) | (with_reducible refine (htm2.out _).mono ?_; rintro e w4 ⟨rfl, rfl⟩)))
      | (go_at_call 28; go_must (refine (htk.out _ (by repeat (first | (with_reducible exact Below.refl _ _) | (with_reducible refine Below.drew ?_) | (with_reducible refine below_drewN ?_ _) | ((with_reducible refine Below.alloc ?_ ?_ _); rotate_left; focus ((try simp) <;> omega)) | ((with_reducible refine Below.setCell ?_ ?_ _); rotate_left; focus ((try simp) <;> omega)) | ((with_reducible refine Below.trans ?_ (Below.mono (by assumption) ?_)); rotate_left; focus ((try simp) <;> omega))))).mono ?_; rintro e w5 ⟨rfl, rfl⟩)))
    go_ret
    exact ⟨ret_int hfin.out.symm, (by repeat (first | (with_reducible exact Below.refl _ _) | (with_reducible refine Below.drew ?_) | (with_reducible refine below_drewN ?_ _) | ((with_reducible refine Below.alloc ?_ ?_ _); rotate_left; focus ((try simp) <;> omega)) | ((with_reducible refine Below.setCell ?_ ?_ _); rotate_left; focus ((try simp) <;> omega)) | ((with_reducible refine Below.trans ?_ (Below.mono (by assumption) ?_)); rotate_left; focus ((try simp) <;> omega))))⟩
  have htm1 := Lib.hid htm11.out
  rw [r7] at htm1
  rcases r8 : timeB x.till.1 with _ | _
  · have htm2 := Lib.hid htm21.out
    rw [r8] at htm2
    have hfin := Lib.hid (err_3 hnn hll (show rangeB x = false by unfold rangeB; rw [r8]; simp))
    replace hll := Lib.hid hll; replace hnn := Lib.hid hnn; replace r7 := Lib.hid r7; replace r8 := Lib.hid r8
    go_enter Tryd.func10, Tryd.ntmps10
    go_wp2_with (first
      | (go_at_call 25; go_must (refine (hnm.out _).mono ?_; rintro e w1 ⟨rfl, hb1⟩; have hz1 := hb1.size; (try simp at hz1); obtain ⟨hc1, hf1⟩ := blk_at hb1 w.heap.size (by (try simp) <;> omega)))
      | (go_at_call 26; go_must (refine (hlb.out _ (by repeat (first | (with_reducible exact Below.refl _ _) | (with_reducible refine Below.drew ?_) | (with_reducible refine below_drewN ?_ _) | ((with_reducible refine Below.alloc ?_ ?_ _); rotate_left; focus ((try simp) <;> omega)) | ((with_reducible refine Below.setCell ?_ ?_ _); rotate_left; focus ((try simp) <;> omega)) | ((with_reducible refine Below.trans ?_ (Below.mono (by assumption) ?_)); rotate_left; focus ((try simp) <;> omega))))).mono ?_; rintro e w2 ⟨rfl, hb2⟩; have hz2 := hb2.size; (try simp at hz2); obtain ⟨hc2, hf2⟩ := blk_at hb2 w.heap.size (by (try simp) <;> omega)))
      | (go_at_call 27; go_must (first | (with_reducible refine (htm1.out _).mono ?_; rintro e w3 ⟨rfl, rfl⟩) | (with_reducible refine (htm2.out _).mono ?_; rintro e w4 ⟨rfl, rfl⟩)))
      | (go_at_call 28; go_must (refine (htk.out _ (by repeat (first | (with_reducible exact Below.refl _ _) | (with_reducible refine Below.drew ?_) | (with_reducible refine below_drewN ?_ _) | ((with_reducible refine Below.alloc ?_ ?_ _); rotate_left; focus ((try simp) <;> omega)) | ((with_reducible refine Below.setCell ?_ ?_ _); rotate_left; focus ((try simp) <;> omega)) | ((with_reducible refine Below.trans ?_ (Below.mono (by assumption) ?_)); rotate_left; focus ((try simp) <;> omega))))).mono ?_; rintro e w5 ⟨rfl, rfl⟩)))
    go_ret
    exact ⟨ret_int hfin.out.symm, (by repeat (first | (with_reducible exact Below.refl _ _) | (with_reducible refine Below.drew ?_) | (with_reducible refine below_drewN ?_ _) | ((with_reducible refine Below.alloc ?_ ?_ _); rotate_left; focus ((try simp) <;> omega)) | ((with_reducible refine Below.setCell ?_ ?_ _); rotate_left; focus ((try simp) <;> omega)) | ((with_reducible refine Below.trans ?_ (Below.mono (by assumption) ?_)); rotate_left; focus ((try simp) <;> omega))))⟩
  have htm2 := Lib.hid htm21.out
  rw [r8] at htm2
  have hrg : rangeB x = true := by
    unfold rangeB
    rw [r7, r8, decide_eq_true (show 0 ≤ x.trust.1 by omega), decide_eq_true (show x.trust.1 ≤ 2 by omega), decide_eq_true (show 1 ≤ x.slots.1 by omega), decide_eq_true (show x.slots.1 ≤ 64 by omega), decide_eq_true (show 0 ≤ x.phase.1 by omega), decide_eq_true (show x.phase.1 ≤ 3 by omega)]; rfl
  have h4 := err_4 hnn hll hrg
  replace hll := Lib.hid hll
  replace hnn := Lib.hid hnn
  replace r7 := Lib.hid r7
  replace r8 := Lib.hid r8
  replace hrg := Lib.hid hrg
  clear htm11 htm21
  have s1 : 0 ≤ x.trust.1 := by omega
  have s2 : x.trust.1 ≤ 2 := by omega
  have s3 : 1 ≤ x.slots.1 := by omega
  have s4 : x.slots.1 ≤ 64 := by omega
  have s5 : 0 ≤ x.phase.1 := by omega
  have s6 : x.phase.1 ≤ 3 := by omega
  by_cases hpb : x.phase.1 = 2 <;> by_cases htb : x.till.1 = 0
  · have t2 := htm2.out
    rw [htb] at t2
    replace htm2 := Lib.hid t2
    clear t2
    rcases hpr : x.pre with _ | _
    · have hfin := Lib.hid (h4.trans (if_pos (till_no (Or.inr ⟨hpb, hpr⟩))))
      clear h4
      rw [← hpr]
      go_enter Tryd.func10, Tryd.ntmps10
      go_wp2_with (first
        | (go_at_call 25; go_must (refine (hnm.out _).mono ?_; rintro e w1 ⟨rfl, hb1⟩; have hz1 := hb1.size; (try simp at hz1); obtain ⟨hc1, hf1⟩ := blk_at hb1 w.heap.size (by (try simp) <;> omega)))
        | (go_at_call 26; go_must (refine (hlb.out _ (by repeat (first | (with_reducible exact Below.refl _ _) | (with_reducible refine Below.drew ?_) | (with_reducible refine below_drewN ?_ _) | ((with_reducible refine Below.alloc ?_ ?_ _); rotate_left; focus ((try simp) <;> omega)) | ((with_reducible refine Below.setCell ?_ ?_ _); rotate_left; focus ((try simp) <;> omega)) | ((with_reducible refine Below.trans ?_ (Below.mono (by assumption) ?_)); rotate_left; focus ((try simp) <;> omega))))).mono ?_; rintro e w2 ⟨rfl, hb2⟩; have hz2 := hb2.size; (try simp at hz2); obtain ⟨hc2, hf2⟩ := blk_at hb2 w.heap.size (by (try simp) <;> omega)))
        | (go_at_call 27; go_must (first | (with_reducible refine (htm1.out _).mono ?_; rintro e w3 ⟨rfl, rfl⟩) | (with_reducible refine (htm2.out _).mono ?_; rintro e w4 ⟨rfl, rfl⟩)))
        | (go_at_call 28; go_must (refine (htk.out _ (by repeat (first | (with_reducible exact Below.refl _ _) | (with_reducible refine Below.drew ?_) | (with_reducible refine below_drewN ?_ _) | ((with_reducible refine Below.alloc ?_ ?_ _); rotate_left; focus ((try simp) <;> omega)) | ((with_reducible refine Below.setCell ?_ ?_ _); rotate_left; focus ((try simp) <;> omega)) | ((with_reducible refine Below.trans ?_ (Below.mono (by assumption) ?_)); rotate_left; focus ((try simp) <;> omega))))).mono ?_; rintro e w5 ⟨rfl, rfl⟩)))
      go_ret
      exact ⟨ret_int hfin.out.symm, (by repeat (first | (with_reducible exact Below.refl _ _) | (with_reducible refine Below.drew ?_) | (with_reducible refine below_drewN ?_ _) | ((with_reducible refine Below.alloc ?_ ?_ _); rotate_left; focus ((try simp) <;> omega)) | ((with_reducible refine Below.setCell ?_ ?_ _); rotate_left; focus ((try simp) <;> omega)) | ((with_reducible refine Below.trans ?_ (Below.mono (by assumption) ?_)); rotate_left; focus ((try simp) <;> omega))))⟩
    · have hti := till_yes (x := x) (Or.inl ⟨hpb, hpr⟩)
      rw [hti, if_neg (by decide)] at h4
      replace hti := Lib.hid hti
      rw [← hpr]
      rcases htt : toksB x.toks with _ | _
      · have hfin := Lib.hid (h4.trans (if_pos htt))
        have htk0 := htk1.out
        rw [htt] at htk0
        have htk := Lib.hid htk0
        clear h4 htk0 htk1
        replace htt := Lib.hid htt
        go_enter Tryd.func10, Tryd.ntmps10
        go_wp2_with (first
          | (go_at_call 25; go_must (refine (hnm.out _).mono ?_; rintro e w1 ⟨rfl, hb1⟩; have hz1 := hb1.size; (try simp at hz1); obtain ⟨hc1, hf1⟩ := blk_at hb1 w.heap.size (by (try simp) <;> omega)))
          | (go_at_call 26; go_must (refine (hlb.out _ (by repeat (first | (with_reducible exact Below.refl _ _) | (with_reducible refine Below.drew ?_) | (with_reducible refine below_drewN ?_ _) | ((with_reducible refine Below.alloc ?_ ?_ _); rotate_left; focus ((try simp) <;> omega)) | ((with_reducible refine Below.setCell ?_ ?_ _); rotate_left; focus ((try simp) <;> omega)) | ((with_reducible refine Below.trans ?_ (Below.mono (by assumption) ?_)); rotate_left; focus ((try simp) <;> omega))))).mono ?_; rintro e w2 ⟨rfl, hb2⟩; have hz2 := hb2.size; (try simp at hz2); obtain ⟨hc2, hf2⟩ := blk_at hb2 w.heap.size (by (try simp) <;> omega)))
          | (go_at_call 27; go_must (first | (with_reducible refine (htm1.out _).mono ?_; rintro e w3 ⟨rfl, rfl⟩) | (with_reducible refine (htm2.out _).mono ?_; rintro e w4 ⟨rfl, rfl⟩)))
          | (go_at_call 28; go_must (refine (htk.out _ (by repeat (first | (with_reducible exact Below.refl _ _) | (with_reducible refine Below.drew ?_) | (with_reducible refine below_drewN ?_ _) | ((with_reducible refine Below.alloc ?_ ?_ _); rotate_left; focus ((try simp) <;> omega)) | ((with_reducible refine Below.setCell ?_ ?_ _); rotate_left; focus ((try simp) <;> omega)) | ((with_reducible refine Below.trans ?_ (Below.mono (by assumption) ?_)); rotate_left; focus ((try simp) <;> omega))))).mono ?_; rintro e w5 ⟨rfl, rfl⟩)))
        go_ret
        exact ⟨ret_int hfin.out.symm, (by repeat (first | (with_reducible exact Below.refl _ _) | (with_reducible refine Below.drew ?_) | (with_reducible refine below_drewN ?_ _) | ((with_reducible refine Below.alloc ?_ ?_ _); rotate_left; focus ((try simp) <;> omega)) | ((with_reducible refine Below.setCell ?_ ?_ _); rotate_left; focus ((try simp) <;> omega)) | ((with_reducible refine Below.trans ?_ (Below.mono (by assumption) ?_)); rotate_left; focus ((try simp) <;> omega))))⟩
      · rw [htt, if_neg (by decide)] at h4
        have htk0 := htk1.out
        rw [htt] at htk0
        have htk := Lib.hid htk0
        clear htk0 htk1
        replace htt := Lib.hid htt
        by_cases hsl : x.slots.1 < (x.toks.length : Int)
        · have hfin := Lib.hid (h4.trans (if_pos hsl))
          have hsg : (x.toks.length : Int) > x.slots.1 := hsl
          clear h4
          go_enter Tryd.func10, Tryd.ntmps10
          go_wp2_with (first
            | (go_at_call 25; go_must (refine (hnm.out _).mono ?_; rintro e w1 ⟨rfl, hb1⟩; have hz1 := hb1.size; (try simp at hz1); obtain ⟨hc1, hf1⟩ := blk_at hb1 w.heap.size (by (try simp) <;> omega)))
            | (go_at_call 26; go_must (refine (hlb.out _ (by repeat (first | (with_reducible exact Below.refl _ _) | (with_reducible refine Below.drew ?_) | (with_reducible refine below_drewN ?_ _) | ((with_reducible refine Below.alloc ?_ ?_ _); rotate_left; focus ((try simp) <;> omega)) | ((with_reducible refine Below.setCell ?_ ?_ _); rotate_left; focus ((try simp) <;> omega)) | ((with_reducible refine Below.trans ?_ (Below.mono (by assumption) ?_)); rotate_left; focus ((try simp) <;> omega))))).mono ?_; rintro e w2 ⟨rfl, hb2⟩; have hz2 := hb2.size; (try simp at hz2); obtain ⟨hc2, hf2⟩ := blk_at hb2 w.heap.size (by (try simp) <;> omega)))
            | (go_at_call 27; go_must (first | (with_reducible refine (htm1.out _).mono ?_; rintro e w3 ⟨rfl, rfl⟩) | (with_reducible refine (htm2.out _).mono ?_; rintro e w4 ⟨rfl, rfl⟩)))
            | (go_at_call 28; go_must (refine (htk.out _ (by repeat (first | (with_reducible exact Below.refl _ _) | (with_reducible refine Below.drew ?_) | (with_reducible refine below_drewN ?_ _) | ((with_reducible refine Below.alloc ?_ ?_ _); rotate_left; focus ((try simp) <;> omega)) | ((with_reducible refine Below.setCell ?_ ?_ _); rotate_left; focus ((try simp) <;> omega)) | ((with_reducible refine Below.trans ?_ (Below.mono (by assumption) ?_)); rotate_left; focus ((try simp) <;> omega))))).mono ?_; rintro e w5 ⟨rfl, rfl⟩)))
          go_ret
          exact ⟨ret_int hfin.out.symm, (by repeat (first | (with_reducible exact Below.refl _ _) | (with_reducible refine Below.drew ?_) | (with_reducible refine below_drewN ?_ _) | ((with_reducible refine Below.alloc ?_ ?_ _); rotate_left; focus ((try simp) <;> omega)) | ((with_reducible refine Below.setCell ?_ ?_ _); rotate_left; focus ((try simp) <;> omega)) | ((with_reducible refine Below.trans ?_ (Below.mono (by assumption) ?_)); rotate_left; focus ((try simp) <;> omega))))⟩
        · have hfin := Lib.hid (h4.trans (if_neg hsl))
          have hsg : ¬ (x.toks.length : Int) > x.slots.1 := hsl
          clear h4
          go_enter Tryd.func10, Tryd.ntmps10
          go_wp2_with (first
            | (go_at_call 25; go_must (refine (hnm.out _).mono ?_; rintro e w1 ⟨rfl, hb1⟩; have hz1 := hb1.size; (try simp at hz1); obtain ⟨hc1, hf1⟩ := blk_at hb1 w.heap.size (by (try simp) <;> omega)))
            | (go_at_call 26; go_must (refine (hlb.out _ (by repeat (first | (with_reducible exact Below.refl _ _) | (with_reducible refine Below.drew ?_) | (with_reducible refine below_drewN ?_ _) | ((with_reducible refine Below.alloc ?_ ?_ _); rotate_left; focus ((try simp) <;> omega)) | ((with_reducible refine Below.setCell ?_ ?_ _); rotate_left; focus ((try simp) <;> omega)) | ((with_reducible refine Below.trans ?_ (Below.mono (by assumption) ?_)); rotate_left; focus ((try simp) <;> omega))))).mono ?_; rintro e w2 ⟨rfl, hb2⟩; have hz2 := hb2.size; (try simp at hz2); obtain ⟨hc2, hf2⟩ := blk_at hb2 w.heap.size (by (try simp) <;> omega)))
            | (go_at_call 27; go_must (first | (with_reducible refine (htm1.out _).mono ?_; rintro e w3 ⟨rfl, rfl⟩) | (with_reducible refine (htm2.out _).mono ?_; rintro e w4 ⟨rfl, rfl⟩)))
            | (go_at_call 28; go_must (refine (htk.out _ (by repeat (first | (with_reducible exact Below.refl _ _) | (with_reducible refine Below.drew ?_) | (with_reducible refine below_drewN ?_ _) | ((with_reducible refine Below.alloc ?_ ?_ _); rotate_left; focus ((try simp) <;> omega)) | ((with_reducible refine Below.setCell ?_ ?_ _); rotate_left; focus ((try simp) <;> omega)) | ((with_reducible refine Below.trans ?_ (Below.mono (by assumption) ?_)); rotate_left; focus ((try simp) <;> omega))))).mono ?_; rintro e w5 ⟨rfl, rfl⟩)))
          go_ret
          exact ⟨ret_int hfin.out.symm, (by repeat (first | (with_reducible exact Below.refl _ _) | (with_reducible refine Below.drew ?_) | (with_reducible refine below_drewN ?_ _) | ((with_reducible refine Below.alloc ?_ ?_ _); rotate_left; focus ((try simp) <;> omega)) | ((with_reducible refine Below.setCell ?_ ?_ _); rotate_left; focus ((try simp) <;> omega)) | ((with_reducible refine Below.trans ?_ (Below.mono (by assumption) ?_)); rotate_left; focus ((try simp) <;> omega))))⟩
  · rcases hpr : x.pre with _ | _
    · have hfin := Lib.hid (h4.trans (if_pos (till_no (Or.inr ⟨hpb, hpr⟩))))
      clear h4
      rw [← hpr]
      go_enter Tryd.func10, Tryd.ntmps10
      go_wp2_with (first
        | (go_at_call 25; go_must (refine (hnm.out _).mono ?_; rintro e w1 ⟨rfl, hb1⟩; have hz1 := hb1.size; (try simp at hz1); obtain ⟨hc1, hf1⟩ := blk_at hb1 w.heap.size (by (try simp) <;> omega)))
        | (go_at_call 26; go_must (refine (hlb.out _ (by repeat (first | (with_reducible exact Below.refl _ _) | (with_reducible refine Below.drew ?_) | (with_reducible refine below_drewN ?_ _) | ((with_reducible refine Below.alloc ?_ ?_ _); rotate_left; focus ((try simp) <;> omega)) | ((with_reducible refine Below.setCell ?_ ?_ _); rotate_left; focus ((try simp) <;> omega)) | ((with_reducible refine Below.trans ?_ (Below.mono (by assumption) ?_)); rotate_left; focus ((try simp) <;> omega))))).mono ?_; rintro e w2 ⟨rfl, hb2⟩; have hz2 := hb2.size; (try simp at hz2); obtain ⟨hc2, hf2⟩ := blk_at hb2 w.heap.size (by (try simp) <;> omega)))
        | (go_at_call 27; go_must (first | (with_reducible refine (htm1.out _).mono ?_; rintro e w3 ⟨rfl, rfl⟩) | (with_reducible refine (htm2.out _).mono ?_; rintro e w4 ⟨rfl, rfl⟩)))
        | (go_at_call 28; go_must (refine (htk.out _ (by repeat (first | (with_reducible exact Below.refl _ _) | (with_reducible refine Below.drew ?_) | (with_reducible refine below_drewN ?_ _) | ((with_reducible refine Below.alloc ?_ ?_ _); rotate_left; focus ((try simp) <;> omega)) | ((with_reducible refine Below.setCell ?_ ?_ _); rotate_left; focus ((try simp) <;> omega)) | ((with_reducible refine Below.trans ?_ (Below.mono (by assumption) ?_)); rotate_left; focus ((try simp) <;> omega))))).mono ?_; rintro e w5 ⟨rfl, rfl⟩)))
      go_ret
      exact ⟨ret_int hfin.out.symm, (by repeat (first | (with_reducible exact Below.refl _ _) | (with_reducible refine Below.drew ?_) | (with_reducible refine below_drewN ?_ _) | ((with_reducible refine Below.alloc ?_ ?_ _); rotate_left; focus ((try simp) <;> omega)) | ((with_reducible refine Below.setCell ?_ ?_ _); rotate_left; focus ((try simp) <;> omega)) | ((with_reducible refine Below.trans ?_ (Below.mono (by assumption) ?_)); rotate_left; focus ((try simp) <;> omega))))⟩
    · have hti := till_yes (x := x) (Or.inl ⟨hpb, hpr⟩)
      rw [hti, if_neg (by decide)] at h4
      replace hti := Lib.hid hti
      rw [← hpr]
      rcases htt : toksB x.toks with _ | _
      · have hfin := Lib.hid (h4.trans (if_pos htt))
        have htk0 := htk1.out
        rw [htt] at htk0
        have htk := Lib.hid htk0
        clear h4 htk0 htk1
        replace htt := Lib.hid htt
        go_enter Tryd.func10, Tryd.ntmps10
        go_wp2_with (first
          | (go_at_call 25; go_must (refine (hnm.out _).mono ?_; rintro e w1 ⟨rfl, hb1⟩; have hz1 := hb1.size; (try simp at hz1); obtain ⟨hc1, hf1⟩ := blk_at hb1 w.heap.size (by (try simp) <;> omega)))
          | (go_at_call 26; go_must (refine (hlb.out _ (by repeat (first | (with_reducible exact Below.refl _ _) | (with_reducible refine Below.drew ?_) | (with_reducible refine below_drewN ?_ _) | ((with_reducible refine Below.alloc ?_ ?_ _); rotate_left; focus ((try simp) <;> omega)) | ((with_reducible refine Below.setCell ?_ ?_ _); rotate_left; focus ((try simp) <;> omega)) | ((with_reducible refine Below.trans ?_ (Below.mono (by assumption) ?_)); rotate_left; focus ((try simp) <;> omega))))).mono ?_; rintro e w2 ⟨rfl, hb2⟩; have hz2 := hb2.size; (try simp at hz2); obtain ⟨hc2, hf2⟩ := blk_at hb2 w.heap.size (by (try simp) <;> omega)))
          | (go_at_call 27; go_must (first | (with_reducible refine (htm1.out _).mono ?_; rintro e w3 ⟨rfl, rfl⟩) | (with_reducible refine (htm2.out _).mono ?_; rintro e w4 ⟨rfl, rfl⟩)))
          | (go_at_call 28; go_must (refine (htk.out _ (by repeat (first | (with_reducible exact Below.refl _ _) | (with_reducible refine Below.drew ?_) | (with_reducible refine below_drewN ?_ _) | ((with_reducible refine Below.alloc ?_ ?_ _); rotate_left; focus ((try simp) <;> omega)) | ((with_reducible refine Below.setCell ?_ ?_ _); rotate_left; focus ((try simp) <;> omega)) | ((with_reducible refine Below.trans ?_ (Below.mono (by assumption) ?_)); rotate_left; focus ((try simp) <;> omega))))).mono ?_; rintro e w5 ⟨rfl, rfl⟩)))
        go_ret
        exact ⟨ret_int hfin.out.symm, (by repeat (first | (with_reducible exact Below.refl _ _) | (with_reducible refine Below.drew ?_) | (with_reducible refine below_drewN ?_ _) | ((with_reducible refine Below.alloc ?_ ?_ _); rotate_left; focus ((try simp) <;> omega)) | ((with_reducible refine Below.setCell ?_ ?_ _); rotate_left; focus ((try simp) <;> omega)) | ((with_reducible refine Below.trans ?_ (Below.mono (by assumption) ?_)); rotate_left; focus ((try simp) <;> omega))))⟩
      · rw [htt, if_neg (by decide)] at h4
        have htk0 := htk1.out
        rw [htt] at htk0
        have htk := Lib.hid htk0
        clear htk0 htk1
        replace htt := Lib.hid htt
        by_cases hsl : x.slots.1 < (x.toks.length : Int)
        · have hfin := Lib.hid (h4.trans (if_pos hsl))
          have hsg : (x.toks.length : Int) > x.slots.1 := hsl
          clear h4
          go_enter Tryd.func10, Tryd.ntmps10
          go_wp2_with (first
            | (go_at_call 25; go_must (refine (hnm.out _).mono ?_; rintro e w1 ⟨rfl, hb1⟩; have hz1 := hb1.size; (try simp at hz1); obtain ⟨hc1, hf1⟩ := blk_at hb1 w.heap.size (by (try simp) <;> omega)))
            | (go_at_call 26; go_must (refine (hlb.out _ (by repeat (first | (with_reducible exact Below.refl _ _) | (with_reducible refine Below.drew ?_) | (with_reducible refine below_drewN ?_ _) | ((with_reducible refine Below.alloc ?_ ?_ _); rotate_left; focus ((try simp) <;> omega)) | ((with_reducible refine Below.setCell ?_ ?_ _); rotate_left; focus ((try simp) <;> omega)) | ((with_reducible refine Below.trans ?_ (Below.mono (by assumption) ?_)); rotate_left; focus ((try simp) <;> omega))))).mono ?_; rintro e w2 ⟨rfl, hb2⟩; have hz2 := hb2.size; (try simp at hz2); obtain ⟨hc2, hf2⟩ := blk_at hb2 w.heap.size (by (try simp) <;> omega)))
            | (go_at_call 27; go_must (first | (with_reducible refine (htm1.out _).mono ?_; rintro e w3 ⟨rfl, rfl⟩) | (with_reducible refine (htm2.out _).mono ?_; rintro e w4 ⟨rfl, rfl⟩)))
            | (go_at_call 28; go_must (refine (htk.out _ (by repeat (first | (with_reducible exact Below.refl _ _) | (with_reducible refine Below.drew ?_) | (with_reducible refine below_drewN ?_ _) | ((with_reducible refine Below.alloc ?_ ?_ _); rotate_left; focus ((try simp) <;> omega)) | ((with_reducible refine Below.setCell ?_ ?_ _); rotate_left; focus ((try simp) <;> omega)) | ((with_reducible refine Below.trans ?_ (Below.mono (by assumption) ?_)); rotate_left; focus ((try simp) <;> omega))))).mono ?_; rintro e w5 ⟨rfl, rfl⟩)))
          go_ret
          exact ⟨ret_int hfin.out.symm, (by repeat (first | (with_reducible exact Below.refl _ _) | (with_reducible refine Below.drew ?_) | (with_reducible refine below_drewN ?_ _) | ((with_reducible refine Below.alloc ?_ ?_ _); rotate_left; focus ((try simp) <;> omega)) | ((with_reducible refine Below.setCell ?_ ?_ _); rotate_left; focus ((try simp) <;> omega)) | ((with_reducible refine Below.trans ?_ (Below.mono (by assumption) ?_)); rotate_left; focus ((try simp) <;> omega))))⟩
        · have hfin := Lib.hid (h4.trans (if_neg hsl))
          have hsg : ¬ (x.toks.length : Int) > x.slots.1 := hsl
          clear h4
          go_enter Tryd.func10, Tryd.ntmps10
          go_wp2_with (first
            | (go_at_call 25; go_must (refine (hnm.out _).mono ?_; rintro e w1 ⟨rfl, hb1⟩; have hz1 := hb1.size; (try simp at hz1); obtain ⟨hc1, hf1⟩ := blk_at hb1 w.heap.size (by (try simp) <;> omega)))
            | (go_at_call 26; go_must (refine (hlb.out _ (by repeat (first | (with_reducible exact Below.refl _ _) | (with_reducible refine Below.drew ?_) | (with_reducible refine below_drewN ?_ _) | ((with_reducible refine Below.alloc ?_ ?_ _); rotate_left; focus ((try simp) <;> omega)) | ((with_reducible refine Below.setCell ?_ ?_ _); rotate_left; focus ((try simp) <;> omega)) | ((with_reducible refine Below.trans ?_ (Below.mono (by assumption) ?_)); rotate_left; focus ((try simp) <;> omega))))).mono ?_; rintro e w2 ⟨rfl, hb2⟩; have hz2 := hb2.size; (try simp at hz2); obtain ⟨hc2, hf2⟩ := blk_at hb2 w.heap.size (by (try simp) <;> omega)))
            | (go_at_call 27; go_must (first | (with_reducible refine (htm1.out _).mono ?_; rintro e w3 ⟨rfl, rfl⟩) | (with_reducible refine (htm2.out _).mono ?_; rintro e w4 ⟨rfl, rfl⟩)))
            | (go_at_call 28; go_must (refine (htk.out _ (by repeat (first | (with_reducible exact Below.refl _ _) | (with_reducible refine Below.drew ?_) | (with_reducible refine below_drewN ?_ _) | ((with_reducible refine Below.alloc ?_ ?_ _); rotate_left; focus ((try simp) <;> omega)) | ((with_reducible refine Below.setCell ?_ ?_ _); rotate_left; focus ((try simp) <;> omega)) | ((with_reducible refine Below.trans ?_ (Below.mono (by assumption) ?_)); rotate_left; focus ((try simp) <;> omega))))).mono ?_; rintro e w5 ⟨rfl, rfl⟩)))
          go_ret
          exact ⟨ret_int hfin.out.symm, (by repeat (first | (with_reducible exact Below.refl _ _) | (with_reducible refine Below.drew ?_) | (with_reducible refine below_drewN ?_ _) | ((with_reducible refine Below.alloc ?_ ?_ _); rotate_left; focus ((try simp) <;> omega)) | ((with_reducible refine Below.setCell ?_ ?_ _); rotate_left; focus ((try simp) <;> omega)) | ((with_reducible refine Below.trans ?_ (Below.mono (by assumption) ?_)); rotate_left; focus ((try simp) <;> omega))))⟩
  · have t2 := htm2.out
    rw [htb] at t2
    replace htm2 := Lib.hid t2
    clear t2
    have hti := till_yes (x := x) (Or.inr ⟨hpb, htb⟩)
    rw [hti, if_neg (by decide)] at h4
    replace hti := Lib.hid hti
    rcases htt : toksB x.toks with _ | _
    · have hfin := Lib.hid (h4.trans (if_pos htt))
      have htk0 := htk1.out
      rw [htt] at htk0
      have htk := Lib.hid htk0
      clear h4 htk0 htk1
      replace htt := Lib.hid htt
      go_enter Tryd.func10, Tryd.ntmps10
      go_wp2_with (first
        | (go_at_call 25; go_must (refine (hnm.out _).mono ?_; rintro e w1 ⟨rfl, hb1⟩; have hz1 := hb1.size; (try simp at hz1); obtain ⟨hc1, hf1⟩ := blk_at hb1 w.heap.size (by (try simp) <;> omega)))
        | (go_at_call 26; go_must (refine (hlb.out _ (by repeat (first | (with_reducible exact Below.refl _ _) | (with_reducible refine Below.drew ?_) | (with_reducible refine below_drewN ?_ _) | ((with_reducible refine Below.alloc ?_ ?_ _); rotate_left; focus ((try simp) <;> omega)) | ((with_reducible refine Below.setCell ?_ ?_ _); rotate_left; focus ((try simp) <;> omega)) | ((with_reducible refine Below.trans ?_ (Below.mono (by assumption) ?_)); rotate_left; focus ((try simp) <;> omega))))).mono ?_; rintro e w2 ⟨rfl, hb2⟩; have hz2 := hb2.size; (try simp at hz2); obtain ⟨hc2, hf2⟩ := blk_at hb2 w.heap.size (by (try simp) <;> omega)))
        | (go_at_call 27; go_must (first | (with_reducible refine (htm1.out _).mono ?_; rintro e w3 ⟨rfl, rfl⟩) | (with_reducible refine (htm2.out _).mono ?_; rintro e w4 ⟨rfl, rfl⟩)))
        | (go_at_call 28; go_must (refine (htk.out _ (by repeat (first | (with_reducible exact Below.refl _ _) | (with_reducible refine Below.drew ?_) | (with_reducible refine below_drewN ?_ _) | ((with_reducible refine Below.alloc ?_ ?_ _); rotate_left; focus ((try simp) <;> omega)) | ((with_reducible refine Below.setCell ?_ ?_ _); rotate_left; focus ((try simp) <;> omega)) | ((with_reducible refine Below.trans ?_ (Below.mono (by assumption) ?_)); rotate_left; focus ((try simp) <;> omega))))).mono ?_; rintro e w5 ⟨rfl, rfl⟩)))
      go_ret
      exact ⟨ret_int hfin.out.symm, (by repeat (first | (with_reducible exact Below.refl _ _) | (with_reducible refine Below.drew ?_) | (with_reducible refine below_drewN ?_ _) | ((with_reducible refine Below.alloc ?_ ?_ _); rotate_left; focus ((try simp) <;> omega)) | ((with_reducible refine Below.setCell ?_ ?_ _); rotate_left; focus ((try simp) <;> omega)) | ((with_reducible refine Below.trans ?_ (Below.mono (by assumption) ?_)); rotate_left; focus ((try simp) <;> omega))))⟩
    · rw [htt, if_neg (by decide)] at h4
      have htk0 := htk1.out
      rw [htt] at htk0
      have htk := Lib.hid htk0
      clear htk0 htk1
      replace htt := Lib.hid htt
      by_cases hsl : x.slots.1 < (x.toks.length : Int)
      · have hfin := Lib.hid (h4.trans (if_pos hsl))
        have hsg : (x.toks.length : Int) > x.slots.1 := hsl
        clear h4
        go_enter Tryd.func10, Tryd.ntmps10
        go_wp2_with (first
          | (go_at_call 25; go_must (refine (hnm.out _).mono ?_; rintro e w1 ⟨rfl, hb1⟩; have hz1 := hb1.size; (try simp at hz1); obtain ⟨hc1, hf1⟩ := blk_at hb1 w.heap.size (by (try simp) <;> omega)))
          | (go_at_call 26; go_must (refine (hlb.out _ (by repeat (first | (with_reducible exact Below.refl _ _) | (with_reducible refine Below.drew ?_) | (with_reducible refine below_drewN ?_ _) | ((with_reducible refine Below.alloc ?_ ?_ _); rotate_left; focus ((try simp) <;> omega)) | ((with_reducible refine Below.setCell ?_ ?_ _); rotate_left; focus ((try simp) <;> omega)) | ((with_reducible refine Below.trans ?_ (Below.mono (by assumption) ?_)); rotate_left; focus ((try simp) <;> omega))))).mono ?_; rintro e w2 ⟨rfl, hb2⟩; have hz2 := hb2.size; (try simp at hz2); obtain ⟨hc2, hf2⟩ := blk_at hb2 w.heap.size (by (try simp) <;> omega)))
          | (go_at_call 27; go_must (first | (with_reducible refine (htm1.out _).mono ?_; rintro e w3 ⟨rfl, rfl⟩) | (with_reducible refine (htm2.out _).mono ?_; rintro e w4 ⟨rfl, rfl⟩)))
          | (go_at_call 28; go_must (refine (htk.out _ (by repeat (first | (with_reducible exact Below.refl _ _) | (with_reducible refine Below.drew ?_) | (with_reducible refine below_drewN ?_ _) | ((with_reducible refine Below.alloc ?_ ?_ _); rotate_left; focus ((try simp) <;> omega)) | ((with_reducible refine Below.setCell ?_ ?_ _); rotate_left; focus ((try simp) <;> omega)) | ((with_reducible refine Below.trans ?_ (Below.mono (by assumption) ?_)); rotate_left; focus ((try simp) <;> omega))))).mono ?_; rintro e w5 ⟨rfl, rfl⟩)))
        go_ret
        exact ⟨ret_int hfin.out.symm, (by repeat (first | (with_reducible exact Below.refl _ _) | (with_reducible refine Below.drew ?_) | (with_reducible refine below_drewN ?_ _) | ((with_reducible refine Below.alloc ?_ ?_ _); rotate_left; focus ((try simp) <;> omega)) | ((with_reducible refine Below.setCell ?_ ?_ _); rotate_left; focus ((try simp) <;> omega)) | ((with_reducible refine Below.trans ?_ (Below.mono (by assumption) ?_)); rotate_left; focus ((try simp) <;> omega))))⟩
      · have hfin := Lib.hid (h4.trans (if_neg hsl))
        have hsg : ¬ (x.toks.length : Int) > x.slots.1 := hsl
        clear h4
        go_enter Tryd.func10, Tryd.ntmps10
        go_wp2_with (first
          | (go_at_call 25; go_must (refine (hnm.out _).mono ?_; rintro e w1 ⟨rfl, hb1⟩; have hz1 := hb1.size; (try simp at hz1); obtain ⟨hc1, hf1⟩ := blk_at hb1 w.heap.size (by (try simp) <;> omega)))
          | (go_at_call 26; go_must (refine (hlb.out _ (by repeat (first | (with_reducible exact Below.refl _ _) | (with_reducible refine Below.drew ?_) | (with_reducible refine below_drewN ?_ _) | ((with_reducible refine Below.alloc ?_ ?_ _); rotate_left; focus ((try simp) <;> omega)) | ((with_reducible refine Below.setCell ?_ ?_ _); rotate_left; focus ((try simp) <;> omega)) | ((with_reducible refine Below.trans ?_ (Below.mono (by assumption) ?_)); rotate_left; focus ((try simp) <;> omega))))).mono ?_; rintro e w2 ⟨rfl, hb2⟩; have hz2 := hb2.size; (try simp at hz2); obtain ⟨hc2, hf2⟩ := blk_at hb2 w.heap.size (by (try simp) <;> omega)))
          | (go_at_call 27; go_must (first | (with_reducible refine (htm1.out _).mono ?_; rintro e w3 ⟨rfl, rfl⟩) | (with_reducible refine (htm2.out _).mono ?_; rintro e w4 ⟨rfl, rfl⟩)))
          | (go_at_call 28; go_must (refine (htk.out _ (by repeat (first | (with_reducible exact Below.refl _ _) | (with_reducible refine Below.drew ?_) | (with_reducible refine below_drewN ?_ _) | ((with_reducible refine Below.alloc ?_ ?_ _); rotate_left; focus ((try simp) <;> omega)) | ((with_reducible refine Below.setCell ?_ ?_ _); rotate_left; focus ((try simp) <;> omega)) | ((with_reducible refine Below.trans ?_ (Below.mono (by assumption) ?_)); rotate_left; focus ((try simp) <;> omega))))).mono ?_; rintro e w5 ⟨rfl, rfl⟩)))
        go_ret
        exact ⟨ret_int hfin.out.symm, (by repeat (first | (with_reducible exact Below.refl _ _) | (with_reducible refine Below.drew ?_) | (with_reducible refine below_drewN ?_ _) | ((with_reducible refine Below.alloc ?_ ?_ _); rotate_left; focus ((try simp) <;> omega)) | ((with_reducible refine Below.setCell ?_ ?_ _); rotate_left; focus ((try simp) <;> omega)) | ((with_reducible refine Below.trans ?_ (Below.mono (by assumption) ?_)); rotate_left; focus ((try simp) <;> omega))))⟩
  · have hfin := Lib.hid (h4.trans (if_pos (till_no (Or.inl ⟨htb, hpb⟩))))
    clear h4
    go_enter Tryd.func10, Tryd.ntmps10
    go_wp2_with (first
      | (go_at_call 25; go_must (refine (hnm.out _).mono ?_; rintro e w1 ⟨rfl, hb1⟩; have hz1 := hb1.size; (try simp at hz1); obtain ⟨hc1, hf1⟩ := blk_at hb1 w.heap.size (by (try simp) <;> omega)))
      | (go_at_call 26; go_must (refine (hlb.out _ (by repeat (first | (with_reducible exact Below.refl _ _) | (with_reducible refine Below.drew ?_) | (with_reducible refine below_drewN ?_ _) | ((with_reducible refine Below.alloc ?_ ?_ _); rotate_left; focus ((try simp) <;> omega)) | ((with_reducible refine Below.setCell ?_ ?_ _); rotate_left; focus ((try simp) <;> omega)) | ((with_reducible refine Below.trans ?_ (Below.mono (by assumption) ?_)); rotate_left; focus ((try simp) <;> omega))))).mono ?_; rintro e w2 ⟨rfl, hb2⟩; have hz2 := hb2.size; (try simp at hz2); obtain ⟨hc2, hf2⟩ := blk_at hb2 w.heap.size (by (try simp) <;> omega)))
      | (go_at_call 27; go_must (first | (with_reducible refine (htm1.out _).mono ?_; rintro e w3 ⟨rfl, rfl⟩) | (with_reducible refine (htm2.out _).mono ?_; rintro e w4 ⟨rfl, rfl⟩)))
      | (go_at_call 28; go_must (refine (htk.out _ (by repeat (first | (with_reducible exact Below.refl _ _) | (with_reducible refine Below.drew ?_) | (with_reducible refine below_drewN ?_ _) | ((with_reducible refine Below.alloc ?_ ?_ _); rotate_left; focus ((try simp) <;> omega)) | ((with_reducible refine Below.setCell ?_ ?_ _); rotate_left; focus ((try simp) <;> omega)) | ((with_reducible refine Below.trans ?_ (Below.mono (by assumption) ?_)); rotate_left; focus ((try simp) <;> omega))))).mono ?_; rintro e w5 ⟨rfl, rfl⟩)))
    go_ret
    exact ⟨ret_int hfin.out.symm, (by repeat (first | (with_reducible exact Below.refl _ _) | (with_reducible refine Below.drew ?_) | (with_reducible refine below_drewN ?_ _) | ((with_reducible refine Below.alloc ?_ ?_ _); rotate_left; focus ((try simp) <;> omega)) | ((with_reducible refine Below.setCell ?_ ?_ _); rotate_left; focus ((try simp) <;> omega)) | ((with_reducible refine Below.trans ?_ (Below.mono (by assumption) ?_)); rotate_left; focus ((try simp) <;> omega))))⟩
end Go.Proofs.YtnahbfmbmpoljaaDoor
