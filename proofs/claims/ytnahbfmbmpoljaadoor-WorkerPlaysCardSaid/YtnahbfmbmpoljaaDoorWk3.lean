/-
  The walks of workers: whether one is valid, by the reference.
-/
import Derived.Test.YtnahbfmbmpoljaaDoorWk2
import Derived.Test.YtnahbfmbmpoljaaDoorLab9



namespace Go.Proofs.YtnahbfmbmpoljaaDoor
open Go.RowKit

def inB (n a b : Int) : Bool := decide (a ≤ n) && decide (n ≤ b)
theorem range_eq (x : Work) : rangeB x = (inB x.trust.1 0 2 && inB x.slots.1 1 64 && inB x.phase.1 0 3 && timeB x.beat.1 && timeB x.till.1) := by
  unfold rangeB inB
  simp only [Bool.and_assoc]
set_option maxRecDepth 100000 in
set_option maxHeartbeats 8000000 in
theorem rwvalid_any (x : Work) (w : World) (hx : LabWork w w.heap.size x) (ho : LabOk x) :
    Calls Tryd.prog 11 #[(.agg #[.string x.id.1, .slice x.labsA x.labs.length x.labsC, .int .i64 x.trust.1, .int .i64 x.slots.1, .bool x.pre, .int .i64 x.phase.1, .int .i64 x.beat.1, .int .i64 x.till.1, .slice x.toksA x.toks.length x.toksC])] w fun e w' => e = .returned (.int .i64 (wErr x)) ∧ Below w.heap.size w w' := by
  have hnm0 := fun W => rname_any x.id.1 W x.id.2
  have hlb0 := fun W (hb : Below w.heap.size w W) => rvalid_any x.labsA x.labsC x.labs W ((hx.2.2.1.below hb (Nat.le_refl _)).more hb.size) ho.2.1
  rcases hnn : nameB x.id.1 with _ | _
  · have hfin := Lib.hid (err_1 hnn)
    rw [hnn] at hnm0
    have hnm := Lib.hid hnm0
    clear hnm0 hlb0
    replace hnn := Lib.hid hnn
    replace hx := Lib.hid hx
    replace ho := Lib.hid ho
    go_enter Tryd.func11, Tryd.ntmps11
    go_wp2_with (first
      | (go_at_call 29; go_must (refine (hnm.out _).mono ?_; rintro e w1 ⟨rfl, rfl⟩))
      | (go_at_call 30; go_must (refine (hlb.out _ (by repeat (first | (with_reducible exact Below.refl _ _) | (with_reducible refine Below.drew ?_) | (with_reducible refine below_drewN ?_ _) | ((with_reducible refine Below.alloc ?_ ?_ _); rotate_left; focus ((try simp) <;> omega)) | ((with_reducible refine Below.setCell ?_ ?_ _); rotate_left; focus ((try simp) <;> omega)) | ((with_reducible refine Below.trans ?_ (Below.mono (by assumption) ?_)); rotate_left; focus ((try simp) <;> omega))))).mono ?_; rintro e w2 ⟨rfl, hb2⟩; have hz2 := hb2.size; (try simp at hz2); obtain ⟨hc2, hf2⟩ := blk_at hb2 w.heap.size (by (try simp) <;> omega)))
      | (go_at_call 31; go_must (first | (with_reducible refine (hin1.out _).mono ?_; rintro e w6 ⟨rfl, rfl⟩) | (with_reducible refine (hin2.out _).mono ?_; rintro e w7 ⟨rfl, rfl⟩) | (with_reducible refine (hin3.out _).mono ?_; rintro e w8 ⟨rfl, rfl⟩)))
      | (go_at_call 32; go_must (first | (with_reducible refine (htm1.out _).mono ?_; rintro e w3 ⟨rfl, rfl⟩) | (with_reducible refine (htm2.out _).mono ?_; rintro e w4 ⟨rfl, rfl⟩))))
    go_ret
    exact ⟨ret_int hfin.out.symm, (by repeat (first | (with_reducible exact Below.refl _ _) | (with_reducible refine Below.drew ?_) | (with_reducible refine below_drewN ?_ _) | ((with_reducible refine Below.alloc ?_ ?_ _); rotate_left; focus ((try simp) <;> omega)) | ((with_reducible refine Below.setCell ?_ ?_ _); rotate_left; focus ((try simp) <;> omega)) | ((with_reducible refine Below.trans ?_ (Below.mono (by assumption) ?_)); rotate_left; focus ((try simp) <;> omega))))⟩
  rw [hnn] at hnm0
  have hnm := Lib.hid hnm0
  clear hnm0
  by_cases hll : labE x.labs ≠ 0
  · have hfin := Lib.hid (err_2 hnn hll)
    have hlb := Lib.hid hlb0
    clear hlb0
    have hle : (labE x.labs == 0) = false := by rw [beq_eq_false_iff_ne]; exact hll
    generalize labE x.labs = L at *
    replace hll := Lib.hid hll
    replace hnn := Lib.hid hnn
    replace hx := Lib.hid hx
    replace ho := Lib.hid ho
    go_enter Tryd.func11, Tryd.ntmps11
    go_wp2_with (first
      | (go_at_call 29; go_must (refine (hnm.out _).mono ?_; rintro e w1 ⟨rfl, rfl⟩))
      | (go_at_call 30; go_must (refine (hlb.out _ (by repeat (first | (with_reducible exact Below.refl _ _) | (with_reducible refine Below.drew ?_) | (with_reducible refine below_drewN ?_ _) | ((with_reducible refine Below.alloc ?_ ?_ _); rotate_left; focus ((try simp) <;> omega)) | ((with_reducible refine Below.setCell ?_ ?_ _); rotate_left; focus ((try simp) <;> omega)) | ((with_reducible refine Below.trans ?_ (Below.mono (by assumption) ?_)); rotate_left; focus ((try simp) <;> omega))))).mono ?_; rintro e w2 ⟨rfl, hb2⟩; have hz2 := hb2.size; (try simp at hz2); obtain ⟨hc2, hf2⟩ := blk_at hb2 w.heap.size (by (try simp) <;> omega)))
      | (go_at_call 31; go_must (first | (with_reducible refine (hin1.out _).mono ?_; rintro e w6 ⟨rfl, rfl⟩) | (with_reducible refine (hin2.out _).mono ?_; rintro e w7 ⟨rfl, rfl⟩) | (with_reducible refine (hin3.out _).mono ?_; rintro e w8 ⟨rfl, rfl⟩)))
      | (go_at_call 32; go_must (first | (with_reducible refine (htm1.out _).mono ?_; rintro e w3 ⟨rfl, rfl⟩) | (with_reducible refine (htm2.out _).mono ?_; rintro e w4 ⟨rfl, rfl⟩))))
    go_ret
    exact ⟨ret_int hfin.out.symm, (by repeat (first | (with_reducible exact Below.refl _ _) | (with_reducible refine Below.drew ?_) | (with_reducible refine below_drewN ?_ _) | ((with_reducible refine Below.alloc ?_ ?_ _); rotate_left; focus ((try simp) <;> omega)) | ((with_reducible refine Below.setCell ?_ ?_ _); rotate_left; focus ((try simp) <;> omega)) | ((with_reducible refine Below.trans ?_ (Below.mono (by assumption) ?_)); rotate_left; focus ((try simp) <;> omega))))⟩
  replace hll : labE x.labs = 0 := by omega
  rw [hll] at hlb0
  have hlb := Lib.hid hlb0
  clear hlb0
  have hin1' : ∀ W, Calls Tryd.prog 31 #[.int .i64 x.trust.1, .int .i64 0, .int .i64 2] W fun e w' => e = .returned (.bool (inB x.trust.1 0 2)) ∧ W = w' := fun W => inside_any _ _ _ W
  have hin2' : ∀ W, Calls Tryd.prog 31 #[.int .i64 x.slots.1, .int .i64 1, .int .i64 64] W fun e w' => e = .returned (.bool (inB x.slots.1 1 64)) ∧ W = w' := fun W => inside_any _ _ _ W
  have hin3' : ∀ W, Calls Tryd.prog 31 #[.int .i64 x.phase.1, .int .i64 0, .int .i64 3] W fun e w' => e = .returned (.bool (inB x.phase.1 0 3)) ∧ W = w' := fun W => inside_any _ _ _ W
  have htm1' := fun W => rtime_any x.beat.1 W
  have htm2' := fun W => rtime_any x.till.1 W
  have hre := range_eq x
  obtain ⟨b1, e1⟩ : ∃ b, inB x.trust.1 0 2 = b := ⟨_, rfl⟩
  obtain ⟨b2, e2⟩ : ∃ b, inB x.slots.1 1 64 = b := ⟨_, rfl⟩
  obtain ⟨b3, e3⟩ : ∃ b, inB x.phase.1 0 3 = b := ⟨_, rfl⟩
  obtain ⟨b4, e4⟩ : ∃ b, timeB x.beat.1 = b := ⟨_, rfl⟩
  obtain ⟨b5, e5⟩ : ∃ b, timeB x.till.1 = b := ⟨_, rfl⟩
  rw [e1] at hin1' hre
  rw [e2] at hin2' hre
  rw [e3] at hin3' hre
  rw [e4] at htm1' hre
  rw [e5] at htm2' hre
  replace e1 := Lib.hid e1
  replace e2 := Lib.hid e2
  replace e3 := Lib.hid e3
  replace e4 := Lib.hid e4
  replace e5 := Lib.hid e5
  have hin1 := Lib.hid hin1'
  have hin2 := Lib.hid hin2'
  have hin3 := Lib.hid hin3'
  have htm1 := Lib.hid htm1'
  have htm2 := Lib.hid htm2'
  clear hin1' hin2' hin3' htm1' htm2'
  by_cases hbb : (b1 && b2 && b3 && b4 && b5) = false
  · rw [hbb] at hre
    have hfin := Lib.hid (err_3 hnn hll hre)
    replace hre := Lib.hid hre
    replace hnn := Lib.hid hnn
    replace hll := Lib.hid hll
    replace hx := Lib.hid hx
    replace ho := Lib.hid ho
    rcases b1 with _ | _
    · go_enter Tryd.func11, Tryd.ntmps11
      go_wp2_with (first
        | (go_at_call 29; go_must (refine (hnm.out _).mono ?_; rintro e w1 ⟨rfl, rfl⟩))
        | (go_at_call 30; go_must (refine (hlb.out _ (by repeat (first | (with_reducible exact Below.refl _ _) | (with_reducible refine Below.drew ?_) | (with_reducible refine below_drewN ?_ _) | ((with_reducible refine Below.alloc ?_ ?_ _); rotate_left; focus ((try simp) <;> omega)) | ((with_reducible refine Below.setCell ?_ ?_ _); rotate_left; focus ((try simp) <;> omega)) | ((with_reducible refine Below.trans ?_ (Below.mono (by assumption) ?_)); rotate_left; focus ((try simp) <;> omega))))).mono ?_; rintro e w2 ⟨rfl, hb2⟩; have hz2 := hb2.size; (try simp at hz2); obtain ⟨hc2, hf2⟩ := blk_at hb2 w.heap.size (by (try simp) <;> omega)))
        | (go_at_call 31; go_must (first | (with_reducible refine (hin1.out _).mono ?_; rintro e w6 ⟨rfl, rfl⟩) | (with_reducible refine (hin2.out _).mono ?_; rintro e w7 ⟨rfl, rfl⟩) | (with_reducible refine (hin3.out _).mono ?_; rintro e w8 ⟨rfl, rfl⟩)))
        | (go_at_call 32; go_must (first | (with_reducible refine (htm1.out _).mono ?_; rintro e w3 ⟨rfl, rfl⟩) | (with_reducible refine (htm2.out _).mono ?_; rintro e w4 ⟨rfl, rfl⟩))))
      go_ret
      exact ⟨ret_int hfin.out.symm, (by repeat (first | (with_reducible exact Below.refl _ _) | (with_reducible refine Below.drew ?_) | (with_reducible refine below_drewN ?_ _) | ((with_reducible refine Below.alloc ?_ ?_ _); rotate_left; focus ((try simp) <;> omega)) | ((with_reducible refine Below.setCell ?_ ?_ _); rotate_left; focus ((try simp) <;> omega)) | ((with_reducible refine Below.trans ?_ (Below.mono (by assumption) ?_)); rotate_left; focus ((try simp) <;> omega))))⟩
    rcases b2 with _ | _
    · go_enter Tryd.func11, Tryd.ntmps11
      go_wp2_with (first
        | (go_at_call 29; go_must (refine (hnm.out _).mono ?_; rintro e w1 ⟨rfl, rfl⟩))
        | (go_at_call 30; go_must (refine (hlb.out _ (by repeat (first | (with_reducible exact Below.refl _ _) | (with_reducible refine Below.drew ?_) | (with_reducible refine below_drewN ?_ _) | ((with_reducible refine Below.alloc ?_ ?_ _); rotate_left; focus ((try simp) <;> omega)) | ((with_reducible refine Below.setCell ?_ ?_ _); rotate_left; focus ((try simp) <;> omega)) | ((with_reducible refine Below.trans ?_ (Below.mono (by assumption) ?_)); rotate_left; focus ((try simp) <;> omega))))).mono ?_; rintro e w2 ⟨rfl, hb2⟩; have hz2 := hb2.size; (try simp at hz2); obtain ⟨hc2, hf2⟩ := blk_at hb2 w.heap.size (by (try simp) <;> omega)))
        | (go_at_call 31; go_must (first | (with_reducible refine (hin1.out _).mono ?_; rintro e w6 ⟨rfl, rfl⟩) | (with_reducible refine (hin2.out _).mono ?_; rintro e w7 ⟨rfl, rfl⟩) | (with_reducible refine (hin3.out _).mono ?_; rintro e w8 ⟨rfl, rfl⟩)))
        | (go_at_call 32; go_must (first | (with_reducible refine (htm1.out _).mono ?_; rintro e w3 ⟨rfl, rfl⟩) | (with_reducible refine (htm2.out _).mono ?_; rintro e w4 ⟨rfl, rfl⟩))))
      go_ret
      exact ⟨ret_int hfin.out.symm, (by repeat (first | (with_reducible exact Below.refl _ _) | (with_reducible refine Below.drew ?_) | (with_reducible refine below_drewN ?_ _) | ((with_reducible refine Below.alloc ?_ ?_ _); rotate_left; focus ((try simp) <;> omega)) | ((with_reducible refine Below.setCell ?_ ?_ _); rotate_left; focus ((try simp) <;> omega)) | ((with_reducible refine Below.trans ?_ (Below.mono (by assumption) ?_)); rotate_left; focus ((try simp) <;> omega))))⟩
    rcases b3 with _ | _
    · go_enter Tryd.func11, Tryd.ntmps11
      go_wp2_with (first
        | (go_at_call 29; go_must (refine (hnm.out _).mono ?_; rintro e w1 ⟨rfl, rfl⟩))
        | (go_at_call 30; go_must (refine (hlb.out _ (by repeat (first | (with_reducible exact Below.refl _ _) | (with_reducible refine Below.drew ?_) | (with_reducible refine below_drewN ?_ _) | ((with_reducible refine Below.alloc ?_ ?_ _); rotate_left; focus ((try simp) <;> omega)) | ((with_reducible refine Below.setCell ?_ ?_ _); rotate_left; focus ((try simp) <;> omega)) | ((with_reducible refine Below.trans ?_ (Below.mono (by assumption) ?_)); rotate_left; focus ((try simp) <;> omega))))).mono ?_; rintro e w2 ⟨rfl, hb2⟩; have hz2 := hb2.size; (try simp at hz2); obtain ⟨hc2, hf2⟩ := blk_at hb2 w.heap.size (by (try simp) <;> omega)))
        | (go_at_call 31; go_must (first | (with_reducible refine (hin1.out _).mono ?_; rintro e w6 ⟨rfl, rfl⟩) | (with_reducible refine (hin2.out _).mono ?_; rintro e w7 ⟨rfl, rfl⟩) | (with_reducible refine (hin3.out _).mono ?_; rintro e w8 ⟨rfl, rfl⟩)))
        | (go_at_call 32; go_must (first | (with_reducible refine (htm1.out _).mono ?_; rintro e w3 ⟨rfl, rfl⟩) | (with_reducible refine (htm2.out _).mono ?_; rintro e w4 ⟨rfl, rfl⟩))))
      go_ret
      exact ⟨ret_int hfin.out.symm, (by repeat (first | (with_reducible exact Below.refl _ _) | (with_reducible refine Below.drew ?_) | (with_reducible refine below_drewN ?_ _) | ((with_reducible refine Below.alloc ?_ ?_ _); rotate_left; focus ((try simp) <;> omega)) | ((with_reducible refine Below.setCell ?_ ?_ _); rotate_left; focus ((try simp) <;> omega)) | ((with_reducible refine Below.trans ?_ (Below.mono (by assumption) ?_)); rotate_left; focus ((try simp) <;> omega))))⟩
    rcases b4 with _ | _
    · go_enter Tryd.func11, Tryd.ntmps11
      go_wp2_with (first
        | (go_at_call 29; go_must (refine (hnm.out _).mono ?_; rintro e w1 ⟨rfl, rfl⟩))
        | (go_at_call 30; go_must (refine (hlb.out _ (by repeat (first | (with_reducible exact Below.refl _ _) | (with_reducible refine Below.drew ?_) | (with_reducible refine below_drewN ?_ _) | ((with_reducible refine Below.alloc ?_ ?_ _); rotate_left; focus ((try simp) <;> omega)) | ((with_reducible refine Below.setCell ?_ ?_ _); rotate_left; focus ((try simp) <;> omega)) | ((with_reducible refine Below.trans ?_ (Below.mono (by assumption) ?_)); rotate_left; focus ((try simp) <;> omega))))).mono ?_; rintro e w2 ⟨rfl, hb2⟩; have hz2 := hb2.size; (try simp at hz2); obtain ⟨hc2, hf2⟩ := blk_at hb2 w.heap.size (by (try simp) <;> omega)))
        | (go_at_call 31; go_must (first | (with_reducible refine (hin1.out _).mono ?_; rintro e w6 ⟨rfl, rfl⟩) | (with_reducible refine (hin2.out _).mono ?_; rintro e w7 ⟨rfl, rfl⟩) | (with_reducible refine (hin3.out _).mono ?_; rintro e w8 ⟨rfl, rfl⟩)))
        | (go_at_call 32; go_must (first | (with_reducible refine (htm1.out _).mono ?_; rintro e w3 ⟨rfl, rfl⟩) | (with_reducible refine (htm2.out _).mono ?_; rintro e w4 ⟨rfl, rfl⟩))))
      go_ret
      exact ⟨ret_int hfin.out.symm, (by repeat (first | (with_reducible exact Below.refl _ _) | (with_reducible refine Below.drew ?_) | (with_reducible refine below_drewN ?_ _) | ((with_reducible refine Below.alloc ?_ ?_ _); rotate_left; focus ((try simp) <;> omega)) | ((with_reducible refine Below.setCell ?_ ?_ _); rotate_left; focus ((try simp) <;> omega)) | ((with_reducible refine Below.trans ?_ (Below.mono (by assumption) ?_)); rotate_left; focus ((try simp) <;> omega))))⟩
    rcases b5 with _ | _
    · go_enter Tryd.func11, Tryd.ntmps11
      go_wp2_with (first
        | (go_at_call 29; go_must (refine (hnm.out _).mono ?_; rintro e w1 ⟨rfl, rfl⟩))
        | (go_at_call 30; go_must (refine (hlb.out _ (by repeat (first | (with_reducible exact Below.refl _ _) | (with_reducible refine Below.drew ?_) | (with_reducible refine below_drewN ?_ _) | ((with_reducible refine Below.alloc ?_ ?_ _); rotate_left; focus ((try simp) <;> omega)) | ((with_reducible refine Below.setCell ?_ ?_ _); rotate_left; focus ((try simp) <;> omega)) | ((with_reducible refine Below.trans ?_ (Below.mono (by assumption) ?_)); rotate_left; focus ((try simp) <;> omega))))).mono ?_; rintro e w2 ⟨rfl, hb2⟩; have hz2 := hb2.size; (try simp at hz2); obtain ⟨hc2, hf2⟩ := blk_at hb2 w.heap.size (by (try simp) <;> omega)))
        | (go_at_call 31; go_must (first | (with_reducible refine (hin1.out _).mono ?_; rintro e w6 ⟨rfl, rfl⟩) | (with_reducible refine (hin2.out _).mono ?_; rintro e w7 ⟨rfl, rfl⟩) | (with_reducible refine (hin3.out _).mono ?_; rintro e w8 ⟨rfl, rfl⟩)))
        | (go_at_call 32; go_must (first | (with_reducible refine (htm1.out _).mono ?_; rintro e w3 ⟨rfl, rfl⟩) | (with_reducible refine (htm2.out _).mono ?_; rintro e w4 ⟨rfl, rfl⟩))))
      go_ret
      exact ⟨ret_int hfin.out.symm, (by repeat (first | (with_reducible exact Below.refl _ _) | (with_reducible refine Below.drew ?_) | (with_reducible refine below_drewN ?_ _) | ((with_reducible refine Below.alloc ?_ ?_ _); rotate_left; focus ((try simp) <;> omega)) | ((with_reducible refine Below.setCell ?_ ?_ _); rotate_left; focus ((try simp) <;> omega)) | ((with_reducible refine Below.trans ?_ (Below.mono (by assumption) ?_)); rotate_left; focus ((try simp) <;> omega))))⟩
    · cases hbb
  rw [Bool.not_eq_false] at hbb
  rw [hbb] at hre
  have h4 := err_4 hnn hll hre
  replace hre := Lib.hid hre
  replace hnn := Lib.hid hnn
  replace hll := Lib.hid hll
  simp only [Bool.and_eq_true] at hbb
  obtain ⟨⟨⟨⟨rfl, rfl⟩, rfl⟩, rfl⟩, rfl⟩ := hbb
  have hrt : Hid (∀ W, Below w.heap.size w W → Rw iE 1 W W.heap.size x.toksA x.toks) := Lib.hid fun W hb => (hx.2.2.2.2.2.below hb (Nat.le_refl _)).more hb.size
  have hn := ho.2.2
  replace hx := Lib.hid hx
  replace ho := Lib.hid ho
  by_cases hpb : x.phase.1 = 2 <;> by_cases htb : x.till.1 = 0
  · have t2 := htm2.out
    rw [htb] at t2
    replace htm2 := Lib.hid t2
    clear t2
    have t3 := hin3.out
    rw [hpb] at t3
    replace hin3 := Lib.hid t3
    clear t3
    rcases hpr : x.pre with _ | _
    · have hfin := Lib.hid (h4.trans (if_pos (till_no (Or.inr ⟨hpb, hpr⟩))))
      clear h4
      rw [← hpr]
      go_enter Tryd.func11, Tryd.ntmps11
      go_wp2_with (first
        | (go_at_call 29; go_must (refine (hnm.out _).mono ?_; rintro e w1 ⟨rfl, rfl⟩))
        | (go_at_call 30; go_must (refine (hlb.out _ (by repeat (first | (with_reducible exact Below.refl _ _) | (with_reducible refine Below.drew ?_) | (with_reducible refine below_drewN ?_ _) | ((with_reducible refine Below.alloc ?_ ?_ _); rotate_left; focus ((try simp) <;> omega)) | ((with_reducible refine Below.setCell ?_ ?_ _); rotate_left; focus ((try simp) <;> omega)) | ((with_reducible refine Below.trans ?_ (Below.mono (by assumption) ?_)); rotate_left; focus ((try simp) <;> omega))))).mono ?_; rintro e w2 ⟨rfl, hb2⟩; have hz2 := hb2.size; (try simp at hz2); obtain ⟨hc2, hf2⟩ := blk_at hb2 w.heap.size (by (try simp) <;> omega)))
        | (go_at_call 31; go_must (first | (with_reducible refine (hin1.out _).mono ?_; rintro e w6 ⟨rfl, rfl⟩) | (with_reducible refine (hin2.out _).mono ?_; rintro e w7 ⟨rfl, rfl⟩) | (with_reducible refine (hin3.out _).mono ?_; rintro e w8 ⟨rfl, rfl⟩)))
        | (go_at_call 32; go_must (first | (with_reducible refine (htm1.out _).mono ?_; rintro e w3 ⟨rfl, rfl⟩) | (with_reducible refine (htm2.out _).mono ?_; rintro e w4 ⟨rfl, rfl⟩))))
      go_ret
      exact ⟨ret_int hfin.out.symm, (by repeat (first | (with_reducible exact Below.refl _ _) | (with_reducible refine Below.drew ?_) | (with_reducible refine below_drewN ?_ _) | ((with_reducible refine Below.alloc ?_ ?_ _); rotate_left; focus ((try simp) <;> omega)) | ((with_reducible refine Below.setCell ?_ ?_ _); rotate_left; focus ((try simp) <;> omega)) | ((with_reducible refine Below.trans ?_ (Below.mono (by assumption) ?_)); rotate_left; focus ((try simp) <;> omega))))⟩
    · have hti := till_yes (x := x) (Or.inl ⟨hpb, hpr⟩)
      rw [hti, if_neg (by decide)] at h4
      replace hti := Lib.hid hti
      rw [← hpr]
      replace h4 := Lib.hid h4
      obtain ⟨TA, hTA⟩ : ∃ TA, x.toksA = TA := ⟨_, rfl⟩
      rw [hTA] at hrt ⊢
      replace hTA := Lib.hid hTA
      go_enter Tryd.func11, Tryd.ntmps11
      go_wp2_with (first
        | (go_at_call 29; go_must (refine (hnm.out _).mono ?_; rintro e w1 ⟨rfl, rfl⟩))
        | (go_at_call 30; go_must (refine (hlb.out _ (by repeat (first | (with_reducible exact Below.refl _ _) | (with_reducible refine Below.drew ?_) | (with_reducible refine below_drewN ?_ _) | ((with_reducible refine Below.alloc ?_ ?_ _); rotate_left; focus ((try simp) <;> omega)) | ((with_reducible refine Below.setCell ?_ ?_ _); rotate_left; focus ((try simp) <;> omega)) | ((with_reducible refine Below.trans ?_ (Below.mono (by assumption) ?_)); rotate_left; focus ((try simp) <;> omega))))).mono ?_; rintro e w2 ⟨rfl, hb2⟩; have hz2 := hb2.size; (try simp at hz2); obtain ⟨hc2, hf2⟩ := blk_at hb2 w.heap.size (by (try simp) <;> omega)))
        | (go_at_call 31; go_must (first | (with_reducible refine (hin1.out _).mono ?_; rintro e w6 ⟨rfl, rfl⟩) | (with_reducible refine (hin2.out _).mono ?_; rintro e w7 ⟨rfl, rfl⟩) | (with_reducible refine (hin3.out _).mono ?_; rintro e w8 ⟨rfl, rfl⟩)))
        | (go_at_call 32; go_must (first | (with_reducible refine (htm1.out _).mono ?_; rintro e w3 ⟨rfl, rfl⟩) | (with_reducible refine (htm2.out _).mono ?_; rintro e w4 ⟨rfl, rfl⟩))))
      go_loopw [4] (fun vi wr => ∃ k : Nat, k ≤ x.toks.length ∧ vi = .int .i64 (k : Int) ∧ (∀ j, j < k → tokB x.toks j = true) ∧ wr.cell? ⟨w.heap.size, 8, none⟩ = some (.slice TA x.toks.length x.toksC) ∧ wr.cell? ⟨w.heap.size, 3, none⟩ = some (.int .i64 x.slots.1) ∧ w.heap.size < wr.heap.size ∧ Below w.heap.size w wr) (fun vi _ => x.toks.length - (intOf vi).toNat)
      case atStart => exact ⟨0, Nat.zero_le _, rfl, fun j h => absurd h (by omega), by go_simp, by go_simp, by (try simp) <;> omega, (by repeat (first | (with_reducible exact Below.refl _ _) | (with_reducible refine Below.drew ?_) | (with_reducible refine below_drewN ?_ _) | ((with_reducible refine Below.alloc ?_ ?_ _); rotate_left; focus ((try simp) <;> omega)) | ((with_reducible refine Below.setCell ?_ ?_ _); rotate_left; focus ((try simp) <;> omega)) | ((with_reducible refine Below.trans ?_ (Below.mono (by assumption) ?_)); rotate_left; focus ((try simp) <;> omega))))⟩
      case round =>
        obtain ⟨k, hk, rfl, hok, p8, p3, hlt, hbw⟩ := hrel
        replace hok := Lib.hid hok
        have g8 := fun d os => cell_regrown p8 d os
        by_cases hkl : k < x.toks.length
        · obtain ⟨y, hy⟩ := get_some hkl
          obtain ⟨g, o, rfl, hg, hc⟩ := (hrt.out _ hbw).int (by omega)
          have q := fun d os => cell_regrown (hc k y hy) d os
          have i0 : (0 : Int) ≤ (k : Int) := by omega
          have i1 : (k : Int) < (x.toks.length : Int) := by omega
          have htk0 : tokB x.toks k = (inB y.1 1 1125899906842624 && (decide (k = 0) || decide (x.toks[k - 1]!.1 < y.1))) := by unfold tokB; rw [get_bang hy]; rfl
          have hin4' : ∀ W, Calls Tryd.prog 31 #[.int .i64 y.1, .int .i64 1, .int .i64 1125899906842624] W fun e w' => e = .returned (.bool (inB y.1 1 1125899906842624)) ∧ Below W.heap.size W w' := fun W => (inside_any _ _ _ W).mono fun _ _ h => ⟨h.1, h.2 ▸ Below.refl _ _⟩
          obtain ⟨b, hb⟩ : ∃ b, inB y.1 1 1125899906842624 = b := ⟨_, rfl⟩
          rw [hb] at htk0 hin4'
          replace hb := Lib.hid hb
          have hin4 := Lib.hid hin4'
          clear hin4'
          rcases b with _ | _
          · have htk : tokB x.toks k = false := by rw [htk0]; rfl
            clear htk0 hc
            replace hy := Lib.hid hy
            have hfin := Lib.hid (h4.out.trans (if_pos (toks_no hkl htk)))
            replace htk := Lib.hid htk
            go_wp2_with fail
            refine wp_region_quiet_below (by kernel_rfl) (by kernel_rfl) ?_
            repeat (go_big_quiet_step ((go_at_call 31; exact Calls.regrown_of (hin4.out _))))
            refine wpQuiet_nil ?_
            intro w9 hw9
            have hb9 := below_of_regrown hw9
            clear hw9
            go_wp2_with fail
            go_ret
            exact ⟨ret_int hfin.out.symm, (by repeat (first | (with_reducible exact Below.refl _ _) | (with_reducible refine Below.drew ?_) | (with_reducible refine below_drewN ?_ _) | ((with_reducible refine Below.alloc ?_ ?_ _); rotate_left; focus ((try simp) <;> omega)) | ((with_reducible refine Below.setCell ?_ ?_ _); rotate_left; focus ((try simp) <;> omega)) | ((with_reducible refine Below.trans ?_ (Below.mono (by assumption) ?_)); rotate_left; focus ((try simp) <;> omega))))⟩
          by_cases hk0 : k = 0
          · have htk : tokB x.toks k = true := by rw [htk0, decide_eq_true hk0]; rfl
            have hkz : ¬ (k : Int) > 0 := by omega
            have hk1 : ¬ 0 < k := by omega
            have hk2 : decide (0 < k) = false := decide_eq_false hk1
            clear htk0 hc
            replace hy := Lib.hid hy
            replace hk0 := Lib.hid hk0
            have hok2 : Hid (∀ j, j < k + 1 → tokB x.toks j = true) := Lib.hid fun j hj => by
              by_cases e : j = k
              · rw [e]; exact htk
              · exact hok.out j (by omega)
            replace htk := Lib.hid htk
            go_wp2_with fail
            refine wp_region_quiet_below (by kernel_rfl) (by kernel_rfl) ?_
            repeat (go_big_quiet_step ((go_at_call 31; exact Calls.regrown_of (hin4.out _))))
            refine wpQuiet_nil ?_
            intro w9 hw9
            have hb9 := below_of_regrown hw9
            clear hw9
            go_wp2_with fail
            go_roundw
            case rel => exact ⟨k + 1, hkl, by go_num, hok2.out, by rw [hb9.cell hlt]; exact p8, by rw [hb9.cell hlt]; exact p3, by have := hb9.size; omega, (by repeat (first | (with_reducible exact Below.refl _ _) | (with_reducible refine Below.drew ?_) | (with_reducible refine below_drewN ?_ _) | ((with_reducible refine Below.alloc ?_ ?_ _); rotate_left; focus ((try simp) <;> omega)) | ((with_reducible refine Below.setCell ?_ ?_ _); rotate_left; focus ((try simp) <;> omega)) | ((with_reducible refine Below.trans ?_ (Below.mono (by assumption) ?_)); rotate_left; focus ((try simp) <;> omega))))⟩
            case measure => simp [intOf]; omega
          · obtain ⟨m, hm⟩ : ∃ m, m + 1 = k := ⟨k - 1, by omega⟩
            obtain ⟨z, hz⟩ := get_some (show m < x.toks.length by omega)
            have q1 := fun d os => cell_regrown (hc m z hz) d os
            have m0 : (0 : Int) ≤ (m : Int) := by omega
            have m1 : (m : Int) < (x.toks.length : Int) := by omega
            have hkz : (k : Int) > 0 := by omega
            have hk1 : 0 < k := by omega
            have hk2 : decide (0 < k) = true := decide_eq_true hk1
            have hw : IntKind.i64.wrap ((k : Int) - 1) = (m : Int) := by
              rw [show (k : Int) - 1 = (m : Int) by omega]; exact IntWalk.i64_in _ (by omega)
            rw [decide_eq_false hk0, show k - 1 = m by omega, get_bang hz] at htk0
            clear hc
            replace hy := Lib.hid hy
            replace hz := Lib.hid hz
            replace hm := Lib.hid hm
            replace hk0 := Lib.hid hk0
            by_cases h3 : z.1 < y.1
            · have htk : tokB x.toks k = true := by rw [htk0, decide_eq_true h3]; rfl
              have h5 : ¬ z.1 ≥ y.1 := by omega
              clear htk0
              have hok2 : Hid (∀ j, j < k + 1 → tokB x.toks j = true) := Lib.hid fun j hj => by
                by_cases e : j = k
                · rw [e]; exact htk
                · exact hok.out j (by omega)
              replace htk := Lib.hid htk
              go_wp2_with fail
              refine wp_region_quiet_below (by kernel_rfl) (by kernel_rfl) ?_
              repeat (go_big_quiet_step ((go_at_call 31; exact Calls.regrown_of (hin4.out _))))
              refine wpQuiet_nil ?_
              intro w9 hw9
              have hb9 := below_of_regrown hw9
              clear hw9
              go_wp2_with fail
              go_roundw
              case rel => exact ⟨k + 1, hkl, by go_num, hok2.out, by rw [hb9.cell hlt]; exact p8, by rw [hb9.cell hlt]; exact p3, by have := hb9.size; omega, (by repeat (first | (with_reducible exact Below.refl _ _) | (with_reducible refine Below.drew ?_) | (with_reducible refine below_drewN ?_ _) | ((with_reducible refine Below.alloc ?_ ?_ _); rotate_left; focus ((try simp) <;> omega)) | ((with_reducible refine Below.setCell ?_ ?_ _); rotate_left; focus ((try simp) <;> omega)) | ((with_reducible refine Below.trans ?_ (Below.mono (by assumption) ?_)); rotate_left; focus ((try simp) <;> omega))))⟩
              case measure => simp [intOf]; omega
            · have htk : tokB x.toks k = false := by rw [htk0, decide_eq_false h3]; rfl
              have h5 : z.1 ≥ y.1 := by omega
              clear htk0
              have hfin := Lib.hid (h4.out.trans (if_pos (toks_no hkl htk)))
              replace htk := Lib.hid htk
              go_wp2_with fail
              refine wp_region_quiet_below (by kernel_rfl) (by kernel_rfl) ?_
              repeat (go_big_quiet_step ((go_at_call 31; exact Calls.regrown_of (hin4.out _))))
              refine wpQuiet_nil ?_
              intro w9 hw9
              have hb9 := below_of_regrown hw9
              clear hw9
              go_wp2_with fail
              go_ret
              exact ⟨ret_int hfin.out.symm, (by repeat (first | (with_reducible exact Below.refl _ _) | (with_reducible refine Below.drew ?_) | (with_reducible refine below_drewN ?_ _) | ((with_reducible refine Below.alloc ?_ ?_ _); rotate_left; focus ((try simp) <;> omega)) | ((with_reducible refine Below.setCell ?_ ?_ _); rotate_left; focus ((try simp) <;> omega)) | ((with_reducible refine Below.trans ?_ (Below.mono (by assumption) ?_)); rotate_left; focus ((try simp) <;> omega))))⟩
        · have i1 : ¬ (k : Int) < (x.toks.length : Int) := by omega
          have htt := toks_yes fun j hj => hok.out j (show j < k by omega)
          have h6 := h4.out
          rw [htt, if_neg (by decide)] at h6
          replace htt := Lib.hid htt
          by_cases hsl : x.slots.1 < (x.toks.length : Int)
          · have hfin := Lib.hid (h6.trans (if_pos hsl))
            have hsg : (x.toks.length : Int) > x.slots.1 := hsl
            clear h6
            go_wp2_with fail
            go_ret
            exact ⟨ret_int hfin.out.symm, (by repeat (first | (with_reducible exact Below.refl _ _) | (with_reducible refine Below.drew ?_) | (with_reducible refine below_drewN ?_ _) | ((with_reducible refine Below.alloc ?_ ?_ _); rotate_left; focus ((try simp) <;> omega)) | ((with_reducible refine Below.setCell ?_ ?_ _); rotate_left; focus ((try simp) <;> omega)) | ((with_reducible refine Below.trans ?_ (Below.mono (by assumption) ?_)); rotate_left; focus ((try simp) <;> omega))))⟩
          · have hfin := Lib.hid (h6.trans (if_neg hsl))
            have hsg : ¬ (x.toks.length : Int) > x.slots.1 := hsl
            clear h6
            go_wp2_with fail
            go_ret
            exact ⟨ret_int hfin.out.symm, (by repeat (first | (with_reducible exact Below.refl _ _) | (with_reducible refine Below.drew ?_) | (with_reducible refine below_drewN ?_ _) | ((with_reducible refine Below.alloc ?_ ?_ _); rotate_left; focus ((try simp) <;> omega)) | ((with_reducible refine Below.setCell ?_ ?_ _); rotate_left; focus ((try simp) <;> omega)) | ((with_reducible refine Below.trans ?_ (Below.mono (by assumption) ?_)); rotate_left; focus ((try simp) <;> omega))))⟩
  · have t3 := hin3.out
    rw [hpb] at t3
    replace hin3 := Lib.hid t3
    clear t3
    rcases hpr : x.pre with _ | _
    · have hfin := Lib.hid (h4.trans (if_pos (till_no (Or.inr ⟨hpb, hpr⟩))))
      clear h4
      rw [← hpr]
      go_enter Tryd.func11, Tryd.ntmps11
      go_wp2_with (first
        | (go_at_call 29; go_must (refine (hnm.out _).mono ?_; rintro e w1 ⟨rfl, rfl⟩))
        | (go_at_call 30; go_must (refine (hlb.out _ (by repeat (first | (with_reducible exact Below.refl _ _) | (with_reducible refine Below.drew ?_) | (with_reducible refine below_drewN ?_ _) | ((with_reducible refine Below.alloc ?_ ?_ _); rotate_left; focus ((try simp) <;> omega)) | ((with_reducible refine Below.setCell ?_ ?_ _); rotate_left; focus ((try simp) <;> omega)) | ((with_reducible refine Below.trans ?_ (Below.mono (by assumption) ?_)); rotate_left; focus ((try simp) <;> omega))))).mono ?_; rintro e w2 ⟨rfl, hb2⟩; have hz2 := hb2.size; (try simp at hz2); obtain ⟨hc2, hf2⟩ := blk_at hb2 w.heap.size (by (try simp) <;> omega)))
        | (go_at_call 31; go_must (first | (with_reducible refine (hin1.out _).mono ?_; rintro e w6 ⟨rfl, rfl⟩) | (with_reducible refine (hin2.out _).mono ?_; rintro e w7 ⟨rfl, rfl⟩) | (with_reducible refine (hin3.out _).mono ?_; rintro e w8 ⟨rfl, rfl⟩)))
        | (go_at_call 32; go_must (first | (with_reducible refine (htm1.out _).mono ?_; rintro e w3 ⟨rfl, rfl⟩) | (with_reducible refine (htm2.out _).mono ?_; rintro e w4 ⟨rfl, rfl⟩))))
      go_ret
      exact ⟨ret_int hfin.out.symm, (by repeat (first | (with_reducible exact Below.refl _ _) | (with_reducible refine Below.drew ?_) | (with_reducible refine below_drewN ?_ _) | ((with_reducible refine Below.alloc ?_ ?_ _); rotate_left; focus ((try simp) <;> omega)) | ((with_reducible refine Below.setCell ?_ ?_ _); rotate_left; focus ((try simp) <;> omega)) | ((with_reducible refine Below.trans ?_ (Below.mono (by assumption) ?_)); rotate_left; focus ((try simp) <;> omega))))⟩
    · have hti := till_yes (x := x) (Or.inl ⟨hpb, hpr⟩)
      rw [hti, if_neg (by decide)] at h4
      replace hti := Lib.hid hti
      rw [← hpr]
      replace h4 := Lib.hid h4
      obtain ⟨TA, hTA⟩ : ∃ TA, x.toksA = TA := ⟨_, rfl⟩
      rw [hTA] at hrt ⊢
      replace hTA := Lib.hid hTA
      go_enter Tryd.func11, Tryd.ntmps11
      go_wp2_with (first
        | (go_at_call 29; go_must (refine (hnm.out _).mono ?_; rintro e w1 ⟨rfl, rfl⟩))
        | (go_at_call 30; go_must (refine (hlb.out _ (by repeat (first | (with_reducible exact Below.refl _ _) | (with_reducible refine Below.drew ?_) | (with_reducible refine below_drewN ?_ _) | ((with_reducible refine Below.alloc ?_ ?_ _); rotate_left; focus ((try simp) <;> omega)) | ((with_reducible refine Below.setCell ?_ ?_ _); rotate_left; focus ((try simp) <;> omega)) | ((with_reducible refine Below.trans ?_ (Below.mono (by assumption) ?_)); rotate_left; focus ((try simp) <;> omega))))).mono ?_; rintro e w2 ⟨rfl, hb2⟩; have hz2 := hb2.size; (try simp at hz2); obtain ⟨hc2, hf2⟩ := blk_at hb2 w.heap.size (by (try simp) <;> omega)))
        | (go_at_call 31; go_must (first | (with_reducible refine (hin1.out _).mono ?_; rintro e w6 ⟨rfl, rfl⟩) | (with_reducible refine (hin2.out _).mono ?_; rintro e w7 ⟨rfl, rfl⟩) | (with_reducible refine (hin3.out _).mono ?_; rintro e w8 ⟨rfl, rfl⟩)))
        | (go_at_call 32; go_must (first | (with_reducible refine (htm1.out _).mono ?_; rintro e w3 ⟨rfl, rfl⟩) | (with_reducible refine (htm2.out _).mono ?_; rintro e w4 ⟨rfl, rfl⟩))))
      go_loopw [4] (fun vi wr => ∃ k : Nat, k ≤ x.toks.length ∧ vi = .int .i64 (k : Int) ∧ (∀ j, j < k → tokB x.toks j = true) ∧ wr.cell? ⟨w.heap.size, 8, none⟩ = some (.slice TA x.toks.length x.toksC) ∧ wr.cell? ⟨w.heap.size, 3, none⟩ = some (.int .i64 x.slots.1) ∧ w.heap.size < wr.heap.size ∧ Below w.heap.size w wr) (fun vi _ => x.toks.length - (intOf vi).toNat)
      case atStart => exact ⟨0, Nat.zero_le _, rfl, fun j h => absurd h (by omega), by go_simp, by go_simp, by (try simp) <;> omega, (by repeat (first | (with_reducible exact Below.refl _ _) | (with_reducible refine Below.drew ?_) | (with_reducible refine below_drewN ?_ _) | ((with_reducible refine Below.alloc ?_ ?_ _); rotate_left; focus ((try simp) <;> omega)) | ((with_reducible refine Below.setCell ?_ ?_ _); rotate_left; focus ((try simp) <;> omega)) | ((with_reducible refine Below.trans ?_ (Below.mono (by assumption) ?_)); rotate_left; focus ((try simp) <;> omega))))⟩
      case round =>
        obtain ⟨k, hk, rfl, hok, p8, p3, hlt, hbw⟩ := hrel
        replace hok := Lib.hid hok
        have g8 := fun d os => cell_regrown p8 d os
        by_cases hkl : k < x.toks.length
        · obtain ⟨y, hy⟩ := get_some hkl
          obtain ⟨g, o, rfl, hg, hc⟩ := (hrt.out _ hbw).int (by omega)
          have q := fun d os => cell_regrown (hc k y hy) d os
          have i0 : (0 : Int) ≤ (k : Int) := by omega
          have i1 : (k : Int) < (x.toks.length : Int) := by omega
          have htk0 : tokB x.toks k = (inB y.1 1 1125899906842624 && (decide (k = 0) || decide (x.toks[k - 1]!.1 < y.1))) := by unfold tokB; rw [get_bang hy]; rfl
          have hin4' : ∀ W, Calls Tryd.prog 31 #[.int .i64 y.1, .int .i64 1, .int .i64 1125899906842624] W fun e w' => e = .returned (.bool (inB y.1 1 1125899906842624)) ∧ Below W.heap.size W w' := fun W => (inside_any _ _ _ W).mono fun _ _ h => ⟨h.1, h.2 ▸ Below.refl _ _⟩
          obtain ⟨b, hb⟩ : ∃ b, inB y.1 1 1125899906842624 = b := ⟨_, rfl⟩
          rw [hb] at htk0 hin4'
          replace hb := Lib.hid hb
          have hin4 := Lib.hid hin4'
          clear hin4'
          rcases b with _ | _
          · have htk : tokB x.toks k = false := by rw [htk0]; rfl
            clear htk0 hc
            replace hy := Lib.hid hy
            have hfin := Lib.hid (h4.out.trans (if_pos (toks_no hkl htk)))
            replace htk := Lib.hid htk
            go_wp2_with fail
            refine wp_region_quiet_below (by kernel_rfl) (by kernel_rfl) ?_
            repeat (go_big_quiet_step ((go_at_call 31; exact Calls.regrown_of (hin4.out _))))
            refine wpQuiet_nil ?_
            intro w9 hw9
            have hb9 := below_of_regrown hw9
            clear hw9
            go_wp2_with fail
            go_ret
            exact ⟨ret_int hfin.out.symm, (by repeat (first | (with_reducible exact Below.refl _ _) | (with_reducible refine Below.drew ?_) | (with_reducible refine below_drewN ?_ _) | ((with_reducible refine Below.alloc ?_ ?_ _); rotate_left; focus ((try simp) <;> omega)) | ((with_reducible refine Below.setCell ?_ ?_ _); rotate_left; focus ((try simp) <;> omega)) | ((with_reducible refine Below.trans ?_ (Below.mono (by assumption) ?_)); rotate_left; focus ((try simp) <;> omega))))⟩
          by_cases hk0 : k = 0
          · have htk : tokB x.toks k = true := by rw [htk0, decide_eq_true hk0]; rfl
            have hkz : ¬ (k : Int) > 0 := by omega
            have hk1 : ¬ 0 < k := by omega
            have hk2 : decide (0 < k) = false := decide_eq_false hk1
            clear htk0 hc
            replace hy := Lib.hid hy
            replace hk0 := Lib.hid hk0
            have hok2 : Hid (∀ j, j < k + 1 → tokB x.toks j = true) := Lib.hid fun j hj => by
              by_cases e : j = k
              · rw [e]; exact htk
              · exact hok.out j (by omega)
            replace htk := Lib.hid htk
            go_wp2_with fail
            refine wp_region_quiet_below (by kernel_rfl) (by kernel_rfl) ?_
            repeat (go_big_quiet_step ((go_at_call 31; exact Calls.regrown_of (hin4.out _))))
            refine wpQuiet_nil ?_
            intro w9 hw9
            have hb9 := below_of_regrown hw9
            clear hw9
            go_wp2_with fail
            go_roundw
            case rel => exact ⟨k + 1, hkl, by go_num, hok2.out, by rw [hb9.cell hlt]; exact p8, by rw [hb9.cell hlt]; exact p3, by have := hb9.size; omega, (by repeat (first | (with_reducible exact Below.refl _ _) | (with_reducible refine Below.drew ?_) | (with_reducible refine below_drewN ?_ _) | ((with_reducible refine Below.alloc ?_ ?_ _); rotate_left; focus ((try simp) <;> omega)) | ((with_reducible refine Below.setCell ?_ ?_ _); rotate_left; focus ((try simp) <;> omega)) | ((with_reducible refine Below.trans ?_ (Below.mono (by assumption) ?_)); rotate_left; focus ((try simp) <;> omega))))⟩
            case measure => simp [intOf]; omega
          · obtain ⟨m, hm⟩ : ∃ m, m + 1 = k := ⟨k - 1, by omega⟩
            obtain ⟨z, hz⟩ := get_some (show m < x.toks.length by omega)
            have q1 := fun d os => cell_regrown (hc m z hz) d os
            have m0 : (0 : Int) ≤ (m : Int) := by omega
            have m1 : (m : Int) < (x.toks.length : Int) := by omega
            have hkz : (k : Int) > 0 := by omega
            have hk1 : 0 < k := by omega
            have hk2 : decide (0 < k) = true := decide_eq_true hk1
            have hw : IntKind.i64.wrap ((k : Int) - 1) = (m : Int) := by
              rw [show (k : Int) - 1 = (m : Int) by omega]; exact IntWalk.i64_in _ (by omega)
            rw [decide_eq_false hk0, show k - 1 = m by omega, get_bang hz] at htk0
            clear hc
            replace hy := Lib.hid hy
            replace hz := Lib.hid hz
            replace hm := Lib.hid hm
            replace hk0 := Lib.hid hk0
            by_cases h3 : z.1 < y.1
            · have htk : tokB x.toks k = true := by rw [htk0, decide_eq_true h3]; rfl
              have h5 : ¬ z.1 ≥ y.1 := by omega
              clear htk0
              have hok2 : Hid (∀ j, j < k + 1 → tokB x.toks j = true) := Lib.hid fun j hj => by
                by_cases e : j = k
                · rw [e]; exact htk
                · exact hok.out j (by omega)
              replace htk := Lib.hid htk
              go_wp2_with fail
              refine wp_region_quiet_below (by kernel_rfl) (by kernel_rfl) ?_
              repeat (go_big_quiet_step ((go_at_call 31; exact Calls.regrown_of (hin4.out _))))
              refine wpQuiet_nil ?_
              intro w9 hw9
              have hb9 := below_of_regrown hw9
              clear hw9
              go_wp2_with fail
              go_roundw
              case rel => exact ⟨k + 1, hkl, by go_num, hok2.out, by rw [hb9.cell hlt]; exact p8, by rw [hb9.cell hlt]; exact p3, by have := hb9.size; omega, (by repeat (first | (with_reducible exact Below.refl _ _) | (with_reducible refine Below.drew ?_) | (with_reducible refine below_drewN ?_ _) | ((with_reducible refine Below.alloc ?_ ?_ _); rotate_left; focus ((try simp) <;> omega)) | ((with_reducible refine Below.setCell ?_ ?_ _); rotate_left; focus ((try simp) <;> omega)) | ((with_reducible refine Below.trans ?_ (Below.mono (by assumption) ?_)); rotate_left; focus ((try simp) <;> omega))))⟩
              case measure => simp [intOf]; omega
            · have htk : tokB x.toks k = false := by rw [htk0, decide_eq_false h3]; rfl
              have h5 : z.1 ≥ y.1 := by omega
              clear htk0
              have hfin := Lib.hid (h4.out.trans (if_pos (toks_no hkl htk)))
              replace htk := Lib.hid htk
              go_wp2_with fail
              refine wp_region_quiet_below (by kernel_rfl) (by kernel_rfl) ?_
              repeat (go_big_quiet_step ((go_at_call 31; exact Calls.regrown_of (hin4.out _))))
              refine wpQuiet_nil ?_
              intro w9 hw9
              have hb9 := below_of_regrown hw9
              clear hw9
              go_wp2_with fail
              go_ret
              exact ⟨ret_int hfin.out.symm, (by repeat (first | (with_reducible exact Below.refl _ _) | (with_reducible refine Below.drew ?_) | (with_reducible refine below_drewN ?_ _) | ((with_reducible refine Below.alloc ?_ ?_ _); rotate_left; focus ((try simp) <;> omega)) | ((with_reducible refine Below.setCell ?_ ?_ _); rotate_left; focus ((try simp) <;> omega)) | ((with_reducible refine Below.trans ?_ (Below.mono (by assumption) ?_)); rotate_left; focus ((try simp) <;> omega))))⟩
        · have i1 : ¬ (k : Int) < (x.toks.length : Int) := by omega
          have htt := toks_yes fun j hj => hok.out j (show j < k by omega)
          have h6 := h4.out
          rw [htt, if_neg (by decide)] at h6
          replace htt := Lib.hid htt
          by_cases hsl : x.slots.1 < (x.toks.length : Int)
          · have hfin := Lib.hid (h6.trans (if_pos hsl))
            have hsg : (x.toks.length : Int) > x.slots.1 := hsl
            clear h6
            go_wp2_with fail
            go_ret
            exact ⟨ret_int hfin.out.symm, (by repeat (first | (with_reducible exact Below.refl _ _) | (with_reducible refine Below.drew ?_) | (with_reducible refine below_drewN ?_ _) | ((with_reducible refine Below.alloc ?_ ?_ _); rotate_left; focus ((try simp) <;> omega)) | ((with_reducible refine Below.setCell ?_ ?_ _); rotate_left; focus ((try simp) <;> omega)) | ((with_reducible refine Below.trans ?_ (Below.mono (by assumption) ?_)); rotate_left; focus ((try simp) <;> omega))))⟩
          · have hfin := Lib.hid (h6.trans (if_neg hsl))
            have hsg : ¬ (x.toks.length : Int) > x.slots.1 := hsl
            clear h6
            go_wp2_with fail
            go_ret
            exact ⟨ret_int hfin.out.symm, (by repeat (first | (with_reducible exact Below.refl _ _) | (with_reducible refine Below.drew ?_) | (with_reducible refine below_drewN ?_ _) | ((with_reducible refine Below.alloc ?_ ?_ _); rotate_left; focus ((try simp) <;> omega)) | ((with_reducible refine Below.setCell ?_ ?_ _); rotate_left; focus ((try simp) <;> omega)) | ((with_reducible refine Below.trans ?_ (Below.mono (by assumption) ?_)); rotate_left; focus ((try simp) <;> omega))))⟩
  · have t2 := htm2.out
    rw [htb] at t2
    replace htm2 := Lib.hid t2
    clear t2
    have hti := till_yes (x := x) (Or.inr ⟨hpb, htb⟩)
    rw [hti, if_neg (by decide)] at h4
    replace hti := Lib.hid hti
    replace h4 := Lib.hid h4
    obtain ⟨TA, hTA⟩ : ∃ TA, x.toksA = TA := ⟨_, rfl⟩
    rw [hTA] at hrt ⊢
    replace hTA := Lib.hid hTA
    go_enter Tryd.func11, Tryd.ntmps11
    go_wp2_with (first
      | (go_at_call 29; go_must (refine (hnm.out _).mono ?_; rintro e w1 ⟨rfl, rfl⟩))
      | (go_at_call 30; go_must (refine (hlb.out _ (by repeat (first | (with_reducible exact Below.refl _ _) | (with_reducible refine Below.drew ?_) | (with_reducible refine below_drewN ?_ _) | ((with_reducible refine Below.alloc ?_ ?_ _); rotate_left; focus ((try simp) <;> omega)) | ((with_reducible refine Below.setCell ?_ ?_ _); rotate_left; focus ((try simp) <;> omega)) | ((with_reducible refine Below.trans ?_ (Below.mono (by assumption) ?_)); rotate_left; focus ((try simp) <;> omega))))).mono ?_; rintro e w2 ⟨rfl, hb2⟩; have hz2 := hb2.size; (try simp at hz2); obtain ⟨hc2, hf2⟩ := blk_at hb2 w.heap.size (by (try simp) <;> omega)))
      | (go_at_call 31; go_must (first | (with_reducible refine (hin1.out _).mono ?_; rintro e w6 ⟨rfl, rfl⟩) | (with_reducible refine (hin2.out _).mono ?_; rintro e w7 ⟨rfl, rfl⟩) | (with_reducible refine (hin3.out _).mono ?_; rintro e w8 ⟨rfl, rfl⟩)))
      | (go_at_call 32; go_must (first | (with_reducible refine (htm1.out _).mono ?_; rintro e w3 ⟨rfl, rfl⟩) | (with_reducible refine (htm2.out _).mono ?_; rintro e w4 ⟨rfl, rfl⟩))))
    go_loopw [4] (fun vi wr => ∃ k : Nat, k ≤ x.toks.length ∧ vi = .int .i64 (k : Int) ∧ (∀ j, j < k → tokB x.toks j = true) ∧ wr.cell? ⟨w.heap.size, 8, none⟩ = some (.slice TA x.toks.length x.toksC) ∧ wr.cell? ⟨w.heap.size, 3, none⟩ = some (.int .i64 x.slots.1) ∧ w.heap.size < wr.heap.size ∧ Below w.heap.size w wr) (fun vi _ => x.toks.length - (intOf vi).toNat)
    case atStart => exact ⟨0, Nat.zero_le _, rfl, fun j h => absurd h (by omega), by go_simp, by go_simp, by (try simp) <;> omega, (by repeat (first | (with_reducible exact Below.refl _ _) | (with_reducible refine Below.drew ?_) | (with_reducible refine below_drewN ?_ _) | ((with_reducible refine Below.alloc ?_ ?_ _); rotate_left; focus ((try simp) <;> omega)) | ((with_reducible refine Below.setCell ?_ ?_ _); rotate_left; focus ((try simp) <;> omega)) | ((with_reducible refine Below.trans ?_ (Below.mono (by assumption) ?_)); rotate_left; focus ((try simp) <;> omega))))⟩
    case round =>
      obtain ⟨k, hk, rfl, hok, p8, p3, hlt, hbw⟩ := hrel
      replace hok := Lib.hid hok
      have g8 := fun d os => cell_regrown p8 d os
      by_cases hkl : k < x.toks.length
      · obtain ⟨y, hy⟩ := get_some hkl
        obtain ⟨g, o, rfl, hg, hc⟩ := (hrt.out _ hbw).int (by omega)
        have q := fun d os => cell_regrown (hc k y hy) d os
        have i0 : (0 : Int) ≤ (k : Int) := by omega
        have i1 : (k : Int) < (x.toks.length : Int) := by omega
        have htk0 : tokB x.toks k = (inB y.1 1 1125899906842624 && (decide (k = 0) || decide (x.toks[k - 1]!.1 < y.1))) := by unfold tokB; rw [get_bang hy]; rfl
        have hin4' : ∀ W, Calls Tryd.prog 31 #[.int .i64 y.1, .int .i64 1, .int .i64 1125899906842624] W fun e w' => e = .returned (.bool (inB y.1 1 1125899906842624)) ∧ Below W.heap.size W w' := fun W => (inside_any _ _ _ W).mono fun _ _ h => ⟨h.1, h.2 ▸ Below.refl _ _⟩
        obtain ⟨b, hb⟩ : ∃ b, inB y.1 1 1125899906842624 = b := ⟨_, rfl⟩
        rw [hb] at htk0 hin4'
        replace hb := Lib.hid hb
        have hin4 := Lib.hid hin4'
        clear hin4'
        rcases b with _ | _
        · have htk : tokB x.toks k = false := by rw [htk0]; rfl
          clear htk0 hc
          replace hy := Lib.hid hy
          have hfin := Lib.hid (h4.out.trans (if_pos (toks_no hkl htk)))
          replace htk := Lib.hid htk
          go_wp2_with fail
          refine wp_region_quiet_below (by kernel_rfl) (by kernel_rfl) ?_
          repeat (go_big_quiet_step ((go_at_call 31; exact Calls.regrown_of (hin4.out _))))
          refine wpQuiet_nil ?_
          intro w9 hw9
          have hb9 := below_of_regrown hw9
          clear hw9
          go_wp2_with fail
          go_ret
          exact ⟨ret_int hfin.out.symm, (by repeat (first | (with_reducible exact Below.refl _ _) | (with_reducible refine Below.drew ?_) | (with_reducible refine below_drewN ?_ _) | ((with_reducible refine Below.alloc ?_ ?_ _); rotate_left; focus ((try simp) <;> omega)) | ((with_reducible refine Below.setCell ?_ ?_ _); rotate_left; focus ((try simp) <;> omega)) | ((with_reducible refine Below.trans ?_ (Below.mono (by assumption) ?_)); rotate_left; focus ((try simp) <;> omega))))⟩
        by_cases hk0 : k = 0
        · have htk : tokB x.toks k = true := by rw [htk0, decide_eq_true hk0]; rfl
          have hkz : ¬ (k : Int) > 0 := by omega
          have hk1 : ¬ 0 < k := by omega
          have hk2 : decide (0 < k) = false := decide_eq_false hk1
          clear htk0 hc
          replace hy := Lib.hid hy
          replace hk0 := Lib.hid hk0
          have hok2 : Hid (∀ j, j < k + 1 → tokB x.toks j = true) := Lib.hid fun j hj => by
            by_cases e : j = k
            · rw [e]; exact htk
            · exact hok.out j (by omega)
          replace htk := Lib.hid htk
          go_wp2_with fail
          refine wp_region_quiet_below (by kernel_rfl) (by kernel_rfl) ?_
          repeat (go_big_quiet_step ((go_at_call 31; exact Calls.regrown_of (hin4.out _))))
          refine wpQuiet_nil ?_
          intro w9 hw9
          have hb9 := below_of_regrown hw9
          clear hw9
          go_wp2_with fail
          go_roundw
          case rel => exact ⟨k + 1, hkl, by go_num, hok2.out, by rw [hb9.cell hlt]; exact p8, by rw [hb9.cell hlt]; exact p3, by have := hb9.size; omega, (by repeat (first | (with_reducible exact Below.refl _ _) | (with_reducible refine Below.drew ?_) | (with_reducible refine below_drewN ?_ _) | ((with_reducible refine Below.alloc ?_ ?_ _); rotate_left; focus ((try simp) <;> omega)) | ((with_reducible refine Below.setCell ?_ ?_ _); rotate_left; focus ((try simp) <;> omega)) | ((with_reducible refine Below.trans ?_ (Below.mono (by assumption) ?_)); rotate_left; focus ((try simp) <;> omega))))⟩
          case measure => simp [intOf]; omega
        · obtain ⟨m, hm⟩ : ∃ m, m + 1 = k := ⟨k - 1, by omega⟩
          obtain ⟨z, hz⟩ := get_some (show m < x.toks.length by omega)
          have q1 := fun d os => cell_regrown (hc m z hz) d os
          have m0 : (0 : Int) ≤ (m : Int) := by omega
          have m1 : (m : Int) < (x.toks.length : Int) := by omega
          have hkz : (k : Int) > 0 := by omega
          have hk1 : 0 < k := by omega
          have hk2 : decide (0 < k) = true := decide_eq_true hk1
          have hw : IntKind.i64.wrap ((k : Int) - 1) = (m : Int) := by
            rw [show (k : Int) - 1 = (m : Int) by omega]; exact IntWalk.i64_in _ (by omega)
          rw [decide_eq_false hk0, show k - 1 = m by omega, get_bang hz] at htk0
          clear hc
          replace hy := Lib.hid hy
          replace hz := Lib.hid hz
          replace hm := Lib.hid hm
          replace hk0 := Lib.hid hk0
          by_cases h3 : z.1 < y.1
          · have htk : tokB x.toks k = true := by rw [htk0, decide_eq_true h3]; rfl
            have h5 : ¬ z.1 ≥ y.1 := by omega
            clear htk0
            have hok2 : Hid (∀ j, j < k + 1 → tokB x.toks j = true) := Lib.hid fun j hj => by
              by_cases e : j = k
              · rw [e]; exact htk
              · exact hok.out j (by omega)
            replace htk := Lib.hid htk
            go_wp2_with fail
            refine wp_region_quiet_below (by kernel_rfl) (by kernel_rfl) ?_
            repeat (go_big_quiet_step ((go_at_call 31; exact Calls.regrown_of (hin4.out _))))
            refine wpQuiet_nil ?_
            intro w9 hw9
            have hb9 := below_of_regrown hw9
            clear hw9
            go_wp2_with fail
            go_roundw
            case rel => exact ⟨k + 1, hkl, by go_num, hok2.out, by rw [hb9.cell hlt]; exact p8, by rw [hb9.cell hlt]; exact p3, by have := hb9.size; omega, (by repeat (first | (with_reducible exact Below.refl _ _) | (with_reducible refine Below.drew ?_) | (with_reducible refine below_drewN ?_ _) | ((with_reducible refine Below.alloc ?_ ?_ _); rotate_left; focus ((try simp) <;> omega)) | ((with_reducible refine Below.setCell ?_ ?_ _); rotate_left; focus ((try simp) <;> omega)) | ((with_reducible refine Below.trans ?_ (Below.mono (by assumption) ?_)); rotate_left; focus ((try simp) <;> omega))))⟩
            case measure => simp [intOf]; omega
          · have htk : tokB x.toks k = false := by rw [htk0, decide_eq_false h3]; rfl
            have h5 : z.1 ≥ y.1 := by omega
            clear htk0
            have hfin := Lib.hid (h4.out.trans (if_pos (toks_no hkl htk)))
            replace htk := Lib.hid htk
            go_wp2_with fail
            refine wp_region_quiet_below (by kernel_rfl) (by kernel_rfl) ?_
            repeat (go_big_quiet_step ((go_at_call 31; exact Calls.regrown_of (hin4.out _))))
            refine wpQuiet_nil ?_
            intro w9 hw9
            have hb9 := below_of_regrown hw9
            clear hw9
            go_wp2_with fail
            go_ret
            exact ⟨ret_int hfin.out.symm, (by repeat (first | (with_reducible exact Below.refl _ _) | (with_reducible refine Below.drew ?_) | (with_reducible refine below_drewN ?_ _) | ((with_reducible refine Below.alloc ?_ ?_ _); rotate_left; focus ((try simp) <;> omega)) | ((with_reducible refine Below.setCell ?_ ?_ _); rotate_left; focus ((try simp) <;> omega)) | ((with_reducible refine Below.trans ?_ (Below.mono (by assumption) ?_)); rotate_left; focus ((try simp) <;> omega))))⟩
      · have i1 : ¬ (k : Int) < (x.toks.length : Int) := by omega
        have htt := toks_yes fun j hj => hok.out j (show j < k by omega)
        have h6 := h4.out
        rw [htt, if_neg (by decide)] at h6
        replace htt := Lib.hid htt
        by_cases hsl : x.slots.1 < (x.toks.length : Int)
        · have hfin := Lib.hid (h6.trans (if_pos hsl))
          have hsg : (x.toks.length : Int) > x.slots.1 := hsl
          clear h6
          go_wp2_with fail
          go_ret
          exact ⟨ret_int hfin.out.symm, (by repeat (first | (with_reducible exact Below.refl _ _) | (with_reducible refine Below.drew ?_) | (with_reducible refine below_drewN ?_ _) | ((with_reducible refine Below.alloc ?_ ?_ _); rotate_left; focus ((try simp) <;> omega)) | ((with_reducible refine Below.setCell ?_ ?_ _); rotate_left; focus ((try simp) <;> omega)) | ((with_reducible refine Below.trans ?_ (Below.mono (by assumption) ?_)); rotate_left; focus ((try simp) <;> omega))))⟩
        · have hfin := Lib.hid (h6.trans (if_neg hsl))
          have hsg : ¬ (x.toks.length : Int) > x.slots.1 := hsl
          clear h6
          go_wp2_with fail
          go_ret
          exact ⟨ret_int hfin.out.symm, (by repeat (first | (with_reducible exact Below.refl _ _) | (with_reducible refine Below.drew ?_) | (with_reducible refine below_drewN ?_ _) | ((with_reducible refine Below.alloc ?_ ?_ _); rotate_left; focus ((try simp) <;> omega)) | ((with_reducible refine Below.setCell ?_ ?_ _); rotate_left; focus ((try simp) <;> omega)) | ((with_reducible refine Below.trans ?_ (Below.mono (by assumption) ?_)); rotate_left; focus ((try simp) <;> omega))))⟩
  · have hfin := Lib.hid (h4.trans (if_pos (till_no (Or.inl ⟨htb, hpb⟩))))
    clear h4
    go_enter Tryd.func11, Tryd.ntmps11
    go_wp2_with (first
      | (go_at_call 29; go_must (refine (hnm.out _).mono ?_; rintro e w1 ⟨rfl, rfl⟩))
      | (go_at_call 30; go_must (refine (hlb.out _ (by repeat (first | (with_reducible exact Below.refl _ _) | (with_reducible refine Below.drew ?_) | (with_reducible refine below_drewN ?_ _) | ((with_reducible refine Below.alloc ?_ ?_ _); rotate_left; focus ((try simp) <;> omega)) | ((with_reducible refine Below.setCell ?_ ?_ _); rotate_left; focus ((try simp) <;> omega)) | ((with_reducible refine Below.trans ?_ (Below.mono (by assumption) ?_)); rotate_left; focus ((try simp) <;> omega))))).mono ?_; rintro e w2 ⟨rfl, hb2⟩; have hz2 := hb2.size; (try simp at hz2); obtain ⟨hc2, hf2⟩ := blk_at hb2 w.heap.size (by (try simp) <;> omega)))
      | (go_at_call 31; go_must (first | (with_reducible refine (hin1.out _).mono ?_; rintro e w6 ⟨rfl, rfl⟩) | (with_reducible refine (hin2.out _).mono ?_; rintro e w7 ⟨rfl, rfl⟩) | (with_reducible refine (hin3.out _).mono ?_; rintro e w8 ⟨rfl, rfl⟩)))
      | (go_at_call 32; go_must (first | (with_reducible refine (htm1.out _).mono ?_; rintro e w3 ⟨rfl, rfl⟩) | (with_reducible refine (htm2.out _).mono ?_; rintro e w4 ⟨rfl, rfl⟩))))
    go_ret
    exact ⟨ret_int hfin.out.symm, (by repeat (first | (with_reducible exact Below.refl _ _) | (with_reducible refine Below.drew ?_) | (with_reducible refine below_drewN ?_ _) | ((with_reducible refine Below.alloc ?_ ?_ _); rotate_left; focus ((try simp) <;> omega)) | ((with_reducible refine Below.setCell ?_ ?_ _); rotate_left; focus ((try simp) <;> omega)) | ((with_reducible refine Below.trans ?_ (Below.mono (by assumption) ?_)); rotate_left; focus ((try simp) <;> omega))))⟩
end Go.Proofs.YtnahbfmbmpoljaaDoor
