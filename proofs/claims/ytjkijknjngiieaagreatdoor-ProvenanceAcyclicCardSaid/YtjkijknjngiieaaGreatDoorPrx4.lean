/-
  The walks of provenance: a link looked up, what is reached, by the reference.
-/
import Derived.Test.YtjkijknjngiieaaGreatDoorPrx3


namespace Go.Proofs.YtjkijknjngiieaaGreatDoor
open Go.RowKit

theorem idxI_yes {ls : List Lnk} {run nm : Str} (h : hasL ls run nm = true) : idxI ls run nm = (idxL ls run nm : Int) := by unfold idxI; rw [if_pos h]
theorem idxI_no {ls : List Lnk} {run nm : Str} (h : hasL ls run nm = false) : idxI ls run nm = -1 := by unfold idxI; rw [if_neg (by rw [h]; decide)]
set_option maxRecDepth 100000 in
set_option maxHeartbeats 4000000 in
theorem rfind_any (A : Option Addr) (c : Nat) (l : List Lkr) (run nm : Str) (w : World) (hr : RwL w w.heap.size A l) (hm : MildL l) :
    Calls Tryz.prog 15 #[.slice A l.length c, .string run.1, .string nm.1] w fun e w' => ∃ y : Lkr, e = .returned (.tuple #[.agg #[.string y.run.1, .string y.job.1, .int .i64 y.attempt.1, .int .u64 y.spec.1, .slice y.insA y.ins.length y.insC, .string y.name.1, .int .u64 y.digest.1, .int .i64 y.size.1], .bool (hasL (l.map Lkr.h) run nm)]) ∧ y.h = findL (l.map Lkr.h) run nm ∧ LabLkr w' w'.heap.size y ∧ Below w.heap.size w w' := by
  have hid0 := fun W (hb : Below w.heap.size w W) => rindex_any A c l run nm W ((hr.row.below hb (Nat.le_refl _)).more hb.size) hm.len (fun y hy => (hm.each y hy).nm)
  have hlen := hm.len
  have hrow := hr.row
  have hlab := Lib.hid hr.labs
  rcases hh : hasL (l.map Lkr.h) run nm with _ | _
  · have hf : Hid (findL (l.map Lkr.h) run nm = zeroL.h) := Lib.hid (by unfold findL; rw [if_neg (by rw [hh]; decide)])
    rw [idxI_no hh] at hid0
    have hid := Lib.hid hid0
    replace hh := Lib.hid hh
    clear hr hm hrow hid0
    go_enter Tryz.func15, Tryz.ntmps15
    go_wp2_with (go_at_call 38; go_must (refine (hid.out _ (by repeat (first | (with_reducible exact Below.refl _ _) | (with_reducible refine Below.drew ?_) | (with_reducible refine below_drewN ?_ _) | ((with_reducible refine Below.alloc ?_ ?_ _); rotate_left; focus ((try simp) <;> omega)) | ((with_reducible refine Below.setCell ?_ ?_ _); rotate_left; focus ((try simp) <;> omega)) | ((with_reducible refine Below.trans ?_ (Below.mono (by assumption) ?_)); rotate_left; focus ((try simp) <;> omega))))).mono ?_; rintro e w2 ⟨rfl, hb2⟩; have hz2 := hb2.size; (try simp at hz2); obtain ⟨hc2, hf2⟩ := blk_at hb2 w.heap.size (by (try simp) <;> omega)))
    refine bodyPost_ret (v := .tuple #[.agg #[.string zeroL.run.1, .string zeroL.job.1, .int .i64 zeroL.attempt.1, .int .u64 zeroL.spec.1, .slice zeroL.insA zeroL.ins.length zeroL.insC, .string zeroL.name.1, .int .u64 zeroL.digest.1, .int .i64 zeroL.size.1], .bool false]) (by simp [results, Tryz.results15, go_sem, hc2, zeroL] <;> rfl) rfl ⟨zeroL, rfl, hf.out.symm, ⟨Nat.le_refl _, Nat.zero_le _, Rw.nil⟩, (by repeat (first | (with_reducible exact Below.refl _ _) | (with_reducible refine Below.drew ?_) | (with_reducible refine below_drewN ?_ _) | ((with_reducible refine Below.alloc ?_ ?_ _); rotate_left; focus ((try simp) <;> omega)) | ((with_reducible refine Below.setCell ?_ ?_ _); rotate_left; focus ((try simp) <;> omega)) | ((with_reducible refine Below.trans ?_ (Below.mono (by assumption) ?_)); rotate_left; focus ((try simp) <;> omega))))⟩
  · have hjl := idx_lt hh
    rw [List.length_map] at hjl
    obtain ⟨y, hy⟩ := get_some hjl
    have hf : Hid (findL (l.map Lkr.h) run nm = y.h) := Lib.hid (by
      unfold findL
      rw [if_pos hh]
      exact get_bang (by rw [List.getElem?_map, hy]; rfl))
    rw [idxI_yes hh] at hid0
    obtain ⟨k, hJ⟩ : ∃ J, idxL (l.map Lkr.h) run nm = J := ⟨_, rfl⟩
    rw [hJ] at hid0 hjl hy
    have hid := Lib.hid hid0
    obtain ⟨g, o, rfl, hg, hq⟩ := hrow (by omega)
    have q0 := hq k y hy 0 (.string y.run.1) rfl
    rw [Nat.add_zero] at q0
    have q1 := hq k y hy 1 (.string y.job.1) rfl
    have q2 := hq k y hy 2 (.int .i64 y.attempt.1) rfl
    have q3 := hq k y hy 3 (.int .u64 y.spec.1) rfl
    have q4 := hq k y hy 4 (.slice y.insA y.ins.length y.insC) rfl
    have q5 := hq k y hy 5 (.string y.name.1) rfl
    have q6 := hq k y hy 6 (.int .u64 y.digest.1) rfl
    have q7 := hq k y hy 7 (.int .i64 y.size.1) rfl
    clear hq
    have i0 : (0 : Int) ≤ (k : Int) := by omega
    have i1 : (k : Int) < (l.length : Int) := by omega
    have hly := Lib.hid (hlab.out y (List.mem_of_getElem? hy))
    replace hh := Lib.hid hh
    replace hy := Lib.hid hy
    replace hJ := Lib.hid hJ
    clear hr hm hrow hid0
    go_enter Tryz.func15, Tryz.ntmps15
    go_wp2_with (go_at_call 38; go_must (refine (hid.out _ (by repeat (first | (with_reducible exact Below.refl _ _) | (with_reducible refine Below.drew ?_) | (with_reducible refine below_drewN ?_ _) | ((with_reducible refine Below.alloc ?_ ?_ _); rotate_left; focus ((try simp) <;> omega)) | ((with_reducible refine Below.setCell ?_ ?_ _); rotate_left; focus ((try simp) <;> omega)) | ((with_reducible refine Below.trans ?_ (Below.mono (by assumption) ?_)); rotate_left; focus ((try simp) <;> omega))))).mono ?_; rintro e w2 ⟨rfl, hb2⟩; have hz2 := hb2.size; (try simp at hz2); have hk2 : w.heap.size < w2.heap.size := (by omega); obtain ⟨hc2, hf2⟩ := blk_at hb2 w.heap.size (by (try simp) <;> omega); obtain ⟨hd2, he2⟩ := blk_at hb2 g (by (try simp) <;> omega)))
    refine bodyPost_ret (v := .tuple #[.agg #[.string y.run.1, .string y.job.1, .int .i64 y.attempt.1, .int .u64 y.spec.1, .slice y.insA y.ins.length y.insC, .string y.name.1, .int .u64 y.digest.1, .int .i64 y.size.1], .bool true]) (by simp [results, Tryz.results15, go_sem, hc2]) rfl ⟨y, rfl, hf.out.symm, (hly.out.below (C := w.heap.size) (by repeat (first | (with_reducible exact Below.refl _ _) | (with_reducible refine Below.drew ?_) | (with_reducible refine below_drewN ?_ _) | ((with_reducible refine Below.alloc ?_ ?_ _); rotate_left; focus ((try simp) <;> omega)) | ((with_reducible refine Below.setCell ?_ ?_ _); rotate_left; focus ((try simp) <;> omega)) | ((with_reducible refine Below.trans ?_ (Below.mono (by assumption) ?_)); rotate_left; focus ((try simp) <;> omega)))) (Nat.le_refl _)).more (by (try simp) <;> omega), (by repeat (first | (with_reducible exact Below.refl _ _) | (with_reducible refine Below.drew ?_) | (with_reducible refine below_drewN ?_ _) | ((with_reducible refine Below.alloc ?_ ?_ _); rotate_left; focus ((try simp) <;> omega)) | ((with_reducible refine Below.setCell ?_ ?_ _); rotate_left; focus ((try simp) <;> omega)) | ((with_reducible refine Below.trans ?_ (Below.mono (by assumption) ?_)); rotate_left; focus ((try simp) <;> omega))))⟩
end Go.Proofs.YtjkijknjngiieaaGreatDoor
