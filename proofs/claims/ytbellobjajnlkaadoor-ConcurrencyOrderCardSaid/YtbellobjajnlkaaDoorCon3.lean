/-
  The walks of groups: whether a string is a path, whether a job is valid, by the program and by the reference.
-/
import Derived.Test.YtbellobjajnlkaaDoorConSt
import Derived.Test.YtbellobjajnlkaaDoorPar1
import Derived.Test.YtbellobjajnlkaaDoorPar2
import Derived.Test.YtbellobjajnlkaaDoorComm0


namespace Go.Proofs.YtbellobjajnlkaaDoor
open Go.RowKit

def refB (a1 a2 b1 b2 : ByteArray) : Bool := a1.toList == b1.toList && a2.toList == b2.toList
theorem refB_iff (a b c d : Str) : refB a.1 b.1 c.1 d.1 = decide ((⟨a, b⟩ : JRef) = ⟨c, d⟩) := by
  unfold refB
  rw [eq_str, eq_str]
  by_cases h1 : a = c <;> by_cases h2 : b = d <;> simp [h1, h2]
theorem refB_zero (a b : Str) : refB a.1 b.1 ⟨#[]⟩ ⟨#[]⟩ = decide ((⟨a, b⟩ : JRef) = zR) := refB_iff a b zS zS
theorem eq_ref (w : World) (a1 a2 b1 b2 : ByteArray) : (binOp .eql 29 (.agg #[.string a1, .string a2]) (.agg #[.string b1, .string b2])).run Tryd.prog w = .ok (.bool (refB a1 a2 b1 b2)) w := by
  have hp : Tryd.prog.stoodInHeld 29 = false := by kernel_rfl
  unfold refB
  go_simp
  by_cases h1 : a1.toList = b1.toList <;> by_cases h2 : a2.toList = b2.toList <;> simp [h1, h2]
theorem ne_ref (w : World) (a1 a2 b1 b2 : ByteArray) : (binOp .neq 29 (.agg #[.string a1, .string a2]) (.agg #[.string b1, .string b2])).run Tryd.prog w = .ok (.bool (!refB a1 a2 b1 b2)) w := by
  have hp : Tryd.prog.stoodInHeld 29 = false := by kernel_rfl
  unfold refB
  go_simp
  by_cases h1 : a1.toList = b1.toList <;> by_cases h2 : a2.toList = b2.toList <;> simp [h1, h2]
theorem pathB_eq (s : Str) : (pathE s == 0) = pathB s := by
  unfold pathB
  by_cases h : pathE s = 0
  · rw [decide_eq_true h, beq_iff_eq]; exact h
  · rw [decide_eq_false h, beq_eq_false_iff_ne]; exact h
theorem path_any (s : Str) (w : World) (hG : Glob w) (hs : s.1.size < 4294967281) : Calls Tryd.prog 30 #[.string s.1] w fun e w' => e = .returned (.bool (pathB s)) ∧ Below w.heap.size w w' := by
  obtain ⟨E, hE⟩ : ∃ E, pathE s = E := ⟨_, rfl⟩
  have hb := pathB_eq s
  have hc0 := parts_any s w hG hs
  rw [hE] at hb hc0
  have hc := Lib.hid hc0
  clear hc0
  replace hE := Lib.hid hE
  go_enter Tryd.func30, Tryd.ntmps30
  go_wp2_with (go_at_call 50; go_must (refine hc.out.mono ?_; rintro e w2 ⟨A, c, rfl, _, _, hb2⟩))
  go_ret
  exact ⟨rfl, hb2⟩
theorem rpath_any (s : Str) (w : World) (hs : s.1.size < 4294967281) : Calls Tryd.prog 34 #[.string s.1] w fun e w' => e = .returned (.bool (pathB s)) ∧ Below w.heap.size w w' := by
  obtain ⟨E, hE⟩ : ∃ E, pathE s = E := ⟨_, rfl⟩
  have hb := pathB_eq s
  have hc0 := rparts_any s w hs
  rw [hE] at hb hc0
  have hc := Lib.hid hc0
  clear hc0
  replace hE := Lib.hid hE
  go_enter Tryd.func34, Tryd.ntmps34
  go_wp2_with (go_at_call 55; go_must (refine hc.out.mono ?_; rintro e w2 ⟨A, c, rfl, _, _, hb2⟩))
  go_ret
  exact ⟨rfl, hb2⟩
def shortR (r : JRef) : Prop := r.run.1.size < 4294967281 ∧ r.job.1.size < 4294967281
theorem job_any (r : JRef) (w : World) (hG : Glob w) (hs : shortR r) : Calls Tryd.prog 33 #[.agg #[.string r.run.1, .string r.job.1]] w fun e w' => e = .returned (.bool (jobB r)) ∧ Below w.heap.size w w' := by
  have h1 := fun W (hb : Below w.heap.size w W) => path_any r.run W (hG.keep hb) hs.1
  have h2 := fun W (hb : Below w.heap.size w W) => path_any r.job W (hG.keep hb) hs.2
  obtain ⟨b1, e1⟩ : ∃ b, pathB r.run = b := ⟨_, rfl⟩
  obtain ⟨b2, e2⟩ : ∃ b, pathB r.job = b := ⟨_, rfl⟩
  have hj : jobB r = (b1 && b2) := by unfold jobB; rw [e1, e2]
  rw [e1] at h1
  rw [e2] at h2
  have c1 := Lib.hid h1
  have c2 := Lib.hid h2
  clear h1 h2
  rw [hj]
  replace hj := Lib.hid hj
  replace e1 := Lib.hid e1
  replace e2 := Lib.hid e2
  rcases b1 with _ | _
  · go_enter Tryd.func33, Tryd.ntmps33
    go_wp2_with (go_at_call 30; go_must (refine (c1.out _ (by repeat (first | (with_reducible exact Below.refl _ _) | (with_reducible refine Below.drew ?_) | (with_reducible refine below_drewN ?_ _) | ((with_reducible refine Below.alloc ?_ ?_ _); rotate_left; focus ((try simp) <;> omega)) | ((with_reducible refine Below.setCell ?_ ?_ _); rotate_left; focus ((try simp) <;> omega)) | ((with_reducible refine Below.trans ?_ (Below.mono (by assumption) ?_)); rotate_left; focus ((try simp) <;> omega))))).mono ?_; rintro e w2 ⟨rfl, hb2⟩))
    go_ret
    exact ⟨rfl, (by repeat (first | (with_reducible exact Below.refl _ _) | (with_reducible refine Below.drew ?_) | (with_reducible refine below_drewN ?_ _) | ((with_reducible refine Below.alloc ?_ ?_ _); rotate_left; focus ((try simp) <;> omega)) | ((with_reducible refine Below.setCell ?_ ?_ _); rotate_left; focus ((try simp) <;> omega)) | ((with_reducible refine Below.trans ?_ (Below.mono (by assumption) ?_)); rotate_left; focus ((try simp) <;> omega))))⟩
  · go_enter Tryd.func33, Tryd.ntmps33
    go_wp2_with (first
      | (go_at_call 30; with_reducible refine (c1.out _ (by repeat (first | (with_reducible exact Below.refl _ _) | (with_reducible refine Below.drew ?_) | (with_reducible refine below_drewN ?_ _) | ((with_reducible refine Below.alloc ?_ ?_ _); rotate_left; focus ((try simp) <;> omega)) | ((with_reducible refine Below.setCell ?_ ?_ _); rotate_left; focus ((try simp) <;> omega)) | ((with_reducible refine Below.trans ?_ (Below.mono (by assumption) ?_)); rotate_left; focus ((try simp) <;> omega))))).mono ?_; rintro e w2 ⟨rfl, hb2⟩; have hz2 := hb2.size; (try simp at hz2); have hz2a : w.heap.size < w2.heap.size := (by omega); obtain ⟨hc2, hf2⟩ := blk_at hb2 w.heap.size (by (try simp) <;> omega))
      | (go_at_call 30; with_reducible refine (c2.out _ (by repeat (first | (with_reducible exact Below.refl _ _) | (with_reducible refine Below.drew ?_) | (with_reducible refine below_drewN ?_ _) | ((with_reducible refine Below.alloc ?_ ?_ _); rotate_left; focus ((try simp) <;> omega)) | ((with_reducible refine Below.setCell ?_ ?_ _); rotate_left; focus ((try simp) <;> omega)) | ((with_reducible refine Below.trans ?_ (Below.mono (by assumption) ?_)); rotate_left; focus ((try simp) <;> omega))))).mono ?_; rintro e w3 ⟨rfl, hb3⟩))
    go_ret
    exact ⟨by simp, (by repeat (first | (with_reducible exact Below.refl _ _) | (with_reducible refine Below.drew ?_) | (with_reducible refine below_drewN ?_ _) | ((with_reducible refine Below.alloc ?_ ?_ _); rotate_left; focus ((try simp) <;> omega)) | ((with_reducible refine Below.setCell ?_ ?_ _); rotate_left; focus ((try simp) <;> omega)) | ((with_reducible refine Below.trans ?_ (Below.mono (by assumption) ?_)); rotate_left; focus ((try simp) <;> omega))))⟩
theorem rjob_any (r : JRef) (w : World) (hs : shortR r) : Calls Tryd.prog 37 #[.agg #[.string r.run.1, .string r.job.1]] w fun e w' => e = .returned (.bool (jobB r)) ∧ Below w.heap.size w w' := by
  have h1 := fun W (_ : Below w.heap.size w W) => rpath_any r.run W hs.1
  have h2 := fun W (_ : Below w.heap.size w W) => rpath_any r.job W hs.2
  obtain ⟨b1, e1⟩ : ∃ b, pathB r.run = b := ⟨_, rfl⟩
  obtain ⟨b2, e2⟩ : ∃ b, pathB r.job = b := ⟨_, rfl⟩
  have hj : jobB r = (b1 && b2) := by unfold jobB; rw [e1, e2]
  rw [e1] at h1
  rw [e2] at h2
  have c1 := Lib.hid h1
  have c2 := Lib.hid h2
  clear h1 h2
  rw [hj]
  replace hj := Lib.hid hj
  replace e1 := Lib.hid e1
  replace e2 := Lib.hid e2
  rcases b1 with _ | _
  · go_enter Tryd.func37, Tryd.ntmps37
    go_wp2_with (go_at_call 34; go_must (refine (c1.out _ (by repeat (first | (with_reducible exact Below.refl _ _) | (with_reducible refine Below.drew ?_) | (with_reducible refine below_drewN ?_ _) | ((with_reducible refine Below.alloc ?_ ?_ _); rotate_left; focus ((try simp) <;> omega)) | ((with_reducible refine Below.setCell ?_ ?_ _); rotate_left; focus ((try simp) <;> omega)) | ((with_reducible refine Below.trans ?_ (Below.mono (by assumption) ?_)); rotate_left; focus ((try simp) <;> omega))))).mono ?_; rintro e w2 ⟨rfl, hb2⟩))
    go_ret
    exact ⟨rfl, (by repeat (first | (with_reducible exact Below.refl _ _) | (with_reducible refine Below.drew ?_) | (with_reducible refine below_drewN ?_ _) | ((with_reducible refine Below.alloc ?_ ?_ _); rotate_left; focus ((try simp) <;> omega)) | ((with_reducible refine Below.setCell ?_ ?_ _); rotate_left; focus ((try simp) <;> omega)) | ((with_reducible refine Below.trans ?_ (Below.mono (by assumption) ?_)); rotate_left; focus ((try simp) <;> omega))))⟩
  · go_enter Tryd.func37, Tryd.ntmps37
    go_wp2_with (first
      | (go_at_call 34; with_reducible refine (c1.out _ (by repeat (first | (with_reducible exact Below.refl _ _) | (with_reducible refine Below.drew ?_) | (with_reducible refine below_drewN ?_ _) | ((with_reducible refine Below.alloc ?_ ?_ _); rotate_left; focus ((try simp) <;> omega)) | ((with_reducible refine Below.setCell ?_ ?_ _); rotate_left; focus ((try simp) <;> omega)) | ((with_reducible refine Below.trans ?_ (Below.mono (by assumption) ?_)); rotate_left; focus ((try simp) <;> omega))))).mono ?_; rintro e w2 ⟨rfl, hb2⟩; have hz2 := hb2.size; (try simp at hz2); have hz2a : w.heap.size < w2.heap.size := (by omega); obtain ⟨hc2, hf2⟩ := blk_at hb2 w.heap.size (by (try simp) <;> omega))
      | (go_at_call 34; with_reducible refine (c2.out _ (by repeat (first | (with_reducible exact Below.refl _ _) | (with_reducible refine Below.drew ?_) | (with_reducible refine below_drewN ?_ _) | ((with_reducible refine Below.alloc ?_ ?_ _); rotate_left; focus ((try simp) <;> omega)) | ((with_reducible refine Below.setCell ?_ ?_ _); rotate_left; focus ((try simp) <;> omega)) | ((with_reducible refine Below.trans ?_ (Below.mono (by assumption) ?_)); rotate_left; focus ((try simp) <;> omega))))).mono ?_; rintro e w3 ⟨rfl, hb3⟩))
    go_ret
    exact ⟨by simp, (by repeat (first | (with_reducible exact Below.refl _ _) | (with_reducible refine Below.drew ?_) | (with_reducible refine below_drewN ?_ _) | ((with_reducible refine Below.alloc ?_ ?_ _); rotate_left; focus ((try simp) <;> omega)) | ((with_reducible refine Below.setCell ?_ ?_ _); rotate_left; focus ((try simp) <;> omega)) | ((with_reducible refine Below.trans ?_ (Below.mono (by assumption) ?_)); rotate_left; focus ((try simp) <;> omega))))⟩
end Go.Proofs.YtbellobjajnlkaaDoor
