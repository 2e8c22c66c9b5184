/-
  The walks of workers: whether an event is possible, a worker after a notice, by the program.
-/
import Derived.Test.YtnahbfmbmpoljaaDoorWk7



namespace Go.Proofs.YtnahbfmbmpoljaaDoor
open Go.RowKit

def possB (x : Work) (ev : Int) : Bool := decide (x.phase.1 ≠ 3) && (decide (ev ≠ 3) || x.pre)
def notF (x : Work) (now : I64) : Work := if x.phase.1 = 0 ∨ x.phase.1 = 1 then { x with phase := ⟨2, by omega⟩, till := tillN now } else x
theorem poss_any (x : Work) (ev : Int) (w : World) : Calls Tryd.prog 43 #[(.agg #[.string x.id.1, .slice x.labsA x.labs.length x.labsC, .int .i64 x.trust.1, .int .i64 x.slots.1, .bool x.pre, .int .i64 x.phase.1, .int .i64 x.beat.1, .int .i64 x.till.1, .slice x.toksA x.toks.length x.toksC]), .int .i64 ev] w fun e w' => e = .returned (.bool (possB x ev)) ∧ Below w.heap.size w w' := by
  unfold possB
  by_cases h3 : x.phase.1 = 3
  · rw [decide_eq_false (fun h => h h3), Bool.false_and]
    go_enter Tryd.func43, Tryd.ntmps43
    go_wp2_with fail
    go_ret
    first | exact ⟨rfl, (by repeat (first | (with_reducible exact Below.refl _ _) | (with_reducible refine Below.drew ?_) | (with_reducible refine below_drewN ?_ _) | ((with_reducible refine Below.alloc ?_ ?_ _); rotate_left; focus ((try simp) <;> omega)) | ((with_reducible refine Below.setCell ?_ ?_ _); rotate_left; focus ((try simp) <;> omega)) | ((with_reducible refine Below.trans ?_ (Below.mono (by assumption) ?_)); rotate_left; focus ((try simp) <;> omega))))⟩ | exact ⟨ret_bool (by simp [h3]), (by repeat (first | (with_reducible exact Below.refl _ _) | (with_reducible refine Below.drew ?_) | (with_reducible refine below_drewN ?_ _) | ((with_reducible refine Below.alloc ?_ ?_ _); rotate_left; focus ((try simp) <;> omega)) | ((with_reducible refine Below.setCell ?_ ?_ _); rotate_left; focus ((try simp) <;> omega)) | ((with_reducible refine Below.trans ?_ (Below.mono (by assumption) ?_)); rotate_left; focus ((try simp) <;> omega))))⟩
  · rw [decide_eq_true h3, Bool.true_and]
    by_cases he : ev = 3
    · rw [decide_eq_false (fun h => h he), Bool.false_or]
      go_enter Tryd.func43, Tryd.ntmps43
      go_wp2_with fail
      go_ret
      first | exact ⟨rfl, (by repeat (first | (with_reducible exact Below.refl _ _) | (with_reducible refine Below.drew ?_) | (with_reducible refine below_drewN ?_ _) | ((with_reducible refine Below.alloc ?_ ?_ _); rotate_left; focus ((try simp) <;> omega)) | ((with_reducible refine Below.setCell ?_ ?_ _); rotate_left; focus ((try simp) <;> omega)) | ((with_reducible refine Below.trans ?_ (Below.mono (by assumption) ?_)); rotate_left; focus ((try simp) <;> omega))))⟩ | exact ⟨ret_bool (by simp [h3]), (by repeat (first | (with_reducible exact Below.refl _ _) | (with_reducible refine Below.drew ?_) | (with_reducible refine below_drewN ?_ _) | ((with_reducible refine Below.alloc ?_ ?_ _); rotate_left; focus ((try simp) <;> omega)) | ((with_reducible refine Below.setCell ?_ ?_ _); rotate_left; focus ((try simp) <;> omega)) | ((with_reducible refine Below.trans ?_ (Below.mono (by assumption) ?_)); rotate_left; focus ((try simp) <;> omega))))⟩
    · rw [decide_eq_true he, Bool.true_or]
      go_enter Tryd.func43, Tryd.ntmps43
      go_wp2_with fail
      go_ret
      first | exact ⟨rfl, (by repeat (first | (with_reducible exact Below.refl _ _) | (with_reducible refine Below.drew ?_) | (with_reducible refine below_drewN ?_ _) | ((with_reducible refine Below.alloc ?_ ?_ _); rotate_left; focus ((try simp) <;> omega)) | ((with_reducible refine Below.setCell ?_ ?_ _); rotate_left; focus ((try simp) <;> omega)) | ((with_reducible refine Below.trans ?_ (Below.mono (by assumption) ?_)); rotate_left; focus ((try simp) <;> omega))))⟩ | exact ⟨ret_bool (by simp [h3]), (by repeat (first | (with_reducible exact Below.refl _ _) | (with_reducible refine Below.drew ?_) | (with_reducible refine below_drewN ?_ _) | ((with_reducible refine Below.alloc ?_ ?_ _); rotate_left; focus ((try simp) <;> omega)) | ((with_reducible refine Below.setCell ?_ ?_ _); rotate_left; focus ((try simp) <;> omega)) | ((with_reducible refine Below.trans ?_ (Below.mono (by assumption) ?_)); rotate_left; focus ((try simp) <;> omega))))⟩
set_option maxRecDepth 100000 in
set_option maxHeartbeats 4000000 in
theorem noticed_any (x : Work) (now : I64) (w : World) (h0 : 0 ≤ now.1) (h1 : now.1 ≤ 1125899906842624) : Calls Tryd.prog 44 #[(.agg #[.string x.id.1, .slice x.labsA x.labs.length x.labsC, .int .i64 x.trust.1, .int .i64 x.slots.1, .bool x.pre, .int .i64 x.phase.1, .int .i64 x.beat.1, .int .i64 x.till.1, .slice x.toksA x.toks.length x.toksC]), .int .i64 now.1] w fun e w' => e = .returned (.agg (workE (notF x now)).toArray) ∧ Below w.heap.size w w' := by
  have hwr : IntKind.i64.wrap (now.1 + 5000) = now.1 + 5000 := IntWalk.i64_in _ (by omega)
  have htl : (tillN now).1 = min (now.1 + 5000) 1125899906842624 := by
    show (if now.1 + 5000 < 1125899906842624 then now.1 + 5000 else 1125899906842624) = _
    split <;> omega
  by_cases hp : x.phase.1 = 0 ∨ x.phase.1 = 1
  · have hf := Lib.hid (show notF x now = { x with phase := ⟨2, by omega⟩, till := tillN now } from if_pos hp)
    rw [hf.out]
    replace htl := Lib.hid htl
    rcases hp with hp | hp
    all_goals
      go_enter Tryd.func44, Tryd.ntmps44
      go_wp2_with fail
      exact bodyPost_ret (v := .agg (workE { x with phase := ⟨2, by omega⟩, till := tillN now }).toArray) (by simp [results, Tryd.results44, go_sem, workE, htl.out]) rfl ⟨rfl, (by repeat (first | (with_reducible exact Below.refl _ _) | (with_reducible refine Below.drew ?_) | (with_reducible refine below_drewN ?_ _) | ((with_reducible refine Below.alloc ?_ ?_ _); rotate_left; focus ((try simp) <;> omega)) | ((with_reducible refine Below.setCell ?_ ?_ _); rotate_left; focus ((try simp) <;> omega)) | ((with_reducible refine Below.trans ?_ (Below.mono (by assumption) ?_)); rotate_left; focus ((try simp) <;> omega))))⟩
  · have hf := Lib.hid (show notF x now = x from if_neg hp)
    rw [hf.out]
    clear htl
    have p0 : ¬ x.phase.1 = 0 := fun h => hp (Or.inl h)
    have p1 : ¬ x.phase.1 = 1 := fun h => hp (Or.inr h)
    replace hp := Lib.hid hp
    go_enter Tryd.func44, Tryd.ntmps44
    go_wp2_with fail
    exact bodyPost_ret (v := .agg (workE x).toArray) (by simp [results, Tryd.results44, go_sem, workE]) rfl ⟨rfl, (by repeat (first | (with_reducible exact Below.refl _ _) | (with_reducible refine Below.drew ?_) | (with_reducible refine below_drewN ?_ _) | ((with_reducible refine Below.alloc ?_ ?_ _); rotate_left; focus ((try simp) <;> omega)) | ((with_reducible refine Below.setCell ?_ ?_ _); rotate_left; focus ((try simp) <;> omega)) | ((with_reducible refine Below.trans ?_ (Below.mono (by assumption) ?_)); rotate_left; focus ((try simp) <;> omega))))⟩
end Go.Proofs.YtnahbfmbmpoljaaDoor
