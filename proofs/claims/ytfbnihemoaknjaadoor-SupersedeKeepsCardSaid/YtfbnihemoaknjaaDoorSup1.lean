/-
  The walks of superseding: whether two runs are of the same pipeline and branch.
-/
import Derived.Test.YtfbnihemoaknjaaDoorIdent6
import Derived.Test.YtfbnihemoaknjaaDoorSumSt
import Derived.Laws.StructEq


namespace Go.Proofs.YtfbnihemoaknjaaDoor
open Go.RowKit

def orgB (a1 a2 : ByteArray) (a3 : Bool) (b1 b2 : ByteArray) (b3 : Bool) : Bool := a1.toList == b1.toList && a2.toList == b2.toList && a3 == b3
theorem eq_origin (w : World) (a1 a2 b1 b2 : ByteArray) (a3 b3 : Bool) : (binOp .eql 24 (.agg #[.string a1, .string a2, .bool a3]) (.agg #[.string b1, .string b2, .bool b3])).run Tryd.prog w = .ok (.bool (orgB a1 a2 a3 b1 b2 b3)) w := by
  have hp : Tryd.prog.stoodInHeld 24 = false := by kernel_rfl
  unfold orgB
  go_simp
  by_cases h1 : a1.toList = b1.toList <;> by_cases h2 : a2.toList = b2.toList <;> by_cases h3 : a3 = b3 <;> simp [h1, h2, h3]
attribute [local go_sem ↓] eq_origin

/-- Of the same pipeline and branch. -/
def sameB (a b : Sum) : Bool := orgB a.proj.1 a.ref.1 a.fork b.proj.1 b.ref.1 b.fork && a.pipe.1.toList == b.pipe.1.toList

theorem same_any (a b : Sum) (w : World) :
    Calls Tryd.prog 14 #[.agg #[.string a.run.1, .string a.proj.1, .string a.ref.1, .bool a.fork, .string a.pipe.1, .int .i64 a.number.1, .bool a.done, .bool a.keep], .agg #[.string b.run.1, .string b.proj.1, .string b.ref.1, .bool b.fork, .string b.pipe.1, .int .i64 b.number.1, .bool b.done, .bool b.keep]] w fun e w' => e = .returned (.bool (sameB a b)) ∧ Below w.heap.size w w' := by
  unfold sameB
  rcases h : orgB a.proj.1 a.ref.1 a.fork b.proj.1 b.ref.1 b.fork with _ | _
  · go_enter Tryd.func14, Tryd.ntmps14
    go_wp2
    go_ret
    exact ⟨ret_bool (by simp), (by repeat (first | (with_reducible exact Below.refl _ _) | (with_reducible refine Below.drew ?_) | (with_reducible refine below_drewN ?_ _) | ((with_reducible refine Below.alloc ?_ ?_ _); rotate_left; focus ((try simp) <;> omega)) | ((with_reducible refine Below.setCell ?_ ?_ _); rotate_left; focus ((try simp) <;> omega)) | ((with_reducible refine Below.trans ?_ (Below.mono (by assumption) ?_)); rotate_left; focus ((try simp) <;> omega))))⟩
  · go_enter Tryd.func14, Tryd.ntmps14
    go_wp2
    go_ret
    exact ⟨ret_bool (by simp), (by repeat (first | (with_reducible exact Below.refl _ _) | (with_reducible refine Below.drew ?_) | (with_reducible refine below_drewN ?_ _) | ((with_reducible refine Below.alloc ?_ ?_ _); rotate_left; focus ((try simp) <;> omega)) | ((with_reducible refine Below.setCell ?_ ?_ _); rotate_left; focus ((try simp) <;> omega)) | ((with_reducible refine Below.trans ?_ (Below.mono (by assumption) ?_)); rotate_left; focus ((try simp) <;> omega))))⟩
theorem rsamesum_any (a b : Sum) (w : World) :
    Calls Tryd.prog 15 #[.agg #[.string a.run.1, .string a.proj.1, .string a.ref.1, .bool a.fork, .string a.pipe.1, .int .i64 a.number.1, .bool a.done, .bool a.keep], .agg #[.string b.run.1, .string b.proj.1, .string b.ref.1, .bool b.fork, .string b.pipe.1, .int .i64 b.number.1, .bool b.done, .bool b.keep]] w fun e w' => e = .returned (.bool (sameB a b)) ∧ Below w.heap.size w w' := by
  unfold sameB
  rcases h : orgB a.proj.1 a.ref.1 a.fork b.proj.1 b.ref.1 b.fork with _ | _
  · go_enter Tryd.func15, Tryd.ntmps15
    go_wp2
    go_ret
    exact ⟨ret_bool (by simp), (by repeat (first | (with_reducible exact Below.refl _ _) | (with_reducible refine Below.drew ?_) | (with_reducible refine below_drewN ?_ _) | ((with_reducible refine Below.alloc ?_ ?_ _); rotate_left; focus ((try simp) <;> omega)) | ((with_reducible refine Below.setCell ?_ ?_ _); rotate_left; focus ((try simp) <;> omega)) | ((with_reducible refine Below.trans ?_ (Below.mono (by assumption) ?_)); rotate_left; focus ((try simp) <;> omega))))⟩
  · go_enter Tryd.func15, Tryd.ntmps15
    go_wp2
    go_ret
    exact ⟨ret_bool (by simp), (by repeat (first | (with_reducible exact Below.refl _ _) | (with_reducible refine Below.drew ?_) | (with_reducible refine below_drewN ?_ _) | ((with_reducible refine Below.alloc ?_ ?_ _); rotate_left; focus ((try simp) <;> omega)) | ((with_reducible refine Below.setCell ?_ ?_ _); rotate_left; focus ((try simp) <;> omega)) | ((with_reducible refine Below.trans ?_ (Below.mono (by assumption) ?_)); rotate_left; focus ((try simp) <;> omega))))⟩
end Go.Proofs.YtfbnihemoaknjaaDoor
