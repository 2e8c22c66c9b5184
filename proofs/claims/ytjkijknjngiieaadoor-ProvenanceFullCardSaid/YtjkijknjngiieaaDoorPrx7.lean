/-
  The walks of provenance: equal links, by the reference.
-/
import Derived.Test.YtjkijknjngiieaaDoorPrx6


namespace Go.Proofs.YtjkijknjngiieaaDoor
open Go.RowKit

def outI (a : ByteArray) (d s : Int) (a2 : ByteArray) (d2 s2 : Int) : Bool := a.toList == a2.toList && d == d2 && s == s2
theorem outI_self (a : ByteArray) (d s : Int) : outI a d s a d s = true := by unfold outI; simp
theorem eq_out (w : World) (a : ByteArray) (d s : Int) (a2 : ByteArray) (d2 s2 : Int) : (binOp .eql 33 (.agg #[.string a, .int .u64 d, .int .i64 s]) (.agg #[.string a2, .int .u64 d2, .int .i64 s2])).run Tryd.prog w = .ok (.bool (outI a d s a2 d2 s2)) w := by
  have hp : Tryd.prog.stoodInHeld 33 = false := by kernel_rfl
  unfold outI
  go_simp
  by_cases h1 : a.toList = a2.toList <;> by_cases h2 : d = d2 <;> by_cases h3 : s = s2 <;> simp [h1, h2, h3]
theorem ne_out (w : World) (a : ByteArray) (d s : Int) (a2 : ByteArray) (d2 s2 : Int) : (binOp .neq 33 (.agg #[.string a, .int .u64 d, .int .i64 s]) (.agg #[.string a2, .int .u64 d2, .int .i64 s2])).run Tryd.prog w = .ok (.bool (!outI a d s a2 d2 s2)) w := by
  have hp : Tryd.prog.stoodInHeld 33 = false := by kernel_rfl
  unfold outI
  go_simp
  by_cases h1 : a.toList = a2.toList <;> by_cases h2 : d = d2 <;> by_cases h3 : s = s2 <;> simp [h1, h2, h3]
def refI (a b a2 b2 : ByteArray) : Bool := a.toList == a2.toList && b.toList == b2.toList
theorem refI_self (a b : ByteArray) : refI a b a b = true := by unfold refI; simp
theorem eq_refK (w : World) (a b a2 b2 : ByteArray) : (binOp .eql 28 (.agg #[.string a, .string b]) (.agg #[.string a2, .string b2])).run Tryd.prog w = .ok (.bool (refI a b a2 b2)) w := by
  have hp : Tryd.prog.stoodInHeld 28 = false := by kernel_rfl
  unfold refI
  go_simp
  by_cases h1 : a.toList = a2.toList <;> by_cases h2 : b.toList = b2.toList <;> simp [h1, h2]
attribute [local go_sem ↓] eq_out ne_out eq_refK
end Go.Proofs.YtjkijknjngiieaaDoor
