/-
  The walks of histories: whether histories and timings are equal, by the reference; whether arguments are small.
-/
import Derived.Test.YtddepmelnemniaaDoorHis28



namespace Go.Proofs.YtddepmelnemniaaDoor
open Go.RowKit

def sampB (a b : Samp) : Bool := a.code.1 == b.code.1 && a.status.1 == b.status.1 && a.time.1 == b.time.1 && a.stamp.1 == b.stamp.1
theorem sampB_self (a : Samp) : sampB a a = true := by unfold sampB; simp
def sampI (a b c d a2 b2 c2 d2 : Int) : Bool := a == a2 && b == b2 && c == c2 && d == d2
theorem eq_samp (w : World) (a b c d a2 b2 c2 d2 : Int) : (binOp .eql 42 (.agg #[.int .u64 a, .int .i64 b, .int .i64 c, .int .i64 d]) (.agg #[.int .u64 a2, .int .i64 b2, .int .i64 c2, .int .i64 d2])).run Tryd.prog w = .ok (.bool (sampI a b c d a2 b2 c2 d2)) w := by
  have hp : Tryd.prog.stoodInHeld 42 = false := by kernel_rfl
  unfold sampI
  go_simp
  by_cases h1 : a = a2 <;> by_cases h2 : b = b2 <;> by_cases h3 : c = c2 <;> by_cases h4 : d = d2 <;> simp [h1, h2, h3, h4]
theorem ne_samp (w : World) (a b c d a2 b2 c2 d2 : Int) : (binOp .neq 42 (.agg #[.int .u64 a, .int .i64 b, .int .i64 c, .int .i64 d]) (.agg #[.int .u64 a2, .int .i64 b2, .int .i64 c2, .int .i64 d2])).run Tryd.prog w = .ok (.bool (!sampI a b c d a2 b2 c2 d2)) w := by
  have hp : Tryd.prog.stoodInHeld 42 = false := by kernel_rfl
  unfold sampI
  go_simp
  by_cases h1 : a = a2 <;> by_cases h2 : b = b2 <;> by_cases h3 : c = c2 <;> by_cases h4 : d = d2 <;> simp [h1, h2, h3, h4]
theorem sampI_self (a b c d : Int) : sampI a b c d a b c d = true := by unfold sampI; simp
def timB (a : ByteArray) (b : Int) (a2 : ByteArray) (b2 : Int) : Bool := a.toList == a2.toList && b == b2
theorem ne_tim (w : World) (a : ByteArray) (b : Int) (a2 : ByteArray) (b2 : Int) : (binOp .neq 59 (.agg #[.string a, .int .i64 b]) (.agg #[.string a2, .int .i64 b2])).run Tryd.prog w = .ok (.bool (!timB a b a2 b2)) w := by
  have hp : Tryd.prog.stoodInHeld 59 = false := by kernel_rfl
  unfold timB
  go_simp
  by_cases h1 : a.toList = a2.toList <;> by_cases h2 : b = b2 <;> simp [h1, h2]
theorem timB_self (a : ByteArray) (b : Int) : timB a b a b = true := by unfold timB; simp
attribute [local go_sem ↓] eq_samp ne_samp ne_tim
end Go.Proofs.YtddepmelnemniaaDoor
