/-
  The walks of provenance: a link added, by the reference.
-/
import Derived.Test.YtjkijknjngiieaaDoorPrx2


namespace Go.Proofs.YtjkijknjngiieaaDoor
open Go.RowKit

theorem rw_lkrA {w : World} {g B : Nat} {x : Lkr} {IA : Option Addr} (hI : x.insA = IA) (hg : g = w.heap.size) (hB : g < B) : Rw lkrE 8 (w.alloc (.cells #[.string x.run.1, .string x.job.1, .int .i64 x.attempt.1, .int .u64 x.spec.1, .slice IA x.ins.length x.insC, .string x.name.1, .int .u64 x.digest.1, .int .i64 x.size.1] 35)) B (some ⟨g, 0, none⟩) [x] := by
  subst hI
  exact rw_lkr hg hB
end Go.Proofs.YtjkijknjngiieaaDoor
