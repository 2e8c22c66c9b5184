/-
  The walks of provenance: chains, sources, all links checked, by the reference.
-/
import Derived.Test.YtjkijknjngiieaaDoorPrx5
import Derived.Test.YtjkijknjngiieaaDoorNames4


namespace Go.Proofs.YtjkijknjngiieaaDoor
open Go.RowKit

theorem mild_h {x y : Lkr} (h : x.h = y.h) (hm : MildK y) : MildK x := by
  have h1 : x.run = y.run := congrArg Lnk.run h
  have h2 : x.job = y.job := congrArg Lnk.job h
  have h3 : x.ins = y.ins := congrArg Lnk.ins h
  have h4 : x.name = y.name := congrArg (fun l : Lnk => l.out.name) h
  exact ⟨by rw [h1]; exact hm.run, by rw [h2]; exact hm.job, by rw [h4]; exact hm.name, by rw [h3]; exact hm.len, by rw [h3]; exact hm.ins⟩
theorem mild_map {l m : List Lkr} (h : ∀ x ∈ l.map Lkr.h, x ∈ m.map Lkr.h) (hl : l.length ≤ 1000000) (hm : MildL m) : MildL l := ⟨hl, fun x hx => by
  obtain ⟨y, hy, e⟩ := List.mem_map.1 (h x.h (List.mem_map.2 ⟨x, hx, rfl⟩))
  exact mild_h e.symm (hm.each y hy)⟩
end Go.Proofs.YtjkijknjngiieaaDoor
