/-
  Provenance: how many sources there are; what a chain holds (plain).
-/
import Derived.Test.YtjkijknjngiieaaGreatDoorPrx9
namespace Go.Proofs.YtjkijknjngiieaaGreatDoor
open Go.RowKit

theorem srt_len (l : List Str) : (srt l).length ≤ l.length := by
  unfold srt srtOf Lib.compact Lib.compactUpTo
  rw [List.length_map]
  refine Nat.le_trans (List.length_filter_le _ _) ?_
  rw [List.length_range, List.length_mergeSort]
  exact Nat.le_refl _
theorem rch_len (ls : List Lnk) (run nm : Str) : (rchL ls run nm).length ≤ ls.length := by
  unfold rchL
  split
  · refine Nat.le_trans (List.length_filter_le _ _) ?_
    rw [List.length_range]
    exact Nat.le_refl _
  · exact Nat.zero_le _
theorem chain_len (ls : List Lnk) (run nm : Str) : (chainL ls run nm).length ≤ ls.length := by
  unfold chainL
  rw [List.length_map]
  exact rch_len ls run nm
theorem chain_sub {ls : List Lnk} {run nm : Str} {x : Lnk} (h : x ∈ chainL ls run nm) : x ∈ ls := by
  unfold chainL at h
  obtain ⟨k, hk, rfl⟩ := List.mem_map.1 h
  obtain ⟨y, hy⟩ := get_some (rch_mem.1 hk).2.1
  rw [get_bang hy]
  exact List.mem_of_getElem? hy
theorem flat_bound {α β : Type} {f : α → List β} {n : Nat} : ∀ {l : List α}, (∀ x ∈ l, (f x).length ≤ n) → (l.flatMap f).length ≤ l.length * n
  | [], _ => by simp
  | x :: l, h => by
    have h1 := h x (by simp)
    have h2 := flat_bound (f := f) (n := n) (l := l) fun y hy => h y (by simp [hy])
    rw [List.flatMap_cons, List.length_append, List.length_cons, Nat.add_mul]
    omega
theorem src_len {l : List Lkr} {run nm : Str} (hm : MildL l) : (srt (srcL (l.map Lkr.h) run nm)).length ≤ l.length * 1000000 := by
  refine Nat.le_trans (srt_len _) ?_
  unfold srcL
  refine Nat.le_trans (flat_bound (n := 1000000) fun x hx => ?_) (Nat.mul_le_mul_right _ ?_)
  · obtain ⟨y, hy, rfl⟩ := List.mem_map.1 (chain_sub hx)
    unfold flsL
    exact Nat.le_trans (List.length_filterMap_le _ _) (hm.each y hy).len
  · have := chain_len (l.map Lkr.h) run nm
    rwa [List.length_map] at this
theorem chain_mild {l l' : List Lkr} {run nm : Str} (hm : MildL l) (h : l'.map Lkr.h = chainL (l.map Lkr.h) run nm) : MildL l' := by
  refine mild_map (fun x hx => chain_sub (by rwa [h] at hx)) ?_ hm
  have h1 := congrArg List.length h
  rw [List.length_map] at h1
  have h2 := chain_len (l.map Lkr.h) run nm
  rw [List.length_map] at h2
  have := hm.len
  omega
end Go.Proofs.YtjkijknjngiieaaGreatDoor
