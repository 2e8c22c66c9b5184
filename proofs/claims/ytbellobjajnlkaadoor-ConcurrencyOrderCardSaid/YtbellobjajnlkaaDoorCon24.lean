/-
  The walks of groups: a job leaves all groups, by the program.
-/
import Derived.Test.YtbellobjajnlkaaDoorCon1315
import Derived.Test.YtbellobjajnlkaaDoorCon19
import Derived.Test.YtbellobjajnlkaaDoorCon20
import Derived.Test.YtbellobjajnlkaaDoorCon14



namespace Go.Proofs.YtbellobjajnlkaaDoor
open Go.RowKit

attribute [local go_sem ↓] eq_ref ne_ref
/-- The groups that a job has left, as far as the loop has gone. -/
def leaveT (gs : List G) (r : JRef) (i : Nat) : List G := ((gs.take i).map (dropG r)).filter fun g => decide (jobsG g ≠ [])
theorem leaveT_next {gs : List G} {r : JRef} {i : Nat} {x : G} (hx : gs[i]? = some x) : leaveT gs r (i + 1) = leaveT gs r i ++ if jobsG (dropG r x) = [] then [] else [dropG r x] := by
  unfold leaveT
  rw [take_snoc hx, List.map_append, List.filter_append]
  congr 1
  by_cases h : jobsG (dropG r x) = [] <;> simp [h]
/-- The state of the loop: the copied row; what is not yet looked at; what is kept. -/
structure MidL (w6 w : World) (H g n c : Nat) (l L : List Grp) (vo : Value) (r : JRef) (i : Nat) : Prop where
  row : Own grpE 4 45 w H (.slice (some ⟨g, 0, none⟩) n c) l
  rest : ∀ (j : Nat) (x : Grp), i ≤ j → l[j]? = some x → OwnG w H x
  outs : ∀ y ∈ L, OwnG w H y ∧ ∃ (j : Nat) (x : Grp), j < i ∧ l[j]? = some x ∧ blkG y = blkG x
  out : Own grpE 4 45 w w6.heap.size vo L
  maps : L.map Grp.g = leaveT (l.map Grp.g) r i
/-- What holds of a list of copied groups throughout. -/
structure FixL (w6 : World) (g : Nat) (l : List Grp) : Prop where
  lt : ∀ x ∈ l, ∀ q, blkG x = some q → q < w6.heap.size
  row : ∀ x ∈ l, blkG x ≠ some g
  apart : ∀ (i j : Nat) (x y : Grp), i < j → l[i]? = some x → l[j]? = some y → ∀ q, blkG x = some q → blkG y ≠ some q
  glt : g < w6.heap.size
theorem FixL.of {w6 : World} {H g n c : Nat} {l : List Grp} (h : OwnGL w6 H (.slice (some ⟨g, 0, none⟩) n c) l) : FixL w6 g l :=
  ⟨fun x hx q hq => (OwnG.lt (h.labs x hx).1 hq).2, fun x hx e => (h.labs x hx).2 g e rfl, fun i j x y hij hx hy => by
    obtain ⟨hi, ex⟩ := List.getElem?_eq_some_iff.1 hx
    obtain ⟨hj, ey⟩ := List.getElem?_eq_some_iff.1 hy
    have := List.pairwise_iff_getElem.1 h.apart i j hi hj hij
    rw [ex, ey] at this
    exact this, (h.row.lt g rfl).2⟩
theorem MidL.start {w6 : World} {H g n c : Nat} {l : List Grp} {r : JRef} (h : OwnGL w6 H (.slice (some ⟨g, 0, none⟩) n c) l) : MidL w6 w6 H g n c l [] (.slice none 0 0) r 0 :=
  ⟨h.row, fun _j x _ hx => (h.labs x (List.mem_of_getElem? hx)).1, nofun, Own.nil _ _ _, rfl⟩
/-- After a group's waiting jobs were looked through. -/
structure CoreL (w6 w : World) (H g n c : Nat) (l L : List Grp) (vo : Value) (y : Grp) (i : Nat) : Prop where
  row : Own grpE 4 45 w H (.slice (some ⟨g, 0, none⟩) n c) l
  rest : ∀ (j : Nat) (x : Grp), i + 1 ≤ j → l[j]? = some x → OwnG w H x
  outs : ∀ y ∈ L, OwnG w H y ∧ ∃ (j : Nat) (x : Grp), j < i ∧ l[j]? = some x ∧ blkG y = blkG x
  out : Own grpE 4 45 w w6.heap.size vo L
  new : OwnG w H y
theorem MidL.core {w6 wr W w7 w8 : World} {H g n c i : Nat} {l L : List Grp} {vo : Value} {r : JRef} {x y : Grp} (h : MidL w6 wr H g n c l L vo r i) (hf : FixL w6 g l) (h6 : w6.heap.size ≤ wr.heap.size) (hx : l[i]? = some x)
    (h1 : Below wr.heap.size wr W) (h2 : But W.heap.size (blkG x) W w7) (h3 : Below wr.heap.size w7 w8) (hy : OwnG w7 H y) (hyb : blkG y = blkG x) : CoreL w6 w8 H g n c l L vo y i := by
  have hxm := List.mem_of_getElem? hx
  have hq : ∀ q, q < wr.heap.size → blkG x ≠ some q → w8.heap[q]? = wr.heap[q]? := fun q hlt hne => (h3.block q hlt).trans ((h2.block q (Nat.lt_of_lt_of_le hlt h1.size) (fun e => hne e.symm)).trans (h1.block q hlt))
  refine ⟨Own.far h.row fun q e => ?_, fun j z hj hz => Own.far (h.rest j z (by omega) hz) fun q e => ?_, fun z hz => ?_, Own.far h.out fun q e => ?_, Own.far hy fun q e => ?_⟩
  · simp only [Value.ownBlock, Option.some.injEq] at e
    subst e
    exact hq _ (Nat.lt_of_lt_of_le hf.glt h6) (hf.row x hxm)
  · refine hq q (Nat.lt_of_lt_of_le (hf.lt z (List.mem_of_getElem? hz) q e) h6) fun e2 => ?_
    exact hf.apart i j x z (by omega) hx hz q e2 e
  · obtain ⟨h4, j, z2, hj, hz2, hb⟩ := h.outs z hz
    refine ⟨Own.far h4 fun q e => ?_, j, z2, hj, hz2, hb⟩
    have e3 : blkG z2 = some q := by rw [← hb]; exact e
    exact hq q (Nat.lt_of_lt_of_le (hf.lt z2 (List.mem_of_getElem? hz2) q e3) h6) fun e2 => hf.apart j i z2 x hj hz2 hx q e3 e2
  · have h5 := h.out.lt q e
    refine hq q h5.2 fun e2 => ?_
    have := hf.lt x hxm q e2
    omega
  · have e3 : blkG x = some q := by rw [← hyb]; exact e
    exact h3.block q (Nat.lt_of_lt_of_le (hf.lt x hxm q e3) h6)
theorem CoreL.drop {w6 w : World} {H g n c i : Nat} {l L : List Grp} {vo : Value} {r : JRef} {x y : Grp} (h : CoreL w6 w H g n c l L vo y i) (hm : L.map Grp.g = leaveT (l.map Grp.g) r i) (hx : l[i]? = some x) (hyg : y.g = dropG r x.g) (hj : jobsG y.g = []) : MidL w6 w H g n c l L vo r (i + 1) :=
  ⟨h.row, h.rest, fun z hz => by
    obtain ⟨h4, j, z2, hj, hz2, hb⟩ := h.outs z hz
    exact ⟨h4, j, z2, by omega, hz2, hb⟩, h.out, by
    rw [leaveT_next (x := x.g) (by rw [List.getElem?_map, hx]; rfl), ← hyg, if_pos hj, List.append_nil]
    exact hm⟩
theorem CoreL.keep {w6 w W w9 : World} {H g n c i : Nat} {l L : List Grp} {vo v9 : Value} {r : JRef} {x y : Grp} (h : CoreL w6 w H g n c l L vo y i) (hf : FixL w6 g l) (hm : L.map Grp.g = leaveT (l.map Grp.g) r i) (hx : l[i]? = some x) (hyg : y.g = dropG r x.g) (hyb : blkG y = blkG x) (hj : ¬ jobsG y.g = [])
    (h1 : Below w.heap.size w W) (h2 : W.grownBy w9 vo.ownBlock) (h3 : Own grpE 4 45 w9 w6.heap.size v9 (L ++ [y])) : MidL w6 w9 H g n c l (L ++ [y]) v9 r (i + 1) := by
  have hxm := List.mem_of_getElem? hx
  have hout : ∀ q, q < w6.heap.size → some q ≠ vo.ownBlock := fun q hq e => by
    have := (h.out.lt q e.symm).1
    omega
  have hg : ∀ {z : Grp}, OwnG w H z → (∀ q, blkG z = some q → q < w6.heap.size) → OwnG w9 H z := fun hz hl => Own.grown (Own.all hz h1) h2 fun q hq => hout q (hl q hq)
  refine ⟨Own.grown (Own.all h.row h1) h2 fun q hq => ?_, fun j z hj hz => hg (h.rest j z hj hz) (hf.lt z (List.mem_of_getElem? hz)), fun z hz => ?_, h3, ?_⟩
  · simp only [Value.ownBlock, Option.some.injEq] at hq
    subst hq
    exact hout _ hf.glt
  · rcases List.mem_append.1 hz with h4 | h4
    · obtain ⟨h5, j, z2, hj, hz2, hb⟩ := h.outs z h4
      exact ⟨hg h5 (fun q hq => hf.lt z2 (List.mem_of_getElem? hz2) q (by rw [← hb]; exact hq)), j, z2, by omega, hz2, hb⟩
    · obtain rfl := List.mem_singleton.1 h4
      exact ⟨hg h.new (fun q hq => hf.lt x hxm q (by rw [← hyb]; exact hq)), i, x, by omega, hx, hyb⟩
  · rw [leaveT_next (x := x.g) (by rw [List.getElem?_map, hx]; rfl), ← hyg, if_neg hj, List.map_append, hm]
    rfl
theorem leaveT_all (gs : List G) (r : JRef) (hv : validB gs = true) {i : Nat} (hi : gs.length ≤ i) : leaveT gs r i = leaveL gs r := by
  unfold leaveT leaveL
  rw [if_neg (by rw [hv]; decide), List.take_of_length_le hi]
theorem drop_len {w6 w : World} {H g n c i : Nat} {l L : List Grp} {vo : Value} {r : JRef} (h : MidL w6 w H g n c l L vo r i) : L.length ≤ i := by
  have h1 := congrArg List.length h.maps
  rw [List.length_map] at h1
  rw [h1]
  unfold leaveT
  refine Nat.le_trans (List.length_filter_le _ _) ?_
  rw [List.length_map, List.length_take]
  omega
end Go.Proofs.YtbellobjajnlkaaDoor
