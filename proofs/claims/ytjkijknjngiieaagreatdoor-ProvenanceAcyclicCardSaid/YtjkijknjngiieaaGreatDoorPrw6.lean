/-
  The walks of provenance: links in new memory, one more; a link looked up, by the program.
-/
import Derived.Test.YtjkijknjngiieaaGreatDoorPrw5


namespace Go.Proofs.YtjkijknjngiieaaGreatDoor
open Go.RowKit

/-- A block of outputs. -/
def OB (w : World) (g : Nat) : Prop := ∃ (cs : Array Value) (fz : Nat × Nat), w.heap[g]? = some (.cells cs 29 fz)
theorem OB.lt {w : World} {g : Nat} (h : OB w g) : g < w.heap.size := by
  obtain ⟨cs, fz, h⟩ := h
  rcases Nat.lt_or_ge g w.heap.size with h1 | h1
  · exact h1
  · rw [Array.getElem?_eq_none h1] at h; cases h
/-- A link's inputs read as what they are, and lie in a block of outputs. -/
def LabL (w : World) (x : Lkr) : Prop := LabLkr w w.heap.size x ∧ ∀ p, x.insA = some p → OB w p.block
theorem LabL.keep {w w' : World} {x : Lkr} (h : LabL w x) (hb : ∀ g, OB w g → w'.heap[g]? = w.heap[g]?) (hz : w.heap.size ≤ w'.heap.size) : LabL w' x := by
  refine ⟨⟨h.1.1, h.1.2.1, fun hn => ?_⟩, fun p hp => ?_⟩
  · obtain ⟨g, o, e, hg, hc⟩ := h.1.2.2 hn
    have hs := hb g (h.2 _ e)
    exact ⟨g, o, e, by omega, fun i y hy j u hu => (World.cell?_of_block hs).trans (hc i y hy j u hu)⟩
  · obtain ⟨cs, fz, h1⟩ := h.2 p hp
    exact ⟨cs, fz, (hb _ (h.2 p hp)).trans h1⟩
theorem LabL.all {w w' : World} {x : Lkr} (h : LabL w x) (hb : Below w.heap.size w w') : LabL w' x := h.keep (fun g hg => hb.block g hg.lt) hb.size
theorem own_labl {w : World} {H c : Nat} {A : Option Addr} (x : Lkr) (h : Own outRE 3 29 w H (.slice A x.ins.length c) x.ins) : LabL w (atIns x A c) := by
  obtain ⟨A1, c1, e, h1, h2, _⟩ := h.form
  simp only [Value.slice.injEq] at e
  obtain ⟨rfl, -, rfl⟩ := e
  refine ⟨⟨h1, h2, h.reads outRE_len⟩, fun p hp => ?_⟩
  change A = some p at hp
  subst hp
  rcases h.2 with ⟨e0, _⟩ | ⟨g, cap, cur, e0, hb, hg, _⟩
  · cases e0
  · simp only [Value.slice.injEq, Option.some.injEq] at e0
    obtain ⟨rfl, _⟩ := e0
    exact ⟨cur, _, hg⟩
theorem row_ob {w : World} {H : Nat} {v : Value} {l : List Lkr} (h : Own lkrE 8 31 w H v l) {g : Nat} (hs : OB w g) : v.ownBlock ≠ some g := by
  intro e
  obtain ⟨cs, fz, hg⟩ := hs
  rcases h.2 with ⟨rfl, _⟩ | ⟨b, cap, cur, rfl, _, hb, _⟩
  · cases e
  · simp only [Value.ownBlock, Option.some.injEq] at e
    subst e
    rw [hb] at hg
    simp at hg
/-- A list of links of the call's own. -/
structure OwnL (w : World) (H : Nat) (v : Value) (l : List Lkr) : Prop where
  row : Own lkrE 8 31 w H v l
  labs : ∀ x ∈ l, LabL w x
theorem OwnL.all {w w' : World} {H : Nat} {v : Value} {l : List Lkr} (h : OwnL w H v l) (hb : Below w.heap.size w w') : OwnL w' H v l := ⟨h.row.all hb, fun x hx => (h.labs x hx).all hb⟩
theorem OwnL.reads {w : World} {H : Nat} {A : Option Addr} {n c : Nat} {l : List Lkr} (h : OwnL w H (.slice A n c) l) : RwL w w.heap.size A l := ⟨h.row.reads lkrE_len, fun x hx => (h.labs x hx).1⟩
theorem OwnL.nil (w : World) (H : Nat) : OwnL w H (.slice none 0 0) [] := ⟨Own.nil _ _ _, fun _ h => absurd h List.not_mem_nil⟩
theorem OwnL.base {w : World} {H H' : Nat} {v : Value} {l : List Lkr} (h : OwnL w H v l) (hb : H' ≤ H) : OwnL w H' v l := ⟨own_base h.row hb, h.labs⟩
theorem OwnL.grown {w w' : World} {H : Nat} {v v' : Value} {l m : List Lkr} (h : OwnL w H v l) (ho : Own lkrE 8 31 w' H v' m) (hg : w.grownBy w' v.ownBlock) (hm : ∀ x ∈ m, x ∈ l ∨ LabL w x) : OwnL w' H v' m := by
  refine ⟨ho, fun x hx => ?_⟩
  have hx2 : LabL w x := (hm x hx).elim (h.labs x) id
  exact hx2.keep (fun g hs => hg.block g hs.lt (fun e => row_ob h.row hs e.symm)) hg.size
theorem rw_lkr {w : World} {g B : Nat} {x : Lkr} (hg : g = w.heap.size) (hB : g < B) : Rw lkrE 8 (w.alloc (.cells #[.string x.run.1, .string x.job.1, .int .i64 x.attempt.1, .int .u64 x.spec.1, .slice x.insA x.ins.length x.insC, .string x.name.1, .int .u64 x.digest.1, .int .i64 x.size.1] 31)) B (some ⟨g, 0, none⟩) [x] := by
  subst hg
  refine fun _ => ⟨_, 0, rfl, hB, fun i y hy j u hu => ?_⟩
  match i, hy with
  | 0, hy =>
    obtain rfl : x = y := by simpa using hy
    have hj : j < 8 := by
      have := (List.getElem?_eq_some_iff.1 hu).1
      rwa [lkrE_len] at this
    simp only [Nat.zero_mul, Nat.zero_add]
    exact box_cells w _ _ j _ hu
  | i + 1, hy => simp at hy
theorem lkr_info : (Tryz.prog.info? 31).map (fun i => (i.zero, i.size, i.bytes)) = some (some (.agg #[.string ByteArray.empty, .string ByteArray.empty, .int .i64 0, .int .u64 0, .slice none 0 0, .string ByteArray.empty, .int .u64 0, .int .i64 0]), 8, 104) := by kernel_rfl
/-- Links that are not larger than a machine's. -/
structure MildL (l : List Lkr) : Prop where
  len : l.length ≤ 1000000
  each : ∀ x ∈ l, MildK x
end Go.Proofs.YtjkijknjngiieaaGreatDoor
