/-
  The walks of provenance: what is reached, by the program.
-/
import Derived.Test.YtjkijknjngiieaaGreatDoorPrw8


namespace Go.Proofs.YtjkijknjngiieaaGreatDoor
open Go.RowKit

section
variable {ls : List Lnk} {run : Str} {w w' : World} {tr tm mb ts sb tq cnt : Nat} {m : List Bool} {st : List Nat}
theorem Vis.pop {k : Nat} (h : Vis ls run w tr tm mb ts sb tq cnt m (st ++ [k])) : ∃ g c, w.cell? ⟨tq, 0, none⟩ = some (.slice (some ⟨g, 0, none⟩) (st.length + 1) c) ∧ st.length + 1 ≤ c ∧ c ≤ maxLen ∧ w.cell? ⟨g, st.length, none⟩ = some (.int .i64 (k : Int)) ∧ tq < g ∧ g < w.heap.size ∧ Vis ls run (w.setCell ⟨tq, 0, none⟩ (.slice (some ⟨g, 0, none⟩) st.length c)) tr tm mb ts sb tq cnt m st := by
  obtain ⟨o1, o2, o3, o4, o5, o6⟩ := h.ord
  obtain ⟨A, c, h1, h2⟩ := h.stk
  have hlen : (st ++ [k]).length = st.length + 1 := by simp
  obtain ⟨g, cap, hv, hb, hlt⟩ := World.ownsRow.form h2 (by omega)
  simp only [Value.slice.injEq] at hv
  obtain ⟨rfl, _, rfl⟩ := hv
  obtain ⟨_, hc, hm, cur, hg, hs⟩ := own_block h2
  have hcell : w.cell? ⟨g, st.length, none⟩ = some (.int .i64 (k : Int)) := by
    have hf : ((st ++ [k]).flatMap nE)[st.length * 1 + 0]? = some (.int .i64 (k : Int)) := flat_at nE_len (x := k) (by simp) rfl
    rw [Nat.mul_one, Nat.add_zero] at hf
    rw [h2.cellAt st.length (by rw [Nat.mul_one]; omega)]
    exact hf
  have hT := own_take nE_len h2
  have hto : tq < g := by omega
  refine ⟨g, c, by rw [h1, hlen], by omega, hm, hcell, hto, hlt, ?_⟩
  have ho : ∀ b, b ≠ tq → ∀ o, (w.setCell ⟨tq, 0, none⟩ (.slice (some ⟨g, 0, none⟩) st.length c)).cell? ⟨b, o, none⟩ = w.cell? ⟨b, o, none⟩ := fun b hb o => World.cell?_setCell_other _ _ _ _ (by intro e; simp at e <;> omega)
  have hB : Below tq w (w.setCell ⟨tq, 0, none⟩ (.slice (some ⟨g, 0, none⟩) st.length c)) := Below.setCell (p := ⟨tq, 0, none⟩) (Below.refl tq w) (Nat.le_refl tq) _
  have hz := hB.size
  refine ⟨(ho tm (by omega) 0).trans h.map, (ho tr (by omega) 0).trans h.run, (ho ts (by omega) 0).trans h.seen, ⟨_, c, World.cell?_setCell_same _ _ _ h1, hT.setCell (fun q hq => by simp [Value.ownBlock] at hq; show q ≠ tq; omega) _⟩, ?_, h.know.keep hB (by omega), h.len, h.row.setCell (fun q hq => by simp [Value.ownBlock] at hq; show q ≠ tq; omega) _, o1, o2, o3, o4, o5, by omega⟩
  have f0 := h.frz
  go_simp
theorem Vis.done (h : Vis ls run w tr tm mb ts sb tq cnt m []) : ∃ A c, w.cell? ⟨tq, 0, none⟩ = some (.slice A 0 c) := by
  obtain ⟨A, c, h1, _⟩ := h.stk
  exact ⟨A, c, h1⟩
/-- How much is left tq do, as the memory tells. -/
def muW (n sb tq : Nat) (w : World) : Nat := 2 * (List.range n).countP (fun k => match w.cell? ⟨sb, k, none⟩ with | some (.bool b) => !b | _ => false) + (match w.cell? ⟨tq, 0, none⟩ with | some (.slice _ n _) => n | _ => 0)
theorem muM_range (m : List Bool) : muM m = (List.range m.length).countP (fun k => match m[k]? with | some b => !b | none => false) := by
  unfold muM
  induction m with
  | nil => rfl
  | cons b m ih =>
    rw [List.length_cons, List.range_succ_eq_map, List.countP_cons, List.countP_cons, List.countP_map, ih]
    congr 1
    cases b <;> rfl
theorem Vis.mu (h : Vis ls run w tr tm mb ts sb tq cnt m st) : muW ls.length sb tq w = 2 * muM m + st.length := by
  have hl := h.len
  obtain ⟨A, c, h1, h2⟩ := h.stk
  unfold muW
  rw [h1, muM_range, hl]
  congr 2
  apply List.countP_congr
  intro k hk
  rw [List.mem_range] at hk
  obtain ⟨b, hb⟩ := get_some (show k < m.length by omega)
  have hf : (m.flatMap bE)[k * 1 + 0]? = some (.bool b) := flat_at bE_len hb rfl
  rw [Nat.mul_one, Nat.add_zero] at hf
  have hc : w.cell? ⟨sb, k, none⟩ = some (.bool b) := by
    rw [h.row.cellAt k (by rw [Nat.mul_one]; omega)]
    exact hf
  rw [hc, hb]
end
theorem bool_info : (Tryz.prog.info? 4).map (fun i => (i.zero, i.size, i.bytes)) = some (some (.bool false), 1, 1) := by kernel_rfl
theorem flat_bE (n : Nat) (b : Bool) : (List.replicate n b).flatMap bE = List.replicate n (.bool b) := by
  induction n with
  | zero => rfl
  | succ n ih => rw [List.replicate_succ, List.flatMap_cons, ih, List.replicate_succ]; rfl
end Go.Proofs.YtjkijknjngiieaaGreatDoor
