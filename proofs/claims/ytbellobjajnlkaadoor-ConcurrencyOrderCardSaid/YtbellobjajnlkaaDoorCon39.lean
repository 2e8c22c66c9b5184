/-
  The walks of groups: a group is looked up and read, all jobs, by what the groups are.
-/
import Derived.Test.YtbellobjajnlkaaDoorCon33
import Derived.Test.YtbellobjajnlkaaDoorCon35



namespace Go.Proofs.YtbellobjajnlkaaDoor
open Go.RowKit

theorem find_st {W0 W : World} {A : Option Addr} {c : Nat} {L : List Grp} {gs : List G} (h : St W0 A c L gs) (hb : Below W0.heap.size W0 W) (hm : MildG gs) (p : Str) :
    Calls Tryd.prog 18 #[.slice A L.length c, .string p.1] W fun e w' => e = .returned (.int .i64 (findN p gs)) ∧ W = w' := by
  obtain ⟨h1, h2, rfl⟩ := h.keep hb
  exact rfind_any A c L p W h1.row (by have := hm.mild.len; omega)
theorem all_st {W0 W : World} {A : Option Addr} {c : Nat} {L : List Grp} {gs : List G} (h : St W0 A c L gs) (hb : Below W0.heap.size W0 W) (hm : MildG gs) :
    Calls Tryd.prog 20 #[.slice A L.length c] W fun e w' => ∃ (A' : Option Addr) (c' : Nat), e = .returned (.slice A' (allG gs).length c') ∧ Rw jRefE 2 w' w'.heap.size A' (allG gs) ∧ Below W.heap.size W w' := by
  obtain ⟨h1, h2, rfl⟩ := h.keep hb
  refine (rall_any A c L W h1 hm.all hm.mild.wait hm.mild.len).mono ?_
  rintro e w' ⟨v, rfl, hown, hbw⟩
  obtain ⟨A', c', rfl, _, _, _⟩ := hown.form
  exact ⟨A', c', rfl, hown.reads (fun _ => rfl), hbw⟩
/-- A group of the list, read. -/
theorem St.at {W0 : World} {A : Option Addr} {c : Nat} {L : List Grp} {gs : List G} (h : St W0 A c L gs) {k : Nat} {J : G} (hk : gs[k]? = some J) :
    ∃ (g o : Nat) (x : Grp), A = some ⟨g, o, none⟩ ∧ g < W0.heap.size ∧ x.g = J ∧ k < L.length ∧
      W0.cell? ⟨g, o + k * 4, none⟩ = some (.string x.name.1) ∧ W0.cell? ⟨g, o + k * 4 + 1, none⟩ = some (.string x.run.1) ∧ W0.cell? ⟨g, o + k * 4 + 2, none⟩ = some (.string x.job.1) ∧ W0.cell? ⟨g, o + k * 4 + 3, none⟩ = some (.slice x.waitA x.wait.length x.waitC) ∧
      x.wait.length ≤ x.waitC ∧ Rw jRefE 2 W0 W0.heap.size x.waitA x.wait := by
  have h2 := hk
  rw [← h.eq, List.getElem?_map, Option.map_eq_some_iff] at h2
  obtain ⟨x, hx, hxJ⟩ := h2
  have hkl := (List.getElem?_eq_some_iff.1 hx).1
  obtain ⟨g, o, rfl, hg, q⟩ := h.row.row (by omega)
  have hl := h.row.labs x (List.mem_of_getElem? hx)
  have q0 := q k x hx 0 (.string x.name.1) rfl
  rw [Nat.add_zero] at q0
  exact ⟨g, o, x, rfl, hg, hxJ, hkl, q0, q k x hx 1 (.string x.run.1) rfl, q k x hx 2 (.string x.job.1) rfl, q k x hx 3 (.slice x.waitA x.wait.length x.waitC) rfl, hl.1, hl.2.2⟩
theorem index_rw {W0 W : World} {A : Option Addr} {c : Nat} {l : List JRef} (h : Rw jRefE 2 W0 W0.heap.size A l) (hb : Below W0.heap.size W0 W) (hn : l.length ≤ 9223372036854775807) (r : JRef) :
    Calls Tryd.prog 19 #[.slice A l.length c, .agg #[.string r.run.1, .string r.job.1]] W fun e w' => e = .returned (.int .i64 (idxI l r)) ∧ Below W.heap.size W w' :=
  index_any A c l r W ((h.below hb (Nat.le_refl _)).more hb.size) hn
theorem last_rw {W0 W : World} {A : Option Addr} {c : Nat} {l : List JRef} (h : Rw jRefE 2 W0 W0.heap.size A l) (hb : Below W0.heap.size W0 W) (hn : l.length ≤ 9223372036854775807) (r : JRef) :
    Calls Tryd.prog 29 #[.slice A l.length c, .agg #[.string r.run.1, .string r.job.1]] W fun e w' => e = .returned (.int .i64 (lastI l r)) ∧ Below W.heap.size W w' :=
  last_any A c l r W ((h.below hb (Nat.le_refl _)).more hb.size) hn

theorem index_end {l l0 : List JRef} {r : JRef} (h : l = l0 ++ [r]) (hr : r ∉ l0) : idxI l r = ((l.length : Nat) : Int) - 1 := by
  rw [h, idx_end hr, List.length_append]
  simp
theorem idx_dec (l : List JRef) (r : JRef) : (0 ≤ idxI l r ∧ r ∈ l) ∨ (idxI l r = -1 ∧ r ∉ l) := by
  by_cases h : r ∈ l
  · exact .inl ⟨idx_mem h, h⟩
  · exact .inr ⟨idx_none h, h⟩
end Go.Proofs.YtbellobjajnlkaaDoor
