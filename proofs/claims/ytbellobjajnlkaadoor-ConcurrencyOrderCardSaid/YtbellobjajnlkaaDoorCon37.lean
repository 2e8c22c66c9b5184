/-
  Groups of jobs: that nothing in them grows too large (plain).
-/
import Derived.Test.YtbellobjajnlkaaDoorCon33
namespace Go.Proofs.YtbellobjajnlkaaDoor
open Go.RowKit

theorem jobs_wait {g : G} {r : JRef} (h : r ∈ g.wait) : r ∈ jobsG g := mem_wait h
theorem mild_leave {gs : List G} {r : JRef} (h : MildG gs) : MildG (leaveL gs r) := by
  unfold leaveL
  split
  · exact h
  · have hsub := all_drop r gs
    refine ⟨?_, Nat.le_trans hsub.length_le h.all, fun g hg => ?_, fun g hg => ?_, fun s hs => h.refs s (hsub.subset hs)⟩
    · refine Nat.le_trans (List.length_filter_le _ _) ?_
      rw [List.length_map]
      exact h.len
    · obtain ⟨g0, hg0, rfl⟩ := List.mem_map.1 (List.mem_filter.1 hg).1
      exact Nat.le_trans (List.length_filter_le _ _) (h.wait g0 hg0)
    · obtain ⟨g0, hg0, rfl⟩ := List.mem_map.1 (List.mem_filter.1 hg).1
      exact h.name g0 hg0
theorem mild_start {gs : List G} {nm : Str} {r : JRef} (h : MildG gs) : MildG (startL gs nm r) := by
  by_cases hE : startE gs nm r = 0
  · obtain ⟨A, x, B, t, e1, e2, hn, h1, h2⟩ := start_split hE
    have hj : jobsG x = r :: t := by unfold jobsG; rw [if_pos h1, h2]
    have hxm : x ∈ gs := by rw [e1]; simp
    have hrz : ∀ s ∈ jobsG (⟨x.name, r, t⟩ : G), s ∈ jobsG x := fun s hs => by
      rw [hj]
      unfold jobsG at hs
      split at hs
      · exact List.mem_cons_of_mem _ hs
      · exact hs
    have hlen : (jobsG (⟨x.name, r, t⟩ : G)).length ≤ (jobsG x).length := by
      rw [hj]
      unfold jobsG
      split <;> simp
    rw [e2]
    refine ⟨?_, ?_, fun g hg => ?_, fun g hg => ?_, fun s hs => h.refs s ?_⟩
    · have := h.len
      rw [e1] at this
      simpa using this
    · have := h.all
      rw [e1, all_app, all_cons] at this
      rw [all_app, all_cons]
      simp only [List.length_append] at this ⊢
      omega
    · rcases List.mem_append.1 hg with h3 | h3
      · exact h.wait g (by rw [e1]; simp [h3])
      · rcases List.mem_cons.1 h3 with rfl | h4
        · have := h.wait x hxm
          rw [h2] at this
          simp only [List.length_cons] at this
          show t.length ≤ _
          omega
        · exact h.wait g (by rw [e1]; simp [h4])
    · rcases List.mem_append.1 hg with h3 | h3
      · exact h.name g (by rw [e1]; simp [h3])
      · rcases List.mem_cons.1 h3 with rfl | h4
        · exact h.name x hxm
        · exact h.name g (by rw [e1]; simp [h4])
    · rw [all_app, all_cons] at hs
      rw [e1, all_app, all_cons]
      rcases List.mem_append.1 hs with h3 | h3
      · exact List.mem_append_left _ h3
      · rcases List.mem_append.1 h3 with h4 | h4
        · exact List.mem_append_right _ (List.mem_append_left _ (hrz s h4))
        · exact List.mem_append_right _ (List.mem_append_right _ h4)
  · unfold startL
    rw [if_pos hE]
    exact h
theorem mild_enter {gs : List G} {nm : Str} {r : JRef} {p : Int} (h : MildG gs) (hn : nm.1.size < 4294967281) (hr : shortR r) : MildG (enterL gs nm r p) := by
  by_cases hE : enterE gs nm r p = 0
  · have hv := val_enter hE
    have hall : ∀ s ∈ allG (enterL gs nm r p), s = r ∨ s ∈ allG gs := fun s hs => by
      obtain ⟨g, hg, hsg⟩ := all_mem.1 hs
      rcases enter_mem hE hg with rfl | ⟨h1, _⟩
      · obtain ⟨A, m, B, e, ep, hm⟩ := enter_split hE
        rcases hm with ⟨_, hg2, _⟩ | ⟨x, rfl, _, hg2, hx⟩
        · rw [hg2] at hsg
          unfold joinG at hsg
          rw [if_pos ⟨rfl, rfl⟩] at hsg
          unfold jobsG at hsg
          split at hsg
          · exact absurd hsg (by simp)
          · exact .inl (by simpa using hsg)
        · rw [hg2] at hsg
          have := (jobs_join (r := r) (p := p) hx).1.subset hsg
          rcases List.mem_append.1 this with h3 | h3
          · exact .inr (all_mem.2 ⟨x, by rw [e]; simp, h3⟩)
          · exact .inl (by simpa using h3)
      · exact .inr (all_mem.2 ⟨g, h1, hsg⟩)
    have hjw : ∀ g : G, g.wait.length ≤ (jobsG g).length := fun g => by unfold jobsG; split <;> simp
    have hja : ∀ g ∈ enterL gs nm r p, (jobsG g).length ≤ (allG (enterL gs nm r p)).length := fun g hg => by
      obtain ⟨k, hk⟩ := List.getElem?_of_mem hg
      obtain ⟨e, _⟩ := set_split g hk
      rw [e, all_app, all_cons]
      simp only [List.length_append]
      omega
    have h4 := hv.len
    refine ⟨?_, by omega, fun g hg => ?_, fun g hg => ?_, fun s hs => ?_⟩
    · obtain ⟨A, m, B, e, ep, hm⟩ := enter_split hE
      have hl : gs.length ≤ (allG gs).length := by
        have hvo := (enterE_ok hE).1.some
        clear hE hv hall hja h4 e ep hm h
        induction gs with
        | nil => simp
        | cons g gs ih =>
          rw [all_cons, List.length_append]
          have h1 := List.length_pos_iff.2 (hvo g (by simp))
          have h2 := ih (fun g hg => hvo g (by simp [hg]))
          simp only [List.length_cons]
          omega
      have h5 := (enterE_ok hE).1.len
      have h6 := congrArg List.length e
      rw [ep]
      simp only [List.length_append, List.length_cons] at h6 ⊢
      omega
    · have := hjw g
      have := hja g hg
      omega
    · rcases enter_mem hE hg with rfl | ⟨h1, _⟩
      · rw [joinG_name, getG_name]
        exact hn
      · exact h.name g h1
    · rcases hall s hs with rfl | h3
      · exact hr
      · exact h.refs s h3
  · unfold enterL
    rw [if_pos hE]
    exact h
theorem can_len {gs : List G} {nm : Str} {r : JRef} {p : Int} (h : MildG gs) : (enterCan gs nm r p).length ≤ 1000001 := by
  have hw : (getG gs nm).wait.length ≤ 1000000 := by
    unfold getG
    split
    · rename_i hh
      obtain ⟨x, hx, _⟩ := has_at hh
      rw [get_bang hx]
      exact h.wait x (List.mem_of_getElem? hx)
    · exact Nat.zero_le _
  unfold enterCan joinCan
  split
  · simp
  · split
    · simp
    · rw [List.length_append]
      split <;> split <;> simp <;> omega
end Go.Proofs.YtbellobjajnlkaaDoor
