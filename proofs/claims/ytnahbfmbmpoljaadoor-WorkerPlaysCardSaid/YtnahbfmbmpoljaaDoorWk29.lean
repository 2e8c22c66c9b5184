/-
  Workers: a worker remains valid (plain).
-/
import Derived.Test.YtnahbfmbmpoljaaDoorWk26
namespace Go.Proofs.YtnahbfmbmpoljaaDoor
open Go.RowKit

theorem wErr_of {x : Work} (h1 : nameB x.id.1 = true) (h2 : labE x.labs = 0) (h3 : rangeB x = true) (h4 : tillB x = true) (h5 : toksB x.toks = true) (h6 : (x.toks.length : Int) ≤ x.slots.1) : wErr x = 0 := by
  unfold wErr
  rw [if_neg (by rw [h1]; decide), if_neg (by omega), if_neg (by rw [h3]; decide), if_neg (by rw [h4]; decide), if_neg (by rw [h5]; decide), if_neg (by omega)]
theorem range_of {x : Work} (h : 0 ≤ x.trust.1 ∧ x.trust.1 ≤ 2 ∧ 1 ≤ x.slots.1 ∧ x.slots.1 ≤ 64 ∧ 0 ≤ x.phase.1 ∧ x.phase.1 ≤ 3 ∧ 0 ≤ x.beat.1 ∧ x.beat.1 ≤ 1125899906842624 ∧ 0 ≤ x.till.1 ∧ x.till.1 ≤ 1125899906842624) : rangeB x = true := by
  unfold rangeB timeB
  simp only [Bool.and_eq_true, decide_eq_true_eq]
  omega
theorem till_iff {x : Work} : tillB x = true ↔ (x.phase.1 = 2 → x.pre = true) ∧ (x.phase.1 ≠ 2 → x.till.1 = 0) := by
  unfold tillB
  rcases hp : x.pre with _ | _
  · by_cases h1 : x.phase.1 = 2 <;> by_cases h2 : x.till.1 = 0 <;> simp [h1, h2]
  · by_cases h1 : x.phase.1 = 2 <;> by_cases h2 : x.till.1 = 0 <;> simp [h1, h2]
/-- What an event leaves: a valid worker, of the same name and slots, no younger, in no earlier phase. -/
theorem step_keeps {x : Work} {ev : Int} {now : I64} (h : wErr x = 0) (ht : timeB now.1 = true) :
    wErr (stepW x ev now) = 0 ∧ x.phase.1 ≤ (stepW x ev now).phase.1 ∧ (stepW x ev now).id = x.id ∧ (stepW x ev now).slots = x.slots ∧ x.beat.1 ≤ (stepW x ev now).beat.1 := by
  obtain ⟨k1, k2, k3, k4, k5, k6⟩ := wErr_ok h
  have r := range_ok k3
  have hn : 0 ≤ now.1 ∧ now.1 ≤ 1125899906842624 := by unfold timeB at ht; simpa using ht
  by_cases he : stepE x ev now.1 = 0
  · rw [stepW_ok he]
    have hev : 1 ≤ ev ∧ ev ≤ 4 := by
      by_cases c1 : ev < 1
      · rw [stepE_2 h (Or.inl c1)] at he; cases he
      by_cases c2 : 4 < ev
      · rw [stepE_2 h (Or.inr (Or.inl c2))] at he; cases he
      omega
    have he3 := stepE_3 (x := x) (ev := ev) (now := now.1) h (by omega) (by omega) ht
    rw [he] at he3
    have hp3 : x.phase.1 ≠ 3 := fun e => by rw [if_pos e] at he3; cases he3
    rw [if_neg hp3] at he3
    have ht4 := till_iff.1 k4
    unfold stepF
    by_cases e1 : ev = 1
    · rw [if_pos e1]
      have hb : 0 ≤ (maxN x.beat now).1 ∧ (maxN x.beat now).1 ≤ 1125899906842624 ∧ x.beat.1 ≤ (maxN x.beat now).1 := by unfold maxN; split <;> omega
      exact ⟨wErr_of k1 k2 (range_of ⟨r.1, r.2.1, r.2.2.1, r.2.2.2.1, r.2.2.2.2.1, r.2.2.2.2.2.1, hb.1, hb.2.1, r.2.2.2.2.2.2.2.2.1, r.2.2.2.2.2.2.2.2.2⟩) (till_iff.2 ht4) k5 k6, by show x.phase.1 ≤ x.phase.1; omega, rfl, rfl, hb.2.2⟩
    rw [if_neg e1]
    by_cases e2 : ev = 2
    · rw [if_pos e2]
      by_cases h0 : x.phase.1 = 0
      · rw [if_pos h0]
        exact ⟨wErr_of k1 k2 (range_of ⟨r.1, r.2.1, r.2.2.1, r.2.2.2.1, by show (0 : Int) ≤ 1; omega, by show (1 : Int) ≤ 3; omega, r.2.2.2.2.2.2⟩) (till_iff.2 ⟨fun e => absurd (show (1 : Int) = 2 from e) (by decide), fun _ => ht4.2 (by omega)⟩) k5 k6, by show x.phase.1 ≤ 1; omega, rfl, rfl, Int.le_refl _⟩
      · rw [if_neg h0]
        exact ⟨h, Int.le_refl _, rfl, rfl, Int.le_refl _⟩
    rw [if_neg e2]
    by_cases e3 : ev = 3
    · rw [if_pos e3]
      have hpre : x.pre = true := by
        rcases hp : x.pre with _ | _
        · rw [if_pos ⟨e3, hp⟩] at he3; cases he3
        · rfl
      by_cases h2 : x.phase.1 = 2
      · rw [if_pos h2]
        exact ⟨h, Int.le_refl _, rfl, rfl, Int.le_refl _⟩
      · rw [if_neg h2]
        have htl : 0 ≤ (tillN now).1 ∧ (tillN now).1 ≤ 1125899906842624 := by
          show 0 ≤ (if now.1 + 5000 < 1125899906842624 then now.1 + 5000 else 1125899906842624) ∧ (if now.1 + 5000 < 1125899906842624 then now.1 + 5000 else 1125899906842624) ≤ 1125899906842624
          split <;> omega
        exact ⟨wErr_of k1 k2 (range_of ⟨r.1, r.2.1, r.2.2.1, r.2.2.2.1, by show (0 : Int) ≤ 2; omega, by show (2 : Int) ≤ 3; omega, r.2.2.2.2.2.2.1, r.2.2.2.2.2.2.2.1, htl.1, htl.2⟩) (till_iff.2 ⟨fun _ => hpre, fun e => absurd rfl (show (2 : Int) ≠ 2 from e)⟩) k5 k6, by show x.phase.1 ≤ 2; omega, rfl, rfl, Int.le_refl _⟩
    · rw [if_neg e3]
      exact ⟨wErr_of k1 k2 (range_of ⟨r.1, r.2.1, r.2.2.1, r.2.2.2.1, by show (0 : Int) ≤ 3; omega, by show (3 : Int) ≤ 3; omega, r.2.2.2.2.2.2.1, r.2.2.2.2.2.2.2.1, by show (0 : Int) ≤ 0; omega, by show (0 : Int) ≤ 1125899906842624; omega⟩) (till_iff.2 ⟨fun e => absurd (show (3 : Int) = 2 from e) (by decide), fun _ => rfl⟩) k5 k6, by show x.phase.1 ≤ 3; omega, rfl, rfl, Int.le_refl _⟩
  · rw [stepW_no rfl he]
    exact ⟨h, Int.le_refl _, rfl, rfl, Int.le_refl _⟩

theorem toks_iff {l : List I64} : toksB l = true ↔ (∀ x ∈ l, 1 ≤ x.1 ∧ x.1 ≤ 1125899906842624) ∧ l.Pairwise (fun a b => a.1 < b.1) := by
  constructor
  · intro h
    have ha := toks_asc h
    refine ⟨fun x hx => ?_, ?_⟩
    · obtain ⟨j, hj⟩ := List.getElem?_of_mem hx
      unfold toksB at h
      rw [List.all_eq_true] at h
      have := h j (List.mem_range.2 (List.getElem?_eq_some_iff.1 hj).1)
      unfold tokB at this
      rw [get_bang hj] at this
      simp only [Bool.and_eq_true, decide_eq_true_eq] at this
      omega
    · rw [List.pairwise_iff_getElem]
      intro i j hi hj hij
      exact ha i j _ _ hij (List.getElem?_eq_getElem hi) (List.getElem?_eq_getElem hj)
  · rintro ⟨h1, h2⟩
    refine toks_yes fun j hj => ?_
    obtain ⟨y, hy⟩ := get_some hj
    unfold tokB
    rw [get_bang hy]
    have hr := h1 y (List.mem_of_getElem? hy)
    rw [decide_eq_true hr.1, decide_eq_true hr.2]
    by_cases h0 : j = 0
    · rw [decide_eq_true h0]; rfl
    · obtain ⟨m, rfl⟩ : ∃ m, j = m + 1 := ⟨j - 1, by omega⟩
      obtain ⟨z, hz⟩ := get_some (show m < l.length by omega)
      rw [Nat.add_sub_cancel, get_bang hz]
      have hlt : z.1 < y.1 := by
        rw [List.pairwise_iff_getElem] at h2
        have := h2 m (m + 1) (by omega) hj (by omega)
        rw [(List.getElem?_eq_some_iff.1 hz).2, (List.getElem?_eq_some_iff.1 hy).2] at this
        exact this
      rw [decide_eq_true hlt]
      simp
theorem att_asc {l : List I64} {t : I64} (h : toksB l = true) (h1 : 1 ≤ t.1) (h2 : t.1 ≤ 1125899906842624) (hno : hasT l t.1 = false) : toksB (attL l t) = true := by
  have ha := toks_asc h
  obtain ⟨hr, hp⟩ := toks_iff.1 h
  obtain ⟨s1, s2⟩ := atI_spec ha t.1
  have hne : ∀ x ∈ l, x.1 ≠ t.1 := fun x hx e => by
    unfold hasT at hno
    rw [List.any_eq_false] at hno
    exact hno x hx (by simp [e])
  rw [toks_iff]
  unfold attL
  rw [plT_eq ha]
  refine ⟨fun x hx => ?_, ?_⟩
  · rcases List.mem_append.1 hx with hx | hx
    · exact hr x (List.mem_of_mem_take hx)
    · rcases List.mem_cons.1 hx with rfl | hx
      · exact ⟨h1, h2⟩
      · exact hr x (List.mem_of_mem_drop hx)
  · rw [List.pairwise_append]
    refine ⟨hp.sublist (List.take_sublist _ _), ?_, ?_⟩
    · rw [List.pairwise_cons]
      refine ⟨fun y hy => ?_, hp.sublist (List.drop_sublist _ _)⟩
      obtain ⟨j, hj⟩ := List.getElem?_of_mem hy
      rw [List.getElem?_drop] at hj
      have := s2 _ y (by omega) hj
      have := hne y (List.mem_of_getElem? hj)
      omega
    · have hlt : ∀ x ∈ l.take (atI t.1 l), x.1 < t.1 := fun x hx => by
        obtain ⟨j, hj⟩ := List.getElem?_of_mem hx
        rw [List.getElem?_take] at hj
        split at hj
        · rename_i hjl
          exact s1 j x hjl hj
        · cases hj
      intro x hx y hy
      have hxt := hlt x hx
      rcases List.mem_cons.1 hy with rfl | hy
      · exact hxt
      · obtain ⟨j, hj⟩ := List.getElem?_of_mem hy
        rw [List.getElem?_drop] at hj
        have := s2 _ y (by omega) hj
        omega
theorem att_len (l : List I64) (t : I64) : (attL l t).length = l.length + 1 := by
  unfold attL
  have : plT l t.1 ≤ l.length := (List.takeWhile_prefix _).length_le
  simp; omega
theorem attE_ok {x : Work} {t : Int} (h : attE x t = 0) : wErr x = 0 ∧ 1 ≤ t ∧ t ≤ 1125899906842624 ∧ hasT x.toks t = false ∧ x.phase.1 = 0 ∧ (x.toks.length : Int) < x.slots.1 := by
  by_cases h0 : wErr x = 0
  · by_cases h1 : t < 1
    · rw [attE_2 h0 (Or.inl h1)] at h; cases h
    by_cases h2 : 1125899906842624 < t
    · rw [attE_2 h0 (Or.inr h2)] at h; cases h
    rw [attE_3 h0 h1 h2] at h
    rcases hh : hasT x.toks t with _ | _
    · rw [hh, if_neg (by decide)] at h
      by_cases h3 : x.phase.1 ≠ 0
      · rw [if_pos h3] at h; cases h
      rw [if_neg h3] at h
      by_cases h4 : x.slots.1 ≤ (x.toks.length : Int)
      · rw [if_pos h4] at h; cases h
      exact ⟨h0, by omega, by omega, rfl, by omega, by omega⟩
    · rw [hh, if_pos rfl] at h; cases h
  · rw [attE_1 h0] at h; cases h
theorem attE_full {x : Work} {t : Int} (h : attE x t = 21) : x.slots.1 ≤ (x.toks.length : Int) := by
  by_cases h0 : wErr x = 0
  · by_cases h1 : t < 1
    · rw [attE_2 h0 (Or.inl h1)] at h; cases h
    by_cases h2 : 1125899906842624 < t
    · rw [attE_2 h0 (Or.inr h2)] at h; cases h
    rw [attE_3 h0 h1 h2] at h
    rcases hh : hasT x.toks t with _ | _
    · rw [hh, if_neg (by decide)] at h
      by_cases h3 : x.phase.1 ≠ 0
      · rw [if_pos h3] at h; cases h
      rw [if_neg h3] at h
      by_cases h4 : x.slots.1 ≤ (x.toks.length : Int)
      · exact h4
      · rw [if_neg h4] at h; cases h
    · rw [hh, if_pos rfl] at h; cases h
  · rw [attE_1 h0] at h; cases h
theorem att_keeps {x : Work} {t : I64} (h : wErr x = 0) :
    wErr (attW x t) = 0 ∧ (attW x t).phase = x.phase ∧ (attW x t).id = x.id ∧ (attW x t).slots = x.slots ∧ (attW x t).beat = x.beat := by
  by_cases he : attE x t.1 = 0
  · obtain ⟨_, h1, h2, h3, h4, h5⟩ := attE_ok he
    obtain ⟨k1, k2, k3, k4, k5, k6⟩ := wErr_ok h
    rw [attW_ok he]
    exact ⟨wErr_of k1 k2 k3 k4 (att_asc k5 h1 h2 h3) (by show ((attL x.toks t).length : Int) ≤ x.slots.1; rw [att_len]; omega), rfl, rfl, rfl, rfl⟩
  · rw [attW_no rfl he]
    exact ⟨h, rfl, rfl, rfl, rfl⟩
theorem det_keeps {x : Work} {t : I64} (h : wErr x = 0) : wErr (detW x t) = 0 := by
  obtain ⟨k1, k2, k3, k4, k5, k6⟩ := wErr_ok h
  obtain ⟨hr, hp⟩ := toks_iff.1 k5
  have hl : (detL x.toks t).length ≤ x.toks.length := List.length_filter_le _ _
  exact wErr_of k1 k2 k3 k4 (toks_iff.2 ⟨fun y hy => hr y (List.mem_filter.1 hy).1, hp.sublist List.filter_sublist⟩) (by show ((detL x.toks t).length : Int) ≤ x.slots.1; omega)
theorem free_in {x : Work} {now : Int} (h : wErr x = 0) : 0 ≤ freeI x now ∧ freeI x now + x.toks.length ≤ x.slots.1 ∧ (lostB x now = true → freeI x now = 0) := by
  have h6 := (wErr_ok h).2.2.2.2.2
  unfold freeI
  rw [if_neg (by omega)]
  by_cases hp : x.phase.1 ≠ 0
  · rw [if_pos hp]
    exact ⟨by omega, by omega, fun _ => rfl⟩
  rw [if_neg hp]
  rcases hl : lostB x now with _ | _
  · rw [if_neg (by decide)]
    exact ⟨by omega, by omega, fun e => by cases e⟩
  · rw [if_pos rfl]
    exact ⟨by omega, by omega, fun _ => rfl⟩
theorem free_full {x : Work} {now : Int} (h : wErr x = 0) (hf : x.slots.1 ≤ (x.toks.length : Int)) : freeI x now = 0 := by
  have h6 := (wErr_ok h).2.2.2.2.2
  unfold freeI
  rw [if_neg (by omega)]
  by_cases hp : x.phase.1 ≠ 0
  · rw [if_pos hp]
  rw [if_neg hp]
  rcases hl : lostB x now with _ | _
  · rw [if_neg (by decide)]; omega
  · rw [if_pos rfl]
end Go.Proofs.YtnahbfmbmpoljaaDoor
