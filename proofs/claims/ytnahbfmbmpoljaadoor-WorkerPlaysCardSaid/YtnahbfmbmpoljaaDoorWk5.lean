/-
  The walks of workers: whether one is lost, by the reference; how many jobs one accepts, by both.
-/
import Derived.Test.YtnahbfmbmpoljaaDoorWk3
import Derived.Test.YtnahbfmbmpoljaaDoorWk4



namespace Go.Proofs.YtnahbfmbmpoljaaDoor
open Go.RowKit

def freeI (x : Work) (now : Int) : Int := if wErr x ≠ 0 then 0 else if x.phase.1 ≠ 0 then 0 else if lostB x now then 0 else x.slots.1 - x.toks.length
theorem late_any (b n : I64) (w : World) : Calls Tryd.prog 47 #[.int .i64 b.1, .int .i64 n.1] w fun e w' => e = .returned (.bool (decide (b.1 ≤ n.1) && decide (30000 ≤ n.1 - b.1))) ∧ w = w' := by
  have e : (decide (b.1 ≤ n.1) && decide (30000 ≤ n.1 - b.1)) = decide (b.1 + 30000 ≤ n.1) := by
    rw [Bool.eq_iff_iff]; simp; omega
  have hn := n.2
  have hb := b.2
  rw [e]
  clear e
  by_cases h : b.1 > 9223372036854745807
  · have hf : decide (b.1 + 30000 ≤ n.1) = false := decide_eq_false (by omega)
    rw [hf]
    go_enter Tryd.func47, Tryd.ntmps47
    go_wp2_with fail
    go_ret
    exact ⟨rfl, rfl⟩
  · obtain ⟨b0, b1⟩ := hb
    have b2 : b.1 ≤ 9223372036854745807 := by omega
    by_cases h2 : b.1 + 30000 ≤ n.1
    · have h3 : n.1 ≥ b.1 + 30000 := h2
      rw [decide_eq_true h2]
      go_enter Tryd.func47, Tryd.ntmps47
      go_wp2_with fail
      go_ret
      exact ⟨rfl, rfl⟩
    · have h3 : ¬ n.1 ≥ b.1 + 30000 := h2
      rw [decide_eq_false h2]
      go_enter Tryd.func47, Tryd.ntmps47
      go_wp2_with fail
      go_ret
      exact ⟨rfl, rfl⟩
set_option maxRecDepth 100000 in
set_option maxHeartbeats 4000000 in
theorem rlost_any (x : Work) (now : I64) (w : World) : Calls Tryd.prog 20 #[(.agg #[.string x.id.1, .slice x.labsA x.labs.length x.labsC, .int .i64 x.trust.1, .int .i64 x.slots.1, .bool x.pre, .int .i64 x.phase.1, .int .i64 x.beat.1, .int .i64 x.till.1, .slice x.toksA x.toks.length x.toksC]), .int .i64 now.1] w fun e w' => e = .returned (.bool (lostB x now.1)) ∧ Below w.heap.size w w' := by
  have hd : lostB x now.1 = (lateB x now.1 || decide (x.phase.1 = 3) || (decide (x.phase.1 = 2) && decide (x.till.1 ≤ now.1))) := rfl
  have hl : ∀ W, Calls Tryd.prog 47 #[.int .i64 x.beat.1, .int .i64 now.1] W fun e w' => e = .returned (.bool (lateB x now.1)) ∧ W = w' := fun W => late_any x.beat now W
  obtain ⟨B, hB⟩ : ∃ B, lateB x now.1 = B := ⟨_, rfl⟩
  rw [hB] at hd hl
  replace hB := Lib.hid hB
  have hla := Lib.hid hl
  clear hl
  by_cases h3 : x.phase.1 = 3
  · have hfin := Lib.hid (show lostB x now.1 = true by rw [hd, decide_eq_true h3]; simp)
    clear hd
    go_enter Tryd.func20, Tryd.ntmps20
    go_wp2_with (go_at_call 47; go_must (refine (hla.out _).mono ?_; rintro e w1 ⟨rfl, rfl⟩))
    go_ret
    first
      | exact ⟨ret_bool hfin.out.symm, (by repeat (first | (with_reducible exact Below.refl _ _) | (with_reducible refine Below.drew ?_) | (with_reducible refine below_drewN ?_ _) | ((with_reducible refine Below.alloc ?_ ?_ _); rotate_left; focus ((try simp) <;> omega)) | ((with_reducible refine Below.setCell ?_ ?_ _); rotate_left; focus ((try simp) <;> omega)) | ((with_reducible refine Below.trans ?_ (Below.mono (by assumption) ?_)); rotate_left; focus ((try simp) <;> omega))))⟩
      | exact ⟨ret_bool (by rw [hfin.out]; simp [h3]), (by repeat (first | (with_reducible exact Below.refl _ _) | (with_reducible refine Below.drew ?_) | (with_reducible refine below_drewN ?_ _) | ((with_reducible refine Below.alloc ?_ ?_ _); rotate_left; focus ((try simp) <;> omega)) | ((with_reducible refine Below.setCell ?_ ?_ _); rotate_left; focus ((try simp) <;> omega)) | ((with_reducible refine Below.trans ?_ (Below.mono (by assumption) ?_)); rotate_left; focus ((try simp) <;> omega))))⟩
  rcases B with _ | _
  · by_cases h2 : x.phase.1 = 2
    · have hfin := Lib.hid (show lostB x now.1 = decide (x.till.1 ≤ now.1) by rw [hd, decide_eq_false h3, decide_eq_true h2]; rfl)
      clear hd
      replace h3 := Lib.hid h3
      go_enter Tryd.func20, Tryd.ntmps20
      go_wp2_with (go_at_call 47; go_must (refine (hla.out _).mono ?_; rintro e w1 ⟨rfl, rfl⟩))
      go_ret
      first
        | exact ⟨ret_bool hfin.out.symm, (by repeat (first | (with_reducible exact Below.refl _ _) | (with_reducible refine Below.drew ?_) | (with_reducible refine below_drewN ?_ _) | ((with_reducible refine Below.alloc ?_ ?_ _); rotate_left; focus ((try simp) <;> omega)) | ((with_reducible refine Below.setCell ?_ ?_ _); rotate_left; focus ((try simp) <;> omega)) | ((with_reducible refine Below.trans ?_ (Below.mono (by assumption) ?_)); rotate_left; focus ((try simp) <;> omega))))⟩
        | exact ⟨ret_bool (by rw [hfin.out]; simp [h3]), (by repeat (first | (with_reducible exact Below.refl _ _) | (with_reducible refine Below.drew ?_) | (with_reducible refine below_drewN ?_ _) | ((with_reducible refine Below.alloc ?_ ?_ _); rotate_left; focus ((try simp) <;> omega)) | ((with_reducible refine Below.setCell ?_ ?_ _); rotate_left; focus ((try simp) <;> omega)) | ((with_reducible refine Below.trans ?_ (Below.mono (by assumption) ?_)); rotate_left; focus ((try simp) <;> omega))))⟩
    · have hfin := Lib.hid (show lostB x now.1 = false by rw [hd, decide_eq_false h3, decide_eq_false h2]; rfl)
      clear hd
      go_enter Tryd.func20, Tryd.ntmps20
      go_wp2_with (go_at_call 47; go_must (refine (hla.out _).mono ?_; rintro e w1 ⟨rfl, rfl⟩))
      go_ret
      first
        | exact ⟨ret_bool hfin.out.symm, (by repeat (first | (with_reducible exact Below.refl _ _) | (with_reducible refine Below.drew ?_) | (with_reducible refine below_drewN ?_ _) | ((with_reducible refine Below.alloc ?_ ?_ _); rotate_left; focus ((try simp) <;> omega)) | ((with_reducible refine Below.setCell ?_ ?_ _); rotate_left; focus ((try simp) <;> omega)) | ((with_reducible refine Below.trans ?_ (Below.mono (by assumption) ?_)); rotate_left; focus ((try simp) <;> omega))))⟩
        | exact ⟨ret_bool (by rw [hfin.out]; simp [h3]), (by repeat (first | (with_reducible exact Below.refl _ _) | (with_reducible refine Below.drew ?_) | (with_reducible refine below_drewN ?_ _) | ((with_reducible refine Below.alloc ?_ ?_ _); rotate_left; focus ((try simp) <;> omega)) | ((with_reducible refine Below.setCell ?_ ?_ _); rotate_left; focus ((try simp) <;> omega)) | ((with_reducible refine Below.trans ?_ (Below.mono (by assumption) ?_)); rotate_left; focus ((try simp) <;> omega))))⟩
  · have hfin := Lib.hid (show lostB x now.1 = true by rw [hd]; rfl)
    clear hd
    go_enter Tryd.func20, Tryd.ntmps20
    go_wp2_with (go_at_call 47; go_must (refine (hla.out _).mono ?_; rintro e w1 ⟨rfl, rfl⟩))
    go_ret
    first
      | exact ⟨ret_bool hfin.out.symm, (by repeat (first | (with_reducible exact Below.refl _ _) | (with_reducible refine Below.drew ?_) | (with_reducible refine below_drewN ?_ _) | ((with_reducible refine Below.alloc ?_ ?_ _); rotate_left; focus ((try simp) <;> omega)) | ((with_reducible refine Below.setCell ?_ ?_ _); rotate_left; focus ((try simp) <;> omega)) | ((with_reducible refine Below.trans ?_ (Below.mono (by assumption) ?_)); rotate_left; focus ((try simp) <;> omega))))⟩
      | exact ⟨ret_bool (by rw [hfin.out]; simp [h3]), (by repeat (first | (with_reducible exact Below.refl _ _) | (with_reducible refine Below.drew ?_) | (with_reducible refine below_drewN ?_ _) | ((with_reducible refine Below.alloc ?_ ?_ _); rotate_left; focus ((try simp) <;> omega)) | ((with_reducible refine Below.setCell ?_ ?_ _); rotate_left; focus ((try simp) <;> omega)) | ((with_reducible refine Below.trans ?_ (Below.mono (by assumption) ?_)); rotate_left; focus ((try simp) <;> omega))))⟩
theorem wErr_ok {x : Work} (h : wErr x = 0) : nameB x.id.1 = true ∧ labE x.labs = 0 ∧ rangeB x = true ∧ tillB x = true ∧ toksB x.toks = true ∧ (x.toks.length : Int) ≤ x.slots.1 := by
  unfold wErr at h
  by_cases h1 : nameB x.id.1 = false
  · rw [if_pos h1] at h; cases h
  rw [if_neg h1] at h
  by_cases h2 : labE x.labs ≠ 0
  · rw [if_pos h2] at h; exact absurd h h2
  rw [if_neg h2] at h
  by_cases h3 : rangeB x = false
  · rw [if_pos h3] at h; cases h
  rw [if_neg h3] at h
  by_cases h4 : tillB x = false
  · rw [if_pos h4] at h; cases h
  rw [if_neg h4] at h
  by_cases h5 : toksB x.toks = false
  · rw [if_pos h5] at h; cases h
  rw [if_neg h5] at h
  by_cases h6 : x.slots.1 < (x.toks.length : Int)
  · rw [if_pos h6] at h; cases h
  exact ⟨by simpa using h1, by omega, by simpa using h3, by simpa using h4, by simpa using h5, by omega⟩
theorem range_ok {x : Work} (h : rangeB x = true) : 0 ≤ x.trust.1 ∧ x.trust.1 ≤ 2 ∧ 1 ≤ x.slots.1 ∧ x.slots.1 ≤ 64 ∧ 0 ≤ x.phase.1 ∧ x.phase.1 ≤ 3 ∧ 0 ≤ x.beat.1 ∧ x.beat.1 ≤ 1125899906842624 ∧ 0 ≤ x.till.1 ∧ x.till.1 ≤ 1125899906842624 := by
  unfold rangeB timeB at h
  simp only [Bool.and_eq_true, decide_eq_true_eq] at h
  omega
set_option maxRecDepth 100000 in
set_option maxHeartbeats 4000000 in
theorem free_any (x : Work) (now : I64) (w : World) (hx : LabWork w w.heap.size x) (ho : LabOk x) (hG : Glob w) : Calls Tryd.prog 21 #[(.agg #[.string x.id.1, .slice x.labsA x.labs.length x.labsC, .int .i64 x.trust.1, .int .i64 x.slots.1, .bool x.pre, .int .i64 x.phase.1, .int .i64 x.beat.1, .int .i64 x.till.1, .slice x.toksA x.toks.length x.toksC]), .int .i64 now.1] w fun e w' => e = .returned (.int .i64 (freeI x now.1)) ∧ Below w.heap.size w w' := by
  have hv : ∀ W, Below w.heap.size w W → Calls Tryd.prog 10 #[(.agg #[.string x.id.1, .slice x.labsA x.labs.length x.labsC, .int .i64 x.trust.1, .int .i64 x.slots.1, .bool x.pre, .int .i64 x.phase.1, .int .i64 x.beat.1, .int .i64 x.till.1, .slice x.toksA x.toks.length x.toksC])] W fun e w' => e = .returned (.int .i64 (wErr x)) ∧ Below W.heap.size W w' := fun W hb => wvalid_any x W ((hx.below hb (Nat.le_refl _)).more hb.size) ho (hG.keep hb)
  have hl : ∀ W, Calls Tryd.prog 19 #[(.agg #[.string x.id.1, .slice x.labsA x.labs.length x.labsC, .int .i64 x.trust.1, .int .i64 x.slots.1, .bool x.pre, .int .i64 x.phase.1, .int .i64 x.beat.1, .int .i64 x.till.1, .slice x.toksA x.toks.length x.toksC]), .int .i64 now.1] W fun e w' => e = .returned (.bool (lostB x now.1)) ∧ Below W.heap.size W w' := fun W => lost_any x now W
  replace hx := Lib.hid hx
  replace ho := Lib.hid ho
  obtain ⟨E, hE⟩ : ∃ E, wErr x = E := ⟨_, rfl⟩
  obtain ⟨L, hL⟩ : ∃ L, lostB x now.1 = L := ⟨_, rfl⟩
  rw [hE] at hv
  rw [hL] at hl
  have hlo := Lib.hid hl
  clear hl
  have hd : freeI x now.1 = if E ≠ 0 then 0 else if x.phase.1 ≠ 0 then 0 else if L then 0 else x.slots.1 - x.toks.length := by unfold freeI; rw [hE, hL]
  replace hL := Lib.hid hL
  by_cases h0 : E = 0
  · subst h0
    have h1 := wErr_ok hE
    have hr := range_ok h1.2.2.1
    have hle := h1.2.2.2.2.2
    replace hE := Lib.hid hE
    replace h1 := Lib.hid h1
    obtain ⟨_, _, s1, s2, _, _, _⟩ := hr
    have hva := Lib.hid hv
    clear hv
    by_cases hp : x.phase.1 = 0
    · have hpn : (x.phase.1 != 0) = false := by rw [hp]; rfl
      have hpf := Lib.hid (show (x.phase.1 ≠ 0) = False by rw [hp]; simp)
      replace hp := Lib.hid hp
      rcases L with _ | _
      · have hfin := Lib.hid (show freeI x now.1 = x.slots.1 - x.toks.length by rw [hd, if_neg (by decide), if_neg (fun e => e hp.out), if_neg (by decide)])
        clear hd
        obtain ⟨W1, hW1⟩ : ∃ W, w.alloc (.cells #[.string x.id.1, .slice x.labsA x.labs.length x.labsC, .int .i64 x.trust.1, .int .i64 x.slots.1, .bool x.pre, .int .i64 x.phase.1, .int .i64 x.beat.1, .int .i64 x.till.1, .slice x.toksA x.toks.length x.toksC] 25) = W := ⟨_, rfl⟩
        have hbA : Below w.heap.size w W1 := by rw [← hW1]; exact (Below.refl _ _).alloc (Nat.le_refl _) _
        have hz1 : W1.heap.size = w.heap.size + 1 := by rw [← hW1]; simp
        have hz1a := Nat.le_of_eq hz1
        have hz1b := Nat.le_of_eq hz1.symm
        have a : ∀ j u, (workE x)[j]? = some u → W1.cell? ⟨w.heap.size, j, none⟩ = some u := fun j u hu => by rw [← hW1]; exact box_cells w _ 25 j u hu
        have a0 := a 0 (.string x.id.1) rfl
        try rw [Nat.add_zero] at a0
        have a1 := a 1 (.slice x.labsA x.labs.length x.labsC) rfl
        have a2 := a 2 (.int .i64 x.trust.1) rfl
        have a3 := a 3 (.int .i64 x.slots.1) rfl
        have a4 := a 4 (.bool x.pre) rfl
        have a5 := a 5 (.int .i64 x.phase.1) rfl
        have a6 := a 6 (.int .i64 x.beat.1) rfl
        have a7 := a 7 (.int .i64 x.till.1) rfl
        have a8 := a 8 (.slice x.toksA x.toks.length x.toksC) rfl
        clear a
        replace hz1 := Lib.hid hz1
        have hvb := Lib.hid (hva.out W1 hbA)
        clear hva
        go_enter Tryd.func21, Tryd.ntmps21
        go_wp2_with (first
          | (go_at_call 10; go_must (refine hvb.out.mono ?_; rintro e w1 ⟨rfl, hb1⟩; have hzv := hb1.size; have c0 := (hb1.cell (p := ⟨w.heap.size, 0, none⟩) (by show w.heap.size < _; omega)).trans a0; have c1 := (hb1.cell (p := ⟨w.heap.size, 1, none⟩) (by show w.heap.size < _; omega)).trans a1; have c2 := (hb1.cell (p := ⟨w.heap.size, 2, none⟩) (by show w.heap.size < _; omega)).trans a2; have c3 := (hb1.cell (p := ⟨w.heap.size, 3, none⟩) (by show w.heap.size < _; omega)).trans a3; have c4 := (hb1.cell (p := ⟨w.heap.size, 4, none⟩) (by show w.heap.size < _; omega)).trans a4; have c5 := (hb1.cell (p := ⟨w.heap.size, 5, none⟩) (by show w.heap.size < _; omega)).trans a5; have c6 := (hb1.cell (p := ⟨w.heap.size, 6, none⟩) (by show w.heap.size < _; omega)).trans a6; have c7 := (hb1.cell (p := ⟨w.heap.size, 7, none⟩) (by show w.heap.size < _; omega)).trans a7; have c8 := (hb1.cell (p := ⟨w.heap.size, 8, none⟩) (by show w.heap.size < _; omega)).trans a8; have hbw1 := hbA.trans (hb1.mono (by omega)); clear a0 a1 a2 a3 a4 a5 a6 a7 a8 hW1))
          | (go_at_call 19; go_must (refine (hlo.out _).mono ?_; rintro e w2 ⟨rfl, hb2⟩; have hz2 := hb2.size; have d3 := (hb2.cell (p := ⟨w.heap.size, 3, none⟩) (by show w.heap.size < _; omega)).trans c3; have d8 := (hb2.cell (p := ⟨w.heap.size, 8, none⟩) (by show w.heap.size < _; omega)).trans c8; have hbw2 := hbw1.trans (hb2.mono (by omega)))))
        go_ret
        first | exact ⟨ret_int hfin.out.symm, hbw1⟩ | exact ⟨ret_int hfin.out.symm, hbw2⟩
      · have hfin := Lib.hid (show freeI x now.1 = 0 by rw [hd, if_neg (by decide), if_neg (fun e => e hp.out), if_pos rfl])
        clear hd
        obtain ⟨W1, hW1⟩ : ∃ W, w.alloc (.cells #[.string x.id.1, .slice x.labsA x.labs.length x.labsC, .int .i64 x.trust.1, .int .i64 x.slots.1, .bool x.pre, .int .i64 x.phase.1, .int .i64 x.beat.1, .int .i64 x.till.1, .slice x.toksA x.toks.length x.toksC] 25) = W := ⟨_, rfl⟩
        have hbA : Below w.heap.size w W1 := by rw [← hW1]; exact (Below.refl _ _).alloc (Nat.le_refl _) _
        have hz1 : W1.heap.size = w.heap.size + 1 := by rw [← hW1]; simp
        have hz1a := Nat.le_of_eq hz1
        have hz1b := Nat.le_of_eq hz1.symm
        have a : ∀ j u, (workE x)[j]? = some u → W1.cell? ⟨w.heap.size, j, none⟩ = some u := fun j u hu => by rw [← hW1]; exact box_cells w _ 25 j u hu
        have a0 := a 0 (.string x.id.1) rfl
        try rw [Nat.add_zero] at a0
        have a1 := a 1 (.slice x.labsA x.labs.length x.labsC) rfl
        have a2 := a 2 (.int .i64 x.trust.1) rfl
        have a3 := a 3 (.int .i64 x.slots.1) rfl
        have a4 := a 4 (.bool x.pre) rfl
        have a5 := a 5 (.int .i64 x.phase.1) rfl
        have a6 := a 6 (.int .i64 x.beat.1) rfl
        have a7 := a 7 (.int .i64 x.till.1) rfl
        have a8 := a 8 (.slice x.toksA x.toks.length x.toksC) rfl
        clear a
        replace hz1 := Lib.hid hz1
        have hvb := Lib.hid (hva.out W1 hbA)
        clear hva
        go_enter Tryd.func21, Tryd.ntmps21
        go_wp2_with (first
          | (go_at_call 10; go_must (refine hvb.out.mono ?_; rintro e w1 ⟨rfl, hb1⟩; have hzv := hb1.size; have c0 := (hb1.cell (p := ⟨w.heap.size, 0, none⟩) (by show w.heap.size < _; omega)).trans a0; have c1 := (hb1.cell (p := ⟨w.heap.size, 1, none⟩) (by show w.heap.size < _; omega)).trans a1; have c2 := (hb1.cell (p := ⟨w.heap.size, 2, none⟩) (by show w.heap.size < _; omega)).trans a2; have c3 := (hb1.cell (p := ⟨w.heap.size, 3, none⟩) (by show w.heap.size < _; omega)).trans a3; have c4 := (hb1.cell (p := ⟨w.heap.size, 4, none⟩) (by show w.heap.size < _; omega)).trans a4; have c5 := (hb1.cell (p := ⟨w.heap.size, 5, none⟩) (by show w.heap.size < _; omega)).trans a5; have c6 := (hb1.cell (p := ⟨w.heap.size, 6, none⟩) (by show w.heap.size < _; omega)).trans a6; have c7 := (hb1.cell (p := ⟨w.heap.size, 7, none⟩) (by show w.heap.size < _; omega)).trans a7; have c8 := (hb1.cell (p := ⟨w.heap.size, 8, none⟩) (by show w.heap.size < _; omega)).trans a8; have hbw1 := hbA.trans (hb1.mono (by omega)); clear a0 a1 a2 a3 a4 a5 a6 a7 a8 hW1))
          | (go_at_call 19; go_must (refine (hlo.out _).mono ?_; rintro e w2 ⟨rfl, hb2⟩; have hz2 := hb2.size; have d3 := (hb2.cell (p := ⟨w.heap.size, 3, none⟩) (by show w.heap.size < _; omega)).trans c3; have d8 := (hb2.cell (p := ⟨w.heap.size, 8, none⟩) (by show w.heap.size < _; omega)).trans c8; have hbw2 := hbw1.trans (hb2.mono (by omega)))))
        go_ret
        first | exact ⟨ret_int hfin.out.symm, hbw1⟩ | exact ⟨ret_int hfin.out.symm, hbw2⟩
    · have hfin := Lib.hid (show freeI x now.1 = 0 by rw [hd, if_neg (by decide), if_pos hp])
      clear hd
      obtain ⟨W1, hW1⟩ : ∃ W, w.alloc (.cells #[.string x.id.1, .slice x.labsA x.labs.length x.labsC, .int .i64 x.trust.1, .int .i64 x.slots.1, .bool x.pre, .int .i64 x.phase.1, .int .i64 x.beat.1, .int .i64 x.till.1, .slice x.toksA x.toks.length x.toksC] 25) = W := ⟨_, rfl⟩
      have hbA : Below w.heap.size w W1 := by rw [← hW1]; exact (Below.refl _ _).alloc (Nat.le_refl _) _
      have hz1 : W1.heap.size = w.heap.size + 1 := by rw [← hW1]; simp
      have hz1a := Nat.le_of_eq hz1
      have hz1b := Nat.le_of_eq hz1.symm
      have a : ∀ j u, (workE x)[j]? = some u → W1.cell? ⟨w.heap.size, j, none⟩ = some u := fun j u hu => by rw [← hW1]; exact box_cells w _ 25 j u hu
      have a0 := a 0 (.string x.id.1) rfl
      try rw [Nat.add_zero] at a0
      have a1 := a 1 (.slice x.labsA x.labs.length x.labsC) rfl
      have a2 := a 2 (.int .i64 x.trust.1) rfl
      have a3 := a 3 (.int .i64 x.slots.1) rfl
      have a4 := a 4 (.bool x.pre) rfl
      have a5 := a 5 (.int .i64 x.phase.1) rfl
      have a6 := a 6 (.int .i64 x.beat.1) rfl
      have a7 := a 7 (.int .i64 x.till.1) rfl
      have a8 := a 8 (.slice x.toksA x.toks.length x.toksC) rfl
      clear a
      replace hz1 := Lib.hid hz1
      have hvb := Lib.hid (hva.out W1 hbA)
      clear hva
      go_enter Tryd.func21, Tryd.ntmps21
      go_wp2_with (first
        | (go_at_call 10; go_must (refine hvb.out.mono ?_; rintro e w1 ⟨rfl, hb1⟩; have hzv := hb1.size; have c0 := (hb1.cell (p := ⟨w.heap.size, 0, none⟩) (by show w.heap.size < _; omega)).trans a0; have c1 := (hb1.cell (p := ⟨w.heap.size, 1, none⟩) (by show w.heap.size < _; omega)).trans a1; have c2 := (hb1.cell (p := ⟨w.heap.size, 2, none⟩) (by show w.heap.size < _; omega)).trans a2; have c3 := (hb1.cell (p := ⟨w.heap.size, 3, none⟩) (by show w.heap.size < _; omega)).trans a3; have c4 := (hb1.cell (p := ⟨w.heap.size, 4, none⟩) (by show w.heap.size < _; omega)).trans a4; have c5 := (hb1.cell (p := ⟨w.heap.size, 5, none⟩) (by show w.heap.size < _; omega)).trans a5; have c6 := (hb1.cell (p := ⟨w.heap.size, 6, none⟩) (by show w.heap.size < _; omega)).trans a6; have c7 := (hb1.cell (p := ⟨w.heap.size, 7, none⟩) (by show w.heap.size < _; omega)).trans a7; have c8 := (hb1.cell (p := ⟨w.heap.size, 8, none⟩) (by show w.heap.size < _; omega)).trans a8; have hbw1 := hbA.trans (hb1.mono (by omega)); clear a0 a1 a2 a3 a4 a5 a6 a7 a8 hW1))
        | (go_at_call 19; go_must (refine (hlo.out _).mono ?_; rintro e w2 ⟨rfl, hb2⟩; have hz2 := hb2.size; have d3 := (hb2.cell (p := ⟨w.heap.size, 3, none⟩) (by show w.heap.size < _; omega)).trans c3; have d8 := (hb2.cell (p := ⟨w.heap.size, 8, none⟩) (by show w.heap.size < _; omega)).trans c8; have hbw2 := hbw1.trans (hb2.mono (by omega)))))
      go_ret
      first | exact ⟨ret_int hfin.out.symm, hbw1⟩ | exact ⟨ret_int hfin.out.symm, hbw2⟩
  · have hva := Lib.hid hv
    clear hv
    replace hE := Lib.hid hE
    have hne : (E != 0) = true := by rw [bne_iff_ne]; exact h0
    have hfin := Lib.hid (show freeI x now.1 = 0 by rw [hd, if_pos h0])
    clear hd
    obtain ⟨W1, hW1⟩ : ∃ W, w.alloc (.cells #[.string x.id.1, .slice x.labsA x.labs.length x.labsC, .int .i64 x.trust.1, .int .i64 x.slots.1, .bool x.pre, .int .i64 x.phase.1, .int .i64 x.beat.1, .int .i64 x.till.1, .slice x.toksA x.toks.length x.toksC] 25) = W := ⟨_, rfl⟩
    have hbA : Below w.heap.size w W1 := by rw [← hW1]; exact (Below.refl _ _).alloc (Nat.le_refl _) _
    have hz1 : W1.heap.size = w.heap.size + 1 := by rw [← hW1]; simp
    have hz1a := Nat.le_of_eq hz1
    have hz1b := Nat.le_of_eq hz1.symm
    have a : ∀ j u, (workE x)[j]? = some u → W1.cell? ⟨w.heap.size, j, none⟩ = some u := fun j u hu => by rw [← hW1]; exact box_cells w _ 25 j u hu
    have a0 := a 0 (.string x.id.1) rfl
    try rw [Nat.add_zero] at a0
    have a1 := a 1 (.slice x.labsA x.labs.length x.labsC) rfl
    have a2 := a 2 (.int .i64 x.trust.1) rfl
    have a3 := a 3 (.int .i64 x.slots.1) rfl
    have a4 := a 4 (.bool x.pre) rfl
    have a5 := a 5 (.int .i64 x.phase.1) rfl
    have a6 := a 6 (.int .i64 x.beat.1) rfl
    have a7 := a 7 (.int .i64 x.till.1) rfl
    have a8 := a 8 (.slice x.toksA x.toks.length x.toksC) rfl
    clear a
    replace hz1 := Lib.hid hz1
    have hvb := Lib.hid (hva.out W1 hbA)
    clear hva
    go_enter Tryd.func21, Tryd.ntmps21
    go_wp2_with (first
      | (go_at_call 10; go_must (refine hvb.out.mono ?_; rintro e w1 ⟨rfl, hb1⟩; have hzv := hb1.size; have c0 := (hb1.cell (p := ⟨w.heap.size, 0, none⟩) (by show w.heap.size < _; omega)).trans a0; have c1 := (hb1.cell (p := ⟨w.heap.size, 1, none⟩) (by show w.heap.size < _; omega)).trans a1; have c2 := (hb1.cell (p := ⟨w.heap.size, 2, none⟩) (by show w.heap.size < _; omega)).trans a2; have c3 := (hb1.cell (p := ⟨w.heap.size, 3, none⟩) (by show w.heap.size < _; omega)).trans a3; have c4 := (hb1.cell (p := ⟨w.heap.size, 4, none⟩) (by show w.heap.size < _; omega)).trans a4; have c5 := (hb1.cell (p := ⟨w.heap.size, 5, none⟩) (by show w.heap.size < _; omega)).trans a5; have c6 := (hb1.cell (p := ⟨w.heap.size, 6, none⟩) (by show w.heap.size < _; omega)).trans a6; have c7 := (hb1.cell (p := ⟨w.heap.size, 7, none⟩) (by show w.heap.size < _; omega)).trans a7; have c8 := (hb1.cell (p := ⟨w.heap.size, 8, none⟩) (by show w.heap.size < _; omega)).trans a8; have hbw1 := hbA.trans (hb1.mono (by omega)); clear a0 a1 a2 a3 a4 a5 a6 a7 a8 hW1))
      | (go_at_call 19; go_must (refine (hlo.out _).mono ?_; rintro e w2 ⟨rfl, hb2⟩; have hz2 := hb2.size; have d3 := (hb2.cell (p := ⟨w.heap.size, 3, none⟩) (by show w.heap.size < _; omega)).trans c3; have d8 := (hb2.cell (p := ⟨w.heap.size, 8, none⟩) (by show w.heap.size < _; omega)).trans c8; have hbw2 := hbw1.trans (hb2.mono (by omega)))))
    go_ret
    first | exact ⟨ret_int hfin.out.symm, hbw1⟩ | exact ⟨ret_int hfin.out.symm, hbw2⟩
set_option maxRecDepth 100000 in
set_option maxHeartbeats 4000000 in
theorem rfree_any (x : Work) (now : I64) (w : World) (hx : LabWork w w.heap.size x) (ho : LabOk x) : Calls Tryd.prog 22 #[(.agg #[.string x.id.1, .slice x.labsA x.labs.length x.labsC, .int .i64 x.trust.1, .int .i64 x.slots.1, .bool x.pre, .int .i64 x.phase.1, .int .i64 x.beat.1, .int .i64 x.till.1, .slice x.toksA x.toks.length x.toksC]), .int .i64 now.1] w fun e w' => e = .returned (.int .i64 (freeI x now.1)) ∧ Below w.heap.size w w' := by
  have hv : ∀ W, Below w.heap.size w W → Calls Tryd.prog 11 #[(.agg #[.string x.id.1, .slice x.labsA x.labs.length x.labsC, .int .i64 x.trust.1, .int .i64 x.slots.1, .bool x.pre, .int .i64 x.phase.1, .int .i64 x.beat.1, .int .i64 x.till.1, .slice x.toksA x.toks.length x.toksC])] W fun e w' => e = .returned (.int .i64 (wErr x)) ∧ Below W.heap.size W w' := fun W hb => rwvalid_any x W ((hx.below hb (Nat.le_refl _)).more hb.size) ho
  have hl : ∀ W, Calls Tryd.prog 20 #[(.agg #[.string x.id.1, .slice x.labsA x.labs.length x.labsC, .int .i64 x.trust.1, .int .i64 x.slots.1, .bool x.pre, .int .i64 x.phase.1, .int .i64 x.beat.1, .int .i64 x.till.1, .slice x.toksA x.toks.length x.toksC]), .int .i64 now.1] W fun e w' => e = .returned (.bool (lostB x now.1)) ∧ Below W.heap.size W w' := fun W => rlost_any x now W
  replace hx := Lib.hid hx
  replace ho := Lib.hid ho
  obtain ⟨E, hE⟩ : ∃ E, wErr x = E := ⟨_, rfl⟩
  obtain ⟨L, hL⟩ : ∃ L, lostB x now.1 = L := ⟨_, rfl⟩
  rw [hE] at hv
  rw [hL] at hl
  have hlo := Lib.hid hl
  clear hl
  have hd : freeI x now.1 = if E ≠ 0 then 0 else if x.phase.1 ≠ 0 then 0 else if L then 0 else x.slots.1 - x.toks.length := by unfold freeI; rw [hE, hL]
  replace hL := Lib.hid hL
  by_cases h0 : E = 0
  · subst h0
    have h1 := wErr_ok hE
    have hr := range_ok h1.2.2.1
    have hle := h1.2.2.2.2.2
    replace hE := Lib.hid hE
    replace h1 := Lib.hid h1
    obtain ⟨_, _, s1, s2, _, _, _⟩ := hr
    have hva := Lib.hid hv
    clear hv
    by_cases hp : x.phase.1 = 0
    · have hpn : (x.phase.1 != 0) = false := by rw [hp]; rfl
      have hpf := Lib.hid (show (x.phase.1 ≠ 0) = False by rw [hp]; simp)
      replace hp := Lib.hid hp
      rcases L with _ | _
      · have hfin := Lib.hid (show freeI x now.1 = x.slots.1 - x.toks.length by rw [hd, if_neg (by decide), if_neg (fun e => e hp.out), if_neg (by decide)])
        clear hd
        obtain ⟨W1, hW1⟩ : ∃ W, w.alloc (.cells #[.string x.id.1, .slice x.labsA x.labs.length x.labsC, .int .i64 x.trust.1, .int .i64 x.slots.1, .bool x.pre, .int .i64 x.phase.1, .int .i64 x.beat.1, .int .i64 x.till.1, .slice x.toksA x.toks.length x.toksC] 25) = W := ⟨_, rfl⟩
        have hbA : Below w.heap.size w W1 := by rw [← hW1]; exact (Below.refl _ _).alloc (Nat.le_refl _) _
        have hz1 : W1.heap.size = w.heap.size + 1 := by rw [← hW1]; simp
        have hz1a := Nat.le_of_eq hz1
        have hz1b := Nat.le_of_eq hz1.symm
        have a : ∀ j u, (workE x)[j]? = some u → W1.cell? ⟨w.heap.size, j, none⟩ = some u := fun j u hu => by rw [← hW1]; exact box_cells w _ 25 j u hu
        have a0 := a 0 (.string x.id.1) rfl
        try rw [Nat.add_zero] at a0
        have a1 := a 1 (.slice x.labsA x.labs.length x.labsC) rfl
        have a2 := a 2 (.int .i64 x.trust.1) rfl
        have a3 := a 3 (.int .i64 x.slots.1) rfl
        have a4 := a 4 (.bool x.pre) rfl
        have a5 := a 5 (.int .i64 x.phase.1) rfl
        have a6 := a 6 (.int .i64 x.beat.1) rfl
        have a7 := a 7 (.int .i64 x.till.1) rfl
        have a8 := a 8 (.slice x.toksA x.toks.length x.toksC) rfl
        clear a
        replace hz1 := Lib.hid hz1
        have hvb := Lib.hid (hva.out W1 hbA)
        clear hva
        go_enter Tryd.func22, Tryd.ntmps22
        go_wp2_with (first
          | (go_at_call 11; go_must (refine hvb.out.mono ?_; rintro e w1 ⟨rfl, hb1⟩; have hzv := hb1.size; have c0 := (hb1.cell (p := ⟨w.heap.size, 0, none⟩) (by show w.heap.size < _; omega)).trans a0; have c1 := (hb1.cell (p := ⟨w.heap.size, 1, none⟩) (by show w.heap.size < _; omega)).trans a1; have c2 := (hb1.cell (p := ⟨w.heap.size, 2, none⟩) (by show w.heap.size < _; omega)).trans a2; have c3 := (hb1.cell (p := ⟨w.heap.size, 3, none⟩) (by show w.heap.size < _; omega)).trans a3; have c4 := (hb1.cell (p := ⟨w.heap.size, 4, none⟩) (by show w.heap.size < _; omega)).trans a4; have c5 := (hb1.cell (p := ⟨w.heap.size, 5, none⟩) (by show w.heap.size < _; omega)).trans a5; have c6 := (hb1.cell (p := ⟨w.heap.size, 6, none⟩) (by show w.heap.size < _; omega)).trans a6; have c7 := (hb1.cell (p := ⟨w.heap.size, 7, none⟩) (by show w.heap.size < _; omega)).trans a7; have c8 := (hb1.cell (p := ⟨w.heap.size, 8, none⟩) (by show w.heap.size < _; omega)).trans a8; have hbw1 := hbA.trans (hb1.mono (by omega)); clear a0 a1 a2 a3 a4 a5 a6 a7 a8 hW1))
          | (go_at_call 20; go_must (refine (hlo.out _).mono ?_; rintro e w2 ⟨rfl, hb2⟩; have hz2 := hb2.size; have d3 := (hb2.cell (p := ⟨w.heap.size, 3, none⟩) (by show w.heap.size < _; omega)).trans c3; have d8 := (hb2.cell (p := ⟨w.heap.size, 8, none⟩) (by show w.heap.size < _; omega)).trans c8; have hbw2 := hbw1.trans (hb2.mono (by omega)))))
        go_ret
        first | exact ⟨ret_int hfin.out.symm, hbw1⟩ | exact ⟨ret_int hfin.out.symm, hbw2⟩
      · have hfin := Lib.hid (show freeI x now.1 = 0 by rw [hd, if_neg (by decide), if_neg (fun e => e hp.out), if_pos rfl])
        clear hd
        obtain ⟨W1, hW1⟩ : ∃ W, w.alloc (.cells #[.string x.id.1, .slice x.labsA x.labs.length x.labsC, .int .i64 x.trust.1, .int .i64 x.slots.1, .bool x.pre, .int .i64 x.phase.1, .int .i64 x.beat.1, .int .i64 x.till.1, .slice x.toksA x.toks.length x.toksC] 25) = W := ⟨_, rfl⟩
        have hbA : Below w.heap.size w W1 := by rw [← hW1]; exact (Below.refl _ _).alloc (Nat.le_refl _) _
        have hz1 : W1.heap.size = w.heap.size + 1 := by rw [← hW1]; simp
        have hz1a := Nat.le_of_eq hz1
        have hz1b := Nat.le_of_eq hz1.symm
        have a : ∀ j u, (workE x)[j]? = some u → W1.cell? ⟨w.heap.size, j, none⟩ = some u := fun j u hu => by rw [← hW1]; exact box_cells w _ 25 j u hu
        have a0 := a 0 (.string x.id.1) rfl
        try rw [Nat.add_zero] at a0
        have a1 := a 1 (.slice x.labsA x.labs.length x.labsC) rfl
        have a2 := a 2 (.int .i64 x.trust.1) rfl
        have a3 := a 3 (.int .i64 x.slots.1) rfl
        have a4 := a 4 (.bool x.pre) rfl
        have a5 := a 5 (.int .i64 x.phase.1) rfl
        have a6 := a 6 (.int .i64 x.beat.1) rfl
        have a7 := a 7 (.int .i64 x.till.1) rfl
        have a8 := a 8 (.slice x.toksA x.toks.length x.toksC) rfl
        clear a
        replace hz1 := Lib.hid hz1
        have hvb := Lib.hid (hva.out W1 hbA)
        clear hva
        go_enter Tryd.func22, Tryd.ntmps22
        go_wp2_with (first
          | (go_at_call 11; go_must (refine hvb.out.mono ?_; rintro e w1 ⟨rfl, hb1⟩; have hzv := hb1.size; have c0 := (hb1.cell (p := ⟨w.heap.size, 0, none⟩) (by show w.heap.size < _; omega)).trans a0; have c1 := (hb1.cell (p := ⟨w.heap.size, 1, none⟩) (by show w.heap.size < _; omega)).trans a1; have c2 := (hb1.cell (p := ⟨w.heap.size, 2, none⟩) (by show w.heap.size < _; omega)).trans a2; have c3 := (hb1.cell (p := ⟨w.heap.size, 3, none⟩) (by show w.heap.size < _; omega)).trans a3; have c4 := (hb1.cell (p := ⟨w.heap.size, 4, none⟩) (by show w.heap.size < _; omega)).trans a4; have c5 := (hb1.cell (p := ⟨w.heap.size, 5, none⟩) (by show w.heap.size < _; omega)).trans a5; have c6 := (hb1.cell (p := ⟨w.heap.size, 6, none⟩) (by show w.heap.size < _; omega)).trans a6; have c7 := (hb1.cell (p := ⟨w.heap.size, 7, none⟩) (by show w.heap.size < _; omega)).trans a7; have c8 := (hb1.cell (p := ⟨w.heap.size, 8, none⟩) (by show w.heap.size < _; omega)).trans a8; have hbw1 := hbA.trans (hb1.mono (by omega)); clear a0 a1 a2 a3 a4 a5 a6 a7 a8 hW1))
          | (go_at_call 20; go_must (refine (hlo.out _).mono ?_; rintro e w2 ⟨rfl, hb2⟩; have hz2 := hb2.size; have d3 := (hb2.cell (p := ⟨w.heap.size, 3, none⟩) (by show w.heap.size < _; omega)).trans c3; have d8 := (hb2.cell (p := ⟨w.heap.size, 8, none⟩) (by show w.heap.size < _; omega)).trans c8; have hbw2 := hbw1.trans (hb2.mono (by omega)))))
        go_ret
        first | exact ⟨ret_int hfin.out.symm, hbw1⟩ | exact ⟨ret_int hfin.out.symm, hbw2⟩
    · have hfin := Lib.hid (show freeI x now.1 = 0 by rw [hd, if_neg (by decide), if_pos hp])
      clear hd
      obtain ⟨W1, hW1⟩ : ∃ W, w.alloc (.cells #[.string x.id.1, .slice x.labsA x.labs.length x.labsC, .int .i64 x.trust.1, .int .i64 x.slots.1, .bool x.pre, .int .i64 x.phase.1, .int .i64 x.beat.1, .int .i64 x.till.1, .slice x.toksA x.toks.length x.toksC] 25) = W := ⟨_, rfl⟩
      have hbA : Below w.heap.size w W1 := by rw [← hW1]; exact (Below.refl _ _).alloc (Nat.le_refl _) _
      have hz1 : W1.heap.size = w.heap.size + 1 := by rw [← hW1]; simp
      have hz1a := Nat.le_of_eq hz1
      have hz1b := Nat.le_of_eq hz1.symm
      have a : ∀ j u, (workE x)[j]? = some u → W1.cell? ⟨w.heap.size, j, none⟩ = some u := fun j u hu => by rw [← hW1]; exact box_cells w _ 25 j u hu
      have a0 := a 0 (.string x.id.1) rfl
      try rw [Nat.add_zero] at a0
      have a1 := a 1 (.slice x.labsA x.labs.length x.labsC) rfl
      have a2 := a 2 (.int .i64 x.trust.1) rfl
      have a3 := a 3 (.int .i64 x.slots.1) rfl
      have a4 := a 4 (.bool x.pre) rfl
      have a5 := a 5 (.int .i64 x.phase.1) rfl
      have a6 := a 6 (.int .i64 x.beat.1) rfl
      have a7 := a 7 (.int .i64 x.till.1) rfl
      have a8 := a 8 (.slice x.toksA x.toks.length x.toksC) rfl
      clear a
      replace hz1 := Lib.hid hz1
      have hvb := Lib.hid (hva.out W1 hbA)
      clear hva
      go_enter Tryd.func22, Tryd.ntmps22
      go_wp2_with (first
        | (go_at_call 11; go_must (refine hvb.out.mono ?_; rintro e w1 ⟨rfl, hb1⟩; have hzv := hb1.size; have c0 := (hb1.cell (p := ⟨w.heap.size, 0, none⟩) (by show w.heap.size < _; omega)).trans a0; have c1 := (hb1.cell (p := ⟨w.heap.size, 1, none⟩) (by show w.heap.size < _; omega)).trans a1; have c2 := (hb1.cell (p := ⟨w.heap.size, 2, none⟩) (by show w.heap.size < _; omega)).trans a2; have c3 := (hb1.cell (p := ⟨w.heap.size, 3, none⟩) (by show w.heap.size < _; omega)).trans a3; have c4 := (hb1.cell (p := ⟨w.heap.size, 4, none⟩) (by show w.heap.size < _; omega)).trans a4; have c5 := (hb1.cell (p := ⟨w.heap.size, 5, none⟩) (by show w.heap.size < _; omega)).trans a5; have c6 := (hb1.cell (p := ⟨w.heap.size, 6, none⟩) (by show w.heap.size < _; omega)).trans a6; have c7 := (hb1.cell (p := ⟨w.heap.size, 7, none⟩) (by show w.heap.size < _; omega)).trans a7; have c8 := (hb1.cell (p := ⟨w.heap.size, 8, none⟩) (by show w.heap.size < _; omega)).trans a8; have hbw1 := hbA.trans (hb1.mono (by omega)); clear a0 a1 a2 a3 a4 a5 a6 a7 a8 hW1))
        | (go_at_call 20; go_must (refine (hlo.out _).mono ?_; rintro e w2 ⟨rfl, hb2⟩; have hz2 := hb2.size; have d3 := (hb2.cell (p := ⟨w.heap.size, 3, none⟩) (by show w.heap.size < _; omega)).trans c3; have d8 := (hb2.cell (p := ⟨w.heap.size, 8, none⟩) (by show w.heap.size < _; omega)).trans c8; have hbw2 := hbw1.trans (hb2.mono (by omega)))))
      go_ret
      first | exact ⟨ret_int hfin.out.symm, hbw1⟩ | exact ⟨ret_int hfin.out.symm, hbw2⟩
  · have hva := Lib.hid hv
    clear hv
    replace hE := Lib.hid hE
    have hne : (E != 0) = true := by rw [bne_iff_ne]; exact h0
    have hfin := Lib.hid (show freeI x now.1 = 0 by rw [hd, if_pos h0])
    clear hd
    obtain ⟨W1, hW1⟩ : ∃ W, w.alloc (.cells #[.string x.id.1, .slice x.labsA x.labs.length x.labsC, .int .i64 x.trust.1, .int .i64 x.slots.1, .bool x.pre, .int .i64 x.phase.1, .int .i64 x.beat.1, .int .i64 x.till.1, .slice x.toksA x.toks.length x.toksC] 25) = W := ⟨_, rfl⟩
    have hbA : Below w.heap.size w W1 := by rw [← hW1]; exact (Below.refl _ _).alloc (Nat.le_refl _) _
    have hz1 : W1.heap.size = w.heap.size + 1 := by rw [← hW1]; simp
    have hz1a := Nat.le_of_eq hz1
    have hz1b := Nat.le_of_eq hz1.symm
    have a : ∀ j u, (workE x)[j]? = some u → W1.cell? ⟨w.heap.size, j, none⟩ = some u := fun j u hu => by rw [← hW1]; exact box_cells w _ 25 j u hu
    have a0 := a 0 (.string x.id.1) rfl
    try rw [Nat.add_zero] at a0
    have a1 := a 1 (.slice x.labsA x.labs.length x.labsC) rfl
    have a2 := a 2 (.int .i64 x.trust.1) rfl
    have a3 := a 3 (.int .i64 x.slots.1) rfl
    have a4 := a 4 (.bool x.pre) rfl
    have a5 := a 5 (.int .i64 x.phase.1) rfl
    have a6 := a 6 (.int .i64 x.beat.1) rfl
    have a7 := a 7 (.int .i64 x.till.1) rfl
    have a8 := a 8 (.slice x.toksA x.toks.length x.toksC) rfl
    clear a
    replace hz1 := Lib.hid hz1
    have hvb := Lib.hid (hva.out W1 hbA)
    clear hva
    go_enter Tryd.func22, Tryd.ntmps22
    go_wp2_with (first
      | (go_at_call 11; go_must (refine hvb.out.mono ?_; rintro e w1 ⟨rfl, hb1⟩; have hzv := hb1.size; have c0 := (hb1.cell (p := ⟨w.heap.size, 0, none⟩) (by show w.heap.size < _; omega)).trans a0; have c1 := (hb1.cell (p := ⟨w.heap.size, 1, none⟩) (by show w.heap.size < _; omega)).trans a1; have c2 := (hb1.cell (p := ⟨w.heap.size, 2, none⟩) (by show w.heap.size < _; omega)).trans a2; have c3 := (hb1.cell (p := ⟨w.heap.size, 3, none⟩) (by show w.heap.size < _; omega)).trans a3; have c4 := (hb1.cell (p := ⟨w.heap.size, 4, none⟩) (by show w.heap.size < _; omega)).trans a4; have c5 := (hb1.cell (p := ⟨w.heap.size, 5, none⟩) (by show w.heap.size < _; omega)).trans a5; have c6 := (hb1.cell (p := ⟨w.heap.size, 6, none⟩) (by show w.heap.size < _; omega)).trans a6; have c7 := (hb1.cell (p := ⟨w.heap.size, 7, none⟩) (by show w.heap.size < _; omega)).trans a7; have c8 := (hb1.cell (p := ⟨w.heap.size, 8, none⟩) (by show w.heap.size < _; omega)).trans a8; have hbw1 := hbA.trans (hb1.mono (by omega)); clear a0 a1 a2 a3 a4 a5 a6 a7 a8 hW1))
      | (go_at_call 20; go_must (refine (hlo.out _).mono ?_; rintro e w2 ⟨rfl, hb2⟩; have hz2 := hb2.size; have d3 := (hb2.cell (p := ⟨w.heap.size, 3, none⟩) (by show w.heap.size < _; omega)).trans c3; have d8 := (hb2.cell (p := ⟨w.heap.size, 8, none⟩) (by show w.heap.size < _; omega)).trans c8; have hbw2 := hbw1.trans (hb2.mono (by omega)))))
    go_ret
    first | exact ⟨ret_int hfin.out.symm, hbw1⟩ | exact ⟨ret_int hfin.out.symm, hbw2⟩
end Go.Proofs.YtnahbfmbmpoljaaDoor
