/-
  The walks of labels: a label read, by the reference.
-/
import Derived.Test.YtnahbfmbmpoljaaDoorLab7


namespace Go.Proofs.YtnahbfmbmpoljaaDoor
open Go.RowKit

/-- A label, as the reference reads it. -/
def labQ (s : Str) : Part := if labB s = true then labP s else (0, [], 0)
theorem labQ_form (s : Str) : (labQ s).1 = 0 ↔ labB s = false := by
  unfold labQ
  rcases h : labB s with _ | _
  · simp
  · rw [if_pos rfl]
    unfold labB at h
    simp at h
    simp
    omega
theorem labQ_at {s : Str} (h : labB s = true) : labQ s = labP s := by unfold labQ; rw [if_pos h]
set_option maxRecDepth 100000 in
theorem rlabel_any (s : Str) (w : World) : Calls Tryd.prog 58 #[.string s.1] w fun e w' => e = .returned (tv (labQ s)) ∧ Below w.heap.size w w' := by
  have hrd0 := fun W => read_any s.1 W s.2
  rw [← parse_eq] at hrd0
  have hq : labQ s = if labB s = true then labP s else (0, [], 0) := rfl
  unfold labB at hq
  have hpp : labP s = parseL s.1.toList := rfl
  obtain ⟨⟨f, nm, n⟩, hp⟩ : ∃ p, parseL s.1.toList = p := ⟨_, rfl⟩
  rw [hp] at hpp hrd0
  rw [hpp] at hq
  have hrd : Hid (∀ W, Calls Tryd.prog 77 #[.string s.1] W fun e w' => e = .returned (.agg #[.int .i64 (f : Int), .string ⟨nm.toArray⟩, .int .i64 (n : Int)]) ∧ Below W.heap.size W w') := Lib.hid hrd0
  clear hrd0
  replace hp := Lib.hid hp
  replace hpp := Lib.hid hpp
  by_cases h1 : f = 1
  · subst h1
    have hfin := Lib.hid (hq.trans (if_pos rfl))
    clear hq
    go_enter Tryd.func58, Tryd.ntmps58
    go_wp2_with (go_at_call 77; go_must (refine (hrd.out _).mono ?_; rintro e w1 ⟨rfl, hb1⟩; have hz1 := hb1.size; (try simp at hz1); have hlt1 : w.heap.size < w1.heap.size := (by omega); obtain ⟨hc1, hf1⟩ := blk_at hb1 w.heap.size (by (try simp) <;> omega)))
    have n0 : w1.cell? ⟨w.heap.size, 0, none⟩ = some (.int .i64 0) := by go_simp
    have n1 : w1.cell? ⟨w.heap.size, 1, none⟩ = some (.string ⟨#[]⟩) := by go_simp
    have n2 : w1.cell? ⟨w.heap.size, 2, none⟩ = some (.int .i64 0) := by go_simp
    obtain ⟨s0, s1, s2⟩ := set3_cells (a := .int .i64 1) (b := .string ⟨nm.toArray⟩) (c := .int .i64 (n : Int)) n0 n1 n2
    exact bodyPost_ret (v := .agg #[.int .i64 1, .string ⟨nm.toArray⟩, .int .i64 (n : Int)]) (by simp [results, Tryd.results58, go_sem, *]) rfl ⟨by rw [hfin.out]; rfl, (by repeat (first | (with_reducible exact Below.refl _ _) | (with_reducible refine Below.drew ?_) | (with_reducible refine below_drewN ?_ _) | ((with_reducible refine Below.alloc ?_ ?_ _); rotate_left; focus ((try simp) <;> omega)) | ((with_reducible refine Below.setCell ?_ ?_ _); rotate_left; focus ((try simp) <;> omega)) | ((with_reducible refine Below.trans ?_ (Below.mono (by assumption) ?_)); rotate_left; focus ((try simp) <;> omega))))⟩
  by_cases h5 : f = 5
  · subst h5
    have hfin := Lib.hid (hq.trans (if_pos rfl))
    clear hq
    go_enter Tryd.func58, Tryd.ntmps58
    go_wp2_with (go_at_call 77; go_must (refine (hrd.out _).mono ?_; rintro e w1 ⟨rfl, hb1⟩; have hz1 := hb1.size; (try simp at hz1); have hlt1 : w.heap.size < w1.heap.size := (by omega); obtain ⟨hc1, hf1⟩ := blk_at hb1 w.heap.size (by (try simp) <;> omega)))
    have n0 : w1.cell? ⟨w.heap.size, 0, none⟩ = some (.int .i64 0) := by go_simp
    have n1 : w1.cell? ⟨w.heap.size, 1, none⟩ = some (.string ⟨#[]⟩) := by go_simp
    have n2 : w1.cell? ⟨w.heap.size, 2, none⟩ = some (.int .i64 0) := by go_simp
    obtain ⟨s0, s1, s2⟩ := set3_cells (a := .int .i64 5) (b := .string ⟨nm.toArray⟩) (c := .int .i64 (n : Int)) n0 n1 n2
    exact bodyPost_ret (v := .agg #[.int .i64 5, .string ⟨nm.toArray⟩, .int .i64 (n : Int)]) (by simp [results, Tryd.results58, go_sem, *]) rfl ⟨by rw [hfin.out]; rfl, (by repeat (first | (with_reducible exact Below.refl _ _) | (with_reducible refine Below.drew ?_) | (with_reducible refine below_drewN ?_ _) | ((with_reducible refine Below.alloc ?_ ?_ _); rotate_left; focus ((try simp) <;> omega)) | ((with_reducible refine Below.setCell ?_ ?_ _); rotate_left; focus ((try simp) <;> omega)) | ((with_reducible refine Below.trans ?_ (Below.mono (by assumption) ?_)); rotate_left; focus ((try simp) <;> omega))))⟩
  have hcond : (decide (f = 1) || decide (f = 5)) = false := by rw [decide_eq_false h1, decide_eq_false h5]; rfl
  change labQ s = if (decide (f = 1) || decide (f = 5)) = true then _ else _ at hq
  rw [hcond, if_neg (by decide)] at hq
  have hfin := Lib.hid hq
  clear hq hcond
  have e1 : ((f : Int) == 1) = false := by rw [beq_eq_false_iff_ne]; omega
  have e5 : ((f : Int) == 5) = false := by rw [beq_eq_false_iff_ne]; omega
  have n1 : ¬ (f : Int) = 1 := by omega
  have n5 : ¬ (f : Int) = 5 := by omega
  have m1 : ((f : Int) != 1) = true := by simpa using n1
  have m5 : ((f : Int) != 5) = true := by simpa using n5
  go_enter Tryd.func58, Tryd.ntmps58
  go_wp2_with (go_at_call 77; go_must (refine (hrd.out _).mono ?_; rintro e w1 ⟨rfl, hb1⟩; have hz1 := hb1.size; (try simp at hz1); have hlt1 : w.heap.size < w1.heap.size := (by omega); obtain ⟨hc1, hf1⟩ := blk_at hb1 w.heap.size (by (try simp) <;> omega)))
  have n0 : w1.cell? ⟨w.heap.size, 0, none⟩ = some (.int .i64 0) := by go_simp
  have n1 : w1.cell? ⟨w.heap.size, 1, none⟩ = some (.string ⟨#[]⟩) := by go_simp
  have n2 : w1.cell? ⟨w.heap.size, 2, none⟩ = some (.int .i64 0) := by go_simp
  obtain ⟨s0, s1, s2⟩ := set3_cells (a := .int .i64 0) (b := .string ⟨#[]⟩) (c := .int .i64 0) n0 n1 n2
  exact bodyPost_ret (v := .agg #[.int .i64 0, .string ⟨#[]⟩, .int .i64 0]) (by simp [results, Tryd.results58, go_sem, *]) rfl ⟨by rw [hfin.out]; rfl, (by repeat (first | (with_reducible exact Below.refl _ _) | (with_reducible refine Below.drew ?_) | (with_reducible refine below_drewN ?_ _) | ((with_reducible refine Below.alloc ?_ ?_ _); rotate_left; focus ((try simp) <;> omega)) | ((with_reducible refine Below.setCell ?_ ?_ _); rotate_left; focus ((try simp) <;> omega)) | ((with_reducible refine Below.trans ?_ (Below.mono (by assumption) ?_)); rotate_left; focus ((try simp) <;> omega))))⟩
end Go.Proofs.YtnahbfmbmpoljaaDoor
