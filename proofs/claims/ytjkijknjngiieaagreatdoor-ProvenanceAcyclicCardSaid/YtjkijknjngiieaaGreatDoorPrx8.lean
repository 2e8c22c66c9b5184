/-
  The walks of provenance: equal lists of links; whether links are few and short; the laws' own link.
-/
import Derived.Test.YtjkijknjngiieaaGreatDoorPrx7


namespace Go.Proofs.YtjkijknjngiieaaGreatDoor
open Go.RowKit

set_option maxRecDepth 100000 in
set_option maxHeartbeats 8000000 in
theorem samelinks_eq (A A2 : Option Addr) (c c2 : Nat) (l l2 : List Lkr) (w : World) (h1 : RwL w w.heap.size A l) (h2 : RwL w w.heap.size A2 l2) (he : l.map Lkr.h = l2.map Lkr.h) (hm : MildL l) :
    Calls Tryz.prog 13 #[.slice A l.length c, .slice A2 l2.length c2] w fun e w' => e = .returned (.bool true) ∧ Below w.heap.size w w' := by
  have hlen : l2.length = l.length := by simpa using (congrArg List.length he).symm
  rw [hlen]
  have hln := hm.len
  replace hlen := Lib.hid hlen
  replace h1 := Lib.hid h1
  replace h2 := Lib.hid h2
  replace he := Lib.hid he
  replace hm := Lib.hid hm
  go_enter Tryz.func13, Tryz.ntmps13
  go_wp2_with fail
  go_loopw [5] (fun vi wr => ∃ k : Nat, k ≤ l.length ∧ vi = .int .i64 (k : Int) ∧ Below w.heap.size w wr) (fun vi _ => l.length - (intOf vi).toNat)
  case atStart => exact ⟨0, Nat.zero_le _, rfl, Below.refl _ _⟩
  case round =>
    obtain ⟨k, hk, rfl, hbw⟩ := hrel
    have hz := hbw.size
    by_cases hkl : k < l.length
    · obtain ⟨x, hx⟩ := get_some hkl
      obtain ⟨y, hy⟩ := get_some (show k < l2.length by rw [hlen.out]; exact hkl)
      have hxy : x.h = y.h := by
        have h3 : (l.map Lkr.h)[k]? = some x.h := by rw [List.getElem?_map, hx]; rfl
        rw [he.out, List.getElem?_map, hy] at h3
        simpa using h3.symm
      have hlx := h1.out.labs x (List.mem_of_getElem? hx)
      have hly := h2.out.labs y (List.mem_of_getElem? hy)
      have hsl := Lib.hid (fun W (hb : Below w.heap.size w W) => samelink_eq x y W ((hlx.below hb (Nat.le_refl _)).more hb.size) ((hly.below hb (Nat.le_refl _)).more hb.size) hxy (hm.out.each x (List.mem_of_getElem? hx)).len)
      obtain ⟨g, o, rfl, hg, q⟩ := h1.out.row (by omega)
      obtain ⟨g2, o2, rfl, hg2, q2⟩ := h2.out.row (by rw [hlen.out]; omega)
      have hq1 := q k x hx
      have hq2 := q2 k y hy
      have e0 := (hbw.cell (p := ⟨g, o + k * 8 + 0, none⟩) (by assumption)).trans (hq1 0 (.string x.run.1) rfl)
      rw [Nat.add_zero] at e0
      have e1 := (hbw.cell (p := ⟨g, o + k * 8 + 1, none⟩) (by assumption)).trans (hq1 1 (.string x.job.1) rfl)
      have e2 := (hbw.cell (p := ⟨g, o + k * 8 + 2, none⟩) (by assumption)).trans (hq1 2 (.int .i64 x.attempt.1) rfl)
      have e3 := (hbw.cell (p := ⟨g, o + k * 8 + 3, none⟩) (by assumption)).trans (hq1 3 (.int .u64 x.spec.1) rfl)
      have e4 := (hbw.cell (p := ⟨g, o + k * 8 + 4, none⟩) (by assumption)).trans (hq1 4 (.slice x.insA x.ins.length x.insC) rfl)
      have e5 := (hbw.cell (p := ⟨g, o + k * 8 + 5, none⟩) (by assumption)).trans (hq1 5 (.string x.name.1) rfl)
      have e6 := (hbw.cell (p := ⟨g, o + k * 8 + 6, none⟩) (by assumption)).trans (hq1 6 (.int .u64 x.digest.1) rfl)
      have e7 := (hbw.cell (p := ⟨g, o + k * 8 + 7, none⟩) (by assumption)).trans (hq1 7 (.int .i64 x.size.1) rfl)
      have f0 := (hbw.cell (p := ⟨g2, o2 + k * 8 + 0, none⟩) (by assumption)).trans (hq2 0 (.string y.run.1) rfl)
      rw [Nat.add_zero] at f0
      have f1 := (hbw.cell (p := ⟨g2, o2 + k * 8 + 1, none⟩) (by assumption)).trans (hq2 1 (.string y.job.1) rfl)
      have f2 := (hbw.cell (p := ⟨g2, o2 + k * 8 + 2, none⟩) (by assumption)).trans (hq2 2 (.int .i64 y.attempt.1) rfl)
      have f3 := (hbw.cell (p := ⟨g2, o2 + k * 8 + 3, none⟩) (by assumption)).trans (hq2 3 (.int .u64 y.spec.1) rfl)
      have f4 := (hbw.cell (p := ⟨g2, o2 + k * 8 + 4, none⟩) (by assumption)).trans (hq2 4 (.slice y.insA y.ins.length y.insC) rfl)
      have f5 := (hbw.cell (p := ⟨g2, o2 + k * 8 + 5, none⟩) (by assumption)).trans (hq2 5 (.string y.name.1) rfl)
      have f6 := (hbw.cell (p := ⟨g2, o2 + k * 8 + 6, none⟩) (by assumption)).trans (hq2 6 (.int .u64 y.digest.1) rfl)
      have f7 := (hbw.cell (p := ⟨g2, o2 + k * 8 + 7, none⟩) (by assumption)).trans (hq2 7 (.int .i64 y.size.1) rfl)
      clear q q2 hq1 hq2
      have i0 : (0 : Int) ≤ (k : Int) := by omega
      have i1 : (k : Int) < (l.length : Int) := by omega
      replace hx := Lib.hid hx
      replace hy := Lib.hid hy
      replace hxy := Lib.hid hxy
      replace hlx := Lib.hid hlx
      replace hly := Lib.hid hly
      go_wp2_with fail
      go_region_held3 (fun w' => (w'.cell? ⟨g, o + k * 8, none⟩ = some (.string x.run.1) ∧ w'.cell? ⟨g, o + k * 8 + 1, none⟩ = some (.string x.job.1) ∧ w'.cell? ⟨g, o + k * 8 + 2, none⟩ = some (.int .i64 x.attempt.1) ∧ w'.cell? ⟨g, o + k * 8 + 3, none⟩ = some (.int .u64 x.spec.1) ∧ w'.cell? ⟨g, o + k * 8 + 4, none⟩ = some (.slice x.insA x.ins.length x.insC) ∧ w'.cell? ⟨g, o + k * 8 + 5, none⟩ = some (.string x.name.1) ∧ w'.cell? ⟨g, o + k * 8 + 6, none⟩ = some (.int .u64 x.digest.1) ∧ w'.cell? ⟨g, o + k * 8 + 7, none⟩ = some (.int .i64 x.size.1)) ∧ (w'.cell? ⟨g2, o2 + k * 8, none⟩ = some (.string y.run.1) ∧ w'.cell? ⟨g2, o2 + k * 8 + 1, none⟩ = some (.string y.job.1) ∧ w'.cell? ⟨g2, o2 + k * 8 + 2, none⟩ = some (.int .i64 y.attempt.1) ∧ w'.cell? ⟨g2, o2 + k * 8 + 3, none⟩ = some (.int .u64 y.spec.1) ∧ w'.cell? ⟨g2, o2 + k * 8 + 4, none⟩ = some (.slice y.insA y.ins.length y.insC) ∧ w'.cell? ⟨g2, o2 + k * 8 + 5, none⟩ = some (.string y.name.1) ∧ w'.cell? ⟨g2, o2 + k * 8 + 6, none⟩ = some (.int .u64 y.digest.1) ∧ w'.cell? ⟨g2, o2 + k * 8 + 7, none⟩ = some (.int .i64 y.size.1))) (first | (go_keep; done) | (go_simp; done) | go_keep)
        (first
        | (go_at_call 18; go_must (refine (hsl.out _ (by repeat (first | (with_reducible exact Below.refl _ _) | (with_reducible refine Below.drew ?_) | (with_reducible refine below_drewN ?_ _) | ((with_reducible refine Below.alloc ?_ ?_ _); rotate_left; focus ((try simp) <;> omega)) | ((with_reducible refine Below.setCell ?_ ?_ _); rotate_left; focus ((try simp) <;> omega)) | ((with_reducible refine Below.trans ?_ (Below.mono (by assumption) ?_)); rotate_left; focus ((try simp) <;> omega))))).mono ?_; rintro e w3 ⟨rfl, hb3⟩; have hz3 := hb3.size; (try simp at hz3); obtain ⟨hc3, hf3⟩ := blk_at hb3 g (by (try simp) <;> omega); obtain ⟨hd3, he3⟩ := blk_at hb3 g2 (by (try simp) <;> omega)))
        | fail "none")
      go_wp2_with fail
      go_roundw
      case rel => exact ⟨k + 1, by omega, by go_num, (by repeat (first | (with_reducible exact Below.refl _ _) | (with_reducible refine Below.drew ?_) | (with_reducible refine below_drewN ?_ _) | ((with_reducible refine Below.alloc ?_ ?_ _); rotate_left; focus ((try simp) <;> omega)) | ((with_reducible refine Below.setCell ?_ ?_ _); rotate_left; focus ((try simp) <;> omega)) | ((with_reducible refine Below.trans ?_ (Below.mono (by assumption) ?_)); rotate_left; focus ((try simp) <;> omega))))⟩
      case measure => simp [intOf]; omega
    · have i1 : ¬ (k : Int) < (l.length : Int) := by omega
      go_wp2_with fail
      go_ret
      exact ⟨rfl, hbw⟩
def inS (y : OutR) : Bool := decide (y.name.1.size ≤ 600)
def shortB (x : Lkr) : Bool := (x.ins.take 12).all inS && (decide (x.run.1.size ≤ 600) && (decide (x.job.1.size ≤ 600) && (decide (x.name.1.size ≤ 600) && decide (x.ins.length ≤ 12))))
def fewB (l : List Lkr) : Bool := (l.take 14).all shortB && decide (l.length ≤ 14)
theorem short_mild {x : Lkr} (h : shortB x = true) : MildK x ∧ x.ins.length ≤ 12 := by
  unfold shortB at h
  simp only [Bool.and_eq_true, decide_eq_true_eq] at h
  obtain ⟨h1, h2, h3, h4, h5⟩ := h
  rw [List.take_of_length_le h5, List.all_eq_true] at h1
  exact ⟨⟨by omega, by omega, by omega, by omega, fun y hy => by have := h1 y hy; unfold inS at this; rw [decide_eq_true_eq] at this; omega⟩, h5⟩
theorem few_mildL {l : List Lkr} (h : fewB l = true) : MildL l ∧ l.length ≤ 14 := by
  unfold fewB at h
  rw [Bool.and_eq_true, decide_eq_true_eq] at h
  obtain ⟨h1, h2⟩ := h
  rw [List.take_of_length_le h2, List.all_eq_true] at h1
  exact ⟨⟨by omega, fun x hx => (short_mild (h1 x hx)).1⟩, h2⟩
theorem take_min {α : Type} (l : List α) {k n : Nat} (h : k ≤ n) : l.take k = (l.take n).take k := by rw [List.take_take, Nat.min_eq_left h]
set_option maxRecDepth 100000 in
set_option maxHeartbeats 8000000 in
theorem short_any (x : Lkr) (w : World) (hx : LabLkr w w.heap.size x) :
    Calls Tryz.prog 9 #[.agg #[.string x.run.1, .string x.job.1, .int .i64 x.attempt.1, .int .u64 x.spec.1, .slice x.insA x.ins.length x.insC, .string x.name.1, .int .u64 x.digest.1, .int .i64 x.size.1]] w fun e w' => e = .returned (.bool (shortB x)) ∧ Below w.heap.size w w' := by
  obtain ⟨R, hR⟩ : ∃ R, shortB x = R := ⟨_, rfl⟩
  rw [hR]
  unfold shortB at hR
  have hlc := hx.1
  have hcm := hx.2.1
  have hrow := hx.2.2
  obtain ⟨IA, hIA⟩ : ∃ IA, x.insA = IA := ⟨_, rfl⟩
  rw [hIA] at hrow ⊢
  have hln : x.ins.length ≤ 9223372036854775807 := by unfold maxLen at hcm; omega
  replace hrow := Lib.hid hrow
  replace hR := Lib.hid hR
  clear hx hIA hcm
  go_enter Tryz.func9, Tryz.ntmps9
  go_wp2_with fail
  go_loopw [3] (fun vi wr => ∃ k : Nat, k ≤ x.ins.length ∧ k ≤ 12 ∧ vi = .int .i64 (k : Int) ∧ (x.ins.take k).all inS = true ∧ w.alloc (.cells #[.string x.run.1, .string x.job.1, .int .i64 x.attempt.1, .int .u64 x.spec.1, .slice IA x.ins.length x.insC, .string x.name.1, .int .u64 x.digest.1, .int .i64 x.size.1] 31) = wr) (fun vi _ => x.ins.length - (intOf vi).toNat)
  case atStart => exact ⟨0, Nat.zero_le _, Nat.zero_le _, rfl, rfl, rfl⟩
  case round =>
    obtain ⟨k, hk, hk2, rfl, ht, rfl⟩ := hrel
    by_cases hkl : k < x.ins.length ∧ k < 12
    · obtain ⟨y, hy⟩ := get_some hkl.1
      have hyt : (x.ins.take 12)[k]? = some y := by rw [List.getElem?_take, if_pos hkl.2]; exact hy
      obtain ⟨g, o, rfl, hg, hq⟩ := hrow.out (by omega)
      have q0 : (w.alloc (.cells #[.string x.run.1, .string x.job.1, .int .i64 x.attempt.1, .int .u64 x.spec.1, .slice (some ⟨g, o, none⟩) x.ins.length x.insC, .string x.name.1, .int .u64 x.digest.1, .int .i64 x.size.1] 31)).cell? ⟨g, o + k * 3, none⟩ = some (.string y.name.1) := (World.cell?_alloc_lt w _ ⟨g, o + k * 3, none⟩ hg).trans (by simpa using hq k y hy 0 (.string y.name.1) rfl)
      clear hq
      have i0 : (0 : Int) ≤ (k : Int) := by omega
      have i1 : (k : Int) < (x.ins.length : Int) := by omega
      have i2 : (k : Int) < 12 := by omega
      by_cases h6 : 600 < y.name.1.size
      · have hf : Hid (R = false) := Lib.hid (by rw [← hR.out, all_no (p := inS) hyt (by unfold inS; rw [decide_eq_false (by omega)])]; rfl)
        have h6z : (600 : Int) < (y.name.1.size : Int) := by omega
        replace hy := Lib.hid hy
        replace hyt := Lib.hid hyt
        replace ht := Lib.hid ht
        replace hkl := Lib.hid hkl
        go_wp2_with fail
        go_ret
        exact ⟨by rw [hf.out]; rfl, (by repeat (first | (with_reducible exact Below.refl _ _) | (with_reducible refine Below.drew ?_) | (with_reducible refine below_drewN ?_ _) | ((with_reducible refine Below.alloc ?_ ?_ _); rotate_left; focus ((try simp) <;> omega)) | ((with_reducible refine Below.setCell ?_ ?_ _); rotate_left; focus ((try simp) <;> omega)) | ((with_reducible refine Below.trans ?_ (Below.mono (by assumption) ?_)); rotate_left; focus ((try simp) <;> omega))))⟩
      · have h6z : ¬ (600 : Int) < (y.name.1.size : Int) := by omega
        have hn2 := Lib.hid (all_at (p := inS) hy ht (by unfold inS; rw [decide_eq_true (by omega)]))
        have hk1 := hkl.1
        have hk3 := hkl.2
        replace hy := Lib.hid hy
        replace hyt := Lib.hid hyt
        replace ht := Lib.hid ht
        replace hkl := Lib.hid hkl
        go_wp2_with fail
        go_roundw
        case rel => exact ⟨k + 1, by omega, by omega, by go_num, hn2.out, by first | rfl | trivial⟩
        case measure => simp [intOf]; omega
    · have ht12 : (x.ins.take 12).all inS = true := by
        by_cases h1 : k < x.ins.length
        · have : k = 12 := by omega
          rw [← this]; exact ht
        · rw [List.take_of_length_le (show x.ins.length ≤ 12 by omega)]
          rwa [List.take_of_length_le (by omega)] at ht
      have hR2 := hR.out
      rw [ht12, Bool.true_and] at hR2
      replace ht12 := Lib.hid ht12
      replace ht := Lib.hid ht
      have hend : ∀ b, (k : Int) < (x.ins.length : Int) → (k : Int) < 12 → b = true := fun b h1 h2 => by exfalso; exact hkl ⟨by omega, by omega⟩
      clear hend
      by_cases a1 : x.run.1.size ≤ 600
      rotate_left
      · have hf : Hid (R = false) := Lib.hid (by rw [← hR2, decide_eq_false a1]; rfl)
        have a1z : ¬ (x.run.1.size : Int) ≤ 600 := by omega
        replace hR2 := Lib.hid hR2
        by_cases hkl2 : k < x.ins.length
        rotate_left
        have j1 : ¬ (k : Int) < (x.ins.length : Int) := by omega
        go_wp2_with fail
        go_ret
        exact ⟨by rw [hf.out]; rfl, (by repeat (first | (with_reducible exact Below.refl _ _) | (with_reducible refine Below.drew ?_) | (with_reducible refine below_drewN ?_ _) | ((with_reducible refine Below.alloc ?_ ?_ _); rotate_left; focus ((try simp) <;> omega)) | ((with_reducible refine Below.setCell ?_ ?_ _); rotate_left; focus ((try simp) <;> omega)) | ((with_reducible refine Below.trans ?_ (Below.mono (by assumption) ?_)); rotate_left; focus ((try simp) <;> omega))))⟩
        have j1 : (k : Int) < (x.ins.length : Int) := by omega
        have j2 : ¬ (k : Int) < 12 := by omega
        go_wp2_with fail
        go_ret
        exact ⟨by rw [hf.out]; rfl, (by repeat (first | (with_reducible exact Below.refl _ _) | (with_reducible refine Below.drew ?_) | (with_reducible refine below_drewN ?_ _) | ((with_reducible refine Below.alloc ?_ ?_ _); rotate_left; focus ((try simp) <;> omega)) | ((with_reducible refine Below.setCell ?_ ?_ _); rotate_left; focus ((try simp) <;> omega)) | ((with_reducible refine Below.trans ?_ (Below.mono (by assumption) ?_)); rotate_left; focus ((try simp) <;> omega))))⟩
      by_cases a2 : x.job.1.size ≤ 600
      rotate_left
      · have hf : Hid (R = false) := Lib.hid (by rw [← hR2, decide_eq_true a1, decide_eq_false a2]; rfl)
        have a1z : (x.run.1.size : Int) ≤ 600 := by omega
        have a2z : ¬ (x.job.1.size : Int) ≤ 600 := by omega
        replace hR2 := Lib.hid hR2
        by_cases hkl2 : k < x.ins.length
        rotate_left
        have j1 : ¬ (k : Int) < (x.ins.length : Int) := by omega
        go_wp2_with fail
        go_ret
        exact ⟨by rw [hf.out]; rfl, (by repeat (first | (with_reducible exact Below.refl _ _) | (with_reducible refine Below.drew ?_) | (with_reducible refine below_drewN ?_ _) | ((with_reducible refine Below.alloc ?_ ?_ _); rotate_left; focus ((try simp) <;> omega)) | ((with_reducible refine Below.setCell ?_ ?_ _); rotate_left; focus ((try simp) <;> omega)) | ((with_reducible refine Below.trans ?_ (Below.mono (by assumption) ?_)); rotate_left; focus ((try simp) <;> omega))))⟩
        have j1 : (k : Int) < (x.ins.length : Int) := by omega
        have j2 : ¬ (k : Int) < 12 := by omega
        go_wp2_with fail
        go_ret
        exact ⟨by rw [hf.out]; rfl, (by repeat (first | (with_reducible exact Below.refl _ _) | (with_reducible refine Below.drew ?_) | (with_reducible refine below_drewN ?_ _) | ((with_reducible refine Below.alloc ?_ ?_ _); rotate_left; focus ((try simp) <;> omega)) | ((with_reducible refine Below.setCell ?_ ?_ _); rotate_left; focus ((try simp) <;> omega)) | ((with_reducible refine Below.trans ?_ (Below.mono (by assumption) ?_)); rotate_left; focus ((try simp) <;> omega))))⟩
      by_cases a3 : x.name.1.size ≤ 600
      rotate_left
      · have hf : Hid (R = false) := Lib.hid (by rw [← hR2, decide_eq_true a1, decide_eq_true a2, decide_eq_false a3]; rfl)
        have a1z : (x.run.1.size : Int) ≤ 600 := by omega
        have a2z : (x.job.1.size : Int) ≤ 600 := by omega
        have a3z : ¬ (x.name.1.size : Int) ≤ 600 := by omega
        replace hR2 := Lib.hid hR2
        by_cases hkl2 : k < x.ins.length
        rotate_left
        have j1 : ¬ (k : Int) < (x.ins.length : Int) := by omega
        go_wp2_with fail
        go_ret
        exact ⟨by rw [hf.out]; rfl, (by repeat (first | (with_reducible exact Below.refl _ _) | (with_reducible refine Below.drew ?_) | (with_reducible refine below_drewN ?_ _) | ((with_reducible refine Below.alloc ?_ ?_ _); rotate_left; focus ((try simp) <;> omega)) | ((with_reducible refine Below.setCell ?_ ?_ _); rotate_left; focus ((try simp) <;> omega)) | ((with_reducible refine Below.trans ?_ (Below.mono (by assumption) ?_)); rotate_left; focus ((try simp) <;> omega))))⟩
        have j1 : (k : Int) < (x.ins.length : Int) := by omega
        have j2 : ¬ (k : Int) < 12 := by omega
        go_wp2_with fail
        go_ret
        exact ⟨by rw [hf.out]; rfl, (by repeat (first | (with_reducible exact Below.refl _ _) | (with_reducible refine Below.drew ?_) | (with_reducible refine below_drewN ?_ _) | ((with_reducible refine Below.alloc ?_ ?_ _); rotate_left; focus ((try simp) <;> omega)) | ((with_reducible refine Below.setCell ?_ ?_ _); rotate_left; focus ((try simp) <;> omega)) | ((with_reducible refine Below.trans ?_ (Below.mono (by assumption) ?_)); rotate_left; focus ((try simp) <;> omega))))⟩
      have hf : Hid (R = decide (x.ins.length ≤ 12)) := Lib.hid (by rw [← hR2, decide_eq_true a1, decide_eq_true a2, decide_eq_true a3]; rfl)
      have a1z : (x.run.1.size : Int) ≤ 600 := by omega
      have a2z : (x.job.1.size : Int) ≤ 600 := by omega
      have a3z : (x.name.1.size : Int) ≤ 600 := by omega
      replace hR2 := Lib.hid hR2
      by_cases hkl2 : k < x.ins.length
      rotate_left
      have j1 : ¬ (k : Int) < (x.ins.length : Int) := by omega
      go_wp2_with fail
      go_ret
      exact ⟨by rw [hf.out]; exact ret_dec (by omega), (by repeat (first | (with_reducible exact Below.refl _ _) | (with_reducible refine Below.drew ?_) | (with_reducible refine below_drewN ?_ _) | ((with_reducible refine Below.alloc ?_ ?_ _); rotate_left; focus ((try simp) <;> omega)) | ((with_reducible refine Below.setCell ?_ ?_ _); rotate_left; focus ((try simp) <;> omega)) | ((with_reducible refine Below.trans ?_ (Below.mono (by assumption) ?_)); rotate_left; focus ((try simp) <;> omega))))⟩
      have j1 : (k : Int) < (x.ins.length : Int) := by omega
      have j2 : ¬ (k : Int) < 12 := by omega
      go_wp2_with fail
      go_ret
      exact ⟨by rw [hf.out]; exact ret_dec (by omega), (by repeat (first | (with_reducible exact Below.refl _ _) | (with_reducible refine Below.drew ?_) | (with_reducible refine below_drewN ?_ _) | ((with_reducible refine Below.alloc ?_ ?_ _); rotate_left; focus ((try simp) <;> omega)) | ((with_reducible refine Below.setCell ?_ ?_ _); rotate_left; focus ((try simp) <;> omega)) | ((with_reducible refine Below.trans ?_ (Below.mono (by assumption) ?_)); rotate_left; focus ((try simp) <;> omega))))⟩
set_option maxRecDepth 100000 in
set_option maxHeartbeats 8000000 in
theorem few_any (A : Option Addr) (c : Nat) (l : List Lkr) (w : World) (hr : RwL w w.heap.size A l) (hlc : l.length ≤ c) (hcm : c ≤ maxLen) :
    Calls Tryz.prog 8 #[.slice A l.length c] w fun e w' => e = .returned (.bool (fewB l)) ∧ Below w.heap.size w w' := by
  obtain ⟨R, hR⟩ : ∃ R, fewB l = R := ⟨_, rfl⟩
  rw [hR]
  unfold fewB at hR
  have hsh : Hid (∀ x ∈ l, ∀ W, Below w.heap.size w W → Calls Tryz.prog 9 #[.agg #[.string x.run.1, .string x.job.1, .int .i64 x.attempt.1, .int .u64 x.spec.1, .slice x.insA x.ins.length x.insC, .string x.name.1, .int .u64 x.digest.1, .int .i64 x.size.1]] W fun e w' => e = .returned (.bool (shortB x)) ∧ Below W.heap.size W w') := Lib.hid fun x hx W hb => short_any x W (((hr.labs x hx).below hb (Nat.le_refl _)).more hb.size)
  have hln : l.length ≤ 9223372036854775807 := by unfold maxLen at hcm; omega
  have hrow := Lib.hid hr.row
  replace hR := Lib.hid hR
  clear hr hcm
  go_enter Tryz.func8, Tryz.ntmps8
  go_wp2_with fail
  go_loopw [3] (fun vi wr => ∃ k : Nat, k ≤ l.length ∧ k ≤ 14 ∧ vi = .int .i64 (k : Int) ∧ (l.take k).all shortB = true ∧ Below w.heap.size w wr) (fun vi _ => l.length - (intOf vi).toNat)
  case atStart => exact ⟨0, Nat.zero_le _, Nat.zero_le _, rfl, rfl, Below.refl _ _⟩
  case round =>
    obtain ⟨k, hk, hk2, rfl, ht, hbw⟩ := hrel
    have hz := hbw.size
    have hbw0 : Hid (Below w.heap.size w wr) := Lib.hid hbw
    by_cases hkl : k < l.length ∧ k < 14
    · obtain ⟨y, hy⟩ := get_some hkl.1
      have hyt : (l.take 14)[k]? = some y := by rw [List.getElem?_take, if_pos hkl.2]; exact hy
      have hk1 := hkl.1
      have hk3 := hkl.2
      obtain ⟨g, o, rfl, hg, hq⟩ := hrow.out (by omega)
      have hq1 := hq k y hy
      have q0 := (hbw.cell (p := ⟨g, o + k * 8 + 0, none⟩) hg).trans (hq1 0 (.string y.run.1) rfl)
      rw [Nat.add_zero] at q0
      have q1 := (hbw.cell (p := ⟨g, o + k * 8 + 1, none⟩) hg).trans (hq1 1 (.string y.job.1) rfl)
      have q2 := (hbw.cell (p := ⟨g, o + k * 8 + 2, none⟩) hg).trans (hq1 2 (.int .i64 y.attempt.1) rfl)
      have q3 := (hbw.cell (p := ⟨g, o + k * 8 + 3, none⟩) hg).trans (hq1 3 (.int .u64 y.spec.1) rfl)
      have q4 := (hbw.cell (p := ⟨g, o + k * 8 + 4, none⟩) hg).trans (hq1 4 (.slice y.insA y.ins.length y.insC) rfl)
      have q5 := (hbw.cell (p := ⟨g, o + k * 8 + 5, none⟩) hg).trans (hq1 5 (.string y.name.1) rfl)
      have q6 := (hbw.cell (p := ⟨g, o + k * 8 + 6, none⟩) hg).trans (hq1 6 (.int .u64 y.digest.1) rfl)
      have q7 := (hbw.cell (p := ⟨g, o + k * 8 + 7, none⟩) hg).trans (hq1 7 (.int .i64 y.size.1) rfl)
      clear hq hq1
      have i0 : (0 : Int) ≤ (k : Int) := by omega
      have i1 : (k : Int) < (l.length : Int) := by omega
      have i2 : (k : Int) < 14 := by omega
      have hs0 := hsh.out y (List.mem_of_getElem? hy)
      have hno := fun h => all_no (p := shortB) hyt h
      have hnx := fun h => all_at (p := shortB) hy ht h
      generalize shortB y = S at hs0 hno hnx
      have hs := Lib.hid hs0
      clear hs0
      replace hy := Lib.hid hy
      replace hyt := Lib.hid hyt
      replace ht := Lib.hid ht
      replace hkl := Lib.hid hkl
      rcases S with _ | _
      · have hf : Hid (R = false) := Lib.hid (by rw [← hR.out, hno rfl]; rfl)
        clear hno hnx
        go_wp2_with (go_at_call 9; go_must (refine (hs.out _ (by repeat (first | (with_reducible exact Below.refl _ _) | (with_reducible refine Below.drew ?_) | (with_reducible refine below_drewN ?_ _) | ((with_reducible refine Below.alloc ?_ ?_ _); rotate_left; focus ((try simp) <;> omega)) | ((with_reducible refine Below.setCell ?_ ?_ _); rotate_left; focus ((try simp) <;> omega)) | ((with_reducible refine Below.trans ?_ (Below.mono (by assumption) ?_)); rotate_left; focus ((try simp) <;> omega))))).mono ?_; rintro e w2 ⟨rfl, hb2⟩; have hz2 := hb2.size))
        go_ret
        exact ⟨by rw [hf.out]; rfl, (by repeat (first | (with_reducible exact Below.refl _ _) | (with_reducible refine Below.drew ?_) | (with_reducible refine below_drewN ?_ _) | ((with_reducible refine Below.alloc ?_ ?_ _); rotate_left; focus ((try simp) <;> omega)) | ((with_reducible refine Below.setCell ?_ ?_ _); rotate_left; focus ((try simp) <;> omega)) | ((with_reducible refine Below.trans ?_ (Below.mono (by assumption) ?_)); rotate_left; focus ((try simp) <;> omega))))⟩
      · have hn2 := Lib.hid (hnx rfl)
        clear hno hnx
        go_wp2_with (go_at_call 9; go_must (refine (hs.out _ (by repeat (first | (with_reducible exact Below.refl _ _) | (with_reducible refine Below.drew ?_) | (with_reducible refine below_drewN ?_ _) | ((with_reducible refine Below.alloc ?_ ?_ _); rotate_left; focus ((try simp) <;> omega)) | ((with_reducible refine Below.setCell ?_ ?_ _); rotate_left; focus ((try simp) <;> omega)) | ((with_reducible refine Below.trans ?_ (Below.mono (by assumption) ?_)); rotate_left; focus ((try simp) <;> omega))))).mono ?_; rintro e w2 ⟨rfl, hb2⟩; have hz2 := hb2.size))
        go_roundw
        case rel => exact ⟨k + 1, by omega, by omega, by go_num, hn2.out, (by repeat (first | (with_reducible exact Below.refl _ _) | (with_reducible refine Below.drew ?_) | (with_reducible refine below_drewN ?_ _) | ((with_reducible refine Below.alloc ?_ ?_ _); rotate_left; focus ((try simp) <;> omega)) | ((with_reducible refine Below.setCell ?_ ?_ _); rotate_left; focus ((try simp) <;> omega)) | ((with_reducible refine Below.trans ?_ (Below.mono (by assumption) ?_)); rotate_left; focus ((try simp) <;> omega))))⟩
        case measure => simp [intOf]; omega
    · have ht14 : (l.take 14).all shortB = true := by
        by_cases h1 : k < l.length
        · have : k = 14 := by omega
          rw [← this]; exact ht
        · rw [List.take_of_length_le (show l.length ≤ 14 by omega)]
          rwa [List.take_of_length_le (by omega)] at ht
      have hf : Hid (R = decide (l.length ≤ 14)) := Lib.hid (by rw [← hR.out, ht14]; rfl)
      replace ht14 := Lib.hid ht14
      replace ht := Lib.hid ht
      by_cases hkl2 : k < l.length
      rotate_left
      · have j1 : ¬ (k : Int) < (l.length : Int) := by omega
        go_wp2_with fail
        go_ret
        exact ⟨by rw [hf.out]; exact ret_dec (by omega), hbw⟩
      · have j1 : (k : Int) < (l.length : Int) := by omega
        have j2 : ¬ (k : Int) < 14 := by omega
        go_wp2_with fail
        go_ret
        exact ⟨by rw [hf.out]; exact ret_dec (by omega), hbw⟩
/-- The laws' own link. -/
def rS : Str := ⟨⟨#[114]⟩, by decide⟩
def madeL (job nm : Str) (A : Option Addr) (C : Nat) (ins : List OutR) : Lkr := ⟨rS, job, ⟨1, by omega⟩, ⟨0, by omega⟩, A, C, ins, nm, ⟨5, by omega⟩, ⟨0, by omega⟩⟩
theorem made_any (job nm : Str) (A : Option Addr) (n C : Nat) (w : World) :
    Calls Tryz.prog 31 #[.string job.1, .string nm.1, .slice A n C] w fun e w' => e = .returned (.agg #[.string ⟨#[114]⟩, .string job.1, .int .i64 1, .int .u64 0, .slice A n C, .string nm.1, .int .u64 5, .int .i64 0]) ∧ Below w.heap.size w w' := by
  go_enter Tryz.func31, Tryz.ntmps31
  go_wp2_with fail
  exact bodyPost_ret (v := .agg #[.string ⟨#[114]⟩, .string job.1, .int .i64 1, .int .u64 0, .slice A n C, .string nm.1, .int .u64 5, .int .i64 0]) (by simp [results, Tryz.results31, go_sem]) rfl ⟨rfl, (by repeat (first | (with_reducible exact Below.refl _ _) | (with_reducible refine Below.drew ?_) | (with_reducible refine below_drewN ?_ _) | ((with_reducible refine Below.alloc ?_ ?_ _); rotate_left; focus ((try simp) <;> omega)) | ((with_reducible refine Below.setCell ?_ ?_ _); rotate_left; focus ((try simp) <;> omega)) | ((with_reducible refine Below.trans ?_ (Below.mono (by assumption) ?_)); rotate_left; focus ((try simp) <;> omega))))⟩
end Go.Proofs.YtjkijknjngiieaaGreatDoor
