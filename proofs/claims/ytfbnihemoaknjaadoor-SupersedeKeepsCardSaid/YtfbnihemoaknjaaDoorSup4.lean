/-
  The walks of superseding's laws' own helpers: few runs with short names; the examples.
-/
import Derived.Test.YtfbnihemoaknjaaDoorSup3


namespace Go.Proofs.YtfbnihemoaknjaaDoor
open Go.RowKit

def fewB (l : List Sum) : Bool := l.all (fun x => decide (x.run.1.size ≤ 300)) && decide (l.length ≤ 40)
theorem few_any (A : Option Addr) (c : Nat) (l : List Sum) (w : World) (hr : Rw sumE 8 w w.heap.size A l) (hn : l.length ≤ 9223372036854775807) :
    Calls Tryd.prog 7 #[.slice A l.length c] w fun e w' => e = .returned (.bool (fewB l)) ∧ w = w' := by
  have hc : Hid (∀ k x, l[k]? = some x → ∃ g o, A = some ⟨g, o, none⟩ ∧ w.cell? ⟨g, o + k * 8, none⟩ = some (.string x.run.1)) := Lib.hid (fun k x hx => by
    have hk := (List.getElem?_eq_some_iff.1 hx).1
    obtain ⟨g, o, e, _, h⟩ := hr (by omega)
    exact ⟨g, o, e, h k x hx 0 (.string x.run.1) rfl⟩)
  clear hr
  go_enter Tryd.func7, Tryd.ntmps7
  go_wp2_with fail
  go_loop [3] (fun vi => ∃ k : Nat, k ≤ l.length ∧ vi = .int .i64 (k : Int) ∧ (l.take k).all (fun x => decide (x.run.1.size ≤ 300)) = true) (fun vi => l.length - (intOf vi).toNat)
  case atStart => exact ⟨0, Nat.zero_le _, rfl, rfl⟩
  case round =>
    obtain ⟨k, hk, rfl, ht⟩ := hrel
    replace ht := Lib.hid ht
    by_cases hkl : k < l.length
    · obtain ⟨x, hx⟩ := get_some hkl
      obtain ⟨g, o, rfl, q⟩ := hc.out k x hx
      replace hx := Lib.hid hx
      have i0 : (0 : Int) ≤ (k : Int) := by omega
      have i1 : (k : Int) < (l.length : Int) := by omega
      by_cases h3 : x.run.1.size ≤ 300
      · go_wp2_with fail
        go_round
        case rel => exact ⟨k + 1, by omega, by go_num, by rw [List.take_add_one, hx.out, List.all_append, ht.out]; simp [h3]⟩
        case measure => simp [intOf]; omega
      · have hf : Hid (fewB l = false) := Lib.hid (by
          unfold fewB
          rw [Bool.and_eq_false_iff]
          left
          rw [List.all_eq_false]
          exact ⟨x, List.mem_of_getElem? hx.out, by simp; omega⟩)
        go_wp2_with fail
        go_ret
        exact ⟨ret_bool hf.out.symm, rfl⟩
    · have hf : Hid (fewB l = decide (l.length ≤ 40)) := Lib.hid (by
        unfold fewB
        have := ht.out
        rw [List.take_of_length_le (by omega)] at this
        rw [this]; rfl)
      by_cases h40 : l.length ≤ 40
      · go_wp2_with fail
        go_ret
        exact ⟨ret_bool (by rw [hf.out]; simp [h40]; try omega), rfl⟩
      · go_wp2_with fail
        go_ret
        exact ⟨ret_bool (by rw [hf.out]; simp; omega), rfl⟩

abbrev eStr : Str := ⟨⟨#[]⟩, by decide⟩
def exA : Sum := ⟨⟨⟨#[97]⟩, by decide⟩, eStr, eStr, false, eStr, ⟨1, by omega⟩, true, false⟩
def exB : Sum := ⟨⟨⟨#[98]⟩, by decide⟩, eStr, eStr, false, eStr, ⟨2, by omega⟩, false, false⟩
def exC : Sum := ⟨⟨⟨#[99]⟩, by decide⟩, eStr, eStr, false, eStr, ⟨3, by omega⟩, false, false⟩
theorem srt_one (x : Str) : srt [x] = [x] := (srtOf_eq ord_str (l := [x]) (out := [x]) ⟨List.pairwise_singleton _ _, fun _ => Iff.rfl⟩).symm
theorem ex_older : olderS exC [exA, exB, exC] = [exB.run] := by
  unfold olderS
  rw [show [exA, exB, exC].filter (goesB exC) = [exB] by simp [goesB, sameB, orgB, exA, exB, exC]]
  exact srt_one _
theorem ex_same : sameB exA exB = true := by simp [sameB, orgB, exA, exB]
theorem ex_latest : latestB exC [exA, exB, exC] = true := by simp [latestB, laterB, sameB, orgB, exA, exB, exC]
theorem ex_latest' : latestB exB [exA, exB, exC] = false := by simp [latestB, laterB, sameB, orgB, exA, exB, exC]

set_option maxRecDepth 100000 in
set_option maxHeartbeats 4000000 in
theorem lives_any (w : World) :
    Calls Tryd.prog 8 #[] w fun e w' => e = .returned (.bool true) ∧ Below w.heap.size w w' := by
  go_enter Tryd.func8, Tryd.ntmps8
  go_wp2_with fail
  have hR := (Own.lit (w := w) (enc := sumE) (k := 8) (e := 26) (base := 0) (l := [exA, exB, exC]) (([exA, exB, exC] : List Sum).flatMap sumE).toArray (Nat.zero_le _) (by simp [maxLen]) rfl sumE_len).reads sumE_len
  have hb0 : Below w.heap.size w (w.alloc (.cells (([exA, exB, exC] : List Sum).flatMap sumE).toArray 26)) := (Below.refl _ _).alloc (Nat.le_refl _) _
  have hz0 : (w.alloc (.cells (([exA, exB, exC] : List Sum).flatMap sumE).toArray 26)).heap.size = w.heap.size + 1 := by simp
  have hcl := fun j u hu => box_cells w (([exA, exB, exC] : List Sum).flatMap sumE).toArray 26 j u hu
  simp only [sumE, exA, exB, exC, List.flatMap_cons, List.flatMap_nil, List.append_nil, List.cons_append, List.nil_append] at hb0 hz0 hcl
  change Rw sumE 8 (w.alloc (.cells #[.string ⟨#[97]⟩, .string ⟨#[]⟩, .string ⟨#[]⟩, .bool false, .string ⟨#[]⟩, .int .i64 1, .bool true, .bool false, .string ⟨#[98]⟩, .string ⟨#[]⟩, .string ⟨#[]⟩, .bool false, .string ⟨#[]⟩, .int .i64 2, .bool false, .bool false, .string ⟨#[99]⟩, .string ⟨#[]⟩, .string ⟨#[]⟩, .bool false, .string ⟨#[]⟩, .int .i64 3, .bool false, .bool false] 26)) (w.alloc (.cells #[.string ⟨#[97]⟩, .string ⟨#[]⟩, .string ⟨#[]⟩, .bool false, .string ⟨#[]⟩, .int .i64 1, .bool true, .bool false, .string ⟨#[98]⟩, .string ⟨#[]⟩, .string ⟨#[]⟩, .bool false, .string ⟨#[]⟩, .int .i64 2, .bool false, .bool false, .string ⟨#[99]⟩, .string ⟨#[]⟩, .string ⟨#[]⟩, .bool false, .string ⟨#[]⟩, .int .i64 3, .bool false, .bool false] 26)).heap.size (some ⟨w.heap.size, 0, none⟩) [exA, exB, exC] at hR
  generalize w.alloc (.cells #[.string ⟨#[97]⟩, .string ⟨#[]⟩, .string ⟨#[]⟩, .bool false, .string ⟨#[]⟩, .int .i64 1, .bool true, .bool false, .string ⟨#[98]⟩, .string ⟨#[]⟩, .string ⟨#[]⟩, .bool false, .string ⟨#[]⟩, .int .i64 2, .bool false, .bool false, .string ⟨#[99]⟩, .string ⟨#[]⟩, .string ⟨#[]⟩, .bool false, .string ⟨#[]⟩, .int .i64 3, .bool false, .bool false] 26) = W0 at *
  have hz1 := Nat.le_of_eq hz0
  have hz2 := Nat.le_of_eq hz0.symm
  replace hz0 := Lib.hid hz0
  have c0 := hcl 0 _ rfl
  have c1 := hcl 1 _ rfl
  have c2 := hcl 2 _ rfl
  have c3 := hcl 3 _ rfl
  have c4 := hcl 4 _ rfl
  have c5 := hcl 5 _ rfl
  have c6 := hcl 6 _ rfl
  have c7 := hcl 7 _ rfl
  have c8 := hcl 8 _ rfl
  have c9 := hcl 9 _ rfl
  have c10 := hcl 10 _ rfl
  have c11 := hcl 11 _ rfl
  have c12 := hcl 12 _ rfl
  have c13 := hcl 13 _ rfl
  have c14 := hcl 14 _ rfl
  have c15 := hcl 15 _ rfl
  have c16 := hcl 16 _ rfl
  have c17 := hcl 17 _ rfl
  have c18 := hcl 18 _ rfl
  have c19 := hcl 19 _ rfl
  have c20 := hcl 20 _ rfl
  have c21 := hcl 21 _ rfl
  have c22 := hcl 22 _ rfl
  have c23 := hcl 23 _ rfl
  clear hcl
  go_region_held3 (fun w' => w'.cell? ⟨w.heap.size, 0, none⟩ = some (.string ⟨#[97]⟩) ∧ w'.cell? ⟨w.heap.size, 1, none⟩ = some (.string ⟨#[]⟩) ∧ w'.cell? ⟨w.heap.size, 2, none⟩ = some (.string ⟨#[]⟩) ∧ w'.cell? ⟨w.heap.size, 3, none⟩ = some (.bool false) ∧ w'.cell? ⟨w.heap.size, 4, none⟩ = some (.string ⟨#[]⟩) ∧ w'.cell? ⟨w.heap.size, 5, none⟩ = some (.int .i64 1) ∧ w'.cell? ⟨w.heap.size, 6, none⟩ = some (.bool true) ∧ w'.cell? ⟨w.heap.size, 7, none⟩ = some (.bool false) ∧ w'.cell? ⟨w.heap.size, 8, none⟩ = some (.string ⟨#[98]⟩) ∧ w'.cell? ⟨w.heap.size, 9, none⟩ = some (.string ⟨#[]⟩) ∧ w'.cell? ⟨w.heap.size, 10, none⟩ = some (.string ⟨#[]⟩) ∧ w'.cell? ⟨w.heap.size, 11, none⟩ = some (.bool false) ∧ w'.cell? ⟨w.heap.size, 12, none⟩ = some (.string ⟨#[]⟩) ∧ w'.cell? ⟨w.heap.size, 13, none⟩ = some (.int .i64 2) ∧ w'.cell? ⟨w.heap.size, 14, none⟩ = some (.bool false) ∧ w'.cell? ⟨w.heap.size, 15, none⟩ = some (.bool false) ∧ w'.cell? ⟨w.heap.size, 16, none⟩ = some (.string ⟨#[99]⟩) ∧ w'.cell? ⟨w.heap.size, 17, none⟩ = some (.string ⟨#[]⟩) ∧ w'.cell? ⟨w.heap.size, 18, none⟩ = some (.string ⟨#[]⟩) ∧ w'.cell? ⟨w.heap.size, 19, none⟩ = some (.bool false) ∧ w'.cell? ⟨w.heap.size, 20, none⟩ = some (.string ⟨#[]⟩) ∧ w'.cell? ⟨w.heap.size, 21, none⟩ = some (.int .i64 3) ∧ w'.cell? ⟨w.heap.size, 22, none⟩ = some (.bool false) ∧ w'.cell? ⟨w.heap.size, 23, none⟩ = some (.bool false)) (go_keep)
    (first
      | (go_at_call 10; go_must (refine (older_any (some ⟨w.heap.size, 0, none⟩) 3 [exA, exB, exC] exC _ ?_ (by simp)).mono ?_; (focus exact (hR.below (C := W0.heap.size) (by repeat (first | (with_reducible exact Below.refl _ _) | (with_reducible refine Below.drew ?_) | (with_reducible refine below_drewN ?_ _) | ((with_reducible refine Below.alloc ?_ ?_ _); rotate_left; focus ((try simp) <;> omega)) | ((with_reducible refine Below.setCell ?_ ?_ _); rotate_left; focus ((try simp) <;> omega)) | ((with_reducible refine Below.trans ?_ (Below.mono (by assumption) ?_)); rotate_left; focus ((try simp) <;> omega)))) (Nat.le_refl _)).more (by (try simp) <;> omega)); rw [ex_older]; rintro e w1 ⟨A1, k1, rfl, hr1, hb1⟩; have hz3 := hb1.size; (try simp at hz3); obtain ⟨hc1, hf1⟩ := blk_at hb1 w.heap.size (by (try simp) <;> omega)))
      | (go_at_call 9; go_must (refine (rsame_any A1 _ k1 1 [exB.run] [exB.run] _ ?_ ?_ (by simp) (by simp)).mono ?_; (focus first | exact hr1 | exact (hr1.alloc (Nat.le_refl _) _).more (by simp)); (focus first | exact (Own.lit (enc := sE) (l := [exB.run]) (base := 0) #[.string exB.run.1] (Nat.zero_le _) (by simp [maxLen]) (by simp [sE]) sE_len).reads sE_len | exact (((Own.lit (w := W0) (enc := sE) (e := 9) (l := [exB.run]) (base := 0) #[.string exB.run.1] (Nat.zero_le _) (by simp [maxLen]) (by simp [sE]) sE_len).reads sE_len).drew.below hb1 (by simp)).more (by simp; omega)); rw [show decide ([exB.run] = [exB.run]) = true from decide_eq_true rfl]; rintro e w2 ⟨rfl, n2, rfl⟩))
      | (go_at_call 14; go_must (refine (same_any exA exB _).mono ?_; rw [ex_same]; rintro e w3 ⟨rfl, hb3⟩; have hz4 := hb3.size; (try simp at hz4); obtain ⟨hc3, hf3⟩ := blk_at hb3 w.heap.size (by (try simp) <;> omega)))
      | (go_at_call 12; have _t4 := hb4; go_must (refine (latest_any (some ⟨w.heap.size, 0, none⟩) 3 [exA, exB, exC] exB _ ?_ (by simp)).mono ?_; (focus exact (hR.below (C := W0.heap.size) (by repeat (first | (with_reducible exact Below.refl _ _) | (with_reducible refine Below.drew ?_) | (with_reducible refine below_drewN ?_ _) | ((with_reducible refine Below.alloc ?_ ?_ _); rotate_left; focus ((try simp) <;> omega)) | ((with_reducible refine Below.setCell ?_ ?_ _); rotate_left; focus ((try simp) <;> omega)) | ((with_reducible refine Below.trans ?_ (Below.mono (by assumption) ?_)); rotate_left; focus ((try simp) <;> omega)))) (Nat.le_refl _)).more (by (try simp) <;> omega)); rw [ex_latest']; rintro e w5 ⟨rfl, hb5⟩; have hz6 := hb5.size; (try simp at hz6); obtain ⟨hc5, hf5⟩ := blk_at hb5 w.heap.size (by (try simp) <;> omega)))
      | (go_at_call 12; go_must (refine (latest_any (some ⟨w.heap.size, 0, none⟩) 3 [exA, exB, exC] exC _ ?_ (by simp)).mono ?_; (focus exact (hR.below (C := W0.heap.size) (by repeat (first | (with_reducible exact Below.refl _ _) | (with_reducible refine Below.drew ?_) | (with_reducible refine below_drewN ?_ _) | ((with_reducible refine Below.alloc ?_ ?_ _); rotate_left; focus ((try simp) <;> omega)) | ((with_reducible refine Below.setCell ?_ ?_ _); rotate_left; focus ((try simp) <;> omega)) | ((with_reducible refine Below.trans ?_ (Below.mono (by assumption) ?_)); rotate_left; focus ((try simp) <;> omega)))) (Nat.le_refl _)).more (by (try simp) <;> omega)); rw [ex_latest]; rintro e w4 ⟨rfl, hb4⟩; have hz5 := hb4.size; (try simp at hz5); obtain ⟨hc4, hf4⟩ := blk_at hb4 w.heap.size (by (try simp) <;> omega))))
  all_goals go_wp2_with fail
  all_goals go_ret
  all_goals exact ⟨rfl, (by repeat (first | (with_reducible exact Below.refl _ _) | (with_reducible refine Below.drew ?_) | (with_reducible refine below_drewN ?_ _) | ((with_reducible refine Below.alloc ?_ ?_ _); rotate_left; focus ((try simp) <;> omega)) | ((with_reducible refine Below.setCell ?_ ?_ _); rotate_left; focus ((try simp) <;> omega)) | ((with_reducible refine Below.trans ?_ (Below.mono (by assumption) ?_)); rotate_left; focus ((try simp) <;> omega))))⟩
end Go.Proofs.YtfbnihemoaknjaaDoor
