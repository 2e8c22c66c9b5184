/-
  The walks of labels: a requirement and a label read, by the program.
-/
import Derived.Test.YtnahbfmbmpoljaaDoorLab2

namespace Go.Proofs.YtnahbfmbmpoljaaDoor
open Go.RowKit

theorem mk_str (s : ByteArray) : (⟨s.toList.toArray⟩ : ByteArray) = s := toList_inj (mk_toList s.toList)
theorem trim_len (s p : List UInt8) : (Lib.trimPrefix s p).length ≤ s.length := by
  unfold Lib.trimPrefix
  split
  · rw [List.length_drop]; omega
  · omega
theorem parse_1 {s : List UInt8} (h : nL s = true) : parseL s = (1, s, 0) := by unfold parseL; rw [if_pos h]
theorem parse_2 {s : List UInt8} (h : nL s = false) (h1 : Lib.hasPrefix s [33] = true) (h2 : nL (Lib.trimPrefix s [33]) = true) : parseL s = (2, Lib.trimPrefix s [33], 0) := by unfold parseL; rw [if_neg (by rw [h]; decide), if_pos ⟨h1, h2⟩]
theorem parse_3 {s : List UInt8} (h : nL s = false) (h1 : Lib.hasPrefix s [33] = false ∨ nL (Lib.trimPrefix s [33]) = false) : parseL s = compL s := by
  unfold parseL; rw [if_neg (by rw [h]; decide), if_neg]
  rintro ⟨h2, h3⟩
  rcases h1 with h1 | h1
  · rw [h1] at h2; cases h2
  · rw [h1] at h3; cases h3
set_option maxRecDepth 100000 in
set_option maxHeartbeats 4000000 in
theorem parse_any (s : ByteArray) (w : World) (hs : s.size < 4294967281) (hG : Glob w) : Calls Tryd.prog 76 #[.string s] w fun e w' => e = .returned (tv (parseL s.toList)) ∧ Bel w.heap.size w w' := by
  have hlen := toList_len s
  have hcp : Hid (∀ W, Calls Tryd.prog 86 #[.string s, .string ⟨#[33]⟩] W fun e w' => e = .returned (.tuple #[.string ⟨(Lib.trimPrefix s.toList [33]).toArray⟩, .bool (Lib.hasPrefix s.toList [33])]) ∧ w' = W) := Lib.hid fun W => by
    have h := Tryd.strings_CutPrefix s ⟨#[33]⟩ W
    rw [← Lib.toList_data] at h
    exact h
  have hcm0 : Hid (∀ W, Bel w.heap.size w W → Calls Tryd.prog 87 #[.string s] W fun e w' => e = .returned (.tuple #[tv (compL s.toList), .bool (decide ((compL s.toList).1 ≠ 0))]) ∧ Bel W.heap.size W w') := Lib.hid fun W hb => compared_any s W hs (hG.bel hb (Nat.le_refl _))
  have hnm0 := fun W => name_any s W (by omega)
  rw [← nL_str] at hnm0
  have hn20 := fun W => name_any ⟨(Lib.trimPrefix s.toList [33]).toArray⟩ W (by rw [mk_size]; have := trim_len s.toList [33]; omega)
  have htn : ∀ l : List UInt8, nameB ⟨l.toArray⟩ = nL l := fun _ => rfl
  rw [htn] at hn20
  rcases h1 : nL s.toList with _ | _
  · rw [h1] at hnm0
    have hnm := Lib.hid hnm0
    clear hnm0
    rcases h2 : Lib.hasPrefix s.toList [33] with _ | _
    · have hfin := parse_3 h1 (Or.inl h2)
      rw [h2] at hcp
      clear hn20
      obtain ⟨⟨f, nm, n⟩, hp⟩ : ∃ p, compL s.toList = p := ⟨_, rfl⟩
      rw [hp] at hcm0 hfin
      replace hfin := Lib.hid hfin
      have hcm : Hid (∀ W, Bel w.heap.size w W → Calls Tryd.prog 87 #[.string s] W fun e w' => e = .returned (.tuple #[.agg #[.int .i64 (f : Int), .string ⟨nm.toArray⟩, .int .i64 (n : Int)], .bool (decide (f ≠ 0))]) ∧ Bel W.heap.size W w') := Lib.hid hcm0.out
      clear hcm0
      replace hp := Lib.hid hp
      generalize Lib.trimPrefix s.toList [33] = t at *
      replace h1 := Lib.hid h1
      replace h2 := Lib.hid h2
      replace hlen := Lib.hid hlen
      go_enter Tryd.func76, Tryd.ntmps76
      go_wp2_with (first
        | (go_at_call 25; with_reducible refine (hnm.out _).mono ?_; rintro e w1 ⟨rfl, hb1⟩; have hz1 := hb1.size; (try simp at hz1); obtain ⟨hc1, hf1⟩ := blk_at hb1.toBelow w.heap.size (by (try simp) <;> omega))
        | fail
        | (go_at_call 86; go_must (refine (hcp.out _).mono ?_; rintro e w5 ⟨rfl, hw5⟩; subst hw5))
        | (go_at_call 87; go_must (refine (hcm.out _ (by repeat (first | (with_reducible exact Bel.refl _ _) | (with_reducible refine Bel.drew ?_) | (with_reducible refine Bel.drewN ?_ _) | ((with_reducible refine Bel.alloc ?_ ?_ _); rotate_left; focus ((try simp) <;> omega)) | ((with_reducible refine Bel.setCell ?_ ?_ _); rotate_left; focus ((try simp) <;> omega)) | ((with_reducible refine Bel.trans ?_ (Bel.mono (by assumption) ?_)); rotate_left; focus ((try simp) <;> omega))))).mono ?_; rintro e w3 ⟨rfl, hb3⟩; have hz3 := hb3.size; (try simp at hz3); have hlt3 : w.heap.size < w3.heap.size := (by omega); obtain ⟨hc3, hf3⟩ := blk_at hb3.toBelow w.heap.size (by (try simp) <;> omega))))
      have n0 : w3.cell? ⟨w.heap.size, 0, none⟩ = some (.int .i64 0) := by go_simp
      have n1 : w3.cell? ⟨w.heap.size, 1, none⟩ = some (.string ⟨#[]⟩) := by go_simp
      have n2 : w3.cell? ⟨w.heap.size, 2, none⟩ = some (.int .i64 0) := by go_simp
      obtain ⟨s0, s1, s2⟩ := set3_cells (a := .int .i64 (f : Int)) (b := .string ⟨nm.toArray⟩) (c := .int .i64 (n : Int)) n0 n1 n2
      exact bodyPost_ret (v := .agg #[.int .i64 (f : Int), .string ⟨nm.toArray⟩, .int .i64 (n : Int)]) (by simp [results, Tryd.results76, go_sem, *]) rfl ⟨by rw [hfin.out]; first | rfl | (unfold tv; rw [mk_str]; rfl), (by repeat (first | (with_reducible exact Bel.refl _ _) | (with_reducible refine Bel.drew ?_) | (with_reducible refine Bel.drewN ?_ _) | ((with_reducible refine Bel.alloc ?_ ?_ _); rotate_left; focus ((try simp) <;> omega)) | ((with_reducible refine Bel.setCell ?_ ?_ _); rotate_left; focus ((try simp) <;> omega)) | ((with_reducible refine Bel.trans ?_ (Bel.mono (by assumption) ?_)); rotate_left; focus ((try simp) <;> omega))))⟩
    · rw [h2] at hcp
      rcases h3 : nL (Lib.trimPrefix s.toList [33]) with _ | _
      · have hfin := parse_3 h1 (Or.inr h3)
        rw [h3] at hn20
        have hn2 := Lib.hid hn20
        clear hn20
        obtain ⟨⟨f, nm, n⟩, hp⟩ : ∃ p, compL s.toList = p := ⟨_, rfl⟩
        rw [hp] at hcm0 hfin
        replace hfin := Lib.hid hfin
        have hcm : Hid (∀ W, Bel w.heap.size w W → Calls Tryd.prog 87 #[.string s] W fun e w' => e = .returned (.tuple #[.agg #[.int .i64 (f : Int), .string ⟨nm.toArray⟩, .int .i64 (n : Int)], .bool (decide (f ≠ 0))]) ∧ Bel W.heap.size W w') := Lib.hid hcm0.out
        clear hcm0
        replace hp := Lib.hid hp
        generalize Lib.trimPrefix s.toList [33] = t at *
        replace h1 := Lib.hid h1
        replace h2 := Lib.hid h2
        replace hlen := Lib.hid hlen
        go_enter Tryd.func76, Tryd.ntmps76
        go_wp2_with (first
          | (go_at_call 25; with_reducible refine (hnm.out _).mono ?_; rintro e w1 ⟨rfl, hb1⟩; have hz1 := hb1.size; (try simp at hz1); obtain ⟨hc1, hf1⟩ := blk_at hb1.toBelow w.heap.size (by (try simp) <;> omega))
          | (go_at_call 25; with_reducible refine (hn2.out _).mono ?_; rintro e w2 ⟨rfl, hb2⟩; have hz2 := hb2.size; (try simp at hz2); obtain ⟨hc2, hf2⟩ := blk_at hb2.toBelow w.heap.size (by (try simp) <;> omega))
          | (go_at_call 86; go_must (refine (hcp.out _).mono ?_; rintro e w5 ⟨rfl, hw5⟩; subst hw5))
          | (go_at_call 87; go_must (refine (hcm.out _ (by repeat (first | (with_reducible exact Bel.refl _ _) | (with_reducible refine Bel.drew ?_) | (with_reducible refine Bel.drewN ?_ _) | ((with_reducible refine Bel.alloc ?_ ?_ _); rotate_left; focus ((try simp) <;> omega)) | ((with_reducible refine Bel.setCell ?_ ?_ _); rotate_left; focus ((try simp) <;> omega)) | ((with_reducible refine Bel.trans ?_ (Bel.mono (by assumption) ?_)); rotate_left; focus ((try simp) <;> omega))))).mono ?_; rintro e w3 ⟨rfl, hb3⟩; have hz3 := hb3.size; (try simp at hz3); have hlt3 : w.heap.size < w3.heap.size := (by omega); obtain ⟨hc3, hf3⟩ := blk_at hb3.toBelow w.heap.size (by (try simp) <;> omega))))
        have n0 : w3.cell? ⟨w.heap.size, 0, none⟩ = some (.int .i64 0) := by go_simp
        have n1 : w3.cell? ⟨w.heap.size, 1, none⟩ = some (.string ⟨#[]⟩) := by go_simp
        have n2 : w3.cell? ⟨w.heap.size, 2, none⟩ = some (.int .i64 0) := by go_simp
        obtain ⟨s0, s1, s2⟩ := set3_cells (a := .int .i64 (f : Int)) (b := .string ⟨nm.toArray⟩) (c := .int .i64 (n : Int)) n0 n1 n2
        exact bodyPost_ret (v := .agg #[.int .i64 (f : Int), .string ⟨nm.toArray⟩, .int .i64 (n : Int)]) (by simp [results, Tryd.results76, go_sem, *]) rfl ⟨by rw [hfin.out]; first | rfl | (unfold tv; rw [mk_str]; rfl), (by repeat (first | (with_reducible exact Bel.refl _ _) | (with_reducible refine Bel.drew ?_) | (with_reducible refine Bel.drewN ?_ _) | ((with_reducible refine Bel.alloc ?_ ?_ _); rotate_left; focus ((try simp) <;> omega)) | ((with_reducible refine Bel.setCell ?_ ?_ _); rotate_left; focus ((try simp) <;> omega)) | ((with_reducible refine Bel.trans ?_ (Bel.mono (by assumption) ?_)); rotate_left; focus ((try simp) <;> omega))))⟩
      · have hfin := Lib.hid (parse_2 h1 h2 h3)
        rw [h3] at hn20
        have hn2 := Lib.hid hn20
        clear hn20
        generalize Lib.trimPrefix s.toList [33] = t at hn2 hcp hfin h3
        replace h1 := Lib.hid h1
        replace h2 := Lib.hid h2
        replace h3 := Lib.hid h3
        replace hlen := Lib.hid hlen
        go_enter Tryd.func76, Tryd.ntmps76
        go_wp2_with (first
          | (go_at_call 25; with_reducible refine (hnm.out _).mono ?_; rintro e w1 ⟨rfl, hb1⟩; have hz1 := hb1.size; (try simp at hz1); obtain ⟨hc1, hf1⟩ := blk_at hb1.toBelow w.heap.size (by (try simp) <;> omega))
          | (go_at_call 25; with_reducible refine (hn2.out _).mono ?_; rintro e w2 ⟨rfl, hb2⟩; have hz2 := hb2.size; (try simp at hz2); obtain ⟨hc2, hf2⟩ := blk_at hb2.toBelow w.heap.size (by (try simp) <;> omega))
          | (go_at_call 86; go_must (refine (hcp.out _).mono ?_; rintro e w5 ⟨rfl, hw5⟩; subst hw5)))
        have n0 : w2.cell? ⟨w.heap.size, 0, none⟩ = some (.int .i64 0) := by go_simp
        have n1 : w2.cell? ⟨w.heap.size, 1, none⟩ = some (.string ⟨#[]⟩) := by go_simp
        have n2 : w2.cell? ⟨w.heap.size, 2, none⟩ = some (.int .i64 0) := by go_simp
        obtain ⟨s0, s1, s2⟩ := set3_cells (a := .int .i64 2) (b := .string ⟨t.toArray⟩) (c := .int .i64 0) n0 n1 n2
        exact bodyPost_ret (v := .agg #[.int .i64 2, .string ⟨t.toArray⟩, .int .i64 0]) (by simp [results, Tryd.results76, go_sem, *]) rfl ⟨by rw [hfin.out]; first | rfl | (unfold tv; rw [mk_str]; rfl), (by repeat (first | (with_reducible exact Bel.refl _ _) | (with_reducible refine Bel.drew ?_) | (with_reducible refine Bel.drewN ?_ _) | ((with_reducible refine Bel.alloc ?_ ?_ _); rotate_left; focus ((try simp) <;> omega)) | ((with_reducible refine Bel.setCell ?_ ?_ _); rotate_left; focus ((try simp) <;> omega)) | ((with_reducible refine Bel.trans ?_ (Bel.mono (by assumption) ?_)); rotate_left; focus ((try simp) <;> omega))))⟩
  · rw [h1] at hnm0
    have hfin := Lib.hid (parse_1 h1)
    have hnm := Lib.hid hnm0
    clear hnm0 hn20
    replace h1 := Lib.hid h1
    replace hlen := Lib.hid hlen
    go_enter Tryd.func76, Tryd.ntmps76
    go_wp2_with (first
      | (go_at_call 25; with_reducible refine (hnm.out _).mono ?_; rintro e w1 ⟨rfl, hb1⟩; have hz1 := hb1.size; (try simp at hz1); obtain ⟨hc1, hf1⟩ := blk_at hb1.toBelow w.heap.size (by (try simp) <;> omega)))
    have n0 : w1.cell? ⟨w.heap.size, 0, none⟩ = some (.int .i64 0) := by go_simp
    have n1 : w1.cell? ⟨w.heap.size, 1, none⟩ = some (.string ⟨#[]⟩) := by go_simp
    have n2 : w1.cell? ⟨w.heap.size, 2, none⟩ = some (.int .i64 0) := by go_simp
    obtain ⟨s0, s1, s2⟩ := set3_cells (a := .int .i64 1) (b := .string s) (c := .int .i64 0) n0 n1 n2
    exact bodyPost_ret (v := .agg #[.int .i64 1, .string s, .int .i64 0]) (by simp [results, Tryd.results76, go_sem, *]) rfl ⟨by rw [hfin.out]; first | rfl | (unfold tv; rw [mk_str]; rfl), (by repeat (first | (with_reducible exact Bel.refl _ _) | (with_reducible refine Bel.drew ?_) | (with_reducible refine Bel.drewN ?_ _) | ((with_reducible refine Bel.alloc ?_ ?_ _); rotate_left; focus ((try simp) <;> omega)) | ((with_reducible refine Bel.setCell ?_ ?_ _); rotate_left; focus ((try simp) <;> omega)) | ((with_reducible refine Bel.trans ?_ (Bel.mono (by assumption) ?_)); rotate_left; focus ((try simp) <;> omega))))⟩
end Go.Proofs.YtnahbfmbmpoljaaDoor
