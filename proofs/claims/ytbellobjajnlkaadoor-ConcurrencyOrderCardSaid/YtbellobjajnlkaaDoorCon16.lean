/-
  The walks of groups: a job enters, by the program: what is refused.
-/
import Derived.Test.YtbellobjajnlkaaDoorCon14
import Derived.Test.YtbellobjajnlkaaDoorCon1315




namespace Go.Proofs.YtbellobjajnlkaaDoor
open Go.RowKit

theorem idx_in {l : List JRef} {r : JRef} (h : r ∈ l) : 0 ≤ idxI l r := idx_mem h
set_option maxRecDepth 100000 in
set_option maxHeartbeats 4000000 in
theorem enter_err (A : Option Addr) (c : Nat) (l : List Grp) (p : Str) (r : JRef) (P : I64) (w : World) (hr : RwG w w.heap.size A l) (hlc : l.length ≤ c) (hm : Mild l) (hG : Glob w) (hp : p.1.size < 4294967281) (hs : shortR r) (hE : enterE (l.map Grp.g) p r P.1 ≠ 0) :
    Calls Tryd.prog 14 #[.slice A l.length c, .string p.1, .agg #[.string r.run.1, .string r.job.1], .int .i64 P.1] w fun e w' => e = .returned (.tuple #[.slice A l.length c, .agg #[.bool false, .slice none 0 0], .int .i64 (enterE (l.map Grp.g) p r P.1)]) ∧ Below w.heap.size w w' := by
  obtain ⟨E, hEE⟩ : ∃ E, enterE (l.map Grp.g) p r P.1 = E := ⟨_, rfl⟩
  rw [hEE] at hE ⊢
  unfold enterE at hEE
  have hva : ∀ W, Below w.heap.size w W → Calls Tryd.prog 10 #[.slice A l.length c] W fun e w' => e = .returned (.int .i64 (validE (l.map Grp.g))) ∧ Below W.heap.size W w' := fun W hb => valid_any A c l W ((hr.below hb (Nat.le_refl _)).more hb.size) hlc hm (hG.keep hb)
  have hal : ∀ W, Below w.heap.size w W → Calls Tryd.prog 32 #[.slice A l.length c] W fun e w' => ∃ v, e = .returned v ∧ Own jRefE 2 29 w' W.heap.size v (allG (l.map Grp.g)) ∧ Below W.heap.size W w' := fun W hb => all_any A c l W ((hr.below hb (Nat.le_refl _)).more hb.size) hm.all hm.wait hm.len
  have hja : ∀ W, Below w.heap.size w W → Calls Tryd.prog 33 #[.agg #[.string r.run.1, .string r.job.1]] W fun e w' => e = .returned (.bool (jobB r)) ∧ Below W.heap.size W w' := fun W hb => job_any r W (hG.keep hb) hs
  have hpa : ∀ W, Below w.heap.size w W → Calls Tryd.prog 30 #[.string p.1] W fun e w' => e = .returned (.bool (pathB p)) ∧ Below W.heap.size W w' := fun W hb => path_any p W (hG.keep hb) hp
  have hln : (allG (l.map Grp.g)).length ≤ 9223372036854775807 := by have := hm.all; omega
  have hwh : ∀ (W W1 : World) (A1 : Option Addr) (c1 : Nat), Own jRefE 2 29 W1 w.heap.size (.slice A1 (allG (l.map Grp.g)).length c1) (allG (l.map Grp.g)) → Below W1.heap.size W1 W → W.cell? ⟨w.heap.size, 0, none⟩ = some (.string r.run.1) → W.cell? ⟨w.heap.size, 1, none⟩ = some (.string r.job.1) → Calls Tryd.prog 40 #[.slice A1 (allG (l.map Grp.g)).length c1, .func (.func 41) #[] #[.pointer (some ⟨w.heap.size, 0, none⟩)]] W fun e w' => e = .returned (.int .i64 (idxI (allG (l.map Grp.g)) r)) ∧ Below W.heap.size W w' := fun W W1 A1 c1 ho hb h0 h1 => where_any A1 c1 (allG (l.map Grp.g)) r w.heap.size W (((ho.reads jRefE_len).below hb (Nat.le_refl _)).more hb.size) hln h0 h1
  rcases hv : validB (l.map Grp.g) with _ | _
  · rw [if_pos hv] at hEE
    subst hEE
    rw [show validE (l.map Grp.g) = 1 by unfold validE; rw [hv]; rfl] at hva
    replace hva := Lib.hid hva
    replace hal := Lib.hid hal
    replace hja := Lib.hid hja
    replace hpa := Lib.hid hpa
    replace hwh := Lib.hid hwh
    replace hv := Lib.hid hv
    try replace hj := Lib.hid hj
    try replace hpp := Lib.hid hpp
    replace hr := Lib.hid hr
    replace hm := Lib.hid hm
    replace hG := Lib.hid hG
    replace hs := Lib.hid hs
    clear hln hp
    go_enter Tryd.func14, Tryd.ntmps14
    go_wp2_with (first | (go_at_call 32; go_must (refine (hal.out _ (by repeat (first | (with_reducible exact Below.refl _ _) | (with_reducible refine Below.drew ?_) | (with_reducible refine below_drewN ?_ _) | ((with_reducible refine Below.alloc ?_ ?_ _); rotate_left; focus ((try simp) <;> omega)) | ((with_reducible refine Below.setCell ?_ ?_ _); rotate_left; focus ((try simp) <;> omega)) | ((with_reducible refine Below.trans ?_ (Below.mono (by assumption) ?_)); rotate_left; focus ((try simp) <;> omega))))).mono ?_; rintro e w1 ⟨v1, rfl, hown1, hb1⟩; have hz1 := hb1.size; (try simp at hz1); have hza1 : w.heap.size < w1.heap.size := (by omega); have hzb1 : w.heap.size + 1 < w1.heap.size := (by omega); have hzc1 : w.heap.size + 1 + 1 < w1.heap.size := (by omega); obtain ⟨p1, f1⟩ := blk_at hb1 w.heap.size (by (try simp) <;> omega); obtain ⟨pp1, ff1⟩ := blk_at hb1 (w.heap.size + 1) (by (try simp) <;> omega); obtain ⟨ppp1, fff1⟩ := blk_at hb1 (w.heap.size + 1 + 1) (by (try simp) <;> omega); obtain ⟨A1, c1, rfl, _, _, _⟩ := hown1.form; have hown1b := Lib.hid (Own.base hown1 (b' := w.heap.size) (by (try simp) <;> omega)); clear hown1)) | (go_at_call 10; go_must (refine (hva.out _ (by repeat (first | (with_reducible exact Below.refl _ _) | (with_reducible refine Below.drew ?_) | (with_reducible refine below_drewN ?_ _) | ((with_reducible refine Below.alloc ?_ ?_ _); rotate_left; focus ((try simp) <;> omega)) | ((with_reducible refine Below.setCell ?_ ?_ _); rotate_left; focus ((try simp) <;> omega)) | ((with_reducible refine Below.trans ?_ (Below.mono (by assumption) ?_)); rotate_left; focus ((try simp) <;> omega))))).mono ?_; rintro e w2 ⟨rfl, hb2⟩; have hz2 := hb2.size; (try simp at hz2); have hza2 : w.heap.size < w2.heap.size := (by omega); have hzb2 : w.heap.size + 1 < w2.heap.size := (by omega); have hzc2 : w.heap.size + 1 + 1 < w2.heap.size := (by omega); obtain ⟨p2, f2⟩ := blk_at hb2 w.heap.size (by (try simp) <;> omega); obtain ⟨pp2, ff2⟩ := blk_at hb2 (w.heap.size + 1) (by (try simp) <;> omega); obtain ⟨ppp2, fff2⟩ := blk_at hb2 (w.heap.size + 1 + 1) (by (try simp) <;> omega))))
    all_goals go_region
    all_goals go_wp2_with fail
    all_goals exact bodyPost_ret (v := .tuple #[.slice A l.length c, .agg #[.bool false, .slice none 0 0], .int .i64 1]) (by simp [results, Tryd.results14, go_sem, *]) rfl ⟨rfl, (by repeat (first | (with_reducible exact Below.refl _ _) | (with_reducible refine Below.drew ?_) | (with_reducible refine below_drewN ?_ _) | ((with_reducible refine Below.alloc ?_ ?_ _); rotate_left; focus ((try simp) <;> omega)) | ((with_reducible refine Below.setCell ?_ ?_ _); rotate_left; focus ((try simp) <;> omega)) | ((with_reducible refine Below.trans ?_ (Below.mono (by assumption) ?_)); rotate_left; focus ((try simp) <;> omega))))⟩
  rw [if_neg (by rw [hv]; decide)] at hEE
  rw [show validE (l.map Grp.g) = 0 by unfold validE; rw [hv]; rfl] at hva
  rcases hj : jobB r with _ | _
  · rw [if_pos hj] at hEE
    subst hEE
    rw [hj] at hja
    replace hva := Lib.hid hva
    replace hal := Lib.hid hal
    replace hja := Lib.hid hja
    replace hpa := Lib.hid hpa
    replace hwh := Lib.hid hwh
    replace hv := Lib.hid hv
    try replace hj := Lib.hid hj
    try replace hpp := Lib.hid hpp
    replace hr := Lib.hid hr
    replace hm := Lib.hid hm
    replace hG := Lib.hid hG
    replace hs := Lib.hid hs
    clear hln hp
    go_enter Tryd.func14, Tryd.ntmps14
    go_wp2_with (first | (go_at_call 32; go_must (refine (hal.out _ (by repeat (first | (with_reducible exact Below.refl _ _) | (with_reducible refine Below.drew ?_) | (with_reducible refine below_drewN ?_ _) | ((with_reducible refine Below.alloc ?_ ?_ _); rotate_left; focus ((try simp) <;> omega)) | ((with_reducible refine Below.setCell ?_ ?_ _); rotate_left; focus ((try simp) <;> omega)) | ((with_reducible refine Below.trans ?_ (Below.mono (by assumption) ?_)); rotate_left; focus ((try simp) <;> omega))))).mono ?_; rintro e w1 ⟨v1, rfl, hown1, hb1⟩; have hz1 := hb1.size; (try simp at hz1); have hza1 : w.heap.size < w1.heap.size := (by omega); have hzb1 : w.heap.size + 1 < w1.heap.size := (by omega); have hzc1 : w.heap.size + 1 + 1 < w1.heap.size := (by omega); obtain ⟨p1, f1⟩ := blk_at hb1 w.heap.size (by (try simp) <;> omega); obtain ⟨pp1, ff1⟩ := blk_at hb1 (w.heap.size + 1) (by (try simp) <;> omega); obtain ⟨ppp1, fff1⟩ := blk_at hb1 (w.heap.size + 1 + 1) (by (try simp) <;> omega); obtain ⟨A1, c1, rfl, _, _, _⟩ := hown1.form; have hown1b := Lib.hid (Own.base hown1 (b' := w.heap.size) (by (try simp) <;> omega)); clear hown1)) | (go_at_call 10; go_must (refine (hva.out _ (by repeat (first | (with_reducible exact Below.refl _ _) | (with_reducible refine Below.drew ?_) | (with_reducible refine below_drewN ?_ _) | ((with_reducible refine Below.alloc ?_ ?_ _); rotate_left; focus ((try simp) <;> omega)) | ((with_reducible refine Below.setCell ?_ ?_ _); rotate_left; focus ((try simp) <;> omega)) | ((with_reducible refine Below.trans ?_ (Below.mono (by assumption) ?_)); rotate_left; focus ((try simp) <;> omega))))).mono ?_; rintro e w2 ⟨rfl, hb2⟩; have hz2 := hb2.size; (try simp at hz2); have hza2 : w.heap.size < w2.heap.size := (by omega); have hzb2 : w.heap.size + 1 < w2.heap.size := (by omega); have hzc2 : w.heap.size + 1 + 1 < w2.heap.size := (by omega); obtain ⟨p2, f2⟩ := blk_at hb2 w.heap.size (by (try simp) <;> omega); obtain ⟨pp2, ff2⟩ := blk_at hb2 (w.heap.size + 1) (by (try simp) <;> omega); obtain ⟨ppp2, fff2⟩ := blk_at hb2 (w.heap.size + 1 + 1) (by (try simp) <;> omega))) | (go_at_call 33; go_must (refine (hja.out _ (by repeat (first | (with_reducible exact Below.refl _ _) | (with_reducible refine Below.drew ?_) | (with_reducible refine below_drewN ?_ _) | ((with_reducible refine Below.alloc ?_ ?_ _); rotate_left; focus ((try simp) <;> omega)) | ((with_reducible refine Below.setCell ?_ ?_ _); rotate_left; focus ((try simp) <;> omega)) | ((with_reducible refine Below.trans ?_ (Below.mono (by assumption) ?_)); rotate_left; focus ((try simp) <;> omega))))).mono ?_; rintro e w3 ⟨rfl, hb3⟩; have hz3 := hb3.size; (try simp at hz3); have hza3 : w.heap.size < w3.heap.size := (by omega); have hzb3 : w.heap.size + 1 < w3.heap.size := (by omega); have hzc3 : w.heap.size + 1 + 1 < w3.heap.size := (by omega); obtain ⟨p3, f3⟩ := blk_at hb3 w.heap.size (by (try simp) <;> omega); obtain ⟨pp3, ff3⟩ := blk_at hb3 (w.heap.size + 1) (by (try simp) <;> omega); obtain ⟨ppp3, fff3⟩ := blk_at hb3 (w.heap.size + 1 + 1) (by (try simp) <;> omega))))
    all_goals go_region
    all_goals go_wp2_with fail
    all_goals exact bodyPost_ret (v := .tuple #[.slice A l.length c, .agg #[.bool false, .slice none 0 0], .int .i64 1]) (by simp [results, Tryd.results14, go_sem, *]) rfl ⟨rfl, (by repeat (first | (with_reducible exact Below.refl _ _) | (with_reducible refine Below.drew ?_) | (with_reducible refine below_drewN ?_ _) | ((with_reducible refine Below.alloc ?_ ?_ _); rotate_left; focus ((try simp) <;> omega)) | ((with_reducible refine Below.setCell ?_ ?_ _); rotate_left; focus ((try simp) <;> omega)) | ((with_reducible refine Below.trans ?_ (Below.mono (by assumption) ?_)); rotate_left; focus ((try simp) <;> omega))))⟩
  rw [if_neg (by rw [hj]; decide)] at hEE
  rw [hj] at hja
  rcases hpp : pathB p with _ | _
  · rw [if_pos hpp] at hEE
    subst hEE
    rw [hpp] at hpa
    replace hva := Lib.hid hva
    replace hal := Lib.hid hal
    replace hja := Lib.hid hja
    replace hpa := Lib.hid hpa
    replace hwh := Lib.hid hwh
    replace hv := Lib.hid hv
    try replace hj := Lib.hid hj
    try replace hpp := Lib.hid hpp
    replace hr := Lib.hid hr
    replace hm := Lib.hid hm
    replace hG := Lib.hid hG
    replace hs := Lib.hid hs
    clear hln hp
    go_enter Tryd.func14, Tryd.ntmps14
    go_wp2_with (first | (go_at_call 32; go_must (refine (hal.out _ (by repeat (first | (with_reducible exact Below.refl _ _) | (with_reducible refine Below.drew ?_) | (with_reducible refine below_drewN ?_ _) | ((with_reducible refine Below.alloc ?_ ?_ _); rotate_left; focus ((try simp) <;> omega)) | ((with_reducible refine Below.setCell ?_ ?_ _); rotate_left; focus ((try simp) <;> omega)) | ((with_reducible refine Below.trans ?_ (Below.mono (by assumption) ?_)); rotate_left; focus ((try simp) <;> omega))))).mono ?_; rintro e w1 ⟨v1, rfl, hown1, hb1⟩; have hz1 := hb1.size; (try simp at hz1); have hza1 : w.heap.size < w1.heap.size := (by omega); have hzb1 : w.heap.size + 1 < w1.heap.size := (by omega); have hzc1 : w.heap.size + 1 + 1 < w1.heap.size := (by omega); obtain ⟨p1, f1⟩ := blk_at hb1 w.heap.size (by (try simp) <;> omega); obtain ⟨pp1, ff1⟩ := blk_at hb1 (w.heap.size + 1) (by (try simp) <;> omega); obtain ⟨ppp1, fff1⟩ := blk_at hb1 (w.heap.size + 1 + 1) (by (try simp) <;> omega); obtain ⟨A1, c1, rfl, _, _, _⟩ := hown1.form; have hown1b := Lib.hid (Own.base hown1 (b' := w.heap.size) (by (try simp) <;> omega)); clear hown1)) | (go_at_call 10; go_must (refine (hva.out _ (by repeat (first | (with_reducible exact Below.refl _ _) | (with_reducible refine Below.drew ?_) | (with_reducible refine below_drewN ?_ _) | ((with_reducible refine Below.alloc ?_ ?_ _); rotate_left; focus ((try simp) <;> omega)) | ((with_reducible refine Below.setCell ?_ ?_ _); rotate_left; focus ((try simp) <;> omega)) | ((with_reducible refine Below.trans ?_ (Below.mono (by assumption) ?_)); rotate_left; focus ((try simp) <;> omega))))).mono ?_; rintro e w2 ⟨rfl, hb2⟩; have hz2 := hb2.size; (try simp at hz2); have hza2 : w.heap.size < w2.heap.size := (by omega); have hzb2 : w.heap.size + 1 < w2.heap.size := (by omega); have hzc2 : w.heap.size + 1 + 1 < w2.heap.size := (by omega); obtain ⟨p2, f2⟩ := blk_at hb2 w.heap.size (by (try simp) <;> omega); obtain ⟨pp2, ff2⟩ := blk_at hb2 (w.heap.size + 1) (by (try simp) <;> omega); obtain ⟨ppp2, fff2⟩ := blk_at hb2 (w.heap.size + 1 + 1) (by (try simp) <;> omega))) | (go_at_call 33; go_must (refine (hja.out _ (by repeat (first | (with_reducible exact Below.refl _ _) | (with_reducible refine Below.drew ?_) | (with_reducible refine below_drewN ?_ _) | ((with_reducible refine Below.alloc ?_ ?_ _); rotate_left; focus ((try simp) <;> omega)) | ((with_reducible refine Below.setCell ?_ ?_ _); rotate_left; focus ((try simp) <;> omega)) | ((with_reducible refine Below.trans ?_ (Below.mono (by assumption) ?_)); rotate_left; focus ((try simp) <;> omega))))).mono ?_; rintro e w3 ⟨rfl, hb3⟩; have hz3 := hb3.size; (try simp at hz3); have hza3 : w.heap.size < w3.heap.size := (by omega); have hzb3 : w.heap.size + 1 < w3.heap.size := (by omega); have hzc3 : w.heap.size + 1 + 1 < w3.heap.size := (by omega); obtain ⟨p3, f3⟩ := blk_at hb3 w.heap.size (by (try simp) <;> omega); obtain ⟨pp3, ff3⟩ := blk_at hb3 (w.heap.size + 1) (by (try simp) <;> omega); obtain ⟨ppp3, fff3⟩ := blk_at hb3 (w.heap.size + 1 + 1) (by (try simp) <;> omega))) | (go_at_call 30; go_must (refine (hpa.out _ (by repeat (first | (with_reducible exact Below.refl _ _) | (with_reducible refine Below.drew ?_) | (with_reducible refine below_drewN ?_ _) | ((with_reducible refine Below.alloc ?_ ?_ _); rotate_left; focus ((try simp) <;> omega)) | ((with_reducible refine Below.setCell ?_ ?_ _); rotate_left; focus ((try simp) <;> omega)) | ((with_reducible refine Below.trans ?_ (Below.mono (by assumption) ?_)); rotate_left; focus ((try simp) <;> omega))))).mono ?_; rintro e w4 ⟨rfl, hb4⟩; have hz4 := hb4.size; (try simp at hz4); have hza4 : w.heap.size < w4.heap.size := (by omega); have hzb4 : w.heap.size + 1 < w4.heap.size := (by omega); have hzc4 : w.heap.size + 1 + 1 < w4.heap.size := (by omega); obtain ⟨p4, f4⟩ := blk_at hb4 w.heap.size (by (try simp) <;> omega); obtain ⟨pp4, ff4⟩ := blk_at hb4 (w.heap.size + 1) (by (try simp) <;> omega); obtain ⟨ppp4, fff4⟩ := blk_at hb4 (w.heap.size + 1 + 1) (by (try simp) <;> omega))))
    all_goals go_region
    all_goals go_wp2_with fail
    all_goals exact bodyPost_ret (v := .tuple #[.slice A l.length c, .agg #[.bool false, .slice none 0 0], .int .i64 10]) (by simp [results, Tryd.results14, go_sem, *]) rfl ⟨rfl, (by repeat (first | (with_reducible exact Below.refl _ _) | (with_reducible refine Below.drew ?_) | (with_reducible refine below_drewN ?_ _) | ((with_reducible refine Below.alloc ?_ ?_ _); rotate_left; focus ((try simp) <;> omega)) | ((with_reducible refine Below.setCell ?_ ?_ _); rotate_left; focus ((try simp) <;> omega)) | ((with_reducible refine Below.trans ?_ (Below.mono (by assumption) ?_)); rotate_left; focus ((try simp) <;> omega))))⟩
  rw [if_neg (by rw [hpp]; decide)] at hEE
  rw [hpp] at hpa
  by_cases h0 : P.1 < 0
  · rw [if_pos h0] at hEE
    subst hEE
    replace hva := Lib.hid hva
    replace hal := Lib.hid hal
    replace hja := Lib.hid hja
    replace hpa := Lib.hid hpa
    replace hwh := Lib.hid hwh
    replace hv := Lib.hid hv
    try replace hj := Lib.hid hj
    try replace hpp := Lib.hid hpp
    replace hr := Lib.hid hr
    replace hm := Lib.hid hm
    replace hG := Lib.hid hG
    replace hs := Lib.hid hs
    clear hln hp
    go_enter Tryd.func14, Tryd.ntmps14
    go_wp2_with (first | (go_at_call 32; go_must (refine (hal.out _ (by repeat (first | (with_reducible exact Below.refl _ _) | (with_reducible refine Below.drew ?_) | (with_reducible refine below_drewN ?_ _) | ((with_reducible refine Below.alloc ?_ ?_ _); rotate_left; focus ((try simp) <;> omega)) | ((with_reducible refine Below.setCell ?_ ?_ _); rotate_left; focus ((try simp) <;> omega)) | ((with_reducible refine Below.trans ?_ (Below.mono (by assumption) ?_)); rotate_left; focus ((try simp) <;> omega))))).mono ?_; rintro e w1 ⟨v1, rfl, hown1, hb1⟩; have hz1 := hb1.size; (try simp at hz1); have hza1 : w.heap.size < w1.heap.size := (by omega); have hzb1 : w.heap.size + 1 < w1.heap.size := (by omega); have hzc1 : w.heap.size + 1 + 1 < w1.heap.size := (by omega); obtain ⟨p1, f1⟩ := blk_at hb1 w.heap.size (by (try simp) <;> omega); obtain ⟨pp1, ff1⟩ := blk_at hb1 (w.heap.size + 1) (by (try simp) <;> omega); obtain ⟨ppp1, fff1⟩ := blk_at hb1 (w.heap.size + 1 + 1) (by (try simp) <;> omega); obtain ⟨A1, c1, rfl, _, _, _⟩ := hown1.form; have hown1b := Lib.hid (Own.base hown1 (b' := w.heap.size) (by (try simp) <;> omega)); clear hown1)) | (go_at_call 10; go_must (refine (hva.out _ (by repeat (first | (with_reducible exact Below.refl _ _) | (with_reducible refine Below.drew ?_) | (with_reducible refine below_drewN ?_ _) | ((with_reducible refine Below.alloc ?_ ?_ _); rotate_left; focus ((try simp) <;> omega)) | ((with_reducible refine Below.setCell ?_ ?_ _); rotate_left; focus ((try simp) <;> omega)) | ((with_reducible refine Below.trans ?_ (Below.mono (by assumption) ?_)); rotate_left; focus ((try simp) <;> omega))))).mono ?_; rintro e w2 ⟨rfl, hb2⟩; have hz2 := hb2.size; (try simp at hz2); have hza2 : w.heap.size < w2.heap.size := (by omega); have hzb2 : w.heap.size + 1 < w2.heap.size := (by omega); have hzc2 : w.heap.size + 1 + 1 < w2.heap.size := (by omega); obtain ⟨p2, f2⟩ := blk_at hb2 w.heap.size (by (try simp) <;> omega); obtain ⟨pp2, ff2⟩ := blk_at hb2 (w.heap.size + 1) (by (try simp) <;> omega); obtain ⟨ppp2, fff2⟩ := blk_at hb2 (w.heap.size + 1 + 1) (by (try simp) <;> omega))) | (go_at_call 33; go_must (refine (hja.out _ (by repeat (first | (with_reducible exact Below.refl _ _) | (with_reducible refine Below.drew ?_) | (with_reducible refine below_drewN ?_ _) | ((with_reducible refine Below.alloc ?_ ?_ _); rotate_left; focus ((try simp) <;> omega)) | ((with_reducible refine Below.setCell ?_ ?_ _); rotate_left; focus ((try simp) <;> omega)) | ((with_reducible refine Below.trans ?_ (Below.mono (by assumption) ?_)); rotate_left; focus ((try simp) <;> omega))))).mono ?_; rintro e w3 ⟨rfl, hb3⟩; have hz3 := hb3.size; (try simp at hz3); have hza3 : w.heap.size < w3.heap.size := (by omega); have hzb3 : w.heap.size + 1 < w3.heap.size := (by omega); have hzc3 : w.heap.size + 1 + 1 < w3.heap.size := (by omega); obtain ⟨p3, f3⟩ := blk_at hb3 w.heap.size (by (try simp) <;> omega); obtain ⟨pp3, ff3⟩ := blk_at hb3 (w.heap.size + 1) (by (try simp) <;> omega); obtain ⟨ppp3, fff3⟩ := blk_at hb3 (w.heap.size + 1 + 1) (by (try simp) <;> omega))) | (go_at_call 30; go_must (refine (hpa.out _ (by repeat (first | (with_reducible exact Below.refl _ _) | (with_reducible refine Below.drew ?_) | (with_reducible refine below_drewN ?_ _) | ((with_reducible refine Below.alloc ?_ ?_ _); rotate_left; focus ((try simp) <;> omega)) | ((with_reducible refine Below.setCell ?_ ?_ _); rotate_left; focus ((try simp) <;> omega)) | ((with_reducible refine Below.trans ?_ (Below.mono (by assumption) ?_)); rotate_left; focus ((try simp) <;> omega))))).mono ?_; rintro e w4 ⟨rfl, hb4⟩; have hz4 := hb4.size; (try simp at hz4); have hza4 : w.heap.size < w4.heap.size := (by omega); have hzb4 : w.heap.size + 1 < w4.heap.size := (by omega); have hzc4 : w.heap.size + 1 + 1 < w4.heap.size := (by omega); obtain ⟨p4, f4⟩ := blk_at hb4 w.heap.size (by (try simp) <;> omega); obtain ⟨pp4, ff4⟩ := blk_at hb4 (w.heap.size + 1) (by (try simp) <;> omega); obtain ⟨ppp4, fff4⟩ := blk_at hb4 (w.heap.size + 1 + 1) (by (try simp) <;> omega))))
    all_goals go_region
    all_goals go_wp2_with fail
    all_goals exact bodyPost_ret (v := .tuple #[.slice A l.length c, .agg #[.bool false, .slice none 0 0], .int .i64 2]) (by simp [results, Tryd.results14, go_sem, *]) rfl ⟨rfl, (by repeat (first | (with_reducible exact Below.refl _ _) | (with_reducible refine Below.drew ?_) | (with_reducible refine below_drewN ?_ _) | ((with_reducible refine Below.alloc ?_ ?_ _); rotate_left; focus ((try simp) <;> omega)) | ((with_reducible refine Below.setCell ?_ ?_ _); rotate_left; focus ((try simp) <;> omega)) | ((with_reducible refine Below.trans ?_ (Below.mono (by assumption) ?_)); rotate_left; focus ((try simp) <;> omega))))⟩
  rw [if_neg h0] at hEE
  by_cases h2 : 2 < P.1
  · rw [if_pos h2] at hEE
    subst hEE
    replace hva := Lib.hid hva
    replace hal := Lib.hid hal
    replace hja := Lib.hid hja
    replace hpa := Lib.hid hpa
    replace hwh := Lib.hid hwh
    replace hv := Lib.hid hv
    try replace hj := Lib.hid hj
    try replace hpp := Lib.hid hpp
    replace hr := Lib.hid hr
    replace hm := Lib.hid hm
    replace hG := Lib.hid hG
    replace hs := Lib.hid hs
    clear hln hp
    go_enter Tryd.func14, Tryd.ntmps14
    go_wp2_with (first | (go_at_call 32; go_must (refine (hal.out _ (by repeat (first | (with_reducible exact Below.refl _ _) | (with_reducible refine Below.drew ?_) | (with_reducible refine below_drewN ?_ _) | ((with_reducible refine Below.alloc ?_ ?_ _); rotate_left; focus ((try simp) <;> omega)) | ((with_reducible refine Below.setCell ?_ ?_ _); rotate_left; focus ((try simp) <;> omega)) | ((with_reducible refine Below.trans ?_ (Below.mono (by assumption) ?_)); rotate_left; focus ((try simp) <;> omega))))).mono ?_; rintro e w1 ⟨v1, rfl, hown1, hb1⟩; have hz1 := hb1.size; (try simp at hz1); have hza1 : w.heap.size < w1.heap.size := (by omega); have hzb1 : w.heap.size + 1 < w1.heap.size := (by omega); have hzc1 : w.heap.size + 1 + 1 < w1.heap.size := (by omega); obtain ⟨p1, f1⟩ := blk_at hb1 w.heap.size (by (try simp) <;> omega); obtain ⟨pp1, ff1⟩ := blk_at hb1 (w.heap.size + 1) (by (try simp) <;> omega); obtain ⟨ppp1, fff1⟩ := blk_at hb1 (w.heap.size + 1 + 1) (by (try simp) <;> omega); obtain ⟨A1, c1, rfl, _, _, _⟩ := hown1.form; have hown1b := Lib.hid (Own.base hown1 (b' := w.heap.size) (by (try simp) <;> omega)); clear hown1)) | (go_at_call 10; go_must (refine (hva.out _ (by repeat (first | (with_reducible exact Below.refl _ _) | (with_reducible refine Below.drew ?_) | (with_reducible refine below_drewN ?_ _) | ((with_reducible refine Below.alloc ?_ ?_ _); rotate_left; focus ((try simp) <;> omega)) | ((with_reducible refine Below.setCell ?_ ?_ _); rotate_left; focus ((try simp) <;> omega)) | ((with_reducible refine Below.trans ?_ (Below.mono (by assumption) ?_)); rotate_left; focus ((try simp) <;> omega))))).mono ?_; rintro e w2 ⟨rfl, hb2⟩; have hz2 := hb2.size; (try simp at hz2); have hza2 : w.heap.size < w2.heap.size := (by omega); have hzb2 : w.heap.size + 1 < w2.heap.size := (by omega); have hzc2 : w.heap.size + 1 + 1 < w2.heap.size := (by omega); obtain ⟨p2, f2⟩ := blk_at hb2 w.heap.size (by (try simp) <;> omega); obtain ⟨pp2, ff2⟩ := blk_at hb2 (w.heap.size + 1) (by (try simp) <;> omega); obtain ⟨ppp2, fff2⟩ := blk_at hb2 (w.heap.size + 1 + 1) (by (try simp) <;> omega))) | (go_at_call 33; go_must (refine (hja.out _ (by repeat (first | (with_reducible exact Below.refl _ _) | (with_reducible refine Below.drew ?_) | (with_reducible refine below_drewN ?_ _) | ((with_reducible refine Below.alloc ?_ ?_ _); rotate_left; focus ((try simp) <;> omega)) | ((with_reducible refine Below.setCell ?_ ?_ _); rotate_left; focus ((try simp) <;> omega)) | ((with_reducible refine Below.trans ?_ (Below.mono (by assumption) ?_)); rotate_left; focus ((try simp) <;> omega))))).mono ?_; rintro e w3 ⟨rfl, hb3⟩; have hz3 := hb3.size; (try simp at hz3); have hza3 : w.heap.size < w3.heap.size := (by omega); have hzb3 : w.heap.size + 1 < w3.heap.size := (by omega); have hzc3 : w.heap.size + 1 + 1 < w3.heap.size := (by omega); obtain ⟨p3, f3⟩ := blk_at hb3 w.heap.size (by (try simp) <;> omega); obtain ⟨pp3, ff3⟩ := blk_at hb3 (w.heap.size + 1) (by (try simp) <;> omega); obtain ⟨ppp3, fff3⟩ := blk_at hb3 (w.heap.size + 1 + 1) (by (try simp) <;> omega))) | (go_at_call 30; go_must (refine (hpa.out _ (by repeat (first | (with_reducible exact Below.refl _ _) | (with_reducible refine Below.drew ?_) | (with_reducible refine below_drewN ?_ _) | ((with_reducible refine Below.alloc ?_ ?_ _); rotate_left; focus ((try simp) <;> omega)) | ((with_reducible refine Below.setCell ?_ ?_ _); rotate_left; focus ((try simp) <;> omega)) | ((with_reducible refine Below.trans ?_ (Below.mono (by assumption) ?_)); rotate_left; focus ((try simp) <;> omega))))).mono ?_; rintro e w4 ⟨rfl, hb4⟩; have hz4 := hb4.size; (try simp at hz4); have hza4 : w.heap.size < w4.heap.size := (by omega); have hzb4 : w.heap.size + 1 < w4.heap.size := (by omega); have hzc4 : w.heap.size + 1 + 1 < w4.heap.size := (by omega); obtain ⟨p4, f4⟩ := blk_at hb4 w.heap.size (by (try simp) <;> omega); obtain ⟨pp4, ff4⟩ := blk_at hb4 (w.heap.size + 1) (by (try simp) <;> omega); obtain ⟨ppp4, fff4⟩ := blk_at hb4 (w.heap.size + 1 + 1) (by (try simp) <;> omega))))
    all_goals go_region
    all_goals go_wp2_with fail
    all_goals exact bodyPost_ret (v := .tuple #[.slice A l.length c, .agg #[.bool false, .slice none 0 0], .int .i64 2]) (by simp [results, Tryd.results14, go_sem, *]) rfl ⟨rfl, (by repeat (first | (with_reducible exact Below.refl _ _) | (with_reducible refine Below.drew ?_) | (with_reducible refine below_drewN ?_ _) | ((with_reducible refine Below.alloc ?_ ?_ _); rotate_left; focus ((try simp) <;> omega)) | ((with_reducible refine Below.setCell ?_ ?_ _); rotate_left; focus ((try simp) <;> omega)) | ((with_reducible refine Below.trans ?_ (Below.mono (by assumption) ?_)); rotate_left; focus ((try simp) <;> omega))))⟩
  rw [if_neg h2] at hEE
  by_cases hi : r ∈ allG (l.map Grp.g)
  · rw [if_pos hi] at hEE
    subst hEE
    have hix := idx_in hi
    obtain ⟨I, hI⟩ : ∃ I, idxI (allG (l.map Grp.g)) r = I := ⟨_, rfl⟩
    rw [hI] at hwh hix
    replace hi := Lib.hid hi
    replace hI := Lib.hid hI
    replace hva := Lib.hid hva
    replace hal := Lib.hid hal
    replace hja := Lib.hid hja
    replace hpa := Lib.hid hpa
    replace hwh := Lib.hid hwh
    replace hv := Lib.hid hv
    try replace hj := Lib.hid hj
    try replace hpp := Lib.hid hpp
    replace hr := Lib.hid hr
    replace hm := Lib.hid hm
    replace hG := Lib.hid hG
    replace hs := Lib.hid hs
    clear hln hp
    go_enter Tryd.func14, Tryd.ntmps14
    go_wp2_with (first | (go_at_call 32; go_must (refine (hal.out _ (by repeat (first | (with_reducible exact Below.refl _ _) | (with_reducible refine Below.drew ?_) | (with_reducible refine below_drewN ?_ _) | ((with_reducible refine Below.alloc ?_ ?_ _); rotate_left; focus ((try simp) <;> omega)) | ((with_reducible refine Below.setCell ?_ ?_ _); rotate_left; focus ((try simp) <;> omega)) | ((with_reducible refine Below.trans ?_ (Below.mono (by assumption) ?_)); rotate_left; focus ((try simp) <;> omega))))).mono ?_; rintro e w1 ⟨v1, rfl, hown1, hb1⟩; have hz1 := hb1.size; (try simp at hz1); have hza1 : w.heap.size < w1.heap.size := (by omega); have hzb1 : w.heap.size + 1 < w1.heap.size := (by omega); have hzc1 : w.heap.size + 1 + 1 < w1.heap.size := (by omega); obtain ⟨p1, f1⟩ := blk_at hb1 w.heap.size (by (try simp) <;> omega); obtain ⟨pp1, ff1⟩ := blk_at hb1 (w.heap.size + 1) (by (try simp) <;> omega); obtain ⟨ppp1, fff1⟩ := blk_at hb1 (w.heap.size + 1 + 1) (by (try simp) <;> omega); obtain ⟨A1, c1, rfl, _, _, _⟩ := hown1.form; have hown1b := Lib.hid (Own.base hown1 (b' := w.heap.size) (by (try simp) <;> omega)); clear hown1)) | (go_at_call 10; go_must (refine (hva.out _ (by repeat (first | (with_reducible exact Below.refl _ _) | (with_reducible refine Below.drew ?_) | (with_reducible refine below_drewN ?_ _) | ((with_reducible refine Below.alloc ?_ ?_ _); rotate_left; focus ((try simp) <;> omega)) | ((with_reducible refine Below.setCell ?_ ?_ _); rotate_left; focus ((try simp) <;> omega)) | ((with_reducible refine Below.trans ?_ (Below.mono (by assumption) ?_)); rotate_left; focus ((try simp) <;> omega))))).mono ?_; rintro e w2 ⟨rfl, hb2⟩; have hz2 := hb2.size; (try simp at hz2); have hza2 : w.heap.size < w2.heap.size := (by omega); have hzb2 : w.heap.size + 1 < w2.heap.size := (by omega); have hzc2 : w.heap.size + 1 + 1 < w2.heap.size := (by omega); obtain ⟨p2, f2⟩ := blk_at hb2 w.heap.size (by (try simp) <;> omega); obtain ⟨pp2, ff2⟩ := blk_at hb2 (w.heap.size + 1) (by (try simp) <;> omega); obtain ⟨ppp2, fff2⟩ := blk_at hb2 (w.heap.size + 1 + 1) (by (try simp) <;> omega))) | (go_at_call 33; go_must (refine (hja.out _ (by repeat (first | (with_reducible exact Below.refl _ _) | (with_reducible refine Below.drew ?_) | (with_reducible refine below_drewN ?_ _) | ((with_reducible refine Below.alloc ?_ ?_ _); rotate_left; focus ((try simp) <;> omega)) | ((with_reducible refine Below.setCell ?_ ?_ _); rotate_left; focus ((try simp) <;> omega)) | ((with_reducible refine Below.trans ?_ (Below.mono (by assumption) ?_)); rotate_left; focus ((try simp) <;> omega))))).mono ?_; rintro e w3 ⟨rfl, hb3⟩; have hz3 := hb3.size; (try simp at hz3); have hza3 : w.heap.size < w3.heap.size := (by omega); have hzb3 : w.heap.size + 1 < w3.heap.size := (by omega); have hzc3 : w.heap.size + 1 + 1 < w3.heap.size := (by omega); obtain ⟨p3, f3⟩ := blk_at hb3 w.heap.size (by (try simp) <;> omega); obtain ⟨pp3, ff3⟩ := blk_at hb3 (w.heap.size + 1) (by (try simp) <;> omega); obtain ⟨ppp3, fff3⟩ := blk_at hb3 (w.heap.size + 1 + 1) (by (try simp) <;> omega))) | (go_at_call 30; go_must (refine (hpa.out _ (by repeat (first | (with_reducible exact Below.refl _ _) | (with_reducible refine Below.drew ?_) | (with_reducible refine below_drewN ?_ _) | ((with_reducible refine Below.alloc ?_ ?_ _); rotate_left; focus ((try simp) <;> omega)) | ((with_reducible refine Below.setCell ?_ ?_ _); rotate_left; focus ((try simp) <;> omega)) | ((with_reducible refine Below.trans ?_ (Below.mono (by assumption) ?_)); rotate_left; focus ((try simp) <;> omega))))).mono ?_; rintro e w4 ⟨rfl, hb4⟩; have hz4 := hb4.size; (try simp at hz4); have hza4 : w.heap.size < w4.heap.size := (by omega); have hzb4 : w.heap.size + 1 < w4.heap.size := (by omega); have hzc4 : w.heap.size + 1 + 1 < w4.heap.size := (by omega); obtain ⟨p4, f4⟩ := blk_at hb4 w.heap.size (by (try simp) <;> omega); obtain ⟨pp4, ff4⟩ := blk_at hb4 (w.heap.size + 1) (by (try simp) <;> omega); obtain ⟨ppp4, fff4⟩ := blk_at hb4 (w.heap.size + 1 + 1) (by (try simp) <;> omega))) | (go_at_call 40; go_must (refine (hwh.out _ w1 A1 c1 hown1b.out (by repeat (first | (with_reducible exact Below.refl _ _) | (with_reducible refine Below.drew ?_) | (with_reducible refine below_drewN ?_ _) | ((with_reducible refine Below.alloc ?_ ?_ _); rotate_left; focus ((try simp) <;> omega)) | ((with_reducible refine Below.setCell ?_ ?_ _); rotate_left; focus ((try simp) <;> omega)) | ((with_reducible refine Below.trans ?_ (Below.mono (by assumption) ?_)); rotate_left; focus ((try simp) <;> omega)))) (by go_simp) (by go_simp)).mono ?_; rintro e w5 ⟨rfl, hb5⟩; have hz5 := hb5.size; (try simp at hz5); have hza5 : w.heap.size < w5.heap.size := (by omega); have hzb5 : w.heap.size + 1 < w5.heap.size := (by omega); have hzc5 : w.heap.size + 1 + 1 < w5.heap.size := (by omega); obtain ⟨p5, f5⟩ := blk_at hb5 w.heap.size (by (try simp) <;> omega); obtain ⟨pp5, ff5⟩ := blk_at hb5 (w.heap.size + 1) (by (try simp) <;> omega); obtain ⟨ppp5, fff5⟩ := blk_at hb5 (w.heap.size + 1 + 1) (by (try simp) <;> omega))))
    all_goals go_region
    all_goals go_wp2_with fail
    all_goals exact bodyPost_ret (v := .tuple #[.slice A l.length c, .agg #[.bool false, .slice none 0 0], .int .i64 7]) (by simp [results, Tryd.results14, go_sem, *]) rfl ⟨rfl, (by repeat (first | (with_reducible exact Below.refl _ _) | (with_reducible refine Below.drew ?_) | (with_reducible refine below_drewN ?_ _) | ((with_reducible refine Below.alloc ?_ ?_ _); rotate_left; focus ((try simp) <;> omega)) | ((with_reducible refine Below.setCell ?_ ?_ _); rotate_left; focus ((try simp) <;> omega)) | ((with_reducible refine Below.trans ?_ (Below.mono (by assumption) ?_)); rotate_left; focus ((try simp) <;> omega))))⟩
  rw [if_neg hi] at hEE
  rw [idx_none hi] at hwh
  by_cases hl : 4096 ≤ (allG (l.map Grp.g)).length
  · rw [if_pos hl] at hEE
    subst hEE
    have hl2 : (4096 : Int) ≤ ((allG (l.map Grp.g)).length : Int) := by omega
    clear hl
    replace hi := Lib.hid hi
    replace hva := Lib.hid hva
    replace hal := Lib.hid hal
    replace hja := Lib.hid hja
    replace hpa := Lib.hid hpa
    replace hwh := Lib.hid hwh
    replace hv := Lib.hid hv
    try replace hj := Lib.hid hj
    try replace hpp := Lib.hid hpp
    replace hr := Lib.hid hr
    replace hm := Lib.hid hm
    replace hG := Lib.hid hG
    replace hs := Lib.hid hs
    clear hln hp
    go_enter Tryd.func14, Tryd.ntmps14
    go_wp2_with (first | (go_at_call 32; go_must (refine (hal.out _ (by repeat (first | (with_reducible exact Below.refl _ _) | (with_reducible refine Below.drew ?_) | (with_reducible refine below_drewN ?_ _) | ((with_reducible refine Below.alloc ?_ ?_ _); rotate_left; focus ((try simp) <;> omega)) | ((with_reducible refine Below.setCell ?_ ?_ _); rotate_left; focus ((try simp) <;> omega)) | ((with_reducible refine Below.trans ?_ (Below.mono (by assumption) ?_)); rotate_left; focus ((try simp) <;> omega))))).mono ?_; rintro e w1 ⟨v1, rfl, hown1, hb1⟩; have hz1 := hb1.size; (try simp at hz1); have hza1 : w.heap.size < w1.heap.size := (by omega); have hzb1 : w.heap.size + 1 < w1.heap.size := (by omega); have hzc1 : w.heap.size + 1 + 1 < w1.heap.size := (by omega); obtain ⟨p1, f1⟩ := blk_at hb1 w.heap.size (by (try simp) <;> omega); obtain ⟨pp1, ff1⟩ := blk_at hb1 (w.heap.size + 1) (by (try simp) <;> omega); obtain ⟨ppp1, fff1⟩ := blk_at hb1 (w.heap.size + 1 + 1) (by (try simp) <;> omega); obtain ⟨A1, c1, rfl, _, _, _⟩ := hown1.form; have hown1b := Lib.hid (Own.base hown1 (b' := w.heap.size) (by (try simp) <;> omega)); clear hown1)) | (go_at_call 10; go_must (refine (hva.out _ (by repeat (first | (with_reducible exact Below.refl _ _) | (with_reducible refine Below.drew ?_) | (with_reducible refine below_drewN ?_ _) | ((with_reducible refine Below.alloc ?_ ?_ _); rotate_left; focus ((try simp) <;> omega)) | ((with_reducible refine Below.setCell ?_ ?_ _); rotate_left; focus ((try simp) <;> omega)) | ((with_reducible refine Below.trans ?_ (Below.mono (by assumption) ?_)); rotate_left; focus ((try simp) <;> omega))))).mono ?_; rintro e w2 ⟨rfl, hb2⟩; have hz2 := hb2.size; (try simp at hz2); have hza2 : w.heap.size < w2.heap.size := (by omega); have hzb2 : w.heap.size + 1 < w2.heap.size := (by omega); have hzc2 : w.heap.size + 1 + 1 < w2.heap.size := (by omega); obtain ⟨p2, f2⟩ := blk_at hb2 w.heap.size (by (try simp) <;> omega); obtain ⟨pp2, ff2⟩ := blk_at hb2 (w.heap.size + 1) (by (try simp) <;> omega); obtain ⟨ppp2, fff2⟩ := blk_at hb2 (w.heap.size + 1 + 1) (by (try simp) <;> omega))) | (go_at_call 33; go_must (refine (hja.out _ (by repeat (first | (with_reducible exact Below.refl _ _) | (with_reducible refine Below.drew ?_) | (with_reducible refine below_drewN ?_ _) | ((with_reducible refine Below.alloc ?_ ?_ _); rotate_left; focus ((try simp) <;> omega)) | ((with_reducible refine Below.setCell ?_ ?_ _); rotate_left; focus ((try simp) <;> omega)) | ((with_reducible refine Below.trans ?_ (Below.mono (by assumption) ?_)); rotate_left; focus ((try simp) <;> omega))))).mono ?_; rintro e w3 ⟨rfl, hb3⟩; have hz3 := hb3.size; (try simp at hz3); have hza3 : w.heap.size < w3.heap.size := (by omega); have hzb3 : w.heap.size + 1 < w3.heap.size := (by omega); have hzc3 : w.heap.size + 1 + 1 < w3.heap.size := (by omega); obtain ⟨p3, f3⟩ := blk_at hb3 w.heap.size (by (try simp) <;> omega); obtain ⟨pp3, ff3⟩ := blk_at hb3 (w.heap.size + 1) (by (try simp) <;> omega); obtain ⟨ppp3, fff3⟩ := blk_at hb3 (w.heap.size + 1 + 1) (by (try simp) <;> omega))) | (go_at_call 30; go_must (refine (hpa.out _ (by repeat (first | (with_reducible exact Below.refl _ _) | (with_reducible refine Below.drew ?_) | (with_reducible refine below_drewN ?_ _) | ((with_reducible refine Below.alloc ?_ ?_ _); rotate_left; focus ((try simp) <;> omega)) | ((with_reducible refine Below.setCell ?_ ?_ _); rotate_left; focus ((try simp) <;> omega)) | ((with_reducible refine Below.trans ?_ (Below.mono (by assumption) ?_)); rotate_left; focus ((try simp) <;> omega))))).mono ?_; rintro e w4 ⟨rfl, hb4⟩; have hz4 := hb4.size; (try simp at hz4); have hza4 : w.heap.size < w4.heap.size := (by omega); have hzb4 : w.heap.size + 1 < w4.heap.size := (by omega); have hzc4 : w.heap.size + 1 + 1 < w4.heap.size := (by omega); obtain ⟨p4, f4⟩ := blk_at hb4 w.heap.size (by (try simp) <;> omega); obtain ⟨pp4, ff4⟩ := blk_at hb4 (w.heap.size + 1) (by (try simp) <;> omega); obtain ⟨ppp4, fff4⟩ := blk_at hb4 (w.heap.size + 1 + 1) (by (try simp) <;> omega))) | (go_at_call 40; go_must (refine (hwh.out _ w1 A1 c1 hown1b.out (by repeat (first | (with_reducible exact Below.refl _ _) | (with_reducible refine Below.drew ?_) | (with_reducible refine below_drewN ?_ _) | ((with_reducible refine Below.alloc ?_ ?_ _); rotate_left; focus ((try simp) <;> omega)) | ((with_reducible refine Below.setCell ?_ ?_ _); rotate_left; focus ((try simp) <;> omega)) | ((with_reducible refine Below.trans ?_ (Below.mono (by assumption) ?_)); rotate_left; focus ((try simp) <;> omega)))) (by go_simp) (by go_simp)).mono ?_; rintro e w5 ⟨rfl, hb5⟩; have hz5 := hb5.size; (try simp at hz5); have hza5 : w.heap.size < w5.heap.size := (by omega); have hzb5 : w.heap.size + 1 < w5.heap.size := (by omega); have hzc5 : w.heap.size + 1 + 1 < w5.heap.size := (by omega); obtain ⟨p5, f5⟩ := blk_at hb5 w.heap.size (by (try simp) <;> omega); obtain ⟨pp5, ff5⟩ := blk_at hb5 (w.heap.size + 1) (by (try simp) <;> omega); obtain ⟨ppp5, fff5⟩ := blk_at hb5 (w.heap.size + 1 + 1) (by (try simp) <;> omega))))
    all_goals go_region
    all_goals go_wp2_with fail
    all_goals exact bodyPost_ret (v := .tuple #[.slice A l.length c, .agg #[.bool false, .slice none 0 0], .int .i64 21]) (by simp [results, Tryd.results14, go_sem, *]) rfl ⟨rfl, (by repeat (first | (with_reducible exact Below.refl _ _) | (with_reducible refine Below.drew ?_) | (with_reducible refine below_drewN ?_ _) | ((with_reducible refine Below.alloc ?_ ?_ _); rotate_left; focus ((try simp) <;> omega)) | ((with_reducible refine Below.setCell ?_ ?_ _); rotate_left; focus ((try simp) <;> omega)) | ((with_reducible refine Below.trans ?_ (Below.mono (by assumption) ?_)); rotate_left; focus ((try simp) <;> omega))))⟩
  rw [if_neg hl] at hEE
  exact absurd hEE.symm hE
end Go.Proofs.YtbellobjajnlkaaDoor
