/-
  The walks of groups: a job enters, by the reference: what is refused.
-/
import Derived.Test.YtbellobjajnlkaaDoorCon20
import Derived.Test.YtbellobjajnlkaaDoorCon10





namespace Go.Proofs.YtbellobjajnlkaaDoor
open Go.RowKit

set_option maxRecDepth 100000 in
set_option maxHeartbeats 4000000 in
theorem renter_err (A : Option Addr) (c : Nat) (l : List Grp) (p : Str) (r : JRef) (P : I64) (w : World) (hr : RwG w w.heap.size A l) (hm : Mild l) (hp : p.1.size < 4294967281) (hs : shortR r) (hE : enterE (l.map Grp.g) p r P.1 ≠ 0) :
    Calls Tryd.prog 15 #[.slice A l.length c, .string p.1, .agg #[.string r.run.1, .string r.job.1], .int .i64 P.1] w fun e w' => e = .returned (.tuple #[.slice A l.length c, .agg #[.bool false, .slice none 0 0], .int .i64 (enterE (l.map Grp.g) p r P.1)]) ∧ Below w.heap.size w w' := by
  obtain ⟨E, hEE⟩ : ∃ E, enterE (l.map Grp.g) p r P.1 = E := ⟨_, rfl⟩
  rw [hEE] at hE ⊢
  unfold enterE at hEE
  have hva : ∀ W, Below w.heap.size w W → Calls Tryd.prog 11 #[.slice A l.length c] W fun e w' => e = .returned (.int .i64 (validE (l.map Grp.g))) ∧ Below W.heap.size W w' := fun W hb => rvalid_any A c l W ((hr.below hb (Nat.le_refl _)).more hb.size) hm
  have hal : ∀ W, Below w.heap.size w W → Calls Tryd.prog 20 #[.slice A l.length c] W fun e w' => ∃ v, e = .returned v ∧ Own jRefE 2 29 w' W.heap.size v (allG (l.map Grp.g)) ∧ Below W.heap.size W w' := fun W hb => rall_any A c l W ((hr.below hb (Nat.le_refl _)).more hb.size) hm.all hm.wait hm.len
  have hja : ∀ W, Below w.heap.size w W → Calls Tryd.prog 37 #[.agg #[.string r.run.1, .string r.job.1]] W fun e w' => e = .returned (.bool (jobB r)) ∧ Below W.heap.size W w' := fun W hb => rjob_any r W hs
  have hpa : ∀ W, Below w.heap.size w W → Calls Tryd.prog 34 #[.string p.1] W fun e w' => e = .returned (.bool (pathB p)) ∧ Below W.heap.size W w' := fun W hb => rpath_any p W hp
  have hln : (allG (l.map Grp.g)).length ≤ 9223372036854775807 := by have := hm.all; omega
  have hha : ∀ (W : World) (A1 : Option Addr) (c1 : Nat), Rw jRefE 2 W W.heap.size A1 (allG (l.map Grp.g)) → Calls Tryd.prog 38 #[.slice A1 (allG (l.map Grp.g)).length c1, .agg #[.string r.run.1, .string r.job.1]] W fun e w' => e = .returned (.bool (hasR (allG (l.map Grp.g)) r)) ∧ Below W.heap.size W w' := fun W A1 c1 h => (rhas_any A1 c1 (allG (l.map Grp.g)) r W h hln).mono fun e w' h => ⟨h.1, h.2⟩
  rcases hv : validB (l.map Grp.g) with _ | _
  · rw [if_pos hv] at hEE
    subst hEE
    rw [show validE (l.map Grp.g) = 1 by unfold validE; rw [hv]; rfl] at hva
    replace hva := Lib.hid hva
    replace hal := Lib.hid hal
    replace hja := Lib.hid hja
    replace hpa := Lib.hid hpa
    replace hha := Lib.hid hha
    replace hv := Lib.hid hv
    try replace hj := Lib.hid hj
    try replace hpp := Lib.hid hpp
    replace hr := Lib.hid hr
    replace hm := Lib.hid hm
    replace hs := Lib.hid hs
    clear hln hp
    go_enter Tryd.func15, Tryd.ntmps15
    go_wp2_with (go_at_call 11; go_must (refine (hva.out _ (by repeat (first | (with_reducible exact Below.refl _ _) | (with_reducible refine Below.drew ?_) | (with_reducible refine below_drewN ?_ _) | ((with_reducible refine Below.alloc ?_ ?_ _); rotate_left; focus ((try simp) <;> omega)) | ((with_reducible refine Below.setCell ?_ ?_ _); rotate_left; focus ((try simp) <;> omega)) | ((with_reducible refine Below.trans ?_ (Below.mono (by assumption) ?_)); rotate_left; focus ((try simp) <;> omega))))).mono ?_; rintro e w1 ⟨rfl, hb1⟩; have hz1 := hb1.size; (try simp at hz1); have hza1 : w.heap.size < w1.heap.size := (by omega); have hzb1 : w.heap.size + 1 < w1.heap.size := (by omega); obtain ⟨p1, f1⟩ := blk_at hb1 w.heap.size (by (try simp) <;> omega); obtain ⟨pp1, ff1⟩ := blk_at hb1 (w.heap.size + 1) (by (try simp) <;> omega)))
    exact bodyPost_ret (v := .tuple #[.slice A l.length c, .agg #[.bool false, .slice none 0 0], .int .i64 1]) (by simp [results, Tryd.results15, go_sem, *]) rfl ⟨rfl, (by repeat (first | (with_reducible exact Below.refl _ _) | (with_reducible refine Below.drew ?_) | (with_reducible refine below_drewN ?_ _) | ((with_reducible refine Below.alloc ?_ ?_ _); rotate_left; focus ((try simp) <;> omega)) | ((with_reducible refine Below.setCell ?_ ?_ _); rotate_left; focus ((try simp) <;> omega)) | ((with_reducible refine Below.trans ?_ (Below.mono (by assumption) ?_)); rotate_left; focus ((try simp) <;> omega))))⟩
  rw [if_neg (by rw [hv]; decide)] at hEE
  rw [show validE (l.map Grp.g) = 0 by unfold validE; rw [hv]; rfl] at hva
  rcases hj : jobB r with _ | _
  · rw [if_pos hj] at hEE
    subst hEE
    rw [hj] at hja
    replace hva := Lib.hid hva
    replace hal := Lib.hid hal
    replace hja := Lib.hid hja
    replace hpa := Lib.hid hpa
    replace hha := Lib.hid hha
    replace hv := Lib.hid hv
    try replace hj := Lib.hid hj
    try replace hpp := Lib.hid hpp
    replace hr := Lib.hid hr
    replace hm := Lib.hid hm
    replace hs := Lib.hid hs
    clear hln hp
    go_enter Tryd.func15, Tryd.ntmps15
    go_wp2_with (first | (go_at_call 11; go_must (refine (hva.out _ (by repeat (first | (with_reducible exact Below.refl _ _) | (with_reducible refine Below.drew ?_) | (with_reducible refine below_drewN ?_ _) | ((with_reducible refine Below.alloc ?_ ?_ _); rotate_left; focus ((try simp) <;> omega)) | ((with_reducible refine Below.setCell ?_ ?_ _); rotate_left; focus ((try simp) <;> omega)) | ((with_reducible refine Below.trans ?_ (Below.mono (by assumption) ?_)); rotate_left; focus ((try simp) <;> omega))))).mono ?_; rintro e w1 ⟨rfl, hb1⟩; have hz1 := hb1.size; (try simp at hz1); have hza1 : w.heap.size < w1.heap.size := (by omega); have hzb1 : w.heap.size + 1 < w1.heap.size := (by omega); obtain ⟨p1, f1⟩ := blk_at hb1 w.heap.size (by (try simp) <;> omega); obtain ⟨pp1, ff1⟩ := blk_at hb1 (w.heap.size + 1) (by (try simp) <;> omega))) | (go_at_call 37; go_must (refine (hja.out _ (by repeat (first | (with_reducible exact Below.refl _ _) | (with_reducible refine Below.drew ?_) | (with_reducible refine below_drewN ?_ _) | ((with_reducible refine Below.alloc ?_ ?_ _); rotate_left; focus ((try simp) <;> omega)) | ((with_reducible refine Below.setCell ?_ ?_ _); rotate_left; focus ((try simp) <;> omega)) | ((with_reducible refine Below.trans ?_ (Below.mono (by assumption) ?_)); rotate_left; focus ((try simp) <;> omega))))).mono ?_; rintro e w2 ⟨rfl, hb2⟩; have hz2 := hb2.size; (try simp at hz2); have hza2 : w.heap.size < w2.heap.size := (by omega); have hzb2 : w.heap.size + 1 < w2.heap.size := (by omega); obtain ⟨p2, f2⟩ := blk_at hb2 w.heap.size (by (try simp) <;> omega); obtain ⟨pp2, ff2⟩ := blk_at hb2 (w.heap.size + 1) (by (try simp) <;> omega))))
    exact bodyPost_ret (v := .tuple #[.slice A l.length c, .agg #[.bool false, .slice none 0 0], .int .i64 1]) (by simp [results, Tryd.results15, go_sem, *]) rfl ⟨rfl, (by repeat (first | (with_reducible exact Below.refl _ _) | (with_reducible refine Below.drew ?_) | (with_reducible refine below_drewN ?_ _) | ((with_reducible refine Below.alloc ?_ ?_ _); rotate_left; focus ((try simp) <;> omega)) | ((with_reducible refine Below.setCell ?_ ?_ _); rotate_left; focus ((try simp) <;> omega)) | ((with_reducible refine Below.trans ?_ (Below.mono (by assumption) ?_)); rotate_left; focus ((try simp) <;> omega))))⟩
  rw [if_neg (by rw [hj]; decide)] at hEE
  rw [hj] at hja
  rcases hpp : pathB p with _ | _
  · rw [if_pos hpp] at hEE
    subst hEE
    rw [hpp] at hpa
    replace hva := Lib.hid hva
    replace hal := Lib.hid hal
    replace hja := Lib.hid hja
    replace hpa := Lib.hid hpa
    replace hha := Lib.hid hha
    replace hv := Lib.hid hv
    try replace hj := Lib.hid hj
    try replace hpp := Lib.hid hpp
    replace hr := Lib.hid hr
    replace hm := Lib.hid hm
    replace hs := Lib.hid hs
    clear hln hp
    go_enter Tryd.func15, Tryd.ntmps15
    go_wp2_with (first | (go_at_call 11; go_must (refine (hva.out _ (by repeat (first | (with_reducible exact Below.refl _ _) | (with_reducible refine Below.drew ?_) | (with_reducible refine below_drewN ?_ _) | ((with_reducible refine Below.alloc ?_ ?_ _); rotate_left; focus ((try simp) <;> omega)) | ((with_reducible refine Below.setCell ?_ ?_ _); rotate_left; focus ((try simp) <;> omega)) | ((with_reducible refine Below.trans ?_ (Below.mono (by assumption) ?_)); rotate_left; focus ((try simp) <;> omega))))).mono ?_; rintro e w1 ⟨rfl, hb1⟩; have hz1 := hb1.size; (try simp at hz1); have hza1 : w.heap.size < w1.heap.size := (by omega); have hzb1 : w.heap.size + 1 < w1.heap.size := (by omega); obtain ⟨p1, f1⟩ := blk_at hb1 w.heap.size (by (try simp) <;> omega); obtain ⟨pp1, ff1⟩ := blk_at hb1 (w.heap.size + 1) (by (try simp) <;> omega))) | (go_at_call 37; go_must (refine (hja.out _ (by repeat (first | (with_reducible exact Below.refl _ _) | (with_reducible refine Below.drew ?_) | (with_reducible refine below_drewN ?_ _) | ((with_reducible refine Below.alloc ?_ ?_ _); rotate_left; focus ((try simp) <;> omega)) | ((with_reducible refine Below.setCell ?_ ?_ _); rotate_left; focus ((try simp) <;> omega)) | ((with_reducible refine Below.trans ?_ (Below.mono (by assumption) ?_)); rotate_left; focus ((try simp) <;> omega))))).mono ?_; rintro e w2 ⟨rfl, hb2⟩; have hz2 := hb2.size; (try simp at hz2); have hza2 : w.heap.size < w2.heap.size := (by omega); have hzb2 : w.heap.size + 1 < w2.heap.size := (by omega); obtain ⟨p2, f2⟩ := blk_at hb2 w.heap.size (by (try simp) <;> omega); obtain ⟨pp2, ff2⟩ := blk_at hb2 (w.heap.size + 1) (by (try simp) <;> omega))) | (go_at_call 34; go_must (refine (hpa.out _ (by repeat (first | (with_reducible exact Below.refl _ _) | (with_reducible refine Below.drew ?_) | (with_reducible refine below_drewN ?_ _) | ((with_reducible refine Below.alloc ?_ ?_ _); rotate_left; focus ((try simp) <;> omega)) | ((with_reducible refine Below.setCell ?_ ?_ _); rotate_left; focus ((try simp) <;> omega)) | ((with_reducible refine Below.trans ?_ (Below.mono (by assumption) ?_)); rotate_left; focus ((try simp) <;> omega))))).mono ?_; rintro e w3 ⟨rfl, hb3⟩; have hz3 := hb3.size; (try simp at hz3); have hza3 : w.heap.size < w3.heap.size := (by omega); have hzb3 : w.heap.size + 1 < w3.heap.size := (by omega); obtain ⟨p3, f3⟩ := blk_at hb3 w.heap.size (by (try simp) <;> omega); obtain ⟨pp3, ff3⟩ := blk_at hb3 (w.heap.size + 1) (by (try simp) <;> omega))))
    exact bodyPost_ret (v := .tuple #[.slice A l.length c, .agg #[.bool false, .slice none 0 0], .int .i64 10]) (by simp [results, Tryd.results15, go_sem, *]) rfl ⟨rfl, (by repeat (first | (with_reducible exact Below.refl _ _) | (with_reducible refine Below.drew ?_) | (with_reducible refine below_drewN ?_ _) | ((with_reducible refine Below.alloc ?_ ?_ _); rotate_left; focus ((try simp) <;> omega)) | ((with_reducible refine Below.setCell ?_ ?_ _); rotate_left; focus ((try simp) <;> omega)) | ((with_reducible refine Below.trans ?_ (Below.mono (by assumption) ?_)); rotate_left; focus ((try simp) <;> omega))))⟩
  rw [if_neg (by rw [hpp]; decide)] at hEE
  rw [hpp] at hpa
  by_cases h0 : P.1 < 0
  · rw [if_pos h0] at hEE
    subst hEE
    replace hva := Lib.hid hva
    replace hal := Lib.hid hal
    replace hja := Lib.hid hja
    replace hpa := Lib.hid hpa
    replace hha := Lib.hid hha
    replace hv := Lib.hid hv
    try replace hj := Lib.hid hj
    try replace hpp := Lib.hid hpp
    replace hr := Lib.hid hr
    replace hm := Lib.hid hm
    replace hs := Lib.hid hs
    clear hln hp
    go_enter Tryd.func15, Tryd.ntmps15
    go_wp2_with (first | (go_at_call 11; go_must (refine (hva.out _ (by repeat (first | (with_reducible exact Below.refl _ _) | (with_reducible refine Below.drew ?_) | (with_reducible refine below_drewN ?_ _) | ((with_reducible refine Below.alloc ?_ ?_ _); rotate_left; focus ((try simp) <;> omega)) | ((with_reducible refine Below.setCell ?_ ?_ _); rotate_left; focus ((try simp) <;> omega)) | ((with_reducible refine Below.trans ?_ (Below.mono (by assumption) ?_)); rotate_left; focus ((try simp) <;> omega))))).mono ?_; rintro e w1 ⟨rfl, hb1⟩; have hz1 := hb1.size; (try simp at hz1); have hza1 : w.heap.size < w1.heap.size := (by omega); have hzb1 : w.heap.size + 1 < w1.heap.size := (by omega); obtain ⟨p1, f1⟩ := blk_at hb1 w.heap.size (by (try simp) <;> omega); obtain ⟨pp1, ff1⟩ := blk_at hb1 (w.heap.size + 1) (by (try simp) <;> omega))) | (go_at_call 37; go_must (refine (hja.out _ (by repeat (first | (with_reducible exact Below.refl _ _) | (with_reducible refine Below.drew ?_) | (with_reducible refine below_drewN ?_ _) | ((with_reducible refine Below.alloc ?_ ?_ _); rotate_left; focus ((try simp) <;> omega)) | ((with_reducible refine Below.setCell ?_ ?_ _); rotate_left; focus ((try simp) <;> omega)) | ((with_reducible refine Below.trans ?_ (Below.mono (by assumption) ?_)); rotate_left; focus ((try simp) <;> omega))))).mono ?_; rintro e w2 ⟨rfl, hb2⟩; have hz2 := hb2.size; (try simp at hz2); have hza2 : w.heap.size < w2.heap.size := (by omega); have hzb2 : w.heap.size + 1 < w2.heap.size := (by omega); obtain ⟨p2, f2⟩ := blk_at hb2 w.heap.size (by (try simp) <;> omega); obtain ⟨pp2, ff2⟩ := blk_at hb2 (w.heap.size + 1) (by (try simp) <;> omega))) | (go_at_call 34; go_must (refine (hpa.out _ (by repeat (first | (with_reducible exact Below.refl _ _) | (with_reducible refine Below.drew ?_) | (with_reducible refine below_drewN ?_ _) | ((with_reducible refine Below.alloc ?_ ?_ _); rotate_left; focus ((try simp) <;> omega)) | ((with_reducible refine Below.setCell ?_ ?_ _); rotate_left; focus ((try simp) <;> omega)) | ((with_reducible refine Below.trans ?_ (Below.mono (by assumption) ?_)); rotate_left; focus ((try simp) <;> omega))))).mono ?_; rintro e w3 ⟨rfl, hb3⟩; have hz3 := hb3.size; (try simp at hz3); have hza3 : w.heap.size < w3.heap.size := (by omega); have hzb3 : w.heap.size + 1 < w3.heap.size := (by omega); obtain ⟨p3, f3⟩ := blk_at hb3 w.heap.size (by (try simp) <;> omega); obtain ⟨pp3, ff3⟩ := blk_at hb3 (w.heap.size + 1) (by (try simp) <;> omega))))
    exact bodyPost_ret (v := .tuple #[.slice A l.length c, .agg #[.bool false, .slice none 0 0], .int .i64 2]) (by simp [results, Tryd.results15, go_sem, *]) rfl ⟨rfl, (by repeat (first | (with_reducible exact Below.refl _ _) | (with_reducible refine Below.drew ?_) | (with_reducible refine below_drewN ?_ _) | ((with_reducible refine Below.alloc ?_ ?_ _); rotate_left; focus ((try simp) <;> omega)) | ((with_reducible refine Below.setCell ?_ ?_ _); rotate_left; focus ((try simp) <;> omega)) | ((with_reducible refine Below.trans ?_ (Below.mono (by assumption) ?_)); rotate_left; focus ((try simp) <;> omega))))⟩
  rw [if_neg h0] at hEE
  by_cases h2 : 2 < P.1
  · rw [if_pos h2] at hEE
    subst hEE
    replace hva := Lib.hid hva
    replace hal := Lib.hid hal
    replace hja := Lib.hid hja
    replace hpa := Lib.hid hpa
    replace hha := Lib.hid hha
    replace hv := Lib.hid hv
    try replace hj := Lib.hid hj
    try replace hpp := Lib.hid hpp
    replace hr := Lib.hid hr
    replace hm := Lib.hid hm
    replace hs := Lib.hid hs
    clear hln hp
    go_enter Tryd.func15, Tryd.ntmps15
    go_wp2_with (first | (go_at_call 11; go_must (refine (hva.out _ (by repeat (first | (with_reducible exact Below.refl _ _) | (with_reducible refine Below.drew ?_) | (with_reducible refine below_drewN ?_ _) | ((with_reducible refine Below.alloc ?_ ?_ _); rotate_left; focus ((try simp) <;> omega)) | ((with_reducible refine Below.setCell ?_ ?_ _); rotate_left; focus ((try simp) <;> omega)) | ((with_reducible refine Below.trans ?_ (Below.mono (by assumption) ?_)); rotate_left; focus ((try simp) <;> omega))))).mono ?_; rintro e w1 ⟨rfl, hb1⟩; have hz1 := hb1.size; (try simp at hz1); have hza1 : w.heap.size < w1.heap.size := (by omega); have hzb1 : w.heap.size + 1 < w1.heap.size := (by omega); obtain ⟨p1, f1⟩ := blk_at hb1 w.heap.size (by (try simp) <;> omega); obtain ⟨pp1, ff1⟩ := blk_at hb1 (w.heap.size + 1) (by (try simp) <;> omega))) | (go_at_call 37; go_must (refine (hja.out _ (by repeat (first | (with_reducible exact Below.refl _ _) | (with_reducible refine Below.drew ?_) | (with_reducible refine below_drewN ?_ _) | ((with_reducible refine Below.alloc ?_ ?_ _); rotate_left; focus ((try simp) <;> omega)) | ((with_reducible refine Below.setCell ?_ ?_ _); rotate_left; focus ((try simp) <;> omega)) | ((with_reducible refine Below.trans ?_ (Below.mono (by assumption) ?_)); rotate_left; focus ((try simp) <;> omega))))).mono ?_; rintro e w2 ⟨rfl, hb2⟩; have hz2 := hb2.size; (try simp at hz2); have hza2 : w.heap.size < w2.heap.size := (by omega); have hzb2 : w.heap.size + 1 < w2.heap.size := (by omega); obtain ⟨p2, f2⟩ := blk_at hb2 w.heap.size (by (try simp) <;> omega); obtain ⟨pp2, ff2⟩ := blk_at hb2 (w.heap.size + 1) (by (try simp) <;> omega))) | (go_at_call 34; go_must (refine (hpa.out _ (by repeat (first | (with_reducible exact Below.refl _ _) | (with_reducible refine Below.drew ?_) | (with_reducible refine below_drewN ?_ _) | ((with_reducible refine Below.alloc ?_ ?_ _); rotate_left; focus ((try simp) <;> omega)) | ((with_reducible refine Below.setCell ?_ ?_ _); rotate_left; focus ((try simp) <;> omega)) | ((with_reducible refine Below.trans ?_ (Below.mono (by assumption) ?_)); rotate_left; focus ((try simp) <;> omega))))).mono ?_; rintro e w3 ⟨rfl, hb3⟩; have hz3 := hb3.size; (try simp at hz3); have hza3 : w.heap.size < w3.heap.size := (by omega); have hzb3 : w.heap.size + 1 < w3.heap.size := (by omega); obtain ⟨p3, f3⟩ := blk_at hb3 w.heap.size (by (try simp) <;> omega); obtain ⟨pp3, ff3⟩ := blk_at hb3 (w.heap.size + 1) (by (try simp) <;> omega))))
    exact bodyPost_ret (v := .tuple #[.slice A l.length c, .agg #[.bool false, .slice none 0 0], .int .i64 2]) (by simp [results, Tryd.results15, go_sem, *]) rfl ⟨rfl, (by repeat (first | (with_reducible exact Below.refl _ _) | (with_reducible refine Below.drew ?_) | (with_reducible refine below_drewN ?_ _) | ((with_reducible refine Below.alloc ?_ ?_ _); rotate_left; focus ((try simp) <;> omega)) | ((with_reducible refine Below.setCell ?_ ?_ _); rotate_left; focus ((try simp) <;> omega)) | ((with_reducible refine Below.trans ?_ (Below.mono (by assumption) ?_)); rotate_left; focus ((try simp) <;> omega))))⟩
  rw [if_neg h2] at hEE
  by_cases hi : r ∈ allG (l.map Grp.g)
  · rw [if_pos hi] at hEE
    subst hEE
    rw [show hasR (allG (l.map Grp.g)) r = true from decide_eq_true hi] at hha
    replace hi := Lib.hid hi
    replace hva := Lib.hid hva
    replace hal := Lib.hid hal
    replace hja := Lib.hid hja
    replace hpa := Lib.hid hpa
    replace hha := Lib.hid hha
    replace hv := Lib.hid hv
    try replace hj := Lib.hid hj
    try replace hpp := Lib.hid hpp
    replace hr := Lib.hid hr
    replace hm := Lib.hid hm
    replace hs := Lib.hid hs
    clear hln hp
    go_enter Tryd.func15, Tryd.ntmps15
    go_wp2_with (first | (go_at_call 11; go_must (refine (hva.out _ (by repeat (first | (with_reducible exact Below.refl _ _) | (with_reducible refine Below.drew ?_) | (with_reducible refine below_drewN ?_ _) | ((with_reducible refine Below.alloc ?_ ?_ _); rotate_left; focus ((try simp) <;> omega)) | ((with_reducible refine Below.setCell ?_ ?_ _); rotate_left; focus ((try simp) <;> omega)) | ((with_reducible refine Below.trans ?_ (Below.mono (by assumption) ?_)); rotate_left; focus ((try simp) <;> omega))))).mono ?_; rintro e w1 ⟨rfl, hb1⟩; have hz1 := hb1.size; (try simp at hz1); have hza1 : w.heap.size < w1.heap.size := (by omega); have hzb1 : w.heap.size + 1 < w1.heap.size := (by omega); obtain ⟨p1, f1⟩ := blk_at hb1 w.heap.size (by (try simp) <;> omega); obtain ⟨pp1, ff1⟩ := blk_at hb1 (w.heap.size + 1) (by (try simp) <;> omega))) | (go_at_call 37; go_must (refine (hja.out _ (by repeat (first | (with_reducible exact Below.refl _ _) | (with_reducible refine Below.drew ?_) | (with_reducible refine below_drewN ?_ _) | ((with_reducible refine Below.alloc ?_ ?_ _); rotate_left; focus ((try simp) <;> omega)) | ((with_reducible refine Below.setCell ?_ ?_ _); rotate_left; focus ((try simp) <;> omega)) | ((with_reducible refine Below.trans ?_ (Below.mono (by assumption) ?_)); rotate_left; focus ((try simp) <;> omega))))).mono ?_; rintro e w2 ⟨rfl, hb2⟩; have hz2 := hb2.size; (try simp at hz2); have hza2 : w.heap.size < w2.heap.size := (by omega); have hzb2 : w.heap.size + 1 < w2.heap.size := (by omega); obtain ⟨p2, f2⟩ := blk_at hb2 w.heap.size (by (try simp) <;> omega); obtain ⟨pp2, ff2⟩ := blk_at hb2 (w.heap.size + 1) (by (try simp) <;> omega))) | (go_at_call 34; go_must (refine (hpa.out _ (by repeat (first | (with_reducible exact Below.refl _ _) | (with_reducible refine Below.drew ?_) | (with_reducible refine below_drewN ?_ _) | ((with_reducible refine Below.alloc ?_ ?_ _); rotate_left; focus ((try simp) <;> omega)) | ((with_reducible refine Below.setCell ?_ ?_ _); rotate_left; focus ((try simp) <;> omega)) | ((with_reducible refine Below.trans ?_ (Below.mono (by assumption) ?_)); rotate_left; focus ((try simp) <;> omega))))).mono ?_; rintro e w3 ⟨rfl, hb3⟩; have hz3 := hb3.size; (try simp at hz3); have hza3 : w.heap.size < w3.heap.size := (by omega); have hzb3 : w.heap.size + 1 < w3.heap.size := (by omega); obtain ⟨p3, f3⟩ := blk_at hb3 w.heap.size (by (try simp) <;> omega); obtain ⟨pp3, ff3⟩ := blk_at hb3 (w.heap.size + 1) (by (try simp) <;> omega))))
    refine wp_region_held_drew (S := fun w' => w'.cell? ⟨w.heap.size, 0, none⟩ = some (.string r.run.1) ∧ w'.cell? ⟨w.heap.size, 1, none⟩ = some (.string r.job.1)) (by kernel_rfl) ?_ (fun hHeld => ?_)
    · first | (dsimp only; go_keep; done) | (go_keep; done) | (go_simp; done)
    rw [show (Array.replicate _ false : Array Bool) = #[false, false, false, false] from rfl]
    (refine wpAnyH_take (i := 0) (oi := Oper.mk _ _ _ _ _ _) (v := ?_) rfl (by kernel_rfl) (by kernel_rfl) (by kernel_rfl) (fun _ _ _ h => h) ?_ (by assumption) ?_; rotate_left; (focus (refine Or.inl ⟨by rfl, ?_⟩; intro wS hSw; (try dsimp only at hSw); go_simp; first | done | with_reducible rfl)); simp only [Act.put, List.setIfInBounds_toArray, List.set_cons_zero, List.set_cons_succ])
    (refine wpAnyH_take (i := 2) (oi := Oper.mk _ _ _ _ _ _) (v := ?_) rfl (by kernel_rfl) (by kernel_rfl) (by kernel_rfl) (fun _ _ _ h => h) ?_ (by assumption) ?_; rotate_left; (focus (refine Or.inl ⟨by rfl, ?_⟩; intro wS hSw; (try dsimp only at hSw); go_simp; first | done | with_reducible rfl)); simp only [Act.put, List.setIfInBounds_toArray, List.set_cons_zero, List.set_cons_succ])
    (refine wpAnyH_ready (rs := [1]) (by kernel_rfl) (by simp) ?_
     refine AllReadyH.cons (o := Oper.mk _ _ _ _ _ _) rfl (fun K hK => ?_) AllReadyH.nil
     go_simp
     (go_at_call 20; go_must (refine (hal.out _ (by repeat (first | (with_reducible exact Below.refl _ _) | (with_reducible refine Below.drew ?_) | (with_reducible refine below_drewN ?_ _) | ((with_reducible refine Below.alloc ?_ ?_ _); rotate_left; focus ((try simp) <;> omega)) | ((with_reducible refine Below.setCell ?_ ?_ _); rotate_left; focus ((try simp) <;> omega)) | ((with_reducible refine Below.trans ?_ (Below.mono (by assumption) ?_)); rotate_left; focus ((try simp) <;> omega))))).mono ?_; rintro e w4 ⟨v4, rfl, hown4, hb4⟩; have hz4 := hb4.size; (try simp at hz4); have hza4 : w.heap.size < w4.heap.size := (by omega); have hzb4 : w.heap.size + 1 < w4.heap.size := (by omega); obtain ⟨p4, f4⟩ := blk_at hb4 w.heap.size (by (try simp) <;> omega); obtain ⟨pp4, ff4⟩ := blk_at hb4 (w.heap.size + 1) (by (try simp) <;> omega); obtain ⟨A4, c4, rfl, _, _, _⟩ := hown4.form; have hrd4 := Lib.hid (hown4.reads jRefE_len); clear hown4))
     refine hK.out _ _ ?_ (fun hHeld => ?_)
     · first | (dsimp only; go_keep; done) | (go_keep; done)
     clear hK K
     (try simp only [List.setIfInBounds_toArray, List.set_cons_zero, List.set_cons_succ]))
    (refine wpAnyH_ready (rs := [3]) (by kernel_rfl) (by simp) ?_
     refine AllReadyH.cons (o := Oper.mk _ _ _ _ _ _) rfl (fun K hK => ?_) AllReadyH.nil
     go_simp
     (go_at_call 38; go_must (refine (hha.out _ A4 c4 (Rw.more (Rw.below hrd4.out (by repeat (first | (with_reducible exact Below.refl _ _) | (with_reducible refine Below.drew ?_) | (with_reducible refine below_drewN ?_ _) | ((with_reducible refine Below.alloc ?_ ?_ _); rotate_left; focus ((try simp) <;> omega)) | ((with_reducible refine Below.setCell ?_ ?_ _); rotate_left; focus ((try simp) <;> omega)) | ((with_reducible refine Below.trans ?_ (Below.mono (by assumption) ?_)); rotate_left; focus ((try simp) <;> omega)))) (Nat.le_refl _)) (by (try simp) <;> omega))).mono ?_; rintro e w5 ⟨rfl, hb5⟩; have hz5 := hb5.size; (try simp at hz5); have hza5 : w.heap.size < w5.heap.size := (by omega); have hzb5 : w.heap.size + 1 < w5.heap.size := (by omega); obtain ⟨p5, f5⟩ := blk_at hb5 w.heap.size (by (try simp) <;> omega); obtain ⟨pp5, ff5⟩ := blk_at hb5 (w.heap.size + 1) (by (try simp) <;> omega)))
     refine hK.out _ _ ?_ (fun hHeld => ?_)
     · first | (dsimp only; go_keep; done) | (go_keep; done)
     clear hK K
     (try simp only [List.setIfInBounds_toArray, List.set_cons_zero, List.set_cons_succ]))
    refine wpAnyH_done (by kernel_rfl) ?_ _
    go_wp2_with fail
    exact bodyPost_ret (v := .tuple #[.slice A l.length c, .agg #[.bool false, .slice none 0 0], .int .i64 7]) (by simp [results, Tryd.results15, go_sem, *]) rfl ⟨rfl, (by repeat (first | (with_reducible exact Below.refl _ _) | (with_reducible refine Below.drew ?_) | (with_reducible refine below_drewN ?_ _) | ((with_reducible refine Below.alloc ?_ ?_ _); rotate_left; focus ((try simp) <;> omega)) | ((with_reducible refine Below.setCell ?_ ?_ _); rotate_left; focus ((try simp) <;> omega)) | ((with_reducible refine Below.trans ?_ (Below.mono (by assumption) ?_)); rotate_left; focus ((try simp) <;> omega))))⟩
  rw [if_neg hi] at hEE
  rw [show hasR (allG (l.map Grp.g)) r = false from decide_eq_false hi] at hha
  by_cases hl : 4096 ≤ (allG (l.map Grp.g)).length
  · rw [if_pos hl] at hEE
    subst hEE
    have hl2 : (4096 : Int) ≤ ((allG (l.map Grp.g)).length : Int) := by omega
    clear hl
    replace hi := Lib.hid hi
    replace hva := Lib.hid hva
    replace hal := Lib.hid hal
    replace hja := Lib.hid hja
    replace hpa := Lib.hid hpa
    replace hha := Lib.hid hha
    replace hv := Lib.hid hv
    try replace hj := Lib.hid hj
    try replace hpp := Lib.hid hpp
    replace hr := Lib.hid hr
    replace hm := Lib.hid hm
    replace hs := Lib.hid hs
    clear hln hp
    go_enter Tryd.func15, Tryd.ntmps15
    go_wp2_with (first | (go_at_call 11; go_must (refine (hva.out _ (by repeat (first | (with_reducible exact Below.refl _ _) | (with_reducible refine Below.drew ?_) | (with_reducible refine below_drewN ?_ _) | ((with_reducible refine Below.alloc ?_ ?_ _); rotate_left; focus ((try simp) <;> omega)) | ((with_reducible refine Below.setCell ?_ ?_ _); rotate_left; focus ((try simp) <;> omega)) | ((with_reducible refine Below.trans ?_ (Below.mono (by assumption) ?_)); rotate_left; focus ((try simp) <;> omega))))).mono ?_; rintro e w1 ⟨rfl, hb1⟩; have hz1 := hb1.size; (try simp at hz1); have hza1 : w.heap.size < w1.heap.size := (by omega); have hzb1 : w.heap.size + 1 < w1.heap.size := (by omega); obtain ⟨p1, f1⟩ := blk_at hb1 w.heap.size (by (try simp) <;> omega); obtain ⟨pp1, ff1⟩ := blk_at hb1 (w.heap.size + 1) (by (try simp) <;> omega))) | (go_at_call 37; go_must (refine (hja.out _ (by repeat (first | (with_reducible exact Below.refl _ _) | (with_reducible refine Below.drew ?_) | (with_reducible refine below_drewN ?_ _) | ((with_reducible refine Below.alloc ?_ ?_ _); rotate_left; focus ((try simp) <;> omega)) | ((with_reducible refine Below.setCell ?_ ?_ _); rotate_left; focus ((try simp) <;> omega)) | ((with_reducible refine Below.trans ?_ (Below.mono (by assumption) ?_)); rotate_left; focus ((try simp) <;> omega))))).mono ?_; rintro e w2 ⟨rfl, hb2⟩; have hz2 := hb2.size; (try simp at hz2); have hza2 : w.heap.size < w2.heap.size := (by omega); have hzb2 : w.heap.size + 1 < w2.heap.size := (by omega); obtain ⟨p2, f2⟩ := blk_at hb2 w.heap.size (by (try simp) <;> omega); obtain ⟨pp2, ff2⟩ := blk_at hb2 (w.heap.size + 1) (by (try simp) <;> omega))) | (go_at_call 34; go_must (refine (hpa.out _ (by repeat (first | (with_reducible exact Below.refl _ _) | (with_reducible refine Below.drew ?_) | (with_reducible refine below_drewN ?_ _) | ((with_reducible refine Below.alloc ?_ ?_ _); rotate_left; focus ((try simp) <;> omega)) | ((with_reducible refine Below.setCell ?_ ?_ _); rotate_left; focus ((try simp) <;> omega)) | ((with_reducible refine Below.trans ?_ (Below.mono (by assumption) ?_)); rotate_left; focus ((try simp) <;> omega))))).mono ?_; rintro e w3 ⟨rfl, hb3⟩; have hz3 := hb3.size; (try simp at hz3); have hza3 : w.heap.size < w3.heap.size := (by omega); have hzb3 : w.heap.size + 1 < w3.heap.size := (by omega); obtain ⟨p3, f3⟩ := blk_at hb3 w.heap.size (by (try simp) <;> omega); obtain ⟨pp3, ff3⟩ := blk_at hb3 (w.heap.size + 1) (by (try simp) <;> omega))))
    refine wp_region_held_drew (S := fun w' => w'.cell? ⟨w.heap.size, 0, none⟩ = some (.string r.run.1) ∧ w'.cell? ⟨w.heap.size, 1, none⟩ = some (.string r.job.1)) (by kernel_rfl) ?_ (fun hHeld => ?_)
    · first | (dsimp only; go_keep; done) | (go_keep; done) | (go_simp; done)
    rw [show (Array.replicate _ false : Array Bool) = #[false, false, false, false] from rfl]
    (refine wpAnyH_take (i := 0) (oi := Oper.mk _ _ _ _ _ _) (v := ?_) rfl (by kernel_rfl) (by kernel_rfl) (by kernel_rfl) (fun _ _ _ h => h) ?_ (by assumption) ?_; rotate_left; (focus (refine Or.inl ⟨by rfl, ?_⟩; intro wS hSw; (try dsimp only at hSw); go_simp; first | done | with_reducible rfl)); simp only [Act.put, List.setIfInBounds_toArray, List.set_cons_zero, List.set_cons_succ])
    (refine wpAnyH_take (i := 2) (oi := Oper.mk _ _ _ _ _ _) (v := ?_) rfl (by kernel_rfl) (by kernel_rfl) (by kernel_rfl) (fun _ _ _ h => h) ?_ (by assumption) ?_; rotate_left; (focus (refine Or.inl ⟨by rfl, ?_⟩; intro wS hSw; (try dsimp only at hSw); go_simp; first | done | with_reducible rfl)); simp only [Act.put, List.setIfInBounds_toArray, List.set_cons_zero, List.set_cons_succ])
    (refine wpAnyH_ready (rs := [1]) (by kernel_rfl) (by simp) ?_
     refine AllReadyH.cons (o := Oper.mk _ _ _ _ _ _) rfl (fun K hK => ?_) AllReadyH.nil
     go_simp
     (go_at_call 20; go_must (refine (hal.out _ (by repeat (first | (with_reducible exact Below.refl _ _) | (with_reducible refine Below.drew ?_) | (with_reducible refine below_drewN ?_ _) | ((with_reducible refine Below.alloc ?_ ?_ _); rotate_left; focus ((try simp) <;> omega)) | ((with_reducible refine Below.setCell ?_ ?_ _); rotate_left; focus ((try simp) <;> omega)) | ((with_reducible refine Below.trans ?_ (Below.mono (by assumption) ?_)); rotate_left; focus ((try simp) <;> omega))))).mono ?_; rintro e w4 ⟨v4, rfl, hown4, hb4⟩; have hz4 := hb4.size; (try simp at hz4); have hza4 : w.heap.size < w4.heap.size := (by omega); have hzb4 : w.heap.size + 1 < w4.heap.size := (by omega); obtain ⟨p4, f4⟩ := blk_at hb4 w.heap.size (by (try simp) <;> omega); obtain ⟨pp4, ff4⟩ := blk_at hb4 (w.heap.size + 1) (by (try simp) <;> omega); obtain ⟨A4, c4, rfl, _, _, _⟩ := hown4.form; have hrd4 := Lib.hid (hown4.reads jRefE_len); clear hown4))
     refine hK.out _ _ ?_ (fun hHeld => ?_)
     · first | (dsimp only; go_keep; done) | (go_keep; done)
     clear hK K
     (try simp only [List.setIfInBounds_toArray, List.set_cons_zero, List.set_cons_succ]))
    (refine wpAnyH_ready (rs := [3]) (by kernel_rfl) (by simp) ?_
     refine AllReadyH.cons (o := Oper.mk _ _ _ _ _ _) rfl (fun K hK => ?_) AllReadyH.nil
     go_simp
     (go_at_call 38; go_must (refine (hha.out _ A4 c4 (Rw.more (Rw.below hrd4.out (by repeat (first | (with_reducible exact Below.refl _ _) | (with_reducible refine Below.drew ?_) | (with_reducible refine below_drewN ?_ _) | ((with_reducible refine Below.alloc ?_ ?_ _); rotate_left; focus ((try simp) <;> omega)) | ((with_reducible refine Below.setCell ?_ ?_ _); rotate_left; focus ((try simp) <;> omega)) | ((with_reducible refine Below.trans ?_ (Below.mono (by assumption) ?_)); rotate_left; focus ((try simp) <;> omega)))) (Nat.le_refl _)) (by (try simp) <;> omega))).mono ?_; rintro e w5 ⟨rfl, hb5⟩; have hz5 := hb5.size; (try simp at hz5); have hza5 : w.heap.size < w5.heap.size := (by omega); have hzb5 : w.heap.size + 1 < w5.heap.size := (by omega); obtain ⟨p5, f5⟩ := blk_at hb5 w.heap.size (by (try simp) <;> omega); obtain ⟨pp5, ff5⟩ := blk_at hb5 (w.heap.size + 1) (by (try simp) <;> omega)))
     refine hK.out _ _ ?_ (fun hHeld => ?_)
     · first | (dsimp only; go_keep; done) | (go_keep; done)
     clear hK K
     (try simp only [List.setIfInBounds_toArray, List.set_cons_zero, List.set_cons_succ]))
    refine wpAnyH_done (by kernel_rfl) ?_ _
    go_wp2_with (go_at_call 20; go_must (refine (hal.out _ (by repeat (first | (with_reducible exact Below.refl _ _) | (with_reducible refine Below.drew ?_) | (with_reducible refine below_drewN ?_ _) | ((with_reducible refine Below.alloc ?_ ?_ _); rotate_left; focus ((try simp) <;> omega)) | ((with_reducible refine Below.setCell ?_ ?_ _); rotate_left; focus ((try simp) <;> omega)) | ((with_reducible refine Below.trans ?_ (Below.mono (by assumption) ?_)); rotate_left; focus ((try simp) <;> omega))))).mono ?_; rintro e w6 ⟨v6, rfl, hown6, hb6⟩; have hz6 := hb6.size; (try simp at hz6); have hza6 : w.heap.size < w6.heap.size := (by omega); have hzb6 : w.heap.size + 1 < w6.heap.size := (by omega); obtain ⟨p6, f6⟩ := blk_at hb6 w.heap.size (by (try simp) <;> omega); obtain ⟨pp6, ff6⟩ := blk_at hb6 (w.heap.size + 1) (by (try simp) <;> omega); obtain ⟨A6, c6, rfl, _, _, _⟩ := hown6.form; have hrd6 := Lib.hid (hown6.reads jRefE_len); clear hown6))
    exact bodyPost_ret (v := .tuple #[.slice A l.length c, .agg #[.bool false, .slice none 0 0], .int .i64 21]) (by simp [results, Tryd.results15, go_sem, *]) rfl ⟨rfl, (by repeat (first | (with_reducible exact Below.refl _ _) | (with_reducible refine Below.drew ?_) | (with_reducible refine below_drewN ?_ _) | ((with_reducible refine Below.alloc ?_ ?_ _); rotate_left; focus ((try simp) <;> omega)) | ((with_reducible refine Below.setCell ?_ ?_ _); rotate_left; focus ((try simp) <;> omega)) | ((with_reducible refine Below.trans ?_ (Below.mono (by assumption) ?_)); rotate_left; focus ((try simp) <;> omega))))⟩
  rw [if_neg hl] at hEE
  exact absurd hEE.symm hE
end Go.Proofs.YtbellobjajnlkaaDoor
