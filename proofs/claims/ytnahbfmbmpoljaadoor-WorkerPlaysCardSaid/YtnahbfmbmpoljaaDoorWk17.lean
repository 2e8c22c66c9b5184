/-
  The walks of workers: an event, by the program.
-/
import Derived.Test.YtnahbfmbmpoljaaDoorWk11



namespace Go.Proofs.YtnahbfmbmpoljaaDoor
open Go.RowKit


set_option maxRecDepth 100000 in
set_option maxHeartbeats 16000000 in
theorem step_any (x : Work) (ev : Int) (now : I64) (w : World) (hx : LabWork w w.heap.size x) (ho : LabOk x) (hn : x.labs.length ≤ 1000000 ∧ x.toks.length ≤ 1000000) (hG : Glob w) :
    Calls Tryd.prog 16 #[(.agg #[.string x.id.1, .slice x.labsA x.labs.length x.labsC, .int .i64 x.trust.1, .int .i64 x.slots.1, .bool x.pre, .int .i64 x.phase.1, .int .i64 x.beat.1, .int .i64 x.till.1, .slice x.toksA x.toks.length x.toksC]), .int .i64 ev, .int .i64 now.1] w fun e w' => ∃ A C A2 C2, e = .returned (.tuple #[.agg (workE (atW (stepW x ev now) A C A2 C2)).toArray, .int .i64 (stepE x ev now.1)]) ∧ OwnW w' w.heap.size (atW (stepW x ev now) A C A2 C2) ∧ Below w.heap.size w w' := by
  have hcp : Hid (∀ W, Below w.heap.size w W → Calls Tryd.prog 34 #[(.agg #[.string x.id.1, .slice x.labsA x.labs.length x.labsC, .int .i64 x.trust.1, .int .i64 x.slots.1, .bool x.pre, .int .i64 x.phase.1, .int .i64 x.beat.1, .int .i64 x.till.1, .slice x.toksA x.toks.length x.toksC])] W fun e w' => ∃ A C A2 C2, e = .returned (.agg #[.string x.id.1, .slice A x.labs.length C, .int .i64 x.trust.1, .int .i64 x.slots.1, .bool x.pre, .int .i64 x.phase.1, .int .i64 x.beat.1, .int .i64 x.till.1, .slice A2 x.toks.length C2]) ∧ OwnW w' W.heap.size (atW x A C A2 C2) ∧ Below W.heap.size W w') := Lib.hid fun W hb => copied_any x W ((hx.below hb (Nat.le_refl _)).more hb.size) hn
  have hv : ∀ W, Below w.heap.size w W → Calls Tryd.prog 10 #[(.agg #[.string x.id.1, .slice x.labsA x.labs.length x.labsC, .int .i64 x.trust.1, .int .i64 x.slots.1, .bool x.pre, .int .i64 x.phase.1, .int .i64 x.beat.1, .int .i64 x.till.1, .slice x.toksA x.toks.length x.toksC])] W fun e w' => e = .returned (.int .i64 (wErr x)) ∧ Below W.heap.size W w' := fun W hb => wvalid_any x W ((hx.below hb (Nat.le_refl _)).more hb.size) ho (hG.keep hb)
  have htm0 := fun W => time_any now.1 W
  have hll : Hid ((stepW x ev now).labs = x.labs ∧ (stepW x ev now).toks = x.toks) := Lib.hid ⟨(stepW_lists x ev now).1, (stepW_lists x ev now).2.1⟩
  have hpo0 : ∀ W, Calls Tryd.prog 43 #[(.agg #[.string x.id.1, .slice x.labsA x.labs.length x.labsC, .int .i64 x.trust.1, .int .i64 x.slots.1, .bool x.pre, .int .i64 x.phase.1, .int .i64 x.beat.1, .int .i64 x.till.1, .slice x.toksA x.toks.length x.toksC]), .int .i64 ev] W fun e w' => e = .returned (.bool (possB x ev)) ∧ Below W.heap.size W w' := fun W => poss_any x ev W
  clear hx ho hn hG
  by_cases h0 : wErr x = 0
  · have hr := (wErr_ok h0).2.2.1
    rw [h0] at hv
    have hva := Lib.hid hv
    clear hv
    by_cases h1 : ev < 1
    · have hse := Lib.hid (stepE_2 (x := x) (ev := ev) (now := now.1) h0 (Or.inl h1))
      have hsw := Lib.hid (stepW_no hse.out (by decide))
      have htm := Lib.hid htm0
      have hpo := Lib.hid hpo0
      have hno := Lib.hid True.intro
      clear htm0 hpo0
      replace h0 := Lib.hid h0
      replace hr := Lib.hid hr
      go_enter Tryd.func16, Tryd.ntmps16
      go_wp2_with (first
        | (go_at_call 34; go_must (refine (hcp.out _ (by repeat (first | (with_reducible exact Below.refl _ _) | (with_reducible refine Below.drew ?_) | (with_reducible refine below_drewN ?_ _) | ((with_reducible refine Below.alloc ?_ ?_ _); rotate_left; focus ((try simp) <;> omega)) | ((with_reducible refine Below.setCell ?_ ?_ _); rotate_left; focus ((try simp) <;> omega)) | ((with_reducible refine Below.trans ?_ (Below.mono (by assumption) ?_)); rotate_left; focus ((try simp) <;> omega))))).mono ?_; rintro e w1 ⟨A1, C1, A2, C2, rfl, ho1, hb1⟩; have hz1 := hb1.size; (try simp at hz1); have hz1a : w.heap.size < w1.heap.size := (by omega); have hz1b : w.heap.size + 1 < w1.heap.size := (by omega); obtain ⟨hc1, hf1⟩ := blk_at hb1 w.heap.size (by (try simp) <;> omega); obtain ⟨hd1, hg1⟩ := blk_at hb1 (w.heap.size + 1) (by (try simp) <;> omega)))
        | (go_at_call 10; go_must (refine (hva.out _ (by repeat (first | (with_reducible exact Below.refl _ _) | (with_reducible refine Below.drew ?_) | (with_reducible refine below_drewN ?_ _) | ((with_reducible refine Below.alloc ?_ ?_ _); rotate_left; focus ((try simp) <;> omega)) | ((with_reducible refine Below.setCell ?_ ?_ _); rotate_left; focus ((try simp) <;> omega)) | ((with_reducible refine Below.trans ?_ (Below.mono (by assumption) ?_)); rotate_left; focus ((try simp) <;> omega))))).mono ?_; rintro e w2 ⟨rfl, hb2⟩; have hz2 := hb2.size; (try simp at hz2); have hz2a : w.heap.size < w2.heap.size := (by omega); have hz2b : w.heap.size + 1 < w2.heap.size := (by omega); obtain ⟨hc2, hf2⟩ := blk_at hb2 w.heap.size (by (try simp) <;> omega); obtain ⟨hd2, hg2⟩ := blk_at hb2 (w.heap.size + 1) (by (try simp) <;> omega); obtain ⟨hk2, hl2⟩ := blk_at hb2 w1.heap.size (by (try simp) <;> omega)))
        | (go_at_call 27; go_must (refine (htm.out _).mono ?_; rintro e w3 ⟨rfl, rfl⟩))
        | (go_at_call 43; go_must (refine (hpo.out _).mono ?_; rintro e w4 ⟨rfl, hb4⟩; have hz4 := hb4.size; (try simp at hz4); have hz4a : w.heap.size < w4.heap.size := (by omega); have hz4b : w.heap.size + 1 < w4.heap.size := (by omega); have hz4c : w1.heap.size < w4.heap.size := (by omega); obtain ⟨hc4, hf4⟩ := blk_at hb4 w.heap.size (by (try simp) <;> omega); obtain ⟨hd4, hg4⟩ := blk_at hb4 (w.heap.size + 1) (by (try simp) <;> omega); obtain ⟨hk4, hl4⟩ := blk_at hb4 w1.heap.size (by (try simp) <;> omega)))
        | (go_at_call 44; go_must (refine (hno.out _ _ _ _ _).mono ?_; rintro e w5 ⟨rfl, hb5⟩; have hz5 := hb5.size; (try simp at hz5); have hz5a : w.heap.size < w5.heap.size := (by omega); have hz5b : w.heap.size + 1 < w5.heap.size := (by omega); have hz5c : w1.heap.size < w5.heap.size := (by omega); obtain ⟨hc5, hf5⟩ := blk_at hb5 w.heap.size (by (try simp) <;> omega); obtain ⟨hd5, hg5⟩ := blk_at hb5 (w.heap.size + 1) (by (try simp) <;> omega); obtain ⟨hk5, hl5⟩ := blk_at hb5 w1.heap.size (by (try simp) <;> omega))))
      refine bodyPost_ret (v := .tuple #[.agg (workE (atW x A1 C1 A2 C2)).toArray, .int .i64 2]) (by simp [results, Tryd.results16, go_sem, workE, atW, hd1, hd2, hz1b]) rfl ⟨A1, C1, A2, C2, by rw [hse.out, hsw.out], ⟨?_, ?_⟩, (by repeat (first | (with_reducible exact Below.refl _ _) | (with_reducible refine Below.drew ?_) | (with_reducible refine below_drewN ?_ _) | ((with_reducible refine Below.alloc ?_ ?_ _); rotate_left; focus ((try simp) <;> omega)) | ((with_reducible refine Below.setCell ?_ ?_ _); rotate_left; focus ((try simp) <;> omega)) | ((with_reducible refine Below.trans ?_ (Below.mono (by assumption) ?_)); rotate_left; focus ((try simp) <;> omega))))⟩
      · have hlt := ho1.1.lt
        (try simp at hlt)
        have ho : Own sE 1 _ w1 w.heap.size (.slice A1 x.labs.length C1) x.labs := ho1.1.base (b' := w.heap.size) (by (try simp) <;> omega)
        show Own sE 1 _ _ _ (.slice A1 (stepW x _ now).labs.length C1) (stepW x _ now).labs
        rw [hll.out.1]
        (repeat (first
          | (with_reducible exact ho)
          | (refine Own.setCell ?_ (fun g hg => by have := (hlt g hg).1; have := (hlt g hg).2; show g ≠ _; (try simp) <;> omega) _)
          | (with_reducible refine Own.alloc ?_ _)
          | (with_reducible refine Own.drew ?_)
          | (with_reducible refine Own.all ?_ (by assumption))))
      · have hlt := ho1.2.lt
        (try simp at hlt)
        have ho : Own iE 1 _ w1 w.heap.size (.slice A2 x.toks.length C2) x.toks := ho1.2.base (b' := w.heap.size) (by (try simp) <;> omega)
        show Own iE 1 _ _ _ (.slice A2 (stepW x _ now).toks.length C2) (stepW x _ now).toks
        rw [hll.out.2]
        (repeat (first
          | (with_reducible exact ho)
          | (refine Own.setCell ?_ (fun g hg => by have := (hlt g hg).1; have := (hlt g hg).2; show g ≠ _; (try simp) <;> omega) _)
          | (with_reducible refine Own.alloc ?_ _)
          | (with_reducible refine Own.drew ?_)
          | (with_reducible refine Own.all ?_ (by assumption))))
    by_cases h4 : ev > 4
    · have hse := Lib.hid (stepE_2 (x := x) (ev := ev) (now := now.1) h0 (Or.inr (Or.inl h4)))
      have hsw := Lib.hid (stepW_no hse.out (by decide))
      have htm := Lib.hid htm0
      have hpo := Lib.hid hpo0
      have hno := Lib.hid True.intro
      clear htm0 hpo0
      replace h0 := Lib.hid h0
      replace hr := Lib.hid hr
      go_enter Tryd.func16, Tryd.ntmps16
      go_wp2_with (first
        | (go_at_call 34; go_must (refine (hcp.out _ (by repeat (first | (with_reducible exact Below.refl _ _) | (with_reducible refine Below.drew ?_) | (with_reducible refine below_drewN ?_ _) | ((with_reducible refine Below.alloc ?_ ?_ _); rotate_left; focus ((try simp) <;> omega)) | ((with_reducible refine Below.setCell ?_ ?_ _); rotate_left; focus ((try simp) <;> omega)) | ((with_reducible refine Below.trans ?_ (Below.mono (by assumption) ?_)); rotate_left; focus ((try simp) <;> omega))))).mono ?_; rintro e w1 ⟨A1, C1, A2, C2, rfl, ho1, hb1⟩; have hz1 := hb1.size; (try simp at hz1); have hz1a : w.heap.size < w1.heap.size := (by omega); have hz1b : w.heap.size + 1 < w1.heap.size := (by omega); obtain ⟨hc1, hf1⟩ := blk_at hb1 w.heap.size (by (try simp) <;> omega); obtain ⟨hd1, hg1⟩ := blk_at hb1 (w.heap.size + 1) (by (try simp) <;> omega)))
        | (go_at_call 10; go_must (refine (hva.out _ (by repeat (first | (with_reducible exact Below.refl _ _) | (with_reducible refine Below.drew ?_) | (with_reducible refine below_drewN ?_ _) | ((with_reducible refine Below.alloc ?_ ?_ _); rotate_left; focus ((try simp) <;> omega)) | ((with_reducible refine Below.setCell ?_ ?_ _); rotate_left; focus ((try simp) <;> omega)) | ((with_reducible refine Below.trans ?_ (Below.mono (by assumption) ?_)); rotate_left; focus ((try simp) <;> omega))))).mono ?_; rintro e w2 ⟨rfl, hb2⟩; have hz2 := hb2.size; (try simp at hz2); have hz2a : w.heap.size < w2.heap.size := (by omega); have hz2b : w.heap.size + 1 < w2.heap.size := (by omega); obtain ⟨hc2, hf2⟩ := blk_at hb2 w.heap.size (by (try simp) <;> omega); obtain ⟨hd2, hg2⟩ := blk_at hb2 (w.heap.size + 1) (by (try simp) <;> omega); obtain ⟨hk2, hl2⟩ := blk_at hb2 w1.heap.size (by (try simp) <;> omega)))
        | (go_at_call 27; go_must (refine (htm.out _).mono ?_; rintro e w3 ⟨rfl, rfl⟩))
        | (go_at_call 43; go_must (refine (hpo.out _).mono ?_; rintro e w4 ⟨rfl, hb4⟩; have hz4 := hb4.size; (try simp at hz4); have hz4a : w.heap.size < w4.heap.size := (by omega); have hz4b : w.heap.size + 1 < w4.heap.size := (by omega); have hz4c : w1.heap.size < w4.heap.size := (by omega); obtain ⟨hc4, hf4⟩ := blk_at hb4 w.heap.size (by (try simp) <;> omega); obtain ⟨hd4, hg4⟩ := blk_at hb4 (w.heap.size + 1) (by (try simp) <;> omega); obtain ⟨hk4, hl4⟩ := blk_at hb4 w1.heap.size (by (try simp) <;> omega)))
        | (go_at_call 44; go_must (refine (hno.out _ _ _ _ _).mono ?_; rintro e w5 ⟨rfl, hb5⟩; have hz5 := hb5.size; (try simp at hz5); have hz5a : w.heap.size < w5.heap.size := (by omega); have hz5b : w.heap.size + 1 < w5.heap.size := (by omega); have hz5c : w1.heap.size < w5.heap.size := (by omega); obtain ⟨hc5, hf5⟩ := blk_at hb5 w.heap.size (by (try simp) <;> omega); obtain ⟨hd5, hg5⟩ := blk_at hb5 (w.heap.size + 1) (by (try simp) <;> omega); obtain ⟨hk5, hl5⟩ := blk_at hb5 w1.heap.size (by (try simp) <;> omega))))
      refine bodyPost_ret (v := .tuple #[.agg (workE (atW x A1 C1 A2 C2)).toArray, .int .i64 2]) (by simp [results, Tryd.results16, go_sem, workE, atW, hd1, hd2, hz1b]) rfl ⟨A1, C1, A2, C2, by rw [hse.out, hsw.out], ⟨?_, ?_⟩, (by repeat (first | (with_reducible exact Below.refl _ _) | (with_reducible refine Below.drew ?_) | (with_reducible refine below_drewN ?_ _) | ((with_reducible refine Below.alloc ?_ ?_ _); rotate_left; focus ((try simp) <;> omega)) | ((with_reducible refine Below.setCell ?_ ?_ _); rotate_left; focus ((try simp) <;> omega)) | ((with_reducible refine Below.trans ?_ (Below.mono (by assumption) ?_)); rotate_left; focus ((try simp) <;> omega))))⟩
      · have hlt := ho1.1.lt
        (try simp at hlt)
        have ho : Own sE 1 _ w1 w.heap.size (.slice A1 x.labs.length C1) x.labs := ho1.1.base (b' := w.heap.size) (by (try simp) <;> omega)
        show Own sE 1 _ _ _ (.slice A1 (stepW x _ now).labs.length C1) (stepW x _ now).labs
        rw [hll.out.1]
        (repeat (first
          | (with_reducible exact ho)
          | (refine Own.setCell ?_ (fun g hg => by have := (hlt g hg).1; have := (hlt g hg).2; show g ≠ _; (try simp) <;> omega) _)
          | (with_reducible refine Own.alloc ?_ _)
          | (with_reducible refine Own.drew ?_)
          | (with_reducible refine Own.all ?_ (by assumption))))
      · have hlt := ho1.2.lt
        (try simp at hlt)
        have ho : Own iE 1 _ w1 w.heap.size (.slice A2 x.toks.length C2) x.toks := ho1.2.base (b' := w.heap.size) (by (try simp) <;> omega)
        show Own iE 1 _ _ _ (.slice A2 (stepW x _ now).toks.length C2) (stepW x _ now).toks
        rw [hll.out.2]
        (repeat (first
          | (with_reducible exact ho)
          | (refine Own.setCell ?_ (fun g hg => by have := (hlt g hg).1; have := (hlt g hg).2; show g ≠ _; (try simp) <;> omega) _)
          | (with_reducible refine Own.alloc ?_ _)
          | (with_reducible refine Own.drew ?_)
          | (with_reducible refine Own.all ?_ (by assumption))))
    rcases ht : timeB now.1 with _ | _
    · have hse := Lib.hid (stepE_2 (x := x) (ev := ev) (now := now.1) h0 (Or.inr (Or.inr ht)))
      have hsw := Lib.hid (stepW_no hse.out (by decide))
      rw [ht] at htm0
      have htm := Lib.hid htm0
      have hpo := Lib.hid hpo0
      have hno := Lib.hid True.intro
      clear htm0 hpo0
      replace h0 := Lib.hid h0
      replace hr := Lib.hid hr
      replace ht := Lib.hid ht
      go_enter Tryd.func16, Tryd.ntmps16
      go_wp2_with (first
        | (go_at_call 34; go_must (refine (hcp.out _ (by repeat (first | (with_reducible exact Below.refl _ _) | (with_reducible refine Below.drew ?_) | (with_reducible refine below_drewN ?_ _) | ((with_reducible refine Below.alloc ?_ ?_ _); rotate_left; focus ((try simp) <;> omega)) | ((with_reducible refine Below.setCell ?_ ?_ _); rotate_left; focus ((try simp) <;> omega)) | ((with_reducible refine Below.trans ?_ (Below.mono (by assumption) ?_)); rotate_left; focus ((try simp) <;> omega))))).mono ?_; rintro e w1 ⟨A1, C1, A2, C2, rfl, ho1, hb1⟩; have hz1 := hb1.size; (try simp at hz1); have hz1a : w.heap.size < w1.heap.size := (by omega); have hz1b : w.heap.size + 1 < w1.heap.size := (by omega); obtain ⟨hc1, hf1⟩ := blk_at hb1 w.heap.size (by (try simp) <;> omega); obtain ⟨hd1, hg1⟩ := blk_at hb1 (w.heap.size + 1) (by (try simp) <;> omega)))
        | (go_at_call 10; go_must (refine (hva.out _ (by repeat (first | (with_reducible exact Below.refl _ _) | (with_reducible refine Below.drew ?_) | (with_reducible refine below_drewN ?_ _) | ((with_reducible refine Below.alloc ?_ ?_ _); rotate_left; focus ((try simp) <;> omega)) | ((with_reducible refine Below.setCell ?_ ?_ _); rotate_left; focus ((try simp) <;> omega)) | ((with_reducible refine Below.trans ?_ (Below.mono (by assumption) ?_)); rotate_left; focus ((try simp) <;> omega))))).mono ?_; rintro e w2 ⟨rfl, hb2⟩; have hz2 := hb2.size; (try simp at hz2); have hz2a : w.heap.size < w2.heap.size := (by omega); have hz2b : w.heap.size + 1 < w2.heap.size := (by omega); obtain ⟨hc2, hf2⟩ := blk_at hb2 w.heap.size (by (try simp) <;> omega); obtain ⟨hd2, hg2⟩ := blk_at hb2 (w.heap.size + 1) (by (try simp) <;> omega); obtain ⟨hk2, hl2⟩ := blk_at hb2 w1.heap.size (by (try simp) <;> omega)))
        | (go_at_call 27; go_must (refine (htm.out _).mono ?_; rintro e w3 ⟨rfl, rfl⟩))
        | (go_at_call 43; go_must (refine (hpo.out _).mono ?_; rintro e w4 ⟨rfl, hb4⟩; have hz4 := hb4.size; (try simp at hz4); have hz4a : w.heap.size < w4.heap.size := (by omega); have hz4b : w.heap.size + 1 < w4.heap.size := (by omega); have hz4c : w1.heap.size < w4.heap.size := (by omega); obtain ⟨hc4, hf4⟩ := blk_at hb4 w.heap.size (by (try simp) <;> omega); obtain ⟨hd4, hg4⟩ := blk_at hb4 (w.heap.size + 1) (by (try simp) <;> omega); obtain ⟨hk4, hl4⟩ := blk_at hb4 w1.heap.size (by (try simp) <;> omega)))
        | (go_at_call 44; go_must (refine (hno.out _ _ _ _ _).mono ?_; rintro e w5 ⟨rfl, hb5⟩; have hz5 := hb5.size; (try simp at hz5); have hz5a : w.heap.size < w5.heap.size := (by omega); have hz5b : w.heap.size + 1 < w5.heap.size := (by omega); have hz5c : w1.heap.size < w5.heap.size := (by omega); obtain ⟨hc5, hf5⟩ := blk_at hb5 w.heap.size (by (try simp) <;> omega); obtain ⟨hd5, hg5⟩ := blk_at hb5 (w.heap.size + 1) (by (try simp) <;> omega); obtain ⟨hk5, hl5⟩ := blk_at hb5 w1.heap.size (by (try simp) <;> omega))))
      refine bodyPost_ret (v := .tuple #[.agg (workE (atW x A1 C1 A2 C2)).toArray, .int .i64 2]) (by simp [results, Tryd.results16, go_sem, workE, atW, hd1, hd2, hz1b]) rfl ⟨A1, C1, A2, C2, by rw [hse.out, hsw.out], ⟨?_, ?_⟩, (by repeat (first | (with_reducible exact Below.refl _ _) | (with_reducible refine Below.drew ?_) | (with_reducible refine below_drewN ?_ _) | ((with_reducible refine Below.alloc ?_ ?_ _); rotate_left; focus ((try simp) <;> omega)) | ((with_reducible refine Below.setCell ?_ ?_ _); rotate_left; focus ((try simp) <;> omega)) | ((with_reducible refine Below.trans ?_ (Below.mono (by assumption) ?_)); rotate_left; focus ((try simp) <;> omega))))⟩
      · have hlt := ho1.1.lt
        (try simp at hlt)
        have ho : Own sE 1 _ w1 w.heap.size (.slice A1 x.labs.length C1) x.labs := ho1.1.base (b' := w.heap.size) (by (try simp) <;> omega)
        show Own sE 1 _ _ _ (.slice A1 (stepW x _ now).labs.length C1) (stepW x _ now).labs
        rw [hll.out.1]
        (repeat (first
          | (with_reducible exact ho)
          | (refine Own.setCell ?_ (fun g hg => by have := (hlt g hg).1; have := (hlt g hg).2; show g ≠ _; (try simp) <;> omega) _)
          | (with_reducible refine Own.alloc ?_ _)
          | (with_reducible refine Own.drew ?_)
          | (with_reducible refine Own.all ?_ (by assumption))))
      · have hlt := ho1.2.lt
        (try simp at hlt)
        have ho : Own iE 1 _ w1 w.heap.size (.slice A2 x.toks.length C2) x.toks := ho1.2.base (b' := w.heap.size) (by (try simp) <;> omega)
        show Own iE 1 _ _ _ (.slice A2 (stepW x _ now).toks.length C2) (stepW x _ now).toks
        rw [hll.out.2]
        (repeat (first
          | (with_reducible exact ho)
          | (refine Own.setCell ?_ (fun g hg => by have := (hlt g hg).1; have := (hlt g hg).2; show g ≠ _; (try simp) <;> omega) _)
          | (with_reducible refine Own.alloc ?_ _)
          | (with_reducible refine Own.drew ?_)
          | (with_reducible refine Own.all ?_ (by assumption))))
    have hpe := possB_eq h0 h1 (show ¬ 4 < ev from h4) ht
    have hnow : 0 ≤ now.1 ∧ now.1 ≤ 1125899906842624 := by unfold timeB at ht; simpa using ht
    obtain ⟨n0, n1⟩ := hnow
    rw [ht] at htm0
    have htm := Lib.hid htm0
    clear htm0
    replace ht := Lib.hid ht
    replace h0 := Lib.hid h0
    rcases hp : possB x ev with _ | _
    · rw [hp] at hpe hpo0
      have hse : Hid (stepE x ev now.1 = 16) := Lib.hid (hpe.trans (if_neg (by decide)))
      have hsw := Lib.hid (stepW_no hse.out (by decide))
      have hpo := Lib.hid hpo0
      have hno := Lib.hid True.intro
      clear hpo0 hpe
      replace hp := Lib.hid hp
      replace hr := Lib.hid hr
      go_enter Tryd.func16, Tryd.ntmps16
      go_wp2_with (first
        | (go_at_call 34; go_must (refine (hcp.out _ (by repeat (first | (with_reducible exact Below.refl _ _) | (with_reducible refine Below.drew ?_) | (with_reducible refine below_drewN ?_ _) | ((with_reducible refine Below.alloc ?_ ?_ _); rotate_left; focus ((try simp) <;> omega)) | ((with_reducible refine Below.setCell ?_ ?_ _); rotate_left; focus ((try simp) <;> omega)) | ((with_reducible refine Below.trans ?_ (Below.mono (by assumption) ?_)); rotate_left; focus ((try simp) <;> omega))))).mono ?_; rintro e w1 ⟨A1, C1, A2, C2, rfl, ho1, hb1⟩; have hz1 := hb1.size; (try simp at hz1); have hz1a : w.heap.size < w1.heap.size := (by omega); have hz1b : w.heap.size + 1 < w1.heap.size := (by omega); obtain ⟨hc1, hf1⟩ := blk_at hb1 w.heap.size (by (try simp) <;> omega); obtain ⟨hd1, hg1⟩ := blk_at hb1 (w.heap.size + 1) (by (try simp) <;> omega)))
        | (go_at_call 10; go_must (refine (hva.out _ (by repeat (first | (with_reducible exact Below.refl _ _) | (with_reducible refine Below.drew ?_) | (with_reducible refine below_drewN ?_ _) | ((with_reducible refine Below.alloc ?_ ?_ _); rotate_left; focus ((try simp) <;> omega)) | ((with_reducible refine Below.setCell ?_ ?_ _); rotate_left; focus ((try simp) <;> omega)) | ((with_reducible refine Below.trans ?_ (Below.mono (by assumption) ?_)); rotate_left; focus ((try simp) <;> omega))))).mono ?_; rintro e w2 ⟨rfl, hb2⟩; have hz2 := hb2.size; (try simp at hz2); have hz2a : w.heap.size < w2.heap.size := (by omega); have hz2b : w.heap.size + 1 < w2.heap.size := (by omega); obtain ⟨hc2, hf2⟩ := blk_at hb2 w.heap.size (by (try simp) <;> omega); obtain ⟨hd2, hg2⟩ := blk_at hb2 (w.heap.size + 1) (by (try simp) <;> omega); obtain ⟨hk2, hl2⟩ := blk_at hb2 w1.heap.size (by (try simp) <;> omega)))
        | (go_at_call 27; go_must (refine (htm.out _).mono ?_; rintro e w3 ⟨rfl, rfl⟩))
        | (go_at_call 43; go_must (refine (hpo.out _).mono ?_; rintro e w4 ⟨rfl, hb4⟩; have hz4 := hb4.size; (try simp at hz4); have hz4a : w.heap.size < w4.heap.size := (by omega); have hz4b : w.heap.size + 1 < w4.heap.size := (by omega); have hz4c : w1.heap.size < w4.heap.size := (by omega); obtain ⟨hc4, hf4⟩ := blk_at hb4 w.heap.size (by (try simp) <;> omega); obtain ⟨hd4, hg4⟩ := blk_at hb4 (w.heap.size + 1) (by (try simp) <;> omega); obtain ⟨hk4, hl4⟩ := blk_at hb4 w1.heap.size (by (try simp) <;> omega)))
        | (go_at_call 44; go_must (refine (hno.out _ _ _ _ _).mono ?_; rintro e w5 ⟨rfl, hb5⟩; have hz5 := hb5.size; (try simp at hz5); have hz5a : w.heap.size < w5.heap.size := (by omega); have hz5b : w.heap.size + 1 < w5.heap.size := (by omega); have hz5c : w1.heap.size < w5.heap.size := (by omega); obtain ⟨hc5, hf5⟩ := blk_at hb5 w.heap.size (by (try simp) <;> omega); obtain ⟨hd5, hg5⟩ := blk_at hb5 (w.heap.size + 1) (by (try simp) <;> omega); obtain ⟨hk5, hl5⟩ := blk_at hb5 w1.heap.size (by (try simp) <;> omega))))
      refine bodyPost_ret (v := .tuple #[.agg (workE (atW x A1 C1 A2 C2)).toArray, .int .i64 16]) (by simp [results, Tryd.results16, go_sem, workE, atW, hd1, hd2, hz1b, hd4]) rfl ⟨A1, C1, A2, C2, by rw [hse.out, hsw.out], ⟨?_, ?_⟩, (by repeat (first | (with_reducible exact Below.refl _ _) | (with_reducible refine Below.drew ?_) | (with_reducible refine below_drewN ?_ _) | ((with_reducible refine Below.alloc ?_ ?_ _); rotate_left; focus ((try simp) <;> omega)) | ((with_reducible refine Below.setCell ?_ ?_ _); rotate_left; focus ((try simp) <;> omega)) | ((with_reducible refine Below.trans ?_ (Below.mono (by assumption) ?_)); rotate_left; focus ((try simp) <;> omega))))⟩
      · have hlt := ho1.1.lt
        (try simp at hlt)
        have ho : Own sE 1 _ w1 w.heap.size (.slice A1 x.labs.length C1) x.labs := ho1.1.base (b' := w.heap.size) (by (try simp) <;> omega)
        show Own sE 1 _ _ _ (.slice A1 (stepW x _ now).labs.length C1) (stepW x _ now).labs
        rw [hll.out.1]
        (repeat (first
          | (with_reducible exact ho)
          | (refine Own.setCell ?_ (fun g hg => by have := (hlt g hg).1; have := (hlt g hg).2; show g ≠ _; (try simp) <;> omega) _)
          | (with_reducible refine Own.alloc ?_ _)
          | (with_reducible refine Own.drew ?_)
          | (with_reducible refine Own.all ?_ (by assumption))))
      · have hlt := ho1.2.lt
        (try simp at hlt)
        have ho : Own iE 1 _ w1 w.heap.size (.slice A2 x.toks.length C2) x.toks := ho1.2.base (b' := w.heap.size) (by (try simp) <;> omega)
        show Own iE 1 _ _ _ (.slice A2 (stepW x _ now).toks.length C2) (stepW x _ now).toks
        rw [hll.out.2]
        (repeat (first
          | (with_reducible exact ho)
          | (refine Own.setCell ?_ (fun g hg => by have := (hlt g hg).1; have := (hlt g hg).2; show g ≠ _; (try simp) <;> omega) _)
          | (with_reducible refine Own.alloc ?_ _)
          | (with_reducible refine Own.drew ?_)
          | (with_reducible refine Own.all ?_ (by assumption))))
    have hp3 : x.phase.1 ≠ 3 := fun h => by
      have : possB x ev = false := by unfold possB; rw [decide_eq_false (fun e => e h)]; rfl
      rw [this] at hp; cases hp
    rw [hp] at hpe hpo0
    have hse : Hid (stepE x ev now.1 = 0) := Lib.hid (hpe.trans (if_pos rfl))
    have hpo := Lib.hid hpo0
    clear hpo0 hpe
    replace hp := Lib.hid hp
    have hsf := stepW_ok hse.out
    by_cases e1 : ev = 1
    · subst e1
      have hsw : Hid (stepW x 1 now = { x with beat := maxN x.beat now }) := Lib.hid (hsf.trans (by unfold stepF; rw [if_pos rfl]))
      clear hsf
      have hmx : Hid ((maxN x.beat now).1 = max x.beat.1 now.1) := Lib.hid (by unfold maxN; split <;> omega)
      have hno := Lib.hid True.intro
      replace hr := Lib.hid hr
      replace hp3 := Lib.hid hp3
      go_enter Tryd.func16, Tryd.ntmps16
      go_wp2_with (first
        | (go_at_call 34; go_must (refine (hcp.out _ (by repeat (first | (with_reducible exact Below.refl _ _) | (with_reducible refine Below.drew ?_) | (with_reducible refine below_drewN ?_ _) | ((with_reducible refine Below.alloc ?_ ?_ _); rotate_left; focus ((try simp) <;> omega)) | ((with_reducible refine Below.setCell ?_ ?_ _); rotate_left; focus ((try simp) <;> omega)) | ((with_reducible refine Below.trans ?_ (Below.mono (by assumption) ?_)); rotate_left; focus ((try simp) <;> omega))))).mono ?_; rintro e w1 ⟨A1, C1, A2, C2, rfl, ho1, hb1⟩; have hz1 := hb1.size; (try simp at hz1); have hz1a : w.heap.size < w1.heap.size := (by omega); have hz1b : w.heap.size + 1 < w1.heap.size := (by omega); obtain ⟨hc1, hf1⟩ := blk_at hb1 w.heap.size (by (try simp) <;> omega); obtain ⟨hd1, hg1⟩ := blk_at hb1 (w.heap.size + 1) (by (try simp) <;> omega)))
        | (go_at_call 10; go_must (refine (hva.out _ (by repeat (first | (with_reducible exact Below.refl _ _) | (with_reducible refine Below.drew ?_) | (with_reducible refine below_drewN ?_ _) | ((with_reducible refine Below.alloc ?_ ?_ _); rotate_left; focus ((try simp) <;> omega)) | ((with_reducible refine Below.setCell ?_ ?_ _); rotate_left; focus ((try simp) <;> omega)) | ((with_reducible refine Below.trans ?_ (Below.mono (by assumption) ?_)); rotate_left; focus ((try simp) <;> omega))))).mono ?_; rintro e w2 ⟨rfl, hb2⟩; have hz2 := hb2.size; (try simp at hz2); have hz2a : w.heap.size < w2.heap.size := (by omega); have hz2b : w.heap.size + 1 < w2.heap.size := (by omega); obtain ⟨hc2, hf2⟩ := blk_at hb2 w.heap.size (by (try simp) <;> omega); obtain ⟨hd2, hg2⟩ := blk_at hb2 (w.heap.size + 1) (by (try simp) <;> omega); obtain ⟨hk2, hl2⟩ := blk_at hb2 w1.heap.size (by (try simp) <;> omega)))
        | (go_at_call 27; go_must (refine (htm.out _).mono ?_; rintro e w3 ⟨rfl, rfl⟩))
        | (go_at_call 43; go_must (refine (hpo.out _).mono ?_; rintro e w4 ⟨rfl, hb4⟩; have hz4 := hb4.size; (try simp at hz4); have hz4a : w.heap.size < w4.heap.size := (by omega); have hz4b : w.heap.size + 1 < w4.heap.size := (by omega); have hz4c : w1.heap.size < w4.heap.size := (by omega); obtain ⟨hc4, hf4⟩ := blk_at hb4 w.heap.size (by (try simp) <;> omega); obtain ⟨hd4, hg4⟩ := blk_at hb4 (w.heap.size + 1) (by (try simp) <;> omega); obtain ⟨hk4, hl4⟩ := blk_at hb4 w1.heap.size (by (try simp) <;> omega)))
        | (go_at_call 44; go_must (refine (hno.out _ _ _ _ _).mono ?_; rintro e w5 ⟨rfl, hb5⟩; have hz5 := hb5.size; (try simp at hz5); have hz5a : w.heap.size < w5.heap.size := (by omega); have hz5b : w.heap.size + 1 < w5.heap.size := (by omega); have hz5c : w1.heap.size < w5.heap.size := (by omega); obtain ⟨hc5, hf5⟩ := blk_at hb5 w.heap.size (by (try simp) <;> omega); obtain ⟨hd5, hg5⟩ := blk_at hb5 (w.heap.size + 1) (by (try simp) <;> omega); obtain ⟨hk5, hl5⟩ := blk_at hb5 w1.heap.size (by (try simp) <;> omega))))
      refine bodyPost_ret (v := .tuple #[.agg (workE (atW { x with beat := maxN x.beat now } A1 C1 A2 C2)).toArray, .int .i64 0]) (by simp [results, Tryd.results16, go_sem, workE, atW, hmx.out, hd1, hd2, hz1b, hd4]) rfl ⟨A1, C1, A2, C2, by rw [hse.out, hsw.out], ⟨?_, ?_⟩, (by repeat (first | (with_reducible exact Below.refl _ _) | (with_reducible refine Below.drew ?_) | (with_reducible refine below_drewN ?_ _) | ((with_reducible refine Below.alloc ?_ ?_ _); rotate_left; focus ((try simp) <;> omega)) | ((with_reducible refine Below.setCell ?_ ?_ _); rotate_left; focus ((try simp) <;> omega)) | ((with_reducible refine Below.trans ?_ (Below.mono (by assumption) ?_)); rotate_left; focus ((try simp) <;> omega))))⟩
      · have hlt := ho1.1.lt
        (try simp at hlt)
        have ho : Own sE 1 _ w1 w.heap.size (.slice A1 x.labs.length C1) x.labs := ho1.1.base (b' := w.heap.size) (by (try simp) <;> omega)
        show Own sE 1 _ _ _ (.slice A1 (stepW x _ now).labs.length C1) (stepW x _ now).labs
        rw [hll.out.1]
        (repeat (first
          | (with_reducible exact ho)
          | (refine Own.setCell ?_ (fun g hg => by have := (hlt g hg).1; have := (hlt g hg).2; show g ≠ _; (try simp) <;> omega) _)
          | (with_reducible refine Own.alloc ?_ _)
          | (with_reducible refine Own.drew ?_)
          | (with_reducible refine Own.all ?_ (by assumption))))
      · have hlt := ho1.2.lt
        (try simp at hlt)
        have ho : Own iE 1 _ w1 w.heap.size (.slice A2 x.toks.length C2) x.toks := ho1.2.base (b' := w.heap.size) (by (try simp) <;> omega)
        show Own iE 1 _ _ _ (.slice A2 (stepW x _ now).toks.length C2) (stepW x _ now).toks
        rw [hll.out.2]
        (repeat (first
          | (with_reducible exact ho)
          | (refine Own.setCell ?_ (fun g hg => by have := (hlt g hg).1; have := (hlt g hg).2; show g ≠ _; (try simp) <;> omega) _)
          | (with_reducible refine Own.alloc ?_ _)
          | (with_reducible refine Own.drew ?_)
          | (with_reducible refine Own.all ?_ (by assumption))))
    by_cases e2 : ev = 2
    · subst e2
      have hno := Lib.hid True.intro
      replace hr := Lib.hid hr
      replace hp3 := Lib.hid hp3
      by_cases hp0 : x.phase.1 = 0
      · have hsw : Hid (stepW x 2 now = { x with phase := ⟨1, by omega⟩ }) := Lib.hid (hsf.trans (by unfold stepF; rw [if_neg (by decide), if_pos rfl, if_pos hp0]))
        clear hsf
        have hpz : (x.phase.1 == 0) = true := by rw [hp0]; rfl
        replace hp0 := Lib.hid hp0
        go_enter Tryd.func16, Tryd.ntmps16
        go_wp2_with (first
          | (go_at_call 34; go_must (refine (hcp.out _ (by repeat (first | (with_reducible exact Below.refl _ _) | (with_reducible refine Below.drew ?_) | (with_reducible refine below_drewN ?_ _) | ((with_reducible refine Below.alloc ?_ ?_ _); rotate_left; focus ((try simp) <;> omega)) | ((with_reducible refine Below.setCell ?_ ?_ _); rotate_left; focus ((try simp) <;> omega)) | ((with_reducible refine Below.trans ?_ (Below.mono (by assumption) ?_)); rotate_left; focus ((try simp) <;> omega))))).mono ?_; rintro e w1 ⟨A1, C1, A2, C2, rfl, ho1, hb1⟩; have hz1 := hb1.size; (try simp at hz1); have hz1a : w.heap.size < w1.heap.size := (by omega); have hz1b : w.heap.size + 1 < w1.heap.size := (by omega); obtain ⟨hc1, hf1⟩ := blk_at hb1 w.heap.size (by (try simp) <;> omega); obtain ⟨hd1, hg1⟩ := blk_at hb1 (w.heap.size + 1) (by (try simp) <;> omega)))
          | (go_at_call 10; go_must (refine (hva.out _ (by repeat (first | (with_reducible exact Below.refl _ _) | (with_reducible refine Below.drew ?_) | (with_reducible refine below_drewN ?_ _) | ((with_reducible refine Below.alloc ?_ ?_ _); rotate_left; focus ((try simp) <;> omega)) | ((with_reducible refine Below.setCell ?_ ?_ _); rotate_left; focus ((try simp) <;> omega)) | ((with_reducible refine Below.trans ?_ (Below.mono (by assumption) ?_)); rotate_left; focus ((try simp) <;> omega))))).mono ?_; rintro e w2 ⟨rfl, hb2⟩; have hz2 := hb2.size; (try simp at hz2); have hz2a : w.heap.size < w2.heap.size := (by omega); have hz2b : w.heap.size + 1 < w2.heap.size := (by omega); obtain ⟨hc2, hf2⟩ := blk_at hb2 w.heap.size (by (try simp) <;> omega); obtain ⟨hd2, hg2⟩ := blk_at hb2 (w.heap.size + 1) (by (try simp) <;> omega); obtain ⟨hk2, hl2⟩ := blk_at hb2 w1.heap.size (by (try simp) <;> omega)))
          | (go_at_call 27; go_must (refine (htm.out _).mono ?_; rintro e w3 ⟨rfl, rfl⟩))
          | (go_at_call 43; go_must (refine (hpo.out _).mono ?_; rintro e w4 ⟨rfl, hb4⟩; have hz4 := hb4.size; (try simp at hz4); have hz4a : w.heap.size < w4.heap.size := (by omega); have hz4b : w.heap.size + 1 < w4.heap.size := (by omega); have hz4c : w1.heap.size < w4.heap.size := (by omega); obtain ⟨hc4, hf4⟩ := blk_at hb4 w.heap.size (by (try simp) <;> omega); obtain ⟨hd4, hg4⟩ := blk_at hb4 (w.heap.size + 1) (by (try simp) <;> omega); obtain ⟨hk4, hl4⟩ := blk_at hb4 w1.heap.size (by (try simp) <;> omega)))
          | (go_at_call 44; go_must (refine (hno.out _ _ _ _ _).mono ?_; rintro e w5 ⟨rfl, hb5⟩; have hz5 := hb5.size; (try simp at hz5); have hz5a : w.heap.size < w5.heap.size := (by omega); have hz5b : w.heap.size + 1 < w5.heap.size := (by omega); have hz5c : w1.heap.size < w5.heap.size := (by omega); obtain ⟨hc5, hf5⟩ := blk_at hb5 w.heap.size (by (try simp) <;> omega); obtain ⟨hd5, hg5⟩ := blk_at hb5 (w.heap.size + 1) (by (try simp) <;> omega); obtain ⟨hk5, hl5⟩ := blk_at hb5 w1.heap.size (by (try simp) <;> omega))))
        refine bodyPost_ret (v := .tuple #[.agg (workE (atW { x with phase := ⟨1, by omega⟩ } A1 C1 A2 C2)).toArray, .int .i64 0]) (by simp [results, Tryd.results16, go_sem, workE, atW, hd1, hd2, hz1b, hd4]) rfl ⟨A1, C1, A2, C2, by rw [hse.out, hsw.out], ⟨?_, ?_⟩, (by repeat (first | (with_reducible exact Below.refl _ _) | (with_reducible refine Below.drew ?_) | (with_reducible refine below_drewN ?_ _) | ((with_reducible refine Below.alloc ?_ ?_ _); rotate_left; focus ((try simp) <;> omega)) | ((with_reducible refine Below.setCell ?_ ?_ _); rotate_left; focus ((try simp) <;> omega)) | ((with_reducible refine Below.trans ?_ (Below.mono (by assumption) ?_)); rotate_left; focus ((try simp) <;> omega))))⟩
        · have hlt := ho1.1.lt
          (try simp at hlt)
          have ho : Own sE 1 _ w1 w.heap.size (.slice A1 x.labs.length C1) x.labs := ho1.1.base (b' := w.heap.size) (by (try simp) <;> omega)
          show Own sE 1 _ _ _ (.slice A1 (stepW x _ now).labs.length C1) (stepW x _ now).labs
          rw [hll.out.1]
          (repeat (first
            | (with_reducible exact ho)
            | (refine Own.setCell ?_ (fun g hg => by have := (hlt g hg).1; have := (hlt g hg).2; show g ≠ _; (try simp) <;> omega) _)
            | (with_reducible refine Own.alloc ?_ _)
            | (with_reducible refine Own.drew ?_)
            | (with_reducible refine Own.all ?_ (by assumption))))
        · have hlt := ho1.2.lt
          (try simp at hlt)
          have ho : Own iE 1 _ w1 w.heap.size (.slice A2 x.toks.length C2) x.toks := ho1.2.base (b' := w.heap.size) (by (try simp) <;> omega)
          show Own iE 1 _ _ _ (.slice A2 (stepW x _ now).toks.length C2) (stepW x _ now).toks
          rw [hll.out.2]
          (repeat (first
            | (with_reducible exact ho)
            | (refine Own.setCell ?_ (fun g hg => by have := (hlt g hg).1; have := (hlt g hg).2; show g ≠ _; (try simp) <;> omega) _)
            | (with_reducible refine Own.alloc ?_ _)
            | (with_reducible refine Own.drew ?_)
            | (with_reducible refine Own.all ?_ (by assumption))))
      · have hsw : Hid (stepW x 2 now = x) := Lib.hid (hsf.trans (by unfold stepF; rw [if_neg (by decide), if_pos rfl, if_neg hp0]))
        clear hsf
        go_enter Tryd.func16, Tryd.ntmps16
        go_wp2_with (first
          | (go_at_call 34; go_must (refine (hcp.out _ (by repeat (first | (with_reducible exact Below.refl _ _) | (with_reducible refine Below.drew ?_) | (with_reducible refine below_drewN ?_ _) | ((with_reducible refine Below.alloc ?_ ?_ _); rotate_left; focus ((try simp) <;> omega)) | ((with_reducible refine Below.setCell ?_ ?_ _); rotate_left; focus ((try simp) <;> omega)) | ((with_reducible refine Below.trans ?_ (Below.mono (by assumption) ?_)); rotate_left; focus ((try simp) <;> omega))))).mono ?_; rintro e w1 ⟨A1, C1, A2, C2, rfl, ho1, hb1⟩; have hz1 := hb1.size; (try simp at hz1); have hz1a : w.heap.size < w1.heap.size := (by omega); have hz1b : w.heap.size + 1 < w1.heap.size := (by omega); obtain ⟨hc1, hf1⟩ := blk_at hb1 w.heap.size (by (try simp) <;> omega); obtain ⟨hd1, hg1⟩ := blk_at hb1 (w.heap.size + 1) (by (try simp) <;> omega)))
          | (go_at_call 10; go_must (refine (hva.out _ (by repeat (first | (with_reducible exact Below.refl _ _) | (with_reducible refine Below.drew ?_) | (with_reducible refine below_drewN ?_ _) | ((with_reducible refine Below.alloc ?_ ?_ _); rotate_left; focus ((try simp) <;> omega)) | ((with_reducible refine Below.setCell ?_ ?_ _); rotate_left; focus ((try simp) <;> omega)) | ((with_reducible refine Below.trans ?_ (Below.mono (by assumption) ?_)); rotate_left; focus ((try simp) <;> omega))))).mono ?_; rintro e w2 ⟨rfl, hb2⟩; have hz2 := hb2.size; (try simp at hz2); have hz2a : w.heap.size < w2.heap.size := (by omega); have hz2b : w.heap.size + 1 < w2.heap.size := (by omega); obtain ⟨hc2, hf2⟩ := blk_at hb2 w.heap.size (by (try simp) <;> omega); obtain ⟨hd2, hg2⟩ := blk_at hb2 (w.heap.size + 1) (by (try simp) <;> omega); obtain ⟨hk2, hl2⟩ := blk_at hb2 w1.heap.size (by (try simp) <;> omega)))
          | (go_at_call 27; go_must (refine (htm.out _).mono ?_; rintro e w3 ⟨rfl, rfl⟩))
          | (go_at_call 43; go_must (refine (hpo.out _).mono ?_; rintro e w4 ⟨rfl, hb4⟩; have hz4 := hb4.size; (try simp at hz4); have hz4a : w.heap.size < w4.heap.size := (by omega); have hz4b : w.heap.size + 1 < w4.heap.size := (by omega); have hz4c : w1.heap.size < w4.heap.size := (by omega); obtain ⟨hc4, hf4⟩ := blk_at hb4 w.heap.size (by (try simp) <;> omega); obtain ⟨hd4, hg4⟩ := blk_at hb4 (w.heap.size + 1) (by (try simp) <;> omega); obtain ⟨hk4, hl4⟩ := blk_at hb4 w1.heap.size (by (try simp) <;> omega)))
          | (go_at_call 44; go_must (refine (hno.out _ _ _ _ _).mono ?_; rintro e w5 ⟨rfl, hb5⟩; have hz5 := hb5.size; (try simp at hz5); have hz5a : w.heap.size < w5.heap.size := (by omega); have hz5b : w.heap.size + 1 < w5.heap.size := (by omega); have hz5c : w1.heap.size < w5.heap.size := (by omega); obtain ⟨hc5, hf5⟩ := blk_at hb5 w.heap.size (by (try simp) <;> omega); obtain ⟨hd5, hg5⟩ := blk_at hb5 (w.heap.size + 1) (by (try simp) <;> omega); obtain ⟨hk5, hl5⟩ := blk_at hb5 w1.heap.size (by (try simp) <;> omega))))
        refine bodyPost_ret (v := .tuple #[.agg (workE (atW x A1 C1 A2 C2)).toArray, .int .i64 0]) (by simp [results, Tryd.results16, go_sem, workE, atW, hd1, hd2, hz1b, hd4]) rfl ⟨A1, C1, A2, C2, by rw [hse.out, hsw.out], ⟨?_, ?_⟩, (by repeat (first | (with_reducible exact Below.refl _ _) | (with_reducible refine Below.drew ?_) | (with_reducible refine below_drewN ?_ _) | ((with_reducible refine Below.alloc ?_ ?_ _); rotate_left; focus ((try simp) <;> omega)) | ((with_reducible refine Below.setCell ?_ ?_ _); rotate_left; focus ((try simp) <;> omega)) | ((with_reducible refine Below.trans ?_ (Below.mono (by assumption) ?_)); rotate_left; focus ((try simp) <;> omega))))⟩
        · have hlt := ho1.1.lt
          (try simp at hlt)
          have ho : Own sE 1 _ w1 w.heap.size (.slice A1 x.labs.length C1) x.labs := ho1.1.base (b' := w.heap.size) (by (try simp) <;> omega)
          show Own sE 1 _ _ _ (.slice A1 (stepW x _ now).labs.length C1) (stepW x _ now).labs
          rw [hll.out.1]
          (repeat (first
            | (with_reducible exact ho)
            | (refine Own.setCell ?_ (fun g hg => by have := (hlt g hg).1; have := (hlt g hg).2; show g ≠ _; (try simp) <;> omega) _)
            | (with_reducible refine Own.alloc ?_ _)
            | (with_reducible refine Own.drew ?_)
            | (with_reducible refine Own.all ?_ (by assumption))))
        · have hlt := ho1.2.lt
          (try simp at hlt)
          have ho : Own iE 1 _ w1 w.heap.size (.slice A2 x.toks.length C2) x.toks := ho1.2.base (b' := w.heap.size) (by (try simp) <;> omega)
          show Own iE 1 _ _ _ (.slice A2 (stepW x _ now).toks.length C2) (stepW x _ now).toks
          rw [hll.out.2]
          (repeat (first
            | (with_reducible exact ho)
            | (refine Own.setCell ?_ (fun g hg => by have := (hlt g hg).1; have := (hlt g hg).2; show g ≠ _; (try simp) <;> omega) _)
            | (with_reducible refine Own.alloc ?_ _)
            | (with_reducible refine Own.drew ?_)
            | (with_reducible refine Own.all ?_ (by assumption))))
    by_cases e3 : ev = 3
    · subst e3
      have hsw : Hid (stepW x 3 now = { x with phase := (notF x now).phase, till := (notF x now).till }) := Lib.hid (hsf.trans ((notF_step hr hp3).symm.trans (notF_eq x now).symm))
      clear hsf
      have hno : Hid (∀ A C A2 C2 W, Calls Tryd.prog 44 #[(.agg #[.string x.id.1, .slice A x.labs.length C, .int .i64 x.trust.1, .int .i64 x.slots.1, .bool x.pre, .int .i64 x.phase.1, .int .i64 x.beat.1, .int .i64 x.till.1, .slice A2 x.toks.length C2]), .int .i64 now.1] W fun e w' => e = .returned (.agg #[.string x.id.1, .slice A x.labs.length C, .int .i64 x.trust.1, .int .i64 x.slots.1, .bool x.pre, .int .i64 (notF x now).phase.1, .int .i64 x.beat.1, .int .i64 (notF x now).till.1, .slice A2 x.toks.length C2]) ∧ Below W.heap.size W w') := Lib.hid fun A C A2 C2 W => notc_any x now A C A2 C2 W n0 n1
      replace hr := Lib.hid hr
      replace hp3 := Lib.hid hp3
      go_enter Tryd.func16, Tryd.ntmps16
      go_wp2_with (first
        | (go_at_call 34; go_must (refine (hcp.out _ (by repeat (first | (with_reducible exact Below.refl _ _) | (with_reducible refine Below.drew ?_) | (with_reducible refine below_drewN ?_ _) | ((with_reducible refine Below.alloc ?_ ?_ _); rotate_left; focus ((try simp) <;> omega)) | ((with_reducible refine Below.setCell ?_ ?_ _); rotate_left; focus ((try simp) <;> omega)) | ((with_reducible refine Below.trans ?_ (Below.mono (by assumption) ?_)); rotate_left; focus ((try simp) <;> omega))))).mono ?_; rintro e w1 ⟨A1, C1, A2, C2, rfl, ho1, hb1⟩; have hz1 := hb1.size; (try simp at hz1); have hz1a : w.heap.size < w1.heap.size := (by omega); have hz1b : w.heap.size + 1 < w1.heap.size := (by omega); obtain ⟨hc1, hf1⟩ := blk_at hb1 w.heap.size (by (try simp) <;> omega); obtain ⟨hd1, hg1⟩ := blk_at hb1 (w.heap.size + 1) (by (try simp) <;> omega)))
        | (go_at_call 10; go_must (refine (hva.out _ (by repeat (first | (with_reducible exact Below.refl _ _) | (with_reducible refine Below.drew ?_) | (with_reducible refine below_drewN ?_ _) | ((with_reducible refine Below.alloc ?_ ?_ _); rotate_left; focus ((try simp) <;> omega)) | ((with_reducible refine Below.setCell ?_ ?_ _); rotate_left; focus ((try simp) <;> omega)) | ((with_reducible refine Below.trans ?_ (Below.mono (by assumption) ?_)); rotate_left; focus ((try simp) <;> omega))))).mono ?_; rintro e w2 ⟨rfl, hb2⟩; have hz2 := hb2.size; (try simp at hz2); have hz2a : w.heap.size < w2.heap.size := (by omega); have hz2b : w.heap.size + 1 < w2.heap.size := (by omega); obtain ⟨hc2, hf2⟩ := blk_at hb2 w.heap.size (by (try simp) <;> omega); obtain ⟨hd2, hg2⟩ := blk_at hb2 (w.heap.size + 1) (by (try simp) <;> omega); obtain ⟨hk2, hl2⟩ := blk_at hb2 w1.heap.size (by (try simp) <;> omega)))
        | (go_at_call 27; go_must (refine (htm.out _).mono ?_; rintro e w3 ⟨rfl, rfl⟩))
        | (go_at_call 43; go_must (refine (hpo.out _).mono ?_; rintro e w4 ⟨rfl, hb4⟩; have hz4 := hb4.size; (try simp at hz4); have hz4a : w.heap.size < w4.heap.size := (by omega); have hz4b : w.heap.size + 1 < w4.heap.size := (by omega); have hz4c : w1.heap.size < w4.heap.size := (by omega); obtain ⟨hc4, hf4⟩ := blk_at hb4 w.heap.size (by (try simp) <;> omega); obtain ⟨hd4, hg4⟩ := blk_at hb4 (w.heap.size + 1) (by (try simp) <;> omega); obtain ⟨hk4, hl4⟩ := blk_at hb4 w1.heap.size (by (try simp) <;> omega)))
        | (go_at_call 44; go_must (refine (hno.out _ _ _ _ _).mono ?_; rintro e w5 ⟨rfl, hb5⟩; have hz5 := hb5.size; (try simp at hz5); have hz5a : w.heap.size < w5.heap.size := (by omega); have hz5b : w.heap.size + 1 < w5.heap.size := (by omega); have hz5c : w1.heap.size < w5.heap.size := (by omega); obtain ⟨hc5, hf5⟩ := blk_at hb5 w.heap.size (by (try simp) <;> omega); obtain ⟨hd5, hg5⟩ := blk_at hb5 (w.heap.size + 1) (by (try simp) <;> omega); obtain ⟨hk5, hl5⟩ := blk_at hb5 w1.heap.size (by (try simp) <;> omega))))
      refine bodyPost_ret (v := .tuple #[.agg (workE (atW { x with phase := (notF x now).phase, till := (notF x now).till } A1 C1 A2 C2)).toArray, .int .i64 0]) (by simp [results, Tryd.results16, go_sem, workE, atW, hd1, hd2, hz1b, hd4, hd5]) rfl ⟨A1, C1, A2, C2, by rw [hse.out, hsw.out], ⟨?_, ?_⟩, (by repeat (first | (with_reducible exact Below.refl _ _) | (with_reducible refine Below.drew ?_) | (with_reducible refine below_drewN ?_ _) | ((with_reducible refine Below.alloc ?_ ?_ _); rotate_left; focus ((try simp) <;> omega)) | ((with_reducible refine Below.setCell ?_ ?_ _); rotate_left; focus ((try simp) <;> omega)) | ((with_reducible refine Below.trans ?_ (Below.mono (by assumption) ?_)); rotate_left; focus ((try simp) <;> omega))))⟩
      · have hlt := ho1.1.lt
        (try simp at hlt)
        have ho : Own sE 1 _ w1 w.heap.size (.slice A1 x.labs.length C1) x.labs := ho1.1.base (b' := w.heap.size) (by (try simp) <;> omega)
        show Own sE 1 _ _ _ (.slice A1 (stepW x _ now).labs.length C1) (stepW x _ now).labs
        rw [hll.out.1]
        (repeat (first
          | (with_reducible exact ho)
          | (refine Own.setCell ?_ (fun g hg => by have := (hlt g hg).1; have := (hlt g hg).2; show g ≠ _; (try simp) <;> omega) _)
          | (with_reducible refine Own.alloc ?_ _)
          | (with_reducible refine Own.drew ?_)
          | (with_reducible refine Own.all ?_ (by assumption))))
      · have hlt := ho1.2.lt
        (try simp at hlt)
        have ho : Own iE 1 _ w1 w.heap.size (.slice A2 x.toks.length C2) x.toks := ho1.2.base (b' := w.heap.size) (by (try simp) <;> omega)
        show Own iE 1 _ _ _ (.slice A2 (stepW x _ now).toks.length C2) (stepW x _ now).toks
        rw [hll.out.2]
        (repeat (first
          | (with_reducible exact ho)
          | (refine Own.setCell ?_ (fun g hg => by have := (hlt g hg).1; have := (hlt g hg).2; show g ≠ _; (try simp) <;> omega) _)
          | (with_reducible refine Own.alloc ?_ _)
          | (with_reducible refine Own.drew ?_)
          | (with_reducible refine Own.all ?_ (by assumption))))
    have e4 : ev = 4 := by omega
    subst e4
    have hsw : Hid (stepW x 4 now = { x with phase := ⟨3, by omega⟩, till := ⟨0, by omega⟩ }) := Lib.hid (hsf.trans (by unfold stepF; rw [if_neg (by decide), if_neg (by decide), if_neg (by decide)]))
    clear hsf
    have hno := Lib.hid True.intro
    replace hr := Lib.hid hr
    replace hp3 := Lib.hid hp3
    go_enter Tryd.func16, Tryd.ntmps16
    go_wp2_with (first
      | (go_at_call 34; go_must (refine (hcp.out _ (by repeat (first | (with_reducible exact Below.refl _ _) | (with_reducible refine Below.drew ?_) | (with_reducible refine below_drewN ?_ _) | ((with_reducible refine Below.alloc ?_ ?_ _); rotate_left; focus ((try simp) <;> omega)) | ((with_reducible refine Below.setCell ?_ ?_ _); rotate_left; focus ((try simp) <;> omega)) | ((with_reducible refine Below.trans ?_ (Below.mono (by assumption) ?_)); rotate_left; focus ((try simp) <;> omega))))).mono ?_; rintro e w1 ⟨A1, C1, A2, C2, rfl, ho1, hb1⟩; have hz1 := hb1.size; (try simp at hz1); have hz1a : w.heap.size < w1.heap.size := (by omega); have hz1b : w.heap.size + 1 < w1.heap.size := (by omega); obtain ⟨hc1, hf1⟩ := blk_at hb1 w.heap.size (by (try simp) <;> omega); obtain ⟨hd1, hg1⟩ := blk_at hb1 (w.heap.size + 1) (by (try simp) <;> omega)))
      | (go_at_call 10; go_must (refine (hva.out _ (by repeat (first | (with_reducible exact Below.refl _ _) | (with_reducible refine Below.drew ?_) | (with_reducible refine below_drewN ?_ _) | ((with_reducible refine Below.alloc ?_ ?_ _); rotate_left; focus ((try simp) <;> omega)) | ((with_reducible refine Below.setCell ?_ ?_ _); rotate_left; focus ((try simp) <;> omega)) | ((with_reducible refine Below.trans ?_ (Below.mono (by assumption) ?_)); rotate_left; focus ((try simp) <;> omega))))).mono ?_; rintro e w2 ⟨rfl, hb2⟩; have hz2 := hb2.size; (try simp at hz2); have hz2a : w.heap.size < w2.heap.size := (by omega); have hz2b : w.heap.size + 1 < w2.heap.size := (by omega); obtain ⟨hc2, hf2⟩ := blk_at hb2 w.heap.size (by (try simp) <;> omega); obtain ⟨hd2, hg2⟩ := blk_at hb2 (w.heap.size + 1) (by (try simp) <;> omega); obtain ⟨hk2, hl2⟩ := blk_at hb2 w1.heap.size (by (try simp) <;> omega)))
      | (go_at_call 27; go_must (refine (htm.out _).mono ?_; rintro e w3 ⟨rfl, rfl⟩))
      | (go_at_call 43; go_must (refine (hpo.out _).mono ?_; rintro e w4 ⟨rfl, hb4⟩; have hz4 := hb4.size; (try simp at hz4); have hz4a : w.heap.size < w4.heap.size := (by omega); have hz4b : w.heap.size + 1 < w4.heap.size := (by omega); have hz4c : w1.heap.size < w4.heap.size := (by omega); obtain ⟨hc4, hf4⟩ := blk_at hb4 w.heap.size (by (try simp) <;> omega); obtain ⟨hd4, hg4⟩ := blk_at hb4 (w.heap.size + 1) (by (try simp) <;> omega); obtain ⟨hk4, hl4⟩ := blk_at hb4 w1.heap.size (by (try simp) <;> omega)))
      | (go_at_call 44; go_must (refine (hno.out _ _ _ _ _).mono ?_; rintro e w5 ⟨rfl, hb5⟩; have hz5 := hb5.size; (try simp at hz5); have hz5a : w.heap.size < w5.heap.size := (by omega); have hz5b : w.heap.size + 1 < w5.heap.size := (by omega); have hz5c : w1.heap.size < w5.heap.size := (by omega); obtain ⟨hc5, hf5⟩ := blk_at hb5 w.heap.size (by (try simp) <;> omega); obtain ⟨hd5, hg5⟩ := blk_at hb5 (w.heap.size + 1) (by (try simp) <;> omega); obtain ⟨hk5, hl5⟩ := blk_at hb5 w1.heap.size (by (try simp) <;> omega))))
    refine bodyPost_ret (v := .tuple #[.agg (workE (atW { x with phase := ⟨3, by omega⟩, till := ⟨0, by omega⟩ } A1 C1 A2 C2)).toArray, .int .i64 0]) (by simp [results, Tryd.results16, go_sem, workE, atW, hd1, hd2, hz1b, hd4]) rfl ⟨A1, C1, A2, C2, by rw [hse.out, hsw.out], ⟨?_, ?_⟩, (by repeat (first | (with_reducible exact Below.refl _ _) | (with_reducible refine Below.drew ?_) | (with_reducible refine below_drewN ?_ _) | ((with_reducible refine Below.alloc ?_ ?_ _); rotate_left; focus ((try simp) <;> omega)) | ((with_reducible refine Below.setCell ?_ ?_ _); rotate_left; focus ((try simp) <;> omega)) | ((with_reducible refine Below.trans ?_ (Below.mono (by assumption) ?_)); rotate_left; focus ((try simp) <;> omega))))⟩
    · have hlt := ho1.1.lt
      (try simp at hlt)
      have ho : Own sE 1 _ w1 w.heap.size (.slice A1 x.labs.length C1) x.labs := ho1.1.base (b' := w.heap.size) (by (try simp) <;> omega)
      show Own sE 1 _ _ _ (.slice A1 (stepW x _ now).labs.length C1) (stepW x _ now).labs
      rw [hll.out.1]
      (repeat (first
        | (with_reducible exact ho)
        | (refine Own.setCell ?_ (fun g hg => by have := (hlt g hg).1; have := (hlt g hg).2; show g ≠ _; (try simp) <;> omega) _)
        | (with_reducible refine Own.alloc ?_ _)
        | (with_reducible refine Own.drew ?_)
        | (with_reducible refine Own.all ?_ (by assumption))))
    · have hlt := ho1.2.lt
      (try simp at hlt)
      have ho : Own iE 1 _ w1 w.heap.size (.slice A2 x.toks.length C2) x.toks := ho1.2.base (b' := w.heap.size) (by (try simp) <;> omega)
      show Own iE 1 _ _ _ (.slice A2 (stepW x _ now).toks.length C2) (stepW x _ now).toks
      rw [hll.out.2]
      (repeat (first
        | (with_reducible exact ho)
        | (refine Own.setCell ?_ (fun g hg => by have := (hlt g hg).1; have := (hlt g hg).2; show g ≠ _; (try simp) <;> omega) _)
        | (with_reducible refine Own.alloc ?_ _)
        | (with_reducible refine Own.drew ?_)
        | (with_reducible refine Own.all ?_ (by assumption))))
  · have hse := Lib.hid (stepE_1 (x := x) (ev := ev) (now := now.1) h0)
    have hsw := Lib.hid (stepW_no hse.out (by decide))
    have hva := Lib.hid hv
    have htm := Lib.hid htm0
    have hpo := Lib.hid hpo0
    have hno := Lib.hid True.intro
    clear hv htm0 hpo0
    have hne : (wErr x != 0) = true := by rw [bne_iff_ne]; exact h0
    generalize wErr x = E at *
    replace h0 := Lib.hid h0
    go_enter Tryd.func16, Tryd.ntmps16
    go_wp2_with (first
      | (go_at_call 34; go_must (refine (hcp.out _ (by repeat (first | (with_reducible exact Below.refl _ _) | (with_reducible refine Below.drew ?_) | (with_reducible refine below_drewN ?_ _) | ((with_reducible refine Below.alloc ?_ ?_ _); rotate_left; focus ((try simp) <;> omega)) | ((with_reducible refine Below.setCell ?_ ?_ _); rotate_left; focus ((try simp) <;> omega)) | ((with_reducible refine Below.trans ?_ (Below.mono (by assumption) ?_)); rotate_left; focus ((try simp) <;> omega))))).mono ?_; rintro e w1 ⟨A1, C1, A2, C2, rfl, ho1, hb1⟩; have hz1 := hb1.size; (try simp at hz1); have hz1a : w.heap.size < w1.heap.size := (by omega); have hz1b : w.heap.size + 1 < w1.heap.size := (by omega); obtain ⟨hc1, hf1⟩ := blk_at hb1 w.heap.size (by (try simp) <;> omega); obtain ⟨hd1, hg1⟩ := blk_at hb1 (w.heap.size + 1) (by (try simp) <;> omega)))
      | (go_at_call 10; go_must (refine (hva.out _ (by repeat (first | (with_reducible exact Below.refl _ _) | (with_reducible refine Below.drew ?_) | (with_reducible refine below_drewN ?_ _) | ((with_reducible refine Below.alloc ?_ ?_ _); rotate_left; focus ((try simp) <;> omega)) | ((with_reducible refine Below.setCell ?_ ?_ _); rotate_left; focus ((try simp) <;> omega)) | ((with_reducible refine Below.trans ?_ (Below.mono (by assumption) ?_)); rotate_left; focus ((try simp) <;> omega))))).mono ?_; rintro e w2 ⟨rfl, hb2⟩; have hz2 := hb2.size; (try simp at hz2); have hz2a : w.heap.size < w2.heap.size := (by omega); have hz2b : w.heap.size + 1 < w2.heap.size := (by omega); obtain ⟨hc2, hf2⟩ := blk_at hb2 w.heap.size (by (try simp) <;> omega); obtain ⟨hd2, hg2⟩ := blk_at hb2 (w.heap.size + 1) (by (try simp) <;> omega); obtain ⟨hk2, hl2⟩ := blk_at hb2 w1.heap.size (by (try simp) <;> omega)))
      | (go_at_call 27; go_must (refine (htm.out _).mono ?_; rintro e w3 ⟨rfl, rfl⟩))
      | (go_at_call 43; go_must (refine (hpo.out _).mono ?_; rintro e w4 ⟨rfl, hb4⟩; have hz4 := hb4.size; (try simp at hz4); have hz4a : w.heap.size < w4.heap.size := (by omega); have hz4b : w.heap.size + 1 < w4.heap.size := (by omega); have hz4c : w1.heap.size < w4.heap.size := (by omega); obtain ⟨hc4, hf4⟩ := blk_at hb4 w.heap.size (by (try simp) <;> omega); obtain ⟨hd4, hg4⟩ := blk_at hb4 (w.heap.size + 1) (by (try simp) <;> omega); obtain ⟨hk4, hl4⟩ := blk_at hb4 w1.heap.size (by (try simp) <;> omega)))
      | (go_at_call 44; go_must (refine (hno.out _ _ _ _ _).mono ?_; rintro e w5 ⟨rfl, hb5⟩; have hz5 := hb5.size; (try simp at hz5); have hz5a : w.heap.size < w5.heap.size := (by omega); have hz5b : w.heap.size + 1 < w5.heap.size := (by omega); have hz5c : w1.heap.size < w5.heap.size := (by omega); obtain ⟨hc5, hf5⟩ := blk_at hb5 w.heap.size (by (try simp) <;> omega); obtain ⟨hd5, hg5⟩ := blk_at hb5 (w.heap.size + 1) (by (try simp) <;> omega); obtain ⟨hk5, hl5⟩ := blk_at hb5 w1.heap.size (by (try simp) <;> omega))))
    refine bodyPost_ret (v := .tuple #[.agg (workE (atW x A1 C1 A2 C2)).toArray, .int .i64 1]) (by simp [results, Tryd.results16, go_sem, workE, atW, hd1, hd2, hz1b]) rfl ⟨A1, C1, A2, C2, by rw [hse.out, hsw.out], ⟨?_, ?_⟩, (by repeat (first | (with_reducible exact Below.refl _ _) | (with_reducible refine Below.drew ?_) | (with_reducible refine below_drewN ?_ _) | ((with_reducible refine Below.alloc ?_ ?_ _); rotate_left; focus ((try simp) <;> omega)) | ((with_reducible refine Below.setCell ?_ ?_ _); rotate_left; focus ((try simp) <;> omega)) | ((with_reducible refine Below.trans ?_ (Below.mono (by assumption) ?_)); rotate_left; focus ((try simp) <;> omega))))⟩
    · have hlt := ho1.1.lt
      (try simp at hlt)
      have ho : Own sE 1 _ w1 w.heap.size (.slice A1 x.labs.length C1) x.labs := ho1.1.base (b' := w.heap.size) (by (try simp) <;> omega)
      show Own sE 1 _ _ _ (.slice A1 (stepW x _ now).labs.length C1) (stepW x _ now).labs
      rw [hll.out.1]
      (repeat (first
        | (with_reducible exact ho)
        | (refine Own.setCell ?_ (fun g hg => by have := (hlt g hg).1; have := (hlt g hg).2; show g ≠ _; (try simp) <;> omega) _)
        | (with_reducible refine Own.alloc ?_ _)
        | (with_reducible refine Own.drew ?_)
        | (with_reducible refine Own.all ?_ (by assumption))))
    · have hlt := ho1.2.lt
      (try simp at hlt)
      have ho : Own iE 1 _ w1 w.heap.size (.slice A2 x.toks.length C2) x.toks := ho1.2.base (b' := w.heap.size) (by (try simp) <;> omega)
      show Own iE 1 _ _ _ (.slice A2 (stepW x _ now).toks.length C2) (stepW x _ now).toks
      rw [hll.out.2]
      (repeat (first
        | (with_reducible exact ho)
        | (refine Own.setCell ?_ (fun g hg => by have := (hlt g hg).1; have := (hlt g hg).2; show g ≠ _; (try simp) <;> omega) _)
        | (with_reducible refine Own.alloc ?_ _)
        | (with_reducible refine Own.drew ?_)
        | (with_reducible refine Own.all ?_ (by assumption))))
end Go.Proofs.YtnahbfmbmpoljaaDoor
